/- This file holds the texts NqE, NqF, a section each. No conditions beyond those in the theorems. -/
import Derived.Test.YtibfpjeeanppjaaGreatYNqD
import Derived.Test.YtibfpjeeanppjaaGreatYBxD
set_option linter.all false
set_option maxRecDepth 100000
section
namespace Go.Proofs.YtibfpjeeanppjaaGreat.Nq
open Go Go.Sy Sh La
open No (K4 eo jc cD meets qv)
noncomputable def rdC (u:Bool):bu:=mk (P:=Tryz.prog) [om,VZ,fh,Oc u] [] fun i=>if i=24||i=28 then some false else none
theorem AJ (u:Bool):ag Tryz.prog (rdC u):=ah _ au.nil _ _
def rdH (x:List Int):Bool:=aa (aa true (!decide ((x.length:Int)<48))) (!decide ((x.length:Int)>1072))
noncomputable def Bj (q:K4) (ch ha x D:List Int) (o:Bool):Bool:=
 aa (aa (aa (aa (aa (aa (Bx.roD x (rdH x)) (aa true (true&&decide ((32:Int)≤(x.length:Int))))) (aa true (decide (ha.length=32)&&bE ha&&bE (x.take 32)&&decide ((x.take 32).length<270000000000))))
  (aa true (Re.aj q.1&&Re.aj q.2.1&&!gQ q.1 q.2.1&&decide (ch.length=32)))) (aa true (Re.aj q.2.2.1&&Re.aj q.2.2.2&&!gQ q.2.2.1 q.2.2.2&&decide ((Cp.lI (Kd.bG ch (eu q.1 q.2.1))).length=32))))
  (aa true (aa true (true&&decide ((32:Int)≤(x.length:Int))))))
  (aa true (true&&decide ((S2.aq (ha++x.take 32)).length=32)&&decide ((eo q ch).length=32)&&bE (eo q ch)&&bE (S2.aq (ha++x.take 32))&&bE (x.drop 32)&&decide ((x.drop 32).length≤1048592)&&o))
theorem afz (s:List Int):bE (Cp.sk s)=true∧bE (Cp.lI s)=true:=by
 have h:∀x∈Kd.bp s [] 64,0≤x∧x<256:=by
  rw [Q2.C0]
  intro x hx
  rcases List.mem_append.1 hx with h|h
  ·exact Kd.zp _ _ x h
  ·exact Kd.zp _ _ x h
 exact ⟨Bx.kg fun x hx=>h x (List.mem_of_mem_drop hx),Bx.kg fun x hx=>h x (List.mem_of_mem_take hx)⟩
theorem Oe (q:K4) (ch:List Int):bE (eo q ch)=true:=(afz _).1
theorem Ht (q:K4) (ch:List Int):(eo q ch).length=32:=No.SO _ _ _
theorem iz {q:K4} {ch ha x:List Int} {o:Bool} (h1:ha.length=32) (ub:bE ha=true) (h3:ch.length=32) (h0:48≤x.length) (hx:x.length≤1072) (ux:bE x=true) (hm:cD q=true) (ho:o=true):Bj q ch ha x (x.take 32) o=true:=by
 unfold cD No.gW at hm
 simp only [Bool.and_eq_true,Bool.not_eq_true'] at hm
 obtain ⟨⟨⟨⟨⟨a,b⟩,c⟩,d⟩,e⟩,f⟩:=hm
 have hH:rdH x=true:=by
  unfold rdH
  rw [decide_eq_false (show ¬(x.length:Int)<48 by omega),decide_eq_false (show ¬(x.length:Int)>1072 by omega)];rfl
 have hD:Bx.roD x true=true:=Bx.vD (by omega) Bx.roI (by decide)
 have ut:bE (x.take 32)=true:=Bx.kg fun z hz=>by
  have:=List.all_eq_true.1 ux z (List.mem_of_mem_take hz)
  simpa using this
 have ud:bE (x.drop 32)=true:=Bx.kg fun z hz=>by
  have:=List.all_eq_true.1 ux z (List.mem_of_mem_drop hz)
  simpa using this
 have hl:(x.take 32).length=32:=by rw [List.length_take];omega
 unfold Bj
 rw [hH,hD,h1,ub,ut,hl,h3,a,b,c,d,e,f,(Cp.jA _).1,S2.bn,jM,Oe,Ht,ud,ho,decide_eq_true (show (32:Int)≤(x.length:Int) by omega),decide_eq_true (show (x.drop 32).length≤1048592 by rw [List.length_drop];omega)]
 rfl
section
variable (ch ha key os op pe mi th x:List Int) (n:Int) (has:Bool)
theorem ZE:(br Tryz.prog (rdC true) 60 Tryz.f26 [hv ch ha has key n false 0 os op pe mi (aH 32 th),.ro false .u8 x] []).map (fun x=>(x.1,x.2.2))=
  some (.aT [.ro true .u8 (Ae.cn (eo (meets false 0 os pe mi (aH 32 x)) ch) (Ae.aI 0) (x.drop 32)),hv (jc (meets false 0 os pe mi (aH 32 x)) ch) (qv ha (x.take 32) (x.drop 32)) true (eo (meets false 0 os pe mi (aH 32 x)) ch) 1 false 1 os op pe mi (aH 32 x),.int .i64 0],
   Bj (meets false 0 os pe mi (aH 32 x)) ch ha x (aH 32 x) (Ae.bJ (eo (meets false 0 os pe mi (aH 32 x)) ch) (Ae.aI 0) (S2.aq (ha++x.take 32)) (x.drop 32))):=by kernel_rfl
theorem ZF:(br Tryz.prog (rdC true) 60 Tryz.f26 [hv ch ha has key n true 1 os op pe mi (aH 32 th),.ro false .u8 x] []).map (fun x=>(x.1,x.2.2))=
  some (.aT [.ro true .u8 (Ae.cn (eo (meets false 1 os pe mi (aH 32 x)) ch) (Ae.aI 0) (x.drop 32)),hv (jc (meets false 1 os pe mi (aH 32 x)) ch) (qv ha (x.take 32) (x.drop 32)) true (eo (meets false 1 os pe mi (aH 32 x)) ch) 1 true 2 os op pe mi (aH 32 x),.int .i64 0],
   Bj (meets false 1 os pe mi (aH 32 x)) ch ha x (aH 32 x) (Ae.bJ (eo (meets false 1 os pe mi (aH 32 x)) ch) (Ae.aI 0) (S2.aq (ha++x.take 32)) (x.drop 32))):=by kernel_rfl
theorem ZG:(br Tryz.prog (rdC false) 60 Tryz.f26 [hv ch ha has key n false 0 os op pe mi (aH 32 th),.ro false .u8 x] []).map (fun x=>(x.1,x.2.2))=
  some (.aT [.nl (.slice none 0 0),hv ch ha has key n false 0 os op pe mi (aH 32 th),.int .i64 2],
   Bj (meets false 0 os pe mi (aH 32 x)) ch ha x (aH 32 x) (!Ae.bJ (eo (meets false 0 os pe mi (aH 32 x)) ch) (Ae.aI 0) (S2.aq (ha++x.take 32)) (x.drop 32))):=by kernel_rfl
theorem ZH:(br Tryz.prog (rdC false) 60 Tryz.f26 [hv ch ha has key n true 1 os op pe mi (aH 32 th),.ro false .u8 x] []).map (fun x=>(x.1,x.2.2))=
  some (.aT [.nl (.slice none 0 0),hv ch ha has key n true 1 os op pe mi (aH 32 th),.int .i64 2],
   Bj (meets false 1 os pe mi (aH 32 x)) ch ha x (aH 32 x) (!Ae.bJ (eo (meets false 1 os pe mi (aH 32 x)) ch) (Ae.aI 0) (S2.aq (ha++x.take 32)) (x.drop 32))):=by kernel_rfl
end
section
variable {ch ha key os op pe mi th x:List Int} {n ak:Int} {has bg:Bool} (hs:ak=0∧bg=false∨ak=1∧bg=true) (h1:ha.length=32) (ub:bE ha=true) (h3:ch.length=32) (h0:48≤x.length) (hx:x.length≤1072) (ux:bE x=true) (ht:th.length=32) (hm:cD (meets false ak os pe mi (x.take 32))=true)
include hs h1 ub h3 h0 hx ux ht hm
theorem Hu (ho:Ae.bJ (eo (meets false ak os pe mi (x.take 32)) ch) (Ae.aI 0) (S2.aq (ha++x.take 32)) (x.drop 32)=true):
  ai Tryz.prog 26 [hv ch ha has key n bg ak os op pe mi th,.ro false .u8 x] [] (.aT [.ro true .u8 (Ae.cn (eo (meets false ak os pe mi (x.take 32)) ch) (Ae.aI 0) (x.drop 32)),hv (jc (meets false ak os pe mi (x.take 32)) ch) (qv ha (x.take 32) (x.drop 32)) true (eo (meets false ak os pe mi (x.take 32)) ch) 1 bg (ak+1) os op pe mi (x.take 32),.int .i64 0]) []:=by
 have e:aH 32 x=x.take 32:=Bx.gk (by omega)
 have hO:=iz h1 ub h3 h0 hx ux hm ho
 rcases hs with ⟨rfl,rfl⟩|⟨rfl,rfl⟩
 ·have k:=ZE ch ha key os op pe mi th x n has
  rw [e,aG ht] at k
  exact aF (AJ true) 60 Tryz.func26 k hO rfl
 ·have k:=ZF ch ha key os op pe mi th x n has
  rw [e,aG ht] at k
  exact aF (AJ true) 60 Tryz.func26 k hO rfl
theorem Hv (ho:Ae.bJ (eo (meets false ak os pe mi (x.take 32)) ch) (Ae.aI 0) (S2.aq (ha++x.take 32)) (x.drop 32)=false):
  ai Tryz.prog 26 [hv ch ha has key n bg ak os op pe mi th,.ro false .u8 x] [] (.aT [.nl (.slice none 0 0),hv ch ha has key n bg ak os op pe mi th,.int .i64 2]) []:=by
 have e:aH 32 x=x.take 32:=Bx.gk (by omega)
 have hO:=iz (o:=!Ae.bJ (eo (meets false ak os pe mi (x.take 32)) ch) (Ae.aI 0) (S2.aq (ha++x.take 32)) (x.drop 32)) h1 ub h3 h0 hx ux hm (by rw [ho];rfl)
 rcases hs with ⟨rfl,rfl⟩|⟨rfl,rfl⟩
 ·have k:=ZG ch ha key os op pe mi th x n has
  rw [e,aG ht] at k
  exact aF (AJ false) 60 Tryz.func26 k hO rfl
 ·have k:=ZH ch ha key os op pe mi th x n has
  rw [e,aG ht] at k
  exact aF (AJ false) 60 Tryz.func26 k hO rfl
end
end Go.Proofs.YtibfpjeeanppjaaGreat.Nq
end
section
namespace Go.Proofs.YtibfpjeeanppjaaGreat.Nq
open Go Go.Sy Sh La
open No (K4 eo jc cD meets qv)
noncomputable def CR (u:Bool):List SV→Option (SV×List Blk×Bool)
 | [.agg [.ints .u8 32 ch,.ints .u8 32 ha,.bool has,.ints .u8 32 key,.int .i64 n,.bool bg,.int .i64 ak,.ints .u8 32 os,.ints .u8 32 op,.ints .u8 32 pe,.ints .u8 32 mi,.ints .u8 32 th],.ro false .u8 x]=>
  bif (ak==0&&!bg)||(ak==1&&bg) then
   match u with
   |true=>some (.aT [.ro true .u8 (Ae.cn (eo (meets false ak os pe mi (x.take 32)) ch) (Ae.aI 0) (x.drop 32)),hv (jc (meets false ak os pe mi (x.take 32)) ch) (qv ha (x.take 32) (x.drop 32)) true (eo (meets false ak os pe mi (x.take 32)) ch) 1 bg (ak+1) os op pe mi (x.take 32),.int .i64 0],[],
    decide (ha.length=32)&&bE ha&&decide (ch.length=32)&&decide (48≤x.length)&&decide (x.length≤1072)&&bE x&&decide (th.length=32)&&cD (meets false ak os pe mi (x.take 32))&&Ae.bJ (eo (meets false ak os pe mi (x.take 32)) ch) (Ae.aI 0) (S2.aq (ha++x.take 32)) (x.drop 32))
   |false=>some (.aT [.nl (.slice none 0 0),hv ch ha has key n bg ak os op pe mi th,.int .i64 2],[],
    decide (ha.length=32)&&bE ha&&decide (ch.length=32)&&decide (48≤x.length)&&decide (x.length≤1072)&&bE x&&decide (th.length=32)&&cD (meets false ak os pe mi (x.take 32))&&!Ae.bJ (eo (meets false ak os pe mi (x.take 32)) ch) (Ae.aI 0) (S2.aq (ha++x.take 32)) (x.drop 32))
  else none
 |_=>none
noncomputable def VL (u:Bool):Entry Tryz.prog:=.val 26 _ Tryz.func26 (by decide) rfl true 0 (CR u) fun vs v new e=>by
 unfold CR at e
 split at e
 ·rename_i ch ha has key n bg ak os op pe mi th x
  cases hs:((ak==0&&!bg)||(ak==1&&bg)) with
  |true=>
   rw [hs] at e
   cases u with
   |true=>
    simp only [cond_true,Option.some.injEq,Prod.mk.injEq,Bool.and_eq_true,decide_eq_true_eq] at e
    obtain ⟨rfl,rfl,⟨⟨⟨⟨⟨⟨⟨a,b⟩,c⟩,d⟩,f⟩,g⟩,i⟩,m⟩,o⟩:=e
    exact Hu (No.NG hs) a b c d f g i m o
   |false=>
    simp only [cond_true,Option.some.injEq,Prod.mk.injEq,Bool.and_eq_true,decide_eq_true_eq,Bool.not_eq_true'] at e
    obtain ⟨rfl,rfl,⟨⟨⟨⟨⟨⟨⟨a,b⟩,c⟩,d⟩,f⟩,g⟩,i⟩,m⟩,o⟩:=e
    exact Hv (No.NG hs) a b c d f g i m o
  |false=>rw [hs] at e;cases e
 ·cases e
end Go.Proofs.YtibfpjeeanppjaaGreat.Nq
end
