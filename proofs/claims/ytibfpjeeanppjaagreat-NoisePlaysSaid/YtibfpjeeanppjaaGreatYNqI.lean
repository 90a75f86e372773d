/- This file holds the texts NqG, NqH, NqI, a section each. No conditions beyond those in the theorems. -/
import Derived.Test.YtibfpjeeanppjaaGreatYNqF
import Derived.Test.YtibfpjeeanppjaaGreatYNoR
import Derived.Test.YtibfpjeeanppjaaGreatYBnF
set_option linter.all false
set_option maxRecDepth 100000
section
namespace Go.Sy
open Go
theorem V0 {P:Program} {Γ:bu} (hΓ:ag P Γ) (n:Nat) {f:FuncId} {fn:Func} (hf:P.funcs[f]? =some fn) {args:List SV} {h h2:List Blk} {u:SV} {p:Bool} (b m:Nat) (hb:h.length≤b) (hm:h.length≤m)
  (e:((br P Γ n fn args h).bind fun x=>(fzR b m x.1 x.2.1).map fun y=>(y.1,y.2.1,aa x.2.2 y.2.2))=some (u,h2,p)) (hp:p=true):ai P f args h u h2:=by
 obtain ⟨⟨v,h1,q⟩,he,e⟩:=Option.bind_eq_some_iff.1 e
 obtain ⟨⟨u',h2',p'⟩,hz,e⟩:=Option.map_eq_some_iff.1 e
 simp only [Prod.mk.injEq] at e
 obtain ⟨rfl,rfl,rfl⟩:=e
 rw [av] at hp
 obtain ⟨rfl,rfl⟩:=hp
 exact ai.fz b m hb hm (ai.dw hΓ hf he) hz rfl
end Go.Sy
namespace Go.Proofs.YtibfpjeeanppjaaGreat.Nq
open Go Go.Sy Sh La
open No (K4 eo jc cD meets qv m7 fA mW yd)
noncomputable def mzC:bu:=mk (P:=Tryz.prog) [zc true,fO] []
theorem ZI:ag Tryz.prog mzC:=ah _ au.nil _ _
noncomputable def Of:List SV→Option (SV×List Blk×Bool)
 | [.agg [.ints .u8 32 ch,.ints .u8 32 ha,.bool has,.ints .u8 32 key,.int .i64 n,.bool bg,.int .i64 ak,.ints .u8 32 os,.ints .u8 32 op,.ints .u8 32 pe,.ints .u8 32 mi,.ints .u8 32 th],.agg [.ints .u8 32 s],.agg [.ints .u8 32 p]]=>
  some (.aT [hv (bif gQ s p then ch else Cp.lI (Kd.bG ch (eu s p))) ha (bif gQ s p then has else true) (bif gQ s p then key else Cp.sk (Kd.bG ch (eu s p))) (bif gQ s p then n else 0) bg ak os op pe mi th,.int .i64 (bif gQ s p then 4 else 0)],[],Re.aj s&&Re.aj p&&decide (ch.length=32))
 |_=>none
noncomputable def ZJ:Entry Tryz.prog:=.val 56 _ Tryz.func56 (by decide) rfl false 0 Of fun vs v new e=>by
 unfold Of at e
 split at e
 ·rename_i ch ha has key n bg ak os op pe mi th s p
  simp only [Option.some.injEq,Prod.mk.injEq,Bool.and_eq_true,decide_eq_true_eq] at e
  obtain ⟨rfl,rfl,⟨h1,h2⟩,h4⟩:=e
  cases h3:gQ s p with
  |true=>exact aF ZI 60 Tryz.func56 (p:=aa true (aa true (Re.aj s&&Re.aj p&&gQ s p))) (by kernel_rfl) (by rw [h1,h2,h3];rfl) rfl
  |false=>exact aF Od 60 Tryz.func56 (p:=meO ch s p) (by kernel_rfl) (by
   unfold meO
   rw [h1,h2,h3,h4,ir,Bx.lN (Gk s p)];rfl) rfl
 ·cases e
noncomputable def wqC:bu:=mk (P:=Tryz.prog) [om,vM,VZ,fh,Ob] [] fun i=>if i=22 then some false else if i=94||i=96 then some true else none
theorem Og:ag Tryz.prog wqC:=ah _ au.nil _ _
noncomputable def ZK (ha bk x:List Int):Bool:=
 aa (aa (aa true (!decide ((x.length:Int)>1024))) (aa true (Re.aj bk))) (aa (aa true (aa (decide ((aJ bk 9).length=32)&&true) (decide ((aJ bk 9).length=32)))) (decide (ha.length=32)&&bE ha&&bE (aJ bk 9)&&decide ((aJ bk 9).length<270000000000)))
noncomputable def wqO (q:K4) (ch ha bk x:List Int):Bool:=
 aa (aa (aa (aa (aa (aa (ZK ha bk x) (aa true (Re.aj q.1&&Re.aj q.2.1&&!gQ q.1 q.2.1&&decide (ch.length=32)))) (aa true (Re.aj q.2.2.1&&Re.aj q.2.2.2&&!gQ q.2.2.1 q.2.2.2&&decide ((Cp.lI (Kd.bG ch (eu q.1 q.2.1))).length=32))))
  (aa true (true&&decide ((S2.aq (ha++aJ bk 9)).length=32)&&decide ((eo q ch).length=32)&&bE (eo q ch)&&bE (S2.aq (ha++aJ bk 9))&&decide (x.length≤1048576)))) (decide ((aJ bk 9).length=32)&&true))
  (aa (aa (aa (aa true (decide ((aJ bk 9).length=0+32)&&true)) (decide ((aJ bk 9).length=0+32))) (Nat.beq (0+1) 1)) (decide (0+32+(m7 q ch ha (aJ bk 9) x).length≤2^38))))
  (aa (decide ((aJ bk 9++m7 q ch ha (aJ bk 9) x).length=0+32+(m7 q ch ha (aJ bk 9) x).length)) (decide (0+32+(m7 q ch ha (aJ bk 9) x).length=0+32+(m7 q ch ha (aJ bk 9) x).length)&&true))
theorem C8 {ha bk x:List Int} (h1:ha.length=32) (ub:bE ha=true) (he:Re.aj bk=true) (hx:x.length≤1024):ZK ha bk x=true:=by
 unfold ZK
 rw [h1,ub,he,cM,Bx.lN (kN bk 9),decide_eq_false (show ¬(x.length:Int)>1024 by omega)];rfl
theorem Oh {q:K4} {ch ha bk x:List Int} (h1:ha.length=32) (ub:bE ha=true) (h3:ch.length=32) (he:Re.aj bk=true) (hx:x.length≤1024) (hm:cD q=true):wqO q ch ha bk x=true:=by
 unfold cD No.gW at hm
 simp only [Bool.and_eq_true,Bool.not_eq_true'] at hm
 obtain ⟨⟨⟨⟨⟨a,b⟩,c⟩,d⟩,e⟩,f⟩:=hm
 unfold wqO
 rw [C8 h1 ub he hx,List.length_append,No.vf,cM,a,b,c,d,e,f,h3,(Cp.jA _).1,S2.bn,jM,Oe,Ht,decide_eq_true (show x.length≤1048576 by omega),decide_eq_true (show 0+32+(x.length+16)≤2^38 by omega),decide_eq_true (show 32+(x.length+16)=0+32+(x.length+16) by omega)]
 rfl
section
variable (ch ha key os op pe mi th bk x:List Int) (n:Int) (has:Bool)
theorem wq0:((br Tryz.prog wqC 60 Tryz.f31 [hv ch ha has key n true 0 os op pe mi th,.agg [.ints .u8 32 bk],.ro false .u8 x] []).bind fun x=>(fzR 6 0 x.1 x.2.1).map fun y=>(y.1,y.2.1,aa x.2.2 y.2.2))=
  some (.aT [.ro true .u8 (aJ bk 9++m7 (meets true 0 os pe bk th) ch ha (aJ bk 9) x),hv (jc (meets true 0 os pe bk th) ch) (qv ha (aJ bk 9) (m7 (meets true 0 os pe bk th) ch ha (aJ bk 9) x)) true (eo (meets true 0 os pe bk th) ch) 1 true 1 os op pe bk th,.int .i64 0],[],wqO (meets true 0 os pe bk th) ch ha bk x):=by kernel_rfl
theorem wq1:((br Tryz.prog wqC 60 Tryz.f31 [hv ch ha has key n false 1 os op pe mi th,.agg [.ints .u8 32 bk],.ro false .u8 x] []).bind fun x=>(fzR 6 0 x.1 x.2.1).map fun y=>(y.1,y.2.1,aa x.2.2 y.2.2))=
  some (.aT [.ro true .u8 (aJ bk 9++m7 (meets true 1 os pe bk th) ch ha (aJ bk 9) x),hv (jc (meets true 1 os pe bk th) ch) (qv ha (aJ bk 9) (m7 (meets true 1 os pe bk th) ch ha (aJ bk 9) x)) true (eo (meets true 1 os pe bk th) ch) 1 false 2 os op pe bk th,.int .i64 0],[],wqO (meets true 1 os pe bk th) ch ha bk x):=by kernel_rfl
end
theorem Oi {ch ha key os op pe mi th bk x:List Int} {n ak:Int} {has bg:Bool} (hs:ak=0∧bg=true∨ak=1∧bg=false) (h1:ha.length=32) (ub:bE ha=true) (h3:ch.length=32) (he:Re.aj bk=true) (hx:x.length≤1024) (hm:cD (meets true ak os pe bk th)=true):
  ai Tryz.prog 31 [hv ch ha has key n bg ak os op pe mi th,.agg [.ints .u8 32 bk],.ro false .u8 x] [] (.aT [.ro true .u8 (aJ bk 9++m7 (meets true ak os pe bk th) ch ha (aJ bk 9) x),hv (jc (meets true ak os pe bk th) ch) (qv ha (aJ bk 9) (m7 (meets true ak os pe bk th) ch ha (aJ bk 9) x)) true (eo (meets true ak os pe bk th) ch) 1 bg (ak+1) os op pe bk th,.int .i64 0]) []:=by
 have ho:=Oh h1 ub h3 he hx hm
 rcases hs with ⟨rfl,rfl⟩|⟨rfl,rfl⟩
 ·exact V0 Og 60 Tryz.func31 6 0 (by simp) (by simp) (wq0 ch ha key os op pe mi th bk x n has) ho
 ·exact V0 Og 60 Tryz.func31 6 0 (by simp) (by simp) (wq1 ch ha key os op pe mi th bk x n has) ho
end Go.Proofs.YtibfpjeeanppjaaGreat.Nq
end
section
namespace Go.Proofs.YtibfpjeeanppjaaGreat.Nq
open Go Go.Sy Sh La
open No (K4 eo jc cD meets qv m7 fA mW yd yP lK mX fj oo vh vi cN cr)
noncomputable def zqC (f:Nat→Option Bool):bu:=mk (P:=Tryz.prog) [om,vM,ZJ,fh] [] f
theorem gJ (f:Nat→Option Bool):ag Tryz.prog (zqC f):=ah _ au.nil _ _
noncomputable def mY (k:Int) (h:SV):SV:=.aT [.nl (.slice none 0 0),h,.int .i64 k]
def wA:Nat→Option Bool:=fun i=>if i=18 then some true else none
def wB:Nat→Option Bool:=fun i=>if i=18 then some false else if i=22 then some true else none
def wN (u:Bool):Nat→Option Bool:=fun i=>if i=22 then some false else if i=73 then some u else if i=76 then some true else none
def rA:Nat→Option Bool:=fun i=>if i=16 then some true else if i=19 then some true else none
def rB:Nat→Option Bool:=fun i=>if i=16 then some false else if i=19 then some true else none
def rC':Nat→Option Bool:=fun i=>if i=16 then some false else if i=19 then some false else if i=24||i=28 then some true else none
def rD':Nat→Option Bool:=fun i=>if i=16 then some false else if i=19 then some false else if i=24 then some false else if i=28 then some true else none
def rN (u:Bool):Nat→Option Bool:=fun i=>if i=24||i=28 then some false else if i=92 then some u else if i=95 then some true else none
noncomputable def FE (u:Bool) (q:K4) (p:Bool):Bool:=match u with
 |true=>aa p ((bif gQ q.1 q.2.1 then (4:Int) else 0) != 0)
 |false=>aa (aa p (!((bif gQ q.1 q.2.1 then (4:Int) else 0) != 0))) ((bif gQ q.2.2.1 q.2.2.2 then (4:Int) else 0) != 0)
noncomputable def Oj (q:K4) (ch:List Int) (p:Bool):Bool:=
 aa (aa p (aa true (Re.aj q.1&&Re.aj q.2.1&&decide (ch.length=32)))) (aa true (Re.aj q.2.2.1&&Re.aj q.2.2.2&&decide ((bif gQ q.1 q.2.1 then ch else Cp.lI (Kd.bG ch (eu q.1 q.2.1))).length=32)))
theorem C9 {q:K4} {p:Bool} (hz:mW q=true) (hp:p=true):∃u,FE u q p=true:=by
 unfold mW at hz
 subst hp
 cases e:gQ q.1 q.2.1 with
 |true=>exact ⟨true,by unfold FE;rw [e];rfl⟩
 |false=>rw [e,Bool.false_or] at hz;exact ⟨false,by unfold FE;rw [e,hz];rfl⟩
theorem Da {q:K4} {ch:List Int} {p:Bool} (hk:fA q=true) (h3:ch.length=32) (hp:p=true):Oj q ch p=true:=by
 unfold fA at hk
 simp only [Bool.and_eq_true] at hk
 obtain ⟨⟨⟨a,b⟩,c⟩,d⟩:=hk
 have e:(bif gQ q.1 q.2.1 then ch else Cp.lI (Kd.bG ch (eu q.1 q.2.1))).length=32:=by
  cases gQ q.1 q.2.1 with
  |true=>exact h3
  |false=>exact (Cp.jA _).1
 unfold Oj
 rw [hp,a,b,c,d,e,h3];rfl
section
variable {ch ha key os op pe mi th bk x:List Int} {n ak:Int} {has bg:Bool}
theorem Tl (hs:cN ak=true) (ht:cr bg ak=false):ai Tryz.prog 31 [hv ch ha has key n bg ak os op pe mi th,.agg [.ints .u8 32 bk],.ro false .u8 x] [] (mY 10 (hv ch ha has key n bg ak os op pe mi th)) []:=
 aF (gJ wA) 60 Tryz.func31 (p:=aa (aa true (aa true (cN ak))) (!cr bg ak)) (by kernel_rfl) (by rw [hs,ht];rfl) rfl
theorem ZL (hs:cN ak=true) (ht:cr bg ak=true) (hl:(x.length:Int)>1024):ai Tryz.prog 31 [hv ch ha has key n bg ak os op pe mi th,.agg [.ints .u8 32 bk],.ro false .u8 x] [] (mY 1 (hv ch ha has key n bg ak os op pe mi th)) []:=
 aF (gJ wB) 60 Tryz.func31 (p:=aa (aa (aa true (aa true (cN ak))) (!!cr bg ak)) (decide ((x.length:Int)>1024))) (by kernel_rfl) (by rw [hs,ht,decide_eq_true hl];rfl) rfl
theorem ZM (h:FE true (meets true 0 os pe bk th) (Oj (meets true 0 os pe bk th) ch (ZK ha bk x))=true):ai Tryz.prog 31 [hv ch ha has key n true 0 os op pe mi th,.agg [.ints .u8 32 bk],.ro false .u8 x] [] (mY 4 (hv ch ha has key n true 0 os op pe mi th)) []:=aF (gJ (wN true)) 60 Tryz.func31 (by kernel_rfl) h rfl
theorem ZN (h:FE false (meets true 0 os pe bk th) (Oj (meets true 0 os pe bk th) ch (ZK ha bk x))=true):ai Tryz.prog 31 [hv ch ha has key n true 0 os op pe mi th,.agg [.ints .u8 32 bk],.ro false .u8 x] [] (mY 4 (hv ch ha has key n true 0 os op pe mi th)) []:=aF (gJ (wN false)) 60 Tryz.func31 (by kernel_rfl) h rfl
theorem ZO (h:FE true (meets true 1 os pe bk th) (Oj (meets true 1 os pe bk th) ch (ZK ha bk x))=true):ai Tryz.prog 31 [hv ch ha has key n false 1 os op pe mi th,.agg [.ints .u8 32 bk],.ro false .u8 x] [] (mY 4 (hv ch ha has key n false 1 os op pe mi th)) []:=aF (gJ (wN true)) 60 Tryz.func31 (by kernel_rfl) h rfl
theorem ZP (h:FE false (meets true 1 os pe bk th) (Oj (meets true 1 os pe bk th) ch (ZK ha bk x))=true):ai Tryz.prog 31 [hv ch ha has key n false 1 os op pe mi th,.agg [.ints .u8 32 bk],.ro false .u8 x] [] (mY 4 (hv ch ha has key n false 1 os op pe mi th)) []:=aF (gJ (wN false)) 60 Tryz.func31 (by kernel_rfl) h rfl
theorem Tn (h2:(ak==2)=true):ai Tryz.prog 26 [hv ch ha has key n bg ak os op pe mi th,.ro false .u8 x] [] (mY 10 (hv ch ha has key n bg ak os op pe mi th)) []:=
 aF (gJ rA) 60 Tryz.func26 (p:=aa true (ak==2)) (by kernel_rfl) (by rw [h2];rfl) rfl
theorem To (hs:cN ak=true) (h2:(ak==2)=false) (ht:cr bg ak=true):ai Tryz.prog 26 [hv ch ha has key n bg ak os op pe mi th,.ro false .u8 x] [] (mY 10 (hv ch ha has key n bg ak os op pe mi th)) []:=
 aF (gJ rB) 60 Tryz.func26 (p:=aa (aa (aa true (!(ak==2))) (aa true (cN ak))) (cr bg ak)) (by kernel_rfl) (by rw [hs,ht,h2];rfl) rfl
theorem Ok (hs:cN ak=true) (h2:(ak==2)=false) (ht:cr bg ak=false) (hl:(x.length:Int)<48):ai Tryz.prog 26 [hv ch ha has key n bg ak os op pe mi th,.ro false .u8 x] [] (mY 1 (hv ch ha has key n bg ak os op pe mi th)) []:=
 aF (gJ rC') 60 Tryz.func26 (p:=aa (aa (aa (aa true (!(ak==2))) (aa true (cN ak))) (!cr bg ak)) (decide ((x.length:Int)<48))) (by kernel_rfl) (by rw [hs,ht,h2,decide_eq_true hl];rfl) rfl
theorem Tp (hs:cN ak=true) (h2:(ak==2)=false) (ht:cr bg ak=false) (h0:¬(x.length:Int)<48) (hl:(x.length:Int)>1072):ai Tryz.prog 26 [hv ch ha has key n bg ak os op pe mi th,.ro false .u8 x] [] (mY 1 (hv ch ha has key n bg ak os op pe mi th)) []:=
 aF (gJ rD') 60 Tryz.func26 (p:=aa (aa (aa (aa (aa true (!(ak==2))) (aa true (cN ak))) (!cr bg ak)) (!decide ((x.length:Int)<48))) (decide ((x.length:Int)>1072))) (by kernel_rfl) (by rw [hs,ht,h2,decide_eq_false h0,decide_eq_true hl];rfl) rfl
noncomputable def ZQ (ha x:List Int):Bool:=aa (aa (Bx.roD x (rdH x)) (aa true (true&&decide ((32:Int)≤(x.length:Int))))) (aa true (decide (ha.length=32)&&bE ha&&bE (x.take 32)&&decide ((x.take 32).length<270000000000)))
theorem ZR (h:FE true (meets false 0 os pe mi (aH 32 x)) (Oj (meets false 0 os pe mi (aH 32 x)) ch (ZQ ha x))=true):ai Tryz.prog 26 [hv ch ha has key n false 0 os op pe mi (aH 32 th),.ro false .u8 x] [] (mY 4 (hv ch ha has key n false 0 os op pe mi (aH 32 th))) []:=aF (gJ (rN true)) 60 Tryz.func26 (by kernel_rfl) h rfl
theorem ZS (h:FE false (meets false 0 os pe mi (aH 32 x)) (Oj (meets false 0 os pe mi (aH 32 x)) ch (ZQ ha x))=true):ai Tryz.prog 26 [hv ch ha has key n false 0 os op pe mi (aH 32 th),.ro false .u8 x] [] (mY 4 (hv ch ha has key n false 0 os op pe mi (aH 32 th))) []:=aF (gJ (rN false)) 60 Tryz.func26 (by kernel_rfl) h rfl
theorem ZT (h:FE true (meets false 1 os pe mi (aH 32 x)) (Oj (meets false 1 os pe mi (aH 32 x)) ch (ZQ ha x))=true):ai Tryz.prog 26 [hv ch ha has key n true 1 os op pe mi (aH 32 th),.ro false .u8 x] [] (mY 4 (hv ch ha has key n true 1 os op pe mi (aH 32 th))) []:=aF (gJ (rN true)) 60 Tryz.func26 (by kernel_rfl) h rfl
theorem ZU (h:FE false (meets false 1 os pe mi (aH 32 x)) (Oj (meets false 1 os pe mi (aH 32 x)) ch (ZQ ha x))=true):ai Tryz.prog 26 [hv ch ha has key n true 1 os op pe mi (aH 32 th),.ro false .u8 x] [] (mY 4 (hv ch ha has key n true 1 os op pe mi (aH 32 th))) []:=aF (gJ (rN false)) 60 Tryz.func26 (by kernel_rfl) h rfl
theorem Ol (h1:ha.length=32) (ub:bE ha=true) (h0:48≤x.length) (hx:x.length≤1072) (ux:bE x=true):ZQ ha x=true:=by
 have hH:rdH x=true:=by
  unfold rdH
  rw [decide_eq_false (show ¬(x.length:Int)<48 by omega),decide_eq_false (show ¬(x.length:Int)>1072 by omega)];rfl
 have hD:Bx.roD x true=true:=Bx.vD (by omega) Bx.roI (by decide)
 have kt:=No.jL h0 ux
 unfold ZQ
 rw [hH,hD,h1,ub,Bx.lN kt,(Re.bI.1 kt).1,decide_eq_true (show (32:Int)≤(x.length:Int) by omega)];rfl
theorem ZV (hs:cN ak=true) (h1:ha.length=32) (ub:bE ha=true) (h3:ch.length=32) (he:Re.aj bk=true) (hq:fA (meets true ak os pe bk th)=true) (hk:yd bg ak x.length (meets true ak os pe bk th)≠0):
  ai Tryz.prog 31 [hv ch ha has key n bg ak os op pe mi th,.agg [.ints .u8 32 bk],.ro false .u8 x] [] (mY (yd bg ak x.length (meets true ak os pe bk th)) (hv ch ha has key n bg ak os op pe mi th)) []:=by
 unfold yd at hk ⊢
 cases ht:cr bg ak with
 |false=>exact Tl hs ht
 |true=>
  rw [ht] at hk
  by_cases hl:1024<x.length
  ·rw [decide_eq_true hl];exact ZL hs ht (by omega)
  ·rw [decide_eq_false hl] at hk ⊢
   cases hz:mW (meets true ak os pe bk th) with
   |false=>rw [hz] at hk;exact absurd rfl hk
   |true=>
    obtain ⟨u,hu⟩:=C9 hz (Da hq h3 (C8 h1 ub he (x:=x) (by omega)))
    rcases vh ht with ⟨rfl,rfl⟩|⟨rfl,rfl⟩<;>cases u
    ·exact ZN hu
    ·exact ZM hu
    ·exact ZP hu
    ·exact ZO hu
theorem ZW (hs:cN ak=true) (h1:ha.length=32) (ub:bE ha=true) (h3:ch.length=32) (ht2:th.length=32) (ko:Re.aj os=true) (kp:Re.aj pe=true) (km:Re.aj mi=true) (ux:bE x=true)
  (hk:yP bg ak x.length (lK ak os pe mi x) (mX ak os pe mi ch ha x)≠0):
  ai Tryz.prog 26 [hv ch ha has key n bg ak os op pe mi th,.ro false .u8 x] [] (mY (yP bg ak x.length (lK ak os pe mi x) (mX ak os pe mi ch ha x)) (hv ch ha has key n bg ak os op pe mi th)) []:=by
 unfold yP at hk ⊢
 cases h2:ak==2 with
 |true=>rw [Bool.or_true];exact Tn h2
 |false=>
  rw [h2] at hk
  cases ht:cr bg ak with
  |true=>exact To hs h2 ht
  |false=>
   rw [ht] at hk
   by_cases l0:x.length<48
   ·rw [decide_eq_true l0];exact Ok hs h2 ht (by omega)
   ·by_cases l1:1072<x.length
    ·rw [decide_eq_false l0,decide_eq_true l1];exact Tp hs h2 ht (by omega) (by omega)
    ·rw [decide_eq_false l0,decide_eq_false l1] at hk ⊢
     have kt:=No.jL (x:=x) (by omega) ux
     have hq:fA (lK ak os pe mi x)=true:=fj ko kp km kt
     have hr:=vi hs ht h2
     have e:aH 32 x=x.take 32:=Bx.gk (by omega)
     cases hz:mW (lK ak os pe mi x) with
     |true=>
      obtain ⟨u,hu⟩:=C9 hz (Da hq h3 (Ol (x:=x) h1 ub (by omega) (by omega) ux))
      have mT:FE u (meets false ak os pe mi (aH 32 x)) (Oj (meets false ak os pe mi (aH 32 x)) ch (ZQ ha x))=true:=by rw [e];exact hu
      rw [←aG ht2]
      rcases hr with ⟨rfl,rfl⟩|⟨rfl,rfl⟩<;>cases u
      ·exact ZS mT
      ·exact ZR mT
      ·exact ZU mT
      ·exact ZT mT
     |false=>
      rw [hz] at hk
      cases ho:mX ak os pe mi ch ha x with
      |true=>rw [ho] at hk;exact absurd rfl hk
      |false=>exact Hv hr h1 ub h3 (by omega) (by omega) ux ht2 (oo hq hz) ho
end
noncomputable def rV:List SV→Option (SV×List Blk×Bool)
 | [.agg [.ints .u8 32 ch,.ints .u8 32 ha,.bool has,.ints .u8 32 key,.int .i64 n,.bool bg,.int .i64 ak,.ints .u8 32 os,.ints .u8 32 op,.ints .u8 32 pe,.ints .u8 32 mi,.ints .u8 32 th],.agg [.ints .u8 32 bk],.ro false .u8 x]=>some (mY (yd bg ak x.length (meets true ak os pe bk th)) (hv ch ha has key n bg ak os op pe mi th),[],cN ak&&decide (ha.length=32)&&bE ha&&decide (ch.length=32)&&Re.aj bk&&fA (meets true ak os pe bk th)&&(yd bg ak x.length (meets true ak os pe bk th) != 0))
 |_=>none
noncomputable def AB:Entry Tryz.prog:=.val 31 _ Tryz.func31 (by decide) rfl true 0 rV fun vs v new e=>by
 unfold rV at e
 split at e
 ·simp only [Option.some.injEq,Prod.mk.injEq,Bool.and_eq_true,decide_eq_true_eq,bne_iff_ne,beq_iff_eq] at e
  obtain ⟨rfl,rfl,⟨⟨⟨⟨⟨a,b⟩,c⟩,d⟩,f⟩,g⟩,k⟩:=e
  exact ZV a b c d f g k
 ·cases e
noncomputable def rW:List SV→Option (SV×List Blk×Bool)
 | [.agg [.ints .u8 32 ch,.ints .u8 32 ha,.bool has,.ints .u8 32 key,.int .i64 n,.bool bg,.int .i64 ak,.ints .u8 32 os,.ints .u8 32 op,.ints .u8 32 pe,.ints .u8 32 mi,.ints .u8 32 th],.agg [.ints .u8 32 bk],.ro false .u8 x]=>some (.aT [.ro true .u8 (aJ bk 9++m7 (meets true ak os pe bk th) ch ha (aJ bk 9) x),hv (jc (meets true ak os pe bk th) ch) (qv ha (aJ bk 9) (m7 (meets true ak os pe bk th) ch ha (aJ bk 9) x)) true (eo (meets true ak os pe bk th) ch) 1 bg (ak+1) os op pe bk th,.int .i64 0],[],cN ak&&decide (ha.length=32)&&bE ha&&decide (ch.length=32)&&Re.aj bk&&fA (meets true ak os pe bk th)&&(yd bg ak x.length (meets true ak os pe bk th)==0))
 |_=>none
noncomputable def AD:Entry Tryz.prog:=.val 31 _ Tryz.func31 (by decide) rfl true 0 rW fun vs v new e=>by
 unfold rW at e
 split at e
 ·simp only [Option.some.injEq,Prod.mk.injEq,Bool.and_eq_true,decide_eq_true_eq,bne_iff_ne,beq_iff_eq] at e
  obtain ⟨rfl,rfl,⟨⟨⟨⟨⟨a,b⟩,c⟩,d⟩,f⟩,g⟩,k⟩:=e
  obtain ⟨h1,h2,h3⟩:=No.NW g k
  exact Oi h1 b c d f h2 h3
 ·cases e
noncomputable def xw:List SV→Option (SV×List Blk×Bool)
 | [.agg [.ints .u8 32 ch,.ints .u8 32 ha,.bool has,.ints .u8 32 key,.int .i64 n,.bool bg,.int .i64 ak,.ints .u8 32 os,.ints .u8 32 op,.ints .u8 32 pe,.ints .u8 32 mi,.ints .u8 32 th],.ro false .u8 x]=>some (mY (yP bg ak x.length (lK ak os pe mi x) (mX ak os pe mi ch ha x)) (hv ch ha has key n bg ak os op pe mi th),[],cN ak&&decide (ha.length=32)&&bE ha&&decide (ch.length=32)&&decide (th.length=32)&&Re.aj os&&Re.aj pe&&Re.aj mi&&bE x&&(yP bg ak x.length (lK ak os pe mi x) (mX ak os pe mi ch ha x) != 0))
 |_=>none
noncomputable def E4:Entry Tryz.prog:=.val 26 _ Tryz.func26 (by decide) rfl true 0 xw fun vs v new e=>by
 unfold xw at e
 split at e
 ·simp only [Option.some.injEq,Prod.mk.injEq,Bool.and_eq_true,decide_eq_true_eq,bne_iff_ne,beq_iff_eq] at e
  obtain ⟨rfl,rfl,⟨⟨⟨⟨⟨⟨⟨⟨a,b⟩,c⟩,d⟩,f⟩,g⟩,i⟩,j⟩,l⟩,k⟩:=e
  exact ZW a b c d f g i j l k
 ·cases e
noncomputable def xx:List SV→Option (SV×List Blk×Bool)
 | [.agg [.ints .u8 32 ch,.ints .u8 32 ha,.bool has,.ints .u8 32 key,.int .i64 n,.bool bg,.int .i64 ak,.ints .u8 32 os,.ints .u8 32 op,.ints .u8 32 pe,.ints .u8 32 mi,.ints .u8 32 th],.ro false .u8 x]=>some (.aT [.ro true .u8 (Ae.cn (eo (lK ak os pe mi x) ch) (Ae.aI 0) (x.drop 32)),hv (jc (lK ak os pe mi x) ch) (qv ha (x.take 32) (x.drop 32)) true (eo (lK ak os pe mi x) ch) 1 bg (ak+1) os op pe mi (x.take 32),.int .i64 0],[],cN ak&&decide (ha.length=32)&&bE ha&&decide (ch.length=32)&&decide (th.length=32)&&Re.aj os&&Re.aj pe&&Re.aj mi&&bE x&&(yP bg ak x.length (lK ak os pe mi x) (mX ak os pe mi ch ha x)==0))
 |_=>none
noncomputable def E5:Entry Tryz.prog:=.val 26 _ Tryz.func26 (by decide) rfl true 0 xx fun vs v new e=>by
 unfold xx at e
 split at e
 ·simp only [Option.some.injEq,Prod.mk.injEq,Bool.and_eq_true,decide_eq_true_eq,bne_iff_ne,beq_iff_eq] at e
  obtain ⟨rfl,rfl,⟨⟨⟨⟨⟨⟨⟨⟨a,b⟩,c⟩,d⟩,f⟩,g⟩,i⟩,j⟩,l⟩,k⟩:=e
  obtain ⟨h1,h2,h3,h4,h5⟩:=No.N0 a b d g i j l k
  exact Hu h1 b c d h2 h3 l f h4 h5
 ·cases e
end Go.Proofs.YtibfpjeeanppjaaGreat.Nq
end
section
namespace Go.Proofs.YtibfpjeeanppjaaGreat.Nq
open Go Go.Sy Sh La
open No (cN)
noncomputable def kqC (b c:Bool):bu:=mk (P:=Tryz.prog) [Iq] [] fun i=>if i=9 then some b else if i=20 then some c else none
theorem Fb (b c:Bool):ag Tryz.prog (kqC b c):=ah _ au.nil _ _
noncomputable def JU (bg:Bool) (ch:List Int):List Int:=bif bg then Cp.lI ch else Cp.sk ch
noncomputable def JV (bg:Bool) (ch:List Int):List Int:=bif bg then Cp.sk ch else Cp.lI ch
section
variable {ch ha key os op pe mi th:List Int} {n ak:Int} {has bg:Bool}
theorem afB (h:ak<2):ai Tryz.prog 35 [hv ch ha has key n bg ak os op pe mi th] [] (.aT [.agg [.ints .u8 32 Cp.iB],.agg [.ints .u8 32 Cp.iB],.bool false]) []:=
 aF (Fb true true) 60 Tryz.func35 (p:=aa true (decide (ak<2))) (by kernel_rfl) (by rw [decide_eq_true h];rfl) rfl
theorem aj1 (h:¬ak<2) (hc:ch.length=32):ai Tryz.prog 35 [hv ch ha has key n true ak os op pe mi th] [] (.aT [.agg [.ints .u8 32 (JU true ch)],.agg [.ints .u8 32 (JV true ch)],.bool true]) []:=
 aF (Fb false true) 60 Tryz.func35 (p:=aa (aa true (!decide (ak<2))) (aa true (decide (ch.length=32)))) (by kernel_rfl) (by rw [decide_eq_false h,hc];rfl) rfl
theorem aj2 (h:¬ak<2) (hc:ch.length=32):ai Tryz.prog 35 [hv ch ha has key n false ak os op pe mi th] [] (.aT [.agg [.ints .u8 32 (JU false ch)],.agg [.ints .u8 32 (JV false ch)],.bool true]) []:=
 aF (Fb false false) 60 Tryz.func35 (p:=aa (aa true (!decide (ak<2))) (aa true (decide (ch.length=32)))) (by kernel_rfl) (by rw [decide_eq_false h,hc];rfl) rfl
end
noncomputable def CS (d:Bool):List SV→Option (SV×List Blk×Bool)
 | [.agg [.ints .u8 32 ch,.ints .u8 32 _,.bool _,.ints .u8 32 _,.int .i64 _,.bool bg,.int .i64 ak,.ints .u8 32 _,.ints .u8 32 _,.ints .u8 32 _,.ints .u8 32 _,.ints .u8 32 _]]=>match d with
  |true=>some (.aT [.agg [.ints .u8 32 (JU bg ch)],.agg [.ints .u8 32 (JV bg ch)],.bool true],[],(ak==2)&&decide (ch.length=32))
  |false=>some (.aT [.agg [.ints .u8 32 Cp.iB],.agg [.ints .u8 32 Cp.iB],.bool false],[],cN ak&&!(ak==2))
 |_=>none
noncomputable def NH (d:Bool):Entry Tryz.prog:=.val 35 _ Tryz.func35 (by decide) rfl false 0 (CS d) fun vs v new e=>by
 unfold CS at e
 split at e
 ·split at e
  ·rename_i bg ak _ _ _ _ _ _
   simp only [Option.some.injEq,Prod.mk.injEq,Bool.and_eq_true,decide_eq_true_eq,beq_iff_eq] at e
   obtain ⟨rfl,rfl,rfl,h⟩:=e
   cases bg with
   |true=>exact aj1 (by decide) h
   |false=>exact aj2 (by decide) h
  ·simp only [Option.some.injEq,Prod.mk.injEq,Bool.and_eq_true,Bool.not_eq_true'] at e
   obtain ⟨rfl,rfl,h,h2⟩:=e
   exact afB (by rcases No.mG h with rfl|rfl|rfl<;>first|decide|cases h2)
 ·cases e
noncomputable def Om (d:Bool):List SV→List Blk→Option (SV×Bool)
 | [.ptr 0 0 0],[.b [.ints .u8 32 _,.bool _,.int .i64 _,.ints .u8 32 ch,.ints .u8 32 _,.bool bg,.int .i64 ak,.ints .u8 32 _,.ints .u8 32 _,.ints .u8 32 _,.ints .u8 32 _,.ints .u8 32 _,.ints .u8 32 _]]=>match d with
  |true=>some (.aT [.agg [.ints .u8 32 (JU bg ch)],.agg [.ints .u8 32 (JV bg ch)],.nl .nilIface],(ak==2)&&decide (ch.length=32))
  |false=>some (.aT [.agg [.ints .u8 32 Cp.iB],.agg [.ints .u8 32 Cp.iB],.iface 78 (.int .i64 10)],cN ak&&!(ak==2)&&decide (ch.length=32))
 |_,_=>none
noncomputable def Zr (d:Bool):Entry Tryz.prog:=.Qo 34 _ Tryz.func34 (by decide) rfl No.CN (Om d) fun vs h0 v e=>by
 unfold Om at e
 split at e
 ·split at e
  ·rename_i bg ak _ _ _ _ _ _ _
   simp only [Option.some.injEq,Prod.mk.injEq,Bool.and_eq_true,decide_eq_true_eq,beq_iff_eq] at e
   obtain ⟨rfl,rfl,h⟩:=e
   cases bg<;>exact No.vg (.inr (.inr rfl)) h
  ·simp only [Option.some.injEq,Prod.mk.injEq,Bool.and_eq_true,Bool.not_eq_true',decide_eq_true_eq] at e
   obtain ⟨rfl,⟨h,h2⟩,h3⟩:=e
   rcases No.mG h with rfl|rfl|rfl
   ·exact No.vg (.inl rfl) h3
   ·exact No.vg (.inr (.inl rfl)) h3
   ·cases h2
 ·cases e
noncomputable def V1:List SV→Option (SV×List Blk×Bool)
 | [.nl .nilIface]=>some (.int .i64 0,[],true)
 | [.iface 78 (.int .i64 k)]=>some (.int .i64 k,[],decide (1≤k)&&decide (k≤12))
 |_=>none
noncomputable def afw:Entry Tryz.prog:=.val 15 _ Tryz.func15 (by decide) rfl false 0 V1 fun vs v new e=>by
 unfold V1 at e
 split at e
 ·cases e;exact aF Bn.y9 60 Tryz.func15 (p:=true) (by kernel_rfl) rfl rfl
 ·rename_i k
  simp only [Option.some.injEq,Prod.mk.injEq,Bool.and_eq_true,decide_eq_true_eq] at e
  obtain ⟨rfl,rfl,h1,h2⟩:=e
  have hk:k=1∨k=2∨k=3∨k=4∨k=5∨k=6∨k=7∨k=8∨k=9∨k=10∨k=11∨k=12:=by omega
  rcases hk with rfl|rfl|rfl|rfl|rfl|rfl|rfl|rfl|rfl|rfl|rfl|rfl<;>
   exact aF Bn.y9 60 Tryz.func15 (p:=true) (by kernel_rfl) rfl rfl
 ·cases e
end Go.Proofs.YtibfpjeeanppjaaGreat.Nq
end
