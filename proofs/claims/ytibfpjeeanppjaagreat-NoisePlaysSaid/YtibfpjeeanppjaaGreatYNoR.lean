/- This file holds the texts NoM, NoP, NoQ, NoR, a section each. No conditions beyond those in the theorems. -/
import Derived.Test.YtibfpjeeanppjaaGreatYNoE
set_option linter.all false
set_option maxRecDepth 100000
section
namespace Go.Proofs.YtibfpjeeanppjaaGreat.No
open Go Go.Sy Sh La
noncomputable def sxC:bu:=mk (P:=Tryz.prog) [S2.nj,Ae.FG false,Ae.vw] Cp.QW fun i=>if i=25 then some false else none
theorem Ze:ag Tryz.prog sxC:=ah _ Cp.zi _ _
noncomputable def sxO (key ha x:List Int):Bool:=aa true (aa true (aa true (aa (aa true (aa true (aa (decide (ha.length=32)&&true) (decide (ha.length=32))))) (true&&decide (ha.length≤1048592)&&decide (x.length≤1048592)&&!Ae.bJ key (Ae.aI 0) ha x))))
noncomputable def Zf:SV:=.aT [.nl (.slice none 0 0),.iface 78 (.int .i64 2)]
theorem NQ {key ch ha os op pe ms mp th x:List Int} {ak:Int} {bg:Bool} (h1:ha.length=32) (ht:x.length≤1048592) (no:Ae.bJ key (Ae.aI 0) ha x=false):
  ai Tryz.prog 59 [.ptr 0 0 0,.ro false .u8 x] [hb key true 0 ch ha bg ak os op pe ms mp th] Zf [hb key true 0 ch ha bg ak os op pe ms mp th]:=
 aQ Ze 60 Tryz.func59 1 (by simp) (p:=sxO key ha x) (by kernel_rfl) (by unfold sxO;rw [h1,no,decide_eq_true ht];rfl) rfl rfl
noncomputable def NR:List SV→List Blk→Option (SV×List Blk×Bool)
 | [.ptr 0 0 0,.ro false .u8 x],[.b [.ints .u8 32 key,.bool true,.int .i64 n,.ints .u8 32 ch,.ints .u8 32 ha,.bool bg,.int .i64 ak,.ints .u8 32 os,.ints .u8 32 op,.ints .u8 32 pe,.ints .u8 32 ms,.ints .u8 32 mp,.ints .u8 32 th]]=>some (Zf,[hb key true 0 ch ha bg ak os op pe ms mp th],decide (n=0)&&decide (ha.length=32)&&decide (x.length≤1048592)&&!Ae.bJ key (Ae.aI 0) ha x)
 |_,_=>none
noncomputable def Zg:Entry Tryz.prog:=.mut 59 _ Tryz.func59 (by decide) rfl Cp.iC 0 NR fun vs h0 v h1 e=>by
 unfold NR at e
 split at e
 ·simp only [Option.some.injEq,Prod.mk.injEq,Bool.and_eq_true,decide_eq_true_eq,Bool.not_eq_true'] at e
  obtain ⟨rfl,rfl,⟨⟨rfl,h1⟩,h2⟩,h3⟩:=e
  exact NQ h1 h2 h3
 ·cases e
noncomputable def rxC:bu:=mk (P:=Tryz.prog) [om,Bm,Zg] [] fun i=>if i=29||i=25 then some false else none
theorem DR:ag Tryz.prog rxC:=ah _ au.nil _ _
noncomputable def rxO (q:K4) (ch ha x D:List Int):Bool:=
 aa (aa (aa (aa (aa (aa (aa (aa true (!decide ((x.length:Int)<48))) (!decide ((x.length:Int)>1072))) (aa true (true&&decide ((32:Int)≤(x.length:Int))))) (decide (31+1≤(x.take 32).length))) (true&&decide (0+32≤(x.take 32).length)))
  (aa true (decide (ha.length=32)&&decide (D.length=32)&&decide (ch.length=32)&&gW q.1 q.2.1 q.2.2.1 q.2.2.2))) (aa true (aa true (true&&decide ((32:Int)≤(x.length:Int))))))
  (aa true (true&&decide ((S2.aq (ha++D)).length=32)&&decide ((x.drop 32).length≤1048592)&&!Ae.bJ (eo q ch) (Ae.aI 0) (S2.aq (ha++D)) (x.drop 32)))
theorem NS {q:K4} {ch ha x D:List Int} (h1:ha.length=32) (h3:ch.length=32) (h0:48≤x.length) (hx:x.length≤1072) (hD:D.length=32) (h:cD q=true) (ho:Ae.bJ (eo q ch) (Ae.aI 0) (S2.aq (ha++D)) (x.drop 32)=false):rxO q ch ha x D=true:=by
 have hm:gW q.1 q.2.1 q.2.2.1 q.2.2.2=true:=h
 have ht:(x.take 32).length=32:=by rw [List.length_take];omega
 unfold rxO
 rw [h1,h3,hm,ho,hD,ht,S2.bn,decide_eq_false (show ¬(x.length:Int)<48 by omega),decide_eq_false (show ¬(x.length:Int)>1072 by omega),decide_eq_true (show (32:Int)≤x.length by omega),decide_eq_true (show (x.drop 32).length≤1048592 by rw [List.length_drop];omega)]
 rfl
section
variable {key ch ha os op pe ms mp th x:List Int} {n:Int} {has:Bool}
theorem NT {bg:Bool} {ak:Int} (hs:ak=0∧bg=false∨ak=1∧bg=true) (h1:ha.length=32) (h3:ch.length=32) (h0:48≤x.length) (hx:x.length≤1072) (h:cD (meets false ak os pe ms (x.take 32))=true)
  (ho:Ae.bJ (eo (meets false ak os pe ms (x.take 32)) ch) (Ae.aI 0) (S2.aq (ha++x.take 32)) (x.drop 32)=false):
  ai Tryz.prog 28 [.ptr 0 0 0,.ro false .u8 x] [hb key has n ch ha bg ak os op pe ms mp th] Zf [hb key has n ch ha bg ak os op pe ms mp th]:=by
 have e:Bx.tG x=x.take 32:=Bx.vB x
 have hr:rxO (meets false ak os pe ms (Bx.tG x)) ch ha x (Bx.tG x)=true:=by
  rw [e]
  exact NS h1 h3 h0 hx (by rw [List.length_take];omega) h ho
 rcases hs with ⟨rfl,rfl⟩|⟨rfl,rfl⟩
 ·exact aQ DR 60 Tryz.func28 1 (by simp) (by kernel_rfl) hr rfl rfl
 ·exact aQ DR 60 Tryz.func28 1 (by simp) (by kernel_rfl) hr rfl rfl
end
end Go.Proofs.YtibfpjeeanppjaaGreat.No
end
section
namespace Go.Sy
open Go
variable {P:Program}
noncomputable def Entry.byJ (J:Nat) (e1 e2:Entry P) (hf:e2.f=e1.f) (hp1:e1.pf=0) (hp2:e2.pf=0):Entry P where
 f:=e1.f
 g:=fun vs h j=>match Nat.ble j J with
  |true=>e1.g vs h j
  |false=>e2.g vs h j
 pf:=0
 nb:=e1.nb
 ok:=by
  intro vs h j v h' new g
  split at g
  ·exact e1.ok vs h j v h' new g
  ·have:=e2.ok vs h j v h' new g
   rwa [hf] at this
 pu:=by
  refine ⟨fun _ vs h j v h' new p g=>?_,fun h=>by cases h⟩
  revert g
  cases hb:Nat.ble j J with
  |true=>exact e1.pu.1 hp1 vs h j v h' new p
  |false=>exact e2.pu.1 hp2 vs h j v h' new p
end Go.Sy
namespace Go.Proofs.YtibfpjeeanppjaaGreat.No
open Go Go.Sy Sh La
noncomputable def m1C:bu:=mk (P:=Tryz.prog) [vA true,fh,fO] SN fun _=>none
theorem Ax:ag Tryz.prog m1C:=ah _ Av _ _
noncomputable def m2C (J:Nat):bu:=mk (P:=Tryz.prog) [Entry.byJ J (vA false) (vA true) rfl rfl rfl,fh,fO] SN fun _=>none
theorem Ay (J:Nat):ag Tryz.prog (m2C J):=ah _ Av _ _
noncomputable def Qa (ha bN s1 p1:List Int):Bool:=aa (aa true (aa true (decide (ha.length=32)&&decide (bN.length=32)))) (aa true (Re.aj s1&&Re.aj p1&&gQ s1 p1))
noncomputable def Qb (ch ha bN s1 p1 s2 p2:List Int):Bool:=
 aa (aa (aa (aa (aa true (aa true (decide (ha.length=32)&&decide (bN.length=32)))) (aa true (Re.aj s1&&Re.aj p1&&!gQ s1 p1)))
  (aa (aa true (aa (decide ((eu s1 p1).length=32)&&true) (decide ((eu s1 p1).length=32)))) (decide (ch.length=32)&&decide ((eu s1 p1).length<274877890000))))
  (true&&cL (IntKind.i64.wrap (0+1)) 2)) (aa true (Re.aj s2&&Re.aj p2&&gQ s2 p2))
noncomputable def jK (u:Bool) (q:K4):Bool:=match u with
 |false=>Re.aj q.1&&Re.aj q.2.1&&gQ q.1 q.2.1
 |true=>Re.aj q.1&&Re.aj q.2.1&&!gQ q.1 q.2.1&&Re.aj q.2.2.1&&Re.aj q.2.2.2&&gQ q.2.2.1 q.2.2.2
noncomputable def PV (u:Bool) (q:K4) (key:List Int) (has:Bool) (n:Int) (ch ha bN:List Int) (bg:Bool) (ak:Int) (os op pe ms mp th:List Int):Blk:=match u with
 |false=>hb key has n ch (S2.aq (ha++bN)) bg ak os op pe ms mp th
 |true=>hb (Cp.sk (Kd.bG ch (eu q.1 q.2.1))) true 0 (Cp.lI (Kd.bG ch (eu q.1 q.2.1))) (S2.aq (ha++bN)) bg ak os op pe ms mp th
theorem rR {ha bN:List Int} {q:K4} (h1:ha.length=32) (h2:bN.length=32) (h:jK false q=true):Qa ha bN q.1 q.2.1=true:=by
 unfold jK at h
 simp only [Bool.and_eq_true] at h
 unfold Qa
 rw [h1,h2,h.1.1,h.1.2,h.2];rfl
theorem rT {ch ha bN:List Int} {q:K4} (h1:ha.length=32) (h2:bN.length=32) (h3:ch.length=32) (h:jK true q=true):Qb ch ha bN q.1 q.2.1 q.2.2.1 q.2.2.2=true:=by
 unfold jK at h
 simp only [Bool.and_eq_true,Bool.not_eq_true'] at h
 obtain ⟨⟨⟨⟨⟨a,b⟩,c⟩,d⟩,e⟩,f⟩:=h
 unfold Qb
 rw [h1,h2,h3,a,b,c,d,e,f,ir];rfl
section
variable {key ch ha os op pe ms mp th bN:List Int} {n:Int} {has bg:Bool}
theorem Zh (h:Qa ha bN ms pe=true):ai Tryz.prog 51 [.ptr 0 0 0,.agg [.ints .u8 32 bN],.bool true] [hb key has n ch ha bg 0 os op pe ms mp th] ec [hb key has n ch (S2.aq (ha++bN)) bg 0 os op pe ms mp th]:=
 aQ Ax 60 Tryz.func51 1 (by simp) (p:=Qa ha bN ms pe) (by kernel_rfl) h rfl rfl
theorem Zi (h:Qb ch ha bN ms pe os pe=true):ai Tryz.prog 51 [.ptr 0 0 0,.agg [.ints .u8 32 bN],.bool true] [hb key has n ch ha bg 0 os op pe ms mp th] ec [hb (Cp.sk (Kd.bG ch (eu ms pe))) true 0 (Cp.lI (Kd.bG ch (eu ms pe))) (S2.aq (ha++bN)) bg 0 os op pe ms mp th]:=
 aQ (Ay 7) 60 Tryz.func51 1 (by simp) (p:=Qb ch ha bN ms pe os pe) (by kernel_rfl) h rfl rfl
theorem afo {u:Bool} (h1:ha.length=32) (h2:bN.length=32) (h3:ch.length=32) (h:jK u (meets true 0 os pe ms th)=true):ai Tryz.prog 51 [.ptr 0 0 0,.agg [.ints .u8 32 bN],.bool true] [hb key has n ch ha bg 0 os op pe ms mp th] ec [PV u (meets true 0 os pe ms th) key has n ch ha bN bg 0 os op pe ms mp th]:=by
 have e:meets true 0 os pe ms th=(ms,pe,os,pe):=rfl
 rw [e] at h ⊢
 cases u with
 |false=>exact Zh (rR (q:=(ms,pe,os,pe)) h1 h2 h)
 |true=>exact Zi (rT (q:=(ms,pe,os,pe)) h1 h2 h3 h)
theorem Zj (h:Qa ha bN os th=true):ai Tryz.prog 51 [.ptr 0 0 0,.agg [.ints .u8 32 bN],.bool false] [hb key has n ch ha bg 0 os op pe ms mp th] ec [hb key has n ch (S2.aq (ha++bN)) bg 0 os op pe ms mp th]:=
 aQ Ax 60 Tryz.func51 1 (by simp) (p:=Qa ha bN os th) (by kernel_rfl) h rfl rfl
theorem Zk (h:Qb ch ha bN os th os pe=true):ai Tryz.prog 51 [.ptr 0 0 0,.agg [.ints .u8 32 bN],.bool false] [hb key has n ch ha bg 0 os op pe ms mp th] ec [hb (Cp.sk (Kd.bG ch (eu os th))) true 0 (Cp.lI (Kd.bG ch (eu os th))) (S2.aq (ha++bN)) bg 0 os op pe ms mp th]:=
 aQ (Ay 7) 60 Tryz.func51 1 (by simp) (p:=Qb ch ha bN os th os pe) (by kernel_rfl) h rfl rfl
theorem afp {u:Bool} (h1:ha.length=32) (h2:bN.length=32) (h3:ch.length=32) (h:jK u (meets false 0 os pe ms th)=true):ai Tryz.prog 51 [.ptr 0 0 0,.agg [.ints .u8 32 bN],.bool false] [hb key has n ch ha bg 0 os op pe ms mp th] ec [PV u (meets false 0 os pe ms th) key has n ch ha bN bg 0 os op pe ms mp th]:=by
 have e:meets false 0 os pe ms th=(os,th,os,pe):=rfl
 rw [e] at h ⊢
 cases u with
 |false=>exact Zj (rR (q:=(os,th,os,pe)) h1 h2 h)
 |true=>exact Zk (rT (q:=(os,th,os,pe)) h1 h2 h3 h)
theorem Zl (h:Qa ha bN ms th=true):ai Tryz.prog 51 [.ptr 0 0 0,.agg [.ints .u8 32 bN],.bool true] [hb key has n ch ha bg 1 os op pe ms mp th] ec [hb key has n ch (S2.aq (ha++bN)) bg 1 os op pe ms mp th]:=
 aQ Ax 60 Tryz.func51 1 (by simp) (p:=Qa ha bN ms th) (by kernel_rfl) h rfl rfl
theorem Zm (h:Qb ch ha bN ms th ms pe=true):ai Tryz.prog 51 [.ptr 0 0 0,.agg [.ints .u8 32 bN],.bool true] [hb key has n ch ha bg 1 os op pe ms mp th] ec [hb (Cp.sk (Kd.bG ch (eu ms th))) true 0 (Cp.lI (Kd.bG ch (eu ms th))) (S2.aq (ha++bN)) bg 1 os op pe ms mp th]:=
 aQ (Ay 7) 60 Tryz.func51 1 (by simp) (p:=Qb ch ha bN ms th ms pe) (by kernel_rfl) h rfl rfl
theorem afq {u:Bool} (h1:ha.length=32) (h2:bN.length=32) (h3:ch.length=32) (h:jK u (meets true 1 os pe ms th)=true):ai Tryz.prog 51 [.ptr 0 0 0,.agg [.ints .u8 32 bN],.bool true] [hb key has n ch ha bg 1 os op pe ms mp th] ec [PV u (meets true 1 os pe ms th) key has n ch ha bN bg 1 os op pe ms mp th]:=by
 have e:meets true 1 os pe ms th=(ms,th,ms,pe):=rfl
 rw [e] at h ⊢
 cases u with
 |false=>exact Zl (rR (q:=(ms,th,ms,pe)) h1 h2 h)
 |true=>exact Zm (rT (q:=(ms,th,ms,pe)) h1 h2 h3 h)
theorem Zn (h:Qa ha bN ms th=true):ai Tryz.prog 51 [.ptr 0 0 0,.agg [.ints .u8 32 bN],.bool false] [hb key has n ch ha bg 1 os op pe ms mp th] ec [hb key has n ch (S2.aq (ha++bN)) bg 1 os op pe ms mp th]:=
 aQ Ax 60 Tryz.func51 1 (by simp) (p:=Qa ha bN ms th) (by kernel_rfl) h rfl rfl
theorem Zo (h:Qb ch ha bN ms th os th=true):ai Tryz.prog 51 [.ptr 0 0 0,.agg [.ints .u8 32 bN],.bool false] [hb key has n ch ha bg 1 os op pe ms mp th] ec [hb (Cp.sk (Kd.bG ch (eu ms th))) true 0 (Cp.lI (Kd.bG ch (eu ms th))) (S2.aq (ha++bN)) bg 1 os op pe ms mp th]:=
 aQ (Ay 7) 60 Tryz.func51 1 (by simp) (p:=Qb ch ha bN ms th os th) (by kernel_rfl) h rfl rfl
theorem afr {u:Bool} (h1:ha.length=32) (h2:bN.length=32) (h3:ch.length=32) (h:jK u (meets false 1 os pe ms th)=true):ai Tryz.prog 51 [.ptr 0 0 0,.agg [.ints .u8 32 bN],.bool false] [hb key has n ch ha bg 1 os op pe ms mp th] ec [PV u (meets false 1 os pe ms th) key has n ch ha bN bg 1 os op pe ms mp th]:=by
 have e:meets false 1 os pe ms th=(ms,th,os,th):=rfl
 rw [e] at h ⊢
 cases u with
 |false=>exact Zn (rR (q:=(ms,th,os,th)) h1 h2 h)
 |true=>exact Zo (rT (q:=(ms,th,os,th)) h1 h2 h3 h)
end
noncomputable def VU (u:Bool):List SV→List Blk→Option (SV×List Blk×Bool)
 | [.ptr 0 0 0,.agg [.ints .u8 32 bN],.bool w],[.b [.ints .u8 32 key,.bool has,.int .i64 n,.ints .u8 32 ch,.ints .u8 32 ha,.bool bg,.int .i64 ak,.ints .u8 32 os,.ints .u8 32 op,.ints .u8 32 pe,.ints .u8 32 ms,.ints .u8 32 mp,.ints .u8 32 th]]=>some (ec,[PV u (meets w ak os pe ms th) key has n ch ha bN bg ak os op pe ms mp th],(ak==0||ak==1)&&decide (ha.length=32)&&decide (bN.length=32)&&decide (ch.length=32)&&jK u (meets w ak os pe ms th))
 |_,_=>none
noncomputable def VV (u:Bool):Entry Tryz.prog:=.mut 51 _ Tryz.func51 (by decide) rfl Cp.iC 0 (VU u) fun vs h0 v h1 e=>by
 unfold VU at e
 split at e
 ·rename_i bN w key has n ch ha bg ak os op pe ms mp th
  simp only [Option.some.injEq,Prod.mk.injEq,Bool.and_eq_true,Bool.or_eq_true,beq_iff_eq,decide_eq_true_eq] at e
  obtain ⟨rfl,rfl,⟨⟨⟨s,a⟩,b⟩,c⟩,d⟩:=e
  rcases s with rfl|rfl<;>cases w
  ·exact afp a b c d
  ·exact afo a b c d
  ·exact afr a b c d
  ·exact afq a b c d
 ·cases e
end Go.Proofs.YtibfpjeeanppjaaGreat.No
end
section
namespace Go.Proofs.YtibfpjeeanppjaaGreat.No
open Go Go.Sy Sh La
noncomputable def rU (k:Int):SV:=.aT [.nl (.slice none 0 0),.iface 78 (.int .i64 k)]
def fA (q:K4):Bool:=Re.aj q.1&&Re.aj q.2.1&&Re.aj q.2.2.1&&Re.aj q.2.2.2
noncomputable def mW (q:K4):Bool:=gQ q.1 q.2.1||gQ q.2.2.1 q.2.2.2
theorem fj {w:Bool} {ak:Int} {os pe ms th:List Int} (h1:Re.aj os=true) (h2:Re.aj pe=true) (h3:Re.aj ms=true) (h4:Re.aj th=true):fA (meets w ak os pe ms th)=true:=by
 unfold fA meets
 cases ak==0<;>cases w<;>simp only [cond_true,cond_false,h1,h2,h3,h4,Bool.and_self]
theorem oo {q:K4} (h:fA q=true) (hz:mW q=false):cD q=true:=by
 unfold fA at h
 unfold mW at hz
 simp only [Bool.and_eq_true,Bool.or_eq_false_iff] at h hz
 obtain ⟨⟨⟨a,b⟩,c⟩,d⟩:=h
 unfold cD gW
 rw [a,b,c,d,hz.1,hz.2];rfl
theorem CT {q:K4} (h:fA q=true) (hz:mW q=true):∃u,jK u q=true:=by
 unfold fA at h
 unfold mW at hz
 simp only [Bool.and_eq_true,Bool.or_eq_true] at h hz
 obtain ⟨⟨⟨a,b⟩,c⟩,d⟩:=h
 cases e:gQ q.1 q.2.1 with
 |true=>exact ⟨false,by unfold jK;rw [a,b,e];rfl⟩
 |false=>exact ⟨true,by unfold jK;rw [a,b,c,d,e,hz.resolve_left (by rw [e];exact Bool.false_ne_true)];rfl⟩
noncomputable def wzC (f:Nat→Option Bool) (u:Bool):bu:=mk (P:=Tryz.prog) [om,za,VV u] Im f
theorem Az (f:Nat→Option Bool) (u:Bool):ag Tryz.prog (wzC f u):=ah _ Hl _ _
noncomputable def rzC (f:Nat→Option Bool) (u:Bool):bu:=mk (P:=Tryz.prog) [om,VV u] [] f
theorem tf (f:Nat→Option Bool) (u:Bool):ag Tryz.prog (rzC f u):=ah _ au.nil _ _
def f1:Nat→Option Bool:=fun i=>if i=15 then some true else none
def f2:Nat→Option Bool:=fun i=>if i=15 then some false else if i=17||i=20 then some true else none
def f3:Nat→Option Bool:=fun i=>if i=15 then some false else if i=17||i=20 then some false else none
def g1:Nat→Option Bool:=fun i=>if i=17 then some true else none
def g2:Nat→Option Bool:=fun i=>if i=17 then some false else if i=10||i=22 then some true else none
def g3:Nat→Option Bool:=fun i=>if i=17||i=22 then some false else if i=29 then some true else none
def g4:Nat→Option Bool:=fun i=>if i=17||i=22||i=29 then some false else if i=25||i=32 then some true else none
def g5:Nat→Option Bool:=fun i=>if i=17||i=22||i=29||i=25||i=32 then some false else none
theorem vh {bg:Bool} {ak:Int} (h:cr bg ak=true):ak=0∧bg=true∨ak=1∧bg=false:=by
 unfold cr at h
 cases h0:ak==0 with
 |true=>rw [h0] at h;exact .inl ⟨eq_of_beq h0,h⟩
 |false=>
  rw [h0] at h
  cases h1:ak==1 with
  |true=>rw [h1] at h;exact .inr ⟨eq_of_beq h1,by simpa using h⟩
  |false=>rw [h1] at h;cases h
theorem vi {bg:Bool} {ak:Int} (hs:cN ak=true) (h:cr bg ak=false) (h2:(ak==2)=false):ak=0∧bg=false∨ak=1∧bg=true:=by
 rcases mG hs with rfl|rfl|rfl
 ·exact .inl ⟨rfl,h⟩
 ·exact .inr ⟨rfl,by simpa [cr] using h⟩
 ·cases h2
theorem s01 {b:Bool} {ak:Int} {p q:Bool} (h:ak=0∧b=p∨ak=1∧b=q):(ak==0||ak==1)=true:=by rcases h with ⟨rfl,_⟩|⟨rfl,_⟩<;>rfl
section
variable {key ch ha os op pe ms mp th bk gf x:List Int} {n ak:Int} {has bg:Bool} (hs:cN ak=true)
include hs
theorem S6 (ht:cr bg ak=false):ai Tryz.prog 24 [.ptr 0 0 0,.agg [.ints .u8 32 bk],.ro false .u8 gf] [hb key has n ch ha bg ak os op pe ms mp th] (rU 10) [hb key has n ch ha bg ak os op pe ms mp th]:=
 aQ (Az f1 true) 60 Tryz.func24 1 (by simp) (p:=aa (aa true (aa true (cN ak))) (!cr bg ak)) (by kernel_rfl) (by rw [hs,ht];rfl) rfl rfl
theorem Zp (ht:cr bg ak=true) (hl:(gf.length:Int)>1024):ai Tryz.prog 24 [.ptr 0 0 0,.agg [.ints .u8 32 bk],.ro false .u8 gf] [hb key has n ch ha bg ak os op pe ms mp th] (rU 1) [hb key has n ch ha bg ak os op pe ms mp th]:=
 aQ (Az f2 true) 60 Tryz.func24 1 (by simp) (p:=aa (aa (aa true (aa true (cN ak))) (!!cr bg ak)) (decide ((gf.length:Int)>1024))) (by kernel_rfl) (by rw [hs,ht,decide_eq_true hl];rfl) rfl rfl
noncomputable def wzO (u:Bool) (bg:Bool) (ak:Int) (os pe th ch ha bk gf:List Int):Bool:=
 aa (aa (aa (aa (aa true (aa true (cN ak))) (!!cr bg ak)) (!decide ((gf.length:Int)>1024))) (aa true (aa true (Re.aj bk))))
  (aa true ((ak==0||ak==1)&&decide (ha.length=32)&&decide ((aJ bk 9).length=32)&&decide (ch.length=32)&&jK u (meets true ak os pe bk th)))
theorem NU (h:wzO true bg ak os pe th ch ha bk gf=true):ai Tryz.prog 24 [.ptr 0 0 0,.agg [.ints .u8 32 bk],.ro false .u8 gf] [hb key has n ch ha bg ak os op pe ms mp th] (rU 4) [hb key has n ch ha bg ak os op pe ms mp th]:=
 aQ (Az f3 true) 60 Tryz.func24 1 (by simp) (p:=wzO true bg ak os pe th ch ha bk gf) (by kernel_rfl) h rfl rfl
theorem NV (h:wzO false bg ak os pe th ch ha bk gf=true):ai Tryz.prog 24 [.ptr 0 0 0,.agg [.ints .u8 32 bk],.ro false .u8 gf] [hb key has n ch ha bg ak os op pe ms mp th] (rU 4) [hb key has n ch ha bg ak os op pe ms mp th]:=
 aQ (Az f3 false) 60 Tryz.func24 1 (by simp) (p:=wzO false bg ak os pe th ch ha bk gf) (by kernel_rfl) h rfl rfl
noncomputable def yd (bg:Bool) (ak:Int) (m:Nat) (q:K4):Int:=bif cr bg ak then (bif decide (1024<m) then 1 else bif mW q then 4 else 0) else 10
theorem afs (h1:ha.length=32) (h3:ch.length=32) (he:Re.aj bk=true) (hq:fA (meets true ak os pe bk th)=true) (hk:yd bg ak gf.length (meets true ak os pe bk th)≠0):
  ai Tryz.prog 24 [.ptr 0 0 0,.agg [.ints .u8 32 bk],.ro false .u8 gf] [hb key has n ch ha bg ak os op pe ms mp th] (rU (yd bg ak gf.length (meets true ak os pe bk th))) [hb key has n ch ha bg ak os op pe ms mp th]:=by
 unfold yd at hk ⊢
 cases ht:cr bg ak with
 |false=>exact S6 hs ht
 |true=>
  rw [ht] at hk
  by_cases hl:1024<gf.length
  ·rw [decide_eq_true hl];exact Zp hs ht (by omega)
  ·rw [decide_eq_false hl] at hk ⊢
   cases hz:mW (meets true ak os pe bk th) with
   |false=>rw [hz] at hk;exact absurd rfl hk
   |true=>
    obtain ⟨u,hu⟩:=CT hq hz
    have ho:wzO u bg ak os pe th ch ha bk gf=true:=by
     unfold wzO
     rw [hs,ht,he,h1,h3,cM,hu,s01 (vh ht),decide_eq_false (show ¬(gf.length:Int)>1024 by omega)];rfl
    cases u with
    |true=>exact NU hs ho
    |false=>exact NV hs ho
end
noncomputable def rV:List SV→List Blk→Option (SV×List Blk×Bool)
 | [.ptr 0 0 0,.agg [.ints .u8 32 bk],.ro false .u8 gf],[.b [.ints .u8 32 key,.bool has,.int .i64 n,.ints .u8 32 ch,.ints .u8 32 ha,.bool bg,.int .i64 ak,.ints .u8 32 os,.ints .u8 32 op,.ints .u8 32 pe,.ints .u8 32 ms,.ints .u8 32 mp,.ints .u8 32 th]]=>
  some (rU (yd bg ak gf.length (meets true ak os pe bk th)),[hb key has n ch ha bg ak os op pe ms mp th],cN ak&&decide (ha.length=32)&&decide (ch.length=32)&&Re.aj bk&&fA (meets true ak os pe bk th)&&(yd bg ak gf.length (meets true ak os pe bk th) != 0))
 |_,_=>none
noncomputable def AB:Entry Tryz.prog:=.mut 24 _ Tryz.func24 (by decide) rfl Cp.iC 0 rV fun vs h0 v h1 e=>by
 unfold rV at e
 split at e
 ·simp only [Option.some.injEq,Prod.mk.injEq,Bool.and_eq_true,decide_eq_true_eq,bne_iff_ne] at e
  obtain ⟨rfl,rfl,⟨⟨⟨⟨a,b⟩,c⟩,d⟩,f⟩,g⟩:=e
  exact afs a b c d f g
 ·cases e
noncomputable def rW:List SV→List Blk→Option (SV×List Blk×Bool)
 | [.ptr 0 0 0,.agg [.ints .u8 32 bk],.ro false .u8 gf],[.b [.ints .u8 32 key,.bool has,.int .i64 n,.ints .u8 32 ch,.ints .u8 32 ha,.bool bg,.int .i64 ak,.ints .u8 32 os,.ints .u8 32 op,.ints .u8 32 pe,.ints .u8 32 ms,.ints .u8 32 mp,.ints .u8 32 th]]=>
  some (.aT [.ro true .u8 (aJ bk 9++m7 (meets true ak os pe bk th) ch ha (aJ bk 9) gf),.nl .nilIface],[hb (eo (meets true ak os pe bk th) ch) true 1 (jc (meets true ak os pe bk th) ch) (qv ha (aJ bk 9) (m7 (meets true ak os pe bk th) ch ha (aJ bk 9) gf)) bg (ak+1) os op pe bk (aJ bk 9) th],
   cN ak&&decide (ha.length=32)&&decide (ch.length=32)&&Re.aj bk&&fA (meets true ak os pe bk th)&&(yd bg ak gf.length (meets true ak os pe bk th)==0))
 |_,_=>none
theorem NW {bg:Bool} {ak:Int} {m:Nat} {os pe bk th:List Int} (f:fA (meets true ak os pe bk th)=true) (g:yd bg ak m (meets true ak os pe bk th)=0):(ak=0∧bg=true∨ak=1∧bg=false)∧m≤1024∧cD (meets true ak os pe bk th)=true:=by
 unfold yd at g
 cases ht:cr bg ak with
 |false=>rw [ht] at g;cases g
 |true=>
  rw [ht] at g
  by_cases hl:1024<m
  ·rw [decide_eq_true hl] at g;cases g
  ·rw [decide_eq_false hl] at g
   cases hz:mW (meets true ak os pe bk th) with
   |true=>rw [hz] at g;cases g
   |false=>exact ⟨vh ht,by omega,oo f hz⟩
noncomputable def AD:Entry Tryz.prog:=.mut 24 _ Tryz.func24 (by decide) rfl Cp.iC 0 rW fun vs h0 v h1 e=>by
 unfold rW at e
 split at e
 ·rename_i bk gf key has n ch ha bg ak os op pe ms mp th
  simp only [Option.some.injEq,Prod.mk.injEq,Bool.and_eq_true,decide_eq_true_eq,beq_iff_eq] at e
  obtain ⟨rfl,rfl,⟨⟨⟨⟨a,b⟩,c⟩,d⟩,f⟩,g⟩:=e
  obtain ⟨h1,h2,h3⟩:=NW f g
  exact CP h1 b c d h2 h3
 ·cases e
end Go.Proofs.YtibfpjeeanppjaaGreat.No
end
section
namespace Go.Proofs.YtibfpjeeanppjaaGreat.No
open Go Go.Sy Sh La
section
variable {key ch ha os op pe ms mp th x:List Int} {n ak:Int} {has bg:Bool}
theorem S7 (hs:cN ak=true) (ht:cr bg ak=true):ai Tryz.prog 28 [.ptr 0 0 0,.ro false .u8 x] [hb key has n ch ha bg ak os op pe ms mp th] (rU 10) [hb key has n ch ha bg ak os op pe ms mp th]:=
 aQ (tf g1 true) 60 Tryz.func28 1 (by simp) (p:=aa (aa true (aa true (cN ak))) (cr bg ak)) (by kernel_rfl) (by rw [hs,ht];rfl) rfl rfl
theorem S8 (hs:cN ak=true) (ht:cr bg ak=false) (h2:(ak==2)=true):ai Tryz.prog 28 [.ptr 0 0 0,.ro false .u8 x] [hb key has n ch ha bg ak os op pe ms mp th] (rU 10) [hb key has n ch ha bg ak os op pe ms mp th]:=
 aQ (tf g2 true) 60 Tryz.func28 1 (by simp) (p:=aa (aa (aa true (aa true (cN ak))) (!cr bg ak)) (ak==2)) (by kernel_rfl) (by rw [hs,ht,h2];rfl) rfl rfl
def Zq (bg:Bool) (ak:Int):Bool:=aa (aa (aa true (aa true (cN ak))) (!cr bg ak)) (!(ak==2))
theorem NX (hs:Zq bg ak=true) (hl:(x.length:Int)<48):ai Tryz.prog 28 [.ptr 0 0 0,.ro false .u8 x] [hb key has n ch ha bg ak os op pe ms mp th] (rU 1) [hb key has n ch ha bg ak os op pe ms mp th]:=
 aQ (tf g3 true) 60 Tryz.func28 1 (by simp) (p:=aa (Zq bg ak) (decide ((x.length:Int)<48))) (by kernel_rfl) (by rw [hs,decide_eq_true hl];rfl) rfl rfl
theorem S9 (hs:Zq bg ak=true) (h0:¬(x.length:Int)<48) (hl:(x.length:Int)>1072):ai Tryz.prog 28 [.ptr 0 0 0,.ro false .u8 x] [hb key has n ch ha bg ak os op pe ms mp th] (rU 1) [hb key has n ch ha bg ak os op pe ms mp th]:=
 aQ (tf g4 true) 60 Tryz.func28 1 (by simp) (p:=aa (aa (Zq bg ak) (!decide ((x.length:Int)<48))) (decide ((x.length:Int)>1072))) (by kernel_rfl) (by rw [hs,decide_eq_false h0,decide_eq_true hl];rfl) rfl rfl
noncomputable def rzO (u bg:Bool) (ak:Int) (os pe ms ch ha x D:List Int):Bool:=
 aa (aa (aa (aa (aa (aa (Zq bg ak) (!decide ((x.length:Int)<48))) (!decide ((x.length:Int)>1072))) (aa true (true&&decide ((32:Int)≤(x.length:Int))))) (decide (31+1≤(x.take 32).length))) (true&&decide (0+32≤(x.take 32).length)))
  (aa true ((ak==0||ak==1)&&decide (ha.length=32)&&decide (D.length=32)&&decide (ch.length=32)&&jK u (meets false ak os pe ms D)))
theorem NY (h:rzO true bg ak os pe ms ch ha x (Bx.tG x)=true):ai Tryz.prog 28 [.ptr 0 0 0,.ro false .u8 x] [hb key has n ch ha bg ak os op pe ms mp th] (rU 4) [hb key has n ch ha bg ak os op pe ms mp th]:=
 aQ (tf g5 true) 60 Tryz.func28 1 (by simp) (p:=rzO true bg ak os pe ms ch ha x (Bx.tG x)) (by kernel_rfl) h rfl rfl
theorem NZ (h:rzO false bg ak os pe ms ch ha x (Bx.tG x)=true):ai Tryz.prog 28 [.ptr 0 0 0,.ro false .u8 x] [hb key has n ch ha bg ak os op pe ms mp th] (rU 4) [hb key has n ch ha bg ak os op pe ms mp th]:=
 aQ (tf g5 false) 60 Tryz.func28 1 (by simp) (p:=rzO false bg ak os pe ms ch ha x (Bx.tG x)) (by kernel_rfl) h rfl rfl
noncomputable def yP (bg:Bool) (ak:Int) (m:Nat) (q:K4) (o:Bool):Int:=bif cr bg ak||ak==2 then 10 else bif decide (m<48)||decide (1072<m) then 1 else bif mW q then 4 else bif o then 0 else 2
theorem jL {x:List Int} (h:48≤x.length) (u:bE x=true):Re.aj (x.take 32)=true:=Re.bI.2 ⟨by rw [List.length_take];omega,List.all_eq_true.2 fun z hz=>Fe.nk.2 (by have:=List.all_eq_true.1 u z (List.mem_of_mem_take hz);simpa using this)⟩
noncomputable def lK (ak:Int) (os pe ms x:List Int):K4:=meets false ak os pe ms (x.take 32)
noncomputable def mX (ak:Int) (os pe ms ch ha x:List Int):Bool:=Ae.bJ (eo (lK ak os pe ms x) ch) (Ae.aI 0) (S2.aq (ha++x.take 32)) (x.drop 32)
theorem afu (hs:cN ak=true) (h1:ha.length=32) (h3:ch.length=32) (ko:Re.aj os=true) (kp:Re.aj pe=true) (km:Re.aj ms=true) (ux:bE x=true)
  (hk:yP bg ak x.length (lK ak os pe ms x) (mX ak os pe ms ch ha x)≠0):
  ai Tryz.prog 28 [.ptr 0 0 0,.ro false .u8 x] [hb key has n ch ha bg ak os op pe ms mp th] (rU (yP bg ak x.length (lK ak os pe ms x) (mX ak os pe ms ch ha x))) [hb key has n ch ha bg ak os op pe ms mp th]:=by
 unfold yP at hk ⊢
 cases ht:cr bg ak with
 |true=>exact S7 hs ht
 |false=>
  cases h2:ak==2 with
  |true=>exact S8 hs ht h2
  |false=>
   rw [ht,h2] at hk
   have hh:Zq bg ak=true:=by unfold Zq;rw [hs,ht,h2];rfl
   by_cases l0:x.length<48
   ·rw [decide_eq_true l0];exact NX hh (by omega)
   ·by_cases l1:1072<x.length
    ·rw [decide_eq_false l0,decide_eq_true l1];exact S9 hh (by omega) (by omega)
    ·rw [decide_eq_false l0,decide_eq_false l1] at hk ⊢
     have kt:=jL (x:=x) (by omega) ux
     have hq:fA (lK ak os pe ms x)=true:=fj ko kp km kt
     have hr:=vi hs ht h2
     cases hz:mW (lK ak os pe ms x) with
     |true=>
      obtain ⟨u,hu⟩:=CT hq hz
      have e:Bx.tG x=x.take 32:=Bx.vB x
      have hO:rzO u bg ak os pe ms ch ha x (Bx.tG x)=true:=by
       have mT:jK u (meets false ak os pe ms (x.take 32))=true:=hu
       have hl:(x.take 32).length=32:=(Re.bI.1 kt).1
       rw [e]
       unfold rzO
       rw [hh,h1,h3,hl,mT,s01 hr,decide_eq_false (show ¬(x.length:Int)<48 by omega),decide_eq_false (show ¬(x.length:Int)>1072 by omega),decide_eq_true (show (32:Int)≤x.length by omega)];rfl
      cases u with
      |true=>exact NY hO
      |false=>exact NZ hO
     |false=>
      rw [hz] at hk
      cases ho:mX ak os pe ms ch ha x with
      |true=>rw [ho] at hk;exact absurd rfl hk
      |false=>exact NT hr h1 h3 (by omega) (by omega) (oo hq hz) ho
theorem N0 (hs:cN ak=true) (h1:ha.length=32) (h3:ch.length=32) (ko:Re.aj os=true) (kp:Re.aj pe=true) (km:Re.aj ms=true) (ux:bE x=true)
  (hk:yP bg ak x.length (lK ak os pe ms x) (mX ak os pe ms ch ha x)=0):
  (ak=0∧bg=false∨ak=1∧bg=true)∧48≤x.length∧x.length≤1072∧cD (lK ak os pe ms x)=true∧mX ak os pe ms ch ha x=true:=by
 unfold yP at hk
 cases ht:cr bg ak with
 |true=>rw [ht] at hk;cases hk
 |false=>
  cases h2:ak==2 with
  |true=>rw [ht,h2] at hk;cases hk
  |false=>
   rw [ht,h2] at hk
   by_cases l0:x.length<48
   ·rw [decide_eq_true l0] at hk;cases hk
   ·by_cases l1:1072<x.length
    ·rw [decide_eq_false l0,decide_eq_true l1] at hk;cases hk
    ·rw [decide_eq_false l0,decide_eq_false l1] at hk
     have kt:=jL (x:=x) (by omega) ux
     have hq:fA (lK ak os pe ms x)=true:=fj ko kp km kt
     cases hz:mW (lK ak os pe ms x) with
     |true=>rw [hz] at hk;cases hk
     |false=>
      rw [hz] at hk
      cases ho:mX ak os pe ms ch ha x with
      |true=>exact ⟨vi hs ht h2,by omega,by omega,oo hq hz,rfl⟩
      |false=>rw [ho] at hk;cases hk
end
noncomputable def rdP (ak:Int) (os pe ms ch ha x:List Int):Bool:=cN ak&&decide (ha.length=32)&&decide (ch.length=32)&&Re.aj os&&Re.aj pe&&Re.aj ms&&bE x
noncomputable def xw:List SV→List Blk→Option (SV×List Blk×Bool)
 | [.ptr 0 0 0,.ro false .u8 x],[.b [.ints .u8 32 key,.bool has,.int .i64 n,.ints .u8 32 ch,.ints .u8 32 ha,.bool bg,.int .i64 ak,.ints .u8 32 os,.ints .u8 32 op,.ints .u8 32 pe,.ints .u8 32 ms,.ints .u8 32 mp,.ints .u8 32 th]]=>
  some (rU (yP bg ak x.length (lK ak os pe ms x) (mX ak os pe ms ch ha x)),[hb key has n ch ha bg ak os op pe ms mp th],rdP ak os pe ms ch ha x&&(yP bg ak x.length (lK ak os pe ms x) (mX ak os pe ms ch ha x) != 0))
 |_,_=>none
noncomputable def E4:Entry Tryz.prog:=.mut 28 _ Tryz.func28 (by decide) rfl Cp.iC 0 xw fun vs h0 v h1 e=>by
 unfold xw rdP at e
 split at e
 ·simp only [Option.some.injEq,Prod.mk.injEq,Bool.and_eq_true,decide_eq_true_eq,bne_iff_ne] at e
  obtain ⟨rfl,rfl,⟨⟨⟨⟨⟨⟨a,b⟩,c⟩,d⟩,f⟩,g⟩,i⟩,k⟩:=e
  exact afu a b c d f g i k
 ·cases e
noncomputable def xx:List SV→List Blk→Option (SV×List Blk×Bool)
 | [.ptr 0 0 0,.ro false .u8 x],[.b [.ints .u8 32 key,.bool has,.int .i64 n,.ints .u8 32 ch,.ints .u8 32 ha,.bool bg,.int .i64 ak,.ints .u8 32 os,.ints .u8 32 op,.ints .u8 32 pe,.ints .u8 32 ms,.ints .u8 32 mp,.ints .u8 32 th]]=>
  some (.aT [.ro true .u8 (Ae.cn (eo (lK ak os pe ms x) ch) (Ae.aI 0) (x.drop 32)),.nl .nilIface],[hb (eo (lK ak os pe ms x) ch) true 1 (jc (lK ak os pe ms x) ch) (qv ha (x.take 32) (x.drop 32)) bg (ak+1) os op pe ms mp (x.take 32)],
   rdP ak os pe ms ch ha x&&(yP bg ak x.length (lK ak os pe ms x) (mX ak os pe ms ch ha x)==0))
 |_,_=>none
noncomputable def E5:Entry Tryz.prog:=.mut 28 _ Tryz.func28 (by decide) rfl Cp.iC 0 xx fun vs h0 v h1 e=>by
 unfold xx rdP at e
 split at e
 ·simp only [Option.some.injEq,Prod.mk.injEq,Bool.and_eq_true,decide_eq_true_eq,beq_iff_eq] at e
  obtain ⟨rfl,rfl,⟨⟨⟨⟨⟨⟨a,b⟩,c⟩,d⟩,f⟩,g⟩,i⟩,k⟩:=e
  obtain ⟨h1,h2,h3,h4,h5⟩:=N0 a b c d f g i k
  exact Ho h1 b c h2 h3 h4 h5
 ·cases e
end Go.Proofs.YtibfpjeeanppjaaGreat.No
end
