/- This file holds the texts AeA, AeB, AeC, a section each. No conditions beyond those in the theorems. -/
import Derived.Test.YtibfpjeeanppjaaGreatYMe
import Derived.Test.YtibfpjeeanppjaaGreatYShG
set_option linter.all false
set_option maxRecDepth 100000
section
namespace Go.Proofs.YtibfpjeeanppjaaGreat.Ae
open Go Go.Sy
abbrev W (n:Int):Int:=IntKind.u64.wrap n
noncomputable def c0:bu:=mk (P:=Tryz.prog) [] []
theorem yf:ag Tryz.prog c0:=ah _ au.nil _ _
def eK (l:List Int):Int:=[7,6,5,4,3,2,1,0].foldl (fun n i=>gi .u64 (c7 .u64 n 8) (W (l.getD i 0))) 0
theorem Wk {l:List Int} (h:8≤l.length):ai Tryz.prog 150 [.ro false .u8 l] [] (.int .u64 (eK l)) []:=by
 have i8:∀i:Nat,i<8→cL (i:Int) l.length=true:=fun i hi=>by
  unfold cL
  simp only [Bool.and_eq_true,decide_eq_true_eq]
  omega
 have d8:∀i:Nat,i<8→decide (i<l.length)=true:=fun i hi=>decide_eq_true (by omega)
 exact aF yf 200 Tryz.func150 (p:=[7,6,5,4,3,2,1,0].foldl (fun o i=>aa (aa o (cL ((i:Nat):Int) l.length)) (decide (i<l.length))) true) (by kernel_rfl)
  (by simp only [List.foldl,i8 7 (by decide),i8 6 (by decide),i8 5 (by decide),i8 4 (by decide),i8 3 (by decide),i8 2 (by decide),i8 1 (by decide),i8 0 (by decide),d8 7 (by decide),d8 6 (by decide),d8 5 (by decide),d8 4 (by decide),d8 3 (by decide),d8 2 (by decide),d8 1 (by decide),d8 0 (by decide)];rfl) rfl
def abW:List SV→Option (SV×List Blk×Bool)
 | [.ro false .u8 l]=>some (.int .u64 (eK l),[],decide (8≤l.length))
 |_=>none
noncomputable def Qi:Entry Tryz.prog:=.val 150 _ Tryz.func150 (by decide) rfl true 0 abW fun vs v new e=>by
 unfold abW at e
 split at e
 ·simp only [Option.some.injEq,Prod.mk.injEq,decide_eq_true_eq] at e
  obtain ⟨rfl,rfl,h⟩:=e
  exact Wk h
 ·cases e
def eI (n:Int):List Int:=(List.range 8).map fun i=>IntKind.u8.wrap (bO .u64 n (8*i))
theorem Wl (n:Int):ai Tryz.prog 73 [.int .u64 n] [] (.ro true .u8 (eI n)) []:=
 ai.frozen (N:=8) (ex:=true) (wh:=true) (ai.dw yf Tryz.func73 (n:=200) (by kernel_rfl)) rfl
def abX:List SV→Option (SV×List Blk×Bool)
 | [.int .u64 n]=>some (.ro true .u8 (eI n),[],true)
 |_=>none
noncomputable def Wm:Entry Tryz.prog:=.val 73 _ Tryz.func73 (by decide) rfl false 0 abX fun vs v new e=>by
 unfold abX at e
 split at e
 ·cases e;exact Wl _
 ·cases e
def g (m:List Int) (i:Nat):Int:=m.getD i 0
noncomputable def Wn (x y:Int) (m:List Int):List Int:=[g m 0,Fe.ck (g m 1) (Fe.mulL x y) 0,Fe.ck (g m 2) (Fe.fH x y) (Fe.bR (g m 1) (Fe.mulL x y) 0),W (g m 3+Fe.bR (g m 2) (Fe.fH x y) (Fe.bR (g m 1) (Fe.mulL x y) 0))]
noncomputable def Wo (x y:Int) (m:List Int):List Int:=[g m 0,g m 1,Fe.ck (g m 2) (Fe.mulL x y) 0,Fe.ck (g m 3) (Fe.fH x y) (Fe.bR (g m 2) (Fe.mulL x y) 0)]
noncomputable def atC:bu:=mk (P:=Tryz.prog) [Fe.vm,Fe.DG] []
theorem JZ:ag Tryz.prog atC:=ah _ au.nil _ _
noncomputable def atF:List SV→List Blk→Option (SV×List Blk×Bool)
 | [.int .i64 i,.int .u64 x,.int .u64 y,.ptr 0 0 0],[.b [.ints .u64 4 m]]=>bif i==1 then some (.aT [],[.b [.ints .u64 4 (Wn x y m)]],decide (m.length=4)&&Fe.cV (Fe.bR (g m 1) (Fe.mulL x y) 0)) else
  bif i==2 then some (.aT [],[.b [.ints .u64 4 (Wo x y m)]],decide (m.length=4)&&Fe.cV (Fe.bR (g m 2) (Fe.mulL x y) 0)) else none
 |_,_=>none
def Uu (vs:List SV) (_:List Blk):List Nat:=match vs with
 | [_,_,_,.ptr b _ _]=>[b]
 |_=>[]
theorem Wp {x y:Int} {m:List Int} (hm:m.length=4) (hc:Fe.cV (Fe.bR (g m 1) (Fe.mulL x y) 0)=true):ai Tryz.prog 169 [.int .i64 1,.int .u64 x,.int .u64 y,.ptr 0 0 0] [.b [.ints .u64 4 m]] (.aT []) [.b [.ints .u64 4 (Wn x y m)]]:=by
 have k:ai Tryz.prog 169 [.int .i64 1,.int .u64 x,.int .u64 y,.ptr 0 0 0] [.b [.ints .u64 4 (aH 4 m)]] (.aT []) [.b [.ints .u64 4 (Wn x y m)]]:=
  aQ JZ 60 Tryz.func169 1 (by simp) (p:=aa true (Fe.cV (Fe.bR (g m 1) (Fe.mulL x y) 0))) (by kernel_rfl) (by rw [hc];rfl) rfl rfl
 rw [aG hm] at k
 exact k
theorem Wq {x y:Int} {m:List Int} (hm:m.length=4) (hc:Fe.cV (Fe.bR (g m 2) (Fe.mulL x y) 0)=true):ai Tryz.prog 169 [.int .i64 2,.int .u64 x,.int .u64 y,.ptr 0 0 0] [.b [.ints .u64 4 m]] (.aT []) [.b [.ints .u64 4 (Wo x y m)]]:=by
 have k:ai Tryz.prog 169 [.int .i64 2,.int .u64 x,.int .u64 y,.ptr 0 0 0] [.b [.ints .u64 4 (aH 4 m)]] (.aT []) [.b [.ints .u64 4 (Wo x y m)]]:=
  aQ JZ 60 Tryz.func169 1 (by simp) (p:=aa true (Fe.cV (Fe.bR (g m 2) (Fe.mulL x y) 0))) (by kernel_rfl) (by rw [hc];rfl) rfl rfl
 rw [aG hm] at k
 exact k
noncomputable def atE:Entry Tryz.prog:=.mut 169 _ Tryz.func169 (by decide) rfl Uu 0 atF fun vs h0 v h1 e=>by
 unfold atF at e
 split at e
 ·rename_i i x y m
  by_cases h1:i=1
  ·subst h1
   simp only [beq_self_eq_true,cond_true,Option.some.injEq,Prod.mk.injEq,Bool.and_eq_true,decide_eq_true_eq] at e
   obtain ⟨rfl,rfl,hm,hc⟩:=e
   exact Wp hm hc
  ·rw [beq_false_of_ne h1] at e
   by_cases h2:i=2
   ·subst h2
    simp only [beq_self_eq_true,cond_true,cond_false,Option.some.injEq,Prod.mk.injEq,Bool.and_eq_true,decide_eq_true_eq] at e
    obtain ⟨rfl,rfl,hm,hc⟩:=e
    exact Wq hm hc
   ·rw [beq_false_of_ne h2] at e;cases e
 ·cases e
end Go.Proofs.YtibfpjeeanppjaaGreat.Ae
end
section
namespace Go.Proofs.YtibfpjeeanppjaaGreat.Ae
open Go Go.Sy
def R (x:Int):Prop:=0≤x∧x<18446744073709551616
theorem JI (n:Int):R (W n):=by
 unfold W R
 rw [Fe.wrap_u64]
 exact ⟨Int.emod_nonneg _ (by decide),Int.emod_lt_of_pos _ (by decide)⟩
theorem lJ (x y c:Int):R (Fe.ck x y c):=by
 unfold Fe.ck R
 rw [aD]
 have e:Extern.MathBitsCarry.m64=18446744073709551616:=rfl
 rw [e]
 have:=Nat.mod_lt (x.toNat+y.toNat+c.toNat) (show 0<18446744073709551616 by decide)
 simp only [Int.ofNat_eq_natCast]
 omega
theorem vn (x y:Int):R (Fe.mulL x y):=by rw [Fe.mulL,aD];exact JI _
theorem Wr (x y:Int):R (Fe.fH x y):=by rw [Fe.fH,aD];exact JI _
theorem Ws (a b:Int):R (gi .u64 a b):=JI _
theorem abY (a b:Int):R (bS .u64 a b):=JI _
theorem Bi (a b:Int):R (iq .u64 a b):=JI _
theorem ep {x y:Int} (hx:R x) (hy:R y):Fe.cV (Fe.bR x y 0)=true:=by
 obtain ⟨_,h⟩:=Fe.qz hx.1 hy.1 (Int.le_refl 0)
 unfold Fe.cV
 rw [h]
 have:=hx.2
 have:=hy.2
 exact decide_eq_true (by omega)
theorem eL:R 0:=⟨by decide,by decide⟩
theorem m9 (l:List Int):R (eK l):=by
 unfold eK
 simp only [List.foldl]
 exact Ws _ _
noncomputable def ti0 (h:List Int) (r:Int):List Int:=[Fe.mulL (g h 0) r,Fe.fH (g h 0) r,0,0]
noncomputable def ti1 (h:List Int) (r s:Int):List Int:=Wn (g h 0) s (ti0 h r)
noncomputable def ti2 (h:List Int) (r s:Int):List Int:=Wn (g h 1) r (ti1 h r s)
noncomputable def ti3 (h:List Int) (r s:Int):List Int:=Wo (g h 1) s (ti2 h r s)
noncomputable def vo (h:List Int) (r s:Int):List Int:=Wo (g h 2) r (ti3 h r s)
noncomputable def yg (h:List Int) (r s:Int):List Int:=[g (vo h r s) 0,g (vo h r s) 1,g (vo h r s) 2,W (g (vo h r s) 3+W (g h 2*s))]
noncomputable def Wt (h:List Int) (r s:Int):Bool:=aa (aa (aa (aa true (aa true (Fe.cV (Fe.bR (g (ti0 h r) 1) (Fe.mulL (g h 0) s) 0)))) (aa true (Fe.cV (Fe.bR (g (ti1 h r s) 1) (Fe.mulL (g h 1) r) 0)))) (aa true (Fe.cV (Fe.bR (g (ti2 h r s) 2) (Fe.mulL (g h 1) s) 0)))) (aa true (Fe.cV (Fe.bR (g (ti3 h r s) 2) (Fe.mulL (g h 2) r) 0)))
noncomputable def rd (h:List Int) (x y:Int):List Int:=[Fe.ck (g h 0) x 0,Fe.ck (g h 1) y (Fe.bR (g h 0) x 0),W (g h 2+Fe.bR (g h 1) y (Fe.bR (g h 0) x 0))]
noncomputable def lK (m:List Int):List Int:=rd (rd [g m 0,g m 1,bS .u64 (g m 2) 3] (iq .u64 (g m 2) 3) (g m 3)) (gi .u64 (bO .u64 (g m 2) 2) (c7 .u64 (g m 3) 62)) (bO .u64 (g m 3) 2)
noncomputable def Bj (m:List Int):Bool:=aa (aa true (Fe.cV (Fe.bR (g m 0) (iq .u64 (g m 2) 3) 0))) (Fe.cV (Fe.bR (Fe.ck (g m 0) (iq .u64 (g m 2) 3) 0) (gi .u64 (bO .u64 (g m 2) 2) (c7 .u64 (g m 3) 62)) 0))
noncomputable def nc (h:List Int) (r s:Int):List Int:=gY (lK (yg h r s))
noncomputable def tiC:bu:=mk (P:=Tryz.prog) [Fe.vm,Fe.DG,atE] []
theorem J0:ag Tryz.prog tiC:=ah _ au.nil _ _
noncomputable def tiB:Code:=aE Tryz.f167
noncomputable def su (h:List Int) (r s:Int):Blk:=.b [.ints .u64 3 h,.int .u64 r,.int .u64 s]
noncomputable def xP (h m:List Int) (r s:Int):St:=⟨slotsOf 164 [(0,.ptr 0 0 0),(4,.ptr 1 0 0)],[su h r s,.b [.ints .u64 4 m]],true⟩
theorem yY (h:List Int) (r s:Int):(aW Tryz.prog tiC 60 1 8 (atoms tiB) ⟨aO Tryz.f167.ntmps [.ptr 0 0 0],[su h r s],true⟩).bind (St.cut [0,4] 2)=some {xP h (yg h r s) r s with ob:=Wt h r s}:=by kernel_rfl
theorem Uv {x y:Int} {m:List Int} (h:R (g m 0)):∀i,R (g (Wn x y m) i):=fun i=>by
 match i with
 |0=>exact h
 |1=>exact lJ _ _ _
 |2=>exact lJ _ _ _
 |3=>exact JI _
 |n+4=>exact eL
theorem Uw {x y:Int} {m:List Int} (h:R (g m 0)) (h1:R (g m 1)):∀i,R (g (Wo x y m) i):=fun i=>by
 match i with
 |0=>exact h
 |1=>exact h1
 |2=>exact lJ _ _ _
 |3=>exact lJ _ _ _
 |n+4=>exact eL
theorem Wu (h:List Int) (r s:Int):(∀i,R (g (ti0 h r) i))∧(∀i,R (g (ti1 h r s) i))∧(∀i,R (g (ti2 h r s) i))∧(∀i,R (g (ti3 h r s) i))∧(∀i,R (g (vo h r s) i)):=by
 have h0:∀i,R (g (ti0 h r) i):=fun i=>by
  match i with
  |0=>exact vn _ _
  |1=>exact Wr _ _
  |2=>exact eL
  |3=>exact eL
  |n+4=>exact eL
 have h1:∀i,R (g (ti1 h r s) i):=Uv (h0 0)
 have h2:∀i,R (g (ti2 h r s) i):=Uv (h1 0)
 have h3:∀i,R (g (ti3 h r s) i):=Uw (h2 0) (h2 1)
 exact ⟨h0,h1,h2,h3,Uw (h3 0) (h3 1)⟩
theorem J1 (h:List Int) (r s:Int):Wt h r s=true:=by
 obtain ⟨h0,h1,h2,h3,_⟩:=Wu h r s
 unfold Wt
 rw [ep (h0 1) (vn _ _),ep (h1 1) (vn _ _),ep (h2 2) (vn _ _),ep (h3 2) (vn _ _)]
 rfl
theorem Ux (h:List Int) (r s:Int):∀i,R (g (yg h r s) i):=fun i=>by
 obtain ⟨_,_,_,_,h4⟩:=Wu h r s
 match i with
 |0=>exact h4 0
 |1=>exact h4 1
 |2=>exact h4 2
 |3=>exact JI _
 |n+4=>exact eL
theorem iz {m:List Int} (h:∀i,R (g m i)):Bj m=true:=by
 unfold Bj
 rw [ep (h 0) (Bi _ _),ep (lJ _ _ _) (Ws _ _)]
 rfl
theorem abZ (m:List Int):∀i,R (g (lK m) i):=fun i=>by
 match i with
 |0=>exact lJ _ _ _
 |1=>exact lJ _ _ _
 |2=>exact JI _
 |n+3=>exact eL
theorem J2 (h:List Int) (r s:Int):(nc h r s).length=3∧∀i,R (g (nc h r s) i):=by
 rw [nc,aD]
 exact ⟨rfl,abZ _⟩
theorem vp {h:List Int} (r s:Int) (hl:h.length=3):ai Tryz.prog 167 [.ptr 0 0 0] [su h r s] (.aT []) [su (nc h r s) r s]:=by
 have k:ai Tryz.prog 167 [.ptr 0 0 0] [su (aH 3 h) r s] (.aT []) [su (lK (aH 4 (yg (aH 3 h) r s))) r s]:=by
  refine ai.cu J0 60 8 1 Tryz.func167 (by simp) rfl (fun s' x hh=>?_) (s:=xP (aH 3 h) (aH 4 (yg (aH 3 h) r s)) r s) (p:=Bj (aH 4 (yg (aH 3 h) r s))) ?_ ?_ rfl rfl
  ·refine bf.items J0 60 8 _ 2 (by simp) (yY (aH 3 h) r s) (J1 _ _ _) (by decide) ?_
   rw [aG (show (yg (aH 3 h) r s).length=4 from rfl)] at hh
   exact bf.pre hh (bq.same rfl rfl) (by decide)
  ·generalize yg (aH 3 h) r s=m
   kernel_rfl
  ·rw [aG (show (yg (aH 3 h) r s).length=4 from rfl)]
   exact iz (Ux _ _ _)
 rw [aG hl,aG (show (yg h r s).length=4 from rfl)] at k
 rw [nc,aD]
 exact k
def Uy (vs:List SV) (_:List Blk):List Nat:=match vs with
 | .ptr b _ _::_=>[b]
 |_=>[]
noncomputable def vq:List SV→List Blk→Option (SV×List Blk×Bool)
 | [.ptr 0 0 0],[.b [.ints .u64 3 h,.int .u64 r,.int .u64 s]]=>some (.aT [],[su (nc h r s) r s],decide (h.length=3))
 |_,_=>none
noncomputable def yZ:Entry Tryz.prog:=.mut 167 _ Tryz.func167 (by decide) rfl Uy 0 vq fun vs h0 v h1 e=>by
 unfold vq at e
 split at e
 ·simp only [Option.some.injEq,Prod.mk.injEq,decide_eq_true_eq] at e
  obtain ⟨rfl,rfl,h⟩:=e
  exact vp _ _ h
 ·cases e
end Go.Proofs.YtibfpjeeanppjaaGreat.Ae
end
section
namespace Go.Proofs.YtibfpjeeanppjaaGreat.Ae
open Go Go.Sy
def bW (p:List Int):List Int:=(ng (List.replicate 17 0) 0 p (Nat.min p.length 17)).set (0+(p.length:Int).toNat) 1
def bH (p:List Int):List Int:=((bW p).drop 8).take 9
noncomputable def DH (h p:List Int):List Int:=[Fe.ck (g h 0) (eK (bW p)) 0,Fe.ck (g h 1) (eK (bH p)) (Fe.bR (g h 0) (eK (bW p)) 0),W (g h 2+W (W ((bW p).getD 16 0)+Fe.bR (g h 1) (eK (bH p)) (Fe.bR (g h 0) (eK (bW p)) 0)))]
noncomputable def ab0:bu:=mk (P:=Tryz.prog) [Fe.vm,Qi,yZ] []
theorem J3:ag Tryz.prog ab0:=ah _ au.nil _ _
noncomputable def Wv (h p:List Int):Bool:=
 let L:=p.length
 let b0:=ng (List.replicate 17 0) 0 p (Nat.min L 17)
 let o1:=aa (aa (aa true (aa true (true&&decide (0+Nat.min L 17≤17)&&decide (Nat.min L 17≤L)))) (cL (L:Int) 17)) (decide (0+(L:Int).toNat<17)&&decide (b0.length=17))
 let o2:=aa o1 (aa (aa (decide ((bW p).length=17)&&true) (decide ((bW p).length=17))) (decide (8≤(bW p).length)))
 let o3:=aa o2 (aa (aa (true&&decide (17≤(bW p).length)) (decide ((bH p).length=9))) (decide (8≤(bH p).length)))
 aa (aa o3 (Fe.cV (Fe.bR (g h 0) (eK (bW p)) 0))) (aa true (decide (3=3)))
theorem Ww {p:List Int} (hp:p.length≤16):(ng (List.replicate 17 0) 0 p (Nat.min p.length 17)).length=17∧(bW p).length=17∧(bH p).length=9:=by
 have e:Nat.min p.length 17=p.length:=Nat.min_eq_left (by omega)
 have h1:(ng (List.replicate 17 (0:Int)) 0 p (Nat.min p.length 17)).length=17:=pM (by simp) (by rw [e];omega) (by rw [e];exact Nat.le_refl _)
 have h2:(bW p).length=17:=by unfold bW;rw [List.length_set];exact h1
 exact ⟨h1,h2,by unfold bH;rw [List.length_take,List.length_drop,h2];rfl⟩
theorem Ie {h p:List Int} (h0:R (g h 0)) (hp:p.length≤16):Wv h p=true:=by
 obtain ⟨h1,h2,h3⟩:=Ww hp
 have e:Nat.min p.length 17=p.length:=Nat.min_eq_left (by omega)
 have hi:cL (p.length:Int) 17=true:=by
  unfold cL
  simp only [Bool.and_eq_true,decide_eq_true_eq]
  omega
 unfold Wv
 simp only [h1,h2,h3,hi,ep h0 (m9 _)]
 rw [e,decide_eq_true (show 0+p.length≤17 by omega),decide_eq_true (Nat.le_refl _),decide_eq_true (show 0+(p.length:Int).toNat<17 by omega)]
 rfl
noncomputable def sr (h p:List Int) (r s:Int):List Int:=nc (DH h p) r s
theorem DI {h p:List Int} (r s:Int) (hl:h.length=3) (h0:R (g h 0)) (hp:p.length≤16):ai Tryz.prog 151 [.ptr 0 0 0,.ro false .u8 p] [su h r s] (.aT []) [su (sr h p r s) r s]:=by
 have k:ai Tryz.prog 151 [.ptr 0 0 0,.ro false .u8 p] [su (aH 3 h) r s] (.aT []) [su (sr (aH 3 h) p r s) r s]:=
  aQ J3 60 Tryz.func151 1 (by simp) (p:=Wv (aH 3 h) p) (by kernel_rfl) (Ie (by rw [aG hl];exact h0) hp) rfl rfl
 rw [aG hl] at k
 exact k
theorem Wx (h p:List Int) (r s:Int):(sr h p r s).length=3∧∀i,R (g (sr h p r s) i):=J2 _ _ _
noncomputable def J4:List SV→List Blk→Option (SV×List Blk×Bool)
 | [.ptr 0 0 0,.ro false .u8 p],[.b [.ints .u64 3 h,.int .u64 r,.int .u64 s]]=>some (.aT [],[su (sr h p r s) r s],decide (h.length=3)&&Fe.u64 (g h 0)&&decide (p.length≤16))
 |_,_=>none
noncomputable def vr:Entry Tryz.prog:=.mut 151 _ Tryz.func151 (by decide) rfl Uy 0 J4 fun vs h0 v h1 e=>by
 unfold J4 at e
 split at e
 ·simp only [Option.some.injEq,Prod.mk.injEq,Bool.and_eq_true,decide_eq_true_eq] at e
  obtain ⟨rfl,rfl,⟨h1,h2⟩,h3⟩:=e
  exact DI _ _ h1 (Fe.jN.1 h2) h3
 ·cases e
noncomputable def J5 (l:List Int):Int:=W (g l 2+Fe.bR (g l 1) 0 (Fe.bR (g l 0) 5 0))
noncomputable def Wy (l:List Int):List Int:=[Fe.ck (g l 0) 5 0,Fe.ck (g l 1) 0 (Fe.bR (g l 0) 5 0),W (J5 l-4)]
noncomputable def oA (l:List Int):List Int:=if J5 l≥4 then Wy l else l
noncomputable def Wz (a:Bool):bu:=mk (P:=Tryz.prog) [Fe.vm,Qi,Wm,Sh.jf] [] fun i=>if i=38 then some a else none
theorem pN (a:Bool):ag Tryz.prog (Wz a):=ah _ au.nil _ _
noncomputable def Qj:Code:=aE Tryz.f152
noncomputable def A7 (h key l:List Int) (r s i:Int):St:=⟨slotsOf 71 [(3,.ptr 1 0 0),(4,.ptr 2 0 0),(5,.ptr 3 0 0),(18,.int .i64 i)],[su h r s,.b [.ints .u8 32 key],.b [.ints .u8 16 (List.replicate 16 0)],.b [.ints .u64 3 (aH 3 l)]],true⟩
def nh (key:List Int):List Int:=(key.drop 16).take 16
def J6 (key:List Int):List Int:=(key.drop 24).take 8
noncomputable def enW (l key:List Int):List Int:=eI (Fe.ck (g l 0) (eK (nh key)) 0)++eI (Fe.ck (g l 1) (eK (J6 key)) (Fe.bR (g l 0) (eK (nh key)) 0))
noncomputable def enO (l key:List Int):Bool:=aa (aa (aa true (aa (aa (true&&decide (32≤key.length)) (decide ((nh key).length=16))) (decide (8≤(nh key).length)))) (aa (aa (true&&decide (32≤key.length)) (decide ((J6 key).length=8))) (decide (8≤(J6 key).length)))) (Fe.cV (Fe.bR (g l 0) (eK (nh key)) 0))
section
variable (h key l:List Int) (r s:Int)
theorem Qk:(aW Tryz.prog (Wz true) 60 1 3 (atoms Qj) ⟨aO Tryz.f152.ntmps [.ptr 0 0 0,.agg [.ints .u8 32 key]],[su (aH 3 h) r s],true⟩).bind (St.cut [3,4,5,18] 4)=some (A7 (aH 3 h) key h r s 0):=by kernel_rfl
theorem ab1:(exec Tryz.prog (Wz true) 60 1 (inner (inner (aA 3 Qj))) (A7 h key l r s 0)).bind (fun r=>(r.2.cut [3,4,5,18] 4).map fun q=>(r.1,q))=
  some (.normal,{A7 h key (Wy (aH 3 l)) r s 1 with ob:=aa (aa true (Fe.cV (Fe.bR (g (aH 3 l) 0) 5 0))) (decide (J5 (aH 3 l)≥4))}):=by kernel_rfl
theorem ab2:(exec Tryz.prog (Wz false) 60 1 (inner (inner (aA 3 Qj))) (A7 h key l r s 0)).bind (fun r=>(r.2.cut [3,4,5,18] 4).map fun q=>(r.1,q))=
  some (.normal,{A7 h key l r s 1 with ob:=aa (aa true (Fe.cV (Fe.bR (g (aH 3 l) 0) 5 0))) (!decide (J5 (aH 3 l)≥4))}):=by kernel_rfl
theorem ab3:(exec Tryz.prog (Wz true) 60 1 (inner (inner (aA 3 Qj))) (A7 h key l r s 1)).bind (fun r=>(r.2.cut [3,4,5,18] 4).map fun q=>(r.1,q))=
  some (.normal,{A7 h key (Wy (aH 3 l)) r s 2 with ob:=aa (aa true (Fe.cV (Fe.bR (g (aH 3 l) 0) 5 0))) (decide (J5 (aH 3 l)≥4))}):=by kernel_rfl
theorem ab4:(exec Tryz.prog (Wz false) 60 1 (inner (inner (aA 3 Qj))) (A7 h key l r s 1)).bind (fun r=>(r.2.cut [3,4,5,18] 4).map fun q=>(r.1,q))=
  some (.normal,{A7 h key l r s 2 with ob:=aa (aa true (Fe.cV (Fe.bR (g (aH 3 l) 0) 5 0))) (!decide (J5 (aH 3 l)≥4))}):=by kernel_rfl
theorem WA:(exec Tryz.prog (Wz true) 60 1 (inner (inner (aA 3 Qj))) (A7 h key l r s 2)).bind (fun r=>(r.2.cut [3,4,5,18] 4).map fun q=>(r.1,q))=
  some (.exit 0,A7 h key l r s 2):=by kernel_rfl
end
theorem vt:R 5:=⟨by decide,by decide⟩
theorem Uz (l:List Int):∀i,R (g (Wy l) i):=fun i=>by
 match i with
 |0=>exact lJ _ _ _
 |1=>exact lJ _ _ _
 |2=>exact JI _
 |n+3=>exact eL
theorem UA {l:List Int} (hl:l.length=3) (h:∀i,R (g l i)):(oA l).length=3∧∀i,R (g (oA l) i):=by
 unfold oA
 split
 ·exact ⟨rfl,Uz l⟩
 ·exact ⟨hl,h⟩
theorem Ql (h key:List Int) {l:List Int} (r s:Int) (hl:l.length=3) (h0:R (g l 0)):Tr Tryz.prog none 1 (inner (inner (aA 3 Qj))) (A7 h key l r s 0) .normal (A7 h key (oA l) r s 1):=by
 have e:=aG hl
 unfold oA
 split
 ·rename_i ht
  have k:=ab1 h key l r s
  rw [e,ep h0 vt,decide_eq_true ht] at k
  exact Tr.post (Tr.cut (pN true) 60 _ 4 (by omega) k rfl) (bq.same rfl rfl)
 ·rename_i ht
  have k:=ab2 h key l r s
  rw [e,ep h0 vt,decide_eq_false ht] at k
  exact Tr.post (Tr.cut (pN false) 60 _ 4 (by omega) k rfl) (bq.same rfl rfl)
theorem Qm (h key:List Int) {l:List Int} (r s:Int) (hl:l.length=3) (h0:R (g l 0)):Tr Tryz.prog none 1 (inner (inner (aA 3 Qj))) (A7 h key l r s 1) .normal (A7 h key (oA l) r s 2):=by
 have e:=aG hl
 unfold oA
 split
 ·rename_i ht
  have k:=ab3 h key l r s
  rw [e,ep h0 vt,decide_eq_true ht] at k
  exact Tr.post (Tr.cut (pN true) 60 _ 4 (by omega) k rfl) (bq.same rfl rfl)
 ·rename_i ht
  have k:=ab4 h key l r s
  rw [e,ep h0 vt,decide_eq_false ht] at k
  exact Tr.post (Tr.cut (pN false) 60 _ 4 (by omega) k rfl) (bq.same rfl rfl)
noncomputable def Qn (h key:List Int):List Int:=enW (oA (oA h)) key
theorem WB {h key:List Int} (r s:Int) (hl:h.length=3) (hh:∀i,R (g h i)) (hk:key.length=32):ai Tryz.prog 152 [.ptr 0 0 0,.agg [.ints .u8 32 key]] [su h r s] (.agg [.ints .u8 16 (Qn h key)]) [su h r s]:=by
 obtain ⟨l1,r1⟩:=UA hl hh
 obtain ⟨l2,r2⟩:=UA l1 r1
 have bY:Tr Tryz.prog none 1 (aA 3 Qj) (A7 (aH 3 h) key h r s 0) .normal (A7 (aH 3 h) key (oA (oA h)) r s 2):=
  Tr.Bk 0 (by kernel_rfl) (iR.step (Ql _ key r s hl (hh 0)) (iR.step (Qm _ key r s l1 (r1 0)) (iR.leave (Tr.cut (pN true) 60 _ 4 (by omega) (WA (aH 3 h) key (oA (oA h)) r s) rfl) (by simp))))
 have k:ai Tryz.prog 152 [.ptr 0 0 0,.agg [.ints .u8 32 key]] [su (aH 3 h) r s] (.agg [.ints .u8 16 (enW (aH 3 (oA (oA h))) key)]) [su (aH 3 h) r s]:=by
  refine ai.cu (pN true) 60 4 1 Tryz.func152 (by simp) rfl (fun s' x hx=>?_) (s:=A7 (aH 3 h) key (oA (oA h)) r s 2) (p:=enO (aH 3 (oA (oA h))) key) ?_ ?_ rfl rfl
  ·refine bf.items (pN true) 60 3 _ 4 (by simp) (Qk h key r s) rfl (by decide) ?_
   exact bf.item 3 (by decide) bY hx
  ·generalize oA (oA h)=l
   kernel_rfl
  ·unfold enO nh J6
   rw [aG l2,ep (r2 0) (m9 _)]
   simp [hk,aa]
 rw [aG hl,aG l2] at k
 exact k
noncomputable def ab5:List SV→List Blk→Option (SV×Bool)
 | [.ptr 0 0 0,.agg [.ints .u8 32 key]],[.b [.ints .u64 3 h,.int .u64 r,.int .u64 s]]=>some (.agg [.ints .u8 16 (Qn h key)],decide (h.length=3)&&Fe.u64 (g h 0)&&Fe.u64 (g h 1)&&Fe.u64 (g h 2)&&decide (key.length=32))
 |_,_=>none
def ab6 (vs:List SV):List Nat:=match vs with
 | .ptr b _ _::_=>[b]
 |_=>[]
noncomputable def ab7:Entry Tryz.prog:=.Qo 152 _ Tryz.func152 (by decide) rfl ab6 ab5 fun vs h0 v e=>by
 unfold ab5 at e
 split at e
 ·rename_i key h r s
  simp only [Option.some.injEq,Prod.mk.injEq,Bool.and_eq_true,decide_eq_true_eq] at e
  obtain ⟨rfl,⟨⟨⟨h1,h2⟩,h3⟩,h4⟩,h5⟩:=e
  refine WB _ _ h1 (fun i=>?_) h5
  match i with
  |0=>exact Fe.jN.1 h2
  |1=>exact Fe.jN.1 h3
  |2=>exact Fe.jN.1 h4
  |n+3=>
   have:g h (n+3)=0:=by
    unfold g
    rw [List.getD_eq_getElem?_getD,List.getElem?_eq_none (by omega)];rfl
   rw [this];exact eL
 ·cases e
end Go.Proofs.YtibfpjeeanppjaaGreat.Ae
end
