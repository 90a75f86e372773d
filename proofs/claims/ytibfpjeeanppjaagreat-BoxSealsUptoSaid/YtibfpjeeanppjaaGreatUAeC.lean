/- This file holds the texts AeA, AeB, AeC, a section each. No conditions beyond those in the theorems. -/
import Derived.Test.YtibfpjeeanppjaaGreatUMe
import Derived.Test.YtibfpjeeanppjaaGreatUShG
set_option linter.all false
set_option maxRecDepth 100000
section
namespace Go.Proofs.YtibfpjeeanppjaaGreat.Ae
open Go Go.Sy
abbrev W (n:Int):Int:=IntKind.u64.wrap n
noncomputable def c0:bK:=mk (P:=Tryz.prog) [] []
theorem Di:ag Tryz.prog c0:=ai _ aF.nil _ _
def dh (l:List Int):Int:=[7,6,5,4,3,2,1,0].foldl (fun n i=>gj .u64 (cV .u64 n 8) (W (l.getD i 0))) 0
theorem Tw {l:List Int} (h:8≤l.length):aj Tryz.prog 150 [.ro false .u8 l] [] (.int .u64 (dh l)) []:=by
 have i8:∀i:Nat,i<8→cK (i:Int) l.length=true:=fun i hi=>by
  unfold cK
  simp only [Bool.and_eq_true,decide_eq_true_eq]
  omega
 have d8:∀i:Nat,i<8→decide (i<l.length)=true:=fun i hi=>decide_eq_true (by omega)
 exact aP Di 200 Tryz.func150 (p:=[7,6,5,4,3,2,1,0].foldl (fun o i=>aa (aa o (cK ((i:Nat):Int) l.length)) (decide (i<l.length))) true) (by kernel_rfl)
  (by simp only [List.foldl,i8 7 (by decide),i8 6 (by decide),i8 5 (by decide),i8 4 (by decide),i8 3 (by decide),i8 2 (by decide),i8 1 (by decide),i8 0 (by decide),d8 7 (by decide),d8 6 (by decide),d8 5 (by decide),d8 4 (by decide),d8 3 (by decide),d8 2 (by decide),d8 1 (by decide),d8 0 (by decide)];rfl) rfl
def YF:List SV→Option (SV×List Blk×Bool)
 | [.ro false .u8 l]=>some (.int .u64 (dh l),[],decide (8≤l.length))
 |_=>none
noncomputable def NJ:Entry Tryz.prog:=.val 150 _ Tryz.func150 (by decide) rfl true 0 YF fun vs v new e=>by
 unfold YF at e
 split at e
 ·simp only [Option.some.injEq,Prod.mk.injEq,decide_eq_true_eq] at e
  obtain ⟨rfl,rfl,h⟩:=e
  exact Tw h
 ·cases e
def dS (n:Int):List Int:=(List.range 8).map fun i=>IntKind.u8.wrap (bh .u64 n (8*i))
theorem Tx (n:Int):aj Tryz.prog 73 [.int .u64 n] [] (.ro true .u8 (dS n)) []:=
 aj.frozen (N:=8) (ex:=true) (wh:=true) (aj.dU Di Tryz.func73 (n:=200) (by kernel_rfl)) rfl
def YG:List SV→Option (SV×List Blk×Bool)
 | [.int .u64 n]=>some (.ro true .u8 (dS n),[],true)
 |_=>none
noncomputable def Ty:Entry Tryz.prog:=.val 73 _ Tryz.func73 (by decide) rfl false 0 YG fun vs v new e=>by
 unfold YG at e
 split at e
 ·cases e;exact Tx _
 ·cases e
def g (m:List Int) (i:Nat):Int:=m.getD i 0
noncomputable def NK (x y:Int) (m:List Int):List Int:=[g m 0,Fe.b8 (g m 1) (Fe.mulL x y) 0,Fe.b8 (g m 2) (Fe.eO x y) (Fe.bG (g m 1) (Fe.mulL x y) 0),W (g m 3+Fe.bG (g m 2) (Fe.eO x y) (Fe.bG (g m 1) (Fe.mulL x y) 0))]
noncomputable def NL (x y:Int) (m:List Int):List Int:=[g m 0,g m 1,Fe.b8 (g m 2) (Fe.mulL x y) 0,Fe.b8 (g m 3) (Fe.eO x y) (Fe.bG (g m 2) (Fe.mulL x y) 0)]
noncomputable def atC:bK:=mk (P:=Tryz.prog) [Fe.tv,Fe.Br] []
theorem Ht:ag Tryz.prog atC:=ai _ aF.nil _ _
noncomputable def atF:List SV→List Blk→Option (SV×List Blk×Bool)
 | [.int .i64 i,.int .u64 x,.int .u64 y,.ptr 0 0 0],[.b [.ints .u64 4 m]]=>bif i==1 then some (.bk [],[.b [.ints .u64 4 (NK x y m)]],decide (m.length=4)&&Fe.cS (Fe.bG (g m 1) (Fe.mulL x y) 0)) else
  bif i==2 then some (.bk [],[.b [.ints .u64 4 (NL x y m)]],decide (m.length=4)&&Fe.cS (Fe.bG (g m 2) (Fe.mulL x y) 0)) else none
 |_,_=>none
def Hu (vs:List SV) (_:List Blk):List Nat:=match vs with
 | [_,_,_,.ptr b _ _]=>[b]
 |_=>[]
theorem Tz {x y:Int} {m:List Int} (hm:m.length=4) (hc:Fe.cS (Fe.bG (g m 1) (Fe.mulL x y) 0)=true):aj Tryz.prog 169 [.int .i64 1,.int .u64 x,.int .u64 y,.ptr 0 0 0] [.b [.ints .u64 4 m]] (.bk []) [.b [.ints .u64 4 (NK x y m)]]:=by
 have k:aj Tryz.prog 169 [.int .i64 1,.int .u64 x,.int .u64 y,.ptr 0 0 0] [.b [.ints .u64 4 (aO 4 m)]] (.bk []) [.b [.ints .u64 4 (NK x y m)]]:=
  dF Ht 60 Tryz.func169 1 (by simp) (p:=aa true (Fe.cS (Fe.bG (g m 1) (Fe.mulL x y) 0))) (by kernel_rfl) (by rw [hc];rfl) rfl rfl
 rw [aJ hm] at k
 exact k
theorem TA {x y:Int} {m:List Int} (hm:m.length=4) (hc:Fe.cS (Fe.bG (g m 2) (Fe.mulL x y) 0)=true):aj Tryz.prog 169 [.int .i64 2,.int .u64 x,.int .u64 y,.ptr 0 0 0] [.b [.ints .u64 4 m]] (.bk []) [.b [.ints .u64 4 (NL x y m)]]:=by
 have k:aj Tryz.prog 169 [.int .i64 2,.int .u64 x,.int .u64 y,.ptr 0 0 0] [.b [.ints .u64 4 (aO 4 m)]] (.bk []) [.b [.ints .u64 4 (NL x y m)]]:=
  dF Ht 60 Tryz.func169 1 (by simp) (p:=aa true (Fe.cS (Fe.bG (g m 2) (Fe.mulL x y) 0))) (by kernel_rfl) (by rw [hc];rfl) rfl rfl
 rw [aJ hm] at k
 exact k
noncomputable def atE:Entry Tryz.prog:=.mut 169 _ Tryz.func169 (by decide) rfl Hu 0 atF fun vs h0 v h1 e=>by
 unfold atF at e
 split at e
 ·rename_i i x y m
  by_cases h1:i=1
  ·subst h1
   simp only [beq_self_eq_true,cond_true,Option.some.injEq,Prod.mk.injEq,Bool.and_eq_true,decide_eq_true_eq] at e
   obtain ⟨rfl,rfl,hm,hc⟩:=e
   exact Tz hm hc
  ·rw [beq_false_of_ne h1] at e
   by_cases h2:i=2
   ·subst h2
    simp only [beq_self_eq_true,cond_true,cond_false,Option.some.injEq,Prod.mk.injEq,Bool.and_eq_true,decide_eq_true_eq] at e
    obtain ⟨rfl,rfl,hm,hc⟩:=e
    exact TA hm hc
   ·rw [beq_false_of_ne h2] at e;cases e
 ·cases e
end Go.Proofs.YtibfpjeeanppjaaGreat.Ae
end
section
namespace Go.Proofs.YtibfpjeeanppjaaGreat.Ae
open Go Go.Sy
def R (x:Int):Prop:=0≤x∧x<18446744073709551616
theorem GZ (n:Int):R (W n):=by
 unfold W R
 rw [Fe.wrap_u64]
 exact ⟨Int.emod_nonneg _ (by decide),Int.emod_lt_of_pos _ (by decide)⟩
theorem kN (x y c:Int):R (Fe.b8 x y c):=by
 unfold Fe.b8 R
 rw [aq]
 have e:Extern.MathBitsCarry.m64=18446744073709551616:=rfl
 rw [e]
 have:=Nat.mod_lt (x.toNat+y.toNat+c.toNat) (show 0<18446744073709551616 by decide)
 simp only [Int.ofNat_eq_natCast]
 omega
theorem tw (x y:Int):R (Fe.mulL x y):=by rw [Fe.mulL,aq];exact GZ _
theorem TB (x y:Int):R (Fe.eO x y):=by rw [Fe.eO,aq];exact GZ _
theorem TC (a b:Int):R (gj .u64 a b):=GZ _
theorem YH (a b:Int):R (bR .u64 a b):=GZ _
theorem zh (a b:Int):R (fL .u64 a b):=GZ _
theorem dV {x y:Int} (hx:R x) (hy:R y):Fe.cS (Fe.bG x y 0)=true:=by
 obtain ⟨_,h⟩:=Fe.pG hx.1 hy.1 (Int.le_refl 0)
 unfold Fe.cS
 rw [h]
 have:=hx.2
 have:=hy.2
 exact decide_eq_true (by omega)
theorem eC:R 0:=⟨by decide,by decide⟩
theorem lZ (l:List Int):R (dh l):=by
 unfold dh
 simp only [List.foldl]
 exact TC _ _
noncomputable def TD (h:List Int) (r:Int):List Int:=[Fe.mulL (g h 0) r,Fe.eO (g h 0) r,0,0]
noncomputable def ti1 (h:List Int) (r s:Int):List Int:=NK (g h 0) s (TD h r)
noncomputable def ti2 (h:List Int) (r s:Int):List Int:=NK (g h 1) r (ti1 h r s)
noncomputable def TE (h:List Int) (r s:Int):List Int:=NL (g h 1) s (ti2 h r s)
noncomputable def sR (h:List Int) (r s:Int):List Int:=NL (g h 2) r (TE h r s)
noncomputable def vL (h:List Int) (r s:Int):List Int:=[g (sR h r s) 0,g (sR h r s) 1,g (sR h r s) 2,W (g (sR h r s) 3+W (g h 2*s))]
noncomputable def TF (h:List Int) (r s:Int):Bool:=aa (aa (aa (aa true (aa true (Fe.cS (Fe.bG (g (TD h r) 1) (Fe.mulL (g h 0) s) 0)))) (aa true (Fe.cS (Fe.bG (g (ti1 h r s) 1) (Fe.mulL (g h 1) r) 0)))) (aa true (Fe.cS (Fe.bG (g (ti2 h r s) 2) (Fe.mulL (g h 1) s) 0)))) (aa true (Fe.cS (Fe.bG (g (TE h r s) 2) (Fe.mulL (g h 2) r) 0)))
noncomputable def rd (h:List Int) (x y:Int):List Int:=[Fe.b8 (g h 0) x 0,Fe.b8 (g h 1) y (Fe.bG (g h 0) x 0),W (g h 2+Fe.bG (g h 1) y (Fe.bG (g h 0) x 0))]
noncomputable def RC (m:List Int):List Int:=rd (rd [g m 0,g m 1,bR .u64 (g m 2) 3] (fL .u64 (g m 2) 3) (g m 3)) (gj .u64 (bh .u64 (g m 2) 2) (cV .u64 (g m 3) 62)) (bh .u64 (g m 3) 2)
noncomputable def vM (m:List Int):Bool:=aa (aa true (Fe.cS (Fe.bG (g m 0) (fL .u64 (g m 2) 3) 0))) (Fe.cS (Fe.bG (Fe.b8 (g m 0) (fL .u64 (g m 2) 3) 0) (gj .u64 (bh .u64 (g m 2) 2) (cV .u64 (g m 3) 62)) 0))
noncomputable def jR (h:List Int) (r s:Int):List Int:=gz (RC (vL h r s))
noncomputable def tiC:bK:=mk (P:=Tryz.prog) [Fe.tv,Fe.Br,atE] []
theorem Hv:ag Tryz.prog tiC:=ai _ aF.nil _ _
noncomputable def X6:Code:=aH Tryz.f167
noncomputable def su (h:List Int) (r s:Int):Blk:=.b [.ints .u64 3 h,.int .u64 r,.int .u64 s]
noncomputable def vN (h m:List Int) (r s:Int):St:=⟨slotsOf 164 [(0,.ptr 0 0 0),(4,.ptr 1 0 0)],[su h r s,.b [.ints .u64 4 m]],true⟩
theorem xe (h:List Int) (r s:Int):(az Tryz.prog tiC 60 1 8 (atoms X6) ⟨aT Tryz.f167.ntmps [.ptr 0 0 0],[su h r s],true⟩).bind (St.cut [0,4] 2)=some {vN h (vL h r s) r s with ob:=TF h r s}:=by kernel_rfl
theorem RD {x y:Int} {m:List Int} (h:R (g m 0)):∀i,R (g (NK x y m) i):=fun i=>by
 match i with
 |0=>exact h
 |1=>exact kN _ _ _
 |2=>exact kN _ _ _
 |3=>exact GZ _
 |n+4=>exact eC
theorem RE {x y:Int} {m:List Int} (h:R (g m 0)) (h1:R (g m 1)):∀i,R (g (NL x y m) i):=fun i=>by
 match i with
 |0=>exact h
 |1=>exact h1
 |2=>exact kN _ _ _
 |3=>exact kN _ _ _
 |n+4=>exact eC
theorem TG (h:List Int) (r s:Int):(∀i,R (g (TD h r) i))∧(∀i,R (g (ti1 h r s) i))∧(∀i,R (g (ti2 h r s) i))∧(∀i,R (g (TE h r s) i))∧(∀i,R (g (sR h r s) i)):=by
 have h0:∀i,R (g (TD h r) i):=fun i=>by
  match i with
  |0=>exact tw _ _
  |1=>exact TB _ _
  |2=>exact eC
  |3=>exact eC
  |n+4=>exact eC
 have h1:∀i,R (g (ti1 h r s) i):=RD (h0 0)
 have h2:∀i,R (g (ti2 h r s) i):=RD (h1 0)
 have h3:∀i,R (g (TE h r s) i):=RE (h2 0) (h2 1)
 exact ⟨h0,h1,h2,h3,RE (h3 0) (h3 1)⟩
theorem Hw (h:List Int) (r s:Int):TF h r s=true:=by
 obtain ⟨h0,h1,h2,h3,_⟩:=TG h r s
 unfold TF
 rw [dV (h0 1) (tw _ _),dV (h1 1) (tw _ _),dV (h2 2) (tw _ _),dV (h3 2) (tw _ _)]
 rfl
theorem RF (h:List Int) (r s:Int):∀i,R (g (vL h r s) i):=fun i=>by
 obtain ⟨_,_,_,_,h4⟩:=TG h r s
 match i with
 |0=>exact h4 0
 |1=>exact h4 1
 |2=>exact h4 2
 |3=>exact GZ _
 |n+4=>exact eC
theorem cN {m:List Int} (h:∀i,R (g m i)):vM m=true:=by
 unfold vM
 rw [dV (h 0) (zh _ _),dV (kN _ _ _) (TC _ _)]
 rfl
theorem YI (m:List Int):∀i,R (g (RC m) i):=fun i=>by
 match i with
 |0=>exact kN _ _ _
 |1=>exact kN _ _ _
 |2=>exact GZ _
 |n+3=>exact eC
theorem Hx (h:List Int) (r s:Int):(jR h r s).length=3∧∀i,R (g (jR h r s) i):=by
 rw [jR,aq]
 exact ⟨rfl,YI _⟩
theorem tA {h:List Int} (r s:Int) (hl:h.length=3):aj Tryz.prog 167 [.ptr 0 0 0] [su h r s] (.bk []) [su (jR h r s) r s]:=by
 have k:aj Tryz.prog 167 [.ptr 0 0 0] [su (aO 3 h) r s] (.bk []) [su (RC (aO 4 (vL (aO 3 h) r s))) r s]:=by
  refine aj.cg Hv 60 8 1 Tryz.func167 (by simp) rfl (fun s' x hh=>?_) (s:=vN (aO 3 h) (aO 4 (vL (aO 3 h) r s)) r s) (p:=vM (aO 4 (vL (aO 3 h) r s))) ?_ ?_ rfl rfl
  ·refine aG.items Hv 60 8 _ 2 (by simp) (xe (aO 3 h) r s) (Hw _ _ _) (by decide) ?_
   rw [aJ (show (vL (aO 3 h) r s).length=4 from rfl)] at hh
   exact aG.pre hh (aU.same rfl rfl) (by decide)
  ·generalize vL (aO 3 h) r s=m
   kernel_rfl
  ·rw [aJ (show (vL (aO 3 h) r s).length=4 from rfl)]
   exact cN (RF _ _ _)
 rw [aJ hl,aJ (show (vL h r s).length=4 from rfl)] at k
 rw [jR,aq]
 exact k
def RG (vs:List SV) (_:List Blk):List Nat:=match vs with
 | .ptr b _ _::_=>[b]
 |_=>[]
noncomputable def tB:List SV→List Blk→Option (SV×List Blk×Bool)
 | [.ptr 0 0 0],[.b [.ints .u64 3 h,.int .u64 r,.int .u64 s]]=>some (.bk [],[su (jR h r s) r s],decide (h.length=3))
 |_,_=>none
noncomputable def xg:Entry Tryz.prog:=.mut 167 _ Tryz.func167 (by decide) rfl RG 0 tB fun vs h0 v h1 e=>by
 unfold tB at e
 split at e
 ·simp only [Option.some.injEq,Prod.mk.injEq,decide_eq_true_eq] at e
  obtain ⟨rfl,rfl,h⟩:=e
  exact tA _ _ h
 ·cases e
end Go.Proofs.YtibfpjeeanppjaaGreat.Ae
end
section
namespace Go.Proofs.YtibfpjeeanppjaaGreat.Ae
open Go Go.Sy
def bW (p:List Int):List Int:=(nN (List.replicate 17 0) 0 p (Nat.min p.length 17)).set (0+(p.length:Int).toNat) 1
def bH (p:List Int):List Int:=((bW p).drop 8).take 9
noncomputable def zi (h p:List Int):List Int:=[Fe.b8 (g h 0) (dh (bW p)) 0,Fe.b8 (g h 1) (dh (bH p)) (Fe.bG (g h 0) (dh (bW p)) 0),W (g h 2+W (W ((bW p).getD 16 0)+Fe.bG (g h 1) (dh (bH p)) (Fe.bG (g h 0) (dh (bW p)) 0)))]
noncomputable def YJ:bK:=mk (P:=Tryz.prog) [Fe.tv,NJ,xg] []
theorem Hy:ag Tryz.prog YJ:=ai _ aF.nil _ _
noncomputable def TH (h p:List Int):Bool:=
 let L:=p.length
 let b0:=nN (List.replicate 17 0) 0 p (Nat.min L 17)
 let o1:=aa (aa (aa true (aa true (true&&decide (0+Nat.min L 17≤17)&&decide (Nat.min L 17≤L)))) (cK (L:Int) 17)) (decide (0+(L:Int).toNat<17)&&decide (b0.length=17))
 let o2:=aa o1 (aa (aa (decide ((bW p).length=17)&&true) (decide ((bW p).length=17))) (decide (8≤(bW p).length)))
 let o3:=aa o2 (aa (aa (true&&decide (17≤(bW p).length)) (decide ((bH p).length=9))) (decide (8≤(bH p).length)))
 aa (aa o3 (Fe.cS (Fe.bG (g h 0) (dh (bW p)) 0))) (aa true (decide (3=3)))
theorem TI {p:List Int} (hp:p.length≤16):(nN (List.replicate 17 0) 0 p (Nat.min p.length 17)).length=17∧(bW p).length=17∧(bH p).length=9:=by
 have e:Nat.min p.length 17=p.length:=Nat.min_eq_left (by omega)
 have h1:(nN (List.replicate 17 (0:Int)) 0 p (Nat.min p.length 17)).length=17:=ow (by simp) (by rw [e];omega) (by rw [e];exact Nat.le_refl _)
 have h2:(bW p).length=17:=by unfold bW;rw [List.length_set];exact h1
 exact ⟨h1,h2,by unfold bH;rw [List.length_take,List.length_drop,h2];rfl⟩
theorem FC {h p:List Int} (h0:R (g h 0)) (hp:p.length≤16):TH h p=true:=by
 obtain ⟨h1,h2,h3⟩:=TI hp
 have e:Nat.min p.length 17=p.length:=Nat.min_eq_left (by omega)
 have hi:cK (p.length:Int) 17=true:=by
  unfold cK
  simp only [Bool.and_eq_true,decide_eq_true_eq]
  omega
 unfold TH
 simp only [h1,h2,h3,hi,dV h0 (lZ _)]
 rw [e,decide_eq_true (show 0+p.length≤17 by omega),decide_eq_true (Nat.le_refl _),decide_eq_true (show 0+(p.length:Int).toNat<17 by omega)]
 rfl
noncomputable def nO (h p:List Int) (r s:Int):List Int:=jR (zi h p) r s
theorem Bs {h p:List Int} (r s:Int) (hl:h.length=3) (h0:R (g h 0)) (hp:p.length≤16):aj Tryz.prog 151 [.ptr 0 0 0,.ro false .u8 p] [su h r s] (.bk []) [su (nO h p r s) r s]:=by
 have k:aj Tryz.prog 151 [.ptr 0 0 0,.ro false .u8 p] [su (aO 3 h) r s] (.bk []) [su (nO (aO 3 h) p r s) r s]:=
  dF Hy 60 Tryz.func151 1 (by simp) (p:=TH (aO 3 h) p) (by kernel_rfl) (FC (by rw [aJ hl];exact h0) hp) rfl rfl
 rw [aJ hl] at k
 exact k
theorem TJ (h p:List Int) (r s:Int):(nO h p r s).length=3∧∀i,R (g (nO h p r s) i):=Hx _ _ _
noncomputable def Hz:List SV→List Blk→Option (SV×List Blk×Bool)
 | [.ptr 0 0 0,.ro false .u8 p],[.b [.ints .u64 3 h,.int .u64 r,.int .u64 s]]=>some (.bk [],[su (nO h p r s) r s],decide (h.length=3)&&Fe.u64 (g h 0)&&decide (p.length≤16))
 |_,_=>none
noncomputable def tC:Entry Tryz.prog:=.mut 151 _ Tryz.func151 (by decide) rfl RG 0 Hz fun vs h0 v h1 e=>by
 unfold Hz at e
 split at e
 ·simp only [Option.some.injEq,Prod.mk.injEq,Bool.and_eq_true,decide_eq_true_eq] at e
  obtain ⟨rfl,rfl,⟨h1,h2⟩,h3⟩:=e
  exact Bs _ _ h1 (Fe.jr.1 h2) h3
 ·cases e
noncomputable def G3 (l:List Int):Int:=W (g l 2+Fe.bG (g l 1) 0 (Fe.bG (g l 0) 5 0))
noncomputable def RH (l:List Int):List Int:=[Fe.b8 (g l 0) 5 0,Fe.b8 (g l 1) 0 (Fe.bG (g l 0) 5 0),W (G3 l-4)]
noncomputable def lX (l:List Int):List Int:=if G3 l≥4 then RH l else l
noncomputable def TK (a:Bool):bK:=mk (P:=Tryz.prog) [Fe.tv,NJ,Ty,Sh.js] [] fun i=>if i=38 then some a else none
theorem oz (a:Bool):ag Tryz.prog (TK a):=ai _ aF.nil _ _
noncomputable def NM:Code:=aH Tryz.f152
noncomputable def y7 (h key l:List Int) (r s i:Int):St:=⟨slotsOf 71 [(3,.ptr 1 0 0),(4,.ptr 2 0 0),(5,.ptr 3 0 0),(18,.int .i64 i)],[su h r s,.b [.ints .u8 32 key],.b [.ints .u8 16 (List.replicate 16 0)],.b [.ints .u64 3 (aO 3 l)]],true⟩
def lR (key:List Int):List Int:=(key.drop 16).take 16
def G4 (key:List Int):List Int:=(key.drop 24).take 8
noncomputable def enW (l key:List Int):List Int:=dS (Fe.b8 (g l 0) (dh (lR key)) 0)++dS (Fe.b8 (g l 1) (dh (G4 key)) (Fe.bG (g l 0) (dh (lR key)) 0))
noncomputable def enO (l key:List Int):Bool:=aa (aa (aa true (aa (aa (true&&decide (32≤key.length)) (decide ((lR key).length=16))) (decide (8≤(lR key).length)))) (aa (aa (true&&decide (32≤key.length)) (decide ((G4 key).length=8))) (decide (8≤(G4 key).length)))) (Fe.cS (Fe.bG (g l 0) (dh (lR key)) 0))
section
variable (h key l:List Int) (r s:Int)
theorem NN:(az Tryz.prog (TK true) 60 1 3 (atoms NM) ⟨aT Tryz.f152.ntmps [.ptr 0 0 0,.agg [.ints .u8 32 key]],[su (aO 3 h) r s],true⟩).bind (St.cut [3,4,5,18] 4)=some (y7 (aO 3 h) key h r s 0):=by kernel_rfl
theorem YK:(exec Tryz.prog (TK true) 60 1 (inner (inner (ak 3 NM))) (y7 h key l r s 0)).bind (fun r=>(r.2.cut [3,4,5,18] 4).map fun q=>(r.1,q))=
  some (.normal,{y7 h key (RH (aO 3 l)) r s 1 with ob:=aa (aa true (Fe.cS (Fe.bG (g (aO 3 l) 0) 5 0))) (decide (G3 (aO 3 l)≥4))}):=by kernel_rfl
theorem YL:(exec Tryz.prog (TK false) 60 1 (inner (inner (ak 3 NM))) (y7 h key l r s 0)).bind (fun r=>(r.2.cut [3,4,5,18] 4).map fun q=>(r.1,q))=
  some (.normal,{y7 h key l r s 1 with ob:=aa (aa true (Fe.cS (Fe.bG (g (aO 3 l) 0) 5 0))) (!decide (G3 (aO 3 l)≥4))}):=by kernel_rfl
theorem YM:(exec Tryz.prog (TK true) 60 1 (inner (inner (ak 3 NM))) (y7 h key l r s 1)).bind (fun r=>(r.2.cut [3,4,5,18] 4).map fun q=>(r.1,q))=
  some (.normal,{y7 h key (RH (aO 3 l)) r s 2 with ob:=aa (aa true (Fe.cS (Fe.bG (g (aO 3 l) 0) 5 0))) (decide (G3 (aO 3 l)≥4))}):=by kernel_rfl
theorem YN:(exec Tryz.prog (TK false) 60 1 (inner (inner (ak 3 NM))) (y7 h key l r s 1)).bind (fun r=>(r.2.cut [3,4,5,18] 4).map fun q=>(r.1,q))=
  some (.normal,{y7 h key l r s 2 with ob:=aa (aa true (Fe.cS (Fe.bG (g (aO 3 l) 0) 5 0))) (!decide (G3 (aO 3 l)≥4))}):=by kernel_rfl
theorem TL:(exec Tryz.prog (TK true) 60 1 (inner (inner (ak 3 NM))) (y7 h key l r s 2)).bind (fun r=>(r.2.cut [3,4,5,18] 4).map fun q=>(r.1,q))=
  some (.exit 0,y7 h key l r s 2):=by kernel_rfl
end
theorem tD:R 5:=⟨by decide,by decide⟩
theorem RI (l:List Int):∀i,R (g (RH l) i):=fun i=>by
 match i with
 |0=>exact kN _ _ _
 |1=>exact kN _ _ _
 |2=>exact GZ _
 |n+3=>exact eC
theorem RJ {l:List Int} (hl:l.length=3) (h:∀i,R (g l i)):(lX l).length=3∧∀i,R (g (lX l) i):=by
 unfold lX
 split
 ·exact ⟨rfl,RI l⟩
 ·exact ⟨hl,h⟩
theorem NO (h key:List Int) {l:List Int} (r s:Int) (hl:l.length=3) (h0:R (g l 0)):Tr Tryz.prog none 1 (inner (inner (ak 3 NM))) (y7 h key l r s 0) .normal (y7 h key (lX l) r s 1):=by
 have e:=aJ hl
 unfold lX
 split
 ·rename_i ht
  have k:=YK h key l r s
  rw [e,dV h0 tD,decide_eq_true ht] at k
  exact Tr.post (Tr.cut (oz true) 60 _ 4 (by omega) k rfl) (aU.same rfl rfl)
 ·rename_i ht
  have k:=YL h key l r s
  rw [e,dV h0 tD,decide_eq_false ht] at k
  exact Tr.post (Tr.cut (oz false) 60 _ 4 (by omega) k rfl) (aU.same rfl rfl)
theorem NP (h key:List Int) {l:List Int} (r s:Int) (hl:l.length=3) (h0:R (g l 0)):Tr Tryz.prog none 1 (inner (inner (ak 3 NM))) (y7 h key l r s 1) .normal (y7 h key (lX l) r s 2):=by
 have e:=aJ hl
 unfold lX
 split
 ·rename_i ht
  have k:=YM h key l r s
  rw [e,dV h0 tD,decide_eq_true ht] at k
  exact Tr.post (Tr.cut (oz true) 60 _ 4 (by omega) k rfl) (aU.same rfl rfl)
 ·rename_i ht
  have k:=YN h key l r s
  rw [e,dV h0 tD,decide_eq_false ht] at k
  exact Tr.post (Tr.cut (oz false) 60 _ 4 (by omega) k rfl) (aU.same rfl rfl)
noncomputable def HA (h key:List Int):List Int:=enW (lX (lX h)) key
theorem TM {h key:List Int} (r s:Int) (hl:h.length=3) (hh:∀i,R (g h i)) (hk:key.length=32):aj Tryz.prog 152 [.ptr 0 0 0,.agg [.ints .u8 32 key]] [su h r s] (.agg [.ints .u8 16 (HA h key)]) [su h r s]:=by
 obtain ⟨l1,r1⟩:=RJ hl hh
 obtain ⟨l2,r2⟩:=RJ l1 r1
 have bS:Tr Tryz.prog none 1 (ak 3 NM) (y7 (aO 3 h) key h r s 0) .normal (y7 (aO 3 h) key (lX (lX h)) r s 2):=
  Tr.jt 0 (by kernel_rfl) (dy.step (NO _ key r s hl (hh 0)) (dy.step (NP _ key r s l1 (r1 0)) (dy.leave (Tr.cut (oz true) 60 _ 4 (by omega) (TL (aO 3 h) key (lX (lX h)) r s) rfl) (by simp))))
 have k:aj Tryz.prog 152 [.ptr 0 0 0,.agg [.ints .u8 32 key]] [su (aO 3 h) r s] (.agg [.ints .u8 16 (enW (aO 3 (lX (lX h))) key)]) [su (aO 3 h) r s]:=by
  refine aj.cg (oz true) 60 4 1 Tryz.func152 (by simp) rfl (fun s' x hx=>?_) (s:=y7 (aO 3 h) key (lX (lX h)) r s 2) (p:=enO (aO 3 (lX (lX h))) key) ?_ ?_ rfl rfl
  ·refine aG.items (oz true) 60 3 _ 4 (by simp) (NN h key r s) rfl (by decide) ?_
   exact aG.item 3 (by decide) bS hx
  ·generalize lX (lX h)=l
   kernel_rfl
  ·unfold enO lR G4
   rw [aJ l2,dV (r2 0) (lZ _)]
   simp [hk,aa]
 rw [aJ hl,aJ l2] at k
 exact k
noncomputable def YO:List SV→List Blk→Option (SV×Bool)
 | [.ptr 0 0 0,.agg [.ints .u8 32 key]],[.b [.ints .u64 3 h,.int .u64 r,.int .u64 s]]=>some (.agg [.ints .u8 16 (HA h key)],decide (h.length=3)&&Fe.u64 (g h 0)&&Fe.u64 (g h 1)&&Fe.u64 (g h 2)&&decide (key.length=32))
 |_,_=>none
def YP (vs:List SV):List Nat:=match vs with
 | .ptr b _ _::_=>[b]
 |_=>[]
noncomputable def YQ:Entry Tryz.prog:=.rdm 152 _ Tryz.func152 (by decide) rfl YP YO fun vs h0 v e=>by
 unfold YO at e
 split at e
 ·rename_i key h r s
  simp only [Option.some.injEq,Prod.mk.injEq,Bool.and_eq_true,decide_eq_true_eq] at e
  obtain ⟨rfl,⟨⟨⟨h1,h2⟩,h3⟩,h4⟩,h5⟩:=e
  refine TM _ _ h1 (fun i=>?_) h5
  match i with
  |0=>exact Fe.jr.1 h2
  |1=>exact Fe.jr.1 h3
  |2=>exact Fe.jr.1 h4
  |n+3=>
   have:g h (n+3)=0:=by
    unfold g
    rw [List.getD_eq_getElem?_getD,List.getElem?_eq_none (by omega)];rfl
   rw [this];exact eC
 ·cases e
end Go.Proofs.YtibfpjeeanppjaaGreat.Ae
end
