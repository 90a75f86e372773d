/- This file holds the texts S2D, S2E, S2F, a section each. No conditions beyond those in the theorems. -/
import Derived.Test.YtibfpjeeanppjaaGreatUS2C
import Derived.Test.YtibfpjeeanppjaaGreatUShK
import Derived.Test.YtibfpjeeanppjaaGreatUR3C
set_option linter.all false
set_option maxRecDepth 100000
section
namespace Go.Proofs.YtibfpjeeanppjaaGreat.Q2
open Go Go.Sy Sh
abbrev V (n:Int):Int:=IntKind.u32.wrap n
def vE (x n:Int):Int:=V (bh .u32 x n.toNat+cV .u32 x (Sh.W (32-n)).toNat)
def Tl:List SV→Option (SV×List Blk×Bool)
 | [.int .u32 x,.int .u64 n]=>some (.int .u32 (vE x n),[],decide (0≤n))
 |_=>none
noncomputable def acJ:Entry Tryz.prog:=.val 123 _ Tryz.func123 (by decide) rfl false 0 Tl fun vs v new e=>by
 unfold Tl at e
 split at e
 ·rename_i x n
  simp only [Option.some.injEq,Prod.mk.injEq,decide_eq_true_eq] at e
  obtain ⟨rfl,rfl,h⟩:=e
  exact aP lV 60 Tryz.func123 (p:=aa (aa true (decide (0≤n))) (W0 (32-n))) (by kernel_rfl) (by rw [Fj,decide_eq_true h];rfl) rfl
 ·cases e
noncomputable def sqC:bK:=mk (P:=Tryz.prog) [Rc] []
theorem C7:ag Tryz.prog sqC:=ai _ aF.nil _ _
theorem Da:aj Tryz.prog 121 [] [] (.ro true .u32 S2.gB) []:=
 aj.frozen (N:=64) (ex:=false) (wh:=true) (aj.R8 [1] (dF C7 200 Tryz.func121 2 (by simp) (v:=.sl 1 0 0 1 64 64 false true) (h1:=[.b [.ints .u32 1 [1116352408]],.b [.ints .u32 64 S2.gB]]) (p:=true) (by kernel_rfl) rfl rfl rfl) (by kernel_rfl)) (by kernel_rfl)
noncomputable def Bc:List SV→Option (SV×List Blk×Bool)
 | []=>some (.ro true .u32 S2.gB,[],true)
 |_=>none
noncomputable def MW:Entry Tryz.prog:=.val 121 _ Tryz.func121 (by decide) rfl false 0 Bc fun vs v new e=>by
 unfold Bc at e
 split at e
 ·cases e;exact Da
 ·cases e
noncomputable def rB:Code:=aH Tryz.f78
noncomputable def rO:Code:=inner (inner (ak 8 rB))
noncomputable def r3:Code:=inner (ak 2 rO)
noncomputable def rC (a b c d:Bool):bK:=mk (P:=Tryz.prog) [MW,Rd,acJ,acK] [] fun i=>if i=42 then some a else if i=46 then some b else if i=86 then some c else if i=133 then some d else if i=130 then some true else if i=84 then some true else none
theorem iF (a b c d:Bool):ag Tryz.prog (rC a b c d):=ai _ aF.nil _ _
def chQ (e f g:Int):Int:=cj .u32 (bR .u32 e f) (bR .u32 (V (4294967295-e)) g)
def YE (x a b c:Int):Int:=cj .u32 (cj .u32 (vE x a) (vE x b)) (vE x c)
def t1Q (s:List Int) (k w:Int):Int:=V (V (V (V (s.getD 7 0+YE (s.getD 4 0) 6 11 25)+chQ (s.getD 4 0) (s.getD 5 0) (s.getD 6 0))+k)+w)
def t2Q (s:List Int):Int:=V (YE (s.getD 0 0) 2 13 22+S2.mjW (s.getD 0 0) (s.getD 1 0) (s.getD 2 0))
def Db (s:List Int) (k w:Int):List Int:=[V (t1Q s k w+t2Q s),s.getD 0 0,s.getD 1 0,s.getD 2 0,V (s.getD 3 0+t1Q s k w),s.getD 4 0,s.getD 5 0,s.getD 6 0]
def nxQ (y x a b:Int):Int:=V (V (V (cj .u32 (cj .u32 (vE y 17) (vE y 19)) (bh .u32 y 10)+a)+cj .u32 (cj .u32 (vE x 7) (vE x 18)) (bh .u32 x 3))+b)
def ix (a i:Int):Int:=IntKind.i64.wrap (a+IntKind.i64.wrap (4*i))
def wq (p:List Int) (q:Int):Int:=V (V (V (V (V (p.getD q.toNat 0)*16777216)+V (V (p.getD (IntKind.i64.wrap (q+1)).toNat 0)*65536))+V (V (p.getD (IntKind.i64.wrap (q+2)).toNat 0)*256))+V (p.getD (IntKind.i64.wrap (q+3)).toNat 0))
def nxJ (w:List Int) (i:Int):Int:=nxQ (w.getD (0+(IntKind.i64.wrap (i-2)).toNat) 0) (w.getD (0+(IntKind.i64.wrap (i-15)).toNat) 0) (w.getD (0+(IntKind.i64.wrap (i-7)).toNat) 0) (w.getD (0+(IntKind.i64.wrap (i-16)).toNat) 0)
def nxP (i:Int) (n _l:Nat):Bool:=aa (aa (aa (aa (aa (aa (aa (aa (aa (aa true (decide (i<64))) (cK (IntKind.i64.wrap (i-15)) n)) (decide (0+(IntKind.i64.wrap (i-15)).toNat<n))) (cK (IntKind.i64.wrap (i-2)) n)) (decide (0+(IntKind.i64.wrap (i-2)).toNat<n)))
 (cK (IntKind.i64.wrap (i-7)) n)) (decide (0+(IntKind.i64.wrap (i-7)).toNat<n))) (cK (IntKind.i64.wrap (i-16)) n)) (decide (0+(IntKind.i64.wrap (i-16)).toNat<n))) (tK _l n)
noncomputable def sO (p kk h:List Int) (i:Int):St:=⟨slotsOf 252 [(2,.ptr 0 0 0),(4,.ptr 1 0 0),(6,.ro true .u32 kk),(7,.ro true .u8 p),(8,.int .i64 i)],[.b [.ints .u8 32 S2.Nq],.b [.ints .u32 8 (aO 8 h)]],true⟩
noncomputable def sN (p kk h:List Int) (a:Int):St:=⟨slotsOf 252 [(2,.ptr 0 0 0),(4,.ptr 1 0 0),(6,.ro true .u32 kk),(7,.ro true .u8 p),(8,.int .i64 a),(9,.nl (.slice none 0 0)),(10,.int .i64 0)],[.b [.ints .u8 32 S2.Nq],.b [.ints .u32 8 (aO 8 h)]],true⟩
noncomputable def sA (p kk h:List Int) (a:Int) (n:Nat) (w:List Int) (i:Int):St:=⟨slotsOf 252 [(2,.ptr 0 0 0),(4,.ptr 1 0 0),(6,.ro true .u32 kk),(7,.ro true .u8 p),(8,.int .i64 a),(9,.sl 2 0 0 1 n n false true),(10,.int .i64 i)],[.b [.ints .u8 32 S2.Nq],.b [.ints .u32 8 (aO 8 h)],.b [.ints .u32 n w]],true⟩
noncomputable def sB (p kk h:List Int) (a:Int) (n:Nat) (w:List Int) (i:Int):St:=⟨slotsOf 252 [(2,.ptr 0 0 0),(4,.ptr 1 0 0),(6,.ro true .u32 kk),(7,.ro true .u8 p),(8,.int .i64 a),(9,.sl 2 0 0 1 n n false true),(12,.int .i64 i)],[.b [.ints .u8 32 S2.Nq],.b [.ints .u32 8 (aO 8 h)],.b [.ints .u32 n w]],true⟩
noncomputable def sC (p kk h:List Int) (a:Int) (n:Nat) (w s:List Int) (i:Int):St:=⟨slotsOf 252 [(2,.ptr 0 0 0),(4,.ptr 1 0 0),(6,.ro true .u32 kk),(7,.ro true .u8 p),(8,.int .i64 a),(9,.sl 2 0 0 1 n n false true),(15,.ptr 3 0 0),(16,.int .i64 i)],[.b [.ints .u8 32 S2.Nq],.b [.ints .u32 8 (aO 8 h)],.b [.ints .u32 n w],.b [.ints .u32 8 (aO 8 s)]],true⟩
noncomputable def sD (p kk h:List Int) (a:Int) (n:Nat) (w s:List Int):St:=⟨slotsOf 252 [(2,.ptr 0 0 0),(4,.ptr 1 0 0),(6,.ro true .u32 kk),(7,.ro true .u8 p),(8,.int .i64 a),(15,.ptr 3 0 0),(20,.int .i64 0)],[.b [.ints .u8 32 S2.Nq],.b [.ints .u32 8 (aO 8 h)],.b [.ints .u32 n w],.b [.ints .u32 8 (aO 8 s)]],true⟩
def oq (p:List Int) (q i:Int):Bool:=aa (aa (aa (aa (aa (aa (aa (aa (aa true (decide (i<16))) (cK q p.length)) (decide (q.toNat<p.length))) (cK (IntKind.i64.wrap (q+1)) p.length)) (decide ((IntKind.i64.wrap (q+1)).toNat<p.length)))
 (cK (IntKind.i64.wrap (q+2)) p.length)) (decide ((IntKind.i64.wrap (q+2)).toNat<p.length))) (cK (IntKind.i64.wrap (q+3)) p.length)) (decide ((IntKind.i64.wrap (q+3)).toNat<p.length))
section
variable (p kk h w s:List Int) (n:Nat) (a i:Int)
theorem Rf:(az Tryz.prog (rC true true true true) 60 0 2 (atoms rO) (sO p kk h a)).bind (St.cut [2,4,6,7,8] 2)=some {sO p kk h a with ob:=aa true (decide (a<p.length))}:=by kernel_rfl
theorem Rg:(exec Tryz.prog (rC true true true true) 60 0 (ak 3 rO) (sO p kk h a)).bind (fun r=>(r.2.cut [2,4,6,7,8] 2).map fun q=>(r.1,q))=some (.normal,sO p kk h (IntKind.i64.wrap (a+64))):=by kernel_rfl
theorem XG:(exec Tryz.prog (rC false true true true) 60 0 rO (sO p kk h a)).bind (fun r=>(r.2.cut [2,4,6,7,8] 2).map fun q=>(r.1,q))=some (.exit 2,{sO p kk h a with ob:=aa true (!decide (a<p.length))}):=by kernel_rfl
theorem Rh:(az Tryz.prog (rC true true true true) 60 0 2 (atoms r3) (sO p kk h a)).bind (St.cut [2,4,6,7,8,9,10] 2)=some (sN p kk h a):=by kernel_rfl
theorem XH:(exec Tryz.prog (rC true true true true) 60 0 (inner (inner (ak 2 r3))) (sA p kk h a n w i)).bind (fun r=>(r.2.cut [2,4,6,7,8,9,10] 3).map fun q=>(r.1,q))=
  some (.normal,{sA p kk h a (n+1) (w++[wq p (ix a i)]) (IntKind.i64.wrap (i+1)) with ob:=aa (oq p (ix a i) i) (tK w.length n)}):=by kernel_rfl
theorem XI:(exec Tryz.prog (rC true false true true) 60 0 (inner (inner (ak 2 r3))) (sA p kk h a n w i)).bind (fun r=>(r.2.cut [2,4,6,7,8,9,10] 3).map fun q=>(r.1,q))=
  some (.exit 4,{sA p kk h a n w i with ob:=aa true (!decide (i<16))}):=by kernel_rfl
theorem Ri:(az Tryz.prog (rC true true true true) 60 0 1 ((atoms r3).drop 3) (sA p kk h a n w i)).bind (St.cut [2,4,6,7,8,9,12] 3)=some (sB p kk h a n w 16):=by kernel_rfl
theorem XJ:(exec Tryz.prog (rC true true true true) 60 0 (inner (inner (ak 4 r3))) (sB p kk h a n w i)).bind (fun r=>(r.2.cut [2,4,6,7,8,9,12] 3).map fun q=>(r.1,q))=
  some (.normal,{sB p kk h a (n+1) (w++[nxJ w i]) (IntKind.i64.wrap (i+1)) with ob:=nxP i n w.length}):=by kernel_rfl
theorem XK:(exec Tryz.prog (rC true true false true) 60 0 (inner (inner (ak 4 r3))) (sB p kk h a n w i)).bind (fun r=>(r.2.cut [2,4,6,7,8,9,12] 3).map fun q=>(r.1,q))=
  some (.exit 6,{sB p kk h a n w i with ob:=aa true (!decide (i<64))}):=by kernel_rfl
theorem MX:(az Tryz.prog (rC true true true true) 60 0 2 ((atoms r3).drop 5) (sB p kk h a n w i)).bind (St.cut [2,4,6,7,8,9,15,16] 4)=some (sC p kk h a n w h 0):=by kernel_rfl
theorem Rj:(exec Tryz.prog (rC true true true true) 60 0 (inner (inner (ak 7 r3))) (sC p kk h a n w s i)).bind (fun r=>(r.2.cut [2,4,6,7,8,9,15,16] 4).map fun q=>(r.1,q))=
  some (.normal,{sC p kk h a n w (Db (aO 8 s) (kk.getD i.toNat 0) (w.getD (0+i.toNat) 0)) (IntKind.i64.wrap (i+1)) with ob:=aa (aa (aa (aa (aa true (decide (i<64))) (cK i kk.length)) (decide (i.toNat<kk.length))) (cK i n)) (decide (0+i.toNat<n))}):=by kernel_rfl
theorem Rk:(exec Tryz.prog (rC true true true false) 60 0 (inner (inner (ak 7 r3))) (sC p kk h a n w s i)).bind (fun r=>(r.2.cut [2,4,6,7,8,9,15,16] 4).map fun q=>(r.1,q))=
  some (.exit 8,{sC p kk h a n w s i with ob:=aa true (!decide (i<64))}):=by kernel_rfl
theorem MY:(az Tryz.prog (rC true true true true) 60 0 1 ((atoms r3).drop 8) (sC p kk h a n w s i)).bind (St.cut [2,4,6,7,8,15,20] 4)=some (sD p kk h a n w s):=by kernel_rfl
theorem Rl:(exec Tryz.prog (rC true true true true) 60 0 (ak 9 r3) (sD p kk h a n w s)).bind (fun r=>(r.2.cut [2,4,6,7,8] 2).map fun q=>(r.1,q))=some (.normal,sO p kk (S2.xm (aO 8 h) (aO 8 s)) a):=by kernel_rfl
end
end Go.Proofs.YtibfpjeeanppjaaGreat.Q2
end
section
namespace Go.Proofs.YtibfpjeeanppjaaGreat.Q2
open Go Go.Sy Sh
def wA (p:List Int) (a:Int):Nat→List Int
 |0=>[]
 |j+1=>wA p a j++[wq p (ix a j)]
def wG (w:List Int):Nat→List Int
 |0=>w
 |j+1=>wG w j++[nxJ (wG w j) (16+j)]
def Hs (s k w:List Int):Nat→List Int
 |0=>s
 |j+1=>Db (aO 8 (Hs s k w j)) (k.getD j 0) (w.getD j 0)
def pe (p kk h:List Int) (a:Int):List Int:=S2.xm (aO 8 h) (aO 8 (Hs h kk (wG (wA p a 16) 48) 64))
def hN (p kk h:List Int):Nat→List Int
 |0=>h
 |j+1=>pe p kk (hN p kk h j) (64*j:Nat)
theorem y4 (p:List Int) (a:Int):∀j,(wA p a j).length=j
 |0=>rfl
 |j+1=>by rw [wA,List.length_append,y4 p a j];rfl
theorem Dc (w:List Int):∀j,(wG w j).length=w.length+j
 |0=>rfl
 |j+1=>by rw [wG,List.length_append,Dc w j];rfl
theorem Tn {a i:Nat} (ha:a<10000000000000) (hi:i<16):ix a i=((a+4*i:Nat):Int):=by
 unfold ix
 rw [wrap_i64 (4*(i:Int)) (by omega) (by omega),wrap_i64 _ (by omega) (by omega)]
 omega
theorem Rm {p:List Int} {a i:Nat} (ha:a<10000000000000) (hp:a+64≤p.length) (hi:i<16):oq p (ix a i) i=true:=by
 rw [Tn ha hi]
 unfold oq
 rw [wrap_i64 _ (by omega) (by omega),wrap_i64 _ (by omega) (by omega),wrap_i64 _ (by omega) (by omega),aK (by omega) (by omega),aK (by omega) (by omega),aK (by omega) (by omega),aK (by omega) (by omega)]
 simp only [au,decide_eq_true_eq,true_and,and_true]
 omega
theorem MZ {j:Nat} (hj:j<48):nxP (16+j) (16+j) (16+j)=true:=by
 unfold nxP
 rw [wrap_i64 _ (by omega) (by omega),wrap_i64 _ (by omega) (by omega),wrap_i64 _ (by omega) (by omega),wrap_i64 _ (by omega) (by omega),cr (by omega)]
 simp only [au,decide_eq_true_eq,true_and,and_true]
 refine ⟨⟨⟨⟨⟨⟨⟨⟨?_,aK (by omega) (by omega)⟩,?_⟩,aK (by omega) (by omega)⟩,?_⟩,aK (by omega) (by omega)⟩,?_⟩,aK (by omega) (by omega)⟩,?_⟩<;>omega
section
variable (p kk h:List Int) {a:Nat} (ha:a<10000000000000) (hp:a+64≤p.length) (hk:kk.length=64)
include ha hp in
theorem Rn:Tr Tryz.prog none 0 (ak 2 r3) (sA p kk h a 0 [] 0) .normal (sA p kk h a 16 (wA p a 16) 16):=by
 have key:=Tr.loop (P:=Tryz.prog) (ro:=none) (k:=0) 4 (c:=ak 2 r3) (by kernel_rfl) (fun j:Nat=>sA p kk h a j (wA p a j) j) 16 (s':=sA p kk h a 16 (wA p a 16) 16) (fun j hj=>?_) ?_
 ·exact key
 ·have k:=XH p kk h (wA p a j) j a j
  rw [Rm ha hp hj,y4,cr (by omega),wrap_i64 _ (by omega) (by omega)] at k
  refine Tr.post (Tr.cut (iF true true true true) 60 _ 3 (by omega) k rfl) (aU.same ?_ rfl)
  show (sA _ _ h _ _ [] _).t=(sA _ _ h _ _ [] _).t
  rw [show ((j:Int)+1)=((j+1:Nat):Int) by omega]
 ·exact Tr.post (Tr.cut (iF true false true true) 60 _ 3 (by omega) (XI p kk h (wA p a 16) 16 a 16) rfl) (aU.same rfl rfl)
theorem Ro {w:List Int} (hw:w.length=16) (a:Int):Tr Tryz.prog none 0 (ak 4 r3) (sB p kk h a 16 w 16) .normal (sB p kk h a 64 (wG w 48) 64):=by
 have key:=Tr.loop (P:=Tryz.prog) (ro:=none) (k:=0) 6 (c:=ak 4 r3) (by kernel_rfl) (fun j:Nat=>sB p kk h a (16+j) (wG w j) (16+j)) 48 (s':=sB p kk h a 64 (wG w 48) 64) (fun j hj=>?_) ?_
 ·exact key
 ·have k:=XJ p kk h (wG w j) (16+j) a (16+j)
  rw [Dc,hw,MZ hj,wrap_i64 _ (by omega) (by omega)] at k
  refine Tr.post (Tr.cut (iF true true true true) 60 _ 3 (by omega) k rfl) (aU.same ?_ rfl)
  show (sB _ _ h _ _ [] _).t=(sB _ _ h _ _ [] _).t
  rw [show ((16:Int)+(j:Int)+1)=16+((j+1:Nat):Int) by omega,show 16+j+1=16+(j+1) by omega]
 ·exact Tr.post (Tr.cut (iF true true false true) 60 _ 3 (by omega) (XK p kk h (wG w 48) 64 a 64) rfl) (aU.same rfl rfl)
include hk in
theorem M0 (w:List Int) (a:Int):Tr Tryz.prog none 0 (ak 7 r3) (sC p kk h a 64 w h 0) .normal (sC p kk h a 64 w (Hs h kk w 64) 64):=by
 have key:=Tr.loop (P:=Tryz.prog) (ro:=none) (k:=0) 8 (c:=ak 7 r3) (by kernel_rfl) (fun j:Nat=>sC p kk h a 64 w (Hs h kk w j) j) 64 (s':=sC p kk h a 64 w (Hs h kk w 64) 64) (fun j hj=>?_) ?_
 ·exact key
 ·have k:=Rj p kk h w (Hs h kk w j) 64 a j
  rw [hk,wrap_i64 _ (by omega) (by omega),show 0+(j:Int).toNat=j by omega,show (j:Int).toNat=j by omega] at k
  refine Tr.post (Tr.cut (iF true true true true) 60 _ 4 (by omega) k ?_) (aU.same ?_ rfl)
  ·simp only [au,decide_eq_true_eq,true_and]
   exact ⟨⟨⟨⟨by omega,aK (by omega) (by omega)⟩,by omega⟩,aK (by omega) (by omega)⟩,by omega⟩
  ·show (sC _ _ h _ _ [] [] _).t=(sC _ _ h _ _ [] [] _).t
   rw [show ((j:Int)+1)=((j+1:Nat):Int) by omega]
 ·exact Tr.post (Tr.cut (iF true true true false) 60 _ 4 (by omega) (Rk p kk h w (Hs h kk w 64) 64 a 64) rfl) (aU.same rfl rfl)
theorem acL (a:Int):aU 0 (sN p kk h a) (sA p kk h a 0 [] 0):=
 (aU.nothing (k:=0) (t:=(sN p kk h a).t) (h:=(sN p kk h a).h) (o:=true) (o':=true) 9 .u32 false true (by kernel_rfl)).trans (aU.same (by kernel_rfl) (by kernel_rfl))
include ha hp hk in
theorem XL:Tr Tryz.prog none 0 r3 (sO p kk h a) .normal (sO p kk (pe p kk h a) a):=by
 refine Tr.aD ?_
 refine aG.items (iF true true true true) 60 2 _ 2 (by omega) (Rh p kk h a) rfl (by decide) ?_
 refine aG.pre (s1:=sA p kk h a 0 [] 0) ?_ (acL p kk h a) (by decide)
 refine aG.item 2 (by decide) (Rn p kk h ha hp) ?_
 refine aG.items (iF true true true true) 60 1 _ 3 (by omega) (Ri p kk h (wA p a 16) 16 a 16) rfl (by decide) ?_
 refine aG.item 4 (by decide) (Ro p kk h (y4 p a 16) a) ?_
 refine aG.items (iF true true true true) 60 2 _ 4 (by omega) (MX p kk h (wG (wA p a 16) 48) 64 a 64) rfl (by decide) ?_
 refine aG.item 7 (by decide) (M0 p kk h hk (wG (wA p a 16) 48) a) ?_
 refine aG.items (iF true true true true) 60 1 _ 4 (by omega) (MY p kk h (wG (wA p a 16) 48) (Hs h kk (wG (wA p a 16) 48) 64) 64 a 64) rfl (by decide) ?_
 exact aG.item 9 (by decide) (Tr.cut (iF true true true true) 60 _ 2 (by omega) (Rl p kk h (wG (wA p a 16) 48) (Hs h kk (wG (wA p a 16) 48) 64) 64 a) rfl) ⟨rfl,rfl⟩
theorem M1:ak 2 rO= .block 3 r3:=by kernel_rfl
include ha hp hk in
theorem Rp:Tr Tryz.prog none 0 rO (sO p kk h a) .normal (sO p kk (pe p kk h a) (a+64:Nat)):=by
 refine Tr.aD ?_
 refine aG.items (iF true true true true) 60 2 _ 2 (by omega) (Rf p kk h a) ?_ (by decide) ?_
 ·simp only [au,decide_eq_true_eq,true_and];omega
 refine aG.item 2 (by decide) (s1:=sO p kk (pe p kk h a) a) ?_ ?_
 ·rw [M1]
  exact Tr.aQ (Tr.pre (XL p kk h ha hp hk) (aU.same rfl rfl)) (by simp)
 ·have k:=Rg p kk (pe p kk h a) a
  rw [wrap_i64 _ (by omega) (by omega)] at k
  refine aG.item 3 (by decide) (Tr.post (Tr.cut (iF true true true true) 60 _ 2 (by omega) k rfl) (aU.same ?_ rfl)) ⟨rfl,rfl⟩
  show (sO _ _ h _).t=(sO _ _ h _).t
  rw [show ((a:Int)+64)=((a+64:Nat):Int) by omega]
end
theorem XM {p kk:List Int} (h:List Int) {N:Nat} (hp:p.length=64*N) (hk:kk.length=64) (hb:N<10000000000):Tr Tryz.prog none 0 (ak 8 rB) (sO p kk h 0) .normal (sO p kk (hN p kk h N) (64*N:Nat)):=by
 have key:=Tr.loop (P:=Tryz.prog) (ro:=none) (k:=0) 2 (c:=ak 8 rB) (by kernel_rfl) (fun j:Nat=>sO p kk (hN p kk h j) (64*j:Nat)) N (s':=sO p kk (hN p kk h N) (64*N:Nat)) (fun j hj=>?_) ?_
 ·exact key
 ·exact Rp p kk (hN p kk h j) (a:=64*j) (by omega) (by omega) hk
 ·exact Tr.post (Tr.cut (iF false true true true) 60 _ 2 (by omega) (XG p kk (hN p kk h N) (64*N:Nat)) (by rw [hp];simp [aa])) (aU.same rfl rfl)
theorem GR (xs:List Int):(fI xs).length=64*((fI xs).length/64):=by
 have h:=(qz (len:=xs.length) (show 56<64 by omega)).1
 have hl:(fI xs).length=xs.length+1+cR xs.length 64 56+8:=by unfold fI;rw [List.length_append,g9];rfl
 rw [hl];omega
noncomputable def gE (xs:List Int):List Int:=gz (S2.zm (aO 8 (hN (fI xs) S2.gB S2.pg ((fI xs).length/64))))
theorem Rq:S2.gB.length=64:=by kernel_rfl
theorem Rt (xs:List Int):(az Tryz.prog (rC true true true true) 60 0 8 (atoms rB) ⟨aT Tryz.f78.ntmps [.ro false .u8 xs],[],true⟩).bind (St.cut [2,4,6,7,8] 2)=
  some {sO (fI xs) S2.gB S2.pg 0 with ob:=aa true (aa true (decide (xs.length<274877900000)))}:=by kernel_rfl
theorem tN {xs:List Int} (h1:xs.length<274877900000):aj Tryz.prog 78 [.ro false .u8 xs] [] (.agg [.ints .u8 32 (gE xs)]) []:=by
 have hp:=GR xs
 generalize hn:(fI xs).length/64=N at hp
 have hb:N<10000000000:=by
  have hK:cR xs.length 64 56<64:=Nat.mod_lt _ (by omega)
  have hl:(fI xs).length=xs.length+1+cR xs.length 64 56+8:=by unfold fI;rw [List.length_append,g9];rfl
  omega
 rw [gE,aq,hn]
 refine aj.cg (iF true true true true) 400 9 0 Tryz.func78 (by simp) rfl (fun s' x h=>?_) (s:=sO (fI xs) S2.gB (hN (fI xs) S2.gB S2.pg N) (64*N:Nat)) (p:=true) (by kernel_rfl) rfl rfl rfl
 refine aG.items (iF true true true true) 60 8 _ 2 (by simp) (Rt xs) (by rw [decide_eq_true h1];rfl) (by decide) ?_
 exact aG.item 8 (by decide) (Tr.pre (XM S2.pg hp Rq hb) (aU.same rfl rfl)) h
noncomputable def Be:List SV→Option (SV×List Blk×Bool)
 | [.ro false .u8 xs]=>some (.agg [.ints .u8 32 (gE xs)],[],decide (xs.length<274877900000))
 |_=>none
noncomputable def JL:Entry Tryz.prog:=.val 78 _ Tryz.func78 (by decide) rfl true 0 Be fun vs v new e=>by
 unfold Be at e
 split at e
 ·simp only [Option.some.injEq,Prod.mk.injEq,decide_eq_true_eq] at e
  obtain ⟨rfl,rfl,h1⟩:=e
  exact tN h1
 ·cases e
end Go.Proofs.YtibfpjeeanppjaaGreat.Q2
end
section
namespace Go.Proofs.YtibfpjeeanppjaaGreat.Q2
open Go Go.Sy Sh
open R3 (m7 CV Qx A1 sr Td CW nI)
def Bf (l:List Int):Prop:=∀x∈l,m7 x
theorem Bf.getD {l:List Int} (h:Bf l) (i:Nat):m7 (l.getD i 0):=by
 rw [List.getD_eq_getElem?_getD]
 cases e:l[i]? with
 |none=>exact ⟨by decide,by decide⟩
 |some x=>exact h x (List.mem_of_getElem? e)
theorem als {x:Int} (h:m7 x):V x=x:=by
 have:V x=x%4294967296:=Qx x
 rw [this]
 exact Int.emod_eq_of_lt h.1 h.2
theorem XN {x:Int} (h:0≤x∧x<18446744073709551616):Sh.W x=x:=by
 unfold Sh.W
 rw [wrap_u64]
 exact Int.emod_eq_of_lt h.1 h.2
theorem qA {x:Int} (hx:m7 x) (a b:Int) (n m:Nat) (h:n+m=32) (e1:(bR .u64 (Sh.W a) 31).toNat=m) (e2:(Sh.W (32-bR .u64 (Sh.W a) 31)).toNat=n)
  (e3:b.toNat=n) (e4:(Sh.W (32-b)).toNat=m):S2.lS x a=vE x b:=by
 unfold S2.lS vE
 rw [e1,e2,e3,e4]
 refine (CW hx n m h).trans ?_
 rw [Int.add_comm]
theorem nK {x:Int} (hx:m7 x) (a:Int) (n m:Nat) (h:n+m=32) (e1:(bR .u64 (Sh.W (IntKind.i64.wrap (0-a))) 31).toNat=m) (e2:(Sh.W (32-bR .u64 (Sh.W (IntKind.i64.wrap (0-a))) 31)).toNat=n)
  (e3:a.toNat=n) (e4:(Sh.W (32-a)).toNat=m):S2.Ba x a=vE x a:=qA hx _ a n m h e1 e2 e3 e4
theorem XO {x:Int} (hx:m7 x):S2.Tk x 6 11 25=YE x 6 11 25:=by
 unfold S2.Tk YE
 rw [nK hx 6 6 26 rfl (by decide) (by decide) rfl (by decide),nK hx 11 11 21 rfl (by decide) (by decide) rfl (by decide),nK hx 25 25 7 rfl (by decide) (by decide) rfl (by decide)]
theorem XP {x:Int} (hx:m7 x):S2.Tk x 2 13 22=YE x 2 13 22:=by
 unfold S2.Tk YE
 rw [nK hx 2 2 30 rfl (by decide) (by decide) rfl (by decide),nK hx 13 13 19 rfl (by decide) (by decide) rfl (by decide),nK hx 22 22 10 rfl (by decide) (by decide) rfl (by decide)]
theorem acM {x y:Int} (hx:m7 x) (hy:m7 y) (a b:Int):S2.nxW y x a b=nxQ y x a b:=by
 unfold S2.nxW nxQ
 rw [qA hy (-17) 17 17 15 rfl (by decide) (by decide) rfl (by decide),qA hy (-19) 19 19 13 rfl (by decide) (by decide) rfl (by decide),qA hx (-7) 7 7 25 rfl (by decide) (by decide) rfl (by decide),qA hx (-18) 18 18 14 rfl (by decide) (by decide) rfl (by decide)]
theorem not_eq {e:Int} (h:m7 e):cj .u32 IntKind.u32.max e=V (4294967295-e):=by
 obtain ⟨n,rfl⟩:=Int.eq_ofNat_of_zero_le h.1
 have hn:n<2^32:=by have:=h.2;omega
 unfold cj ja
 rw [show IntKind.u32.max=((2^32-1:Nat):Int) by decide]
 have e1:BitVec.ofInt 32 ((2^32-1:Nat):Int)=BitVec.allOnes 32:=by decide
 show IntKind.u32.wrap ((BitVec.ofInt 32 ((2^32-1:Nat):Int)^^^BitVec.ofInt 32 (n:Int)).toNat:Int)=_
 rw [e1,BitVec.allOnes_xor,BitVec.toNat_not,BitVec.ofInt_natCast,BitVec.toNat_ofNat,Nat.mod_eq_of_lt hn]
 unfold V
 congr 1
 omega
theorem acN {e:Int} (h:m7 e) (f g:Int):S2.chW e f g=chQ e f g:=by unfold S2.chW chQ;rw [not_eq h]
theorem XQ {s:List Int} (hs:Bf s) (k w:Int):S2.GP s k w=Db s k w:=by
 unfold S2.GP Db S2.t1W S2.t2W t1Q t2Q
 rw [XO (hs.getD 4),XP (hs.getD 0),acN (hs.getD 4)]
theorem XR {s:List Int} (hs:Bf s) (k w:Int):Bf (Db s k w):=by
 intro x hx
 simp only [Db,List.mem_cons,List.not_mem_nil,or_false] at hx
 rcases hx with rfl|rfl|rfl|rfl|rfl|rfl|rfl|rfl<;>first|exact CV _|exact hs.getD _
theorem Fq {h:List Int} (hh:Bf (aO 8 h)) (k w:List Int):∀j,aO 8 (Hs h k w j)=S2.dG (aO 8 h) k w j∧Bf (S2.dG (aO 8 h) k w j)
 |0=>⟨rfl,hh⟩
 |j+1=>by
  obtain ⟨h1,h2⟩:=Fq hh k w j
  have e:aO 8 (Hs h k w (j+1))=Db (aO 8 (Hs h k w j)) (k.getD j 0) (w.getD j 0):=rfl
  rw [e,h1,S2.dG,XQ h2]
  exact ⟨rfl,XR h2 _ _⟩
theorem XS {w:List Int} {j:Nat} (hj:j<48):nxJ w (16+j)=nxQ (w.getD (14+j) 0) (w.getD (1+j) 0) (w.getD (9+j) 0) (w.getD j 0):=by
 unfold nxJ
 rw [wrap_i64 _ (by omega) (by omega),wrap_i64 _ (by omega) (by omega),wrap_i64 _ (by omega) (by omega),wrap_i64 _ (by omega) (by omega)]
 rw [show 0+((16:Int)+j-2).toNat=14+j by omega,show 0+((16:Int)+j-15).toNat=1+j by omega,show 0+((16:Int)+j-7).toNat=9+j by omega,show 0+((16:Int)+j-16).toNat=j by omega]
theorem nL {a b:List Int} {i:Nat} (h:i<a.length):(a++b).getD i 0=a.getD i 0:=by
 rw [List.getD_eq_getElem?_getD,List.getD_eq_getElem?_getD,List.getElem?_append_left h]
theorem Bg {w:List Int} (hw:w.length=16) (hi:Bf w):∀j,j≤48→S2.sched (w++List.replicate 48 0) j=wG w j++List.replicate (48-j) 0∧Bf (wG w j)
 |0,_=>⟨rfl,hi⟩
 |j+1,hj=>by
  obtain ⟨h1,h2⟩:=Bg hw hi j (by omega)
  have hl:(wG w j).length=16+j:=by rw [Dc,hw]
  refine ⟨?_,?_⟩
  ·rw [S2.sched,h1,nL (by omega),nL (by omega),nL (by omega),nL (by omega),acM (h2.getD _) (h2.getD _),wG,XS (by omega)]
   rw [List.set_append_right _ _ (by omega),hl,show 16+j-(16+j)=0 by omega,show 48-j=(48-(j+1))+1 by omega,List.replicate_succ,List.set_cons_zero,List.append_assoc]
   rfl
  ·intro x hx
   rw [wG,List.mem_append,List.mem_singleton] at hx
   rcases hx with hx|rfl
   ·exact h2 x hx
   ·exact CV _
def By (l:List Int):Prop:=∀x∈l,0≤x∧x<256
theorem By.getD {l:List Int} (h:By l) (i:Nat):0≤l.getD i 0∧l.getD i 0<256:=by
 rw [List.getD_eq_getElem?_getD]
 cases e:l[i]? with
 |none=>exact ⟨by decide,by decide⟩
 |some x=>exact h x (List.mem_of_getElem? e)
theorem lK (p:List Int) (a:Nat) {i:Nat} (hi:i<64):((p.drop a).take 64).getD i 0=p.getD (a+i) 0:=by
 rw [List.getD_eq_getElem?_getD,List.getD_eq_getElem?_getD,List.getElem?_take_of_lt hi,List.getElem?_drop]
theorem acO {p:List Int} (hp:By p) {a i:Nat} (ha:a<10000000000000) (hi:i<16):wq p (ix a i)=S2.wd ((p.drop a).take 64) i:=by
 rw [Tn ha hi]
 unfold wq S2.wd
 rw [wrap_i64 _ (by omega) (by omega),wrap_i64 _ (by omega) (by omega),wrap_i64 _ (by omega) (by omega),lK p a (by omega),lK p a (by omega),lK p a (by omega),lK p a (by omega)]
 rw [show ((a+4*i:Nat):Int).toNat=a+4*i by omega,show (((a+4*i:Nat):Int)+1).toNat=a+(4*i+1) by omega,show (((a+4*i:Nat):Int)+2).toNat=a+(4*i+2) by omega,show (((a+4*i:Nat):Int)+3).toNat=a+(4*i+3) by omega]
 have b0:=hp.getD (a+4*i)
 have b1:=hp.getD (a+(4*i+1))
 have b2:=hp.getD (a+(4*i+2))
 have b3:=hp.getD (a+(4*i+3))
 generalize p.getD (a+4*i) 0=p0 at*
 generalize p.getD (a+(4*i+1)) 0=p1 at*
 generalize p.getD (a+(4*i+2)) 0=p2 at*
 generalize p.getD (a+(4*i+3)) 0=p3 at*
 rw [sr _ _ (by decide),sr _ _ (by decide),sr _ _ (by decide)]
 simp only [S2.V,V,S2.wrap_u32]
 have e0:p0%4294967296*2^24%4294967296=16777216*p0:=by omega
 have e1:p1%4294967296*2^16%4294967296=65536*p1:=by omega
 have e2:p2%4294967296*2^8%4294967296=256*p2:=by omega
 have e3:p3%4294967296=p3:=by omega
 rw [e0,e1,e2,e3,A1 24 (16777216*p0) (65536*p1) (by omega) (by omega) (by omega) (by omega) (by omega) (by decide),A1 16 (16777216*p0+65536*p1) (256*p2) (by omega) (by omega) (by omega) (by omega) (by omega) (by decide),A1 8 (16777216*p0+65536*p1+256*p2) p3 (by omega) (by omega) (by omega) (by omega) (by omega) (by decide)]
 omega
theorem acP (p:List Int) (q:Int):m7 (wq p q):=CV _
theorem To {p:List Int} (hp:By p) {a:Nat} (ha:a<10000000000000):∀n,n≤16→wA p a n=(List.range n).map (S2.wd ((p.drop a).take 64))
 |0,_=>rfl
 |n+1,hn=>by rw [wA,To hp ha n (by omega),List.range_succ,List.map_append,acO hp ha (show n<16 by omega)];rfl
theorem Tp (p:List Int) (a:Int):∀n,Bf (wA p a n)
 |0=>fun x hx=>absurd hx (by simp [wA])
 |n+1=>by
  intro x hx
  rw [wA,List.mem_append,List.mem_singleton] at hx
  rcases hx with hx|rfl
  ·exact Tp p a n x hx
  ·exact acP _ _
theorem XT {h:List Int} (hh:Bf h) (n:Nat):Bf (aO n h):=by
 intro x hx
 simp only [aO,List.mem_map] at hx
 obtain ⟨i,_,rfl⟩:=hx
 exact hh.getD i
theorem M3 {p:List Int} (hp:By p) (kk:List Int) {h:List Int} (hl:h.length=8) (hh:Bf h) {a:Nat} (ha:a<10000000000000):S2.eZ h ((p.drop a).take 64) kk=pe p kk h a:=by
 have e:=To hp ha 16 (by omega)
 have e2:=(Bg (y4 p a 16) (Tp p a 16) 48 (by omega)).1
 rw [e] at e2
 have hq:=(Fq (XT hh 8) kk (wG (wA p a 16) 48) 64).1
 unfold S2.eZ pe
 rw [aq,hq,aJ hl]
 unfold S2.Dr
 rw [e2,e,show 48-48=0 from rfl,List.replicate_zero,List.append_nil]
theorem XU (s t:List Int):Bf (S2.xm s t):=by
 intro x hx
 simp only [S2.xm,List.mem_map] at hx
 obtain ⟨i,_,rfl⟩:=hx
 exact CV _
theorem Ru (s t:List Int):(S2.xm s t).length=8:=by simp [S2.xm]
theorem M4 {p:List Int} (hp:By p) (kk:List Int) {h:List Int} (hl:h.length=8) (hh:Bf h):∀j,j<10000000000→S2.gK p kk h j=hN p kk h j∧Bf (hN p kk h j)∧(hN p kk h j).length=8
 |0,_=>⟨rfl,hh,hl⟩
 |j+1,hj=>by
  obtain ⟨h1,h2,h3⟩:=M4 hp kk hl hh j (by omega)
  rw [S2.gK,hN,h1,M3 hp kk h3 h2 (show 64*j<10000000000000 by omega)]
  exact ⟨rfl,XU _ _,Ru _ _⟩
theorem Tq {n:Nat} (hn:n<9223372036854775808):∀i,dQ n i=((n/32/256^i:Nat):Int)
 |0=>by
  rw [dQ,Int.tdiv_eq_ediv_of_nonneg (by omega),wrap_i64 _ (by omega) (by omega),Nat.pow_zero,Nat.div_one]
  omega
 |i+1=>by
  have hle:n/32/256^i≤n/32:=Nat.div_le_self _ _
  have e:n/32/256^(i+1)=n/32/256^i/256:=by rw [Nat.pow_succ, ←Nat.div_div_eq_div_mul]
  rw [dQ,Tq hn i,e]
  generalize n/32/256^i=q at*
  rw [Int.tdiv_eq_ediv_of_nonneg (by omega),wrap_i64 _ (by omega) (by omega)]
  omega
theorem wrap_u8 (n:Int):IntKind.u8.wrap n=n%256:=by simp [IntKind.wrap,IntKind.signed,IntKind.bits]
theorem M5 {n:Nat} (hn:n<1000000000000000000) (i:Nat):ng n i=((8*n/256^i%256:Nat):Int):=by
 cases i with
 |zero=>
  rw [ng,Int.tmod_eq_emod_of_nonneg (by omega),wrap_i64 _ (by omega) (by omega),wrap_u8,Nat.pow_zero,Nat.div_one]
  omega
 |succ i=>
  have:8*n/256^(i+1)=n/32/256^i:=by
   rw [Nat.pow_succ,Nat.mul_comm (256^i), ←Nat.div_div_eq_div_mul]
   congr 1
   omega
  rw [ng,Tq (by omega),this]
  generalize n/32/256^i=q
  rw [Int.tmod_eq_emod_of_nonneg (by omega),wrap_u8]
  omega
theorem acQ {n:Nat} (hn:n<1000000000000000000) (i:Nat) (hi:i<8):y5 n i=((8*n/256^i%256:Nat):Int):=by
 unfold y5
 rw [XN ⟨by omega,by omega⟩,Fe.kF _ _ (by decide),Fe.dj _ _ _ (show 8*i≤64 by omega),wrap_u8]
 rw [Int.emod_eq_of_lt (a:=(n:Int)*2^3) (by omega) (by omega),show (n:Int)*2^3=((8*n:Nat):Int) by omega,Int.pow_mul,show ((2:Int)^8)=((256:Nat):Int) by decide]
 rw [←Int.natCast_pow, ←Int.natCast_ediv]
 generalize 8*n/256^i=q
 omega
theorem Rv {n:Nat} (hn:n<1000000000000000000):GQ n=GU n 8:=by
 have hl:∀i,i<8→ng n i=y5 n i:=fun i hi=>by rw [M5 hn,acQ hn i hi]
 show _=[ng n 7,ng n 6,ng n 5,ng n 4,ng n 3,ng n 2,ng n 1,ng n 0]
 rw [hl 7 (by decide),hl 6 (by decide),hl 5 (by decide),hl 4 (by decide),hl 3 (by decide),hl 2 (by decide),hl 1 (by decide),hl 0 (by decide)]
 rfl
theorem Rw {xs:List Int} (h:By xs) (pc q:Nat):By (eB xs pc q):=by
 intro x hx
 simp only [eB,List.mem_append,List.mem_singleton,List.mem_replicate] at hx
 rcases hx with (hx|rfl)|⟨_,rfl⟩
 ·exact h x hx
 ·decide
 ·decide
theorem XV {xs:List Int} (h:xs.length<1000000000000000000):S2.nP xs=fI xs:=by unfold S2.nP S2.nc fI;rw [Rv h]
theorem XW {xs:List Int} (hn:xs.length<1000000000000000000) (h:By xs):By (fI xs):=by
 intro x hx
 rw [fI,List.mem_append] at hx
 rcases hx with hx|hx
 ·exact Rw h _ _ x hx
 ·simp only [GU,List.mem_map] at hx
  obtain ⟨i,_,rfl⟩:=hx
  rw [M5 hn];omega
theorem XX:Bf S2.pg:=by
 intro x hx
 simp only [S2.pg,List.mem_map] at hx
 obtain ⟨i,_,rfl⟩:=hx
 exact CV _
theorem jY {xs:List Int} (h:By xs) (hn:xs.length<274877900000):S2.bn xs=gE xs:=by
 have hK:cR xs.length 64 56<64:=Nat.mod_lt _ (by omega)
 have hl:(fI xs).length=xs.length+1+cR xs.length 64 56+8:=by unfold fI;rw [List.length_append,g9];rfl
 obtain ⟨h1,_,h3⟩:=M4 (XW (by omega) h) S2.gB S2.pQ XX ((fI xs).length/64) (by omega)
 unfold S2.bn gE
 rw [XV (by omega),h1,aq,aq,aJ h3]
end Go.Proofs.YtibfpjeeanppjaaGreat.Q2
end
