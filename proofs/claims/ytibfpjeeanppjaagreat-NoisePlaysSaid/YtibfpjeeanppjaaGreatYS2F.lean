/- This file holds the texts S2D, S2E, S2F, a section each. No conditions beyond those in the theorems. -/
import Derived.Test.YtibfpjeeanppjaaGreatYS2C
import Derived.Test.YtibfpjeeanppjaaGreatYShK
import Derived.Test.YtibfpjeeanppjaaGreatYR3C
set_option linter.all false
set_option maxRecDepth 100000
section
namespace Go.Proofs.YtibfpjeeanppjaaGreat.Q2
open Go Go.Sy Sh
abbrev V (n:Int):Int:=IntKind.u32.wrap n
def xI (x n:Int):Int:=V (bO .u32 x n.toNat+c7 .u32 x (Sh.W (32-n)).toNat)
def Wb:List SV→Option (SV×List Blk×Bool)
 | [.int .u32 x,.int .u64 n]=>some (.int .u32 (xI x n),[],decide (0≤n))
 |_=>none
noncomputable def agj:Entry Tryz.prog:=.val 123 _ Tryz.func123 (by decide) rfl false 0 Wb fun vs v new e=>by
 unfold Wb at e
 split at e
 ·rename_i x n
  simp only [Option.some.injEq,Prod.mk.injEq,decide_eq_true_eq] at e
  obtain ⟨rfl,rfl,h⟩:=e
  exact aF mV 60 Tryz.func123 (p:=aa (aa true (decide (0≤n))) (W0 (32-n))) (by kernel_rfl) (by rw [HT,decide_eq_true h];rfl) rfl
 ·cases e
noncomputable def sqC:bu:=mk (P:=Tryz.prog) [T7] []
theorem tA:ag Tryz.prog sqC:=ah _ au.nil _ _
theorem Fs:ai Tryz.prog 121 [] [] (.ro true .u32 S2.gR) []:=
 ai.frozen (N:=64) (ex:=false) (wh:=true) (ai.KE [1] (aQ tA 200 Tryz.func121 2 (by simp) (v:=.sl 1 0 0 1 64 64 false true) (h1:=[.b [.ints .u32 1 [1116352408]],.b [.ints .u32 64 S2.gR]]) (p:=true) (by kernel_rfl) rfl rfl rfl) (by kernel_rfl)) (by kernel_rfl)
noncomputable def Dq:List SV→Option (SV×List Blk×Bool)
 | []=>some (.ro true .u32 S2.gR,[],true)
 |_=>none
noncomputable def Po:Entry Tryz.prog:=.val 121 _ Tryz.func121 (by decide) rfl false 0 Dq fun vs v new e=>by
 unfold Dq at e
 split at e
 ·cases e;exact Fs
 ·cases e
noncomputable def rB:Code:=aE Tryz.f78
noncomputable def rO:Code:=inner (inner (aA 8 rB))
noncomputable def r3:Code:=inner (aA 2 rO)
noncomputable def rC (a b c d:Bool):bu:=mk (P:=Tryz.prog) [Po,T8,agj,agk] [] fun i=>if i=42 then some a else if i=46 then some b else if i=86 then some c else if i=133 then some d else if i=130 then some true else if i=84 then some true else none
theorem gG (a b c d:Bool):ag Tryz.prog (rC a b c d):=ah _ au.nil _ _
def chQ (e f g:Int):Int:=cm .u32 (bS .u32 e f) (bS .u32 (V (4294967295-e)) g)
def tnQ (x a b c:Int):Int:=cm .u32 (cm .u32 (xI x a) (xI x b)) (xI x c)
def t1Q (s:List Int) (k w:Int):Int:=V (V (V (V (s.getD 7 0+tnQ (s.getD 4 0) 6 11 25)+chQ (s.getD 4 0) (s.getD 5 0) (s.getD 6 0))+k)+w)
def t2Q (s:List Int):Int:=V (tnQ (s.getD 0 0) 2 13 22+S2.mjW (s.getD 0 0) (s.getD 1 0) (s.getD 2 0))
def Ft (s:List Int) (k w:Int):List Int:=[V (t1Q s k w+t2Q s),s.getD 0 0,s.getD 1 0,s.getD 2 0,V (s.getD 3 0+t1Q s k w),s.getD 4 0,s.getD 5 0,s.getD 6 0]
def nxQ (y x a b:Int):Int:=V (V (V (cm .u32 (cm .u32 (xI y 17) (xI y 19)) (bO .u32 y 10)+a)+cm .u32 (cm .u32 (xI x 7) (xI x 18)) (bO .u32 x 3))+b)
def ix (a i:Int):Int:=IntKind.i64.wrap (a+IntKind.i64.wrap (4*i))
def wq (p:List Int) (q:Int):Int:=V (V (V (V (V (p.getD q.toNat 0)*16777216)+V (V (p.getD (IntKind.i64.wrap (q+1)).toNat 0)*65536))+V (V (p.getD (IntKind.i64.wrap (q+2)).toNat 0)*256))+V (p.getD (IntKind.i64.wrap (q+3)).toNat 0))
def nxJ (w:List Int) (i:Int):Int:=nxQ (w.getD (0+(IntKind.i64.wrap (i-2)).toNat) 0) (w.getD (0+(IntKind.i64.wrap (i-15)).toNat) 0) (w.getD (0+(IntKind.i64.wrap (i-7)).toNat) 0) (w.getD (0+(IntKind.i64.wrap (i-16)).toNat) 0)
def nxP (i:Int) (n _l:Nat):Bool:=aa (aa (aa (aa (aa (aa (aa (aa (aa (aa true (decide (i<64))) (cL (IntKind.i64.wrap (i-15)) n)) (decide (0+(IntKind.i64.wrap (i-15)).toNat<n))) (cL (IntKind.i64.wrap (i-2)) n)) (decide (0+(IntKind.i64.wrap (i-2)).toNat<n)))
 (cL (IntKind.i64.wrap (i-7)) n)) (decide (0+(IntKind.i64.wrap (i-7)).toNat<n))) (cL (IntKind.i64.wrap (i-16)) n)) (decide (0+(IntKind.i64.wrap (i-16)).toNat<n))) (xN _l n)
noncomputable def sO (p kk h:List Int) (i:Int):St:=⟨slotsOf 252 [(2,.ptr 0 0 0),(4,.ptr 1 0 0),(6,.ro true .u32 kk),(7,.ro true .u8 p),(8,.int .i64 i)],[.b [.ints .u8 32 S2.iB],.b [.ints .u32 8 (aH 8 h)]],true⟩
noncomputable def sN (p kk h:List Int) (a:Int):St:=⟨slotsOf 252 [(2,.ptr 0 0 0),(4,.ptr 1 0 0),(6,.ro true .u32 kk),(7,.ro true .u8 p),(8,.int .i64 a),(9,.nl (.slice none 0 0)),(10,.int .i64 0)],[.b [.ints .u8 32 S2.iB],.b [.ints .u32 8 (aH 8 h)]],true⟩
noncomputable def sA (p kk h:List Int) (a:Int) (n:Nat) (w:List Int) (i:Int):St:=⟨slotsOf 252 [(2,.ptr 0 0 0),(4,.ptr 1 0 0),(6,.ro true .u32 kk),(7,.ro true .u8 p),(8,.int .i64 a),(9,.sl 2 0 0 1 n n false true),(10,.int .i64 i)],[.b [.ints .u8 32 S2.iB],.b [.ints .u32 8 (aH 8 h)],.b [.ints .u32 n w]],true⟩
noncomputable def sB (p kk h:List Int) (a:Int) (n:Nat) (w:List Int) (i:Int):St:=⟨slotsOf 252 [(2,.ptr 0 0 0),(4,.ptr 1 0 0),(6,.ro true .u32 kk),(7,.ro true .u8 p),(8,.int .i64 a),(9,.sl 2 0 0 1 n n false true),(12,.int .i64 i)],[.b [.ints .u8 32 S2.iB],.b [.ints .u32 8 (aH 8 h)],.b [.ints .u32 n w]],true⟩
noncomputable def sC (p kk h:List Int) (a:Int) (n:Nat) (w s:List Int) (i:Int):St:=⟨slotsOf 252 [(2,.ptr 0 0 0),(4,.ptr 1 0 0),(6,.ro true .u32 kk),(7,.ro true .u8 p),(8,.int .i64 a),(9,.sl 2 0 0 1 n n false true),(15,.ptr 3 0 0),(16,.int .i64 i)],[.b [.ints .u8 32 S2.iB],.b [.ints .u32 8 (aH 8 h)],.b [.ints .u32 n w],.b [.ints .u32 8 (aH 8 s)]],true⟩
noncomputable def sD (p kk h:List Int) (a:Int) (n:Nat) (w s:List Int):St:=⟨slotsOf 252 [(2,.ptr 0 0 0),(4,.ptr 1 0 0),(6,.ro true .u32 kk),(7,.ro true .u8 p),(8,.int .i64 a),(15,.ptr 3 0 0),(20,.int .i64 0)],[.b [.ints .u8 32 S2.iB],.b [.ints .u32 8 (aH 8 h)],.b [.ints .u32 n w],.b [.ints .u32 8 (aH 8 s)]],true⟩
def oq (p:List Int) (q i:Int):Bool:=aa (aa (aa (aa (aa (aa (aa (aa (aa true (decide (i<16))) (cL q p.length)) (decide (q.toNat<p.length))) (cL (IntKind.i64.wrap (q+1)) p.length)) (decide ((IntKind.i64.wrap (q+1)).toNat<p.length)))
 (cL (IntKind.i64.wrap (q+2)) p.length)) (decide ((IntKind.i64.wrap (q+2)).toNat<p.length))) (cL (IntKind.i64.wrap (q+3)) p.length)) (decide ((IntKind.i64.wrap (q+3)).toNat<p.length))
section
variable (p kk h w s:List Int) (n:Nat) (a i:Int)
theorem T9:(aW Tryz.prog (rC true true true true) 60 0 2 (atoms rO) (sO p kk h a)).bind (St.cut [2,4,6,7,8] 2)=some {sO p kk h a with ob:=aa true (decide (a<p.length))}:=by kernel_rfl
theorem Ua:(exec Tryz.prog (rC true true true true) 60 0 (aA 3 rO) (sO p kk h a)).bind (fun r=>(r.2.cut [2,4,6,7,8] 2).map fun q=>(r.1,q))=some (.normal,sO p kk h (IntKind.i64.wrap (a+64))):=by kernel_rfl
theorem aaI:(exec Tryz.prog (rC false true true true) 60 0 rO (sO p kk h a)).bind (fun r=>(r.2.cut [2,4,6,7,8] 2).map fun q=>(r.1,q))=some (.exit 2,{sO p kk h a with ob:=aa true (!decide (a<p.length))}):=by kernel_rfl
theorem Ub:(aW Tryz.prog (rC true true true true) 60 0 2 (atoms r3) (sO p kk h a)).bind (St.cut [2,4,6,7,8,9,10] 2)=some (sN p kk h a):=by kernel_rfl
theorem aaJ:(exec Tryz.prog (rC true true true true) 60 0 (inner (inner (aA 2 r3))) (sA p kk h a n w i)).bind (fun r=>(r.2.cut [2,4,6,7,8,9,10] 3).map fun q=>(r.1,q))=
  some (.normal,{sA p kk h a (n+1) (w++[wq p (ix a i)]) (IntKind.i64.wrap (i+1)) with ob:=aa (oq p (ix a i) i) (xN w.length n)}):=by kernel_rfl
theorem aaK:(exec Tryz.prog (rC true false true true) 60 0 (inner (inner (aA 2 r3))) (sA p kk h a n w i)).bind (fun r=>(r.2.cut [2,4,6,7,8,9,10] 3).map fun q=>(r.1,q))=
  some (.exit 4,{sA p kk h a n w i with ob:=aa true (!decide (i<16))}):=by kernel_rfl
theorem Uc:(aW Tryz.prog (rC true true true true) 60 0 1 ((atoms r3).drop 3) (sA p kk h a n w i)).bind (St.cut [2,4,6,7,8,9,12] 3)=some (sB p kk h a n w 16):=by kernel_rfl
theorem aaL:(exec Tryz.prog (rC true true true true) 60 0 (inner (inner (aA 4 r3))) (sB p kk h a n w i)).bind (fun r=>(r.2.cut [2,4,6,7,8,9,12] 3).map fun q=>(r.1,q))=
  some (.normal,{sB p kk h a (n+1) (w++[nxJ w i]) (IntKind.i64.wrap (i+1)) with ob:=nxP i n w.length}):=by kernel_rfl
theorem aaM:(exec Tryz.prog (rC true true false true) 60 0 (inner (inner (aA 4 r3))) (sB p kk h a n w i)).bind (fun r=>(r.2.cut [2,4,6,7,8,9,12] 3).map fun q=>(r.1,q))=
  some (.exit 6,{sB p kk h a n w i with ob:=aa true (!decide (i<64))}):=by kernel_rfl
theorem Pp:(aW Tryz.prog (rC true true true true) 60 0 2 ((atoms r3).drop 5) (sB p kk h a n w i)).bind (St.cut [2,4,6,7,8,9,15,16] 4)=some (sC p kk h a n w h 0):=by kernel_rfl
theorem Ud:(exec Tryz.prog (rC true true true true) 60 0 (inner (inner (aA 7 r3))) (sC p kk h a n w s i)).bind (fun r=>(r.2.cut [2,4,6,7,8,9,15,16] 4).map fun q=>(r.1,q))=
  some (.normal,{sC p kk h a n w (Ft (aH 8 s) (kk.getD i.toNat 0) (w.getD (0+i.toNat) 0)) (IntKind.i64.wrap (i+1)) with ob:=aa (aa (aa (aa (aa true (decide (i<64))) (cL i kk.length)) (decide (i.toNat<kk.length))) (cL i n)) (decide (0+i.toNat<n))}):=by kernel_rfl
theorem Ue:(exec Tryz.prog (rC true true true false) 60 0 (inner (inner (aA 7 r3))) (sC p kk h a n w s i)).bind (fun r=>(r.2.cut [2,4,6,7,8,9,15,16] 4).map fun q=>(r.1,q))=
  some (.exit 8,{sC p kk h a n w s i with ob:=aa true (!decide (i<64))}):=by kernel_rfl
theorem Pq:(aW Tryz.prog (rC true true true true) 60 0 1 ((atoms r3).drop 8) (sC p kk h a n w s i)).bind (St.cut [2,4,6,7,8,15,20] 4)=some (sD p kk h a n w s):=by kernel_rfl
theorem Uf:(exec Tryz.prog (rC true true true true) 60 0 (aA 9 r3) (sD p kk h a n w s)).bind (fun r=>(r.2.cut [2,4,6,7,8] 2).map fun q=>(r.1,q))=some (.normal,sO p kk (S2.Dn (aH 8 h) (aH 8 s)) a):=by kernel_rfl
end
end Go.Proofs.YtibfpjeeanppjaaGreat.Q2
end
section
namespace Go.Proofs.YtibfpjeeanppjaaGreat.Q2
open Go Go.Sy Sh
def wA (p:List Int) (a:Int):Nat→List Int
 |0=>[]
 |j+1=>wA p a j++[wq p (ix a j)]
def wG (w:List Int):Nat→List Int
 |0=>w
 |j+1=>wG w j++[nxJ (wG w j) (16+j)]
def JY (s k w:List Int):Nat→List Int
 |0=>s
 |j+1=>Ft (aH 8 (JY s k w j)) (k.getD j 0) (w.getD j 0)
def qo (p kk h:List Int) (a:Int):List Int:=S2.Dn (aH 8 h) (aH 8 (JY h kk (wG (wA p a 16) 48) 64))
def hN (p kk h:List Int):Nat→List Int
 |0=>h
 |j+1=>qo p kk (hN p kk h j) (64*j:Nat)
theorem A3 (p:List Int) (a:Int):∀j,(wA p a j).length=j
 |0=>rfl
 |j+1=>by rw [wA,List.length_append,A3 p a j];rfl
theorem Fu (w:List Int):∀j,(wG w j).length=w.length+j
 |0=>rfl
 |j+1=>by rw [wG,List.length_append,Fu w j];rfl
theorem Wc {a i:Nat} (ha:a<10000000000000) (hi:i<16):ix a i=((a+4*i:Nat):Int):=by
 unfold ix
 rw [wrap_i64 (4*(i:Int)) (by omega) (by omega),wrap_i64 _ (by omega) (by omega)]
 omega
theorem Ug {p:List Int} {a i:Nat} (ha:a<10000000000000) (hp:a+64≤p.length) (hi:i<16):oq p (ix a i) i=true:=by
 rw [Wc ha hi]
 unfold oq
 rw [wrap_i64 _ (by omega) (by omega),wrap_i64 _ (by omega) (by omega),wrap_i64 _ (by omega) (by omega),aK (by omega) (by omega),aK (by omega) (by omega),aK (by omega) (by omega),aK (by omega) (by omega)]
 simp only [av,decide_eq_true_eq,true_and,and_true]
 omega
theorem Pr {j:Nat} (hj:j<48):nxP (16+j) (16+j) (16+j)=true:=by
 unfold nxP
 rw [wrap_i64 _ (by omega) (by omega),wrap_i64 _ (by omega) (by omega),wrap_i64 _ (by omega) (by omega),wrap_i64 _ (by omega) (by omega),cG (by omega)]
 simp only [av,decide_eq_true_eq,true_and,and_true]
 refine ⟨⟨⟨⟨⟨⟨⟨⟨?_,aK (by omega) (by omega)⟩,?_⟩,aK (by omega) (by omega)⟩,?_⟩,aK (by omega) (by omega)⟩,?_⟩,aK (by omega) (by omega)⟩,?_⟩<;>omega
section
variable (p kk h:List Int) {a:Nat} (ha:a<10000000000000) (hp:a+64≤p.length) (hk:kk.length=64)
include ha hp in
theorem Uh:Tr Tryz.prog none 0 (aA 2 r3) (sA p kk h a 0 [] 0) .normal (sA p kk h a 16 (wA p a 16) 16):=by
 have key:=Tr.loop (P:=Tryz.prog) (ro:=none) (k:=0) 4 (c:=aA 2 r3) (by kernel_rfl) (fun j:Nat=>sA p kk h a j (wA p a j) j) 16 (s':=sA p kk h a 16 (wA p a 16) 16) (fun j hj=>?_) ?_
 ·exact key
 ·have k:=aaJ p kk h (wA p a j) j a j
  rw [Ug ha hp hj,A3,cG (by omega),wrap_i64 _ (by omega) (by omega)] at k
  refine Tr.post (Tr.cut (gG true true true true) 60 _ 3 (by omega) k rfl) (bq.same ?_ rfl)
  show (sA _ _ h _ _ [] _).t=(sA _ _ h _ _ [] _).t
  rw [show ((j:Int)+1)=((j+1:Nat):Int) by omega]
 ·exact Tr.post (Tr.cut (gG true false true true) 60 _ 3 (by omega) (aaK p kk h (wA p a 16) 16 a 16) rfl) (bq.same rfl rfl)
theorem Ui {w:List Int} (hw:w.length=16) (a:Int):Tr Tryz.prog none 0 (aA 4 r3) (sB p kk h a 16 w 16) .normal (sB p kk h a 64 (wG w 48) 64):=by
 have key:=Tr.loop (P:=Tryz.prog) (ro:=none) (k:=0) 6 (c:=aA 4 r3) (by kernel_rfl) (fun j:Nat=>sB p kk h a (16+j) (wG w j) (16+j)) 48 (s':=sB p kk h a 64 (wG w 48) 64) (fun j hj=>?_) ?_
 ·exact key
 ·have k:=aaL p kk h (wG w j) (16+j) a (16+j)
  rw [Fu,hw,Pr hj,wrap_i64 _ (by omega) (by omega)] at k
  refine Tr.post (Tr.cut (gG true true true true) 60 _ 3 (by omega) k rfl) (bq.same ?_ rfl)
  show (sB _ _ h _ _ [] _).t=(sB _ _ h _ _ [] _).t
  rw [show ((16:Int)+(j:Int)+1)=16+((j+1:Nat):Int) by omega,show 16+j+1=16+(j+1) by omega]
 ·exact Tr.post (Tr.cut (gG true true false true) 60 _ 3 (by omega) (aaM p kk h (wG w 48) 64 a 64) rfl) (bq.same rfl rfl)
include hk in
theorem Pu (w:List Int) (a:Int):Tr Tryz.prog none 0 (aA 7 r3) (sC p kk h a 64 w h 0) .normal (sC p kk h a 64 w (JY h kk w 64) 64):=by
 have key:=Tr.loop (P:=Tryz.prog) (ro:=none) (k:=0) 8 (c:=aA 7 r3) (by kernel_rfl) (fun j:Nat=>sC p kk h a 64 w (JY h kk w j) j) 64 (s':=sC p kk h a 64 w (JY h kk w 64) 64) (fun j hj=>?_) ?_
 ·exact key
 ·have k:=Ud p kk h w (JY h kk w j) 64 a j
  rw [hk,wrap_i64 _ (by omega) (by omega),show 0+(j:Int).toNat=j by omega,show (j:Int).toNat=j by omega] at k
  refine Tr.post (Tr.cut (gG true true true true) 60 _ 4 (by omega) k ?_) (bq.same ?_ rfl)
  ·simp only [av,decide_eq_true_eq,true_and]
   exact ⟨⟨⟨⟨by omega,aK (by omega) (by omega)⟩,by omega⟩,aK (by omega) (by omega)⟩,by omega⟩
  ·show (sC _ _ h _ _ [] [] _).t=(sC _ _ h _ _ [] [] _).t
   rw [show ((j:Int)+1)=((j+1:Nat):Int) by omega]
 ·exact Tr.post (Tr.cut (gG true true true false) 60 _ 4 (by omega) (Ue p kk h w (JY h kk w 64) 64 a 64) rfl) (bq.same rfl rfl)
theorem agl (a:Int):bq 0 (sN p kk h a) (sA p kk h a 0 [] 0):=
 (bq.nothing (k:=0) (t:=(sN p kk h a).t) (h:=(sN p kk h a).h) (o:=true) (o':=true) 9 .u32 false true (by kernel_rfl)).trans (bq.same (by kernel_rfl) (by kernel_rfl))
include ha hp hk in
theorem aaN:Tr Tryz.prog none 0 r3 (sO p kk h a) .normal (sO p kk (qo p kk h a) a):=by
 refine Tr.ew ?_
 refine bf.items (gG true true true true) 60 2 _ 2 (by omega) (Ub p kk h a) rfl (by decide) ?_
 refine bf.pre (s1:=sA p kk h a 0 [] 0) ?_ (agl p kk h a) (by decide)
 refine bf.item 2 (by decide) (Uh p kk h ha hp) ?_
 refine bf.items (gG true true true true) 60 1 _ 3 (by omega) (Uc p kk h (wA p a 16) 16 a 16) rfl (by decide) ?_
 refine bf.item 4 (by decide) (Ui p kk h (A3 p a 16) a) ?_
 refine bf.items (gG true true true true) 60 2 _ 4 (by omega) (Pp p kk h (wG (wA p a 16) 48) 64 a 64) rfl (by decide) ?_
 refine bf.item 7 (by decide) (Pu p kk h hk (wG (wA p a 16) 48) a) ?_
 refine bf.items (gG true true true true) 60 1 _ 4 (by omega) (Pq p kk h (wG (wA p a 16) 48) (JY h kk (wG (wA p a 16) 48) 64) 64 a 64) rfl (by decide) ?_
 exact bf.item 9 (by decide) (Tr.cut (gG true true true true) 60 _ 2 (by omega) (Uf p kk h (wG (wA p a 16) 48) (JY h kk (wG (wA p a 16) 48) 64) 64 a) rfl) ⟨rfl,rfl⟩
theorem Pv:aA 2 rO= .block 3 r3:=by kernel_rfl
include ha hp hk in
theorem Uj:Tr Tryz.prog none 0 rO (sO p kk h a) .normal (sO p kk (qo p kk h a) (a+64:Nat)):=by
 refine Tr.ew ?_
 refine bf.items (gG true true true true) 60 2 _ 2 (by omega) (T9 p kk h a) ?_ (by decide) ?_
 ·simp only [av,decide_eq_true_eq,true_and];omega
 refine bf.item 2 (by decide) (s1:=sO p kk (qo p kk h a) a) ?_ ?_
 ·rw [Pv]
  exact Tr.fN (Tr.pre (aaN p kk h ha hp hk) (bq.same rfl rfl)) (by simp)
 ·have k:=Ua p kk (qo p kk h a) a
  rw [wrap_i64 _ (by omega) (by omega)] at k
  refine bf.item 3 (by decide) (Tr.post (Tr.cut (gG true true true true) 60 _ 2 (by omega) k rfl) (bq.same ?_ rfl)) ⟨rfl,rfl⟩
  show (sO _ _ h _).t=(sO _ _ h _).t
  rw [show ((a:Int)+64)=((a+64:Nat):Int) by omega]
end
theorem aaO {p kk:List Int} (h:List Int) {N:Nat} (hp:p.length=64*N) (hk:kk.length=64) (hb:N<10000000000):Tr Tryz.prog none 0 (aA 8 rB) (sO p kk h 0) .normal (sO p kk (hN p kk h N) (64*N:Nat)):=by
 have key:=Tr.loop (P:=Tryz.prog) (ro:=none) (k:=0) 2 (c:=aA 8 rB) (by kernel_rfl) (fun j:Nat=>sO p kk (hN p kk h j) (64*j:Nat)) N (s':=sO p kk (hN p kk h N) (64*N:Nat)) (fun j hj=>?_) ?_
 ·exact key
 ·exact Uj p kk (hN p kk h j) (a:=64*j) (by omega) (by omega) hk
 ·exact Tr.post (Tr.cut (gG false true true true) 60 _ 2 (by omega) (aaI p kk (hN p kk h N) (64*N:Nat)) (by rw [hp];simp [aa])) (bq.same rfl rfl)
theorem JB (xs:List Int):(fX xs).length=64*((fX xs).length/64):=by
 have h:=(sg (len:=xs.length) (show 56<64 by omega)).1
 have hl:(fX xs).length=xs.length+1+cU xs.length 64 56+8:=by unfold fX;rw [List.length_append,iM];rfl
 rw [hl];omega
noncomputable def g7 (xs:List Int):List Int:=gY (S2.D5 (aH 8 (hN (fX xs) S2.gR S2.qF ((fX xs).length/64))))
theorem Uk:S2.gR.length=64:=by kernel_rfl
theorem Ul (xs:List Int):(aW Tryz.prog (rC true true true true) 60 0 8 (atoms rB) ⟨aO Tryz.f78.ntmps [.ro false .u8 xs],[],true⟩).bind (St.cut [2,4,6,7,8] 2)=
  some {sO (fX xs) S2.gR S2.qF 0 with ob:=aa true (aa true (decide (xs.length<274877900000)))}:=by kernel_rfl
theorem vC {xs:List Int} (h1:xs.length<274877900000):ai Tryz.prog 78 [.ro false .u8 xs] [] (.agg [.ints .u8 32 (g7 xs)]) []:=by
 have hp:=JB xs
 generalize hn:(fX xs).length/64=N at hp
 have hb:N<10000000000:=by
  have hK:cU xs.length 64 56<64:=Nat.mod_lt _ (by omega)
  have hl:(fX xs).length=xs.length+1+cU xs.length 64 56+8:=by unfold fX;rw [List.length_append,iM];rfl
  omega
 rw [g7,aD,hn]
 refine ai.cu (gG true true true true) 400 9 0 Tryz.func78 (by simp) rfl (fun s' x h=>?_) (s:=sO (fX xs) S2.gR (hN (fX xs) S2.gR S2.qF N) (64*N:Nat)) (p:=true) (by kernel_rfl) rfl rfl rfl
 refine bf.items (gG true true true true) 60 8 _ 2 (by simp) (Ul xs) (by rw [decide_eq_true h1];rfl) (by decide) ?_
 exact bf.item 8 (by decide) (Tr.pre (aaO S2.qF hp Uk hb) (bq.same rfl rfl)) h
noncomputable def Dr:List SV→Option (SV×List Blk×Bool)
 | [.ro false .u8 xs]=>some (.agg [.ints .u8 32 (g7 xs)],[],decide (xs.length<274877900000))
 |_=>none
noncomputable def KS:Entry Tryz.prog:=.val 78 _ Tryz.func78 (by decide) rfl true 0 Dr fun vs v new e=>by
 unfold Dr at e
 split at e
 ·simp only [Option.some.injEq,Prod.mk.injEq,decide_eq_true_eq] at e
  obtain ⟨rfl,rfl,h1⟩:=e
  exact vC h1
 ·cases e
end Go.Proofs.YtibfpjeeanppjaaGreat.Q2
end
section
namespace Go.Proofs.YtibfpjeeanppjaaGreat.Q2
open Go Go.Sy Sh
open R3 (ot Ff Ts Db uh V2 Fg oU)
def Ds (l:List Int):Prop:=∀x∈l,ot x
theorem Ds.getD {l:List Int} (h:Ds l) (i:Nat):ot (l.getD i 0):=by
 rw [List.getD_eq_getElem?_getD]
 cases e:l[i]? with
 |none=>exact ⟨by decide,by decide⟩
 |some x=>exact h x (List.mem_of_getElem? e)
theorem apI {x:Int} (h:ot x):V x=x:=by
 have:V x=x%4294967296:=Ts x
 rw [this]
 exact Int.emod_eq_of_lt h.1 h.2
theorem aaP {x:Int} (h:0≤x∧x<18446744073709551616):Sh.W x=x:=by
 unfold Sh.W
 rw [wrap_u64]
 exact Int.emod_eq_of_lt h.1 h.2
theorem sj {x:Int} (hx:ot x) (a b:Int) (n m:Nat) (h:n+m=32) (e1:(bS .u64 (Sh.W a) 31).toNat=m) (e2:(Sh.W (32-bS .u64 (Sh.W a) 31)).toNat=n)
  (e3:b.toNat=n) (e4:(Sh.W (32-b)).toNat=m):S2.mQ x a=xI x b:=by
 unfold S2.mQ xI
 rw [e1,e2,e3,e4]
 refine (Fg hx n m h).trans ?_
 rw [Int.add_comm]
theorem oW {x:Int} (hx:ot x) (a:Int) (n m:Nat) (h:n+m=32) (e1:(bS .u64 (Sh.W (IntKind.i64.wrap (0-a))) 31).toNat=m) (e2:(Sh.W (32-bS .u64 (Sh.W (IntKind.i64.wrap (0-a))) 31)).toNat=n)
  (e3:a.toNat=n) (e4:(Sh.W (32-a)).toNat=m):S2.Dm x a=xI x a:=sj hx _ a n m h e1 e2 e3 e4
theorem aaQ {x:Int} (hx:ot x):S2.Wa x 6 11 25=tnQ x 6 11 25:=by
 unfold S2.Wa tnQ
 rw [oW hx 6 6 26 rfl (by decide) (by decide) rfl (by decide),oW hx 11 11 21 rfl (by decide) (by decide) rfl (by decide),oW hx 25 25 7 rfl (by decide) (by decide) rfl (by decide)]
theorem aaR {x:Int} (hx:ot x):S2.Wa x 2 13 22=tnQ x 2 13 22:=by
 unfold S2.Wa tnQ
 rw [oW hx 2 2 30 rfl (by decide) (by decide) rfl (by decide),oW hx 13 13 19 rfl (by decide) (by decide) rfl (by decide),oW hx 22 22 10 rfl (by decide) (by decide) rfl (by decide)]
theorem agm {x y:Int} (hx:ot x) (hy:ot y) (a b:Int):S2.nxW y x a b=nxQ y x a b:=by
 unfold S2.nxW nxQ
 rw [sj hy (-17) 17 17 15 rfl (by decide) (by decide) rfl (by decide),sj hy (-19) 19 19 13 rfl (by decide) (by decide) rfl (by decide),sj hx (-7) 7 7 25 rfl (by decide) (by decide) rfl (by decide),sj hx (-18) 18 18 14 rfl (by decide) (by decide) rfl (by decide)]
theorem not_eq {e:Int} (h:ot e):cm .u32 IntKind.u32.max e=V (4294967295-e):=by
 obtain ⟨n,rfl⟩:=Int.eq_ofNat_of_zero_le h.1
 have hn:n<2^32:=by have:=h.2;omega
 unfold cm jy
 rw [show IntKind.u32.max=((2^32-1:Nat):Int) by decide]
 have e1:BitVec.ofInt 32 ((2^32-1:Nat):Int)=BitVec.allOnes 32:=by decide
 show IntKind.u32.wrap ((BitVec.ofInt 32 ((2^32-1:Nat):Int)^^^BitVec.ofInt 32 (n:Int)).toNat:Int)=_
 rw [e1,BitVec.allOnes_xor,BitVec.toNat_not,BitVec.ofInt_natCast,BitVec.toNat_ofNat,Nat.mod_eq_of_lt hn]
 unfold V
 congr 1
 omega
theorem agn {e:Int} (h:ot e) (f g:Int):S2.NC e f g=chQ e f g:=by unfold S2.NC chQ;rw [not_eq h]
theorem aaS {s:List Int} (hs:Ds s) (k w:Int):S2.Jz s k w=Ft s k w:=by
 unfold S2.Jz Ft S2.t1W S2.t2W t1Q t2Q
 rw [aaQ (hs.getD 4),aaR (hs.getD 0),agn (hs.getD 4)]
theorem aaT {s:List Int} (hs:Ds s) (k w:Int):Ds (Ft s k w):=by
 intro x hx
 simp only [Ft,List.mem_cons,List.not_mem_nil,or_false] at hx
 rcases hx with rfl|rfl|rfl|rfl|rfl|rfl|rfl|rfl<;>first|exact Ff _|exact hs.getD _
theorem HW {h:List Int} (hh:Ds (aH 8 h)) (k w:List Int):∀j,aH 8 (JY h k w j)=S2.dW (aH 8 h) k w j∧Ds (S2.dW (aH 8 h) k w j)
 |0=>⟨rfl,hh⟩
 |j+1=>by
  obtain ⟨h1,h2⟩:=HW hh k w j
  have e:aH 8 (JY h k w (j+1))=Ft (aH 8 (JY h k w j)) (k.getD j 0) (w.getD j 0):=rfl
  rw [e,h1,S2.dW,aaS h2]
  exact ⟨rfl,aaT h2 _ _⟩
theorem aaU {w:List Int} {j:Nat} (hj:j<48):nxJ w (16+j)=nxQ (w.getD (14+j) 0) (w.getD (1+j) 0) (w.getD (9+j) 0) (w.getD j 0):=by
 unfold nxJ
 rw [wrap_i64 _ (by omega) (by omega),wrap_i64 _ (by omega) (by omega),wrap_i64 _ (by omega) (by omega),wrap_i64 _ (by omega) (by omega)]
 rw [show 0+((16:Int)+j-2).toNat=14+j by omega,show 0+((16:Int)+j-15).toNat=1+j by omega,show 0+((16:Int)+j-7).toNat=9+j by omega,show 0+((16:Int)+j-16).toNat=j by omega]
theorem oX {a b:List Int} {i:Nat} (h:i<a.length):(a++b).getD i 0=a.getD i 0:=by
 rw [List.getD_eq_getElem?_getD,List.getD_eq_getElem?_getD,List.getElem?_append_left h]
theorem Dt {w:List Int} (hw:w.length=16) (hi:Ds w):∀j,j≤48→S2.sched (w++List.replicate 48 0) j=wG w j++List.replicate (48-j) 0∧Ds (wG w j)
 |0,_=>⟨rfl,hi⟩
 |j+1,hj=>by
  obtain ⟨h1,h2⟩:=Dt hw hi j (by omega)
  have hl:(wG w j).length=16+j:=by rw [Fu,hw]
  refine ⟨?_,?_⟩
  ·rw [S2.sched,h1,oX (by omega),oX (by omega),oX (by omega),oX (by omega),agm (h2.getD _) (h2.getD _),wG,aaU (by omega)]
   rw [List.set_append_right _ _ (by omega),hl,show 16+j-(16+j)=0 by omega,show 48-j=(48-(j+1))+1 by omega,List.replicate_succ,List.set_cons_zero,List.append_assoc]
   rfl
  ·intro x hx
   rw [wG,List.mem_append,List.mem_singleton] at hx
   rcases hx with hx|rfl
   ·exact h2 x hx
   ·exact Ff _
def By (l:List Int):Prop:=∀x∈l,0≤x∧x<256
theorem By.getD {l:List Int} (h:By l) (i:Nat):0≤l.getD i 0∧l.getD i 0<256:=by
 rw [List.getD_eq_getElem?_getD]
 cases e:l[i]? with
 |none=>exact ⟨by decide,by decide⟩
 |some x=>exact h x (List.mem_of_getElem? e)
theorem mK (p:List Int) (a:Nat) {i:Nat} (hi:i<64):((p.drop a).take 64).getD i 0=p.getD (a+i) 0:=by
 rw [List.getD_eq_getElem?_getD,List.getD_eq_getElem?_getD,List.getElem?_take_of_lt hi,List.getElem?_drop]
theorem ago {p:List Int} (hp:By p) {a i:Nat} (ha:a<10000000000000) (hi:i<16):wq p (ix a i)=S2.wd ((p.drop a).take 64) i:=by
 rw [Wc ha hi]
 unfold wq S2.wd
 rw [wrap_i64 _ (by omega) (by omega),wrap_i64 _ (by omega) (by omega),wrap_i64 _ (by omega) (by omega),mK p a (by omega),mK p a (by omega),mK p a (by omega),mK p a (by omega)]
 rw [show ((a+4*i:Nat):Int).toNat=a+4*i by omega,show (((a+4*i:Nat):Int)+1).toNat=a+(4*i+1) by omega,show (((a+4*i:Nat):Int)+2).toNat=a+(4*i+2) by omega,show (((a+4*i:Nat):Int)+3).toNat=a+(4*i+3) by omega]
 have b0:=hp.getD (a+4*i)
 have b1:=hp.getD (a+(4*i+1))
 have b2:=hp.getD (a+(4*i+2))
 have b3:=hp.getD (a+(4*i+3))
 generalize p.getD (a+4*i) 0=p0 at*
 generalize p.getD (a+(4*i+1)) 0=p1 at*
 generalize p.getD (a+(4*i+2)) 0=p2 at*
 generalize p.getD (a+(4*i+3)) 0=p3 at*
 rw [uh _ _ (by decide),uh _ _ (by decide),uh _ _ (by decide)]
 simp only [S2.V,V,S2.wrap_u32]
 have e0:p0%4294967296*2^24%4294967296=16777216*p0:=by omega
 have e1:p1%4294967296*2^16%4294967296=65536*p1:=by omega
 have e2:p2%4294967296*2^8%4294967296=256*p2:=by omega
 have e3:p3%4294967296=p3:=by omega
 rw [e0,e1,e2,e3,Db 24 (16777216*p0) (65536*p1) (by omega) (by omega) (by omega) (by omega) (by omega) (by decide),Db 16 (16777216*p0+65536*p1) (256*p2) (by omega) (by omega) (by omega) (by omega) (by omega) (by decide),Db 8 (16777216*p0+65536*p1+256*p2) p3 (by omega) (by omega) (by omega) (by omega) (by omega) (by decide)]
 omega
theorem agp (p:List Int) (q:Int):ot (wq p q):=Ff _
theorem Wd {p:List Int} (hp:By p) {a:Nat} (ha:a<10000000000000):∀n,n≤16→wA p a n=(List.range n).map (S2.wd ((p.drop a).take 64))
 |0,_=>rfl
 |n+1,hn=>by rw [wA,Wd hp ha n (by omega),List.range_succ,List.map_append,ago hp ha (show n<16 by omega)];rfl
theorem We (p:List Int) (a:Int):∀n,Ds (wA p a n)
 |0=>fun x hx=>absurd hx (by simp [wA])
 |n+1=>by
  intro x hx
  rw [wA,List.mem_append,List.mem_singleton] at hx
  rcases hx with hx|rfl
  ·exact We p a n x hx
  ·exact agp _ _
theorem aaV {h:List Int} (hh:Ds h) (n:Nat):Ds (aH n h):=by
 intro x hx
 simp only [aH,List.mem_map] at hx
 obtain ⟨i,_,rfl⟩:=hx
 exact hh.getD i
theorem Pw {p:List Int} (hp:By p) (kk:List Int) {h:List Int} (hl:h.length=8) (hh:Ds h) {a:Nat} (ha:a<10000000000000):S2.ij h ((p.drop a).take 64) kk=qo p kk h a:=by
 have e:=Wd hp ha 16 (by omega)
 have e2:=(Dt (A3 p a 16) (We p a 16) 48 (by omega)).1
 rw [e] at e2
 have hq:=(HW (aaV hh 8) kk (wG (wA p a 16) 48) 64).1
 unfold S2.ij qo
 rw [aD,hq,aG hl]
 unfold S2.Jy
 rw [e2,e,show 48-48=0 from rfl,List.replicate_zero,List.append_nil]
theorem aaW (s t:List Int):Ds (S2.Dn s t):=by
 intro x hx
 simp only [S2.Dn,List.mem_map] at hx
 obtain ⟨i,_,rfl⟩:=hx
 exact Ff _
theorem Um (s t:List Int):(S2.Dn s t).length=8:=by simp [S2.Dn]
theorem Px {p:List Int} (hp:By p) (kk:List Int) {h:List Int} (hl:h.length=8) (hh:Ds h):∀j,j<10000000000→S2.iQ p kk h j=hN p kk h j∧Ds (hN p kk h j)∧(hN p kk h j).length=8
 |0,_=>⟨rfl,hh,hl⟩
 |j+1,hj=>by
  obtain ⟨h1,h2,h3⟩:=Px hp kk hl hh j (by omega)
  rw [S2.iQ,hN,h1,Pw hp kk h3 h2 (show 64*j<10000000000000 by omega)]
  exact ⟨rfl,aaW _ _,Um _ _⟩
theorem Wf {n:Nat} (hn:n<9223372036854775808):∀i,dQ n i=((n/32/256^i:Nat):Int)
 |0=>by
  rw [dQ,Int.tdiv_eq_ediv_of_nonneg (by omega),wrap_i64 _ (by omega) (by omega),Nat.pow_zero,Nat.div_one]
  omega
 |i+1=>by
  have hle:n/32/256^i≤n/32:=Nat.div_le_self _ _
  have e:n/32/256^(i+1)=n/32/256^i/256:=by rw [Nat.pow_succ, ←Nat.div_div_eq_div_mul]
  rw [dQ,Wf hn i,e]
  generalize n/32/256^i=q at*
  rw [Int.tdiv_eq_ediv_of_nonneg (by omega),wrap_i64 _ (by omega) (by omega)]
  omega
theorem wrap_u8 (n:Int):IntKind.u8.wrap n=n%256:=by simp [IntKind.wrap,IntKind.signed,IntKind.bits]
theorem Py {n:Nat} (hn:n<1000000000000000000) (i:Nat):oz n i=((8*n/256^i%256:Nat):Int):=by
 cases i with
 |zero=>
  rw [oz,Int.tmod_eq_emod_of_nonneg (by omega),wrap_i64 _ (by omega) (by omega),wrap_u8,Nat.pow_zero,Nat.div_one]
  omega
 |succ i=>
  have:8*n/256^(i+1)=n/32/256^i:=by
   rw [Nat.pow_succ,Nat.mul_comm (256^i), ←Nat.div_div_eq_div_mul]
   congr 1
   omega
  rw [oz,Wf (by omega),this]
  generalize n/32/256^i=q
  rw [Int.tmod_eq_emod_of_nonneg (by omega),wrap_u8]
  omega
theorem agq {n:Nat} (hn:n<1000000000000000000) (i:Nat) (hi:i<8):A4 n i=((8*n/256^i%256:Nat):Int):=by
 unfold A4
 rw [aaP ⟨by omega,by omega⟩,Fe.lD _ _ (by decide),Fe.dB _ _ _ (show 8*i≤64 by omega),wrap_u8]
 rw [Int.emod_eq_of_lt (a:=(n:Int)*2^3) (by omega) (by omega),show (n:Int)*2^3=((8*n:Nat):Int) by omega,Int.pow_mul,show ((2:Int)^8)=((256:Nat):Int) by decide]
 rw [←Int.natCast_pow, ←Int.natCast_ediv]
 generalize 8*n/256^i=q
 omega
theorem Un {n:Nat} (hn:n<1000000000000000000):JA n=JC n 8:=by
 have hl:∀i,i<8→oz n i=A4 n i:=fun i hi=>by rw [Py hn,agq hn i hi]
 show _=[oz n 7,oz n 6,oz n 5,oz n 4,oz n 3,oz n 2,oz n 1,oz n 0]
 rw [hl 7 (by decide),hl 6 (by decide),hl 5 (by decide),hl 4 (by decide),hl 3 (by decide),hl 2 (by decide),hl 1 (by decide),hl 0 (by decide)]
 rfl
theorem Uo {xs:List Int} (h:By xs) (pc q:Nat):By (eJ xs pc q):=by
 intro x hx
 simp only [eJ,List.mem_append,List.mem_singleton,List.mem_replicate] at hx
 rcases hx with (hx|rfl)|⟨_,rfl⟩
 ·exact h x hx
 ·decide
 ·decide
theorem aaX {xs:List Int} (h:xs.length<1000000000000000000):S2.si xs=fX xs:=by unfold S2.si S2.ow fX;rw [Un h]
theorem aaY {xs:List Int} (hn:xs.length<1000000000000000000) (h:By xs):By (fX xs):=by
 intro x hx
 rw [fX,List.mem_append] at hx
 rcases hx with hx|hx
 ·exact Uo h _ _ x hx
 ·simp only [JC,List.mem_map] at hx
  obtain ⟨i,_,rfl⟩:=hx
  rw [Py hn];omega
theorem aaZ:Ds S2.qF:=by
 intro x hx
 simp only [S2.qF,List.mem_map] at hx
 obtain ⟨i,_,rfl⟩:=hx
 exact Ff _
theorem kH {xs:List Int} (h:By xs) (hn:xs.length<274877900000):S2.aq xs=g7 xs:=by
 have hK:cU xs.length 64 56<64:=Nat.mod_lt _ (by omega)
 have hl:(fX xs).length=xs.length+1+cU xs.length 64 56+8:=by unfold fX;rw [List.length_append,iM];rfl
 obtain ⟨h1,_,h3⟩:=Px (aaY (by omega) h) S2.gR S2.qG aaZ ((fX xs).length/64) (by omega)
 unfold S2.aq g7
 rw [aaX (by omega),h1,aD,aD,aG h3]
end Go.Proofs.YtibfpjeeanppjaaGreat.Q2
end
