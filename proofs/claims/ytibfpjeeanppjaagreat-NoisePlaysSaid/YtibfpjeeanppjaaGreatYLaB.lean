/- This file holds the texts LaA, LaB, a section each. No conditions beyond those in the theorems. -/
import Derived.Test.YtibfpjeeanppjaaGreatYMf
import Derived.Test.YtibfpjeeanppjaaGreatYMh
import Derived.Test.YtibfpjeeanppjaaGreatYLaL
set_option linter.all false
set_option maxRecDepth 100000
section
namespace Go.Proofs.YtibfpjeeanppjaaGreat.La
open Go Go.Sy Fe
noncomputable def cl0:bu:=mk (P:=Tryz.prog) [] []
theorem XE:ag Tryz.prog cl0:=ah _ au.nil _ _
def sn (l:List Int):List Int:=(l.set 0 (bS .u8 (l.getD 0 0) 248)).set 31 (gi .u8 (bS .u8 ((l.set 0 (bS .u8 (l.getD 0 0) 248)).getD 31 0) 127) 64)
noncomputable def iD (l:List Int):List Int:=gY (sn l)
noncomputable def clF:List SV→Option (SV×List Blk×Bool)
 | [.agg [.ints .u8 32 l]]=>some (.agg [.ints .u8 32 (iD l)],[],decide (l.length=32))
 |_=>none
theorem ac8 {l:List Int} (h:l.length=32):ai Tryz.prog 99 [.agg [.ints .u8 32 l]] [] (.agg [.ints .u8 32 (iD l)]) []:=by
 rw [iD,aD]
 exact aF XE 60 Tryz.func99 (p:=aa (aa true (true&&decide (l.length=32))) (true&&decide ((l.set 0 (bS .u8 (l.getD 0 0) 248)).length=32))) (by kernel_rfl) (by rw [List.length_set,h];rfl) rfl
noncomputable def XF:Entry Tryz.prog:=.val 99 _ Tryz.func99 (by decide) rfl false 0 clF fun vs v new e=>by
 unfold clF at e
 split at e
 ·simp only [Option.some.injEq,Prod.mk.injEq,decide_eq_true_eq] at e
  obtain ⟨rfl,rfl,h⟩:=e
  exact ac8 h
 ·cases e
noncomputable abbrev fM (a b:List Int):List Int:=gS (aH 5 a) (aH 5 b)
noncomputable def wdX (x z:List Int):List Int:=fM (fM (gT x z) (gT x z)) (fM (gU x z) (gU x z))
noncomputable def wdE (x z:List Int):List Int:=gU (fM (gT x z) (gT x z)) (fM (gU x z) (gU x z))
noncomputable def wdZ (x z:List Int):List Int:=fM (wdE x z) (gT (fM (gT x z) (gT x z)) (fM (cF 121665) (wdE x z)))
noncomputable def XG (x z x' z':List Int):List Int:=fM (gU x' z') (gT x z)
noncomputable def XH (x z x' z':List Int):List Int:=fM (gT x' z') (gU x z)
noncomputable def waX (x z x' z':List Int):List Int:=fM (gT (XG x z x' z') (XH x z x' z')) (gT (XG x z x' z') (XH x z x' z'))
noncomputable def waZ (u x z x' z':List Int):List Int:=fM u (fM (gU (XG x z x' z') (XH x z x' z')) (gU (XG x z x' z') (XH x z x' z')))
abbrev W4:=List Int×List Int×List Int×List Int
noncomputable def Iv (u:List Int) (bit:Bool) (s:W4):W4:=
 bif bit then (waX s.2.2.1 s.2.2.2 s.1 s.2.1,waZ u s.2.2.1 s.2.2.2 s.1 s.2.1,wdX s.2.2.1 s.2.2.2,wdZ s.2.2.1 s.2.2.2)
 else (wdX s.1 s.2.1,wdZ s.1 s.2.1,waX s.1 s.2.1 s.2.2.1 s.2.2.2,waZ u s.1 s.2.1 s.2.2.1 s.2.2.2)
noncomputable def rg (u:List Int) (s:W4):Blk:=.b [.ints .u64 5 u,.ints .u64 5 s.1,.ints .u64 5 s.2.1,.ints .u64 5 s.2.2.1,.ints .u64 5 s.2.2.2]
noncomputable def stC:bu:=mk (P:=Tryz.prog) [vr,KX,sE,fC] []
theorem KY:ag Tryz.prog stC:=ah _ au.nil _ _
def D7 (b:Bool):Int:=bif b then 1 else 0
theorem Q6 (u:List Int) (b:Bool) (s:W4):ai Tryz.prog 100 [.ptr 0 0 0,.int .i64 (D7 b)] [rg u s] (.aT []) [rg u (Iv u b s)]:=by
 obtain ⟨x0,z0,x1,z1⟩:=s
 cases b with
 |true=>exact aQ KY 60 Tryz.func100 1 (by simp) (p:=true) (by kernel_rfl) rfl rfl rfl
 |false=>exact aQ KY 60 Tryz.func100 1 (by simp) (p:=true) (by kernel_rfl) rfl rfl rfl
def adg (vs:List SV) (_:List Blk):List Nat:=match vs with
 | .ptr b _ _::_=>[b]
 |_=>[]
noncomputable def U5 (b:Bool):List SV→List Blk→Option (SV×List Blk×Bool)
 | [.ptr 0 0 0,.int .i64 i],[.b [.ints .u64 5 u,.ints .u64 5 x0,.ints .u64 5 z0,.ints .u64 5 x1,.ints .u64 5 z1]]=>some (.aT [],[rg u (Iv u b (x0,z0,x1,z1))],decide (i=D7 b))
 |_,_=>none
noncomputable def adh (b:Bool):Entry Tryz.prog:=.mut 100 _ Tryz.func100 (by decide) rfl adg 0 (U5 b) fun vs h0 v h1 e=>by
 unfold U5 at e
 split at e
 ·rename_i i u x0 z0 x1 z1
  simp only [Option.some.injEq,Prod.mk.injEq,decide_eq_true_eq] at e
  obtain ⟨rfl,rfl,rfl⟩:=e
  exact Q6 u b (x0,z0,x1,z1)
 ·cases e
noncomputable def cmC (b:Bool) (x:Bool):bu:=mk (P:=Tryz.prog) [fC,XF,U6,adh b,XI,sE] [] fun i=>if i=5 then some x else none
theorem vJ (b x:Bool):ag Tryz.prog (cmC b x):=ah _ au.nil _ _
noncomputable def cmB:Code:=aE Tryz.f64
noncomputable def cmR:Code:=aA 3 (aE Tryz.f64)
def cmT:List (Option SV):=slotsOf 38 [(4,.ptr 2 0 0),(5,.ptr 4 0 0),(19,.fn (.func 130) [] [.ptr 5 0 0])]
noncomputable def cmK (sec u e:List Int) (s:W4):List Blk:=[.b [.ints .u8 32 sec],.b [.ints .u64 5 u],.b [.ints .u64 5 z5],rg u s,.b [.ptr 3 0 0],.b [.ints .u8 32 e]]
noncomputable def cmH (sec u e:List Int) (s:W4) (l:Nat):List Blk:=[.b [.ints .u8 32 sec],.b [.ints .u64 5 u],.b [.ints .u64 5 z5],rg u s,.b [.ptr 3 0 0],.b [.ints .u8 32 e],.g (some (FB cmR cmT l))]
noncomputable def PZ (sec u e:List Int) (s:W4) (l:Nat) (i:Int):St:=⟨slotsOf 20 [(0,.fn (.yield l) [] []),(1,.ptr 5 0 0),(3,.int .i64 i)],cmH sec u e s l,true⟩
noncomputable def w0 (u:List Int):W4:=(cF 1,z5,u,cF 1)
section
variable (sec u e:List Int) (s:W4) (l:Nat) (i:Int)
theorem Q7:(aW Tryz.prog (cmC true true) 60 0 3 (atoms cmB) ⟨aO Tryz.f64.ntmps [.agg [.ints .u8 32 sec],.agg [.ints .u64 5 u]],[],true⟩).bind (St.cut [4,5,19] 6)=some ⟨cmT,cmK sec u (iD sec) (w0 u),aa true (aa true (decide (sec.length=32)))⟩:=by kernel_rfl
theorem KZ (b:Bool):(aW Tryz.prog (cmC b true) 60 7 1 (atoms (aE Tryz.f130)) ⟨aO Tryz.f130.ntmps [.fn (.yield l) [] [],.ptr 5 0 0],cmH sec u e s l,true⟩).bind (St.cut [0,1,3] 7)=some (PZ sec u e s l 255):=by kernel_rfl
theorem XJ:(exec Tryz.prog (cmC true false) 60 7 nD (PZ sec u e s l i)).bind (fun r=>(r.2.cut [0,1,3] 7).map fun q=>(r.1,q))=some (.exit 0,{PZ sec u e s l i with ob:=aa true (!decide (i≥0))}):=by kernel_rfl
theorem K0 (b:Bool):(exec Tryz.prog (cmC b true) 60 7 nD (PZ sec u e s l i)).bind (fun r=>(r.2.cut [0,1,3] 7).map fun q=>(r.1,q))=
  some (.normal,{PZ sec u e (Iv u b s) l (IntKind.i64.wrap (i-1)) with ob:=aa (K1 i) (aa (aa (aa (decide (l=l)) (decide (l=l))) (aa true (decide (uu e i=D7 b)))) (decide (l=l)))}):=by kernel_rfl
end
noncomputable def wN (u:List Int) (bits:Nat→Bool):Nat→W4
 |0=>w0 u
 |j+1=>Iv u (bits j) (wN u bits j)
theorem Q8 {sec u e:List Int} {bits:Nat→Bool} (hb:∀j:Nat,j<256→uu e (255-j)=D7 (bits j)) (l:Nat):ai Tryz.prog 130 [.fn (.yield l) [] [],.ptr 5 0 0] (cmH sec u e (w0 u) l) (.aT []) (cmH sec u e (wN u bits 256) l):=by
 have bY:Tr Tryz.prog none 7 (aA 1 (aE Tryz.f130)) (PZ sec u e (w0 u) l 255) .normal (PZ sec u e (wN u bits 256) l (-1)):=by
  have key:=Tr.loop (P:=Tryz.prog) (ro:=none) (k:=7) 0 (c:=aA 1 (aE Tryz.f130)) (by kernel_rfl) (fun j:Nat=>PZ sec u e (wN u bits j) l (255-j)) 256 (s':=PZ sec u e (wN u bits 256) l (-1)) (fun j hj=>?_) ?_
  ·exact key
  ·have e1:(255:Int)-j-1=255-((j+1:Nat):Int):=by omega
   have hw:IntKind.i64.wrap (255-(j:Int)-1)=255-((j+1:Nat):Int):=by rw [wrap_i64 _ (by omega) (by omega),e1]
   have ho:=BF (i:=255-(j:Int)) (by omega) (by omega)
   have k:=K0 sec u e (wN u bits j) l (255-j) (bits j)
   rw [hw] at k
   exact Tr.post (Tr.cut (vJ (bits j) true) 60 _ 7 (by omega) k (by simp [aa,ho,hb j hj])) (bq.same rfl rfl)
  ·have k:=XJ sec u e (wN u bits 256) l (-1)
   exact Tr.post (Tr.cut (vJ true false) 60 _ 7 (by omega) k rfl) (bq.same rfl rfl)
 refine ai.mk (vs:=[]) Tryz.func130 rfl (x:=.normal) (s:=PZ sec u e (wN u bits 256) l (-1)) ?_ (.inr rfl) (by kernel_rfl)
 refine bf.items (vJ true true) 60 1 _ 7 (by simp [cmH]) (KZ sec u e (w0 u) l true) rfl (by decide) ?_
 exact bf.item 1 (by decide) bY ⟨rfl,rfl⟩
noncomputable def F5 (u:List Int) (bits:Nat→Bool):List Int:=gY (fM (wN u bits 256).1 (F6 (wN u bits 256).2.1))
theorem K2 {sec u:List Int} {bits:Nat→Bool} (hs:sec.length=32) (hb:∀j:Nat,j<256→uu (iD sec) (255-j)=D7 (bits j)):ai Tryz.prog 64 [.agg [.ints .u8 32 sec],.agg [.ints .u64 5 u]] [] (.agg [.ints .u64 5 (F5 u bits)]) []:=by
 rw [F5,aD]
 refine ai.cu (vJ true true) 60 4 0 Tryz.func64 (by simp) rfl (fun s' x h=>?_) (s:=⟨cmT,cmK sec u (iD sec) (wN u bits 256)++[.gap],true⟩) (p:=true) (by kernel_rfl) rfl rfl rfl
 refine bf.items (vJ true true) 60 3 _ 6 (by simp) (Q7 sec u) (by rw [decide_eq_true hs];rfl) (by decide) ?_
 refine bf.item 3 (by decide) ?_ h
 exact Tr.y6 0 (by kernel_rfl) (f:=130) (first:=[]) (kG:=[.ptr 5 0 0]) true Tryz.func130 (by decide) rfl (by kernel_rfl) (fun l=>Q8 hb l)
  (fun l=>⟨_,rfl,rfl,by simp [FB],rfl⟩) (fun l=>rfl)
end Go.Proofs.YtibfpjeeanppjaaGreat.La
end
section
namespace Go.Proofs.YtibfpjeeanppjaaGreat.La
open Go Go.Sy Re Fe
def clR (l:List Int):List Int:=(l.set 0 (IntKind.u8.wrap (IntKind.u8.wrap ((l.getD 0 0).tdiv 8)*8))).set 31 (IntKind.u8.wrap (((l.set 0 (IntKind.u8.wrap (IntKind.u8.wrap ((l.getD 0 0).tdiv 8)*8))).getD 31 0).tmod 64+64))
noncomputable def rc0:bu:=mk (P:=Tryz.prog) [] []
theorem XK:ag Tryz.prog rc0:=ah _ au.nil _ _
noncomputable abbrev rA (a b:List Int):List Int:=cw ((vR a+vR b)%Pm)
noncomputable abbrev rS (a b:List Int):List Int:=cw ((vR a-vR b)%Pm)
noncomputable abbrev rM (a b:List Int):List Int:=cw (vR a*vR b%Pm)
noncomputable def qdX (x z:List Int):List Int:=rM (rM (rA x z) (rA x z)) (rM (rS x z) (rS x z))
noncomputable def qdE (x z:List Int):List Int:=rS (rM (rA x z) (rA x z)) (rM (rS x z) (rS x z))
noncomputable def qdZ (k x z:List Int):List Int:=rM (qdE x z) (rA (rM (rA x z) (rA x z)) (rM k (qdE x z)))
noncomputable def qaL (x z x' z':List Int):List Int:=rM (rS x' z') (rA x z)
noncomputable def qaR (x z x' z':List Int):List Int:=rM (rA x' z') (rS x z)
noncomputable def qaX (x z x' z':List Int):List Int:=rM (rA (qaL x z x' z') (qaR x z x' z')) (rA (qaL x z x' z') (qaR x z x' z'))
noncomputable def qaZ (u x z x' z':List Int):List Int:=rM u (rM (rS (qaL x z x' z') (qaR x z x' z')) (rS (qaL x z x' z') (qaR x z x' z')))
abbrev L4:=List Int×List Int×List Int×List Int
noncomputable def K3 (u k:List Int) (bit:Bool) (s:L4):L4:=
 bif bit then (qaX s.2.2.1 s.2.2.2 s.1 s.2.1,qaZ u s.2.2.1 s.2.2.2 s.1 s.2.1,qdX s.2.2.1 s.2.2.2,qdZ k s.2.2.1 s.2.2.2)
 else (qdX s.1 s.2.1,qdZ k s.1 s.2.1,qaX s.1 s.2.1 s.2.2.1 s.2.2.2,qaZ u s.1 s.2.1 s.2.2.1 s.2.2.2)
noncomputable def JO (x y z:Bool):bu:=mk (P:=Tryz.prog) [Re.vr,Re.KX,Re.sE] [] fun i=>if i=32 then some x else if i=45 then some y else if i=102 then some z else none
theorem jB (x y z:Bool):ag Tryz.prog (JO x y z):=ah _ au.nil _ _
noncomputable def coH (sec u cl:List Int) (s:L4) (k:List Int):List Blk:=[.b [.ints .u8 32 sec],.b [.ints .i64 16 u],.b [.ints .u8 32 (List.replicate 32 0)],.b [.ints .u8 32 cl],.b [.ints .i64 16 s.1],.b [.ints .i64 16 s.2.1],.b [.ints .i64 16 s.2.2.1],.b [.ints .i64 16 s.2.2.2],.b [.ints .i64 16 k]]
noncomputable def Ba (sec u cl:List Int) (s:L4) (k:List Int) (i:Int):St:=⟨slotsOf 112 [(2,.ptr 0 0 0),(3,.ptr 1 0 0),(4,.ptr 2 0 0),(5,.ptr 3 0 0),(6,.ptr 4 0 0),(7,.ptr 5 0 0),(8,.ptr 6 0 0),(9,.ptr 7 0 0),(10,.ptr 8 0 0),(11,.int .i64 i)],coH sec u cl s k,true⟩
noncomputable def coB:Code:=inner (inner (aA 8 (aE Tryz.f53)))
noncomputable def qO (o:Bool) (u k x z x' z':List Int):Bool:=
 let P:=fun (o a b:Bool)=>aa o (aa true (a&&b))
 let A:=rA x z;let B:=rS x z;let C:=rA x' z';let D:=rS x' z'
 let AA:=rM A A;let BB:=rM B B;let E:=rS AA BB;let DA:=rM D A;let CB:=rM C B
 let F:=rA DA CB;let G:=rS DA CB
 P (P (P (P (P (P (P (P (P (P (P (P (P (P (P (P (P (P o (cH x) (cH z)) (cH x) (kK z)) (cH x') (cH z')) (cH x') (kK z')) (cH A) (cH A)) (cH B) (cH B)) (cH AA) (kK BB)) (cH D) (cH A)) (cH C) (cH B)) (cH DA) (cH CB)) (cH DA) (kK CB)) (cH F) (cH F)) (cH G) (cH G)) (cH u) (cH (rM G G))) (cH AA) (cH BB)) (cH k) (cH E)) (cH AA) (cH (rM k E))) (cH E) (cH (rA AA (rM k E)))
theorem oD {o:Bool} {u k x z x' z':List Int} (ho:o=true) (hu:kK u=true) (hk:kK k=true) (hx:kK x=true) (hz:kK z=true) (hx':kK x'=true) (ku:kK z'=true):qO o u k x z x' z'=true:=by
 have pp:∀o a b:Bool,o=true→a=true→b=true→aa o (aa true (a&&b))=true:=fun o a b h1 h2 h3=>by rw [h1,h2,h3];rfl
 unfold qO
 simp only
 refine pp _ _ _ ?_ (bP _) (bP _)
 refine pp _ _ _ ?_ (bP _) (bP _)
 refine pp _ _ _ ?_ (eG.1 hk).1 (bP _)
 refine pp _ _ _ ?_ (bP _) (bP _)
 refine pp _ _ _ ?_ (eG.1 hu).1 (bP _)
 refine pp _ _ _ ?_ (bP _) (bP _)
 refine pp _ _ _ ?_ (bP _) (bP _)
 refine pp _ _ _ ?_ (bP _) (eR _)
 refine pp _ _ _ ?_ (bP _) (bP _)
 refine pp _ _ _ ?_ (bP _) (bP _)
 refine pp _ _ _ ?_ (bP _) (bP _)
 refine pp _ _ _ ?_ (bP _) (eR _)
 refine pp _ _ _ ?_ (bP _) (bP _)
 refine pp _ _ _ ?_ (bP _) (bP _)
 refine pp _ _ _ ?_ (eG.1 hx').1 ku
 refine pp _ _ _ ?_ (eG.1 hx').1 (eG.1 ku).1
 refine pp _ _ _ ?_ (eG.1 hx).1 hz
 exact pp _ _ _ ho (eG.1 hx).1 (eG.1 hz).1
def xS (e:List Int) (i:Int):Int:=(bO .u8 (e.getD (0+(IntKind.i64.wrap (i.tdiv 8)).toNat) 0) (IntKind.u64.wrap (i.tmod 8)).toNat).tmod 2
def qbO (i:Int):Bool:=aa (aa (aa (aa true (decide (i≥0))) (cL (IntKind.i64.wrap (i.tdiv 8)) 32)) (decide (0+(IntKind.i64.wrap (i.tdiv 8)).toNat<32))) (decide (0≤IntKind.u64.wrap (i.tmod 8)))
section
variable (sec u cl k:List Int) (s:L4) (i:Int)
theorem Q9:(exec Tryz.prog (JO true false false) 60 0 coB (Ba sec u cl s k i)).bind (fun r=>(r.2.cut [2,3,4,5,6,7,8,9,10,11] 9).map fun q=>(r.1,q))=
  some (.normal,{Ba sec u cl (K3 u k false s) k (IntKind.i64.wrap (i-1)) with ob:=aa (qO (aa (qbO i) (!(xS cl i==1))) u k s.1 s.2.1 s.2.2.1 s.2.2.2) (!(xS cl i==1))}):=by kernel_rfl
theorem D8:(exec Tryz.prog (JO true true true) 60 0 coB (Ba sec u cl s k i)).bind (fun r=>(r.2.cut [2,3,4,5,6,7,8,9,10,11] 9).map fun q=>(r.1,q))=
  some (.normal,{Ba sec u cl (K3 u k true s) k (IntKind.i64.wrap (i-1)) with ob:=aa (qO (aa (qbO i) (xS cl i==1)) u k s.2.2.1 s.2.2.2 s.1 s.2.1) (xS cl i==1)}):=by kernel_rfl
theorem XL:(exec Tryz.prog (JO false false false) 60 0 coB (Ba sec u cl s k i)).bind (fun r=>(r.2.cut [2,3,4,5,6,7,8,9,10,11] 9).map fun q=>(r.1,q))=
  some (.exit 0,{Ba sec u cl s k i with ob:=aa true (!decide (i≥0))}):=by kernel_rfl
end
end Go.Proofs.YtibfpjeeanppjaaGreat.La
end
