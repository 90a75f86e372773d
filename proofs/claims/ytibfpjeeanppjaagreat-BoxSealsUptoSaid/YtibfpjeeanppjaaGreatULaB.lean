/- This file holds the texts LaA, LaB, a section each. No conditions beyond those in the theorems. -/
import Derived.Test.YtibfpjeeanppjaaGreatUMf
import Derived.Test.YtibfpjeeanppjaaGreatUMh
import Derived.Test.YtibfpjeeanppjaaGreatULaL
set_option linter.all false
set_option maxRecDepth 100000
section
namespace Go.Proofs.YtibfpjeeanppjaaGreat.La
open Go Go.Sy Fe
noncomputable def cl0:bK:=mk (P:=Tryz.prog) [] []
theorem Vn:ag Tryz.prog cl0:=ai _ aF.nil _ _
def BZ (l:List Int):List Int:=(l.set 0 (bR .u8 (l.getD 0 0) 248)).set 31 (gj .u8 (bR .u8 ((l.set 0 (bR .u8 (l.getD 0 0) 248)).getD 31 0) 127) 64)
noncomputable def gU (l:List Int):List Int:=gz (BZ l)
noncomputable def clF:List SV→Option (SV×List Blk×Bool)
 | [.agg [.ints .u8 32 l]]=>some (.agg [.ints .u8 32 (gU l)],[],decide (l.length=32))
 |_=>none
theorem aah {l:List Int} (h:l.length=32):aj Tryz.prog 99 [.agg [.ints .u8 32 l]] [] (.agg [.ints .u8 32 (gU l)]) []:=by
 rw [gU,aq]
 exact aP Vn 60 Tryz.func99 (p:=aa (aa true (true&&decide (l.length=32))) (true&&decide ((l.set 0 (bR .u8 (l.getD 0 0) 248)).length=32))) (by kernel_rfl) (by rw [List.length_set,h];rfl) rfl
noncomputable def Vo:Entry Tryz.prog:=.val 99 _ Tryz.func99 (by decide) rfl false 0 clF fun vs v new e=>by
 unfold clF at e
 split at e
 ·simp only [Option.some.injEq,Prod.mk.injEq,decide_eq_true_eq] at e
  obtain ⟨rfl,rfl,h⟩:=e
  exact aah h
 ·cases e
noncomputable abbrev fM (a b:List Int):List Int:=gq (aO 5 a) (aO 5 b)
noncomputable def wdX (x z:List Int):List Int:=fM (fM (gr x z) (gr x z)) (fM (gu x z) (gu x z))
noncomputable def wdE (x z:List Int):List Int:=gu (fM (gr x z) (gr x z)) (fM (gu x z) (gu x z))
noncomputable def wdZ (x z:List Int):List Int:=fM (wdE x z) (gr (fM (gr x z) (gr x z)) (fM (cz 121665) (wdE x z)))
noncomputable def Vp (x z x' z':List Int):List Int:=fM (gu x' z') (gr x z)
noncomputable def Vq (x z x' z':List Int):List Int:=fM (gr x' z') (gu x z)
noncomputable def waX (x z x' z':List Int):List Int:=fM (gr (Vp x z x' z') (Vq x z x' z')) (gr (Vp x z x' z') (Vq x z x' z'))
noncomputable def waZ (u x z x' z':List Int):List Int:=fM u (fM (gu (Vp x z x' z') (Vq x z x' z')) (gu (Vp x z x' z') (Vq x z x' z')))
abbrev W4:=List Int×List Int×List Int×List Int
noncomputable def FY (u:List Int) (bit:Bool) (s:W4):W4:=
 bif bit then (waX s.2.2.1 s.2.2.2 s.1 s.2.1,waZ u s.2.2.1 s.2.2.2 s.1 s.2.1,wdX s.2.2.1 s.2.2.2,wdZ s.2.2.1 s.2.2.2)
 else (wdX s.1 s.2.1,wdZ s.1 s.2.1,waX s.1 s.2.1 s.2.2.1 s.2.2.2,waZ u s.1 s.2.1 s.2.2.1 s.2.2.2)
noncomputable def rg (u:List Int) (s:W4):Blk:=.b [.ints .u64 5 u,.ints .u64 5 s.1,.ints .u64 5 s.2.1,.ints .u64 5 s.2.2.1,.ints .u64 5 s.2.2.2]
noncomputable def stC:bK:=mk (P:=Tryz.prog) [tC,JP,qI,fe] []
theorem JQ:ag Tryz.prog stC:=ai _ aF.nil _ _
def B1 (b:Bool):Int:=bif b then 1 else 0
theorem OY (u:List Int) (b:Bool) (s:W4):aj Tryz.prog 100 [.ptr 0 0 0,.int .i64 (B1 b)] [rg u s] (.bk []) [rg u (FY u b s)]:=by
 obtain ⟨x0,z0,x1,z1⟩:=s
 cases b with
 |true=>exact dF JQ 60 Tryz.func100 1 (by simp) (p:=true) (by kernel_rfl) rfl rfl rfl
 |false=>exact dF JQ 60 Tryz.func100 1 (by simp) (p:=true) (by kernel_rfl) rfl rfl rfl
def aan (vs:List SV) (_:List Blk):List Nat:=match vs with
 | .ptr b _ _::_=>[b]
 |_=>[]
noncomputable def SC (b:Bool):List SV→List Blk→Option (SV×List Blk×Bool)
 | [.ptr 0 0 0,.int .i64 i],[.b [.ints .u64 5 u,.ints .u64 5 x0,.ints .u64 5 z0,.ints .u64 5 x1,.ints .u64 5 z1]]=>some (.bk [],[rg u (FY u b (x0,z0,x1,z1))],decide (i=B1 b))
 |_,_=>none
noncomputable def aao (b:Bool):Entry Tryz.prog:=.mut 100 _ Tryz.func100 (by decide) rfl aan 0 (SC b) fun vs h0 v h1 e=>by
 unfold SC at e
 split at e
 ·rename_i i u x0 z0 x1 z1
  simp only [Option.some.injEq,Prod.mk.injEq,decide_eq_true_eq] at e
  obtain ⟨rfl,rfl,rfl⟩:=e
  exact OY u b (x0,z0,x1,z1)
 ·cases e
noncomputable def cmC (b:Bool) (x:Bool):bK:=mk (P:=Tryz.prog) [fe,Vo,SD,aao b,Vr,qI] [] fun i=>if i=5 then some x else none
theorem ua (b x:Bool):ag Tryz.prog (cmC b x):=ai _ aF.nil _ _
noncomputable def cmB:Code:=aH Tryz.f64
noncomputable def cmR:Code:=ak 3 (aH Tryz.f64)
def cmT:List (Option SV):=slotsOf 38 [(4,.ptr 2 0 0),(5,.ptr 4 0 0),(19,.fn (.func 130) [] [.ptr 5 0 0])]
noncomputable def cmK (sec u e:List Int) (s:W4):List Blk:=[.b [.ints .u8 32 sec],.b [.ints .u64 5 u],.b [.ints .u64 5 z5],rg u s,.b [.ptr 3 0 0],.b [.ints .u8 32 e]]
noncomputable def cmH (sec u e:List Int) (s:W4) (l:Nat):List Blk:=[.b [.ints .u8 32 sec],.b [.ints .u64 5 u],.b [.ints .u64 5 z5],rg u s,.b [.ptr 3 0 0],.b [.ints .u8 32 e],.g (some (Dl cmR cmT l))]
noncomputable def Nr (sec u e:List Int) (s:W4) (l:Nat) (i:Int):St:=⟨slotsOf 20 [(0,.fn (.yield l) [] []),(1,.ptr 5 0 0),(3,.int .i64 i)],cmH sec u e s l,true⟩
noncomputable def w0 (u:List Int):W4:=(cz 1,z5,u,cz 1)
section
variable (sec u e:List Int) (s:W4) (l:Nat) (i:Int)
theorem OZ:(az Tryz.prog (cmC true true) 60 0 3 (atoms cmB) ⟨aT Tryz.f64.ntmps [.agg [.ints .u8 32 sec],.agg [.ints .u64 5 u]],[],true⟩).bind (St.cut [4,5,19] 6)=some ⟨cmT,cmK sec u (gU sec) (w0 u),aa true (aa true (decide (sec.length=32)))⟩:=by kernel_rfl
theorem JR (b:Bool):(az Tryz.prog (cmC b true) 60 7 1 (atoms (aH Tryz.f130)) ⟨aT Tryz.f130.ntmps [.fn (.yield l) [] [],.ptr 5 0 0],cmH sec u e s l,true⟩).bind (St.cut [0,1,3] 7)=some (Nr sec u e s l 255):=by kernel_rfl
theorem Vs:(exec Tryz.prog (cmC true false) 60 7 mw (Nr sec u e s l i)).bind (fun r=>(r.2.cut [0,1,3] 7).map fun q=>(r.1,q))=some (.exit 0,{Nr sec u e s l i with ob:=aa true (!decide (i≥0))}):=by kernel_rfl
theorem JS (b:Bool):(exec Tryz.prog (cmC b true) 60 7 mw (Nr sec u e s l i)).bind (fun r=>(r.2.cut [0,1,3] 7).map fun q=>(r.1,q))=
  some (.normal,{Nr sec u e (FY u b s) l (IntKind.i64.wrap (i-1)) with ob:=aa (JT i) (aa (aa (aa (decide (l=l)) (decide (l=l))) (aa true (decide (sG e i=B1 b)))) (decide (l=l)))}):=by kernel_rfl
end
noncomputable def wN (u:List Int) (bits:Nat→Bool):Nat→W4
 |0=>w0 u
 |j+1=>FY u (bits j) (wN u bits j)
theorem O5 {sec u e:List Int} {bits:Nat→Bool} (hb:∀j:Nat,j<256→sG e (255-j)=B1 (bits j)) (l:Nat):aj Tryz.prog 130 [.fn (.yield l) [] [],.ptr 5 0 0] (cmH sec u e (w0 u) l) (.bk []) (cmH sec u e (wN u bits 256) l):=by
 have bS:Tr Tryz.prog none 7 (ak 1 (aH Tryz.f130)) (Nr sec u e (w0 u) l 255) .normal (Nr sec u e (wN u bits 256) l (-1)):=by
  have key:=Tr.loop (P:=Tryz.prog) (ro:=none) (k:=7) 0 (c:=ak 1 (aH Tryz.f130)) (by kernel_rfl) (fun j:Nat=>Nr sec u e (wN u bits j) l (255-j)) 256 (s':=Nr sec u e (wN u bits 256) l (-1)) (fun j hj=>?_) ?_
  ·exact key
  ·have e1:(255:Int)-j-1=255-((j+1:Nat):Int):=by omega
   have hw:IntKind.i64.wrap (255-(j:Int)-1)=255-((j+1:Nat):Int):=by rw [wrap_i64 _ (by omega) (by omega),e1]
   have ho:=zT (i:=255-(j:Int)) (by omega) (by omega)
   have k:=JS sec u e (wN u bits j) l (255-j) (bits j)
   rw [hw] at k
   exact Tr.post (Tr.cut (ua (bits j) true) 60 _ 7 (by omega) k (by simp [aa,ho,hb j hj])) (aU.same rfl rfl)
  ·have k:=Vs sec u e (wN u bits 256) l (-1)
   exact Tr.post (Tr.cut (ua true false) 60 _ 7 (by omega) k rfl) (aU.same rfl rfl)
 refine aj.mk (vs:=[]) Tryz.func130 rfl (x:=.normal) (s:=Nr sec u e (wN u bits 256) l (-1)) ?_ (.inr rfl) (by kernel_rfl)
 refine aG.items (ua true true) 60 1 _ 7 (by simp [cmH]) (JR sec u e (w0 u) l true) rfl (by decide) ?_
 exact aG.item 1 (by decide) bS ⟨rfl,rfl⟩
noncomputable def DQ (u:List Int) (bits:Nat→Bool):List Int:=gz (fM (wN u bits 256).1 (DR (wN u bits 256).2.1))
theorem JU {sec u:List Int} {bits:Nat→Bool} (hs:sec.length=32) (hb:∀j:Nat,j<256→sG (gU sec) (255-j)=B1 (bits j)):aj Tryz.prog 64 [.agg [.ints .u8 32 sec],.agg [.ints .u64 5 u]] [] (.agg [.ints .u64 5 (DQ u bits)]) []:=by
 rw [DQ,aq]
 refine aj.cg (ua true true) 60 4 0 Tryz.func64 (by simp) rfl (fun s' x h=>?_) (s:=⟨cmT,cmK sec u (gU sec) (wN u bits 256)++[.gap],true⟩) (p:=true) (by kernel_rfl) rfl rfl rfl
 refine aG.items (ua true true) 60 3 _ 6 (by simp) (OZ sec u) (by rw [decide_eq_true hs];rfl) (by decide) ?_
 refine aG.item 3 (by decide) ?_ h
 exact Tr.xk 0 (by kernel_rfl) (f:=130) (first:=[]) (jX:=[.ptr 5 0 0]) true Tryz.func130 (by decide) rfl (by kernel_rfl) (fun l=>O5 hb l)
  (fun l=>⟨_,rfl,rfl,by simp [Dl],rfl⟩) (fun l=>rfl)
end Go.Proofs.YtibfpjeeanppjaaGreat.La
end
section
namespace Go.Proofs.YtibfpjeeanppjaaGreat.La
open Go Go.Sy Re Fe
def clR (l:List Int):List Int:=(l.set 0 (IntKind.u8.wrap (IntKind.u8.wrap ((l.getD 0 0).tdiv 8)*8))).set 31 (IntKind.u8.wrap (((l.set 0 (IntKind.u8.wrap (IntKind.u8.wrap ((l.getD 0 0).tdiv 8)*8))).getD 31 0).tmod 64+64))
noncomputable def rc0:bK:=mk (P:=Tryz.prog) [] []
theorem Vt:ag Tryz.prog rc0:=ai _ aF.nil _ _
noncomputable abbrev rA (a b:List Int):List Int:=cu ((vR a+vR b)%Pm)
noncomputable abbrev rS (a b:List Int):List Int:=cu ((vR a-vR b)%Pm)
noncomputable abbrev rM (a b:List Int):List Int:=cu (vR a*vR b%Pm)
noncomputable def Ye (x z:List Int):List Int:=rM (rM (rA x z) (rA x z)) (rM (rS x z) (rS x z))
noncomputable def qdE (x z:List Int):List Int:=rS (rM (rA x z) (rA x z)) (rM (rS x z) (rS x z))
noncomputable def Yf (k x z:List Int):List Int:=rM (qdE x z) (rA (rM (rA x z) (rA x z)) (rM k (qdE x z)))
noncomputable def Yg (x z x' z':List Int):List Int:=rM (rS x' z') (rA x z)
noncomputable def Yh (x z x' z':List Int):List Int:=rM (rA x' z') (rS x z)
noncomputable def Yi (x z x' z':List Int):List Int:=rM (rA (Yg x z x' z') (Yh x z x' z')) (rA (Yg x z x' z') (Yh x z x' z'))
noncomputable def Yj (u x z x' z':List Int):List Int:=rM u (rM (rS (Yg x z x' z') (Yh x z x' z')) (rS (Yg x z x' z') (Yh x z x' z')))
abbrev L4:=List Int×List Int×List Int×List Int
noncomputable def JV (u k:List Int) (bit:Bool) (s:L4):L4:=
 bif bit then (Yi s.2.2.1 s.2.2.2 s.1 s.2.1,Yj u s.2.2.1 s.2.2.2 s.1 s.2.1,Ye s.2.2.1 s.2.2.2,Yf k s.2.2.1 s.2.2.2)
 else (Ye s.1 s.2.1,Yf k s.1 s.2.1,Yi s.1 s.2.1 s.2.2.1 s.2.2.2,Yj u s.1 s.2.1 s.2.2.1 s.2.2.2)
noncomputable def Hf (x y z:Bool):bK:=mk (P:=Tryz.prog) [Re.tC,Re.JP,Re.qI] [] fun i=>if i=32 then some x else if i=45 then some y else if i=102 then some z else none
theorem je (x y z:Bool):ag Tryz.prog (Hf x y z):=ai _ aF.nil _ _
noncomputable def coH (sec u cl:List Int) (s:L4) (k:List Int):List Blk:=[.b [.ints .u8 32 sec],.b [.ints .i64 16 u],.b [.ints .u8 32 (List.replicate 32 0)],.b [.ints .u8 32 cl],.b [.ints .i64 16 s.1],.b [.ints .i64 16 s.2.1],.b [.ints .i64 16 s.2.2.1],.b [.ints .i64 16 s.2.2.2],.b [.ints .i64 16 k]]
noncomputable def zb (sec u cl:List Int) (s:L4) (k:List Int) (i:Int):St:=⟨slotsOf 112 [(2,.ptr 0 0 0),(3,.ptr 1 0 0),(4,.ptr 2 0 0),(5,.ptr 3 0 0),(6,.ptr 4 0 0),(7,.ptr 5 0 0),(8,.ptr 6 0 0),(9,.ptr 7 0 0),(10,.ptr 8 0 0),(11,.int .i64 i)],coH sec u cl s k,true⟩
noncomputable def coB:Code:=inner (inner (ak 8 (aH Tryz.f53)))
noncomputable def qO (o:Bool) (u k x z x' z':List Int):Bool:=
 let P:=fun (o a b:Bool)=>aa o (aa true (a&&b))
 let A:=rA x z;let B:=rS x z;let C:=rA x' z';let D:=rS x' z'
 let AA:=rM A A;let BB:=rM B B;let E:=rS AA BB;let DA:=rM D A;let CB:=rM C B
 let F:=rA DA CB;let G:=rS DA CB
 P (P (P (P (P (P (P (P (P (P (P (P (P (P (P (P (P (P o (cD x) (cD z)) (cD x) (j3 z)) (cD x') (cD z')) (cD x') (j3 z')) (cD A) (cD A)) (cD B) (cD B)) (cD AA) (j3 BB)) (cD D) (cD A)) (cD C) (cD B)) (cD DA) (cD CB)) (cD DA) (j3 CB)) (cD F) (cD F)) (cD G) (cD G)) (cD u) (cD (rM G G))) (cD AA) (cD BB)) (cD k) (cD E)) (cD AA) (cD (rM k E))) (cD E) (cD (rA AA (rM k E)))
theorem nq {o:Bool} {u k x z x' z':List Int} (ho:o=true) (hu:j3 u=true) (hk:j3 k=true) (hx:j3 x=true) (hz:j3 z=true) (hx':j3 x'=true) (j4:j3 z'=true):qO o u k x z x' z'=true:=by
 have pp:∀o a b:Bool,o=true→a=true→b=true→aa o (aa true (a&&b))=true:=fun o a b h1 h2 h3=>by rw [h1,h2,h3];rfl
 unfold qO
 simp only
 refine pp _ _ _ ?_ (br _) (br _)
 refine pp _ _ _ ?_ (br _) (br _)
 refine pp _ _ _ ?_ (ew.1 hk).1 (br _)
 refine pp _ _ _ ?_ (br _) (br _)
 refine pp _ _ _ ?_ (ew.1 hu).1 (br _)
 refine pp _ _ _ ?_ (br _) (br _)
 refine pp _ _ _ ?_ (br _) (br _)
 refine pp _ _ _ ?_ (br _) (eE _)
 refine pp _ _ _ ?_ (br _) (br _)
 refine pp _ _ _ ?_ (br _) (br _)
 refine pp _ _ _ ?_ (br _) (br _)
 refine pp _ _ _ ?_ (br _) (eE _)
 refine pp _ _ _ ?_ (br _) (br _)
 refine pp _ _ _ ?_ (br _) (br _)
 refine pp _ _ _ ?_ (ew.1 hx').1 j4
 refine pp _ _ _ ?_ (ew.1 hx').1 (ew.1 j4).1
 refine pp _ _ _ ?_ (ew.1 hx).1 hz
 exact pp _ _ _ ho (ew.1 hx).1 (ew.1 hz).1
def vS (e:List Int) (i:Int):Int:=(bh .u8 (e.getD (0+(IntKind.i64.wrap (i.tdiv 8)).toNat) 0) (IntKind.u64.wrap (i.tmod 8)).toNat).tmod 2
def qbO (i:Int):Bool:=aa (aa (aa (aa true (decide (i≥0))) (cK (IntKind.i64.wrap (i.tdiv 8)) 32)) (decide (0+(IntKind.i64.wrap (i.tdiv 8)).toNat<32))) (decide (0≤IntKind.u64.wrap (i.tmod 8)))
section
variable (sec u cl k:List Int) (s:L4) (i:Int)
theorem O6:(exec Tryz.prog (Hf true false false) 60 0 coB (zb sec u cl s k i)).bind (fun r=>(r.2.cut [2,3,4,5,6,7,8,9,10,11] 9).map fun q=>(r.1,q))=
  some (.normal,{zb sec u cl (JV u k false s) k (IntKind.i64.wrap (i-1)) with ob:=aa (qO (aa (qbO i) (!(vS cl i==1))) u k s.1 s.2.1 s.2.2.1 s.2.2.2) (!(vS cl i==1))}):=by kernel_rfl
theorem B3:(exec Tryz.prog (Hf true true true) 60 0 coB (zb sec u cl s k i)).bind (fun r=>(r.2.cut [2,3,4,5,6,7,8,9,10,11] 9).map fun q=>(r.1,q))=
  some (.normal,{zb sec u cl (JV u k true s) k (IntKind.i64.wrap (i-1)) with ob:=aa (qO (aa (qbO i) (vS cl i==1)) u k s.2.2.1 s.2.2.2 s.1 s.2.1) (vS cl i==1)}):=by kernel_rfl
theorem Vu:(exec Tryz.prog (Hf false false false) 60 0 coB (zb sec u cl s k i)).bind (fun r=>(r.2.cut [2,3,4,5,6,7,8,9,10,11] 9).map fun q=>(r.1,q))=
  some (.exit 0,{zb sec u cl s k i with ob:=aa true (!decide (i≥0))}):=by kernel_rfl
end
end Go.Proofs.YtibfpjeeanppjaaGreat.La
end
