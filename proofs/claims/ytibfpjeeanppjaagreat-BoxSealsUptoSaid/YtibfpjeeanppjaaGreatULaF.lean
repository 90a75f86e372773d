/- This file holds the texts LaC, LaD, LaE, LaF, a section each. No conditions beyond those in the theorems. -/
import Derived.Test.YtibfpjeeanppjaaGreatULaB
set_option linter.all false
set_option maxRecDepth 100000
section
namespace Go.Proofs.YtibfpjeeanppjaaGreat.La
open Go Go.Sy Re Fe
theorem O7 {x:Int}:u8 x=true↔0≤x∧x<256:=Fe.mh
theorem Vv:∀n:Fin 256,bR .u8 ((n.val:Nat):Int) 248=IntKind.u8.wrap (IntKind.u8.wrap (((n.val:Nat):Int).tdiv 8)*8)∧u8 (bR .u8 ((n.val:Nat):Int) 248)=true:=by decide+kernel
theorem O8:∀n:Fin 256,gj .u8 (bR .u8 ((n.val:Nat):Int) 127) 64=IntKind.u8.wrap (((n.val:Nat):Int).tmod 64+64)∧u8 (gj .u8 (bR .u8 ((n.val:Nat):Int) 127) 64)=true∧
  IntKind.i64.wrap (bR .u8 (bh .u8 (gj .u8 (bR .u8 ((n.val:Nat):Int) 127) 64) 7) 1)=0:=by decide+kernel
theorem zU {P:Int→Prop} (h:∀n:Fin 256,P ((n.val:Nat):Int)) {x:Int} (hx:u8 x=true):P x:=by
 obtain ⟨h0,h1⟩:=O7.1 hx
 have:=h ⟨x.toNat,by omega⟩
 rwa [show (((⟨x.toNat,by omega⟩:Fin 256).val:Nat):Int)=x by show ((x.toNat:Nat):Int)=x;omega] at this
theorem DS {l:List Int} (h:l.all u8=true) (i:Nat) {a:Int} (ha:u8 a=true):(l.set i a).all u8=true:=by
 rw [List.all_eq_true] at h ⊢
 intro x hx
 rcases List.mem_or_eq_of_mem_set hx with hx|rfl
 ·exact h x hx
 ·exact ha
theorem DT {l:List Int} (h:l.all u8=true) (i:Nat):u8 (l.getD i 0)=true:=by
 rw [List.getD_eq_getElem?_getD]
 cases e:l[i]? with
 |none=>rfl
 |some x=>exact List.all_eq_true.1 h x (List.mem_of_getElem? e)
theorem aar {l:List Int} (h:l.all u8=true) (hn:l.length=32):BZ l=clR l∧(BZ l).all u8=true∧(BZ l).length=32∧bz (BZ l)/2^255%2=0:=by
 have e0:=zU (P:=fun x=>bR .u8 x 248=IntKind.u8.wrap (IntKind.u8.wrap (x.tdiv 8)*8)∧u8 (bR .u8 x 248)=true) Vv (DT h 0)
 have hs:=DS h 0 e0.2
 have e1:=zU (P:=fun x=>gj .u8 (bR .u8 x 127) 64=IntKind.u8.wrap (x.tmod 64+64)∧u8 (gj .u8 (bR .u8 x 127) 64)=true∧IntKind.i64.wrap (bR .u8 (bh .u8 (gj .u8 (bR .u8 x 127) 64) 7) 1)=0) O8 (DT hs 31)
 have hl:(BZ l).length=32:=by unfold BZ;rw [List.length_set,List.length_set,hn]
 have ha:(BZ l).all u8=true:=DS hs 31 e1.2.1
 refine ⟨?_,ha,hl,?_⟩
 ·unfold BZ clR
  rw [e1.1,e0.1]
 ·have hb:=xF ha hl (i:=255) (by omega)
  rw [←hb]
  unfold sG
  have hg:(BZ l).getD 31 0=gj .u8 (bR .u8 ((l.set 0 (bR .u8 (l.getD 0 0) 248)).getD 31 0) 127) 64:=by
   unfold BZ
   rw [List.getD_eq_getElem?_getD,List.getElem?_set_self (by rw [List.length_set,hn];omega)];rfl
  show IntKind.i64.wrap (bR .u8 (bh .u8 ((BZ l).getD 31 0) 7) 1)=0
  rw [hg]
  exact e1.2.2
def bt (e:List Int) (j:Nat):Bool:=decide (bz e/2^(255-j)%2=1)
theorem JW (x:Int):B1 (decide (x%2=1))=x%2:=by
 by_cases h:x%2=1
 ·rw [decide_eq_true h,h];rfl
 ·rw [decide_eq_false h]
  show (0:Int)=_
  omega
theorem O9 {e:List Int} (h:e.all u8=true) (hn:e.length=32) {j:Nat} (hj:j<256):sG e (255-j)=B1 (bt e j):=by
 rw [show (255:Int)-j=((255-j:Nat):Int) by omega,xF h hn (by omega)]
 exact (JW _).symm
theorem JX {e:List Int} (he:e.all u8=true) (hn:e.length=32) {i:Nat} (h1:i<256):vS e i=bz e/2^i%2:=by
 have hd:=mA e he
 rw [hn] at hd
 have v0:=ec he
 generalize bz e=v at*
 have e1:(i:Int).tdiv 8=((i/8:Nat):Int):=by rw [Int.tdiv_eq_ediv_of_nonneg (by omega)];omega
 have e2:(i:Int).tmod 8=((i%8:Nat):Int):=by rw [Int.tmod_eq_emod_of_nonneg (by omega)];omega
 have w1:IntKind.i64.wrap ((i/8:Nat):Int)=((i/8:Nat):Int):=wrap_i64 _ (by omega) (by omega)
 have w2:IntKind.u64.wrap ((i%8:Nat):Int)=((i%8:Nat):Int):=by rw [wrap_u64];omega
 unfold vS
 rw [e1,e2,w1,w2,Int.toNat_natCast,Int.toNat_natCast,Nat.zero_add,hd,iU _ _ _ (by omega)]
 rw [dj _ _ _ (by show i%8≤8;omega)]
 have hs:v/256^(i/8)/2^(i%8)=v/2^i:=by
  rw [Int.ediv_ediv_of_nonneg (Int.pow_nonneg (by omega)),show (256:Int)=2^8 from rfl, ←Int.pow_mul, ←Int.pow_add]
  congr 2
  omega
 rw [←hs]
 generalize v/256^(i/8)=Y
 have hr:i%8=0∨i%8=1∨i%8=2∨i%8=3∨i%8=4∨i%8=5∨i%8=6∨i%8=7:=by omega
 rcases hr with h|h|h|h|h|h|h|h<;>rw [h]<;>simp only [Int.reducePow]<;>rw [Int.tmod_eq_emod_of_nonneg (by omega)]<;>omega
theorem jB {a b:List Int} (ha:Bd a) (hb:Bd b):Bd (fM a b)∧fv (fM a b)=mm (fv a) (fv b):=xG ha hb
theorem uc {a b:List Int} (ha:Bd a) (hb:Bd b):Bd (gr a b)∧fv (gr a b)=ma (fv a) (fv b):=xH ha hb
theorem wv {a b:List Int} (ha:Bd a) (hb:Bd b):Bd (gu a b)∧fv (gu a b)=ms (fv a) (fv b):=Pa ha hb
structure BW (s:W4):Prop where
 x0:Bd s.1
 z0:Bd s.2.1
 x1:Bd s.2.2.1
 z1:Bd s.2.2.2
def fvs (s:W4):S4:=(fv s.1,fv s.2.1,fv s.2.2.1,fv s.2.2.2)
theorem SE:Bd (cz 121665)∧fv (cz 121665)=121665:=by
 obtain ⟨h1,h2⟩:=nr (n:=121665) (by decide) (by decide)
 exact ⟨h1,by unfold fv;rw [h2];decide⟩
section
variable {u x z x' z':List Int} (hu:Bd u) (hx:Bd x) (hz:Bd z) (hx':Bd x') (j4:Bd z')
include hx hz in
theorem DU:Bd (wdX x z)∧fv (wdX x z)=dX (fv x) (fv z):=by
 obtain ⟨a1,a2⟩:=uc hx hz
 obtain ⟨b1,b2⟩:=wv hx hz
 obtain ⟨c1,c2⟩:=jB a1 a1
 obtain ⟨d1,d2⟩:=jB b1 b1
 obtain ⟨e1,e2⟩:=jB c1 d1
 exact ⟨e1,by unfold wdX dX;rw [e2,c2,d2,a2,b2]⟩
include hx hz in
theorem Pb:Bd (wdE x z)∧fv (wdE x z)=dE (fv x) (fv z):=by
 obtain ⟨a1,a2⟩:=uc hx hz
 obtain ⟨b1,b2⟩:=wv hx hz
 obtain ⟨c1,c2⟩:=jB a1 a1
 obtain ⟨d1,d2⟩:=jB b1 b1
 obtain ⟨e1,e2⟩:=wv c1 d1
 exact ⟨e1,by unfold wdE dE;rw [e2,c2,d2,a2,b2]⟩
include hx hz in
theorem DV:Bd (wdZ x z)∧fv (wdZ x z)=dZ (fv x) (fv z):=by
 obtain ⟨a1,a2⟩:=uc hx hz
 obtain ⟨c1,c2⟩:=jB a1 a1
 obtain ⟨e1,e2⟩:=Pb hx hz
 obtain ⟨f1,f2⟩:=jB SE.1 e1
 obtain ⟨g1,g2⟩:=uc c1 f1
 obtain ⟨h1,h2⟩:=jB e1 g1
 exact ⟨h1,by unfold wdZ dZ;rw [h2,g2,f2,e2,c2,a2,SE.2]⟩
include hx hz hx' j4 in
theorem DW:Bd (Vp x z x' z')∧fv (Vp x z x' z')=aL (fv x) (fv z) (fv x') (fv z'):=by
 obtain ⟨a1,a2⟩:=uc hx hz
 obtain ⟨b1,b2⟩:=wv hx' j4
 obtain ⟨c1,c2⟩:=jB b1 a1
 exact ⟨c1,by unfold Vp aL;rw [c2,a2,b2]⟩
include hx hz hx' j4 in
theorem DX:Bd (Vq x z x' z')∧fv (Vq x z x' z')=aR (fv x) (fv z) (fv x') (fv z'):=by
 obtain ⟨a1,a2⟩:=wv hx hz
 obtain ⟨b1,b2⟩:=uc hx' j4
 obtain ⟨c1,c2⟩:=jB b1 a1
 exact ⟨c1,by unfold Vq aR;rw [c2,a2,b2]⟩
include hx hz hx' j4 in
theorem DY:Bd (waX x z x' z')∧fv (waX x z x' z')=aX (fv x) (fv z) (fv x') (fv z'):=by
 obtain ⟨a1,a2⟩:=DW hx hz hx' j4
 obtain ⟨b1,b2⟩:=DX hx hz hx' j4
 obtain ⟨c1,c2⟩:=uc a1 b1
 obtain ⟨d1,d2⟩:=jB c1 c1
 exact ⟨d1,by unfold waX aX;rw [d2,c2,a2,b2]⟩
include hu hx hz hx' j4 in
theorem DZ:Bd (waZ u x z x' z')∧fv (waZ u x z x' z')=aZ (fv u) (fv x) (fv z) (fv x') (fv z'):=by
 obtain ⟨a1,a2⟩:=DW hx hz hx' j4
 obtain ⟨b1,b2⟩:=DX hx hz hx' j4
 obtain ⟨c1,c2⟩:=wv a1 b1
 obtain ⟨d1,d2⟩:=jB c1 c1
 obtain ⟨e1,e2⟩:=jB hu d1
 exact ⟨e1,by unfold waZ aZ;rw [e2,d2,c2,a2,b2]⟩
end
theorem JY {u:List Int} (hu:Bd u) (b:Bool) {s:W4} (h:BW s):BW (FY u b s)∧fvs (FY u b s)=Pc (fv u) b (fvs s):=by
 cases b with
 |true=>
  have a:=DY h.x1 h.z1 h.x0 h.z0
  have c:=DZ hu h.x1 h.z1 h.x0 h.z0
  have d:=DU h.x1 h.z1
  have e:=DV h.x1 h.z1
  exact ⟨⟨a.1,c.1,d.1,e.1⟩,Prod.ext a.2 (Prod.ext c.2 (Prod.ext d.2 e.2))⟩
 |false=>
  have a:=DY h.x0 h.z0 h.x1 h.z1
  have c:=DZ hu h.x0 h.z0 h.x1 h.z1
  have d:=DU h.x0 h.z0
  have e:=DV h.x0 h.z0
  exact ⟨⟨d.1,e.1,a.1,c.1⟩,Prod.ext d.2 (Prod.ext e.2 (Prod.ext a.2 c.2))⟩
theorem xI:Bd (cz 1)∧fv (cz 1)=1:=by
 obtain ⟨h1,h2⟩:=nr (n:=1) (by decide) (by decide)
 exact ⟨h1,by unfold fv;rw [h2];decide⟩
theorem JZ {u:List Int} (hu:Bd u) (bits:Nat→Bool):∀j,BW (wN u bits j)∧fvs (wN u bits j)=run (fv u) bits (Hg (fv u)) j
 |0=>by
  refine ⟨⟨xI.1,Bd.z5,hu,xI.1⟩,?_⟩
  show (fv (cz 1),fv z5,fv u,fv (cz 1))=(1,0,fv u,1)
  rw [xI.2,show fv z5=0 by decide]
 |j+1=>by
  obtain ⟨h1,h2⟩:=JZ hu bits j
  obtain ⟨h3,h4⟩:=JY hu (bits j) h1
  exact ⟨h3,by rw [wN,h4,h2];rfl⟩
theorem Pd {u:List Int} (hu:Bd u) (bits:Nat→Bool):Bd (DQ u bits)∧fv (DQ u bits)=fin (run (fv u) bits (Hg (fv u)) 256):=by
 obtain ⟨h1,h2⟩:=JZ hu bits 256
 obtain ⟨h3,h4⟩:=Pe h1.z0
 obtain ⟨h5,h6⟩:=jB h1.x0 h3
 rw [DQ,aq]
 refine ⟨h5,?_⟩
 rw [h6,h4, ←h2]
 rfl
structure OL (s:L4):Prop where
 x0:j3 s.1=true
 z0:j3 s.2.1=true
 x1:j3 s.2.2.1=true
 z1:j3 s.2.2.2=true
noncomputable def vrs (s:L4):S4:=(vR s.1,vR s.2.1,vR s.2.2.1,vR s.2.2.2)
theorem oG (a b:List Int):vR (rA a b)=ma (vR a) (vR b):=sZ _
theorem qJ (a b:List Int):vR (rS a b)=ms (vR a) (vR b):=sZ _
theorem fO (a b:List Int):vR (rM a b)=mm (vR a) (vR b):=sZ _
theorem Pf (u k:List Int) (b:Bool) (s:L4):OL (JV u k b s):=by
 cases b with
 |true=>exact ⟨eE _,eE _,eE _,eE _⟩
 |false=>exact ⟨eE _,eE _,eE _,eE _⟩
theorem aas (x z:List Int):vR (Ye x z)=dX (vR x) (vR z):=by unfold Ye dX;rw [fO,fO,fO,oG,qJ]
theorem afz (x z:List Int):vR (qdE x z)=dE (vR x) (vR z):=by unfold qdE dE;rw [qJ,fO,fO,oG,qJ]
theorem aat {k:List Int} (hk:vR k=121665) (x z:List Int):vR (Yf k x z)=dZ (vR x) (vR z):=by unfold Yf dZ;rw [fO,oG,fO,fO,oG,afz,hk]
theorem aau (x z x' z':List Int):vR (Yg x z x' z')=aL (vR x) (vR z) (vR x') (vR z'):=by unfold Yg aL;rw [fO,qJ,oG]
theorem aav (x z x' z':List Int):vR (Yh x z x' z')=aR (vR x) (vR z) (vR x') (vR z'):=by unfold Yh aR;rw [fO,oG,qJ]
theorem aaw (x z x' z':List Int):vR (Yi x z x' z')=aX (vR x) (vR z) (vR x') (vR z'):=by unfold Yi aX;rw [fO,oG,aau,aav]
theorem aax (u x z x' z':List Int):vR (Yj u x z x' z')=aZ (vR u) (vR x) (vR z) (vR x') (vR z'):=by unfold Yj aZ;rw [fO,fO,qJ,aau,aav]
theorem J0 {k:List Int} (hk:vR k=121665) (u:List Int) (b:Bool) (s:L4):vrs (JV u k b s)=Pc (vR u) b (vrs s):=by
 cases b with
 |true=>
  show (vR (Yi _ _ _ _),vR (Yj _ _ _ _ _),vR (Ye _ _),vR (Yf _ _ _))=(_,_,_,_)
  rw [aaw,aax,aas,aat hk];rfl
 |false=>
  show (vR (Ye _ _),vR (Yf _ _ _),vR (Yi _ _ _ _),vR (Yj _ _ _ _ _))=(_,_,_,_)
  rw [aaw,aax,aas,aat hk];rfl
end Go.Proofs.YtibfpjeeanppjaaGreat.La
end
section
namespace Go.Proofs.YtibfpjeeanppjaaGreat.La
open Go Go.Sy Re Fe
noncomputable def Vw (sec:List Int) (n:Int):Int:=fin (run n (fun j=>bt (BZ sec) (j+1)) (Hg n) 255)
noncomputable def bP (sec:List Int) (n:Int):List Int:=gz (eo 32 (Vw sec n))
theorem gT (sec:List Int) (n:Int):(bP sec n).length=32:=by rw [bP,aq,mB]
theorem mj (sec:List Int) (n:Int):aE (bP sec n)=true:=bQ.2 ⟨gT _ _,by rw [bP,aq];exact D0 _ _⟩
theorem xJ {sec:List Int} (h:aE sec=true):(gU sec).all u8=true∧(gU sec).length=32∧bz (gU sec)/2^255%2=0∧gU sec=clR sec:=by
 obtain ⟨h1,h2⟩:=bQ.1 h
 obtain ⟨a,b,c,d⟩:=aar h2 h1
 rw [gU,aq]
 exact ⟨b,c,d,a⟩
noncomputable def J1:List SV→Option (SV×List Blk×Bool)
 | [.agg [.ints .u8 32 sec],.agg [.ints .u64 5 u]]=>some (.agg [.ints .u64 5 (DQ u (bt (gU sec)))],[],aE sec)
 |_=>none
noncomputable def J2:Entry Tryz.prog:=.val 64 _ Tryz.func64 (by decide) rfl false 0 J1 fun vs v new e=>by
 unfold J1 at e
 split at e
 ·simp only [Option.some.injEq,Prod.mk.injEq] at e
  obtain ⟨rfl,rfl,h⟩:=e
  obtain ⟨a,b,_⟩:=xJ h
  exact JU (bQ.1 h).1 fun j hj=>O9 a b hj
 ·cases e
theorem wz {sec u:List Int} (h:aE sec=true) (hu:Bd u):eR (DQ u (bt (gU sec)))=bP sec (fv u):=by
 obtain ⟨h1,h2⟩:=Pd hu (bt (gU sec))
 obtain ⟨_,_,c,_⟩:=xJ h
 have hb:bt (gU sec) 0=false:=by
  unfold bt
  rw [show 255-0=255 from rfl,c];rfl
 rw [h1.bytes,h2,Vx _ _ hb 254,bP,aq,Vw,gU,aq]
theorem zV:Bd (cz 9)∧fv (cz 9)=9:=by
 obtain ⟨h1,h2⟩:=nr (n:=9) (by decide) (by decide)
 exact ⟨h1,by unfold fv;rw [h2];decide⟩
noncomputable def pbC:bK:=mk (P:=Tryz.prog) [J2,Fe.fe,Fe.xK,Fe.D1] []
theorem Vy:ag Tryz.prog pbC:=ai _ aF.nil _ _
noncomputable def D2:List SV→Option (SV×List Blk×Bool)
 | [.agg [.ints .u8 32 sec]]=>some (.agg [.ints .u8 32 (bP sec 9)],[],aE sec)
 |_=>none
theorem FZ {sec:List Int} (h:aE sec=true):aj Tryz.prog 37 [.agg [.ints .u8 32 sec]] [] (.agg [.ints .u8 32 (bP sec 9)]) []:=by
 have k:aj Tryz.prog 37 [.agg [.ints .u8 32 sec]] [] (.agg [.ints .u8 32 (eR (DQ (cz 9) (bt (gU sec))))]) []:=
  aP Vy 60 Tryz.func37 (p:=aa true (aa true (aE sec))) (by kernel_rfl) (by rw [h];rfl) rfl
 rw [wz h zV.1,zV.2] at k
 exact k
noncomputable def Dv:Entry Tryz.prog:=.val 37 _ Tryz.func37 (by decide) rfl false 0 D2 fun vs v new e=>by
 unfold D2 at e
 split at e
 ·simp only [Option.some.injEq,Prod.mk.injEq] at e
  obtain ⟨rfl,rfl,h⟩:=e
  exact FZ h
 ·cases e
noncomputable def aay:List SV→Option (SV×List Blk×Bool)
 | [.agg [.ints .u8 32 l]]=>some (.agg [.ints .u8 32 (gU l)],[],aE l)
 |_=>none
theorem Vz {l:List Int} (h:aE l=true):aj Tryz.prog 85 [.agg [.ints .u8 32 l]] [] (.agg [.ints .u8 32 (gU l)]) []:=by
 rw [(xJ h).2.2.2]
 have hl:=(bQ.1 h).1
 exact aP Vt 60 Tryz.func85 (p:=aa (aa true (true&&decide (l.length=32))) (true&&decide ((l.set 0 (IntKind.u8.wrap (IntKind.u8.wrap ((l.getD 0 0).tdiv 8)*8))).length=32))) (by kernel_rfl) (by rw [List.length_set,hl];rfl) rfl
noncomputable def afA:Entry Tryz.prog:=.val 85 _ Tryz.func85 (by decide) rfl false 0 aay fun vs v new e=>by
 unfold aay at e
 split at e
 ·simp only [Option.some.injEq,Prod.mk.injEq] at e
  obtain ⟨rfl,rfl,h⟩:=e
  exact Vz h
 ·cases e
noncomputable def afB:bK:=mk (P:=Tryz.prog) [Re.fe] [] fun i=>if i=7 then some false else none
theorem D3:ag Tryz.prog afB:=ai _ aF.nil _ _
def D4:List SV→Option Int
 | [.int .i64 n]=>bif n==9 then some 9 else bif n==121665 then some 121665 else none
 |_=>none
noncomputable def aaz (vs:List SV):Option (SV×List Blk×Bool):=(D4 vs).map fun n=>(.agg [.ints .i64 16 (cu n)],[],true)
def sm9:List Int:=9::List.replicate 31 0
def smK:List Int:=56129::1::List.replicate 30 0
theorem Pg:zW sm9=cu 9:=by unfold zW;rw [show sB (gD sm9) 32%Pm=9 by decide]
theorem Ph:zW smK=cu 121665:=by unfold zW;rw [show sB (gD smK) 32%Pm=121665 by decide]
theorem F0:aj Tryz.prog 54 [.int .i64 9] [] (.agg [.ints .i64 16 (cu 9)]) []:=by
 rw [←Pg]
 exact aP D3 60 Tryz.func54 (p:=true) (by kernel_rfl) rfl rfl
theorem F1:aj Tryz.prog 54 [.int .i64 121665] [] (.agg [.ints .i64 16 (cu 121665)]) []:=by
 rw [←Ph]
 exact aP D3 60 Tryz.func54 (p:=true) (by kernel_rfl) rfl rfl
noncomputable def D5:Entry Tryz.prog:=.val 54 _ Tryz.func54 (by decide) rfl false 0 aaz fun vs v new e=>by
 unfold aaz D4 at e
 split at e
 ·rename_i n
  by_cases h1:n=9
  ·subst h1
   cases e
   exact F0
  ·by_cases h2:n=121665
   ·subst h2
    cases e
    exact F1
   ·rw [show (n==9)=false by simpa using h1,show (n==121665)=false by simpa using h2] at e
    cases e
 ·cases e
noncomputable def cfC (b:Bool):bK:=mk (P:=Tryz.prog) [Re.tC,Re.JP,Re.qI,Re.Vr,Re.xK,afA,D5] [] fun i=>if i=32 then some b else none
theorem J3 (b:Bool):ag Tryz.prog (cfC b):=ai _ aF.nil _ _
noncomputable def l0 (u:List Int):L4:=(nZ,Hh,u,nZ)
noncomputable def kR:List Int:=cu 121665
theorem B4:vR kR=121665∧j3 kR=true:=⟨iJ (by decide) (by decide),ud (by decide) (by decide)⟩
theorem xL (sec u:List Int):(az Tryz.prog (cfC true) 60 0 8 (atoms (aH Tryz.f53)) ⟨aT Tryz.f53.ntmps [.agg [.ints .u8 32 sec],.agg [.ints .i64 16 u]],[],true⟩).bind (St.cut [2,3,4,5,6,7,8,9,10,11] 9)=some {zb sec u (gU sec) (l0 u) kR 254 with ob:=aa true (aa true (aE sec))}:=by kernel_rfl
noncomputable def qN (u:List Int) (bits:Nat→Bool):Nat→L4
 |0=>l0 u
 |j+1=>JV u kR (bits j) (qN u bits j)
theorem xM {u:List Int} (hu:j3 u=true) (bits:Nat→Bool):∀j,OL (qN u bits j)∧vrs (qN u bits j)=run (vR u) bits (Hg (vR u)) j
 |0=>⟨⟨show j3 nZ=true by decide,show j3 Hh=true by decide,hu,show j3 nZ=true by decide⟩,by
  show (vR nZ,vR Hh,vR u,vR nZ)=(1,0,vR u,1)
  rw [show vR nZ=1 by decide,show vR Hh=0 by decide]⟩
 |j+1=>⟨Pf _ _ _ _,by rw [qN,J0 B4.1,(xM hu bits j).2];rfl⟩
theorem J4 {i:Int} (h0:0≤i) (h1:i<256):qbO i=true:=by
 have e:i.tdiv 8=i/8:=Int.tdiv_eq_ediv_of_nonneg h0
 have e2:i.tmod 8=i%8:=Int.tmod_eq_emod_of_nonneg h0
 have w:IntKind.i64.wrap (i.tdiv 8)=i/8:=by rw [e];exact wrap_i64 _ (by omega) (by omega)
 have w2:IntKind.u64.wrap (i.tmod 8)=i%8:=by rw [e2,wrap_u64];omega
 unfold qbO cK
 rw [w,w2]
 simp only [au,Bool.and_eq_true,decide_eq_true_eq,true_and]
 omega
theorem VA (sec u cl k:List Int) (s:L4) (i:Int) (h:i=-1):Tr Tryz.prog none 0 coB (zb sec u cl s k i) (.exit 0) (zb sec u cl s k (-1)):=by
 subst h
 exact Tr.post (Tr.cut (je false false false) 60 _ 9 (by omega) (Vu sec u cl k s (-1)) rfl) (aU.same rfl rfl)
theorem Pj {sec u:List Int} (h:aE sec=true) (hu:j3 u=true):Tr Tryz.prog none 0 (ak 8 (aH Tryz.f53)) (zb sec u (gU sec) (l0 u) kR 254) .normal (zb sec u (gU sec) (qN u (fun j=>bt (gU sec) (j+1)) 255) kR (-1)):=by
 obtain ⟨a,b,_,_⟩:=xJ h
 have key:=Tr.loop (P:=Tryz.prog) (ro:=none) (k:=0) 0 (c:=ak 8 (aH Tryz.f53)) (by kernel_rfl) (fun j:Nat=>zb sec u (gU sec) (qN u (fun j=>bt (gU sec) (j+1)) j) kR (254-j)) 255 (s':=zb sec u (gU sec) (qN u (fun j=>bt (gU sec) (j+1)) 255) kR (-1)) (fun j hj=>?_) ?_
 ·exact key
 ·have e1:(254:Int)-j-1=254-((j+1:Nat):Int):=by omega
  have hw:IntKind.i64.wrap (254-(j:Int)-1)=254-((j+1:Nat):Int):=by rw [wrap_i64 _ (by omega) (by omega),e1]
  obtain ⟨o0,o1,o2,o3⟩:=(xM hu (fun j=>bt (gU sec) (j+1)) j).1
  have ho:=J4 (i:=254-(j:Int)) (by omega) (by omega)
  have hq:vS (gU sec) (254-(j:Int))=bz (gU sec)/2^(255-(j+1))%2:=by
   rw [show (254:Int)-j=((255-(j+1):Nat):Int) by omega]
   exact JX a b (by omega)
  cases hb:bt (gU sec) (j+1) with
  |true=>
   have Yk:vS (gU sec) (254-(j:Int))=1:=by rw [hq];exact of_decide_eq_true hb
   have k:=B3 sec u (gU sec) kR (qN u (fun j=>bt (gU sec) (j+1)) j) (254-j)
   rw [hw,nq (by rw [ho,Yk];rfl) hu B4.2 o2 o3 o0 o1,Yk] at k
   refine Tr.post (Tr.cut (je true true true) 60 _ 9 (by omega) k rfl) (aU.same rfl ?_)
   show (zb _ _ _ _ _ _).h=(zb _ _ _ _ _ _).h
   rw [qN,hb]
  |false=>
   have Yk:¬vS (gU sec) (254-(j:Int))=1:=by rw [hq];exact of_decide_eq_false hb
   have hq2:(vS (gU sec) (254-(j:Int))==1)=false:=by simpa using Yk
   have k:=O6 sec u (gU sec) kR (qN u (fun j=>bt (gU sec) (j+1)) j) (254-j)
   rw [hw,nq (by rw [ho,hq2];rfl) hu B4.2 o0 o1 o2 o3,hq2] at k
   refine Tr.post (Tr.cut (je true false false) 60 _ 9 (by omega) k rfl) (aU.same rfl ?_)
   show (zb _ _ _ _ _ _).h=(zb _ _ _ _ _ _).h
   rw [qN,hb]
 ·exact VA _ _ _ _ _ _ (by decide)
end Go.Proofs.YtibfpjeeanppjaaGreat.La
end
section
namespace Go.Proofs.YtibfpjeeanppjaaGreat.La
open Go Go.Sy Re Fe
theorem Pk {sec u:List Int} (hu:j3 u=true):vR (rM (qN u (fun j=>bt (gU sec) (j+1)) 255).1 (cu (qK (vR (qN u (fun j=>bt (gU sec) (j+1)) 255).2.1) (Pm-2).toNat)))=Vw sec (vR u):=by
 obtain ⟨h1,h2⟩:=xM hu (fun j=>bt (gU sec) (j+1)) 255
 generalize hq:qN u (fun j=>bt (gU sec) (j+1)) 255=q at h1 h2 ⊢
 have hi:=j5 (vR q.2.1) (Pm-2).toNat
 rw [fO,iJ hi.1 hi.2]
 have e:Vw sec (vR u)=fin (run (vR u) (fun j=>bt (gU sec) (j+1)) (Hg (vR u)) 255):=by unfold Vw gU;rw [aq]
 rw [e, ←h2]
 rfl
noncomputable def SF:List SV→Option (SV×List Blk×Bool)
 | [.agg [.ints .u8 32 sec],.agg [.ints .i64 16 u]]=>some (.agg [.ints .u8 32 (bP sec (vR u))],[],aE sec&&j3 u)
 |_=>none
theorem Pn {sec u:List Int} (h:aE sec=true) (hu:j3 u=true):aj Tryz.prog 53 [.agg [.ints .u8 32 sec],.agg [.ints .i64 16 u]] [] (.agg [.ints .u8 32 (bP sec (vR u))]) []:=by
 have hl:=Pj h hu
 have hv:=Pk (sec:=sec) hu
 have hok:=(xM hu (fun j=>bt (gU sec) (j+1)) 255).1
 generalize qN u (fun j=>bt (gU sec) (j+1)) 255=q at hl hv hok
 unfold bP
 rw [←hv]
 refine aj.cg (J3 true) 60 9 0 Tryz.func53 (by simp) rfl (fun s' x hh=>?_) (s:=zb sec u (gU sec) q kR (-1)) (p:=aa (aa (aa true (aa true (j3 q.2.1))) (aa true (cD q.1&&cD (cu (qK (vR q.2.1) (Pm-2).toNat))))) (aa true (cD (rM q.1 (cu (qK (vR q.2.1) (Pm-2).toNat)))))) (by kernel_rfl) ?_ rfl rfl
 ·refine aG.items (J3 true) 60 8 _ 9 (by simp) (xL sec u) (by rw [h];rfl) (by decide) ?_
  exact aG.item 8 (by decide) hl hh
 ·rw [hok.z0,(ew.1 hok.x0).1,br,br];rfl
noncomputable def aaB:Entry Tryz.prog:=.val 53 _ Tryz.func53 (by decide) rfl false 0 SF fun vs v new e=>by
 unfold SF at e
 split at e
 ·simp only [Option.some.injEq,Prod.mk.injEq,Bool.and_eq_true] at e
  obtain ⟨rfl,rfl,h1,h2⟩:=e
  exact Pn h1 h2
 ·cases e
noncomputable def Yl (x:Bool):bK:=mk (P:=Tryz.prog) [aaB,D5,Re.D1] [] fun i=>if i=13 then some x else none
theorem mD (x:Bool):ag Tryz.prog (Yl x):=ai _ aF.nil _ _
theorem J5:vR (cu 9)=9∧j3 (cu 9)=true:=⟨iJ (by decide) (by decide),ud (by decide) (by decide)⟩
noncomputable def zX:List SV→Option (SV×List Blk×Bool)
 | [.agg [.ints .u8 32 sec]]=>some (.agg [.ints .u8 32 (bP sec 9)],[],aE sec)
 |_=>none
theorem B5 {sec:List Int} (h:aE sec=true):aj Tryz.prog 25 [.agg [.ints .u8 32 sec]] [] (.agg [.ints .u8 32 (bP sec 9)]) []:=by
 have k:aj Tryz.prog 25 [.agg [.ints .u8 32 sec]] [] (.agg [.ints .u8 32 (bP sec (vR (cu 9)))]) []:=
  aP (mD true) 60 Tryz.func25 (p:=aa true (aa true (aE sec&&j3 (cu 9)))) (by kernel_rfl) (by rw [h,J5.2];rfl) rfl
 rw [J5.1] at k
 exact k
noncomputable def zJ:Entry Tryz.prog:=.val 25 _ Tryz.func25 (by decide) rfl false 0 zX fun vs v new e=>by
 unfold zX at e
 split at e
 ·simp only [Option.some.injEq,Prod.mk.injEq] at e
  obtain ⟨rfl,rfl,h⟩:=e
  exact B5 h
 ·cases e
def uP (l:List Int):Int:=bz l%57896044618658097711785492504343953926634992332820282019728792003956564819968%Pm
noncomputable def fK (sec eF:List Int):List Int:=bP sec (uP eF)
theorem D6 {l:List Int} (h:aE l=true):Bd (fP l)∧fv (fP l)=uP l:=by
 obtain ⟨h1,h2⟩:=bQ.1 h
 obtain ⟨a,b⟩:=J6 h2 h1
 exact ⟨a,by unfold fv uP;rw [b]⟩
theorem J7 (l:List Int):vR (cu (uP l))=uP l∧j3 (cu (uP l))=true:=⟨sZ _,eE _⟩
def gB:List Int:=List.replicate 32 0
noncomputable def agC (x:Bool):bK:=mk (P:=Tryz.prog) [J2,Fe.xK,Fe.D1] [] fun i=>if i=14 then some x else none
theorem J8 (x:Bool):ag Tryz.prog (agC x):=ai _ aF.nil _ _
def me:SV:=.iface 78 (.int .i64 4)
theorem ue {sec eF:List Int} (h:aE sec=true) (hp:aE eF=true):eR (DQ (fP eF) (bt (gU sec)))=fK sec eF:=by
 rw [wz h (D6 hp).1,(D6 hp).2];rfl
theorem pM (sec eF:List Int):(fK sec eF).length=32:=gT _ _
theorem Om (sec eF:List Int):aE (fK sec eF)=true:=mj _ _
noncomputable def jn (sec eF:List Int):Bool:=decide (fK sec eF=gB)
noncomputable def J9 (b:Bool):List SV→Option (SV×List Blk×Bool)
 | [.agg [.ints .u8 32 sec],.agg [.ints .u8 32 eF]]=>match b with
  |true=>some (.bk [.agg [.ints .u8 32 gB],me],[],aE sec&&aE eF&&jn sec eF)
  |false=>some (.bk [.agg [.ints .u8 32 (fK sec eF)],.nl .nilIface],[],aE sec&&aE eF&&!jn sec eF)
 |_=>none
theorem Po {sec eF:List Int} (h:aE sec=true) (hp:aE eF=true) (hz:jn sec eF=true):aj Tryz.prog 67 [.agg [.ints .u8 32 sec],.agg [.ints .u8 32 eF]] [] (.bk [.agg [.ints .u8 32 gB],me]) []:=
 aP (J8 true) 60 Tryz.func67 (p:=aa (aa (aa true (aa true (aE sec))) (decide ((eR (DQ (fP eF) (bt (gU sec)))).length=32))) (decide (eR (DQ (fP eF) (bt (gU sec)))=gB))) (by kernel_rfl)
  (by rw [ue h hp,h,decide_eq_true (pM sec eF),decide_eq_true (of_decide_eq_true hz)];rfl) rfl
theorem Pp {sec eF:List Int} (h:aE sec=true) (hp:aE eF=true) (hz:jn sec eF=false):aj Tryz.prog 67 [.agg [.ints .u8 32 sec],.agg [.ints .u8 32 eF]] [] (.bk [.agg [.ints .u8 32 (fK sec eF)],.nl .nilIface]) []:=by
 have k:aj Tryz.prog 67 [.agg [.ints .u8 32 sec],.agg [.ints .u8 32 eF]] [] (.bk [.agg [.ints .u8 32 (eR (DQ (fP eF) (bt (gU sec))))],.nl .nilIface]) []:=
  aP (J8 false) 60 Tryz.func67 (p:=aa (aa (aa true (aa true (aE sec))) (decide ((eR (DQ (fP eF) (bt (gU sec)))).length=32))) (!decide (eR (DQ (fP eF) (bt (gU sec)))=gB))) (by kernel_rfl)
   (by rw [ue h hp,h,decide_eq_true (pM sec eF),decide_eq_false (of_decide_eq_false hz)];rfl) rfl
 rw [ue h hp] at k
 exact k
noncomputable def Un (b:Bool):Entry Tryz.prog:=.val 67 _ Tryz.func67 (by decide) rfl false 0 (J9 b) fun vs v new e=>by
 unfold J9 at e
 split at e
 ·split at e
  ·simp only [Option.some.injEq,Prod.mk.injEq,Bool.and_eq_true] at e
   obtain ⟨rfl,rfl,⟨h1,h2⟩,h3⟩:=e
   exact Po h1 h2 h3
  ·simp only [Option.some.injEq,Prod.mk.injEq,Bool.and_eq_true,Bool.not_eq_true'] at e
   obtain ⟨rfl,rfl,⟨h1,h2⟩,h3⟩:=e
   exact Pp h1 h2 h3
 ·cases e
noncomputable def D7 (b:Bool):List SV→Option (SV×List Blk×Bool)
 | [.agg [.ints .u8 32 sec],.agg [.ints .u8 32 eF]]=>match b with
  |true=>some (.bk [.agg [.ints .u8 32 (fK sec eF)],.int .i64 4],[],aE sec&&aE eF&&jn sec eF)
  |false=>some (.bk [.agg [.ints .u8 32 (fK sec eF)],.int .i64 0],[],aE sec&&aE eF&&!jn sec eF)
 |_=>none
theorem xN (sec eF:List Int):bP sec (vR (cu (uP eF)))=fK sec eF:=by rw [(J7 eF).1];rfl
theorem Ka {sec eF:List Int} (h:aE sec=true) (hp:aE eF=true) (hz:jn sec eF=true):aj Tryz.prog 42 [.agg [.ints .u8 32 sec],.agg [.ints .u8 32 eF]] [] (.bk [.agg [.ints .u8 32 (fK sec eF)],.int .i64 4]) []:=by
 have k:aj Tryz.prog 42 [.agg [.ints .u8 32 sec],.agg [.ints .u8 32 eF]] [] (.bk [.agg [.ints .u8 32 (bP sec (vR (cu (uP eF))))],.int .i64 4]) []:=
  aP (mD true) 60 Tryz.func42 (p:=aa (aa (aa (aa true (aa true (aE eF))) (aa true (aE sec&&j3 (cu (uP eF))))) (decide ((bP sec (vR (cu (uP eF)))).length=32))) (decide (bP sec (vR (cu (uP eF)))=gB))) (by kernel_rfl)
   (by rw [xN,h,hp,(J7 eF).2,decide_eq_true (pM sec eF),decide_eq_true (of_decide_eq_true hz)];rfl) rfl
 rw [xN] at k
 exact k
theorem Kb {sec eF:List Int} (h:aE sec=true) (hp:aE eF=true) (hz:jn sec eF=false):aj Tryz.prog 42 [.agg [.ints .u8 32 sec],.agg [.ints .u8 32 eF]] [] (.bk [.agg [.ints .u8 32 (fK sec eF)],.int .i64 0]) []:=by
 have k:aj Tryz.prog 42 [.agg [.ints .u8 32 sec],.agg [.ints .u8 32 eF]] [] (.bk [.agg [.ints .u8 32 (bP sec (vR (cu (uP eF))))],.int .i64 0]) []:=
  aP (mD false) 60 Tryz.func42 (p:=aa (aa (aa (aa true (aa true (aE eF))) (aa true (aE sec&&j3 (cu (uP eF))))) (decide ((bP sec (vR (cu (uP eF)))).length=32))) (!decide (bP sec (vR (cu (uP eF)))=gB))) (by kernel_rfl)
   (by rw [xN,h,hp,(J7 eF).2,decide_eq_true (pM sec eF),decide_eq_false (of_decide_eq_false hz)];rfl) rfl
 rw [xN] at k
 exact k
noncomputable def Oh (b:Bool):Entry Tryz.prog:=.val 42 _ Tryz.func42 (by decide) rfl false 0 (D7 b) fun vs v new e=>by
 unfold D7 at e
 split at e
 ·split at e
  ·simp only [Option.some.injEq,Prod.mk.injEq,Bool.and_eq_true] at e
   obtain ⟨rfl,rfl,⟨h1,h2⟩,h3⟩:=e
   exact Ka h1 h2 h3
  ·simp only [Option.some.injEq,Prod.mk.injEq,Bool.and_eq_true,Bool.not_eq_true'] at e
   obtain ⟨rfl,rfl,⟨h1,h2⟩,h3⟩:=e
   exact Kb h1 h2 h3
 ·cases e
end Go.Proofs.YtibfpjeeanppjaaGreat.La
end
section
namespace Go.Proofs.YtibfpjeeanppjaaGreat.La
open Go Go.Sy Re Fe
def VB (x:Int):Int:=((SG PN (x%Pm).toNat 57896044618658097711785492504343953926634992332820282019728792003956564819947 256:Nat):Int)
theorem aaC (x:Int):inv x=VB x:=by
 have hk:(Pm-2).toNat=57896044618658097711785492504343953926634992332820282019728792003956564819947:=by decide
 unfold inv qK VB
 rw [hk, ←uf, ←Kc PN (x%Pm).toNat (show 57896044618658097711785492504343953926634992332820282019728792003956564819947<2^256 by decide)]
 generalize 57896044618658097711785492504343953926634992332820282019728792003956564819947=k
 have h0:=(mod_range x).1
 rw [←rU,Int.natCast_emod,Int.natCast_pow]
 rw [rU,Int.toNat_of_nonneg h0]
def F2 (sec:List Int) (n:Int):Int:=mm (run n (fun j=>bt (BZ sec) (j+1)) (Hg n) 255).1 (VB (run n (fun j=>bt (BZ sec) (j+1)) (Hg n) 255).2.1)
theorem DB (sec:List Int) (n:Int):Vw sec n=F2 sec n:=by unfold Vw fin F2;rw [aaC]
def fl:List Int:=[8,0,0,0,0,0,0,0,0,9,0,0,0,0,0,0,0,0,0,0,0,0,0,0,0,0,0,0,0,0,0,0]
def sF:List Int:=[16,0,0,0,4,0,0,0,0,0,0,0,0,0,0,0,0,0,0,0,0,0,0,0,0,0,0,0,0,0,0,0]
def FN:Int:=14410954960534207126979758985119326193187869881542984947442063330490464172283
def FM:Int:=10382487467480081885744424633546477483207735347859257114390096405750850824011
def FO:Int:=30334489758296282038559521297972431496129065877576633084063526839167670646814
theorem Oo:F2 fl 9=FN:=by decide+kernel
theorem On:F2 sF 9=FM:=by decide+kernel
theorem Ot:F2 sF FN=FO:=by decide+kernel
theorem Oq:F2 fl FM=FO:=by decide+kernel
end Go.Proofs.YtibfpjeeanppjaaGreat.La
end
