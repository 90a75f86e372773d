/- This file holds the texts LaC, LaD, LaE, LaF, a section each. No conditions beyond those in the theorems. -/
import Derived.Test.YtibfpjeeanppjaaGreatYLaB
set_option linter.all false
set_option maxRecDepth 100000
section
namespace Go.Proofs.YtibfpjeeanppjaaGreat.La
open Go Go.Sy Re Fe
theorem Ra {x:Int}:u8 x=true↔0≤x∧x<256:=Fe.nk
theorem K5:∀n:Fin 256,bS .u8 ((n.val:Nat):Int) 248=IntKind.u8.wrap (IntKind.u8.wrap (((n.val:Nat):Int).tdiv 8)*8)∧u8 (bS .u8 ((n.val:Nat):Int) 248)=true:=by decide+kernel
theorem Rb:∀n:Fin 256,gi .u8 (bS .u8 ((n.val:Nat):Int) 127) 64=IntKind.u8.wrap (((n.val:Nat):Int).tmod 64+64)∧u8 (gi .u8 (bS .u8 ((n.val:Nat):Int) 127) 64)=true∧
  IntKind.i64.wrap (bS .u8 (bO .u8 (gi .u8 (bS .u8 ((n.val:Nat):Int) 127) 64) 7) 1)=0:=by decide+kernel
theorem nE {P:Int→Prop} (h:∀n:Fin 256,P ((n.val:Nat):Int)) {x:Int} (hx:u8 x=true):P x:=by
 obtain ⟨h0,h1⟩:=Ra.1 hx
 have:=h ⟨x.toNat,by omega⟩
 rwa [show (((⟨x.toNat,by omega⟩:Fin 256).val:Nat):Int)=x by show ((x.toNat:Nat):Int)=x;omega] at this
theorem zw {l:List Int} (h:l.all u8=true) (i:Nat) {a:Int} (ha:u8 a=true):(l.set i a).all u8=true:=by
 rw [List.all_eq_true] at h ⊢
 intro x hx
 rcases List.mem_or_eq_of_mem_set hx with hx|rfl
 ·exact h x hx
 ·exact ha
theorem qK {l:List Int} (h:l.all u8=true) (i:Nat):u8 (l.getD i 0)=true:=by
 rw [List.getD_eq_getElem?_getD]
 cases e:l[i]? with
 |none=>rfl
 |some x=>exact List.all_eq_true.1 h x (List.mem_of_getElem? e)
theorem U7 {l:List Int} (h:l.all u8=true) (hn:l.length=32):sn l=clR l∧(sn l).all u8=true∧(sn l).length=32∧bh (sn l)/2^255%2=0:=by
 have e0:=nE (P:=fun x=>bS .u8 x 248=IntKind.u8.wrap (IntKind.u8.wrap (x.tdiv 8)*8)∧u8 (bS .u8 x 248)=true) K5 (qK h 0)
 have hs:=zw h 0 e0.2
 have e1:=nE (P:=fun x=>gi .u8 (bS .u8 x 127) 64=IntKind.u8.wrap (x.tmod 64+64)∧u8 (gi .u8 (bS .u8 x 127) 64)=true∧IntKind.i64.wrap (bS .u8 (bO .u8 (gi .u8 (bS .u8 x 127) 64) 7) 1)=0) Rb (qK hs 31)
 have hl:(sn l).length=32:=by unfold sn;rw [List.length_set,List.length_set,hn]
 have ha:(sn l).all u8=true:=zw hs 31 e1.2.1
 refine ⟨?_,ha,hl,?_⟩
 ·unfold sn clR
  rw [e1.1,e0.1]
 ·have hb:=zx ha hl (i:=255) (by omega)
  rw [←hb]
  unfold uu
  have hg:(sn l).getD 31 0=gi .u8 (bS .u8 ((l.set 0 (bS .u8 (l.getD 0 0) 248)).getD 31 0) 127) 64:=by
   unfold sn
   rw [List.getD_eq_getElem?_getD,List.getElem?_set_self (by rw [List.length_set,hn];omega)];rfl
  show IntKind.i64.wrap (bS .u8 (bO .u8 ((sn l).getD 31 0) 7) 1)=0
  rw [hg]
  exact e1.2.2
def bt (e:List Int) (j:Nat):Bool:=decide (bh e/2^(255-j)%2=1)
theorem K6 (x:Int):D7 (decide (x%2=1))=x%2:=by
 by_cases h:x%2=1
 ·rw [decide_eq_true h,h];rfl
 ·rw [decide_eq_false h]
  show (0:Int)=_
  omega
theorem Rc {e:List Int} (h:e.all u8=true) (hn:e.length=32) {j:Nat} (hj:j<256):uu e (255-j)=D7 (bt e j):=by
 rw [show (255:Int)-j=((255-j:Nat):Int) by omega,zx h hn (by omega)]
 exact (K6 _).symm
theorem K7 {e:List Int} (he:e.all u8=true) (hn:e.length=32) {i:Nat} (h1:i<256):xS e i=bh e/2^i%2:=by
 have hd:=kM e he
 rw [hn] at hd
 have v0:=dD he
 generalize bh e=v at*
 have e1:(i:Int).tdiv 8=((i/8:Nat):Int):=by rw [Int.tdiv_eq_ediv_of_nonneg (by omega)];omega
 have e2:(i:Int).tmod 8=((i%8:Nat):Int):=by rw [Int.tmod_eq_emod_of_nonneg (by omega)];omega
 have w1:IntKind.i64.wrap ((i/8:Nat):Int)=((i/8:Nat):Int):=wrap_i64 _ (by omega) (by omega)
 have w2:IntKind.u64.wrap ((i%8:Nat):Int)=((i%8:Nat):Int):=by rw [wrap_u64];omega
 unfold xS
 rw [e1,e2,w1,w2,Int.toNat_natCast,Int.toNat_natCast,Nat.zero_add,hd,fQ _ _ _ (by omega)]
 rw [dB _ _ _ (by show i%8≤8;omega)]
 have hs:v/256^(i/8)/2^(i%8)=v/2^i:=by
  rw [Int.ediv_ediv_of_nonneg (Int.pow_nonneg (by omega)),show (256:Int)=2^8 from rfl, ←Int.pow_mul, ←Int.pow_add]
  congr 2
  omega
 rw [←hs]
 generalize v/256^(i/8)=Y
 have hr:i%8=0∨i%8=1∨i%8=2∨i%8=3∨i%8=4∨i%8=5∨i%8=6∨i%8=7:=by omega
 rcases hr with h|h|h|h|h|h|h|h<;>rw [h]<;>simp only [Int.reducePow]<;>rw [Int.tmod_eq_emod_of_nonneg (by omega)]<;>omega
theorem jQ {a b:List Int} (ha:Bd a) (hb:Bd b):Bd (fM a b)∧fv (fM a b)=mm (fv a) (fv b):=zy ha hb
theorem vK {a b:List Int} (ha:Bd a) (hb:Bd b):Bd (gT a b)∧fv (gT a b)=ma (fv a) (fv b):=zA ha hb
theorem yo {a b:List Int} (ha:Bd a) (hb:Bd b):Bd (gU a b)∧fv (gU a b)=ms (fv a) (fv b):=Rd ha hb
structure BW (s:W4):Prop where
 x0:Bd s.1
 z0:Bd s.2.1
 x1:Bd s.2.2.1
 z1:Bd s.2.2.2
def fvs (s:W4):S4:=(fv s.1,fv s.2.1,fv s.2.2.1,fv s.2.2.2)
theorem U8:Bd (cF 121665)∧fv (cF 121665)=121665:=by
 obtain ⟨h1,h2⟩:=oE (n:=121665) (by decide) (by decide)
 exact ⟨h1,by unfold fv;rw [h2];decide⟩
section
variable {u x z x' z':List Int} (hu:Bd u) (hx:Bd x) (hz:Bd z) (hx':Bd x') (ku:Bd z')
include hx hz in
theorem F7:Bd (wdX x z)∧fv (wdX x z)=dX (fv x) (fv z):=by
 obtain ⟨a1,a2⟩:=vK hx hz
 obtain ⟨b1,b2⟩:=yo hx hz
 obtain ⟨c1,c2⟩:=jQ a1 a1
 obtain ⟨d1,d2⟩:=jQ b1 b1
 obtain ⟨e1,e2⟩:=jQ c1 d1
 exact ⟨e1,by unfold wdX dX;rw [e2,c2,d2,a2,b2]⟩
include hx hz in
theorem Rf:Bd (wdE x z)∧fv (wdE x z)=dE (fv x) (fv z):=by
 obtain ⟨a1,a2⟩:=vK hx hz
 obtain ⟨b1,b2⟩:=yo hx hz
 obtain ⟨c1,c2⟩:=jQ a1 a1
 obtain ⟨d1,d2⟩:=jQ b1 b1
 obtain ⟨e1,e2⟩:=yo c1 d1
 exact ⟨e1,by unfold wdE dE;rw [e2,c2,d2,a2,b2]⟩
include hx hz in
theorem F8:Bd (wdZ x z)∧fv (wdZ x z)=dZ (fv x) (fv z):=by
 obtain ⟨a1,a2⟩:=vK hx hz
 obtain ⟨c1,c2⟩:=jQ a1 a1
 obtain ⟨e1,e2⟩:=Rf hx hz
 obtain ⟨f1,f2⟩:=jQ U8.1 e1
 obtain ⟨g1,g2⟩:=vK c1 f1
 obtain ⟨h1,h2⟩:=jQ e1 g1
 exact ⟨h1,by unfold wdZ dZ;rw [h2,g2,f2,e2,c2,a2,U8.2]⟩
include hx hz hx' ku in
theorem F9:Bd (XG x z x' z')∧fv (XG x z x' z')=aL (fv x) (fv z) (fv x') (fv z'):=by
 obtain ⟨a1,a2⟩:=vK hx hz
 obtain ⟨b1,b2⟩:=yo hx' ku
 obtain ⟨c1,c2⟩:=jQ b1 a1
 exact ⟨c1,by unfold XG aL;rw [c2,a2,b2]⟩
include hx hz hx' ku in
theorem Ga:Bd (XH x z x' z')∧fv (XH x z x' z')=aR (fv x) (fv z) (fv x') (fv z'):=by
 obtain ⟨a1,a2⟩:=yo hx hz
 obtain ⟨b1,b2⟩:=vK hx' ku
 obtain ⟨c1,c2⟩:=jQ b1 a1
 exact ⟨c1,by unfold XH aR;rw [c2,a2,b2]⟩
include hx hz hx' ku in
theorem Gb:Bd (waX x z x' z')∧fv (waX x z x' z')=aX (fv x) (fv z) (fv x') (fv z'):=by
 obtain ⟨a1,a2⟩:=F9 hx hz hx' ku
 obtain ⟨b1,b2⟩:=Ga hx hz hx' ku
 obtain ⟨c1,c2⟩:=vK a1 b1
 obtain ⟨d1,d2⟩:=jQ c1 c1
 exact ⟨d1,by unfold waX aX;rw [d2,c2,a2,b2]⟩
include hu hx hz hx' ku in
theorem Gc:Bd (waZ u x z x' z')∧fv (waZ u x z x' z')=aZ (fv u) (fv x) (fv z) (fv x') (fv z'):=by
 obtain ⟨a1,a2⟩:=F9 hx hz hx' ku
 obtain ⟨b1,b2⟩:=Ga hx hz hx' ku
 obtain ⟨c1,c2⟩:=yo a1 b1
 obtain ⟨d1,d2⟩:=jQ c1 c1
 obtain ⟨e1,e2⟩:=jQ hu d1
 exact ⟨e1,by unfold waZ aZ;rw [e2,d2,c2,a2,b2]⟩
end
theorem K8 {u:List Int} (hu:Bd u) (b:Bool) {s:W4} (h:BW s):BW (Iv u b s)∧fvs (Iv u b s)=Rg (fv u) b (fvs s):=by
 cases b with
 |true=>
  have a:=Gb h.x1 h.z1 h.x0 h.z0
  have c:=Gc hu h.x1 h.z1 h.x0 h.z0
  have d:=F7 h.x1 h.z1
  have e:=F8 h.x1 h.z1
  exact ⟨⟨a.1,c.1,d.1,e.1⟩,Prod.ext a.2 (Prod.ext c.2 (Prod.ext d.2 e.2))⟩
 |false=>
  have a:=Gb h.x0 h.z0 h.x1 h.z1
  have c:=Gc hu h.x0 h.z0 h.x1 h.z1
  have d:=F7 h.x0 h.z0
  have e:=F8 h.x0 h.z0
  exact ⟨⟨d.1,e.1,a.1,c.1⟩,Prod.ext d.2 (Prod.ext e.2 (Prod.ext a.2 c.2))⟩
theorem zB:Bd (cF 1)∧fv (cF 1)=1:=by
 obtain ⟨h1,h2⟩:=oE (n:=1) (by decide) (by decide)
 exact ⟨h1,by unfold fv;rw [h2];decide⟩
theorem K9 {u:List Int} (hu:Bd u) (bits:Nat→Bool):∀j,BW (wN u bits j)∧fvs (wN u bits j)=run (fv u) bits (DB (fv u)) j
 |0=>by
  refine ⟨⟨zB.1,Bd.z5,hu,zB.1⟩,?_⟩
  show (fv (cF 1),fv z5,fv u,fv (cF 1))=(1,0,fv u,1)
  rw [zB.2,show fv z5=0 by decide]
 |j+1=>by
  obtain ⟨h1,h2⟩:=K9 hu bits j
  obtain ⟨h3,h4⟩:=K8 hu (bits j) h1
  exact ⟨h3,by rw [wN,h4,h2];rfl⟩
theorem Rh {u:List Int} (hu:Bd u) (bits:Nat→Bool):Bd (F5 u bits)∧fv (F5 u bits)=fin (run (fv u) bits (DB (fv u)) 256):=by
 obtain ⟨h1,h2⟩:=K9 hu bits 256
 obtain ⟨h3,h4⟩:=Ri h1.z0
 obtain ⟨h5,h6⟩:=jQ h1.x0 h3
 rw [F5,aD]
 refine ⟨h5,?_⟩
 rw [h6,h4, ←h2]
 rfl
structure OL (s:L4):Prop where
 x0:kK s.1=true
 z0:kK s.2.1=true
 x1:kK s.2.2.1=true
 z1:kK s.2.2.2=true
noncomputable def vrs (s:L4):S4:=(vR s.1,vR s.2.1,vR s.2.2.1,vR s.2.2.2)
theorem pV (a b:List Int):vR (rA a b)=ma (vR a) (vR b):=uR _
theorem sF (a b:List Int):vR (rS a b)=ms (vR a) (vR b):=uR _
theorem gm (a b:List Int):vR (rM a b)=mm (vR a) (vR b):=uR _
theorem Rj (u k:List Int) (b:Bool) (s:L4):OL (K3 u k b s):=by
 cases b with
 |true=>exact ⟨eR _,eR _,eR _,eR _⟩
 |false=>exact ⟨eR _,eR _,eR _,eR _⟩
theorem adk (x z:List Int):vR (qdX x z)=dX (vR x) (vR z):=by unfold qdX dX;rw [gm,gm,gm,pV,sF]
theorem aiG (x z:List Int):vR (qdE x z)=dE (vR x) (vR z):=by unfold qdE dE;rw [sF,gm,gm,pV,sF]
theorem adl {k:List Int} (hk:vR k=121665) (x z:List Int):vR (qdZ k x z)=dZ (vR x) (vR z):=by unfold qdZ dZ;rw [gm,pV,gm,gm,pV,aiG,hk]
theorem adm (x z x' z':List Int):vR (qaL x z x' z')=aL (vR x) (vR z) (vR x') (vR z'):=by unfold qaL aL;rw [gm,sF,pV]
theorem adn (x z x' z':List Int):vR (qaR x z x' z')=aR (vR x) (vR z) (vR x') (vR z'):=by unfold qaR aR;rw [gm,pV,sF]
theorem ado (x z x' z':List Int):vR (qaX x z x' z')=aX (vR x) (vR z) (vR x') (vR z'):=by unfold qaX aX;rw [gm,pV,adm,adn]
theorem adp (u x z x' z':List Int):vR (qaZ u x z x' z')=aZ (vR u) (vR x) (vR z) (vR x') (vR z'):=by unfold qaZ aZ;rw [gm,gm,sF,adm,adn]
theorem Lb {k:List Int} (hk:vR k=121665) (u:List Int) (b:Bool) (s:L4):vrs (K3 u k b s)=Rg (vR u) b (vrs s):=by
 cases b with
 |true=>
  show (vR (qaX _ _ _ _),vR (qaZ _ _ _ _ _),vR (qdX _ _),vR (qdZ _ _ _))=(_,_,_,_)
  rw [ado,adp,adk,adl hk];rfl
 |false=>
  show (vR (qdX _ _),vR (qdZ _ _ _),vR (qaX _ _ _ _),vR (qaZ _ _ _ _ _))=(_,_,_,_)
  rw [ado,adp,adk,adl hk];rfl
end Go.Proofs.YtibfpjeeanppjaaGreat.La
end
section
namespace Go.Proofs.YtibfpjeeanppjaaGreat.La
open Go Go.Sy Re Fe
noncomputable def Bb (sec:List Int) (n:Int):Int:=fin (run n (fun j=>bt (sn sec) (j+1)) (DB n) 255)
noncomputable def aJ (sec:List Int) (n:Int):List Int:=gY (fY 32 (Bb sec n))
theorem cM (sec:List Int) (n:Int):(aJ sec n).length=32:=by rw [aJ,aD,nF]
theorem kN (sec:List Int) (n:Int):aj (aJ sec n)=true:=bI.2 ⟨cM _ _,by rw [aJ,aD];exact Gd _ _⟩
theorem oF (sec:List Int) (n:Int):0≤Bb sec n∧Bb sec n<Pm:=mod_range _
theorem zD {sec:List Int} (h:aj sec=true):(iD sec).all u8=true∧(iD sec).length=32∧bh (iD sec)/2^255%2=0∧iD sec=clR sec:=by
 obtain ⟨h1,h2⟩:=bI.1 h
 obtain ⟨a,b,c,d⟩:=U7 h2 h1
 rw [iD,aD]
 exact ⟨b,c,d,a⟩
noncomputable def Lc:List SV→Option (SV×List Blk×Bool)
 | [.agg [.ints .u8 32 sec],.agg [.ints .u64 5 u]]=>some (.agg [.ints .u64 5 (F5 u (bt (iD sec)))],[],aj sec)
 |_=>none
noncomputable def Ld:Entry Tryz.prog:=.val 64 _ Tryz.func64 (by decide) rfl false 0 Lc fun vs v new e=>by
 unfold Lc at e
 split at e
 ·simp only [Option.some.injEq,Prod.mk.injEq] at e
  obtain ⟨rfl,rfl,h⟩:=e
  obtain ⟨a,b,_⟩:=zD h
  exact K2 (bI.1 h).1 fun j hj=>Rc a b hj
 ·cases e
theorem yp {sec u:List Int} (h:aj sec=true) (hu:Bd u):fl (F5 u (bt (iD sec)))=aJ sec (fv u):=by
 obtain ⟨h1,h2⟩:=Rh hu (bt (iD sec))
 obtain ⟨_,_,c,_⟩:=zD h
 have hb:bt (iD sec) 0=false:=by
  unfold bt
  rw [show 255-0=255 from rfl,c];rfl
 rw [h1.bytes,h2,XM _ _ hb 254,aJ,aD,Bb,iD,aD]
theorem BG:Bd (cF 9)∧fv (cF 9)=9:=by
 obtain ⟨h1,h2⟩:=oE (n:=9) (by decide) (by decide)
 exact ⟨h1,by unfold fv;rw [h2];decide⟩
noncomputable def pbC:bu:=mk (P:=Tryz.prog) [Ld,Fe.fC,Fe.zE,Fe.Ge] []
theorem XN:ag Tryz.prog pbC:=ah _ au.nil _ _
noncomputable def Gf:List SV→Option (SV×List Blk×Bool)
 | [.agg [.ints .u8 32 sec]]=>some (.agg [.ints .u8 32 (aJ sec 9)],[],aj sec)
 |_=>none
theorem Iw {sec:List Int} (h:aj sec=true):ai Tryz.prog 37 [.agg [.ints .u8 32 sec]] [] (.agg [.ints .u8 32 (aJ sec 9)]) []:=by
 have k:ai Tryz.prog 37 [.agg [.ints .u8 32 sec]] [] (.agg [.ints .u8 32 (fl (F5 (cF 9) (bt (iD sec))))]) []:=
  aF XN 60 Tryz.func37 (p:=aa true (aa true (aj sec))) (by kernel_rfl) (by rw [h];rfl) rfl
 rw [yp h BG.1,BG.2] at k
 exact k
noncomputable def za:Entry Tryz.prog:=.val 37 _ Tryz.func37 (by decide) rfl false 0 Gf fun vs v new e=>by
 unfold Gf at e
 split at e
 ·simp only [Option.some.injEq,Prod.mk.injEq] at e
  obtain ⟨rfl,rfl,h⟩:=e
  exact Iw h
 ·cases e
noncomputable def adq:List SV→Option (SV×List Blk×Bool)
 | [.agg [.ints .u8 32 l]]=>some (.agg [.ints .u8 32 (iD l)],[],aj l)
 |_=>none
theorem XO {l:List Int} (h:aj l=true):ai Tryz.prog 85 [.agg [.ints .u8 32 l]] [] (.agg [.ints .u8 32 (iD l)]) []:=by
 rw [(zD h).2.2.2]
 have hl:=(bI.1 h).1
 exact aF XK 60 Tryz.func85 (p:=aa (aa true (true&&decide (l.length=32))) (true&&decide ((l.set 0 (IntKind.u8.wrap (IntKind.u8.wrap ((l.getD 0 0).tdiv 8)*8))).length=32))) (by kernel_rfl) (by rw [List.length_set,hl];rfl) rfl
noncomputable def aiH:Entry Tryz.prog:=.val 85 _ Tryz.func85 (by decide) rfl false 0 adq fun vs v new e=>by
 unfold adq at e
 split at e
 ·simp only [Option.some.injEq,Prod.mk.injEq] at e
  obtain ⟨rfl,rfl,h⟩:=e
  exact XO h
 ·cases e
noncomputable def aiI:bu:=mk (P:=Tryz.prog) [Re.fC] [] fun i=>if i=7 then some false else none
theorem Gg:ag Tryz.prog aiI:=ah _ au.nil _ _
def Gh:List SV→Option Int
 | [.int .i64 n]=>bif n==9 then some 9 else bif n==121665 then some 121665 else none
 |_=>none
noncomputable def adr (vs:List SV):Option (SV×List Blk×Bool):=(Gh vs).map fun n=>(.agg [.ints .i64 16 (cw n)],[],true)
def sm9:List Int:=9::List.replicate 31 0
def smK:List Int:=56129::1::List.replicate 30 0
theorem Rk:BH sm9=cw 9:=by unfold BH;rw [show sB (gD sm9) 32%Pm=9 by decide]
theorem Rl:BH smK=cw 121665:=by unfold BH;rw [show sB (gD smK) 32%Pm=121665 by decide]
theorem Ix:ai Tryz.prog 54 [.int .i64 9] [] (.agg [.ints .i64 16 (cw 9)]) []:=by
 rw [←Rk]
 exact aF Gg 60 Tryz.func54 (p:=true) (by kernel_rfl) rfl rfl
theorem Iy:ai Tryz.prog 54 [.int .i64 121665] [] (.agg [.ints .i64 16 (cw 121665)]) []:=by
 rw [←Rl]
 exact aF Gg 60 Tryz.func54 (p:=true) (by kernel_rfl) rfl rfl
noncomputable def Gi:Entry Tryz.prog:=.val 54 _ Tryz.func54 (by decide) rfl false 0 adr fun vs v new e=>by
 unfold adr Gh at e
 split at e
 ·rename_i n
  by_cases h1:n=9
  ·subst h1
   cases e
   exact Ix
  ·by_cases h2:n=121665
   ·subst h2
    cases e
    exact Iy
   ·rw [show (n==9)=false by simpa using h1,show (n==121665)=false by simpa using h2] at e
    cases e
 ·cases e
noncomputable def cfC (b:Bool):bu:=mk (P:=Tryz.prog) [Re.vr,Re.KX,Re.sE,Re.XI,Re.zE,aiH,Gi] [] fun i=>if i=32 then some b else none
theorem Lf (b:Bool):ag Tryz.prog (cfC b):=ah _ au.nil _ _
noncomputable def l0 (u:List Int):L4:=(pg,JP,u,pg)
noncomputable def kR:List Int:=cw 121665
theorem D9:vR kR=121665∧kK kR=true:=⟨jh (by decide) (by decide),vL (by decide) (by decide)⟩
theorem zF (sec u:List Int):(aW Tryz.prog (cfC true) 60 0 8 (atoms (aE Tryz.f53)) ⟨aO Tryz.f53.ntmps [.agg [.ints .u8 32 sec],.agg [.ints .i64 16 u]],[],true⟩).bind (St.cut [2,3,4,5,6,7,8,9,10,11] 9)=some {Ba sec u (iD sec) (l0 u) kR 254 with ob:=aa true (aa true (aj sec))}:=by kernel_rfl
noncomputable def qN (u:List Int) (bits:Nat→Bool):Nat→L4
 |0=>l0 u
 |j+1=>K3 u kR (bits j) (qN u bits j)
theorem zG {u:List Int} (hu:kK u=true) (bits:Nat→Bool):∀j,OL (qN u bits j)∧vrs (qN u bits j)=run (vR u) bits (DB (vR u)) j
 |0=>⟨⟨show kK pg=true by decide,show kK JP=true by decide,hu,show kK pg=true by decide⟩,by
  show (vR pg,vR JP,vR u,vR pg)=(1,0,vR u,1)
  rw [show vR pg=1 by decide,show vR JP=0 by decide]⟩
 |j+1=>⟨Rj _ _ _ _,by rw [qN,Lb D9.1,(zG hu bits j).2];rfl⟩
theorem Lg {i:Int} (h0:0≤i) (h1:i<256):qbO i=true:=by
 have e:i.tdiv 8=i/8:=Int.tdiv_eq_ediv_of_nonneg h0
 have e2:i.tmod 8=i%8:=Int.tmod_eq_emod_of_nonneg h0
 have w:IntKind.i64.wrap (i.tdiv 8)=i/8:=by rw [e];exact wrap_i64 _ (by omega) (by omega)
 have w2:IntKind.u64.wrap (i.tmod 8)=i%8:=by rw [e2,wrap_u64];omega
 unfold qbO cL
 rw [w,w2]
 simp only [av,Bool.and_eq_true,decide_eq_true_eq,true_and]
 omega
theorem XP (sec u cl k:List Int) (s:L4) (i:Int) (h:i=-1):Tr Tryz.prog none 0 coB (Ba sec u cl s k i) (.exit 0) (Ba sec u cl s k (-1)):=by
 subst h
 exact Tr.post (Tr.cut (jB false false false) 60 _ 9 (by omega) (XL sec u cl k s (-1)) rfl) (bq.same rfl rfl)
theorem Rm {sec u:List Int} (h:aj sec=true) (hu:kK u=true):Tr Tryz.prog none 0 (aA 8 (aE Tryz.f53)) (Ba sec u (iD sec) (l0 u) kR 254) .normal (Ba sec u (iD sec) (qN u (fun j=>bt (iD sec) (j+1)) 255) kR (-1)):=by
 obtain ⟨a,b,_,_⟩:=zD h
 have key:=Tr.loop (P:=Tryz.prog) (ro:=none) (k:=0) 0 (c:=aA 8 (aE Tryz.f53)) (by kernel_rfl) (fun j:Nat=>Ba sec u (iD sec) (qN u (fun j=>bt (iD sec) (j+1)) j) kR (254-j)) 255 (s':=Ba sec u (iD sec) (qN u (fun j=>bt (iD sec) (j+1)) 255) kR (-1)) (fun j hj=>?_) ?_
 ·exact key
 ·have e1:(254:Int)-j-1=254-((j+1:Nat):Int):=by omega
  have hw:IntKind.i64.wrap (254-(j:Int)-1)=254-((j+1:Nat):Int):=by rw [wrap_i64 _ (by omega) (by omega),e1]
  obtain ⟨o0,o1,o2,o3⟩:=(zG hu (fun j=>bt (iD sec) (j+1)) j).1
  have ho:=Lg (i:=254-(j:Int)) (by omega) (by omega)
  have hq:xS (iD sec) (254-(j:Int))=bh (iD sec)/2^(255-(j+1))%2:=by
   rw [show (254:Int)-j=((255-(j+1):Nat):Int) by omega]
   exact K7 a b (by omega)
  cases hb:bt (iD sec) (j+1) with
  |true=>
   have hq1:xS (iD sec) (254-(j:Int))=1:=by rw [hq];exact of_decide_eq_true hb
   have k:=D8 sec u (iD sec) kR (qN u (fun j=>bt (iD sec) (j+1)) j) (254-j)
   rw [hw,oD (by rw [ho,hq1];rfl) hu D9.2 o2 o3 o0 o1,hq1] at k
   refine Tr.post (Tr.cut (jB true true true) 60 _ 9 (by omega) k rfl) (bq.same rfl ?_)
   show (Ba _ _ _ _ _ _).h=(Ba _ _ _ _ _ _).h
   rw [qN,hb]
  |false=>
   have hq1:¬xS (iD sec) (254-(j:Int))=1:=by rw [hq];exact of_decide_eq_false hb
   have hq2:(xS (iD sec) (254-(j:Int))==1)=false:=by simpa using hq1
   have k:=Q9 sec u (iD sec) kR (qN u (fun j=>bt (iD sec) (j+1)) j) (254-j)
   rw [hw,oD (by rw [ho,hq2];rfl) hu D9.2 o0 o1 o2 o3,hq2] at k
   refine Tr.post (Tr.cut (jB true false false) 60 _ 9 (by omega) k rfl) (bq.same rfl ?_)
   show (Ba _ _ _ _ _ _).h=(Ba _ _ _ _ _ _).h
   rw [qN,hb]
 ·exact XP _ _ _ _ _ _ (by decide)
end Go.Proofs.YtibfpjeeanppjaaGreat.La
end
section
namespace Go.Proofs.YtibfpjeeanppjaaGreat.La
open Go Go.Sy Re Fe
theorem Rn {sec u:List Int} (hu:kK u=true):vR (rM (qN u (fun j=>bt (iD sec) (j+1)) 255).1 (cw (tJ (vR (qN u (fun j=>bt (iD sec) (j+1)) 255).2.1) (Pm-2).toNat)))=Bb sec (vR u):=by
 obtain ⟨h1,h2⟩:=zG hu (fun j=>bt (iD sec) (j+1)) 255
 generalize hq:qN u (fun j=>bt (iD sec) (j+1)) 255=q at h1 h2 ⊢
 have hi:=kO (vR q.2.1) (Pm-2).toNat
 rw [gm,jh hi.1 hi.2]
 have e:Bb sec (vR u)=fin (run (vR u) (fun j=>bt (iD sec) (j+1)) (DB (vR u)) 255):=by unfold Bb iD;rw [aD]
 rw [e, ←h2]
 rfl
noncomputable def U9:List SV→Option (SV×List Blk×Bool)
 | [.agg [.ints .u8 32 sec],.agg [.ints .i64 16 u]]=>some (.agg [.ints .u8 32 (aJ sec (vR u))],[],aj sec&&kK u)
 |_=>none
theorem Ro {sec u:List Int} (h:aj sec=true) (hu:kK u=true):ai Tryz.prog 53 [.agg [.ints .u8 32 sec],.agg [.ints .i64 16 u]] [] (.agg [.ints .u8 32 (aJ sec (vR u))]) []:=by
 have hl:=Rm h hu
 have hv:=Rn (sec:=sec) hu
 have hok:=(zG hu (fun j=>bt (iD sec) (j+1)) 255).1
 generalize qN u (fun j=>bt (iD sec) (j+1)) 255=q at hl hv hok
 unfold aJ
 rw [←hv]
 refine ai.cu (Lf true) 60 9 0 Tryz.func53 (by simp) rfl (fun s' x hh=>?_) (s:=Ba sec u (iD sec) q kR (-1)) (p:=aa (aa (aa true (aa true (kK q.2.1))) (aa true (cH q.1&&cH (cw (tJ (vR q.2.1) (Pm-2).toNat))))) (aa true (cH (rM q.1 (cw (tJ (vR q.2.1) (Pm-2).toNat)))))) (by kernel_rfl) ?_ rfl rfl
 ·refine bf.items (Lf true) 60 8 _ 9 (by simp) (zF sec u) (by rw [h];rfl) (by decide) ?_
  exact bf.item 8 (by decide) hl hh
 ·rw [hok.z0,(eG.1 hok.x0).1,bP,bP];rfl
noncomputable def adt:Entry Tryz.prog:=.val 53 _ Tryz.func53 (by decide) rfl false 0 U9 fun vs v new e=>by
 unfold U9 at e
 split at e
 ·simp only [Option.some.injEq,Prod.mk.injEq,Bool.and_eq_true] at e
  obtain ⟨rfl,rfl,h1,h2⟩:=e
  exact Ro h1 h2
 ·cases e
noncomputable def pqC (x:Bool):bu:=mk (P:=Tryz.prog) [adt,Gi,Re.Ge] [] fun i=>if i=13 then some x else none
theorem nG (x:Bool):ag Tryz.prog (pqC x):=ah _ au.nil _ _
theorem Lh:vR (cw 9)=9∧kK (cw 9)=true:=⟨jh (by decide) (by decide),vL (by decide) (by decide)⟩
noncomputable def BI:List SV→Option (SV×List Blk×Bool)
 | [.agg [.ints .u8 32 sec]]=>some (.agg [.ints .u8 32 (aJ sec 9)],[],aj sec)
 |_=>none
theorem Ea {sec:List Int} (h:aj sec=true):ai Tryz.prog 25 [.agg [.ints .u8 32 sec]] [] (.agg [.ints .u8 32 (aJ sec 9)]) []:=by
 have k:ai Tryz.prog 25 [.agg [.ints .u8 32 sec]] [] (.agg [.ints .u8 32 (aJ sec (vR (cw 9)))]) []:=
  aF (nG true) 60 Tryz.func25 (p:=aa true (aa true (aj sec&&kK (cw 9)))) (by kernel_rfl) (by rw [h,Lh.2];rfl) rfl
 rw [Lh.1] at k
 exact k
noncomputable def vM:Entry Tryz.prog:=.val 25 _ Tryz.func25 (by decide) rfl false 0 BI fun vs v new e=>by
 unfold BI at e
 split at e
 ·simp only [Option.some.injEq,Prod.mk.injEq] at e
  obtain ⟨rfl,rfl,h⟩:=e
  exact Ea h
 ·cases e
def uP (l:List Int):Int:=bh l%57896044618658097711785492504343953926634992332820282019728792003956564819968%Pm
noncomputable def eu (sec bN:List Int):List Int:=aJ sec (uP bN)
theorem Gj {l:List Int} (h:aj l=true):Bd (gn l)∧fv (gn l)=uP l:=by
 obtain ⟨h1,h2⟩:=bI.1 h
 obtain ⟨a,b⟩:=Li h2 h1
 exact ⟨a,by unfold fv uP;rw [b]⟩
theorem Lj (l:List Int):vR (cw (uP l))=uP l∧kK (cw (uP l))=true:=⟨uR _,eR _⟩
def gR:List Int:=List.replicate 32 0
noncomputable def agC (x:Bool):bu:=mk (P:=Tryz.prog) [Ld,Fe.zE,Fe.Ge] [] fun i=>if i=14 then some x else none
theorem Ll (x:Bool):ag Tryz.prog (agC x):=ah _ au.nil _ _
def ec:SV:=.iface 78 (.int .i64 4)
theorem vN {sec bN:List Int} (h:aj sec=true) (hp:aj bN=true):fl (F5 (gn bN) (bt (iD sec)))=eu sec bN:=by
 rw [yp h (Gj hp).1,(Gj hp).2];rfl
theorem ir (sec bN:List Int):(eu sec bN).length=32:=cM _ _
theorem Gk (sec bN:List Int):aj (eu sec bN)=true:=kN _ _
noncomputable def gQ (sec bN:List Int):Bool:=decide (eu sec bN=gR)
noncomputable def Lm (b:Bool):List SV→Option (SV×List Blk×Bool)
 | [.agg [.ints .u8 32 sec],.agg [.ints .u8 32 bN]]=>match b with
  |true=>some (.aT [.agg [.ints .u8 32 gR],ec],[],aj sec&&aj bN&&gQ sec bN)
  |false=>some (.aT [.agg [.ints .u8 32 (eu sec bN)],.nl .nilIface],[],aj sec&&aj bN&&!gQ sec bN)
 |_=>none
theorem Rp {sec bN:List Int} (h:aj sec=true) (hp:aj bN=true) (hz:gQ sec bN=true):ai Tryz.prog 67 [.agg [.ints .u8 32 sec],.agg [.ints .u8 32 bN]] [] (.aT [.agg [.ints .u8 32 gR],ec]) []:=
 aF (Ll true) 60 Tryz.func67 (p:=aa (aa (aa true (aa true (aj sec))) (decide ((fl (F5 (gn bN) (bt (iD sec)))).length=32))) (decide (fl (F5 (gn bN) (bt (iD sec)))=gR))) (by kernel_rfl)
  (by rw [vN h hp,h,decide_eq_true (ir sec bN),decide_eq_true (of_decide_eq_true hz)];rfl) rfl
theorem Rq {sec bN:List Int} (h:aj sec=true) (hp:aj bN=true) (hz:gQ sec bN=false):ai Tryz.prog 67 [.agg [.ints .u8 32 sec],.agg [.ints .u8 32 bN]] [] (.aT [.agg [.ints .u8 32 (eu sec bN)],.nl .nilIface]) []:=by
 have k:ai Tryz.prog 67 [.agg [.ints .u8 32 sec],.agg [.ints .u8 32 bN]] [] (.aT [.agg [.ints .u8 32 (fl (F5 (gn bN) (bt (iD sec))))],.nl .nilIface]) []:=
  aF (Ll false) 60 Tryz.func67 (p:=aa (aa (aa true (aa true (aj sec))) (decide ((fl (F5 (gn bN) (bt (iD sec)))).length=32))) (!decide (fl (F5 (gn bN) (bt (iD sec)))=gR))) (by kernel_rfl)
   (by rw [vN h hp,h,decide_eq_true (ir sec bN),decide_eq_false (of_decide_eq_false hz)];rfl) rfl
 rw [vN h hp] at k
 exact k
noncomputable def vA (b:Bool):Entry Tryz.prog:=.val 67 _ Tryz.func67 (by decide) rfl false 0 (Lm b) fun vs v new e=>by
 unfold Lm at e
 split at e
 ·split at e
  ·simp only [Option.some.injEq,Prod.mk.injEq,Bool.and_eq_true] at e
   obtain ⟨rfl,rfl,⟨h1,h2⟩,h3⟩:=e
   exact Rp h1 h2 h3
  ·simp only [Option.some.injEq,Prod.mk.injEq,Bool.and_eq_true,Bool.not_eq_true'] at e
   obtain ⟨rfl,rfl,⟨h1,h2⟩,h3⟩:=e
   exact Rq h1 h2 h3
 ·cases e
noncomputable def Gl (b:Bool):List SV→Option (SV×List Blk×Bool)
 | [.agg [.ints .u8 32 sec],.agg [.ints .u8 32 bN]]=>match b with
  |true=>some (.aT [.agg [.ints .u8 32 (eu sec bN)],.int .i64 4],[],aj sec&&aj bN&&gQ sec bN)
  |false=>some (.aT [.agg [.ints .u8 32 (eu sec bN)],.int .i64 0],[],aj sec&&aj bN&&!gQ sec bN)
 |_=>none
theorem zH (sec bN:List Int):aJ sec (vR (cw (uP bN)))=eu sec bN:=by rw [(Lj bN).1];rfl
theorem Ln {sec bN:List Int} (h:aj sec=true) (hp:aj bN=true) (hz:gQ sec bN=true):ai Tryz.prog 42 [.agg [.ints .u8 32 sec],.agg [.ints .u8 32 bN]] [] (.aT [.agg [.ints .u8 32 (eu sec bN)],.int .i64 4]) []:=by
 have k:ai Tryz.prog 42 [.agg [.ints .u8 32 sec],.agg [.ints .u8 32 bN]] [] (.aT [.agg [.ints .u8 32 (aJ sec (vR (cw (uP bN))))],.int .i64 4]) []:=
  aF (nG true) 60 Tryz.func42 (p:=aa (aa (aa (aa true (aa true (aj bN))) (aa true (aj sec&&kK (cw (uP bN))))) (decide ((aJ sec (vR (cw (uP bN)))).length=32))) (decide (aJ sec (vR (cw (uP bN)))=gR))) (by kernel_rfl)
   (by rw [zH,h,hp,(Lj bN).2,decide_eq_true (ir sec bN),decide_eq_true (of_decide_eq_true hz)];rfl) rfl
 rw [zH] at k
 exact k
theorem Lo {sec bN:List Int} (h:aj sec=true) (hp:aj bN=true) (hz:gQ sec bN=false):ai Tryz.prog 42 [.agg [.ints .u8 32 sec],.agg [.ints .u8 32 bN]] [] (.aT [.agg [.ints .u8 32 (eu sec bN)],.int .i64 0]) []:=by
 have k:ai Tryz.prog 42 [.agg [.ints .u8 32 sec],.agg [.ints .u8 32 bN]] [] (.aT [.agg [.ints .u8 32 (aJ sec (vR (cw (uP bN))))],.int .i64 0]) []:=
  aF (nG false) 60 Tryz.func42 (p:=aa (aa (aa (aa true (aa true (aj bN))) (aa true (aj sec&&kK (cw (uP bN))))) (decide ((aJ sec (vR (cw (uP bN)))).length=32))) (!decide (aJ sec (vR (cw (uP bN)))=gR))) (by kernel_rfl)
   (by rw [zH,h,hp,(Lj bN).2,decide_eq_true (ir sec bN),decide_eq_false (of_decide_eq_false hz)];rfl) rfl
 rw [zH] at k
 exact k
noncomputable def zc (b:Bool):Entry Tryz.prog:=.val 42 _ Tryz.func42 (by decide) rfl false 0 (Gl b) fun vs v new e=>by
 unfold Gl at e
 split at e
 ·split at e
  ·simp only [Option.some.injEq,Prod.mk.injEq,Bool.and_eq_true] at e
   obtain ⟨rfl,rfl,⟨h1,h2⟩,h3⟩:=e
   exact Ln h1 h2 h3
  ·simp only [Option.some.injEq,Prod.mk.injEq,Bool.and_eq_true,Bool.not_eq_true'] at e
   obtain ⟨rfl,rfl,⟨h1,h2⟩,h3⟩:=e
   exact Lo h1 h2 h3
 ·cases e
end Go.Proofs.YtibfpjeeanppjaaGreat.La
end
section
namespace Go.Proofs.YtibfpjeeanppjaaGreat.La
open Go Go.Sy Re Fe
end Go.Proofs.YtibfpjeeanppjaaGreat.La
end
