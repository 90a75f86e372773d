/- This file has path's renew as a contract, and the runs of path's put. Conditions: trees in form, of 71 nodes at most. -/
import Derived.Test.YthlnlcijnoadcaaGreatDoorGPaD
import Derived.Test.YthlnlcijnoadcaaGreatDoorGMkS
noncomputable section
open Go.Proofs.Tryz
open Go.IntKind (i64 u8 u64 u32)
set_option linter.all false
set_option maxRecDepth 100000
namespace Go.Sy
open Go
theorem bE.Co {k:Nat} {t:List (Option SV)} {h:List Blk} {o o':Bool} (i b:Nat) {z n len cap:Nat} {ex:Bool} {g:Nat->List SV} (hb:k<=b) (GZ:h[b]? =some (.b [.rows z n g])) (hi:t[i]? =some (some (.bK b z len cap ex))) (hlen:len<=n) (h1:(t.set i none).all (hJ b)=true) (h2:dA b (h.set b (.b []))=true):
  bE k ⟨t,h,o⟩ ⟨t.set i (some (.aJ true z len g)),h.set b (.b []),o'⟩:=by
 intro B e w t' hB hl R
 have hlt:b<h.length:=(aal.1 GZ).1
 have hit:i<t.length:=(aal.1 hi).1
 have key:∃e':Env,e'.m=e.m/\e'.n0=e.n0/\e'.y=e.y/\(∀j,e'.r j=if j=b then none else e.r j)/\(∀n o,e.z n=some o->e'.z n=some o)/\
   (∀n c t fr,e'.z n=some (c,t,fr)->w.heap[n]? =some (.cells c t fr))/\(∀n x,e'.z n=some x->e.z n=some x\/B.w.heap.size<=n)/\(∀i p,i≠b->e.r i=some p->e'.z p.n=none)/\
   (∀y,VR e (.bK b z len cap ex) y->VR e' (.aJ true z len g) y):=by
  rcases R.ew b _ GZ with ⟨g1,g2⟩|⟨p,o,g1,g2,c,ty,rfl,g3,g4,g5⟩
  ·refine ⟨e,rfl,rfl,rfl,λj=>?_,λ_ _ h=>h,R.eU,λ_ _ h=>.inl h,λi p _ hi=>R.sep i p hi,λy hy=>?_⟩
   ·split
    ·rename_i q;rw [q,g2]
    ·rfl
   ·rcases hy with ⟨q1,_,a,rfl⟩|⟨p,_,_,q1,_⟩
    ·exact .inl ⟨q1,a,0,rfl,λ_=>rfl⟩
    ·rw [g2] at q1;cases q1
  ·have PK:e.z p.n=none:=R.sep b p g1
   have hnew:B.w.heap.size<=p.n:=by
    rcases R.news b p g1 with q|q
    ·have:=R.kr b p q;omega
    ·exact q
   have JS:∀m o,e.z m=some o->(if m=p.n then some (c,ty,(0,0)) else e.z m)=some o:=λm o h=>by
    rw [aaC (λq=>by rw [q,PK] at h;cases h)];exact h
   obtain ⟨us,zs,q1,q2,q3,q4⟩:=PR.fN.1 g5
   rw [PR] at q3
   subst q3
   rw [aaz] at q4
   have hps:av [SV.rows z n g]=n*z:=by simp [av,gS]
   rw [hps] at q4 g4
   refine ⟨{e with r:=λj=>if j=b then none else e.r j,z:=λm=>if m=p.n then some (c,ty,(0,0)) else e.z m},rfl,rfl,rfl,λj=>rfl,JS,λm c' t' fr hm=>?_,λm x hm=>?_,λi q hi hq=>?_,λy hy=>?_⟩
   ·have hm':(if m=p.n then some (c,ty,(0,0)) else e.z m)=some (c',t',fr):=hm
    split at hm'
    ·rename_i q;cases hm';rw [q];exact g2
    ·exact R.eU m c' t' fr hm'
   ·have hm':(if m=p.n then some (c,ty,(0,0)) else e.z m)=some x:=hm
    split at hm'
    ·rename_i q;right;omega
    ·exact .inl hm'
   ·show (if q.n=p.n then _ else _)=_
    rw [aaC (λh=>hi (R.inj i b q p hq g1 h))]
    exact R.sep i q hq
   ·rcases hy with ⟨h1,_,a,rfl⟩|⟨p',cap',a,h1,rfl,h3,h4,h5,h6,h7⟩
    ·exact .inl ⟨h1,a,0,rfl,λ_=>rfl⟩
    ·rw [g1] at h1
     cases h1
     by_cases hc:cap'=0
     ·subst hc
      exact .inl ⟨by omega,some ⟨p.n,a,none⟩,0,by rw [show len=0 by omega],λ_=>rfl⟩
     ·have ha:=h3 hc
      have hcs:=h7 hc
      refine .inr ⟨p.n,a,cap',c,ty,(0,0),rfl,aaM rfl,λ_=>?_,λi hi=>?_,h6,by omega⟩
      ·show e.n0<=p.n
       have:=R.n0;have:=R.cI;omega
      ·have:=q2 i (by omega)
       rw [<-q4,zi _ (show i<n by omega),aa4] at this
       rw [ha]
       exact PR.mono' (e:=⟨λ_=>none,e.z,e.n0,[],λ_=>none⟩) (e':=⟨λ_=>none,λm=>if m=p.n then some (c,ty,(0,0)) else e.z m,e.n0,[],λ_=>none⟩) JS (aaf _) _ _ (λj q _ h=>by cases h) this
 obtain ⟨e',k1,k2,k3,k4,k5,k6,k7,k8,k9⟩:=key
 have hr:∀j q,j≠b->e.r j=some q->e'.r j=some q:=λj q hj hq=>by rw [k4,aaC hj];exact hq
 have hr':∀j q,e'.r j=some q->j≠b/\e.r j=some q:=λj q hq=>by
  rw [k4] at hq
  split at hq
  ·cases hq
  ·rename_i hj;exact ⟨hj,hq⟩
 have hk:∀j q,B.e.r j=some q->j≠b:=λj q hq h=>by have:=R.kr j q hq;omega
 have gt:∀i x,(h.set b (.b []))[i]? =some x->(i=b/\x= .b [])\/(i≠b/\h[i]? =some x):=λi x hi=>by
  by_cases q:b=i
  ·subst q
   rw [aay hlt] at hi
   cases hi;exact .inl ⟨rfl,rfl⟩
  ·rw [aau q] at hi
   exact .inr ⟨λc=>q c.symm,hi⟩
 have Dz:∀i x,i≠b->h[i]? =some x->(match x with| .b ps=>!c6 b ps| .g (some L)=>L.t.all (hJ b)| .g none=>true)=true:=λi x hne hx=>by
  refine aah.1 h2 x (aaG (i:=i) ?_)
  rw [aau (λq=>hne q.symm)];exact hx
 refine ⟨e',k1,⟨by simpa using hl.1,λj v v' a c=>?_⟩,?_⟩
 ·by_cases hij:i=j
  ·subst hij
   rw [aay hit] at a
   simp only [No] at a
   subst a
   exact k9 v' (hl.2 i _ v' hi c)
  ·rw [aau hij] at a
   have u:=aah.1 h1 (some v) (aaG (i:=j) (by rw [aau hij];exact a))
   exact VR.mono' (e:=e) (e':=e') k5 (by rw [k2];exact aaf _) v v' (λa p hu hp=>hr a p (λq=>by subst q;simp [hJ,hu] at u) hp) (hl.2 j v v' a c)
 ·exact {R with
   inj:=λi j p q hi hj=>R.inj i j p q (hr' i p hi).2 (hr' j q hj).2
   dom:=λi p hi=>by
    have:=R.dom i p (hr' i p hi).2
    simpa using this
   sep:=λi p hi=>k8 i p (hr' i p hi).1 (hr' i p hi).2
   eU:=k6
   bp:=λm x hm=>by
    rcases k7 m x hm with q|q
    ·exact R.bp m x q
    ·exact .inr q
   dU:=λg K xs hg=>(R.dU g K xs hg).imp λc ⟨t,fr,h1,h2⟩=>⟨t,fr,k5 _ _ h1,h2⟩
   news:=λi p hi=>R.news i p (hr' i p hi).2
   bA:=λi p hi=>hr i p (hk i p hi) (R.bA i p hi)
   bM:=λm x hm=>k5 m x (R.bM m x hm)
   n0:=by rw [k2];exact R.n0
   ew:=λi ps hi=>by
    rcases gt i _ hi with ⟨rfl,q⟩|⟨hne,y1⟩
    ·cases q;exact .inl ⟨rfl,by rw [k4,aaM rfl]⟩
    ·have u:=Dz i _ hne y1
     rcases R.ew i ps y1 with ⟨g1,g2⟩|⟨p,o,g1,g2,c,t,rfl,g3,g4,g5⟩
     ·exact .inl ⟨g1,by rw [k4,aaC hne];exact g2⟩
     ·exact .inr ⟨p,_,hr i p hne g1,g2,c,t,rfl,g3,g4,PR.mono' (e:=e) (e':=e') k5 (by rw [k2];exact aaf _) _ _ (λa p hu hp=>hr a p (λq=>by subst q;simp [hu] at u) hp) g5⟩
   gap:=λi g hi=>by
    rcases gt i _ hi with ⟨_,q⟩|⟨hne,y1⟩
    ·cases q
    ·have u:=Dz i _ hne y1
     refine ⟨by rw [k4,aaC hne];exact (R.gap i _ y1).1,(R.gap i _ y1).2.keep (λ_ _ h=>h) (by rw [k3]) λL hL v v' hv DB=>?_⟩
     subst hL
     have:=aah.1 u (some v) hv
     exact VR.mono' (e:=e) (e':=e') k5 (by rw [k2];exact aaf _) v v' (λj p hu hp=>hr j p (λq=>by subst q;simp [hJ,hu] at this) hp) DB
   yi:=by rw [k3];exact R.yi
   yb:=by rw [k3];exact R.yb
   fO:=by have:=R.fO;simpa using this
   fc:=by rw [k1];exact R.fc
   gJ:=by rw [k1];exact R.gJ}
end Go.Sy
namespace Go.Proofs.YthlnlcijnoadcaaGreatDoor.Pa
open Go Go.Sy Tr Mk
def unT (g:Nat->List SV):Nat->Int×Int×Int:=λk=>match g k with
 | [.int _ a,.int _ b,.int _ c]=>(a,b,c)
 |_=>(0,0,0)
def gY (g:Nat->List SV):Nat->List Int:=λk=>match g k with
 | .ints _ _ l::_=>l
 |_=>[]
def Aa (n:Nat) (ks:Nat->List Int):Bool:=(List.range n).all λk=>decide ((ks k).length=32)&&(ks k).all λz=>decide (0<=z)&&decide (z<256)
theorem xz {n:Nat} {ks:Nat->List Int} (h:Aa n ks=true):∀k,k<n->kA (ks k):=λk hk=>by
 have:=aah.1 h k (aan.2 hk)
 simp only [aac,aab,aah] at this
 exact this
def iw (N:Nat) (t:Nat->aj) (i:Int) (ks:Nat->List Int) (leaf:List Int):Nat->aj:=K8 t (aO N).toNat i.toNat (iF N t i) (rN N t i) ks leaf
theorem tZ {N:Nat} {t:Nat->aj} (hT:cF N t) (hb:e9 N t=true) {x:Nat} (hx:x<N):kA (t x).key/\kA (t x).par:=by
 have:=r6 hT hb x hx
 exact ⟨this.key,this.par⟩
theorem D5 {N:Nat} {t:Nat->aj} {i:Int} {ks:Nat->List Int} {leaf:List Int} (hT:cF N t) (h:gm N t i=0) (hb:e9 N t=true) (hk:Aa (iF N t i) ks=true) (hl:leaf.length=32):
  ai prog 69 [.aJ false 99 N (aq t),.int .i64 i,.aJ false 3 (iF N t i) (fK (rN N t i)),.agg [.ints .u8 32 leaf],.aJ false 32 (iF N t i) (gF ks)] [] (.aJ true 99 N (aq (iw N t i ks leaf))) []:=by
 obtain ⟨hc,hu,n,j,hn,hj,rfl,hv,hN,gj⟩:=rj hT h
 obtain ⟨hK,hM⟩:=GU (N:=N) (t:=t) hn hj hv
 have hs:=bu hn
 obtain ⟨l1,l2⟩:=tZ hT hb (show 2*j<N by omega)
 unfold iw
 rw [hv,aaa,aaa]
 exact GY hT hn hj hN hv gj hc hK hM (xz hk) l1 l2 hl
open Classical in
def QL:Entry prog:=.val 69 _ func69 (by decide) rfl true 0 (λvs=>match vs with
 | [.aJ false 99 N g,.int .i64 i,.aJ false 3 M gT,.agg [.ints .u8 32 leaf],.aJ false 32 K gK]=>some (.aJ true 99 N (aq (iw N (ag g) i (gY gK) leaf)),[],bF N g&&decide (N<=71)&&(gm N (ag g) i==0)&&e9 N (ag g)&&decide (M=iF N (ag g) i)&&decide (K=M)&&decide (gT=fK (rN N (ag g) i))&&decide (gK=gF (gY gK))&&Aa M (gY gK)&&decide (leaf.length=32))
 |_=>none) λvs v new e=>by
 split at e
 ·simp only [No,aae,aac,aab,aaS] at e
  obtain ⟨rfl,rfl,⟨⟨⟨⟨⟨⟨⟨⟨h1,h2⟩,h3⟩,h4⟩,rfl⟩,rfl⟩,h7⟩,h8⟩,h9⟩,h10⟩:=e
  have g:=D5 (cF.of h1 h2) h3 h4 h9 h10
  rw [<-h7, <-h8] at g
  exact ai.conv g ⟨VE.tree h1,VE.refl _,VE.refl _,VE.refl _,VE.refl _,trivial⟩ trivial (VE.refl _) trivial
 ·cases e
attribute [local instance low] Classical.propDecidable
def gw (ks:Nat->List Int) (sv:Nat->Nat):Nat->List SV:=λk=>[.ints .u8 32 (ks k),.aJ false 0 (sv k) λ_=>[]]
def lu (u:Bool) (nm:Int) (k sg p un:List Int) (S:Nat) (ks:Nat->List Int) (sv:Nat->Nat):List SV:=[.bool u,.int .i64 nm,.ints .u8 32 k,.ints .u8 32 sg,.ints .u8 32 p,.ro false .i64 un,.aJ false 33 S (gw ks sv)]
def xZ (b:Nat) (l:List (Nat×Bool)):bO:=mk (P:=prog) [tW b,QL] [] (uT l)
theorem ic (b:Nat) (l:List (Nat×Bool)):ak prog (xZ b l):=az _ aL.nil _ _
def EZ:Code:=aP f53
def G0 (N:Nat) (t:Nat->aj) (i:Int) (u:Bool) (nm:Int) (k sg p un:List Int) (S:Nat) (ks:Nat->List Int) (sv:Nat->Nat) (n:Nat) (j:Int):St:=⟨slotsOf 100 [(0,.aJ false 99 N (aq t)),(1,.int .i64 i),(5,.ptr 0 0 0),(9,.aJ true 3 (iF N t i) (fK (rN N t i))),(12,.bK 1 32 n n false),(67,.aJ false 33 S (gw ks sv)),(68,.int .i64 S),(69,.int .i64 j)],[.b (lu u nm k sg p un S ks sv),.b [.rows 32 n (gF ks)]],true⟩
def pu0 (N:Nat) (t:Nat->aj) (i:Int) (S:Nat) (ks:Nat->List Int) (sv:Nat->Nat):List (Option SV):=slotsOf 100 [(0,.aJ false 99 N (aq t)),(1,.int .i64 i),(5,.ptr 0 0 0),(9,.aJ true 3 (iF N t i) (fK (rN N t i))),(12,cT),(67,.aJ false 33 S (gw ks sv)),(68,.int .i64 S),(69,.int .i64 0)]
abbrev E0 (n:Int):SV:=.bC [cT,cT,.iface 112 (.int .i64 n)]
theorem acE (N:Nat) (t:Nat->aj) (i:Int) (u:Bool) (nm:Int) (k sg p un:List Int) (S:Nat) (ks:Nat->List Int) (sv:Nat->Nat):(aG prog (xZ 1 []) 60 f53 [.aJ false 99 N (aq t),.int .i64 i,.agg (lu u nm k sg p un S ks sv)] []).map (λx=>(x.1,x.2.2))=some (E0 3,aa true (aa true ((bF N λi=>af (aq t i))&&decide (N<=71)&&gm N (ag λi=>af (aq t i)) i==1))):=by kernel_rfl
theorem acF (N:Nat) (t:Nat->aj) (i:Int) (u:Bool) (nm:Int) (k sg p un:List Int) (S:Nat) (ks:Nat->List Int) (sv:Nat->Nat):(aG prog (xZ 2 []) 60 f53 [.aJ false 99 N (aq t),.int .i64 i,.agg (lu u nm k sg p un S ks sv)] []).map (λx=>(x.1,x.2.2))=some (E0 9,aa true (aa true ((bF N λi=>af (aq t i))&&decide (N<=71)&&gm N (ag λi=>af (aq t i)) i==2))):=by kernel_rfl
theorem WV (N:Nat) (t:Nat->aj) (i:Int) (u:Bool) (nm:Int) (k sg p un:List Int) (S:Nat) (ks:Nat->List Int) (sv:Nat->Nat):(aG prog (xZ 0 [(34,true),(42,true),(50,true),(57,true),(64,true)]) 60 f53 [.aJ false 99 N (aq t),.int .i64 i,.agg (lu u nm k sg p un S ks sv)] []).map (λx=>(x.1,x.2.2))=some (E0 3,aa (aa (aa (aa true (aa true ((bF N λi=>af (aq t i))&&decide (N<=71)&&gm N (ag λi=>af (aq t i)) i==0))) (aX (i64.wrap (2*i)) N)) (true&&(decide ((i64.wrap (2*i)).toNat<N)&&true))) !u):=by kernel_rfl
theorem WW (N:Nat) (t:Nat->aj) (i:Int) (u:Bool) (nm:Int) (k sg p un:List Int) (S:Nat) (ks:Nat->List Int) (sv:Nat->Nat):(aG prog (xZ 0 [(34,false),(42,true),(50,true),(57,true),(64,true)]) 60 f53 [.aJ false 99 N (aq t),.int .i64 i,.agg (lu u nm k sg p un S ks sv)] []).map (λx=>(x.1,x.2.2))=some (E0 3,aa (aa (aa (aa (aa true (aa true ((bF N λi=>af (aq t i))&&decide (N<=71)&&gm N (ag λi=>af (aq t i)) i==0))) (aX (i64.wrap (2*i)) N)) (true&&(decide ((i64.wrap (2*i)).toNat<N)&&true))) !!u) (nm != (t (i64.wrap (2*i)).toNat).name)):=by kernel_rfl
theorem WX (N:Nat) (t:Nat->aj) (i:Int) (u:Bool) (nm:Int) (k sg p un:List Int) (S:Nat) (ks:Nat->List Int) (sv:Nat->Nat):(aG prog (xZ 0 [(34,false),(42,false),(50,true),(57,true),(64,true)]) 60 f53 [.aJ false 99 N (aq t),.int .i64 i,.agg (lu u nm k sg p un S ks sv)] []).map (λx=>(x.1,x.2.2))=some (E0 3,aa (aa (aa (aa (aa (aa (aa true (aa true ((bF N λi=>af (aq t i))&&decide (N<=71)&&gm N (ag λi=>af (aq t i)) i==0))) (aX (i64.wrap (2*i)) N)) (true&&(decide ((i64.wrap (2*i)).toNat<N)&&true))) !!u) !nm != (t (i64.wrap (2*i)).toNat).name) (aa (decide (sg.length=32)) (decide ((t (i64.wrap (2*i)).toNat).sign.length=32)))) !decide (sg=(t (i64.wrap (2*i)).toNat).sign)):=by kernel_rfl
theorem WY (N:Nat) (t:Nat->aj) (i:Int) (u:Bool) (nm:Int) (k sg p un:List Int) (S:Nat) (ks:Nat->List Int) (sv:Nat->Nat):(aG prog (xZ 0 [(34,false),(42,false),(50,false),(57,true),(64,true)]) 60 f53 [.aJ false 99 N (aq t),.int .i64 i,.agg (lu u nm k sg p un S ks sv)] []).map (λx=>(x.1,x.2.2))=some (E0 3,aa (aa (aa (aa (aa (aa (aa (aa true (aa true ((bF N λi=>af (aq t i))&&decide (N<=71)&&gm N (ag λi=>af (aq t i)) i==0))) (aX (i64.wrap (2*i)) N)) (true&&(decide ((i64.wrap (2*i)).toNat<N)&&true))) !!u) !nm != (t (i64.wrap (2*i)).toNat).name) (aa (decide (sg.length=32)) (decide ((t (i64.wrap (2*i)).toNat).sign.length=32)))) !!decide (sg=(t (i64.wrap (2*i)).toNat).sign)) (decide (((un.length:Nat):Int)>0))):=by kernel_rfl
theorem WZ (N:Nat) (t:Nat->aj) (i:Int) (u:Bool) (nm:Int) (k sg p un:List Int) (S:Nat) (ks:Nat->List Int) (sv:Nat->Nat):(aG prog (xZ 0 [(34,false),(42,false),(50,false),(57,false),(64,true)]) 60 f53 [.aJ false 99 N (aq t),.int .i64 i,.agg (lu u nm k sg p un S ks sv)] []).map (λx=>(x.1,x.2.2))=some (E0 3,aa (aa (aa (aa (aa (aa (aa (aa (aa true (aa true ((bF N λi=>af (aq t i))&&decide (N<=71)&&gm N (ag λi=>af (aq t i)) i==0))) (aX (i64.wrap (2*i)) N)) (true&&(decide ((i64.wrap (2*i)).toNat<N)&&true))) !!u) !nm != (t (i64.wrap (2*i)).toNat).name) (aa (decide (sg.length=32)) (decide ((t (i64.wrap (2*i)).toNat).sign.length=32)))) !!decide (sg=(t (i64.wrap (2*i)).toNat).sign)) !decide (((un.length:Nat):Int)>0)) (((S:Nat):Int) != (((iF N (ag λi=>af (aq t i)) i):Nat):Int))):=by kernel_rfl
theorem acG (N:Nat) (t:Nat->aj) (i:Int) (u:Bool) (nm:Int) (k sg p un:List Int) (S:Nat) (ks:Nat->List Int) (sv:Nat->Nat):aA (ah [0,1,5,9,12,67,68,69] 1 ((aE prog (xZ 0 [(34,false),(42,false),(50,false),(57,false),(64,false)]) 60 0 9 (atoms EZ) ⟨aD f53.ntmps [.aJ false 99 N (aq t),.int .i64 i,.agg (lu u nm k sg p un S ks sv)],[],true⟩).map λs=>(Exit.normal,s)))=some (.normal,pu0 N t i S ks sv,[.b (lu u nm k sg p un S ks sv)]):=by kernel_rfl
theorem W2 (N:Nat) (t:Nat->aj) (i:Int) (u:Bool) (nm:Int) (k sg p un:List Int) (S:Nat) (ks:Nat->List Int) (sv:Nat->Nat):aZ (ah [0,1,5,9,12,67,68,69] 1 ((aE prog (xZ 0 [(34,false),(42,false),(50,false),(57,false),(64,false)]) 60 0 9 (atoms EZ) ⟨aD f53.ntmps [.aJ false 99 N (aq t),.int .i64 i,.agg (lu u nm k sg p un S ks sv)],[],true⟩).map λs=>(Exit.normal,s)))=(aa (aa (aa (aa (aa (aa (aa (aa (aa true (aa true ((bF N λi=>af (aq t i))&&decide (N<=71)&&gm N (ag λi=>af (aq t i)) i==0))) (aX (i64.wrap (2*i)) N)) (true&&(decide ((i64.wrap (2*i)).toNat<N)&&true))) !!u) !nm != (t (i64.wrap (2*i)).toNat).name) (aa (decide (sg.length=32)) (decide ((t (i64.wrap (2*i)).toNat).sign.length=32)))) !!decide (sg=(t (i64.wrap (2*i)).toNat).sign)) !decide (((un.length:Nat):Int)>0)) !((S:Nat):Int) != (((iF N (ag λi=>af (aq t i)) i):Nat):Int)):=by kernel_rfl
theorem acH (N:Nat) (t:Nat->aj) (i:Int) (u:Bool) (nm:Int) (k sg p un:List Int) (S:Nat) (ks:Nat->List Int) (sv:Nat->Nat) (n:Nat) (j:Int):aA (ah [0,1,5,9,12,67,68,69] 2 (exec prog (xZ 0 [(70,true)]) 60 0 (inner (inner (au 9 EZ))) (G0 N t i u nm k sg p un S ks sv n j)))=some (.normal,(G0 N t i u nm k sg p un S ks sv (n+1) (i64.wrap (j+1))).t,[.b (lu u nm k sg p un S ks sv),.b [.rows 32 (n+1) λi=>br (Nat.ble (i+1) n) (gF ks i) [.ints .u8 32 (ks j.toNat)]]]):=by kernel_rfl
theorem W3 (N:Nat) (t:Nat->aj) (i:Int) (u:Bool) (nm:Int) (k sg p un:List Int) (S:Nat) (ks:Nat->List Int) (sv:Nat->Nat) (n:Nat) (j:Int):aZ (ah [0,1,5,9,12,67,68,69] 2 (exec prog (xZ 0 [(70,true)]) 60 0 (inner (inner (au 9 EZ))) (G0 N t i u nm k sg p un S ks sv n j)))=(aa (aa (aa (aa true (decide (j<((S:Nat):Int)))) (aX j S)) (true&&(decide (j.toNat<S)&&true))) (aa (aa true (decide (n<=n))) (decide (n+1<=2^38)))):=by kernel_rfl
theorem acI (N:Nat) (t:Nat->aj) (i:Int) (u:Bool) (nm:Int) (k sg p un:List Int) (S:Nat) (ks:Nat->List Int) (sv:Nat->Nat) (n:Nat) (j:Int):aA (ah [0,1,5,9,12,67,68,69] 2 (exec prog (xZ 0 [(70,false)]) 60 0 (inner (inner (au 9 EZ))) (G0 N t i u nm k sg p un S ks sv n j)))=some (.exit 0,(G0 N t i u nm k sg p un S ks sv n j).t,(G0 N t i u nm k sg p un S ks sv n j).h):=by kernel_rfl
theorem W4 (N:Nat) (t:Nat->aj) (i:Int) (u:Bool) (nm:Int) (k sg p un:List Int) (S:Nat) (ks:Nat->List Int) (sv:Nat->Nat) (n:Nat) (j:Int):aZ (ah [0,1,5,9,12,67,68,69] 2 (exec prog (xZ 0 [(70,false)]) 60 0 (inner (inner (au 9 EZ))) (G0 N t i u nm k sg p un S ks sv n j)))=(aa true !decide (j<((S:Nat):Int))):=by kernel_rfl
def x2 (N:Nat) (t:Nat->aj) (i:Int) (u:Bool) (nm:Int) (sg un:List Int) (S:Nat):Bool:=u&&!(nm != (t (2*i).toNat).name)&&decide (sg=(t (2*i).toNat).sign)&&!decide (((un.length:Nat):Int)>0)&&!(((S:Nat):Int) != ((iF N t i:Nat):Int))
def G1 (N:Nat) (t:Nat->aj) (i:Int) (u:Bool) (nm:Int) (sg un:List Int) (S:Nat) (ks:Nat->List Int) (k p:List Int):Nat:=match gm N t i with
 |0=>bif x2 N t i u nm sg un S then (bif decide ((iw N t i ks k (2*i).toNat).par=p) then 0 else 3) else 1
 |1=>1
 |_=>2
def W5 (N:Nat) (t:Nat->aj) (i:Int) (u:Bool) (nm:Int) (k sg p un:List Int) (S:Nat) (ks:Nat->List Int) (sv:Nat->Nat):St:=⟨slotsOf 100 [(0,.aJ false 99 N (aq t)),(1,.int .i64 i),(5,.ptr 0 0 0),(9,.aJ true 3 (iF N t i) (fK (rN N t i))),(12,.aJ true 32 S (gF ks)),(67,.aJ false 33 S (gw ks sv)),(68,.int .i64 S),(69,.int .i64 S)],[.b (lu u nm k sg p un S ks sv),.b []],true⟩
theorem acJ (N:Nat) (t:Nat->aj) (i:Int) (u:Bool) (nm:Int) (k sg p un:List Int) (S:Nat) (ks:Nat->List Int) (sv:Nat->Nat):aA (ah [6,7,8] 0 (cn prog (xZ 0 [(96,false)]) 60 0 ((atoms EZ).drop 10) (W5 N t i u nm k sg p un S ks sv)))=some (.ret,slotsOf 100 [(6,.aJ true 99 N (aq (iw N t i ks k))),(7,.aJ true 3 (iF N t i) (fK (rN N t i))),(8,.nl .nilIface)],[]):=by kernel_rfl
theorem W6 (N:Nat) (t:Nat->aj) (i:Int) (u:Bool) (nm:Int) (k sg p un:List Int) (S:Nat) (ks:Nat->List Int) (sv:Nat->Nat):aZ (ah [6,7,8] 0 (cn prog (xZ 0 [(96,false)]) 60 0 ((atoms EZ).drop 10) (W5 N t i u nm k sg p un S ks sv)))=(aa (aa (aa (aa (aa true (aa true ((bF N λi=>af (aq t i))&&decide (N<=71)&&gm N (ag λi=>af (aq t i)) i==0&&e9 N (ag λi=>af (aq t i))&&decide (iF N t i=iF N (ag λi=>af (aq t i)) i)&&decide (S=iF N t i)&&decide ((λi_1=>af (fK (rN N t i) i_1))=fK (rN N (ag λi=>af (aq t i)) i))&&decide ((λi=>af (gF ks i))=gF (gY λi=>af (gF ks i)))&&Aa (iF N t i) (gY λi=>af (gF ks i))&&decide (k.length=32)))) (aX (i64.wrap (2*i)) N)) (true&&(decide ((i64.wrap (2*i)).toNat<N)&&true))) (aa (decide ((iw N (ag λi=>af (aq t i)) i (gY λi=>af (gF ks i)) k (i64.wrap (2*i)).toNat).par.length=32)) (decide (p.length=32)))) !!decide ((iw N (ag λi=>af (aq t i)) i (gY λi=>af (gF ks i)) k (i64.wrap (2*i)).toNat).par=p)):=by kernel_rfl
theorem acK (N:Nat) (t:Nat->aj) (i:Int) (u:Bool) (nm:Int) (k sg p un:List Int) (S:Nat) (ks:Nat->List Int) (sv:Nat->Nat):aA (ah [6,7,8] 0 (cn prog (xZ 0 [(96,true)]) 60 0 ((atoms EZ).drop 10) (W5 N t i u nm k sg p un S ks sv)))=some (.ret,slotsOf 100 [(6,cT),(7,cT),(8,.iface 112 (.int .i64 2))],[]):=by kernel_rfl
theorem W7 (N:Nat) (t:Nat->aj) (i:Int) (u:Bool) (nm:Int) (k sg p un:List Int) (S:Nat) (ks:Nat->List Int) (sv:Nat->Nat):aZ (ah [6,7,8] 0 (cn prog (xZ 0 [(96,true)]) 60 0 ((atoms EZ).drop 10) (W5 N t i u nm k sg p un S ks sv)))=(aa (aa (aa (aa (aa true (aa true ((bF N λi=>af (aq t i))&&decide (N<=71)&&gm N (ag λi=>af (aq t i)) i==0&&e9 N (ag λi=>af (aq t i))&&decide (iF N t i=iF N (ag λi=>af (aq t i)) i)&&decide (S=iF N t i)&&decide ((λi_1=>af (fK (rN N t i) i_1))=fK (rN N (ag λi=>af (aq t i)) i))&&decide ((λi=>af (gF ks i))=gF (gY λi=>af (gF ks i)))&&Aa (iF N t i) (gY λi=>af (gF ks i))&&decide (k.length=32)))) (aX (i64.wrap (2*i)) N)) (true&&(decide ((i64.wrap (2*i)).toNat<N)&&true))) (aa (decide ((iw N (ag λi=>af (aq t i)) i (gY λi=>af (gF ks i)) k (i64.wrap (2*i)).toNat).par.length=32)) (decide (p.length=32)))) !decide ((iw N (ag λi=>af (aq t i)) i (gY λi=>af (gF ks i)) k (i64.wrap (2*i)).toNat).par=p)):=by kernel_rfl
section
variable {N:Nat} {t:Nat->aj} {i:Int} {u:Bool} {nm:Int} {k sg p un:List Int} {S:Nat} {ks:Nat->List Int} {sv:Nat->Nat}
abbrev vg (N:Nat) (t:Nat->aj) (i:Int) (u:Bool) (nm:Int) (k sg p un:List Int) (S:Nat) (ks:Nat->List Int) (sv:Nat->Nat):List SV:=[.aJ false 99 N (aq t),.int .i64 i,.agg (lu u nm k sg p un S ks sv)]
theorem qD (hT:cF N t) (h:gm N t i=0):∃x:Nat,i=(x:Int)/\x<32/\2*x<N/\i64.wrap (2*i)=((2*x:Nat):Int)/\(2*i).toNat=2*x:=by
 obtain ⟨_,_,n,j,hn,hj,rfl,_,hN,_⟩:=rj hT h
 have:=bu hn
 exact ⟨j,rfl,by omega,by omega,by rw [cg (by omega) (by omega)];omega,by omega⟩
theorem G2 (hT:cF N t) (h:gm N t i=0) (hs:sg.length=32) (hf:x2 N t i u nm sg un S=false):ai prog 53 (vg N t i u nm k sg p un S ks sv) [] (E0 3) []:=by
 obtain ⟨x,hi,_,hx,w1,w2⟩:=qD hT h
 have hok:bF N (λi=>af (aq t i))=true:=bq hT
 have ht:(ag λi=>af (aq t i))=t:=rfl
 have l:=hT.sign _ hx
 unfold x2 at hf
 rw [w2] at hf
 cases hu:u with
 |false=>
  subst hu
  exact aI (ic _ _) 60 func53 (WV N t i false nm k sg p un S ks sv) (by rw [ht,hok,Me hT.le,w1,bf hx,aaa,Me hx,h];rfl) rfl
 |true=>
 subst hu
 cases h1:(nm != (t (2*x)).name) with
 |true=>exact aI (ic _ _) 60 func53 (WW N t i true nm k sg p un S ks sv) (by rw [ht,hok,Me hT.le,w1,bf hx,aaa,Me hx,h,h1];rfl) rfl
 |false=>
 cases h2:decide (sg=(t (2*x)).sign) with
 |false=>exact aI (ic _ _) 60 func53 (WX N t i true nm k sg p un S ks sv) (by rw [ht,hok,Me hT.le,w1,bf hx,aaa,Me hx,h,h1,h2,Me hs,Me l];rfl) rfl
 |true=>
 cases h3:decide (((un.length:Nat):Int)>0) with
 |true=>exact aI (ic _ _) 60 func53 (WY N t i true nm k sg p un S ks sv) (by rw [ht,hok,Me hT.le,w1,bf hx,aaa,Me hx,h,h1,h2,h3,Me hs,Me l];rfl) rfl
 |false=>
 cases h4:(((S:Nat):Int) != ((iF N t i:Nat):Int)) with
 |true=>exact aI (ic _ _) 60 func53 (WZ N t i true nm k sg p un S ks sv) (by rw [ht,hok,Me hT.le,w1,bf hx,aaa,Me hx,h,h1,h2,h3,h4,Me hs,Me l];rfl) rfl
 |false=>rw [h1,h2,h3,h4] at hf;cases hf
theorem zj (ks:Nat->List Int) (n:Nat):∀i,i<n+1->PE (br (Nat.ble (i+1) n) (gF ks i) [.ints .u8 32 (ks n)]) (gF ks i):=λi hi=>by
 rw [GR]
 by_cases h:i<n
 ·rw [Me h];exact PE.refl _
 ·obtain rfl:i=n:=by omega
  rw [aam h];exact PE.refl _
theorem zk (hT:cF N t) (h:gm N t i=0) (hs:sg.length=32) (hf:x2 N t i u nm sg un S=true) (hS:S<=2^37) {s':St}
  (g:aV prog none 0 ((atoms EZ).drop 10) (W5 N t i u nm k sg p un S ks sv) .ret s'):aV prog none 0 (atoms EZ) ⟨aD f53.ntmps (vg N t i u nm k sg p un S ks sv),[],true⟩ .ret s':=by
 obtain ⟨x,hi,_,hx,w1,w2⟩:=qD hT h
 have hok:bF N (λi=>af (aq t i))=true:=bq hT
 have ht:(ag λi=>af (aq t i))=t:=rfl
 have l:=hT.sign _ hx
 unfold x2 at hf
 simp only [w2,aac,aaY] at hf
 obtain ⟨⟨⟨⟨f1,f2⟩,f3⟩,f4⟩,f5⟩:=hf
 refine aV.bk (ic _ _) 60 9 _ 1 (aap _) (s1:=⟨pu0 N t i S ks sv,[.b (lu u nm k sg p un S ks sv)],true⟩) _ (acG N t i u nm k sg p un S ks sv) (W2 N t i u nm k sg p un S ks sv) (by rw [ht,hok,Me hT.le,w1,bf hx,aaa,Me hx,h,f1,f2,f3,f4,f5,Me hs,Me l];rfl) (by decide) rfl ?_
 refine aV.pre (s1:=G0 N t i u nm k sg p un S ks sv 0 ((0:Nat):Int)) ?_ (bE.xp 12 rfl 32 (gF ks) false) (by intro q;cases q)
 refine aV.item 9 (by decide) (s1:=G0 N t i u nm k sg p un S ks sv S (S:Int)) (Tr.loop 0 (by kernel_rfl) (λj=>G0 N t i u nm k sg p un S ks sv j (j:Int)) S (λj hj=>?_) ?_) ?_
 ·have e:=acH N t i u nm k sg p un S ks sv j j
  rw [cq (by omega),aaa] at e
  exact Tr.post (Tr.aR (ic _ _) 60 _ 2 (aap _) (s':=⟨(G0 N t i u nm k sg p un S ks sv (j+1) ((j+1:Nat):Int)).t,[.b (lu u nm k sg p un S ks sv),.b [.rows 32 (j+1) λi=>br (Nat.ble (i+1) j) (gF ks i) [.ints .u8 32 (ks j)]]],true⟩) _ e (W3 N t i u nm k sg p un S ks sv j j) (by rw [fo hj,bf hj,aaa,Me hj,Me (aaf j),Me (show j+1<=2^38 by omega)];rfl)) (bE.vc ⟨PE.refl _,PE.rows (zj ks j),trivial⟩)
 ·exact Tr.aR (ic _ _) 60 _ 2 (aap _) _ (acI N t i u nm k sg p un S ks sv S S) (W4 N t i u nm k sg p un S ks sv S S) (by rw [fA (aaf _)];rfl)
 ·exact aV.pre g (bE.Co 12 1 (aap _) rfl rfl (aaf _) rfl rfl) (by intro q;cases q)
theorem K9 (hT:cF N t) (hb:e9 N t=true) (h:gm N t i=0) (hs:sg.length=32) (hk:k.length=32) (hp:p.length=32) (hf:x2 N t i u nm sg un S=true) (hS:S<=2^37) (hks:Aa S ks=true):
  (decide ((iw N t i ks k (2*i).toNat).par=p)=true->ai prog 53 (vg N t i u nm k sg p un S ks sv) [] (.bC [.aJ true 99 N (aq (iw N t i ks k)),.aJ true 3 (iF N t i) (fK (rN N t i)),.nl .nilIface]) [])/\
  (decide ((iw N t i ks k (2*i).toNat).par=p)=false->ai prog 53 (vg N t i u nm k sg p un S ks sv) [] (E0 2) []):=by
 obtain ⟨x,hi,_,hx,w1,w2⟩:=qD hT h
 have hok:bF N (λi=>af (aq t i))=true:=bq hT
 have ht:(ag λi=>af (aq t i))=t:=rfl
 have hM:S=iF N t i:=by
  unfold x2 at hf
  simp only [aac,aaY,bne_eq_false_iff_eq] at hf
  have:=hf.2
  omega
 have hl:(iw N t i ks k (2*x)).par.length=32:=by
  obtain ⟨_,_,n,j,hn,hj,hij,hv,hN,_⟩:=rj hT h
  have:j=x:=by omega
  subst this
  unfold iw K8 c7
  rw [hi,hv,aaa,aaa,aaM rfl]
  exact (tX ..).1
 have c1:(gY λi=>af (gF ks i))=ks:=rfl
 have c2:decide ((λi_1=>af (fK (rN N t i) i_1))=fK (rN N t i))=true:=Me rfl
 have c3:decide ((λi=>af (gF ks i))=gF ks)=true:=Me rfl
 rw [w2]
 refine ⟨λhq=>?_,λhq=>?_⟩
 ·refine ai.mk (vs:=[.aJ true 99 N (aq (iw N t i ks k)),.aJ true 3 (iF N t i) (fK (rN N t i)),.nl .nilIface]) func53 rfl (x:=.ret) (s:=⟨slotsOf 100 [(6,.aJ true 99 N (aq (iw N t i ks k))),(7,.aJ true 3 (iF N t i) (fK (rN N t i))),(8,.nl .nilIface)],[],true⟩) (zk hT h hs hf hS ?_) (.inl rfl) (by kernel_rfl)
  refine aV.og (ic _ _) 60 _ 0 (aap _) _ (acJ N t i u nm k sg p un S ks sv) (W6 N t i u nm k sg p un S ks sv) ?_ (by intro q;cases q)
  rw [ht,c1,c2,c3,hok,hb,h,w1,aaa,bf hx,hq,Me hl,Me hk,Me hp,Me hx,Me hT.le,Me hM,Me (Eq.refl (iF N t i)), <-hM,hks];rfl
 ·refine ai.mk (vs:=[cT,cT,.iface 112 (.int .i64 2)]) func53 rfl (x:=.ret) (s:=⟨slotsOf 100 [(6,cT),(7,cT),(8,.iface 112 (.int .i64 2))],[],true⟩) (zk hT h hs hf hS ?_) (.inl rfl) (by kernel_rfl)
  refine aV.og (ic _ _) 60 _ 0 (aap _) _ (acK N t i u nm k sg p un S ks sv) (W7 N t i u nm k sg p un S ks sv) ?_ (by intro q;cases q)
  rw [ht,c1,c2,c3,hok,hb,h,w1,aaa,bf hx,hq,Me hl,Me hk,Me hp,Me hx,Me hT.le,Me hM,Me (Eq.refl (iF N t i)), <-hM,hks];rfl
def puV (b N:Nat) (t:Nat->aj) (i:Int) (ks:Nat->List Int) (k:List Int):SV:=match b with
 |0=>.bC [.aJ true 99 N (aq (iw N t i ks k)),.aJ true 3 (iF N t i) (fK (rN N t i)),.nl .nilIface]
 |1=>E0 3
 |2=>E0 9
 |_=>E0 2
theorem QM (hT:cF N t) (hb:e9 N t=true) (hs:sg.length=32) (hk:k.length=32) (hp:p.length=32) (hS:S<=2^37) (hks:Aa S ks=true):ai prog 53 (vg N t i u nm k sg p un S ks sv) [] (puV (G1 N t i u nm sg un S ks k p) N t i ks k) []:=by
 have hok:bF N (λi=>af (aq t i))=true:=bq hT
 have ht:(ag λi=>af (aq t i))=t:=rfl
 unfold G1
 cases hw:gm N t i with
 |zero=>
  cases hf:x2 N t i u nm sg un S with
  |false=>exact G2 hT hw hs hf
  |true=>
   obtain ⟨g1,g2⟩:=K9 (sv:=sv) hT hb hw hs hk hp hf hS hks
   cases hq:decide ((iw N t i ks k (2*i).toNat).par=p) with
   |true=>exact g1 hq
   |false=>exact g2 hq
 |succ w=>
  cases w with
  |zero=>exact aI (ic _ _) 60 func53 (acE N t i u nm k sg p un S ks sv) (by rw [ht,hok,Me hT.le,hw];rfl) rfl
  |succ w=>
   have:gm N t i=2:=by
    have:gm N t i<=2:=by unfold gm;cases aM N t<;>cases rL N t i<;>decide
    omega
   exact aI (ic _ _) 60 func53 (acF N t i u nm k sg p un S ks sv) (by rw [ht,hok,Me hT.le,this];rfl) rfl
end
end Go.Proofs.YthlnlcijnoadcaaGreatDoor.Pa
