/- This file holds the texts PaA, PaP, a section each. No conditions beyond those in the theorems. -/
import Derived.Test.YthlnlcijnoadcaaGreatDoorGMkS
import Derived.Test.YthlnlcijnoadcaaGreatDoorGTrT
noncomputable section
open Go.Proofs.Tryz
open Go.IntKind (i64 u8 u64 u32)
set_option linter.all false
set_option maxRecDepth 100000
section
namespace Go.Proofs.YthlnlcijnoadcaaGreatDoor.Pa
open Go Go.Sy Tr
def bZ (x n:Int):Int:=bif decide (eD x n<0) then-1 else aN (eD x n)+aH (eD x n)-x
def sbC:bO:=mk (P:=prog) [r7,gD] []
theorem QZ:ak prog sbC:=az _ aL.nil _ _
theorem Lv:(sizes.all λn=>(List.range (2*n-1)).all λx=>x6 (bZ x n) (aG prog sbC 60 f104 [.int .i64 x,.int .i64 n] []))=true:=by kernel_rfl
theorem A5 {x n:Int} (h:aQ x n=true):ai prog 104 [.int .i64 x,.int .i64 n] [] (.int .i64 (bZ x n)) []:=by
 obtain ⟨m,hm,y,rfl,rfl,hy⟩:=eR h
 have h:=aah.1 (aah.1 Lv m hm) y (aan.2 hy)
 exact aI QZ 60 func104 (r8 h) rfl rfl
def WA:Entry prog:=.val 104 _ func104 (by decide) rfl false 0 (λvs=>match vs with
 | [.int .i64 x,.int .i64 n]=>some (.int .i64 (bZ x n),[],aQ x n)
 |_=>none) λvs v new e=>by
 split at e
 ·simp only [No,aae] at e
  obtain ⟨rfl,rfl,h⟩:=e
  exact A5 h
 ·cases e
def rL (N:Nat) (t:Nat->aj) (i:Int):Bool:=decide (i>=0)&&decide (i<32)&&decide (2*i<((N:Nat):Int))&&(t (2*i).toNat).used
def oG (l:List (Nat×Bool)):bO:=mk (P:=prog) [] [] (uT l)
theorem dN (l:List (Nat×Bool)):ak prog (oG l):=az _ aL.nil _ _
theorem ado (N:Nat) (t:Nat->aj) (i:Int):(aG prog (oG [(7,false),(11,false),(18,false)]) 60 f89 [.aJ false 99 N (aq t),.int .i64 i] []).map (λx=>(x.1,x.2.2))=some (.bool false,aa true !decide (i>=0)):=by kernel_rfl
theorem adp (N:Nat) (t:Nat->aj) (i:Int):(aG prog (oG [(7,true),(11,false),(18,false)]) 60 f89 [.aJ false 99 N (aq t),.int .i64 i] []).map (λx=>(x.1,x.2.2))=some (.bool false,aa (aa true (decide (i>=0))) !decide (i<32)):=by kernel_rfl
theorem adq (N:Nat) (t:Nat->aj) (i:Int):(aG prog (oG [(7,true),(11,true),(18,false)]) 60 f89 [.aJ false 99 N (aq t),.int .i64 i] []).map (λx=>(x.1,x.2.2))=some (.bool false,aa (aa (aa true (decide (i>=0))) (decide (i<32))) !decide (i64.wrap (2*i)<((N:Nat):Int))):=by kernel_rfl
theorem adr (N:Nat) (t:Nat->aj) (i:Int):(aG prog (oG [(7,true),(11,true),(18,true)]) 60 f89 [.aJ false 99 N (aq t),.int .i64 i] []).map (λx=>(x.1,x.2.2))=some (.bool (t (i64.wrap (2*i)).toNat).used,aa (aa (aa (aa (aa true (decide (i>=0))) (decide (i<32))) (decide (i64.wrap (2*i)<((N:Nat):Int)))) (aX (i64.wrap (2*i)) N)) (true&&(decide ((i64.wrap (2*i)).toNat<N)&&true))):=by kernel_rfl
theorem Hs {N:Nat} {t:Nat->aj} {i:Int}:ai prog 89 [.aJ false 99 N (aq t),.int .i64 i] [] (.bool (rL N t i)) []:=by
 unfold rL
 by_cases h1:i>=0
 ·by_cases h2:i<32
  ·have w:i64.wrap (2*i)=2*i:=cg (by omega) (by omega)
   by_cases h3:2*i<((N:Nat):Int)
   ·have e:=adr N t i
    rw [w] at e
    rw [Me h1,Me h2,Me h3,abb,abb,abb]
    refine aI (dN _) 60 func89 e ?_ rfl
    obtain ⟨y,rfl⟩:=aaB h1
    rw [Me h1,Me h2,Me h3,show 2*((y:Nat):Int)=((2*y:Nat):Int) by omega,bf (show 2*y<N by omega),aaa,Me (show 2*y<N by omega)]
    rfl
   ·rw [aam h3,acC,adw]
    exact aI (dN _) 60 func89 (adq N t i) (by rw [w,Me h1,Me h2,aam h3];rfl) rfl
  ·rw [aam h2,acC,adw,adw]
   exact aI (dN _) 60 func89 (adp N t i) (by rw [Me h1,aam h2];rfl) rfl
 ·rw [aam h1]
  exact aI (dN _) 60 func89 (ado N t i) (by rw [aam h1];rfl) rfl
def QF (b:Bool):Entry prog:=.val 89 _ func89 (by decide) rfl true 0 (λvs=>match vs with
 | [.aJ false 99 N g,.int .i64 i]=>some (.bool b,[],bF N g&&(rL N (ag g) i==b))
 |_=>none) λvs v new e=>by
 split at e
 ·simp only [No,aae,aac,aaS] at e
  obtain ⟨rfl,rfl,h1,h2⟩:=e
  rw [<-h2]
  exact ai.conv Hs ⟨VE.tree h1,VE.refl _,trivial⟩ trivial (VE.refl _) trivial
 ·cases e
end Go.Proofs.YthlnlcijnoadcaaGreatDoor.Pa
end
section
namespace Go.Proofs.YthlnlcijnoadcaaGreatDoor.Pa
open Go Go.Sy Tr Wi S2 Mk
def de (n x:Int):Nat->Int
 |0=>x
 |k+1=>bG n x k
def fresh (k p:List Int):aj:=⟨true,0,k,Mk.cH,p,[]⟩
def kA (l:List Int):Prop:=l.length=32/\∀z∈l,0<=z/\z<256
def NU (v:aj):Prop:=v=eX\/∃k p,v=fresh k p/\kA k/\kA p
structure PW (t u:Nat->aj) (n j:Nat):Prop where
 on:∀a,a<bt n->NU (u (bG n (2*(j:Int)) a).toNat)
 off:∀y:Nat,(∀a,a<bt n->bG n (2*(j:Int)) a≠(y:Int))->y≠2*j->u y=t y
 leaf:∃k p,u (2*j)={t (2*j) with key:=k,par:=p}/\kA k/\kA p
def ads (n j:Nat):Bool:=(List.range (bt n)).all λa=>
 decide (0<=bG n (2*(j:Int)) a)&&decide (bG n (2*(j:Int)) a<((2*n-1:Nat):Int))&&decide ((bG n (2*(j:Int)) a).toNat%2=1)&&
 decide (0<=bZ (de n (2*(j:Int)) a) n)&&decide (bZ (de n (2*(j:Int)) a) n<((2*n-1:Nat):Int))&&decide (0<=de n (2*(j:Int)) a)&&(de n (2*(j:Int)) a==aN (bG n (2*(j:Int)) a)||de n (2*(j:Int)) a==aH (bG n (2*(j:Int)) a))&&
 (aN (bG n (2*(j:Int)) a)+aH (bG n (2*(j:Int)) a)-de n (2*(j:Int)) a==bZ (de n (2*(j:Int)) a) n)&&
 ((List.range (bt n)).all λb=>(decide (a=b)||bG n (2*(j:Int)) b != bG n (2*(j:Int)) a)&&(decide ((bG n (2*(j:Int)) b).toNat+2^iM 7 (bZ (de n (2*(j:Int)) a) n).toNat<=(bZ (de n (2*(j:Int)) a) n).toNat)||decide ((bZ (de n (2*(j:Int)) a) n).toNat+2^iM 7 (bZ (de n (2*(j:Int)) a) n).toNat<=(bG n (2*(j:Int)) b).toNat)))&&
 (decide (2*j+2^iM 7 (bZ (de n (2*(j:Int)) a) n).toNat<=(bZ (de n (2*(j:Int)) a) n).toNat)||decide ((bZ (de n (2*(j:Int)) a) n).toNat+2^iM 7 (bZ (de n (2*(j:Int)) a) n).toNat<=2*j))
theorem Lw:(sizes.all λn=>(List.range n).all λj=>ads n j)=true:=by decide+kernel
structure adt (n j a:Nat):Prop where
 nn:0<=bG n (2*(j:Int)) a
 lt:bG n (2*(j:Int)) a<((2*n-1:Nat):Int)
 GX:(bG n (2*(j:Int)) a).toNat%2=1
 s0:0<=bZ (de n (2*(j:Int)) a) n
 s1:bZ (de n (2*(j:Int)) a) n<((2*n-1:Nat):Int)
 c0:0<=de n (2*(j:Int)) a
 kid:de n (2*(j:Int)) a=aN (bG n (2*(j:Int)) a)\/de n (2*(j:Int)) a=aH (bG n (2*(j:Int)) a)
 sib:aN (bG n (2*(j:Int)) a)+aH (bG n (2*(j:Int)) a)-de n (2*(j:Int)) a=bZ (de n (2*(j:Int)) a) n
 ne:∀b,b<bt n->a≠b->bG n (2*(j:Int)) b≠bG n (2*(j:Int)) a
 far:∀b,b<bt n->(bG n (2*(j:Int)) b).toNat+2^iM 7 (bZ (de n (2*(j:Int)) a) n).toNat<=(bZ (de n (2*(j:Int)) a) n).toNat\/(bZ (de n (2*(j:Int)) a) n).toNat+2^iM 7 (bZ (de n (2*(j:Int)) a) n).toNat<=(bG n (2*(j:Int)) b).toNat
 adu:2*j+2^iM 7 (bZ (de n (2*(j:Int)) a) n).toNat<=(bZ (de n (2*(j:Int)) a) n).toNat\/(bZ (de n (2*(j:Int)) a) n).toNat+2^iM 7 (bZ (de n (2*(j:Int)) a) n).toNat<=2*j
theorem ep {n j a:Nat} (hn:n∈sizes) (hj:j<n) (ha:a<bt n):adt n j a:=by
 have h:=aah.1 (aah.1 (aah.1 Lw n hn) j (aan.2 hj)) a (aan.2 ha)
 simp only [aac,adS,aab,aaS,bne_iff_ne,ne_eq,aah,aan] at h
 obtain ⟨⟨⟨⟨⟨⟨⟨⟨⟨h1,h2⟩,h3⟩,h4⟩,h5⟩,h6⟩,h7⟩,h8⟩,h9⟩,h10⟩:=h
 exact ⟨h1,h2,h3,h4,h5,h6,h7,h8,λb hb hne=>((h9 b hb).1.resolve_left hne),λb hb=>(h9 b hb).2,h10⟩
theorem Ht:(sizes.all λn=>(List.range n).all λi=>(List.range n).all λj=>(List.range (bt n)).all λa=>(List.range (bt n)).all λb=>decide (a=b)||bG n (2*(i:Int)) a != bG n (2*(j:Int)) b)=true:=by decide+kernel
theorem Lx {n i j a b k:Nat} (hn:n∈sizes) (hi:i<n) (hj:j<n) (ha:a<bt n) (hb:b<bt n) (h:bG n (2*(i:Int)) a=bG n (2*(j:Int)) b) (hk:a<=k):bG n (2*(i:Int)) k=bG n (2*(j:Int)) k:=by
 have q:=aah.1 (aah.1 (aah.1 (aah.1 (aah.1 Ht n hn) i (aan.2 hi)) j (aan.2 hj)) a (aan.2 ha)) b (aan.2 hb)
 rw [h] at q
 have hab:a=b:=by simpa using q
 subst hab
 obtain ⟨d,rfl⟩:=Nat.exists_eq_add_of_le hk
 induction d with
 |zero=>exact h
 |succ d ih=>
  show eD (bG n (2*(i:Int)) (a+d)) n=eD (bG n (2*(j:Int)) (a+d)) n
  rw [ih (by omega)]
section
variable {t u:Nat->aj} {N n j:Nat}
theorem PW.ev (h:PW t u n j) (hn:n∈sizes) (hj:j<n) {y:Nat} (hy:y%2=0):(u y).used=(t y).used/\(u y).name=(t y).name/\(u y).un=(t y).un:=by
 by_cases e:y=2*j
 ·subst e
  obtain ⟨k,p,e,_⟩:=h.leaf
  rw [e];exact ⟨rfl,rfl,rfl⟩
 ·rw [h.off y (λa ha q=>by have:=(ep hn hj ha).GX;rw [q,aaa] at this;omega) e];exact ⟨rfl,rfl,rfl⟩
theorem PW.each (h:PW t u n j) {P:aj->Prop} (hz:P eX) (hf:∀k p,kA k->kA p->P (fresh k p)) (hl:∀k p,kA k->kA p->P {t (2*j) with key:=k,par:=p}) (ht:∀i,i<N->P (t i)):∀i,i<N->P (u i):=λi hi=>by
 by_cases Ly:∃a,a<bt n/\bG n (2*(j:Int)) a=(i:Int)
 ·obtain ⟨a,ha,e⟩:=Ly
  have:=h.on a ha
  rw [e,aaa] at this
  rcases this with q|⟨k,p,q,q1,q2⟩
  ·rw [q];exact hz
  ·rw [q];exact hf k p q1 q2
 ·by_cases e:i=2*j
  ·subst e
   obtain ⟨k,p,e,q1,q2⟩:=h.leaf
   rw [e];exact hl k p q1 q2
  ·rw [h.off i (λa ha q=>Ly ⟨a,ha,q⟩) e];exact ht i hi
theorem PW.tok (h:PW t u n j) (hn:n∈sizes) (hj:j<n) (hN:N=2*n-1) (hT:cF N t):cF N u:=by
 have hs:=bu hn
 have q:=h.each (N:=N) (P:=λv=>v.un.length<=274877906944/\v.key.length=32/\v.sign.length=32/\v.par.length=32) (by simp [eX]) (λk p a b=>⟨by simp [fresh],a.1,by simp [fresh],b.1⟩) (λk p a b=>⟨hT.un _ (by omega),a.1,hT.sign _ (by omega),b.1⟩) λi hi=>⟨hT.un i hi,hT.key i hi,hT.sign i hi,hT.par i hi⟩
 exact ⟨hT.le,λi hi=>(q i hi).1,λi hi=>(q i hi).2.1,λi hi=>(q i hi).2.2.1,λi hi=>(q i hi).2.2.2⟩
theorem ng {l:List Int} (h:∀z∈l,0<=z/\z<256):l.all (λz=>decide (0<=z)&&decide (z<256))=true:=aah.2 λz hz=>by have:=h z hz;simp;omega
theorem Cl:kA Mk.cH:=⟨by simp,λz hz=>by have:=List.eq_of_mem_replicate hz;omega⟩
theorem PW.byt (h:PW t u n j) (hn:n∈sizes) (hj:j<n) (hN:N=2*n-1) (hb:e9 N t=true):e9 N u=true:=by
 have hs:=bu hn
 refine aah.2 λi hi=>h.each (N:=N) (P:=λv=>(((((v.key.all λz=>decide (0<=z)&&decide (z<256))&&(v.sign.all λz=>decide (0<=z)&&decide (z<256)))&&(v.par.all λz=>decide (0<=z)&&decide (z<256)))&&decide ((Lit.int .i64 v.name).wf=true))&&v.un.all λz=>(Lit.int .i64 z).wf)=true) ?_ (λk p a b=>?_) (λk p a b=>?_) (λi hi=>aah.1 hb i (aan.2 hi)) i (aan.1 hi)
 ·decide
 ·show _=true
  simp only [fresh,ng a.2,ng b.2,ng Cl.2];rfl
 ·have q:=aah.1 hb (2*j) (aan.2 (by omega))
  simp only [aac] at q ⊢
  obtain ⟨⟨⟨⟨_,q2⟩,_⟩,q4⟩,q5⟩:=q
  exact ⟨⟨⟨⟨ng a.2,q2⟩,ng b.2⟩,q4⟩,q5⟩
theorem zp {b:Nat->Bool} {N i:Nat} (hi:i<N) (h:b i=false) (ha:∀k,k<i->b k=true):b6 b N=some i:=by
 cases q:b6 b N with
 |none=>rw [cS q i hi] at h;cases h
 |some m=>
  obtain ⟨_,g2,g3⟩:=cX q
  rcases Nat.lt_trichotomy m i with w|w|w
  ·rw [ha m w] at g2;cases g2
  ·rw [w]
  ·rw [g3 i w] at h;cases h
theorem PW.btw (h:PW t u n j) (hn:n∈sizes) (hj:j<n) {x:Int} (hx:∀a,a<bt n->bG n (2*(j:Int)) a≠x) {i:Nat} (hi:i<n) (hb:pQ t x i n=true):pQ u x i n=true:=by
 unfold pQ bP at hb ⊢
 cases hq:b6 (A6 t x i n) (bt n) with
 |none=>rw [hq] at hb;cases hb
 |some k=>
  rw [hq] at hb
  obtain ⟨hk,h1,h2⟩:=cX hq
  have hxk:bG n (2*(i:Int)) k=x:=eq_of_beq hb
  have same:∀k',k'<=k->A6 u x i n k'=A6 t x i n k':=λk' hk'=>by
   have w:=ep hn hi (show k'<bt n by omega)
   obtain ⟨y,hy⟩:=aaB w.nn
   have e:u (bG n (2*(i:Int)) k').toNat=t (bG n (2*(i:Int)) k').toNat:=by
    refine h.off _ (λb hb' q=>?_) (λq=>by have:=w.GX;omega)
    rw [hy,aaa, <-hy] at q
    exact hx k hk ((Lx hn hi hj (by omega) hb' q.symm hk').symm.trans hxk)
   unfold A6
   rw [e]
  rw [zp hk ((same k (aaf _)).trans h1) λk' hk'=>(same k' (by omega)).trans (h2 k' hk')]
  exact hb
theorem PW.nm (h:PW t u n j) (hn:n∈sizes) (hj:j<n):∀i,lS u i=lS t i:=by
 intro i
 induction i with
 |zero=>rfl
 |succ i ih=>
  unfold lS
  rw [ih]
  by_cases e:i%2=0
  ·obtain ⟨a,b,_⟩:=h.ev hn hj e
   rw [a,b]
  ·rw [show (i%2==0)=false from beq_false_of_ne e,acC,acC];rfl
theorem PW.good (h:PW t u n j) (hn:n∈sizes) (hj:j<n) (gj:(t (2*j)).used=true) {x:Nat} (hx:x<2*n-1) (hg:eW t n x=true):eW u n x=true:=by
 by_cases Ly:∃a,a<bt n/\bG n (2*(j:Int)) a=(x:Int)
 ·obtain ⟨a,ha,e⟩:=Ly
  have w:=ep hn hj ha
  have:=h.on a ha
  have od:=w.GX
  rw [e,aaa] at this od
  unfold eW
  rcases this with q|⟨k,p,q,_⟩
  ·rw [q];show om eX=true;decide
  ·have:dZ u x n=true:=by
    unfold dZ
    rw [aaa,q]
    have:decide (Mk.cH=List.replicate 32 0)=true:=Me rfl
    simp only [fresh,eS,this];rfl
   rw [this,q,show (x%2==0)=false from beq_false_of_ne (by omega)];rfl
 ·have hoff:∀a,a<bt n->bG n (2*(j:Int)) a≠(x:Int):=λa ha q=>Ly ⟨a,ha,q⟩
  by_cases hp:x%2=0
  ·obtain ⟨a,b,c⟩:=h.ev hn hj hp
   unfold eW at hg ⊢
   rw [h.nm hn hj,a,b,c,show (x%2==0)=true from aaS.2 hp] at*
   by_cases e:x=2*j
   ·subst e;rw [gj] at hg ⊢;exact hg
   ·rw [h.off x hoff e];exact hg
  ·have e:=h.off x hoff (by omega)
   have eq:=e
   unfold eW at hg ⊢
   rw [show (x%2==0)=false from beq_false_of_ne hp] at hg ⊢
   rw [e]
   cases hu:(t x).used with
   |false=>rw [hu] at hg;exact hg
   |true=>
    rw [hu] at hg
    have hg:dZ t x n=true:=hg
    show dZ u x n=true
    obtain ⟨b1,b2⟩:=tJ hn hx hg
    unfold dZ at hg ⊢
    rw [aaa] at hg
    rw [aaa,eq]
    simp only [aac,aah] at hg ⊢
    refine ⟨hg.1,λi hi=>?_⟩
    have g:=hg.2 i hi
    have hl:=aan.1 hi
    have m:=b1 _ (List.getElem_mem hl)
    rw [<-bY hl] at m
    unfold A7 at g ⊢
    simp only [aac] at g ⊢
    obtain ⟨⟨g1,g2⟩,g3⟩:=g
    refine ⟨⟨g1,?_⟩,h.btw hn hj hoff (by omega) g3⟩
    rw [(h.ev hn hj (y:=(2*(t x).un.getD i 0).toNat) (by omega)).1];exact g2
theorem PW.check (h:PW t u n j) (hn:n∈sizes) (hj:j<n) (hN:N=2*n-1) (hv:aO N=n) (gj:(t (2*j)).used=true) (hc:aM N t=true):aM N u=true:=by
 unfold aM at hc ⊢
 rw [hv,aaa] at*
 simp only [aac,aah] at hc ⊢
 obtain ⟨h1,h2,h3⟩:=hc
 refine ⟨h1,λx hx=>h.good hn hj gj (by have:=aan.1 hx;omega) (h2 x hx),?_⟩
 rw [<-h3]
 unfold dy
 congr 2
 funext i
 rw [(h.ev hn hj (by omega)).1]
theorem PW.dig (h:PW t u n j) (hn:n∈sizes) (hj:j<n) {a:Nat} (ha:a<bt n):cr u [] (bZ (de n (2*(j:Int)) a) n)=cr t [] (bZ (de n (2*(j:Int)) a) n):=by
 have w:=ep hn hj ha
 unfold cr
 refine GH t u [] _ _ λz h1 h2=>h.off z (λb hb q=>?_) λq=>?_
 ·have f:=w.far b hb
  rw [q,aaa] at f
  omega
 ·have f:=w.adu
  omega
def AY (t:Nat->aj) (key par:List Int) (s:Int):List Int:=dB [[3],key,par,cr t [] s].flatten
theorem PW.mark (h:PW t u n j) (hn:n∈sizes) (hj:j<n) (hN:N=2*n-1) (hv:aO N=n) (gj:(t (2*j)).used=true) (hc:aM N t=true) {a:Nat} (ha:a<bt n) {key par:List Int} (hf:u (bG n (2*(j:Int)) a).toNat=fresh key par):
  p9 N u (bG n (2*(j:Int)) a) (de n (2*(j:Int)) a)=true/\GC N u (bG n (2*(j:Int)) a) (de n (2*(j:Int)) a)=AY t key par (bZ (de n (2*(j:Int)) a) n):=by
 have w:=ep hn hj ha
 have q:p9 N u (bG n (2*(j:Int)) a) (de n (2*(j:Int)) a)=true:=by
  unfold p9 qt
  rw [h.check hn hj hN hv gj hc,Me w.nn,Me (show bG n (2*(j:Int)) a<(N:Int) by rw [hN];exact w.lt),Me w.c0]
  rcases w.kid with e|e<;>simp [e]
 refine ⟨q,?_⟩
 unfold GC
 rw [q,w.sib]
 show iu u _ _=_
 unfold iu AY
 rw [hf,show (fresh key par).un=[] from rfl,h.dig hn hj ha];rfl
theorem PW.upd (h:PW t u n j) (hn:n∈sizes) (hj:j<n) {a:Nat} (ha:a<bt n) {v:aj} (hv:NU v):PW t (c7 u (bG n (2*(j:Int)) a).toNat v) n j:=by
 have w:=ep hn hj ha
 refine ⟨λb hb=>?_,λy hy he=>?_,?_⟩
 ·unfold c7
  by_cases e:(bG n (2*(j:Int)) b).toNat=(bG n (2*(j:Int)) a).toNat
  ·rw [aaM e];exact hv
  ·rw [aaC e];exact h.on b hb
 ·unfold c7
  rw [aaC (λe=>hy a ha (by have:=w.nn;omega))];exact h.off y hy he
 ·obtain ⟨k,p,e,q⟩:=h.leaf
  refine ⟨k,p,?_,q⟩
  unfold c7
  rw [aaC (λe=>by have:=w.GX;omega)];exact e
theorem PW.OA (h:PW t u n j) (hn:n∈sizes) (hj:j<n) {k p:List Int} (hk:kA k) (hp:kA p):PW t (c7 u (2*j) {u (2*j) with key:=k,par:=p}) n j:=by
 refine ⟨λb hb=>?_,λy hy he=>?_,?_⟩
 ·unfold c7
  rw [aaC (λe=>by have:=(ep hn hj hb).GX;omega)];exact h.on b hb
 ·unfold c7
  rw [aaC he];exact h.off y hy he
 ·obtain ⟨k',p',e,q⟩:=h.leaf
  refine ⟨k,p,?_,hk,hp⟩
  unfold c7
  rw [aaM rfl,e]
theorem lq {x:Int} {y:Nat}:∀k,(∀a,a<k->(bG n x a).toNat≠y)->bh t n x k y=t y
 |0,_=>rfl
 |k+1,h=>by
  unfold bh c7
  rw [aaC (λe=>h k (by omega) e.symm)];exact lq k λa ha=>h a (by omega)
theorem m9 {x:Int}:∀k a,a<k->bh t n x k (bG n x a).toNat=eX
 |k+1,a,h=>by
  unfold bh c7
  by_cases e:(bG n x a).toNat=(bG n x k).toNat
  ·rw [aaM e]
  ·rw [aaC e]
   exact m9 k a (by rcases acf a k with q|q;exact q;exact absurd (show (bG n x a).toNat=(bG n x k).toNat by rw [show a=k by omega]) e)
theorem zg (hn:n∈sizes) (hj:j<n) (hk:kA (t (2*j)).key) (hp:kA (t (2*j)).par):PW t (bh t n (2*(j:Int)) (bt n)) n j:=by
 refine ⟨λa ha=>.inl (m9 _ a ha),λy hy _=>lq _ λa ha e=>hy a ha (by have:=(ep hn hj ha).nn;omega),_,_,?_,hk,hp⟩
 exact lq _ λa ha e=>by have:=(ep hn hj ha).GX;omega
end
end Go.Proofs.YthlnlcijnoadcaaGreatDoor.Pa
end
