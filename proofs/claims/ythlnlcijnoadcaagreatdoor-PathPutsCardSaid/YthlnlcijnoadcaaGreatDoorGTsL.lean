/- This file holds the texts TsJ, TsK, TsL, a section each. No conditions beyond those in the theorems. -/
import Derived.Test.YthlnlcijnoadcaaGreatDoorGTsI
noncomputable section
set_option linter.all false
section
namespace Go.Proofs.YthlnlcijnoadcaaGreatDoor.Tr
open Go Go.Sy
theorem NG:(sizes.all λn=>(List.range (2*n-1)).all λx=>(List.range n).all λi=>gr ((x:Nat):Int) (2*((i:Nat):Int)) n==(decide (er ((x:Nat):Int)<=((i:Nat):Int))&&decide (((i:Nat):Int)<=g8 ((x:Nat):Int))))=true:=by decide+kernel
theorem TV:(sizes.all λn=>(List.range (n-1)).all λx=>(List.range n).all λi=>((List.range (bt n)).any λj=>bG n (2*((i:Nat):Int)) j==((2*x+1:Nat):Int))==gr ((2*x+1:Nat):Int) (2*((i:Nat):Int)) n)=true:=by decide+kernel
theorem NH:(sizes.all λn=>(List.range n).all λi=>(List.range (bt n)).all λj=>(List.range (n-1)).all λy=>(((2*y+1:Nat):Int) != bG n (2*((i:Nat):Int)) j&&(gr (bG n (2*((i:Nat):Int)) j) ((2*y+1:Nat):Int) n&&gr ((2*y+1:Nat):Int) (2*((i:Nat):Int)) n))==((List.range j).any λk=>bG n (2*((i:Nat):Int)) k==((2*y+1:Nat):Int)))=true:=by decide+kernel
def E8 (t:Nat->aj) (k:Int):Nat->Nat
 |0=>0
 |i+1=>E8 t k i+(bif (t i).used&&(i%2==0)&&((t i).name==k) then 1 else 0)
theorem Jx (t:Nat->aj) (k:Int):∀i,E8 t k i<=i
 |0=>aaf _
 |i+1=>by
  have:=Jx t k i
  unfold E8
  cases (t i).used&&(i%2==0)&&((t i).name==k)<;>simp<;>omega
theorem C2 (t:Nat->aj) (k:Int):∀i,i<=1000->iq (lS t i) k=(E8 t k i:Int)
 |0,_=>rfl
 |i+1,h=>by
  have ih:=λk=>C2 t k i (by omega)
  unfold lS E8
  cases hu:(t i).used&&(i%2==0) with
  |false=>simp [ih]
  |true=>
   simp only [aeL,abb]
   rw [IM]
   cases hk:(k==(t i).name) with
   |true=>
    have hk':=eq_of_beq hk
    subst hk'
    have:=Jx t (t i).name i
    rw [beq_self_eq_true,aeL,aeL,ih,cq (by omega)]
   |false=>
    have:((t i).name==k)=false:=by
     cases h2:((t i).name==k) with
     |true=>rw [eq_of_beq h2,beq_self_eq_true] at hk;exact hk
     |false=>rfl
    rw [this,cond_false,cond_false,ih]
    rfl
theorem zW (t:Nat->aj) (k:Int):∀i,E8 t k i=0↔∀j,2*j<i->((t (2*j)).used&&((t (2*j)).name==k))=false
 |0=>⟨λ_ j hj=>absurd hj (by omega),λ_=>rfl⟩
 |i+1=>by
  have ih:=zW t k i
  unfold E8
  constructor
  ·intro h j hj
   by_cases hij:2*j=i
   ·subst hij
    have h2:(bif (t (2*j)).used&&(2*j%2==0)&&((t (2*j)).name==k) then 1 else 0)=0:=by omega
    rw [show (2*j%2==0)=true by rw [aaS];omega,Bool.and_true] at h2
    cases hq:((t (2*j)).used&&((t (2*j)).name==k)) with
    |false=>rfl
    |true=>rw [hq] at h2;cases h2
   ·exact ih.1 (by omega) j (by omega)
  ·intro h
   have h1:=ih.2 λj hj=>h j (by omega)
   rw [h1]
   cases hp:(i%2==0) with
   |false=>simp
   |true=>
    have hi:i=2*(i/2):=by have:=eq_of_beq hp;omega
    have:=h (i/2) (by omega)
    rw [<-hi] at this
    rw [Bool.and_true,this]
    rfl
theorem BA {t:Nat->aj} {x:Nat} (hx:x<=100) (hu:(t x).used=true) (hp:(x%2==0)=true):(iq (lS t (x+1)) (t x).name==1)=(List.range (x/2)).all (qK t x):=by
 rw [C2 t _ (x+1) (by omega)]
 have h1:E8 t (t x).name (x+1)=E8 t (t x).name x+1:=by
  show E8 t (t x).name x+_=_
  rw [hu,hp,beq_self_eq_true]
  rfl
 rw [h1]
 have hz:=zW t (t x).name x
 cases hq:(List.range (x/2)).all (qK t x) with
 |true=>
  have:E8 t (t x).name x=0:=hz.2 λj hj=>by
   have:=aah.1 hq j (aan.2 (by have:=eq_of_beq hp;omega))
   unfold qK at this
   rw [aaY] at this
   exact this
  rw [this]
  rfl
 |false=>
  rw [beq_eq_false_iff_ne]
  intro h
  have h0:E8 t (t x).name x=0:=by omega
  have:=hz.1 h0
  rw [<-Bool.not_eq_true,aah] at hq
  refine hq λj hj=>?_
  have hj:=aan.1 hj
  unfold qK
  rw [this j (by omega)]
  rfl
end Go.Proofs.YthlnlcijnoadcaaGreatDoor.Tr
end
section
namespace Go.Proofs.YthlnlcijnoadcaaGreatDoor.Tr
open Go Go.Sy
theorem xo (i:Int) (l:List Int):vf i l=hasB l i:=by
 have h1:vf i l=!((List.range l.length).all λk=>!(l.getD k 0==i)):=by
  unfold vf bP;rw [<-cY];cases b6 _ _<;>rfl
 rw [h1,Bool.eq_iff_iff,aaY, <-Bool.not_eq_true,aah]
 unfold hasB
 rw [aaT]
 constructor
 ·intro h
  refine Classical.byContradiction λg=>h λk hk=>?_
  have hk:=aan.1 hk
  rw [aaY]
  cases q:(l.getD k 0==i) with
  |false=>rfl
  |true=>
   refine absurd ⟨l[k],List.getElem_mem hk,?_⟩ g
   have:=eq_of_beq q
   rw [List.getD,aai hk] at this
   rw [aaS]
   exact this.symm
 ·rintro ⟨v,hv,q⟩ h
  obtain ⟨k,hk,rfl⟩:=List.mem_iff_getElem.1 hv
  have:=h k (aan.2 hk)
  rw [List.getD,aai hk,Option.getD_some, <-eq_of_beq q,beq_self_eq_true] at this
  cases this
theorem Jy:(sizes.all λn=>(List.range n).all λi=>(List.range (bt n)).all λj=>(decide ((bG n (2*((i:Nat):Int)) j).toNat%2=1)&&decide ((bG n (2*((i:Nat):Int)) j).toNat<2*n-1))&&(List.range (bt n)).all λk=>(bG n (2*((i:Nat):Int)) j==bG n (2*((i:Nat):Int)) k)==decide (j=k))=true:=by decide+kernel
section
variable {N:Nat} {t:Nat->aj} {n i j:Nat}
def uF (t:Nat->aj) (n i k:Nat):Bool:=!((t (bG n (2*(i:Int)) k).toNat).used&&!hasB (t (bG n (2*(i:Int)) k).toNat).un i)
theorem Jz (hn:n∈sizes) (hi:i<n) (hj:j<bt n):pQ t (bG n (2*(i:Int)) j) i n=(List.range j).all (uF t n i):=by
 have tab:=aah.1 (aah.1 Jy n hn) i (aan.2 hi)
 have inj:∀a b,a<bt n->b<bt n->(bG n (2*(i:Int)) a==bG n (2*(i:Int)) b)=decide (a=b):=λa b ha hb=>
  eq_of_beq (aah.1 (abS.1 (aah.1 tab a (aan.2 ha))).2 b (aan.2 hb))
 have ok:∀k,k<bt n->A6 t (bG n (2*(i:Int)) j) i n k=(!decide (k=j)&&uF t n i k):=λk hk=>by
  unfold A6 uF
  rw [inj k j hk hj]
 unfold pQ bP
 cases hq:b6 (A6 t (bG n (2*(i:Int)) j) i n) (bt n) with
 |none=>
  have:=cS hq j hj
  rw [ok j hj,Me rfl] at this
  cases this
 |some k=>
  obtain ⟨k1,k2,k3⟩:=cX hq
  show (bG n (2*(i:Int)) k==bG n (2*(i:Int)) j)=_
  rw [inj k j k1 hj]
  have hkj:k<=j:=by
   rcases acf j k with h|h
   ·have:=k3 j h
    rw [ok j hj,Me rfl] at this
    cases this
   ·exact h
  by_cases h:k=j
  ·subst h
   rw [Me rfl]
   refine (aah.2 λa ha=>?_).symm
   have ha:=aan.1 ha
   have:=k3 a ha
   rw [ok a (by omega)] at this
   exact (abS.1 this).2
  ·rw [aam h]
   rw [ok k k1,aam h,aeF,abb] at k2
   cases hq2:(List.range j).all (uF t n i) with
   |false=>rfl
   |true=>
    have:=aah.1 hq2 k (aan.2 (by omega))
    rw [this] at k2
    cases k2
theorem BB (hn:n∈sizes) (hi:i<n) (hj:j<bt n) (hN:N=2*n-1):(List.range (N/2)).all (Nq t (bG n (2*(i:Int)) j) n i)=(List.range j).all (uF t n i):=by
 have tab:=aah.1 (aah.1 Jy n hn) i (aan.2 hi)
 have GX:∀k,k<bt n->(bG n (2*(i:Int)) k).toNat%2=1/\(bG n (2*(i:Int)) k).toNat<2*n-1:=λk hk=>by
  have:=abS.1 (abS.1 (aah.1 tab k (aan.2 hk))).1
  exact ⟨abB this.1,abB this.2⟩
 have pos:∀k,k<bt n->0<=bG n (2*(i:Int)) k:=λk hk=>by
  have:=((nP hn hi).1 k hk).2
  rw [show ((2*i:Nat):Int)=2*(i:Int) by omega] at this
  exact this
 have tb:=aah.1 (aah.1 (aah.1 NH n hn) i (aan.2 hi)) j (aan.2 hj)
 have hs:=bu hn
 have one:∀y,y<n-1->Nq t (bG n (2*(i:Int)) j) n i y=!(((List.range j).any λk=>bG n (2*(i:Int)) k==((2*y+1:Nat):Int))&&((t (2*y+1)).used&&!hasB (t (2*y+1)).un i)):=λy hy=>by
  have:=eq_of_beq (aah.1 tb y (aan.2 hy))
  rw [<-this]
  unfold Nq
  rw [xo]
  cases (((2*y+1:Nat):Int) != bG n (2*(i:Int)) j)<;>cases (t (2*y+1)).used<;>cases gr (bG n (2*(i:Int)) j) ((2*y+1:Nat):Int) n<;>cases gr ((2*y+1:Nat):Int) (2*(i:Int)) n<;>rfl
 rw [Bool.eq_iff_iff,aah,aah]
 constructor
 ·intro h k hk
  have hk:=aan.1 hk
  obtain ⟨o1,o2⟩:=GX k (by omega)
  have p:=pos k (by omega)
  have hy:2*((bG n (2*(i:Int)) k).toNat/2)+1=(bG n (2*(i:Int)) k).toNat:=by omega
  have:=h ((bG n (2*(i:Int)) k).toNat/2) (aan.2 (by omega))
  rw [one _ (by omega),hy] at this
  unfold uF
  have ha:((List.range j).any λk'=>bG n (2*(i:Int)) k'==(((bG n (2*(i:Int)) k).toNat:Nat):Int))=true:=aaT.2 ⟨k,aan.2 hk,by rw [aaS];omega⟩
  rw [ha,abb] at this
  exact this
 ·intro h y hy
  have hy:=aan.1 hy
  rw [one y (by omega)]
  cases ha:((List.range j).any λk=>bG n (2*(i:Int)) k==((2*y+1:Nat):Int)) with
  |false=>rfl
  |true=>
   obtain ⟨k,hk,q⟩:=aaT.1 ha
   have:=h k hk
   unfold uF at this
   rw [eq_of_beq q,aaa] at this
   rw [abb]
   exact this
end
end Go.Proofs.YthlnlcijnoadcaaGreatDoor.Tr
end
section
namespace Go.Proofs.YthlnlcijnoadcaaGreatDoor.Tr
open Go Go.Sy
section
variable {N:Nat} {t:Nat->aj} {n x k:Nat}
theorem Pj (hn:n∈sizes) (hN:N=2*n-1) (hx:x<N) (ho:x%2=1) (un:List Int) (hk:k<un.length):A7 t x n un k=rV N t x n un k\/(un.getD k 0<=E5 un k):=by
 have hs:=bu hn
 have s3:aQ ((x:Nat):Int) n=true:=by
  rw [p4 hn,aac,aab,aab];omega
 obtain ⟨b1,b2⟩:=ux s3
 by_cases hb:un.getD k 0<=E5 un k
 ·exact .inr hb
 ·refine .inl ?_
  have h3:(decide ((k:Int)>0)&&decide (un.getD k 0<=un.getD (k-1) 0))=false:=by
   cases k with
   |zero=>rfl
   |succ k=>
    rw [show k+1-1=k by omega,show decide (un.getD (k+1) 0<=un.getD k 0)=false from aam hb,acC]
  unfold A7 rV xS
  rw [aam hb,h3]
  by_cases h0:un.getD k 0<0
  ·rw [Me h0,Me (show un.getD k 0<er x by omega)];rfl
  ·by_cases h1:un.getD k 0>=(n:Int)
   ·rw [Me h1,aam h0,Me (show un.getD k 0>g8 x by omega)]
    simp
   ·rw [aam h0,aam h1]
    obtain ⟨i,hi⟩:=aaB (show 0<=un.getD k 0 by omega)
    rw [hi]
    have hin:i<n:=by omega
    rw [aaa]
    have hab:=eq_of_beq (aah.1 (aah.1 (aah.1 NG n hn) x (aan.2 (by omega))) i (aan.2 hin))
    have Ly:=eq_of_beq (aah.1 (aah.1 (aah.1 TV n hn) (x/2) (aan.2 (by omega))) i (aan.2 hin))
    rw [show 2*(x/2)+1=x by omega] at Ly
    have hfl:(!decide (((i:Nat):Int)<er x)&&!decide (((i:Nat):Int)>g8 x))=gr x (2*(i:Int)) n:=by
     rw [hab,Bool.eq_iff_iff]
     simp only [aac,aaY,ac7,aab]
     omega
    cases ha:gr ((x:Nat):Int) (2*(i:Int)) n with
    |false=>
     rw [ha] at hfl
     simp only [aeF,abb,acC,adw]
     rw [hfl]
     rfl
    |true=>
     rw [ha] at hfl Ly
     obtain ⟨j,hj,hq⟩:=aaT.1 Ly
     have hj:=aan.1 hj
     have hq:=eq_of_beq hq
     rw [<-hq,Jz hn hin hj,BB hn hin hj hN,hq]
     simp only [aeF,abb,Bool.and_true]
     rw [hfl,abb]
theorem EM {un:List Int} (h:∀k,k<un.length->E5 un k<un.getD k 0):eS un=true:=by
 unfold eS
 rw [aah]
 intro j hj
 have hj:=aan.1 hj
 have:=h (un.length-1-j) (by omega)
 rw [aaY,ac7]
 cases hq:un.length-1-j with
 |zero=>omega
 |succ a=>
  rw [hq] at this
  have:un.getD a 0<un.getD (a+1) 0:=this
  rw [show a+1-1=a by omega]
  omega
theorem NI {x:Int} {un:List Int} (h:A7 t x n un k=true):E5 un k<un.getD k 0:=by
 unfold A7 at h
 simp only [aac,aaY,ac7] at h
 have:=h.1.1.1.1
 omega
theorem C3 {un:List Int} {x:Int} (h:rV N t x n un k=true):E5 un k<un.getD k 0:=by
 unfold rV xS at h
 simp only [aac,aaY,ac7] at h
 obtain ⟨⟨h1,_,h3,_⟩,_⟩:=h
 cases k with
 |zero=>show (-1:Int)<_;omega
 |succ k=>
  show un.getD k 0<_
  rw [Me (show ((k+1:Nat):Int)>0 by omega),abb,ac7,show k+1-1=k by omega] at h3
  omega
theorem JA (hn:n∈sizes) (hN:N=2*n-1) (hx:x<N) (ho:x%2=1):dZ t x n=gH N t x n:=by
 unfold dZ gH
 rw [aaa]
 generalize (t x).un=un
 have key:(eS un&&(List.range un.length).all (A7 t x n un))=(List.range un.length).all (rV N t x n un):=by
  rw [Bool.eq_iff_iff,aac,aah,aah]
  constructor
  ·rintro ⟨_,h⟩ k hk
   have hu:=h k hk
   rcases Pj (t:=t) hn hN hx ho un (aan.1 hk) with q|q
   ·rw [<-q];exact hu
   ·have:=NI hu;omega
  ·intro h
   refine ⟨EM λk hk=>C3 (h k (aan.2 hk)),λk hk=>?_⟩
   have hu:=h k hk
   rcases Pj (t:=t) hn hN hx ho un (aan.1 hk) with q|q
   ·rw [q];exact hu
   ·have:=C3 hu;omega
 rw [<-key]
 cases (!((t x).name != 0))<;>cases decide ((t x).sign=List.replicate 32 0)<;>rfl
theorem C4 (hn:n∈sizes) (hN:N=2*n-1) (hx:x<N):eW t n x=ji N t n x:=by
 have hs:=bu hn
 unfold eW ji
 cases hu:(t x).used with
 |false=>
  show om (t x)=uO (t x) eX
  rfl
 |true=>
  show (bif x%2==0 then DM true (t x).name (t x).un&&(iq (lS t (x+1)) (t x).name==1) else dZ t x n)=(bif x%2==1 then gH N t x n else E7 (t x)&&(List.range (x/2)).all (qK t x))
  cases hp:(x%2==1) with
  |true=>
   rw [odN hp,cond_false,aeL]
   exact JA hn hN hx (eq_of_beq hp)
  |false=>
   rw [evN hp,cond_false,aeL,BA (by omega) hu (evN hp)]
   unfold E7
   rw [hu]
theorem ue (hle:N<=71):aM N t=cN N t:=by
 unfold aM cN
 cases h0:(aO N==0) with
 |true=>rfl
 |false=>
  obtain ⟨n,hn,hv,hN⟩:=iG hle h0
  rw [hv,aaa]
  have:(List.range N).all (eW t n)=(List.range N).all (ji N t n):=by
   rw [Bool.eq_iff_iff,aah,aah]
   constructor
   ·intro h x hx;rw [<-C4 hn hN (aan.1 hx)];exact h x hx
   ·intro h x hx;rw [C4 hn hN (aan.1 hx)];exact h x hx
  rw [this,Bool.and_comm ((List.range N).all _)]
end
end Go.Proofs.YthlnlcijnoadcaaGreatDoor.Tr
end
