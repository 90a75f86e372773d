/- This file holds the texts TsE, TsF, a section each. No conditions beyond those in the theorems. -/
import Derived.Test.YthlnlcijnoadcaaGreatDoorGTsD
noncomputable section
open Go.Proofs.Tryz
open Go.IntKind (i64 u8 u64 u32)
set_option linter.all false
section
namespace Go.Sy
open Go
theorem aV.nil {P:Program} {ro:Option Nat} {k:Nat} {l:List Code} {s:St} (h:l=[]):aV P ro k l s .normal s:=by subst h;exact ⟨rfl,rfl⟩
end Go.Sy
namespace Go.Proofs.YthlnlcijnoadcaaGreatDoor.Tr
open Go Go.Sy
def Nq (t:Nat->aj) (x:Int) (n:Nat) (i:Int) (j:Nat):Bool:=!(((2*j+1:Nat):Int) != x&&((t (2*j+1)).used&&(gr x ((2*j+1:Nat):Int) n&&(gr ((2*j+1:Nat):Int) (2*i) n&&!vf i (t (2*j+1)).un))))
def xS (t:Nat->aj) (x:Int) (n:Nat) (un:List Int) (k:Nat):Bool:=!decide (un.getD k 0<0)&&(!decide (un.getD k 0>=n)&&(!(decide ((k:Int)>0)&&decide (un.getD k 0<=un.getD (k-1) 0))&&((t (2*un.getD k 0).toNat).used&&gr x (2*un.getD k 0) n)))
def rV (N:Nat) (t:Nat->aj) (x:Int) (n:Nat) (un:List Int) (k:Nat):Bool:=xS t x n un k&&(List.range (N/2)).all (Nq t x n (un.getD k 0))
def gH (N:Nat) (t:Nat->aj) (x:Int) (n:Nat):Bool:=!((t x.toNat).name != 0)&&(decide ((t x.toNat).sign=List.replicate 32 0)&&(List.range (t x.toNat).un.length).all (rV N t x n (t x.toNat).un))
section
variable {N:Nat} {t:Nat->aj} {x:Int} {n k j:Nat}
theorem kD (hn:n∈sizes) {i:Int} (h0:0<=i) (h1:i<n):aQ (2*i) n=true:=by
 rw [p4 hn,aac,aab,aab]
 omega
theorem Pd (hT:cF N t) (hn:n∈sizes) (hN:N=2*n-1) (hx:aQ x n=true) {i:Int} (h0:0<=i) (h1:i<n) (hj:j<N/2) (hb:Nq t x n i j=true):
  Tr prog none 0 zT (mQ N t x n k i ((2*j+1:Nat):Int)) .normal (mQ N t x n k i ((2*(j+1)+1:Nat):Int)):=by
 have hs:=bu hn
 have hlt:2*j+1<N:=by omega
 have hw:i64.wrap (((2*j+1:Nat):Int)+2)=((2*(j+1)+1:Nat):Int):=by rw [cg (by omega) (by omega)];omega
 have E6:i64.wrap (2*i)=2*i:=cg (by omega) (by omega)
 have hy:aQ ((2*j+1:Nat):Int) n=true:=by
  rw [p4 hn,aac,aab,aab];omega
 have hn0:decide ((0:Int)<=(n:Int))=true:=Me (by omega)
 unfold Nq at hb
 cases c1:(((2*j+1:Nat):Int) != x) with
 |false=>
  have e:=Zb N t x n k i ((2*j+1:Nat):Int)
  rw [hw] at e
  exact Tr.aR (bU [(77,true),(82,false)]) 60 _ 1 (aap _) (s':=mQ N t x n k i ((2*(j+1)+1:Nat):Int)) _ e (Ts N t x n k i _) (by rw [fo hlt,c1];rfl)
 |true=>
 rw [c1,abb] at hb
 cases c2:(t (2*j+1)).used with
 |false=>
  have e:=Zc N t x n k i ((2*j+1:Nat):Int)
  rw [hw] at e
  exact Tr.aR (bU [(77,true),(82,true),(88,false)]) 60 _ 1 (aap _) (s':=mQ N t x n k i ((2*(j+1)+1:Nat):Int)) _ e (Tt N t x n k i _) (by
   rw [aaa,fo hlt,c1,bf hlt,Me hlt,show (t (2*j+1)).1=false from c2];rfl)
 |true=>
 rw [c2,abb] at hb
 cases c3:gr x ((2*j+1:Nat):Int) n with
 |false=>
  have e:=Zd N t x n k i ((2*j+1:Nat):Int)
  rw [hw] at e
  exact Tr.aR (bU [(77,true),(82,true),(88,true),(94,false)]) 60 _ 1 (aap _) (s':=mQ N t x n k i ((2*(j+1)+1:Nat):Int)) _ e (Tu N t x n k i _) (by
   rw [aaa,aaa,fo hlt,c1,bf hlt,Me hlt,show (t (2*j+1)).1=true from c2,hn0,hx,hy,c3];rfl)
 |true=>
 rw [c3,abb] at hb
 cases c4:gr ((2*j+1:Nat):Int) (2*i) n with
 |false=>
  have e:=Ze N t x n k i ((2*j+1:Nat):Int)
  rw [hw] at e
  exact Tr.aR (bU [(77,true),(82,true),(88,true),(94,true),(101,false)]) 60 _ 1 (aap _) (s':=mQ N t x n k i ((2*(j+1)+1:Nat):Int)) _ e (Tv N t x n k i _) (by
   rw [aaa,aaa,E6,fo hlt,c1,bf hlt,Me hlt,show (t (2*j+1)).1=true from c2,hn0,hx,hy,c3,kD hn h0 h1,c4];rfl)
 |true=>
  rw [c4,abb] at hb
  have c5:vf i (t (2*j+1)).un=true:=by simpa using hb
  have e:=Zf N t x n k i ((2*j+1:Nat):Int)
  rw [hw] at e
  exact Tr.aR (bU [(77,true),(82,true),(88,true),(94,true),(101,true),(110,true)]) 60 _ 1 (aap _) (s':=mQ N t x n k i ((2*(j+1)+1:Nat):Int)) _ e (Tw N t x n k i _) (by
   rw [aaa,aaa,E6,fo hlt,c1,bf hlt,Me hlt,show (t (2*j+1)).1=true from c2,hn0,hx,hy,c3,kD hn h0 h1,c4,Me (hT.un _ hlt),c5];rfl)
theorem Zi (hT:cF N t) (hn:n∈sizes) (hN:N=2*n-1) (hx:aQ x n=true) {i:Int} (h0:0<=i) (h1:i<n) (hj:j<N/2) (hb:Nq t x n i j=false):
  Tr prog none 0 zT (mQ N t x n k i ((2*j+1:Nat):Int)) .ret (bS 113 6 false):=by
 have hs:=bu hn
 have hlt:2*j+1<N:=by omega
 have E6:i64.wrap (2*i)=2*i:=cg (by omega) (by omega)
 have hy:aQ ((2*j+1:Nat):Int) n=true:=by
  rw [p4 hn,aac,aab,aab];omega
 have hn0:decide ((0:Int)<=(n:Int))=true:=Me (by omega)
 unfold Nq at hb
 rw [Bool.not_eq_false'] at hb
 simp only [aac] at hb
 obtain ⟨c1,c2,c3,c4,c5⟩:=hb
 exact Tr.aR (bU [(77,true),(82,true),(88,true),(94,true),(101,true),(110,false)]) 60 _ 0 (aap _) (s':=bS 113 6 false) _ (Zg N t x n k i _) (Tx N t x n k i _) (by
  rw [aaa,aaa,E6,fo hlt,c1,bf hlt,Me hlt,show (t (2*j+1)).1=true from c2,hn0,hx,hy,c3,kD hn h0 h1,c4,Me (hT.un _ hlt),c5];rfl)
theorem Tz (hs:N<=71) {i:Int}:Tr prog none 0 zT (mQ N t x n k i ((2*(N/2)+1:Nat):Int)) (.exit 2) (fB N t x n k):=
 Tr.aR (bU [(77,false)]) 60 _ 1 (aap _) _ (Zh N t x n k i _) (Ty N t x n k i _) (by rw [fA (by omega)];rfl)
end
end Go.Proofs.YthlnlcijnoadcaaGreatDoor.Tr
end
section
namespace Go.Proofs.YthlnlcijnoadcaaGreatDoor.Tr
open Go Go.Sy
theorem Jp:au 2 EK= .block 1 uD:=by kernel_rfl
theorem Nr:(atoms EK).drop 4=[]:=by kernel_rfl
theorem Ns:(atoms uD).drop 5=[]:=by kernel_rfl
section
variable {N:Nat} {t:Nat->aj} {x:Int} {n k:Nat}
theorem C0 (hT:cF N t) (hn:n∈sizes) (hN:N=2*n-1) (hx:aQ x n=true) (hk:k<(t x.toNat).un.length) (hb:xS t x n (t x.toNat).un k=true) {y:Exit} {s':St}
  (g:aV prog none 0 ((atoms uD).drop 4) (mQ N t x n k ((t x.toNat).un.getD k 0) ((2*0+1:Nat):Int)) y s'):aV prog none 0 (atoms uD) (fB N t x n k) y s':=by
 obtain ⟨g1,g2⟩:=fX hx
 have gl:x.toNat<N:=by omega
 have hul:=hT.un _ gl
 have hs:=bu hn
 unfold xS at hb
 simp only [aac] at hb
 obtain ⟨c1,c2,c3,c4,c5⟩:=hb
 have e1:¬(t x.toNat).un.getD k 0<0:=by simpa using c1
 have e2:¬(t x.toNat).un.getD k 0>=(n:Int):=by
  intro q
  rw [Me q] at c2
  cases c2
 have E6:i64.wrap (2*(t x.toNat).un.getD k 0)=2*(t x.toNat).un.getD k 0:=cg (by omega) (by omega)
 have hn0:decide ((0:Int)<=(n:Int))=true:=Me (by omega)
 have hlf:=kD hn (i:=(t x.toNat).un.getD k 0) (by omega) (by omega)
 by_cases h0:(k:Int)>0
 ·have c3':decide ((t x.toNat).un.getD k 0<=(t x.toNat).un.getD (k-1) 0)=false:=by
   rw [Me h0,abb] at c3
   simpa using c3
  have hw1:i64.wrap ((k:Int)-1)=((k-1:Nat):Int):=by rw [cg (by omega) (by omega)];omega
  have Nt:k-1<(t x.toNat).un.length:=by omega
  have e:=Y7 N t x n k
  rw [aaa] at e
  refine aV.bk (bU [(37,false),(41,false),(45,true),(54,false),(63,true),(71,true)]) 60 4 _ 1 (aap _) (s1:=mQ N t x n k ((t x.toNat).un.getD k 0) ((2*0+1:Nat):Int)) _ e (Ti N t x n k) ?_ (by decide) rfl g
  rw [aaa,aaa,hw1,aaa,E6,bf hk,Me hk,c1,c2,Me h0,bf Nt,Me Nt,c3',mK (by omega) (by omega),Me (show (2*(t x.toNat).un.getD k 0).toNat<N by omega),
   show (t (2*(t x.toNat).un.getD k 0).toNat).1=true from c4,hn0,hx,hlf,c5]
  rfl
 ·have e:=Y6 N t x n k
  rw [aaa] at e
  refine aV.bk (bU [(37,false),(41,false),(45,false),(63,true),(71,true)]) 60 4 _ 1 (aap _) (s1:=mQ N t x n k ((t x.toNat).un.getD k 0) ((2*0+1:Nat):Int)) _ e (Th N t x n k) ?_ (by decide) rfl g
  rw [aaa,aaa,E6,bf hk,Me hk,c1,c2,aam h0,mK (by omega) (by omega),Me (show (2*(t x.toNat).un.getD k 0).toNat<N by omega),
   show (t (2*(t x.toNat).un.getD k 0).toNat).1=true from c4,hn0,hx,hlf,c5]
  rfl
theorem zU (hk:k<(t x.toNat).un.length) {y:Exit} {s':St} (g:aV prog none 0 ((atoms EK).drop 2) (fB N t x n k) y s'):Tr prog none 0 EK (fB N t x n k) y s':=
 Tr.dr (aV.bk (bU [(28,true)]) 60 2 _ 1 (aap _) (s1:=fB N t x n k) _ (Y4 N t x n k) (Tf N t x n k) (by rw [fo hk];rfl) (by decide) rfl g)
theorem Pe (hT:cF N t) (hb:xS t x n (t x.toNat).un k=true):0<=(t x.toNat).un.getD k 0/\(t x.toNat).un.getD k 0<n:=by
 have:=hT.le
 unfold xS at hb
 simp only [aac] at hb
 obtain ⟨c1,c2,_⟩:=hb
 constructor
 ·have e1:¬(t x.toNat).un.getD k 0<0:=by simpa using c1
  omega
 ·have e2:¬(t x.toNat).un.getD k 0>=(n:Int):=by
   intro q
   rw [Me q] at c2
   cases c2
  omega
theorem Nu (hT:cF N t) (hn:n∈sizes) (hN:N=2*n-1) (hx:aQ x n=true) (hk:k<(t x.toNat).un.length) (hb:rV N t x n (t x.toNat).un k=true):
  Tr prog none 0 EK (fB N t x n k) .normal (fB N t x n ((k+1:Nat):Int)):=by
 obtain ⟨g1,g2⟩:=fX hx
 have hul:=hT.un _ (show x.toNat<N by omega)
 obtain ⟨h1,h2⟩:=abS.1 hb
 obtain ⟨u1,u2⟩:=Pe hT h1
 have e:=Y5 N t x n k
 rw [cq (by omega)] at e
 refine zU hk (aV.item 2 (by decide) (s1:=fB N t x n k) ?_ (aV.item 3 (by decide) (Tr.aR (bU []) 60 _ 1 (aap _) (s':=fB N t x n ((k+1:Nat):Int)) _ e (Tg N t x n k) rfl) (aV.nil Nr)))
 rw [Jp]
 refine Tr.b8 (Tr.dr (C0 hT hn hN hx hk h1 (aV.item 4 (by decide) ?_ (aV.nil Ns)))) (by simp)
 exact Tr.loop 2 (by kernel_rfl) (λj=>mQ N t x n k ((t x.toNat).un.getD k 0) ((2*j+1:Nat):Int)) (N/2) (λj hj=>Pd hT hn hN hx u1 u2 hj (aah.1 h2 j (aan.2 hj))) (Tz hT.le)
theorem TA (hT:cF N t) (hn:n∈sizes) (hN:N=2*n-1) (hx:aQ x n=true) (hk:k<(t x.toNat).un.length) (hb:rV N t x n (t x.toNat).un k=false):
  Tr prog none 0 EK (fB N t x n k) .ret (bS 113 6 false):=by
 obtain ⟨g1,g2⟩:=fX hx
 have gl:x.toNat<N:=by omega
 have hul:=hT.un _ gl
 have hs:=bu hn
 refine zU hk (aV.leave 2 (by decide) (by simp) ?_)
 rw [Jp]
 refine Tr.b8 ?_ (by simp)
 cases h1:xS t x n (t x.toNat).un k with
 |true=>
  obtain ⟨u1,u2⟩:=Pe hT h1
  unfold rV at hb
  rw [h1,abb, <-cY] at hb
  cases hq:b6 (Nq t x n ((t x.toNat).un.getD k 0)) (N/2) with
  |none=>rw [hq] at hb;cases hb
  |some j=>
   obtain ⟨j1,j2,j3⟩:=cX hq
   exact Tr.dr (C0 hT hn hN hx hk h1 (aV.leave 4 (by decide) (by simp) (Tr.rZ 2 (by kernel_rfl) (TrR.for (by simp) (λj=>mQ N t x n k ((t x.toNat).un.getD k 0) ((2*j+1:Nat):Int)) j (λi hi=>Pd hT hn hN hx u1 u2 (by omega) (j3 i hi)) (Zi hT hn hN hx u1 u2 j1 j2)))))
 |false=>
  have hn0:decide ((0:Int)<=(n:Int))=true:=Me (by omega)
  unfold xS at h1
  cases c1:decide ((t x.toNat).un.getD k 0<0) with
  |true=>exact Tr.aR (bU [(37,true)]) 60 _ 0 (aap _) (s':=bS 113 6 false) _ (Y8 N t x n k) (Tj N t x n k) (by rw [aaa,bf hk,Me hk,c1];rfl)
  |false=>
  cases c2:decide ((t x.toNat).un.getD k 0>=(n:Int)) with
  |true=>exact Tr.aR (bU [(37,false),(41,true)]) 60 _ 0 (aap _) (s':=bS 113 6 false) _ (Y9 N t x n k) (Tk N t x n k) (by rw [aaa,bf hk,Me hk,c1,c2];rfl)
  |false=>
  have e1:=of_decide_eq_false c1
  have e2:=of_decide_eq_false c2
  have E6:i64.wrap (2*(t x.toNat).un.getD k 0)=2*(t x.toNat).un.getD k 0:=cg (by omega) (by omega)
  have hlf:=kD hn (i:=(t x.toNat).un.getD k 0) (by omega) (by omega)
  have hin:aX (2*(t x.toNat).un.getD k 0) N=true:=mK (by omega) (by omega)
  have hlt:decide ((2*(t x.toNat).un.getD k 0).toNat<N)=true:=Me (by omega)
  rw [c1,c2] at h1
  by_cases h0:(k:Int)>0
  ·have hw1:i64.wrap ((k:Int)-1)=((k-1:Nat):Int):=by rw [cg (by omega) (by omega)];omega
   have Nt:k-1<(t x.toNat).un.length:=by omega
   rw [Me h0] at h1
   cases c3:decide ((t x.toNat).un.getD k 0<=(t x.toNat).un.getD (k-1) 0) with
   |true=>exact Tr.aR (bU [(37,false),(41,false),(45,true),(54,true)]) 60 _ 0 (aap _) (s':=bS 113 6 false) _ (Za N t x n k) (Tl N t x n k) (by
     rw [aaa,hw1,aaa,bf hk,Me hk,c1,c2,Me h0,bf Nt,Me Nt,c3];rfl)
   |false=>
   rw [c3] at h1
   cases c4:(t (2*(t x.toNat).un.getD k 0).toNat).used with
   |false=>exact Tr.aR (bU [(37,false),(41,false),(45,true),(54,false),(63,false)]) 60 _ 0 (aap _) (s':=bS 113 6 false) _ (To N t x n k) (Nm N t x n k) (by
     rw [aaa,hw1,aaa,E6,bf hk,Me hk,c1,c2,Me h0,bf Nt,Me Nt,c3,hin,hlt,show (t (2*(t x.toNat).un.getD k 0).toNat).1=false from c4];rfl)
   |true=>
    rw [c4] at h1
    have c5:gr x (2*(t x.toNat).un.getD k 0) n=false:=by simpa using h1
    exact Tr.aR (bU [(37,false),(41,false),(45,true),(54,false),(63,true),(71,false)]) 60 _ 0 (aap _) (s':=bS 113 6 false) _ (Tq N t x n k) (Np N t x n k) (by
     rw [aaa,aaa,hw1,aaa,E6,bf hk,Me hk,c1,c2,Me h0,bf Nt,Me Nt,c3,hin,hlt,show (t (2*(t x.toNat).un.getD k 0).toNat).1=true from c4,hn0,hx,hlf,c5];rfl)
  ·rw [aam h0] at h1
   cases c4:(t (2*(t x.toNat).un.getD k 0).toNat).used with
   |false=>exact Tr.aR (bU [(37,false),(41,false),(45,false),(63,false)]) 60 _ 0 (aap _) (s':=bS 113 6 false) _ (Tm N t x n k) (Nl N t x n k) (by
     rw [aaa,E6,bf hk,Me hk,c1,c2,aam h0,hin,hlt,show (t (2*(t x.toNat).un.getD k 0).toNat).1=false from c4];rfl)
   |true=>
    rw [c4] at h1
    have c5:gr x (2*(t x.toNat).un.getD k 0) n=false:=by simpa using h1
    exact Tr.aR (bU [(37,false),(41,false),(45,false),(63,true),(71,false)]) 60 _ 0 (aap _) (s':=bS 113 6 false) _ (Tp N t x n k) (Nn N t x n k) (by
     rw [aaa,aaa,E6,bf hk,Me hk,c1,c2,aam h0,hin,hlt,show (t (2*(t x.toNat).un.getD k 0).toNat).1=true from c4,hn0,hx,hlf,c5];rfl)
theorem EL (hT:cF N t) (hn:n∈sizes) (hN:N=2*n-1) (hx:aQ x n=true):ai prog 58 [.aJ false 99 N (aq t),.int .i64 x,.int .i64 ((n:Nat):Int)] [] (.bool (gH N t x n)) []:=by
 obtain ⟨g1,g2⟩:=fX hx
 have gl:x.toNat<N:=by omega
 have hin:aX x N=true:=mK g1 (by omega)
 unfold gH
 cases h1:((t x.toNat).name != 0) with
 |true=>exact aI (bU _) 60 func58 (QS N t x n) (by rw [hin,Me gl,h1];rfl) rfl
 |false=>
 cases h2:decide ((t x.toNat).sign=List.replicate 32 0) with
 |false=>exact aI (bU _) 60 func58 (aeE N t x n) (by rw [hin,Me gl,h1,h2,Me (hT.sign _ gl)];rfl) rfl
 |true=>
  have key:=ai.scan (P:=prog) (args:=[.aJ false 99 N (aq t),.int .i64 x,.int .i64 ((n:Nat):Int)]) (h:=[]) (h':=[]) func58 rfl 5 0 (λk:Nat=>fB N t x n ((k:Nat):Int)) (rV N t x n (t x.toNat).un) (t x.toNat).un.length
   (λz s' g=>aV.bk (bU [(17,false),(22,false)]) 60 5 _ 1 (by simp) (s1:=fB N t x n ((0:Nat):Int)) _ (Nj N t x n) (Jo N t x n) (by rw [hin,Me gl,h1,h2,Me (hT.sign _ gl)];rfl) (by decide) rfl g) (by decide) (by kernel_rfl)
   (λk hk hb _=>Nu hT hn hN hx hk hb) (λi=>bS 113 6 false) (λi=>[.bool false]) (λk hk hb _=>⟨TA hT hn hN hx hk hb,rfl,rfl⟩) (sE:=⟨slotsOf 113 [],[],true⟩) (uM:=bS 113 6 true) (vE:=[.bool true]) (xE:=.ret) (λ_=>?_) (λ_=>⟨?_,.inl rfl,rfl,rfl⟩)
  ·rw [bX (g:=SV.bool) (vF:=λ_:Nat=>false) (vE:=true)] at key
   have hv:bP (rV N t x n (t x.toNat).un) (t x.toNat).un.length (λ_=>false) true=(List.range (t x.toNat).un.length).all (rV N t x n (t x.toNat).un):=by
    unfold bP;rw [<-cY];cases b6 _ _<;>rfl
   rw [hv] at key;exact key
  ·exact Tr.aR (bU [(28,false)]) 60 _ 0 (aaf _) (s':=⟨slotsOf 113 [],[],true⟩) _ (Te N t x n _) (Nk N t x n _) (by rw [fA (aaf _)];rfl)
  ·exact aV.rest (bU []) 60 (by kernel_rfl) rfl
end
end Go.Proofs.YthlnlcijnoadcaaGreatDoor.Tr
end
