/- This file holds the texts LaP, LaL, a section each. No conditions beyond those in the theorems. -/
import Derived.Test.YtibfpjeeanppjaaGreatYMh
set_option linter.all false
section
namespace Go.Proofs.YtibfpjeeanppjaaGreat.La
structure jR (n:Nat):Prop where
 gt:1<n
 dv:∀m,m∣n→m=1∨m=n
theorem LK {n:Nat} (h:1<n):∃r,1<r∧r∣n∧∀m,1<m→m∣n→r≤m:=by
 have key:∀k m,m≤k→1<m→m∣n→∃r,1<r∧r∣n∧∀m,1<m→m∣n→r≤m:=by
  intro k
  induction k with
  |zero=>intro m h1 h2;omega
  |succ k ih=>
   intro m h1 h2 h3
   by_cases hc:∃m',m'≤k∧1<m'∧m'∣n
   ·obtain ⟨m',a,b,c⟩:=hc
    exact ih m' a b c
   ·refine ⟨m,h2,h3,fun m' h4 h5=>?_⟩
    by_cases hk:m'≤k
    ·exact absurd ⟨m',hk,h4,h5⟩ hc
    ·omega
 exact key n n (Nat.le_refl _) h (Nat.dvd_refl _)
theorem jR.of {n:Nat} (h:1<n) (hn:∀r,1<r→r∣n→r*r≤n→False):jR n:=by
 refine ⟨h,fun m hm=>?_⟩
 by_cases h1:m=1
 ·exact .inl h1
 refine .inr ?_
 obtain ⟨r,r1,r2,r3⟩:=LK h
 have hm0:m≠0:=fun q=>by subst q;have:=Nat.eq_zero_of_zero_dvd hm;omega
 obtain ⟨k,hk⟩:=r2
 by_cases k1:k=1
 ·have:=r3 m (by omega) hm
  have h2:=Nat.le_of_dvd (by omega) hm
  rw [k1,Nat.mul_one] at hk
  omega
 ·have k0:k≠0:=fun q=>by rw [q,Nat.mul_zero] at hk;omega
  have:=r3 k (by omega) ⟨r,by rw [hk,Nat.mul_comm]⟩
  exact absurd (by have:=Nat.mul_le_mul_left r this;omega) (hn r r1 ⟨k,hk⟩)
def tdiv (n:Nat):Nat→Bool
 |0=>true
 |k+1=>Nat.blt 0 (n%(k+2))&&tdiv n k
theorem Gs {n:Nat}:∀k,tdiv n k=true→∀r,1<r→r≤k+1→¬r∣n
 |0,_,r,h1,h2,_=>by omega
 |k+1,h,r,h1,h2,h3=>by
  rw [tdiv,Bool.and_eq_true] at h
  by_cases hr:r=k+2
  ·subst hr
   have h4:=Nat.mod_eq_zero_of_dvd h3
   have h5:=h.1
   rw [h4] at h5
   cases h5
  ·exact Gs k h.2 r h1 (by omega) h3
theorem jR.pn {n:Nat} (k:Nat) (h:(Nat.blt 1 n&&(Nat.blt n ((k+2)*(k+2))&&tdiv n k))=true):jR n:=by
 rw [Bool.and_eq_true,Bool.and_eq_true] at h
 obtain ⟨h1,h2,h3⟩:=h
 have h2:n<(k+2)*(k+2):=Nat.le_of_ble_eq_true h2
 refine jR.of (Nat.le_of_ble_eq_true h1) fun r r1 r2 r3=>?_
 by_cases hr:r≤k+1
 ·exact Gs k h3 r r1 hr r2
 ·have:=Nat.mul_le_mul (show k+2≤r by omega) (show k+2≤r by omega)
  omega
theorem zL {b r m:Nat} (h:b^m%r=1%r) (k s:Nat):b^(m*k+s)%r=b^s%r:=by
 have h1:(b^m)^k%r=1%r:=by
  rw [Nat.pow_mod,h, ←Nat.pow_mod,Nat.one_pow]
 rw [Nat.pow_add,Nat.pow_mul,Nat.mul_mod,h1, ←Nat.mul_mod,Nat.one_mul]
theorem RH {b r:Nat} (m n:Nat):b^m%r=1%r→b^n%r=1%r→b^(Nat.gcd m n)%r=1%r:=by
 induction m,n using Nat.gcd.induction with
 |H0 n=>intro _ h;rw [Nat.gcd_zero_left];exact h
 |H1 m n _ ih=>
  intro h1 h2
  rw [Nat.gcd_rec]
  refine ih ?_ h1
  rw [←zL h1 (n/m) (n%m),Nat.div_add_mod]
  exact h2
theorem LL {b r F i j:Nat} (h:b^F%r=1%r) (hij:i<j) (hj:j<F) (he:b^i%r=b^j%r):b^(j-i)%r=1%r:=by
 have h1:b^(i+(F-i))%r=b^(j+(F-i))%r:=by
  rw [Nat.pow_add,Nat.mul_mod,he, ←Nat.mul_mod, ←Nat.pow_add]
 rw [show i+(F-i)=F by omega,show j+(F-i)=F*1+(j-i) by omega,zL h,h] at h1
 exact h1.symm
def fy:List Nat→Nat
 | []=>1
 |l::L=>l*fy L
theorem BL:∀(L:List Nat) (_:∀l∈L,jR l) (g:Nat),g∣fy L→g≠fy L→∃l,l∈L∧g*l∣fy L
 | [],_,g,h,hn=>absurd (Nat.eq_one_of_dvd_one h) hn
 |l::L,hp,g,h,hn=>by
  have hl:=hp l (List.mem_cons_self ..)
  rcases hl.dv (Nat.gcd g l) (Nat.gcd_dvd_right g l) with h1|h1
  ·have:=Nat.Coprime.dvd_of_dvd_mul_left (k:=g) (m:=l) (n:=fy L) h1 h
   exact ⟨l,List.mem_cons_self ..,by rw [fy,Nat.mul_comm g l];exact Nat.mul_dvd_mul_left l this⟩
  ·have hlg:l∣g:=h1▸Nat.gcd_dvd_left g l
   obtain ⟨g',rfl⟩:=hlg
   have h0:0<l:=by have:=hl.gt;omega
   have h2:g'∣fy L:=Nat.dvd_of_mul_dvd_mul_left h0 h
   obtain ⟨l',m1,m2⟩:=BL L (fun x hx=>hp x (List.mem_cons_of_mem _ hx)) g' h2 (fun q=>hn (by rw [q];rfl))
   exact ⟨l',List.mem_cons_of_mem _ m1,by rw [fy,Nat.mul_assoc];exact Nat.mul_dvd_mul_left l m2⟩
theorem zM:∀(r N:Nat) (f:Nat→Nat),(∀i,i<N→f i<r)→(∀i j,i<j→j<N→f i≠f j)→N≤r
 |0,N,f,h1,_=>by
  cases N with
  |zero=>omega
  |succ N=>have:=h1 0 (by omega);omega
 |r+1,N,f,h1,h2=>by
  by_cases hc:∃i,i<N∧f i=r
  ·obtain ⟨k,k1,k2⟩:=hc
   have:=zM r (N-1) (fun i=>if i=k then f (N-1) else f i) (fun i hi=>by
    show (if i=k then f (N-1) else f i)<r
    by_cases hik:i=k
    ·rw [if_pos hik]
     have a:=h1 (N-1) (by omega)
     have b:=h2 k (N-1) (by omega) (by omega)
     omega
    ·rw [if_neg hik]
     have a:=h1 i (by omega)
     have b:f i≠r:=by
      rw [←k2]
      by_cases hlt:i<k
      ·exact h2 i k hlt k1
      ·exact (h2 k i (by omega) (by omega)).symm
     omega) (fun i j hij hj=>by
    show (if i=k then f (N-1) else f i)≠(if j=k then f (N-1) else f j)
    by_cases hik:i=k
    ·rw [if_pos hik,if_neg (by omega)]
     exact (h2 j (N-1) (by omega) (by omega)).symm
    ·rw [if_neg hik]
     by_cases hjk:j=k
     ·rw [if_pos hjk]
      exact h2 i (N-1) (by omega) (by omega)
     ·rw [if_neg hjk]
      exact h2 i j hij (by omega))
   omega
  ·have:=zM r N f (fun i hi=>by
    have a:=h1 i hi
    have b:f i≠r:=fun q=>hc ⟨i,hi,q⟩
    omega) h2
   omega
theorem BM {r:Nat} (f:Nat→Nat) (hr:0<r) (h1:∀i,i<r-1→0<f i∧f i<r) (h2:∀i j,i<j→j<r-1→f i≠f j) {y:Nat} (y0:0<y) (y1:y<r):∃i,i<r-1∧f i=y:=by
 refine Classical.byContradiction fun hc=>?_
 have hy:∀i,i<r-1→f i≠y:=fun i hi q=>hc ⟨i,hi,q⟩
 have:=zM r (r+1) (fun i=>if i<r-1 then f i else if i=r-1 then 0 else y) (fun i hi=>by
  show (if i<r-1 then f i else if i=r-1 then 0 else y)<r
  by_cases a:i<r-1
  ·rw [if_pos a];exact (h1 i a).2
  ·rw [if_neg a]
   by_cases b:i=r-1
   ·rw [if_pos b];exact hr
   ·rw [if_neg b];exact y1) (fun i j hij hj=>by
  show (if i<r-1 then f i else if i=r-1 then 0 else y)≠(if j<r-1 then f j else if j=r-1 then 0 else y)
  by_cases a:i<r-1
  ·rw [if_pos a]
   by_cases a':j<r-1
   ·rw [if_pos a'];exact h2 i j hij a'
   ·rw [if_neg a']
    by_cases b:j=r-1
    ·rw [if_pos b];have:=(h1 i a).1;omega
    ·rw [if_neg b];exact hy i a
  ·rw [if_neg a,if_neg (show ¬j<r-1 by omega),if_neg (show ¬j=r-1 by omega)]
   by_cases b:i=r-1
   ·rw [if_pos b];omega
   ·omega)
 omega
structure Cert (n b:Nat) (L:List Nat):Prop where
 pr:∀l∈L,jR l
 one:b^fy L%n=1%n
 ne:∀l∈L,∃e,fy L=e*l∧Nat.gcd (b^e%n+n-1) n=1
theorem Cert.distinct {n b:Nat} {L:List Nat} (h:Cert n b L) {r:Nat} (r1:1<r) (hr:r∣n) (hn:0<n):∀i j,i<j→j<fy L→b^i%r≠b^j%r:=by
 intro i j hij hj he
 have h1:b^fy L%r=1%r:=by rw [←Nat.mod_mod_of_dvd (b^fy L) hr,h.one,Nat.mod_mod_of_dvd 1 hr]
 have h2:=RH (j-i) (fy L) (LL h1 hij hj he) h1
 obtain ⟨l,l1,l2⟩:=BL L h.pr _ (Nat.gcd_dvd_right (j-i) (fy L)) (fun q=>by
  have:=Nat.le_of_dvd (by omega) (q▸Nat.gcd_dvd_left (j-i) (fy L))
  omega)
 obtain ⟨e,e1,e2⟩:=h.ne l l1
 rw [e1] at l2
 have Ei:0<l:=by have:=(h.pr l l1).gt;omega
 obtain ⟨k,hk⟩:=Nat.dvd_of_mul_dvd_mul_right Ei l2
 rw [←e1] at hk
 have h3:b^e%r=1%r:=by
  have:=zL h2 k 0
  rw [Nat.add_zero, ←hk,Nat.pow_zero] at this
  exact this
 have h4:b^e%n%r=1:=by rw [Nat.mod_mod_of_dvd _ hr,h3,Nat.mod_eq_of_lt r1]
 have h5:r∣b^e%n+n-1:=by
  have h6:=Nat.div_add_mod (b^e%n) r
  rw [h4] at h6
  rw [show b^e%n+n-1=r*(b^e%n/r)+n by omega]
  exact Nat.dvd_add (Nat.dvd_mul_right _ _) hr
 have:=Nat.dvd_gcd h5 hr
 rw [e2] at this
 have:=Nat.eq_one_of_dvd_one this
 omega
theorem Cert.prime {n b:Nat} {L:List Nat} (h:Cert n b L) (hn:1<n) (hF:n<fy L*fy L):jR n:=by
 refine jR.of hn fun r r1 r2 r3=>?_
 have:=zM r (fy L) (fun i=>b^i%r) (fun i _=>Nat.mod_lt _ (by omega)) (h.distinct r1 r2 (by omega))
 have:=Nat.mul_le_mul this this
 omega
def pgS (m x a:Nat) (b:Bool):Nat:=bif b then a*a%m*x%m else a*a%m
def XZ (m x n:Nat):Nat→Nat
 |0=>1%m
 |j+1=>pgS m x (XZ m x n j) (Nat.beq (n/2^(255-j)%2) 1)
theorem LM (m x n:Nat) (hn:n<2^256):∀j,j≤256→XZ m x n j=x^(n/2^(256-j))%m
 |0,_=>by
  rw [XZ,Nat.sub_zero,Nat.div_eq_of_lt hn,Nat.pow_zero]
 |j+1,h=>by
  have ih:=LM m x n hn j (by omega)
  have hE:n/2^(256-(j+1))=2*(n/2^(256-j))+n/2^(255-j)%2:=by
   have h1:n/2^(256-j)=n/2^(255-j)/2:=by
    rw [Nat.div_div_eq_div_mul,show 256-j=(255-j)+1 by omega,Nat.pow_succ]
   rw [h1,show 256-(j+1)=255-j by omega]
   omega
  have RI:x^(n/2^(256-j))%m*(x^(n/2^(256-j))%m)%m=x^(2*(n/2^(256-j)))%m:=by
   rw [←Nat.mul_mod, ←Nat.pow_add];congr 2;omega
  rw [XZ,ih,hE]
  unfold pgS
  cases hb:Nat.beq (n/2^(255-j)%2) 1 with
  |true=>
   have hb':=Nat.eq_of_beq_eq_true hb
   rw [hb',cond_true,RI,Nat.pow_succ,Nat.mod_mul_mod]
  |false=>
   have hb':n/2^(255-j)%2=0:=by
    have:¬n/2^(255-j)%2=1:=fun q=>by rw [q] at hb;cases hb
    omega
   rw [hb',cond_false,RI,Nat.add_zero]
theorem Lq (m x:Nat) {n:Nat} (hn:n<2^256):x^n%m=XZ m x n 256:=by
 rw [LM m x n hn 256 (Nat.le_refl _),Nat.sub_self,Nat.pow_zero,Nat.div_one]
def Vi (n b F:Nat) (L:List Nat):Bool:=
 Nat.beq (fy L) F&&(Nat.blt F (2^256)&&(Nat.beq (XZ n b F 256) 1&&(Nat.blt 1 n&&
  L.all fun l=>Nat.beq (F/l*l) F&&Nat.beq (Nat.gcd (XZ n b (F/l) 256+n-1) n) 1)))
theorem Cert.mk' {n b F:Nat} {L:List Nat} (h:Vi n b F L=true) (hp:∀l∈L,jR l):Cert n b L∧1<n∧fy L=F∧F<2^256:=by
 unfold Vi at h
 rw [Bool.and_eq_true,Bool.and_eq_true,Bool.and_eq_true,Bool.and_eq_true] at h
 obtain ⟨h1,h2,h3,h4,h5⟩:=h
 have h1:=Nat.eq_of_beq_eq_true h1
 have h2:F<2^256:=Nat.le_of_ble_eq_true h2
 have h3:=Nat.eq_of_beq_eq_true h3
 have h4:1<n:=Nat.le_of_ble_eq_true h4
 refine ⟨⟨hp,?_,fun l hl=>?_⟩,h4,h1,h2⟩
 ·rw [h1,Lq n b h2,h3,Nat.mod_eq_of_lt h4]
 ·have:=List.all_eq_true.1 h5 l hl
  rw [Bool.and_eq_true] at this
  refine ⟨F/l,?_,?_⟩
  ·rw [h1];exact (Nat.eq_of_beq_eq_true this.1).symm
  ·rw [Lq n b (Nat.lt_of_le_of_lt (Nat.div_le_self F l) h2)]
   exact Nat.eq_of_beq_eq_true this.2
end Go.Proofs.YtibfpjeeanppjaaGreat.La
namespace Go.Proofs.YtibfpjeeanppjaaGreat.La
open Go Go.Sy Re Fe
def mm (a b:Int):Int:=a*b%Pm
def ma (a b:Int):Int:=(a+b)%Pm
def ms (a b:Int):Int:=(a-b)%Pm
def inv (a:Int):Int:=tJ a (Pm-2).toNat
theorem mod_range (a:Int):0≤a%Pm∧a%Pm<Pm:=⟨Int.emod_nonneg _ (by have:=g9;omega),Int.emod_lt_of_pos _ g9⟩
def PN:Nat:=57896044618658097711785492504343953926634992332820282019728792003956564819949
theorem yw:((PN:Nat):Int)=Pm:=by decide
theorem pr2:jR 2:=jR.pn 0 (by decide)
theorem pr3:jR 3:=jR.pn 1 (by decide)
theorem adT:jR 127:=jR.pn 11 (by decide+kernel)
theorem X0:jR 4153:=jR.pn 64 (by decide+kernel)
theorem RJ:jR 65147:=jR.pn 255 (by decide+kernel)
theorem RK:jR 75707:=jR.pn 275 (by decide+kernel)
theorem LO:jR 430751:=jR.pn 656 (by decide+kernel)
theorem IB:jR 8574133:=jR.pn 2928 (by decide+kernel)
theorem prU:jR 1919519569386763:=by
 have h:=Cert.mk' (n:=1919519569386763) (b:=354538099852037) (F:=1088914891) (L:=[8574133,127]) (by decide+kernel) (by
  intro l hl
  simp only [List.mem_cons,List.not_mem_nil,or_false] at hl
  rcases hl with rfl|rfl
  ·exact IB
  ·exact adT)
 exact h.1.prime h.2.1 (by rw [h.2.2.1];decide)
theorem prT:jR 31757755568855353:=by
 have h:=Cert.mk' (n:=31757755568855353) (b:=26222887164197666) (F:=1788908903) (L:=[430751,4153]) (by decide+kernel) (by
  intro l hl
  simp only [List.mem_cons,List.not_mem_nil,or_false] at hl
  rcases hl with rfl|rfl
  ·exact LO
  ·exact X0)
 exact h.1.prime h.2.1 (by rw [h.2.2.1];decide)
theorem prS:jR 75445702479781427272750846543864801:=by
 have h:=Cert.mk' (n:=75445702479781427272750846543864801) (b:=66628784550627212900504873757094751) (F:=145321068039563666441) (L:=[1919519569386763,75707]) (by decide+kernel) (by
  intro l hl
  simp only [List.mem_cons,List.not_mem_nil,or_false] at hl
  rcases hl with rfl|rfl
  ·exact prU
  ·exact RK)
 exact h.1.prime h.2.1 (by rw [h.2.2.1];decide)
theorem prQ:jR 74058212732561358302231226437062788676166966415465897661863160754340907:=by
 have h:=Cert.mk' (n:=74058212732561358302231226437062788676166966415465897661863160754340907) (b:=32917242187670345156894797748588826076355976820526874250530785709567478) (F:=75445702479781427272750846543864801*31757755568855353) (L:=[75445702479781427272750846543864801,31757755568855353]) (by decide+kernel) (by
  intro l hl
  simp only [List.mem_cons,List.not_mem_nil,or_false] at hl
  rcases hl with rfl|rfl
  ·exact prS
  ·exact prT)
 exact h.1.prime h.2.1 (by rw [h.2.2.1];decide)
def PF:Nat:=57896044618658097711785492504343953926634992332820282019728792003956564819948
def PL:List Nat:=[2,2,3,65147,74058212732561358302231226437062788676166966415465897661863160754340907]
theorem Vj:PF+1=PN:=by decide
theorem nH:Cert PN 2 PL∧1<PN∧fy PL=PF∧PF<2^256:=Cert.mk' (by decide+kernel) (by
 intro l hl
 simp only [PL,List.mem_cons,List.not_mem_nil,or_false] at hl
 rcases hl with rfl|rfl|rfl|rfl|rfl
 ·exact pr2
 ·exact pr2
 ·exact pr3
 ·exact RJ
 ·exact prQ)
theorem adU:PN<PF*PF:=by decide
theorem prP:jR PN:=nH.1.prime nH.2.1 (by rw [nH.2.2.1];exact adU)
theorem LP:2^PF%PN=1:=by
 have:=nH.1.one
 rw [nH.2.2.1,Nat.mod_eq_of_lt nH.2.1] at this
 exact this
theorem RL {m:Nat} (h0:0<m) (h1:m<PN):∃i,2^i%PN=m:=by
 have hp:=nH.2.1
 obtain ⟨i,_,h⟩:=BM (r:=PN) (fun i=>2^i%PN) (by omega) (fun i hi=>by
  refine ⟨?_,Nat.mod_lt _ (by omega)⟩
  show 0<2^i%PN
  rcases Nat.eq_zero_or_pos (2^i%PN) with hz|hz
  ·have e:=LP
   have hi':i≤PF:=by have:=Vj;omega
   obtain ⟨c,hc⟩:=Nat.exists_eq_add_of_le hi'
   rw [hc,Nat.pow_add,Nat.mul_mod,hz,Nat.zero_mul,Nat.zero_mod] at e
   cases e
  ·exact hz) (fun i j hij hj=>by
  have:=nH.1.distinct hp (Nat.dvd_refl _) (by omega) i j hij (by rw [nH.2.2.1];have:=Vj;omega)
  exact this) h0 h1
 exact ⟨i,h⟩
theorem Lr {m:Nat} (h0:0<m) (h1:m<PN):m^PF%PN=1:=by
 obtain ⟨i,rfl⟩:=RL h0 h1
 rw [←Nat.pow_mod, ←Nat.pow_mul,Nat.mul_comm,Nat.pow_mul,Nat.pow_mod,LP,Nat.one_pow]
 exact Nat.mod_eq_of_lt nH.2.1
theorem sI {a b:Nat} (h:PN∣a*b):PN∣a∨PN∣b:=by
 rcases prP.dv (Nat.gcd PN a) (Nat.gcd_dvd_left ..) with h1|h1
 ·exact .inr (Nat.Coprime.dvd_of_dvd_mul_left h1 h)
 ·exact .inl (h1▸Nat.gcd_dvd_right PN a)
abbrev Fp:=Fin PN
instance:NeZero PN:=⟨by decide⟩
theorem dM {a b:Fp} (h:a*b=0):a=0∨b=0:=by
 have h1:a.val*b.val%PN=0:=congrArg Fin.val h
 rcases sI (Nat.dvd_of_mod_eq_zero h1) with h2|h2
 ·refine .inl (Fin.ext ?_)
  have:=Nat.eq_zero_of_dvd_of_lt h2 a.isLt
  exact this
 ·refine .inr (Fin.ext ?_)
  have:=Nat.eq_zero_of_dvd_of_lt h2 b.isLt
  exact this
def ph (x:Int):Fp:=Fin.ofNat PN (x%Pm).toNat
theorem Ej {x:Int} (h0:0≤x) (h1:x<Pm):((ph x).val:Int)=x:=by
 show (((x%Pm).toNat%PN:Nat):Int)=x
 rw [Int.emod_eq_of_lt h0 h1,Int.natCast_emod,yw,Int.toNat_of_nonneg h0,Int.emod_eq_of_lt h0 h1]
theorem LQ (a:Fp):ph (a.val:Int)=a:=by
 refine Fin.ext ?_
 show ((a.val:Int)%Pm).toNat%PN=a.val
 rw [←yw, ←Int.natCast_emod,Int.toNat_natCast,Nat.mod_mod,Nat.mod_eq_of_lt a.isLt]
theorem jT (x:Int):ph (x%Pm)=ph x:=by
 unfold ph
 rw [Int.emod_emod]
theorem adV {x y:Int} (h:ph x=ph y):x%Pm=y%Pm:=by
 have h1:=congrArg (fun a:Fp=>((a.val:Nat):Int)) h
 have e:∀x:Int,((ph x).val:Int)=x%Pm:=fun x=>by
  rw [←jT,Ej (mod_range x).1 (mod_range x).2]
 rw [←e, ←e];exact h1
theorem LS {x:Int} {a:Fp} (h:x%Pm=(a.val:Int)):ph x=a:=by
 rw [←LQ a, ←h,jT]
theorem sJ (x:Int):((ph x).val:Int)=x%Pm:=by
 rw [←jT,Ej (mod_range x).1 (mod_range x).2]
theorem LU (x y:Int):ph (x*y)=ph x*ph y:=by
 refine LS ?_
 show x*y%Pm=(((ph x).val*(ph y).val%PN:Nat):Int)
 rw [Int.natCast_emod,Int.natCast_mul,sJ,sJ,yw, ←Int.mul_emod]
theorem X1 (x y:Int):ph (x+y)=ph x+ph y:=by
 refine LS ?_
 show (x+y)%Pm=((((ph x).val+(ph y).val)%PN:Nat):Int)
 rw [Int.natCast_emod,Int.natCast_add,sJ,sJ,yw, ←Int.add_emod]
theorem X2 (x y:Int):ph (x-y)=ph x-ph y:=by
 refine LS ?_
 show (x-y)%Pm=((((PN-(ph y).val)+(ph x).val)%PN:Nat):Int)
 rw [Int.natCast_emod,Int.natCast_add,Int.natCast_sub (Nat.le_of_lt (ph y).isLt),sJ,sJ,yw]
 rw [show Pm-y%Pm+x%Pm=(x%Pm-y%Pm)+Pm*1 by omega,Int.add_mul_emod_self_left, ←Int.sub_emod]
theorem tK (x y:Int):ph (mm x y)=ph x*ph y:=by unfold mm;rw [jT,LU]
theorem Gt (x y:Int):ph (ma x y)=ph x+ph y:=by unfold ma;rw [jT,X1]
theorem Gu (x y:Int):ph (ms x y)=ph x-ph y:=by unfold ms;rw [jT,X2]
theorem lQ:ph 0=0:=rfl
theorem vQ:ph 1=1:=by decide
theorem Eh {x y:Int} (hx:0≤x∧x<Pm) (hy:0≤y∧y<Pm) (h:ph x=ph y):x=y:=by
 have:=adV h
 rw [Int.emod_eq_of_lt hx.1 hx.2,Int.emod_eq_of_lt hy.1 hy.2] at this
 exact this
def fi (a:Fp):Fp:=ph (inv a.val)
theorem cX {a:Fp} (h:a≠0):a*fi a=1:=by
 have ha:0<a.val:=Nat.pos_of_ne_zero fun q=>h (Fin.ext q)
 have hf:=Lr ha a.isLt
 have hk:(Pm-2).toNat+1=PF:=by decide
 rw [←hk,Nat.pow_succ] at hf
 have key:(a.val:Int)*inv (a.val:Int)%Pm=1:=by
  unfold inv tJ
  generalize (Pm-2).toNat=k at hf ⊢
  rw [←yw, ←Int.natCast_pow, ←Int.natCast_emod, ←Int.natCast_mul, ←Int.natCast_emod,Nat.mul_mod_mod,Nat.mul_comm,hf]
  rfl
 have h1:ph ((a.val:Int)*inv (a.val:Int))=1:=by rw [←jT,key,vQ]
 rw [LU,LQ] at h1
 exact h1
theorem X3 (x:Int) (h0:0≤x) (h1:x<Pm):ph (inv x)=fi (ph x):=by
 unfold fi
 rw [Ej h0 h1]
end Go.Proofs.YtibfpjeeanppjaaGreat.La
end
section
namespace Go.Proofs.YtibfpjeeanppjaaGreat.La
open Go Go.Sy Re Fe
abbrev S4:=Int×Int×Int×Int
def dX (x z:Int):Int:=mm (mm (ma x z) (ma x z)) (mm (ms x z) (ms x z))
def dE (x z:Int):Int:=ms (mm (ma x z) (ma x z)) (mm (ms x z) (ms x z))
def dZ (x z:Int):Int:=mm (dE x z) (ma (mm (ma x z) (ma x z)) (mm 121665 (dE x z)))
def aL (x z x' z':Int):Int:=mm (ms x' z') (ma x z)
def aR (x z x' z':Int):Int:=mm (ma x' z') (ms x z)
def aX (x z x' z':Int):Int:=mm (ma (aL x z x' z') (aR x z x' z')) (ma (aL x z x' z') (aR x z x' z'))
def aZ (u x z x' z':Int):Int:=mm u (mm (ms (aL x z x' z') (aR x z x' z')) (ms (aL x z x' z') (aR x z x' z')))
def Rg (u:Int) (bit:Bool) (s:S4):S4:=
 bif bit then (aX s.2.2.1 s.2.2.2 s.1 s.2.1,aZ u s.2.2.1 s.2.2.2 s.1 s.2.1,dX s.2.2.1 s.2.2.2,dZ s.2.2.1 s.2.2.2)
 else (dX s.1 s.2.1,dZ s.1 s.2.1,aX s.1 s.2.1 s.2.2.1 s.2.2.2,aZ u s.1 s.2.1 s.2.2.1 s.2.2.2)
def run (u:Int) (bits:Nat→Bool) (s:S4):Nat→S4
 |0=>s
 |j+1=>Rg u (bits j) (run u bits s j)
theorem BN (u:Int) (bits:Nat→Bool) (s:S4):∀n,run u bits s (n+1)=run u (fun j=>bits (j+1)) (Rg u (bits 0) s) n
 |0=>rfl
 |n+1=>by rw [run,BN u bits s n,run]
def fin (s:S4):Int:=mm s.1 (inv s.2.1)
section
variable {n:Nat} [NeZero n] (a b x z x' z' u k:Fin n)
theorem adW:((a*x+a*z)*(a*x+a*z))*((a*x-a*z)*(a*x-a*z))=(a*a*(a*a))*(((x+z)*(x+z))*((x-z)*(x-z))):=by grobner
theorem adX:((a*x+a*z)*(a*x+a*z)-(a*x-a*z)*(a*x-a*z))*((a*x+a*z)*(a*x+a*z)+k*((a*x+a*z)*(a*x+a*z)-(a*x-a*z)*(a*x-a*z)))=
  (a*a*(a*a))*(((x+z)*(x+z)-(x-z)*(x-z))*((x+z)*(x+z)+k*((x+z)*(x+z)-(x-z)*(x-z)))):=by grobner
theorem adY:((b*x'-b*z')*(a*x+a*z)+(b*x'+b*z')*(a*x-a*z))*((b*x'-b*z')*(a*x+a*z)+(b*x'+b*z')*(a*x-a*z))=
  (a*b*(a*b))*(((x'-z')*(x+z)+(x'+z')*(x-z))*((x'-z')*(x+z)+(x'+z')*(x-z))):=by grobner
theorem adZ:u*(((b*x'-b*z')*(a*x+a*z)-(b*x'+b*z')*(a*x-a*z))*((b*x'-b*z')*(a*x+a*z)-(b*x'+b*z')*(a*x-a*z)))=
  (a*b*(a*b))*(u*(((x'-z')*(x+z)-(x'+z')*(x-z))*((x'-z')*(x+z)-(x'+z')*(x-z)))):=by grobner
theorem i_e (h:x*z=0):(x+z)*(x+z)-(x-z)*(x-z)=0:=by grobner
theorem i_t:((u-1)*(1+0)+(u+1)*(1-0))*((u-1)*(1+0)+(u+1)*(1-0))=(4*u)*u:=by grobner
theorem aiZ:u*(((u-1)*(1+0)-(u+1)*(1-0))*((u-1)*(1+0)-(u+1)*(1-0)))=(4*u)*1:=by grobner
end
theorem IA (x z:Int):ph (dX x z)=((ph x+ph z)*(ph x+ph z))*((ph x-ph z)*(ph x-ph z)):=by unfold dX;simp only [tK,Gt,Gu]
theorem Ef (x z:Int):ph (dZ x z)=((ph x+ph z)*(ph x+ph z)-(ph x-ph z)*(ph x-ph z))*((ph x+ph z)*(ph x+ph z)+ph 121665*((ph x+ph z)*(ph x+ph z)-(ph x-ph z)*(ph x-ph z))):=by unfold dZ dE;simp only [tK,Gt,Gu]
theorem Ee (x z x' z':Int):ph (aX x z x' z')=((ph x'-ph z')*(ph x+ph z)+(ph x'+ph z')*(ph x-ph z))*((ph x'-ph z')*(ph x+ph z)+(ph x'+ph z')*(ph x-ph z)):=by unfold aX aL aR;simp only [tK,Gt,Gu]
theorem BK (u x z x' z':Int):ph (aZ u x z x' z')=ph u*(((ph x'-ph z')*(ph x+ph z)-(ph x'+ph z')*(ph x-ph z))*((ph x'-ph z')*(ph x+ph z)-(ph x'+ph z')*(ph x-ph z))):=by unfold aZ aL aR;simp only [tK,Gt,Gu]
structure Sc (a b:Fp) (s t:S4):Prop where
 x0:ph s.1=a*ph t.1
 z0:ph s.2.1=a*ph t.2.1
 x1:ph s.2.2.1=b*ph t.2.2.1
 z1:ph s.2.2.2=b*ph t.2.2.2
def Sn (s t:S4):Prop:=∃a b:Fp,a≠0∧b≠0∧Sc a b s t
theorem cS {a b:Fp} (ha:a≠0) (hb:b≠0):a*b≠0:=fun h=>(dM h).elim ha hb
theorem X4 {u:Int} {bit:Bool} {s t:S4} (h:Sn s t):Sn (Rg u bit s) (Rg u bit t):=by
 obtain ⟨a,b,ha,hb,h0,h1,h2,h3⟩:=h
 cases bit with
 |true=>
  refine ⟨b*a*(b*a),b*b*(b*b),cS (cS hb ha) (cS hb ha),cS (cS hb hb) (cS hb hb),?_,?_,?_,?_⟩
  ·show ph (aX s.2.2.1 s.2.2.2 s.1 s.2.1)=_*ph (aX t.2.2.1 t.2.2.2 t.1 t.2.1)
   rw [Ee,Ee,h0,h1,h2,h3,adY]
  ·show ph (aZ u s.2.2.1 s.2.2.2 s.1 s.2.1)=_*ph (aZ u t.2.2.1 t.2.2.2 t.1 t.2.1)
   rw [BK,BK,h0,h1,h2,h3,adZ]
  ·show ph (dX s.2.2.1 s.2.2.2)=_*ph (dX t.2.2.1 t.2.2.2)
   rw [IA,IA,h2,h3,adW]
  ·show ph (dZ s.2.2.1 s.2.2.2)=_*ph (dZ t.2.2.1 t.2.2.2)
   rw [Ef,Ef,h2,h3,adX]
 |false=>
  refine ⟨a*a*(a*a),a*b*(a*b),cS (cS ha ha) (cS ha ha),cS (cS ha hb) (cS ha hb),?_,?_,?_,?_⟩
  ·show ph (dX s.1 s.2.1)=_*ph (dX t.1 t.2.1)
   rw [IA,IA,h0,h1,adW]
  ·show ph (dZ s.1 s.2.1)=_*ph (dZ t.1 t.2.1)
   rw [Ef,Ef,h0,h1,adX]
  ·show ph (aX s.1 s.2.1 s.2.2.1 s.2.2.2)=_*ph (aX t.1 t.2.1 t.2.2.1 t.2.2.2)
   rw [Ee,Ee,h0,h1,h2,h3,adY]
  ·show ph (aZ u s.1 s.2.1 s.2.2.1 s.2.2.2)=_*ph (aZ u t.1 t.2.1 t.2.2.1 t.2.2.2)
   rw [BK,BK,h0,h1,h2,h3,adZ]
theorem LV {u:Int} {bits:Nat→Bool} {s t:S4} (h:Sn s t):∀n,Sn (run u bits s n) (run u bits t n)
 |0=>h
 |n+1=>X4 (LV h n)
theorem BO (x m:Int):∀k:Nat,(x%m)^k%m=x^k%m
 |0=>by rw [Int.pow_zero,Int.pow_zero]
 |k+1=>by rw [Int.pow_succ,Int.pow_succ,Int.mul_emod,BO x m k,Int.emod_emod, ←Int.mul_emod]
theorem uU (x:Int):ph (inv x)=fi (ph x):=by
 have e:inv x=inv (x%Pm):=by
  unfold inv tJ
  generalize (Pm-2).toNat=k
  exact (BO x Pm k).symm
 rw [e,X3 _ (mod_range x).1 (mod_range x).2,jT]
theorem Gv:fi 0=0:=by
 unfold fi inv tJ
 have h0:(((0:Fp).val:Nat):Int)=0:=rfl
 rw [h0]
 have h1:(0:Int)^(Pm-2).toNat=0:=Int.zero_pow (by decide)
 rw [h1];rfl
theorem Gr {a z:Fp} (ha:a≠0):a*fi (a*z)=fi z:=by
 by_cases hz:z=0
 ·subst hz
  rw [show a*0=(0:Fp) by grobner,Gv];grobner
 ·have h1:=cX (cS ha hz)
  have h2:=cX hz
  generalize fi (a*z)=f at h1 ⊢
  generalize fi z=g at h2 ⊢
  clear ha hz
  grobner
theorem X5 {s t:S4} (h:Sn s t):fin s=fin t:=by
 obtain ⟨a,b,ha,hb,h0,h1,h2,h3⟩:=h
 refine Eh (mod_range _) (mod_range _) ?_
 unfold fin
 rw [tK,tK,uU,uU,h0,h1, ←Gr ha (z:=ph t.2.1)]
 generalize ph t.1=x
 generalize fi (a*ph t.2.1)=y
 grobner
def Zz (s:S4):Prop:=ph s.1*ph s.2.1=0∧ph s.2.2.1*ph s.2.2.2=0
theorem LW {u:Int} {bit:Bool} {s:S4} (hu:ph u=0) (h:Zz s):ph (Rg u bit s).2.1=0∧ph (Rg u bit s).2.2.2=0:=by
 have hd:∀x z:Int,ph x*ph z=0→ph (dZ x z)=0:=fun x z hx=>by
  rw [Ef,i_e _ _ hx];grobner
 have ha:∀x z x' z':Int,ph (aZ u x z x' z')=0:=fun x z x' z'=>by
  rw [BK,hu];grobner
 cases bit with
 |true=>exact ⟨ha _ _ _ _,hd _ _ h.2⟩
 |false=>exact ⟨hd _ _ h.1,ha _ _ _ _⟩
theorem LX {u:Int} {bits:Nat→Bool} {s:S4} (hu:ph u=0) (h:Zz s):∀n,Zz (run u bits s n)
 |0=>h
 |n+1=>by
  have k:=LW (bit:=bits n) hu (LX (bits:=bits) hu h n)
  unfold Zz
  rw [run,k.1,k.2]
  constructor<;>grobner
theorem LY {u:Int} {bits:Nat→Bool} {s:S4} (hu:ph u=0) (h:Zz s) (n:Nat):fin (run u bits s (n+1))=0:=by
 have k:=(LW (bit:=bits n) hu (LX (bits:=bits) hu h n)).1
 refine Eh (mod_range _) ⟨Int.le_refl _,g9⟩ ?_
 unfold fin
 rw [tK,uU,run,k,Gv,lQ]
 grobner
def DB (u:Int):S4:=(1,0,u,1)
theorem LZ {u:Int} (hu:ph u=0):Zz (DB u):=by
 constructor
 ·show ph 1*ph 0=0
  rw [lQ];grobner
 ·show ph u*ph 1=0
  rw [hu];grobner
theorem qP:(4:Fp)≠0:=by decide
theorem L0 {u:Int} (hu:ph u≠0):Sn (Rg u false (DB u)) (DB u):=by
 refine ⟨1,4*ph u,by decide,cS qP hu,?_,?_,?_,?_⟩
 ·show ph (dX 1 0)=1*ph 1
  decide
 ·show ph (dZ 1 0)=1*ph 0
  decide
 ·show ph (aX 1 0 u 1)=(4*ph u)*ph u
  rw [Ee,lQ,vQ,i_t]
 ·show ph (aZ u 1 0 u 1)=(4*ph u)*ph 1
  rw [BK,lQ,vQ,aiZ]
theorem XM (u:Int) (bits:Nat→Bool) (h:bits 0=false) (n:Nat):fin (run u bits (DB u) (n+2))=fin (run u (fun j=>bits (j+1)) (DB u) (n+1)):=by
 by_cases hu:ph u=0
 ·rw [LY hu (LZ hu),LY hu (LZ hu)]
 ·rw [BN,h]
  exact X5 (LV (L0 hu) _)
end Go.Proofs.YtibfpjeeanppjaaGreat.La
end
