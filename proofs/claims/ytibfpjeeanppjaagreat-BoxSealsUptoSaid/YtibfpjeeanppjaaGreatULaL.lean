/- This file holds the texts LaP, LaL, a section each. No conditions beyond those in the theorems. -/
import Derived.Test.YtibfpjeeanppjaaGreatUMh
set_option linter.all false
section
namespace Go.Proofs.YtibfpjeeanppjaaGreat.La
structure oH (n:Nat):Prop where
 gt:1<n
 dv:∀m,m∣n→m=1∨m=n
theorem Ke {n:Nat} (h:1<n):∃r,1<r∧r∣n∧∀m,1<m→m∣n→r≤m:=by
 have key:∀k m,m≤k→1<m→m∣n→∃r,1<r∧r∣n∧∀m,1<m→m∣n→r≤m:=by
  intro k
  induction k with
  |zero=>intro m h1 h2;omega
  |succ k ih=>
   intro m h1 h2 h3
   by_cases hc:∃m',m'≤k∧1<m'∧m'∣n
   ·obtain ⟨m',a,b,c⟩:=hc
    exact ih m' a b c
   ·refine ⟨m,h2,h3,fun m' h4 h5=>?_⟩
    by_cases hk:m'≤k
    ·exact absurd ⟨m',hk,h4,h5⟩ hc
    ·omega
 exact key n n (Nat.le_refl _) h (Nat.dvd_refl _)
theorem oH.of {n:Nat} (h:1<n) (hn:∀r,1<r→r∣n→r*r≤n→False):oH n:=by
 refine ⟨h,fun m hm=>?_⟩
 by_cases h1:m=1
 ·exact .inl h1
 refine .inr ?_
 obtain ⟨r,r1,r2,r3⟩:=Ke h
 have hm0:m≠0:=fun q=>by subst q;have:=Nat.eq_zero_of_zero_dvd hm;omega
 obtain ⟨k,hk⟩:=r2
 by_cases k1:k=1
 ·have:=r3 m (by omega) hm
  have h2:=Nat.le_of_dvd (by omega) hm
  rw [k1,Nat.mul_one] at hk
  omega
 ·have k0:k≠0:=fun q=>by rw [q,Nat.mul_zero] at hk;omega
  have:=r3 k (by omega) ⟨r,by rw [hk,Nat.mul_comm]⟩
  exact absurd (by have:=Nat.mul_le_mul_left r this;omega) (hn r r1 ⟨k,hk⟩)
def tdiv (n:Nat):Nat→Bool
 |0=>true
 |k+1=>Nat.blt 0 (n%(k+2))&&tdiv n k
theorem D8 {n:Nat}:∀k,tdiv n k=true→∀r,1<r→r≤k+1→¬r∣n
 |0,_,r,h1,h2,_=>by omega
 |k+1,h,r,h1,h2,h3=>by
  rw [tdiv,Bool.and_eq_true] at h
  by_cases hr:r=k+2
  ·subst hr
   have h4:=Nat.mod_eq_zero_of_dvd h3
   have h5:=h.1
   rw [h4] at h5
   cases h5
  ·exact D8 k h.2 r h1 (by omega) h3
theorem oH.rV {n:Nat} (k:Nat) (h:(Nat.blt 1 n&&(Nat.blt n ((k+2)*(k+2))&&tdiv n k))=true):oH n:=by
 rw [Bool.and_eq_true,Bool.and_eq_true] at h
 obtain ⟨h1,h2,h3⟩:=h
 have h2:n<(k+2)*(k+2):=Nat.le_of_ble_eq_true h2
 refine oH.of (Nat.le_of_ble_eq_true h1) fun r r1 r2 r3=>?_
 by_cases hr:r≤k+1
 ·exact D8 k h3 r r1 hr r2
 ·have:=Nat.mul_le_mul (show k+2≤r by omega) (show k+2≤r by omega)
  omega
theorem xO {b r m:Nat} (h:b^m%r=1%r) (k s:Nat):b^(m*k+s)%r=b^s%r:=by
 have h1:(b^m)^k%r=1%r:=by
  rw [Nat.pow_mod,h, ←Nat.pow_mod,Nat.one_pow]
 rw [Nat.pow_add,Nat.pow_mul,Nat.mul_mod,h1, ←Nat.mul_mod,Nat.one_mul]
theorem Pq {b r:Nat} (m n:Nat):b^m%r=1%r→b^n%r=1%r→b^(Nat.gcd m n)%r=1%r:=by
 induction m,n using Nat.gcd.induction with
 |H0 n=>intro _ h;rw [Nat.gcd_zero_left];exact h
 |H1 m n _ ih=>
  intro h1 h2
  rw [Nat.gcd_rec]
  refine ih ?_ h1
  rw [←xO h1 (n/m) (n%m),Nat.div_add_mod]
  exact h2
theorem Kf {b r F i j:Nat} (h:b^F%r=1%r) (hij:i<j) (hj:j<F) (he:b^i%r=b^j%r):b^(j-i)%r=1%r:=by
 have h1:b^(i+(F-i))%r=b^(j+(F-i))%r:=by
  rw [Nat.pow_add,Nat.mul_mod,he, ←Nat.mul_mod, ←Nat.pow_add]
 rw [show i+(F-i)=F by omega,show j+(F-i)=F*1+(j-i) by omega,xO h,h] at h1
 exact h1.symm
def eY:List Nat→Nat
 | []=>1
 |l::L=>l*eY L
theorem zY:∀(L:List Nat) (_:∀l∈L,oH l) (g:Nat),g∣eY L→g≠eY L→∃l,l∈L∧g*l∣eY L
 | [],_,g,h,hn=>absurd (Nat.eq_one_of_dvd_one h) hn
 |l::L,hp,g,h,hn=>by
  have hl:=hp l (List.mem_cons_self ..)
  rcases hl.dv (Nat.gcd g l) (Nat.gcd_dvd_right g l) with h1|h1
  ·have:=Nat.Coprime.dvd_of_dvd_mul_left (k:=g) (m:=l) (n:=eY L) h1 h
   exact ⟨l,List.mem_cons_self ..,by rw [eY,Nat.mul_comm g l];exact Nat.mul_dvd_mul_left l this⟩
  ·have hlg:l∣g:=h1▸Nat.gcd_dvd_left g l
   obtain ⟨g',rfl⟩:=hlg
   have h0:0<l:=by have:=hl.gt;omega
   have h2:g'∣eY L:=Nat.dvd_of_mul_dvd_mul_left h0 h
   obtain ⟨l',m1,m2⟩:=zY L (fun x hx=>hp x (List.mem_cons_of_mem _ hx)) g' h2 (fun q=>hn (by rw [q];rfl))
   exact ⟨l',List.mem_cons_of_mem _ m1,by rw [eY,Nat.mul_assoc];exact Nat.mul_dvd_mul_left l m2⟩
theorem xP:∀(r N:Nat) (f:Nat→Nat),(∀i,i<N→f i<r)→(∀i j,i<j→j<N→f i≠f j)→N≤r
 |0,N,f,h1,_=>by
  cases N with
  |zero=>omega
  |succ N=>have:=h1 0 (by omega);omega
 |r+1,N,f,h1,h2=>by
  by_cases hc:∃i,i<N∧f i=r
  ·obtain ⟨k,k1,k2⟩:=hc
   have:=xP r (N-1) (fun i=>if i=k then f (N-1) else f i) (fun i hi=>by
    show (if i=k then f (N-1) else f i)<r
    by_cases hik:i=k
    ·rw [if_pos hik]
     have a:=h1 (N-1) (by omega)
     have b:=h2 k (N-1) (by omega) (by omega)
     omega
    ·rw [if_neg hik]
     have a:=h1 i (by omega)
     have b:f i≠r:=by
      rw [←k2]
      by_cases hlt:i<k
      ·exact h2 i k hlt k1
      ·exact (h2 k i (by omega) (by omega)).symm
     omega) (fun i j hij hj=>by
    show (if i=k then f (N-1) else f i)≠(if j=k then f (N-1) else f j)
    by_cases hik:i=k
    ·rw [if_pos hik,if_neg (by omega)]
     exact (h2 j (N-1) (by omega) (by omega)).symm
    ·rw [if_neg hik]
     by_cases hjk:j=k
     ·rw [if_pos hjk]
      exact h2 i (N-1) (by omega) (by omega)
     ·rw [if_neg hjk]
      exact h2 i j hij (by omega))
   omega
  ·have:=xP r N f (fun i hi=>by
    have a:=h1 i hi
    have b:f i≠r:=fun q=>hc ⟨i,hi,q⟩
    omega) h2
   omega
theorem zZ {r:Nat} (f:Nat→Nat) (hr:0<r) (h1:∀i,i<r-1→0<f i∧f i<r) (h2:∀i j,i<j→j<r-1→f i≠f j) {y:Nat} (y0:0<y) (y1:y<r):∃i,i<r-1∧f i=y:=by
 refine Classical.byContradiction fun hc=>?_
 have hy:∀i,i<r-1→f i≠y:=fun i hi q=>hc ⟨i,hi,q⟩
 have:=xP r (r+1) (fun i=>if i<r-1 then f i else if i=r-1 then 0 else y) (fun i hi=>by
  show (if i<r-1 then f i else if i=r-1 then 0 else y)<r
  by_cases a:i<r-1
  ·rw [if_pos a];exact (h1 i a).2
  ·rw [if_neg a]
   by_cases b:i=r-1
   ·rw [if_pos b];exact hr
   ·rw [if_neg b];exact y1) (fun i j hij hj=>by
  show (if i<r-1 then f i else if i=r-1 then 0 else y)≠(if j<r-1 then f j else if j=r-1 then 0 else y)
  by_cases a:i<r-1
  ·rw [if_pos a]
   by_cases a':j<r-1
   ·rw [if_pos a'];exact h2 i j hij a'
   ·rw [if_neg a']
    by_cases b:j=r-1
    ·rw [if_pos b];have:=(h1 i a).1;omega
    ·rw [if_neg b];exact hy i a
  ·rw [if_neg a,if_neg (show ¬j<r-1 by omega),if_neg (show ¬j=r-1 by omega)]
   by_cases b:i=r-1
   ·rw [if_pos b];omega
   ·omega)
 omega
structure Cert (n b:Nat) (L:List Nat):Prop where
 pr:∀l∈L,oH l
 one:b^eY L%n=1%n
 ne:∀l∈L,∃e,eY L=e*l∧Nat.gcd (b^e%n+n-1) n=1
theorem Cert.distinct {n b:Nat} {L:List Nat} (h:Cert n b L) {r:Nat} (r1:1<r) (hr:r∣n) (hn:0<n):∀i j,i<j→j<eY L→b^i%r≠b^j%r:=by
 intro i j hij hj he
 have h1:b^eY L%r=1%r:=by rw [←Nat.mod_mod_of_dvd (b^eY L) hr,h.one,Nat.mod_mod_of_dvd 1 hr]
 have h2:=Pq (j-i) (eY L) (Kf h1 hij hj he) h1
 obtain ⟨l,l1,l2⟩:=zY L h.pr _ (Nat.gcd_dvd_right (j-i) (eY L)) (fun q=>by
  have:=Nat.le_of_dvd (by omega) (q▸Nat.gcd_dvd_left (j-i) (eY L))
  omega)
 obtain ⟨e,e1,e2⟩:=h.ne l l1
 rw [e1] at l2
 have B6:0<l:=by have:=(h.pr l l1).gt;omega
 obtain ⟨k,hk⟩:=Nat.dvd_of_mul_dvd_mul_right B6 l2
 rw [←e1] at hk
 have h3:b^e%r=1%r:=by
  have:=xO h2 k 0
  rw [Nat.add_zero, ←hk,Nat.pow_zero] at this
  exact this
 have h4:b^e%n%r=1:=by rw [Nat.mod_mod_of_dvd _ hr,h3,Nat.mod_eq_of_lt r1]
 have h5:r∣b^e%n+n-1:=by
  have h6:=Nat.div_add_mod (b^e%n) r
  rw [h4] at h6
  rw [show b^e%n+n-1=r*(b^e%n/r)+n by omega]
  exact Nat.dvd_add (Nat.dvd_mul_right _ _) hr
 have:=Nat.dvd_gcd h5 hr
 rw [e2] at this
 have:=Nat.eq_one_of_dvd_one this
 omega
theorem Cert.prime {n b:Nat} {L:List Nat} (h:Cert n b L) (hn:1<n) (hF:n<eY L*eY L):oH n:=by
 refine oH.of hn fun r r1 r2 r3=>?_
 have:=xP r (eY L) (fun i=>b^i%r) (fun i _=>Nat.mod_lt _ (by omega)) (h.distinct r1 r2 (by omega))
 have:=Nat.mul_le_mul this this
 omega
def pgS (m x a:Nat) (b:Bool):Nat:=bif b then a*a%m*x%m else a*a%m
def SG (m x n:Nat):Nat→Nat
 |0=>1%m
 |j+1=>pgS m x (SG m x n j) (Nat.beq (n/2^(255-j)%2) 1)
theorem Kg (m x n:Nat) (hn:n<2^256):∀j,j≤256→SG m x n j=x^(n/2^(256-j))%m
 |0,_=>by
  rw [SG,Nat.sub_zero,Nat.div_eq_of_lt hn,Nat.pow_zero]
 |j+1,h=>by
  have ih:=Kg m x n hn j (by omega)
  have hE:n/2^(256-(j+1))=2*(n/2^(256-j))+n/2^(255-j)%2:=by
   have h1:n/2^(256-j)=n/2^(255-j)/2:=by
    rw [Nat.div_div_eq_div_mul,show 256-j=(255-j)+1 by omega,Nat.pow_succ]
   rw [h1,show 256-(j+1)=255-j by omega]
   omega
  have Pr:x^(n/2^(256-j))%m*(x^(n/2^(256-j))%m)%m=x^(2*(n/2^(256-j)))%m:=by
   rw [←Nat.mul_mod, ←Nat.pow_add];congr 2;omega
  rw [SG,ih,hE]
  unfold pgS
  cases hb:Nat.beq (n/2^(255-j)%2) 1 with
  |true=>
   have hb':=Nat.eq_of_beq_eq_true hb
   rw [hb',cond_true,Pr,Nat.pow_succ,Nat.mod_mul_mod]
  |false=>
   have hb':n/2^(255-j)%2=0:=by
    have:¬n/2^(255-j)%2=1:=fun q=>by rw [q] at hb;cases hb
    omega
   rw [hb',cond_false,Pr,Nat.add_zero]
theorem Kc (m x:Nat) {n:Nat} (hn:n<2^256):x^n%m=SG m x n 256:=by
 rw [Kg m x n hn 256 (Nat.le_refl _),Nat.sub_self,Nat.pow_zero,Nat.div_one]
def SH (n b F:Nat) (L:List Nat):Bool:=
 Nat.beq (eY L) F&&(Nat.blt F (2^256)&&(Nat.beq (SG n b F 256) 1&&(Nat.blt 1 n&&
  L.all fun l=>Nat.beq (F/l*l) F&&Nat.beq (Nat.gcd (SG n b (F/l) 256+n-1) n) 1)))
theorem Cert.mk' {n b F:Nat} {L:List Nat} (h:SH n b F L=true) (hp:∀l∈L,oH l):Cert n b L∧1<n∧eY L=F∧F<2^256:=by
 unfold SH at h
 rw [Bool.and_eq_true,Bool.and_eq_true,Bool.and_eq_true,Bool.and_eq_true] at h
 obtain ⟨h1,h2,h3,h4,h5⟩:=h
 have h1:=Nat.eq_of_beq_eq_true h1
 have h2:F<2^256:=Nat.le_of_ble_eq_true h2
 have h3:=Nat.eq_of_beq_eq_true h3
 have h4:1<n:=Nat.le_of_ble_eq_true h4
 refine ⟨⟨hp,?_,fun l hl=>?_⟩,h4,h1,h2⟩
 ·rw [h1,Kc n b h2,h3,Nat.mod_eq_of_lt h4]
 ·have:=List.all_eq_true.1 h5 l hl
  rw [Bool.and_eq_true] at this
  refine ⟨F/l,?_,?_⟩
  ·rw [h1];exact (Nat.eq_of_beq_eq_true this.1).symm
  ·rw [Kc n b (Nat.lt_of_le_of_lt (Nat.div_le_self F l) h2)]
   exact Nat.eq_of_beq_eq_true this.2
end Go.Proofs.YtibfpjeeanppjaaGreat.La
namespace Go.Proofs.YtibfpjeeanppjaaGreat.La
open Go Go.Sy Re Fe
def mm (a b:Int):Int:=a*b%Pm
def ma (a b:Int):Int:=(a+b)%Pm
def ms (a b:Int):Int:=(a-b)%Pm
def inv (a:Int):Int:=qK a (Pm-2).toNat
theorem mod_range (a:Int):0≤a%Pm∧a%Pm<Pm:=⟨Int.emod_nonneg _ (by have:=gF;omega),Int.emod_lt_of_pos _ gF⟩
def PN:Nat:=57896044618658097711785492504343953926634992332820282019728792003956564819949
theorem rU:((PN:Nat):Int)=Pm:=by decide
theorem pr2:oH 2:=oH.rV 0 (by decide)
theorem pr3:oH 3:=oH.rV 1 (by decide)
theorem aaD:oH 127:=oH.rV 11 (by decide+kernel)
theorem VC:oH 4153:=oH.rV 64 (by decide+kernel)
theorem Pt:oH 65147:=oH.rV 255 (by decide+kernel)
theorem Pu:oH 75707:=oH.rV 275 (by decide+kernel)
theorem Kh:oH 430751:=oH.rV 656 (by decide+kernel)
theorem F3:oH 8574133:=oH.rV 2928 (by decide+kernel)
theorem prU:oH 1919519569386763:=by
 have h:=Cert.mk' (n:=1919519569386763) (b:=354538099852037) (F:=1088914891) (L:=[8574133,127]) (by decide+kernel) (by
  intro l hl
  simp only [List.mem_cons,List.not_mem_nil,or_false] at hl
  rcases hl with rfl|rfl
  ·exact F3
  ·exact aaD)
 exact h.1.prime h.2.1 (by rw [h.2.2.1];decide)
theorem prT:oH 31757755568855353:=by
 have h:=Cert.mk' (n:=31757755568855353) (b:=26222887164197666) (F:=1788908903) (L:=[430751,4153]) (by decide+kernel) (by
  intro l hl
  simp only [List.mem_cons,List.not_mem_nil,or_false] at hl
  rcases hl with rfl|rfl
  ·exact Kh
  ·exact VC)
 exact h.1.prime h.2.1 (by rw [h.2.2.1];decide)
theorem prS:oH 75445702479781427272750846543864801:=by
 have h:=Cert.mk' (n:=75445702479781427272750846543864801) (b:=66628784550627212900504873757094751) (F:=145321068039563666441) (L:=[1919519569386763,75707]) (by decide+kernel) (by
  intro l hl
  simp only [List.mem_cons,List.not_mem_nil,or_false] at hl
  rcases hl with rfl|rfl
  ·exact prU
  ·exact Pu)
 exact h.1.prime h.2.1 (by rw [h.2.2.1];decide)
theorem prQ:oH 74058212732561358302231226437062788676166966415465897661863160754340907:=by
 have h:=Cert.mk' (n:=74058212732561358302231226437062788676166966415465897661863160754340907) (b:=32917242187670345156894797748588826076355976820526874250530785709567478) (F:=75445702479781427272750846543864801*31757755568855353) (L:=[75445702479781427272750846543864801,31757755568855353]) (by decide+kernel) (by
  intro l hl
  simp only [List.mem_cons,List.not_mem_nil,or_false] at hl
  rcases hl with rfl|rfl
  ·exact prS
  ·exact prT)
 exact h.1.prime h.2.1 (by rw [h.2.2.1];decide)
def PF:Nat:=57896044618658097711785492504343953926634992332820282019728792003956564819948
def PL:List Nat:=[2,2,3,65147,74058212732561358302231226437062788676166966415465897661863160754340907]
theorem SI:PF+1=PN:=by decide
theorem od:Cert PN 2 PL∧1<PN∧eY PL=PF∧PF<2^256:=Cert.mk' (by decide+kernel) (by
 intro l hl
 simp only [PL,List.mem_cons,List.not_mem_nil,or_false] at hl
 rcases hl with rfl|rfl|rfl|rfl|rfl
 ·exact pr2
 ·exact pr2
 ·exact pr3
 ·exact Pt
 ·exact prQ)
theorem aaE:PN<PF*PF:=by decide
theorem prP:oH PN:=od.1.prime od.2.1 (by rw [od.2.2.1];exact aaE)
theorem Ki:2^PF%PN=1:=by
 have:=od.1.one
 rw [od.2.2.1,Nat.mod_eq_of_lt od.2.1] at this
 exact this
theorem Pv {m:Nat} (h0:0<m) (h1:m<PN):∃i,2^i%PN=m:=by
 have hp:=od.2.1
 obtain ⟨i,_,h⟩:=zZ (r:=PN) (fun i=>2^i%PN) (by omega) (fun i hi=>by
  refine ⟨?_,Nat.mod_lt _ (by omega)⟩
  show 0<2^i%PN
  rcases Nat.eq_zero_or_pos (2^i%PN) with hz|hz
  ·have e:=Ki
   have hi':i≤PF:=by have:=SI;omega
   obtain ⟨c,hc⟩:=Nat.exists_eq_add_of_le hi'
   rw [hc,Nat.pow_add,Nat.mul_mod,hz,Nat.zero_mul,Nat.zero_mod] at e
   cases e
  ·exact hz) (fun i j hij hj=>by
  have:=od.1.distinct hp (Nat.dvd_refl _) (by omega) i j hij (by rw [od.2.2.1];have:=SI;omega)
  exact this) h0 h1
 exact ⟨i,h⟩
theorem VD {m:Nat} (h0:0<m) (h1:m<PN):m^PF%PN=1:=by
 obtain ⟨i,rfl⟩:=Pv h0 h1
 rw [←Nat.pow_mod, ←Nat.pow_mul,Nat.mul_comm,Nat.pow_mul,Nat.pow_mod,Ki,Nat.one_pow]
 exact Nat.mod_eq_of_lt od.2.1
theorem VF {a b:Nat} (h:PN∣a*b):PN∣a∨PN∣b:=by
 rcases prP.dv (Nat.gcd PN a) (Nat.gcd_dvd_left ..) with h1|h1
 ·exact .inr (Nat.Coprime.dvd_of_dvd_mul_left h1 h)
 ·exact .inl (h1▸Nat.gcd_dvd_right PN a)
abbrev Fp:=Fin PN
instance:NeZero PN:=⟨by decide⟩
theorem VG {a b:Fp} (h:a*b=0):a=0∨b=0:=by
 have h1:a.val*b.val%PN=0:=congrArg Fin.val h
 rcases VF (Nat.dvd_of_mod_eq_zero h1) with h2|h2
 ·refine .inl (Fin.ext ?_)
  have:=Nat.eq_zero_of_dvd_of_lt h2 a.isLt
  exact this
 ·refine .inr (Fin.ext ?_)
  have:=Nat.eq_zero_of_dvd_of_lt h2 b.isLt
  exact this
def ph (x:Int):Fp:=Fin.ofNat PN (x%Pm).toNat
theorem B7 {x:Int} (h0:0≤x) (h1:x<Pm):((ph x).val:Int)=x:=by
 show (((x%Pm).toNat%PN:Nat):Int)=x
 rw [Int.emod_eq_of_lt h0 h1,Int.natCast_emod,rU,Int.toNat_of_nonneg h0,Int.emod_eq_of_lt h0 h1]
theorem Kj (a:Fp):ph (a.val:Int)=a:=by
 refine Fin.ext ?_
 show ((a.val:Int)%Pm).toNat%PN=a.val
 rw [←rU, ←Int.natCast_emod,Int.toNat_natCast,Nat.mod_mod,Nat.mod_eq_of_lt a.isLt]
theorem jC (x:Int):ph (x%Pm)=ph x:=by
 unfold ph
 rw [Int.emod_emod]
theorem aaF {x y:Int} (h:ph x=ph y):x%Pm=y%Pm:=by
 have h1:=congrArg (fun a:Fp=>((a.val:Nat):Int)) h
 have e:∀x:Int,((ph x).val:Int)=x%Pm:=fun x=>by
  rw [←jC,B7 (mod_range x).1 (mod_range x).2]
 rw [←e, ←e];exact h1
theorem Kk {x:Int} {a:Fp} (h:x%Pm=(a.val:Int)):ph x=a:=by
 rw [←Kj a, ←h,jC]
theorem qM (x:Int):((ph x).val:Int)=x%Pm:=by
 rw [←jC,B7 (mod_range x).1 (mod_range x).2]
theorem Kl (x y:Int):ph (x*y)=ph x*ph y:=by
 refine Kk ?_
 show x*y%Pm=(((ph x).val*(ph y).val%PN:Nat):Int)
 rw [Int.natCast_emod,Int.natCast_mul,qM,qM,rU, ←Int.mul_emod]
theorem VH (x y:Int):ph (x+y)=ph x+ph y:=by
 refine Kk ?_
 show (x+y)%Pm=((((ph x).val+(ph y).val)%PN:Nat):Int)
 rw [Int.natCast_emod,Int.natCast_add,qM,qM,rU, ←Int.add_emod]
theorem VI (x y:Int):ph (x-y)=ph x-ph y:=by
 refine Kk ?_
 show (x-y)%Pm=((((PN-(ph y).val)+(ph x).val)%PN:Nat):Int)
 rw [Int.natCast_emod,Int.natCast_add,Int.natCast_sub (Nat.le_of_lt (ph y).isLt),qM,qM,rU]
 rw [show Pm-y%Pm+x%Pm=(x%Pm-y%Pm)+Pm*1 by omega,Int.add_mul_emod_self_left, ←Int.sub_emod]
theorem ug (x y:Int):ph (mm x y)=ph x*ph y:=by unfold mm;rw [jC,Kl]
theorem D9 (x y:Int):ph (ma x y)=ph x+ph y:=by unfold ma;rw [jC,VH]
theorem Ea (x y:Int):ph (ms x y)=ph x-ph y:=by unfold ms;rw [jC,VI]
theorem s5:ph 0=0:=rfl
theorem B8:ph 1=1:=by decide
theorem Km {x y:Int} (hx:0≤x∧x<Pm) (hy:0≤y∧y<Pm) (h:ph x=ph y):x=y:=by
 have:=aaF h
 rw [Int.emod_eq_of_lt hx.1 hx.2,Int.emod_eq_of_lt hy.1 hy.2] at this
 exact this
def fi (a:Fp):Fp:=ph (inv a.val)
theorem Kn {a:Fp} (h:a≠0):a*fi a=1:=by
 have ha:0<a.val:=Nat.pos_of_ne_zero fun q=>h (Fin.ext q)
 have hf:=VD ha a.isLt
 have hk:(Pm-2).toNat+1=PF:=by decide
 rw [←hk,Nat.pow_succ] at hf
 have key:(a.val:Int)*inv (a.val:Int)%Pm=1:=by
  unfold inv qK
  generalize (Pm-2).toNat=k at hf ⊢
  rw [←rU, ←Int.natCast_pow, ←Int.natCast_emod, ←Int.natCast_mul, ←Int.natCast_emod,Nat.mul_mod_mod,Nat.mul_comm,hf]
  rfl
 have h1:ph ((a.val:Int)*inv (a.val:Int))=1:=by rw [←jC,key,B8]
 rw [Kl,Kj] at h1
 exact h1
theorem VJ (x:Int) (h0:0≤x) (h1:x<Pm):ph (inv x)=fi (ph x):=by
 unfold fi
 rw [B7 h0 h1]
end Go.Proofs.YtibfpjeeanppjaaGreat.La
end
section
namespace Go.Proofs.YtibfpjeeanppjaaGreat.La
open Go Go.Sy Re Fe
abbrev S4:=Int×Int×Int×Int
def dX (x z:Int):Int:=mm (mm (ma x z) (ma x z)) (mm (ms x z) (ms x z))
def dE (x z:Int):Int:=ms (mm (ma x z) (ma x z)) (mm (ms x z) (ms x z))
def dZ (x z:Int):Int:=mm (dE x z) (ma (mm (ma x z) (ma x z)) (mm 121665 (dE x z)))
def aL (x z x' z':Int):Int:=mm (ms x' z') (ma x z)
def aR (x z x' z':Int):Int:=mm (ma x' z') (ms x z)
def aX (x z x' z':Int):Int:=mm (ma (aL x z x' z') (aR x z x' z')) (ma (aL x z x' z') (aR x z x' z'))
def aZ (u x z x' z':Int):Int:=mm u (mm (ms (aL x z x' z') (aR x z x' z')) (ms (aL x z x' z') (aR x z x' z')))
def Pc (u:Int) (bit:Bool) (s:S4):S4:=
 bif bit then (aX s.2.2.1 s.2.2.2 s.1 s.2.1,aZ u s.2.2.1 s.2.2.2 s.1 s.2.1,dX s.2.2.1 s.2.2.2,dZ s.2.2.1 s.2.2.2)
 else (dX s.1 s.2.1,dZ s.1 s.2.1,aX s.1 s.2.1 s.2.2.1 s.2.2.2,aZ u s.1 s.2.1 s.2.2.1 s.2.2.2)
def run (u:Int) (bits:Nat→Bool) (s:S4):Nat→S4
 |0=>s
 |j+1=>Pc u (bits j) (run u bits s j)
theorem z6 (u:Int) (bits:Nat→Bool) (s:S4):∀n,run u bits s (n+1)=run u (fun j=>bits (j+1)) (Pc u (bits 0) s) n
 |0=>rfl
 |n+1=>by rw [run,z6 u bits s n,run]
def fin (s:S4):Int:=mm s.1 (inv s.2.1)
section
variable {n:Nat} [NeZero n] (a b x z x' z' u k:Fin n)
theorem aaG:((a*x+a*z)*(a*x+a*z))*((a*x-a*z)*(a*x-a*z))=(a*a*(a*a))*(((x+z)*(x+z))*((x-z)*(x-z))):=by grobner
theorem aaH:((a*x+a*z)*(a*x+a*z)-(a*x-a*z)*(a*x-a*z))*((a*x+a*z)*(a*x+a*z)+k*((a*x+a*z)*(a*x+a*z)-(a*x-a*z)*(a*x-a*z)))=
  (a*a*(a*a))*(((x+z)*(x+z)-(x-z)*(x-z))*((x+z)*(x+z)+k*((x+z)*(x+z)-(x-z)*(x-z)))):=by grobner
theorem aaI:((b*x'-b*z')*(a*x+a*z)+(b*x'+b*z')*(a*x-a*z))*((b*x'-b*z')*(a*x+a*z)+(b*x'+b*z')*(a*x-a*z))=
  (a*b*(a*b))*(((x'-z')*(x+z)+(x'+z')*(x-z))*((x'-z')*(x+z)+(x'+z')*(x-z))):=by grobner
theorem aaJ:u*(((b*x'-b*z')*(a*x+a*z)-(b*x'+b*z')*(a*x-a*z))*((b*x'-b*z')*(a*x+a*z)-(b*x'+b*z')*(a*x-a*z)))=
  (a*b*(a*b))*(u*(((x'-z')*(x+z)-(x'+z')*(x-z))*((x'-z')*(x+z)-(x'+z')*(x-z)))):=by grobner
theorem i_e (h:x*z=0):(x+z)*(x+z)-(x-z)*(x-z)=0:=by grobner
theorem i_t:((u-1)*(1+0)+(u+1)*(1-0))*((u-1)*(1+0)+(u+1)*(1-0))=(4*u)*u:=by grobner
theorem afC:u*(((u-1)*(1+0)-(u+1)*(1-0))*((u-1)*(1+0)-(u+1)*(1-0)))=(4*u)*1:=by grobner
end
theorem Pw (x z:Int):ph (dX x z)=((ph x+ph z)*(ph x+ph z))*((ph x-ph z)*(ph x-ph z)):=by unfold dX;simp only [ug,D9,Ea]
theorem Ko (x z:Int):ph (dZ x z)=((ph x+ph z)*(ph x+ph z)-(ph x-ph z)*(ph x-ph z))*((ph x+ph z)*(ph x+ph z)+ph 121665*((ph x+ph z)*(ph x+ph z)-(ph x-ph z)*(ph x-ph z))):=by unfold dZ dE;simp only [ug,D9,Ea]
theorem Kp (x z x' z':Int):ph (aX x z x' z')=((ph x'-ph z')*(ph x+ph z)+(ph x'+ph z')*(ph x-ph z))*((ph x'-ph z')*(ph x+ph z)+(ph x'+ph z')*(ph x-ph z)):=by unfold aX aL aR;simp only [ug,D9,Ea]
theorem F4 (u x z x' z':Int):ph (aZ u x z x' z')=ph u*(((ph x'-ph z')*(ph x+ph z)-(ph x'+ph z')*(ph x-ph z))*((ph x'-ph z')*(ph x+ph z)-(ph x'+ph z')*(ph x-ph z))):=by unfold aZ aL aR;simp only [ug,D9,Ea]
structure Sc (a b:Fp) (s t:S4):Prop where
 x0:ph s.1=a*ph t.1
 z0:ph s.2.1=a*ph t.2.1
 x1:ph s.2.2.1=b*ph t.2.2.1
 z1:ph s.2.2.2=b*ph t.2.2.2
def Sn (s t:S4):Prop:=∃a b:Fp,a≠0∧b≠0∧Sc a b s t
theorem fQ {a b:Fp} (ha:a≠0) (hb:b≠0):a*b≠0:=fun h=>(VG h).elim ha hb
theorem VK {u:Int} {bit:Bool} {s t:S4} (h:Sn s t):Sn (Pc u bit s) (Pc u bit t):=by
 obtain ⟨a,b,ha,hb,h0,h1,h2,h3⟩:=h
 cases bit with
 |true=>
  refine ⟨b*a*(b*a),b*b*(b*b),fQ (fQ hb ha) (fQ hb ha),fQ (fQ hb hb) (fQ hb hb),?_,?_,?_,?_⟩
  ·show ph (aX s.2.2.1 s.2.2.2 s.1 s.2.1)=_*ph (aX t.2.2.1 t.2.2.2 t.1 t.2.1)
   rw [Kp,Kp,h0,h1,h2,h3,aaI]
  ·show ph (aZ u s.2.2.1 s.2.2.2 s.1 s.2.1)=_*ph (aZ u t.2.2.1 t.2.2.2 t.1 t.2.1)
   rw [F4,F4,h0,h1,h2,h3,aaJ]
  ·show ph (dX s.2.2.1 s.2.2.2)=_*ph (dX t.2.2.1 t.2.2.2)
   rw [Pw,Pw,h2,h3,aaG]
  ·show ph (dZ s.2.2.1 s.2.2.2)=_*ph (dZ t.2.2.1 t.2.2.2)
   rw [Ko,Ko,h2,h3,aaH]
 |false=>
  refine ⟨a*a*(a*a),a*b*(a*b),fQ (fQ ha ha) (fQ ha ha),fQ (fQ ha hb) (fQ ha hb),?_,?_,?_,?_⟩
  ·show ph (dX s.1 s.2.1)=_*ph (dX t.1 t.2.1)
   rw [Pw,Pw,h0,h1,aaG]
  ·show ph (dZ s.1 s.2.1)=_*ph (dZ t.1 t.2.1)
   rw [Ko,Ko,h0,h1,aaH]
  ·show ph (aX s.1 s.2.1 s.2.2.1 s.2.2.2)=_*ph (aX t.1 t.2.1 t.2.2.1 t.2.2.2)
   rw [Kp,Kp,h0,h1,h2,h3,aaI]
  ·show ph (aZ u s.1 s.2.1 s.2.2.1 s.2.2.2)=_*ph (aZ u t.1 t.2.1 t.2.2.1 t.2.2.2)
   rw [F4,F4,h0,h1,h2,h3,aaJ]
theorem Kq {u:Int} {bits:Nat→Bool} {s t:S4} (h:Sn s t):∀n,Sn (run u bits s n) (run u bits t n)
 |0=>h
 |n+1=>VK (Kq h n)
theorem uf (x m:Int):∀k:Nat,(x%m)^k%m=x^k%m
 |0=>by rw [Int.pow_zero,Int.pow_zero]
 |k+1=>by rw [Int.pow_succ,Int.pow_succ,Int.mul_emod,uf x m k,Int.emod_emod, ←Int.mul_emod]
theorem xQ (x:Int):ph (inv x)=fi (ph x):=by
 have e:inv x=inv (x%Pm):=by
  unfold inv qK
  generalize (Pm-2).toNat=k
  exact (uf x Pm k).symm
 rw [e,VJ _ (mod_range x).1 (mod_range x).2,jC]
theorem Eb:fi 0=0:=by
 unfold fi inv qK
 have h0:(((0:Fp).val:Nat):Int)=0:=rfl
 rw [h0]
 have h1:(0:Int)^(Pm-2).toNat=0:=Int.zero_pow (by decide)
 rw [h1];rfl
theorem Px {a z:Fp} (ha:a≠0):a*fi (a*z)=fi z:=by
 by_cases hz:z=0
 ·subst hz
  rw [show a*0=(0:Fp) by grobner,Eb];grobner
 ·have h1:=Kn (fQ ha hz)
  have h2:=Kn hz
  generalize fi (a*z)=f at h1 ⊢
  generalize fi z=g at h2 ⊢
  clear ha hz
  grobner
theorem VL {s t:S4} (h:Sn s t):fin s=fin t:=by
 obtain ⟨a,b,ha,hb,h0,h1,h2,h3⟩:=h
 refine Km (mod_range _) (mod_range _) ?_
 unfold fin
 rw [ug,ug,xQ,xQ,h0,h1, ←Px ha (z:=ph t.2.1)]
 generalize ph t.1=x
 generalize fi (a*ph t.2.1)=y
 grobner
def Zz (s:S4):Prop:=ph s.1*ph s.2.1=0∧ph s.2.2.1*ph s.2.2.2=0
theorem Kr {u:Int} {bit:Bool} {s:S4} (hu:ph u=0) (h:Zz s):ph (Pc u bit s).2.1=0∧ph (Pc u bit s).2.2.2=0:=by
 have hd:∀x z:Int,ph x*ph z=0→ph (dZ x z)=0:=fun x z hx=>by
  rw [Ko,i_e _ _ hx];grobner
 have ha:∀x z x' z':Int,ph (aZ u x z x' z')=0:=fun x z x' z'=>by
  rw [F4,hu];grobner
 cases bit with
 |true=>exact ⟨ha _ _ _ _,hd _ _ h.2⟩
 |false=>exact ⟨hd _ _ h.1,ha _ _ _ _⟩
theorem Ks {u:Int} {bits:Nat→Bool} {s:S4} (hu:ph u=0) (h:Zz s):∀n,Zz (run u bits s n)
 |0=>h
 |n+1=>by
  have k:=Kr (bit:=bits n) hu (Ks (bits:=bits) hu h n)
  unfold Zz
  rw [run,k.1,k.2]
  constructor<;>grobner
theorem Kt {u:Int} {bits:Nat→Bool} {s:S4} (hu:ph u=0) (h:Zz s) (n:Nat):fin (run u bits s (n+1))=0:=by
 have k:=(Kr (bit:=bits n) hu (Ks (bits:=bits) hu h n)).1
 refine Km (mod_range _) ⟨Int.le_refl _,gF⟩ ?_
 unfold fin
 rw [ug,xQ,run,k,Eb,s5]
 grobner
def Hg (u:Int):S4:=(1,0,u,1)
theorem Ku {u:Int} (hu:ph u=0):Zz (Hg u):=by
 constructor
 ·show ph 1*ph 0=0
  rw [s5];grobner
 ·show ph u*ph 1=0
  rw [hu];grobner
theorem Py:(4:Fp)≠0:=by decide
theorem Kv {u:Int} (hu:ph u≠0):Sn (Pc u false (Hg u)) (Hg u):=by
 refine ⟨1,4*ph u,by decide,fQ Py hu,?_,?_,?_,?_⟩
 ·show ph (dX 1 0)=1*ph 1
  decide
 ·show ph (dZ 1 0)=1*ph 0
  decide
 ·show ph (aX 1 0 u 1)=(4*ph u)*ph u
  rw [Kp,s5,B8,i_t]
 ·show ph (aZ u 1 0 u 1)=(4*ph u)*ph 1
  rw [F4,s5,B8,afC]
theorem Vx (u:Int) (bits:Nat→Bool) (h:bits 0=false) (n:Nat):fin (run u bits (Hg u) (n+2))=fin (run u (fun j=>bits (j+1)) (Hg u) (n+1)):=by
 by_cases hu:ph u=0
 ·rw [Kt hu (Ku hu),Kt hu (Ku hu)]
 ·rw [z6,h]
  exact VL (Kq (Kv hu) _)
end Go.Proofs.YtibfpjeeanppjaaGreat.La
end
