/- This file holds the texts LaG, LaH, LaI, LaJ, LaK, a section each. No conditions beyond those in the theorems. -/
import Derived.Test.YtibfpjeeanppjaaGreatYLaF
import Derived.Test.YtibfpjeeanppjaaGreatYLaL
set_option linter.all false
section
namespace Go.Proofs.YtibfpjeeanppjaaGreat.La
open Go Go.Sy Re Fe
section
variable {n:Nat} [NeZero n]
theorem adu (x1 y1 x2 y2 d:Fin n) (h1:y1*y1-x1*x1=1+d*x1*x1*y1*y1) (h2:y2*y2-x2*x2=1+d*x2*x2*y2*y2):
  ((1-d*x1*x2*y1*y2)+(y1*y2+x1*x2))*((1+d*x1*x2*y1*y2)+(y1*y2-x1*x2))*((y2-y1)*(y2-y1))=
  ((1-d*x1*x2*y1*y2)-(y1*y2+x1*x2))*((1+d*x1*x2*y1*y2)-(y1*y2-x1*x2))*((y1+y2)*(y1+y2)):=by grobner
theorem adv (x y d k:Fin n) (h:y*y-x*x=1+d*x*x*y*y) (hd:d*(k+1)=0-k):
  ((1-d*x*x*y*y)+(y*y+x*x))*((1-y*y)*(1+k*(1-y*y)))=((1-d*x*x*y*y)-(y*y+x*x))*(y*y):=by grobner
end
end Go.Proofs.YtibfpjeeanppjaaGreat.La
end
section
namespace Go.Proofs.YtibfpjeeanppjaaGreat.La
open Go Go.Sy Re Fe
def dN:Nat:=37095705934669439343138083508754565189542113879843219016388785533085940283555
def PH:Nat:=28948022309329048855892746252171976963317496166410141009864396001978282409974
theorem XQ:dN^PH%PN=PF:=by
 rw [Lq PN dN (show PH<2^256 by decide)]
 decide+kernel
theorem adw:2*PH=PF:=by decide
theorem adx {m:Nat} (h:m*m%PN=dN):False:=by
 have hp:=nH.2.1
 have h0:0<m%PN:=by
  rcases Nat.eq_zero_or_pos (m%PN) with hz|hz
  ·rw [Nat.mul_mod,hz,Nat.mul_zero,Nat.zero_mod] at h
   exact absurd h (by decide)
  ·exact hz
 have h1:=Lr h0 (Nat.mod_lt _ (by omega))
 rw [←adw,Nat.pow_mul,Nat.pow_mod,show (m%PN)^2=m%PN*(m%PN) from Nat.pow_two _, ←Nat.mul_mod,h,XQ] at h1
 exact absurd h1 (by decide)
def dV:Int:=37095705934669439343138083508754565189542113879843219016388785533085940283555
def dP:Fp:=ph dV
theorem ady (s:Fp):s*s≠dP:=fun h=>by
 have h1:s.val*s.val%PN=dP.val:=congrArg Fin.val h
 exact adx (h1.trans (by decide))
def iP:Fp:=ph 19681161376707505956807079304988542015446066515923890162744021073123829784752
theorem adz:iP*iP=-1:=by decide
theorem Ls:(2:Fp)≠0:=by decide
theorem adA {n:Nat} [NeZero n] (x1 y1 x2 y2 i d e:Fin n) (hi:i*i=-1) (h1:y1*y1-x1*x1=1+d*x1*x1*y1*y1) (h2:y2*y2-x2*x2=1+d*x2*x2*y2*y2) (he:e*e=1) (h:d*x1*x2*y1*y2=e):
 (i*x1+e*y1)*(i*x1+e*y1)=d*((x1*y1*(i*x2+y2))*(x1*y1*(i*x2+y2)))∧(i*x1-e*y1)*(i*x1-e*y1)=d*((x1*y1*(i*x2-y2))*(x1*y1*(i*x2-y2))):=by
 constructor<;>grobner
theorem Rt {n:Nat} [NeZero n] (x1 y1 x2 y2 d u v:Fin n) (h1:y1*y1-x1*x1=1+d*x1*x1*y1*y1) (h2:y2*y2-x2*x2=1+d*x2*x2*y2*y2)
 (hu:(1+d*x1*x2*y1*y2)*u=1) (hv:(1-d*x1*x2*y1*y2)*v=1):
 ((y1*y2+x1*x2)*v)*((y1*y2+x1*x2)*v)-((x1*y2+y1*x2)*u)*((x1*y2+y1*x2)*u)=1+d*((x1*y2+y1*x2)*u)*((x1*y2+y1*x2)*u)*((y1*y2+x1*x2)*v)*((y1*y2+x1*x2)*v):=by
 grobner
theorem Ru {n:Nat} [NeZero n] (x1 y1 x2 y2 x3 y3 d:Fin n)
 (h1:y1*y1-x1*x1=1+d*x1*x1*y1*y1) (h2:y2*y2-x2*x2=1+d*x2*x2*y2*y2) (h3:y3*y3-x3*x3=1+d*x3*x3*y3*y3):
 ((x1*y2+y1*x2)*(1-d*x1*x2*y1*y2)*y3+(y1*y2+x1*x2)*(1+d*x1*x2*y1*y2)*x3)*
  ((1-d*x3*x2*y3*y2)*(1+d*x3*x2*y3*y2)+d*(x3*y2+y3*x2)*(y3*y2+x3*x2)*x1*y1)
 =((x3*y2+y3*x2)*(1-d*x3*x2*y3*y2)*y1+(y3*y2+x3*x2)*(1+d*x3*x2*y3*y2)*x1)*
  ((1-d*x1*x2*y1*y2)*(1+d*x1*x2*y1*y2)+d*(x1*y2+y1*x2)*(y1*y2+x1*x2)*x3*y3):=by
 grobner (ringSteps:=100000)
theorem Rv {n:Nat} [NeZero n] (x1 y1 x2 y2 x3 y3 d:Fin n)
 (h1:y1*y1-x1*x1=1+d*x1*x1*y1*y1) (h2:y2*y2-x2*x2=1+d*x2*x2*y2*y2) (h3:y3*y3-x3*x3=1+d*x3*x3*y3*y3):
 ((y1*y2+x1*x2)*(1+d*x1*x2*y1*y2)*y3+(x1*y2+y1*x2)*(1-d*x1*x2*y1*y2)*x3)*
  ((1-d*x3*x2*y3*y2)*(1+d*x3*x2*y3*y2)-d*(x3*y2+y3*x2)*(y3*y2+x3*x2)*x1*y1)
 =((y3*y2+x3*x2)*(1+d*x3*x2*y3*y2)*y1+(x3*y2+y3*x2)*(1-d*x3*x2*y3*y2)*x1)*
  ((1-d*x1*x2*y1*y2)*(1+d*x1*x2*y1*y2)-d*(x1*y2+y1*x2)*(y1*y2+x1*x2)*x3*y3):=by
 grobner (ringSteps:=100000)
theorem Gn {n:Nat} [NeZero n] (X x3 Y y3 d k Iz Rw p m u v:Fin n) (hu:p*u=1) (hv:m*v=1) (hX:X=Iz*u) (hY:Y=Rw*v) (hk:(1+d*X*x3*Y*y3)*k=1):
 ((X*y3+Y*x3)*k)*(m*p+d*Iz*Rw*x3*y3)=(Iz*m*y3+Rw*p*x3)∧(m*p+d*Iz*Rw*x3*y3)*(k*u*v)=1:=by
 constructor<;>grobner
theorem Gp {n:Nat} [NeZero n] (X x3 Y y3 d k Iz Rw p m u v:Fin n) (hu:p*u=1) (hv:m*v=1) (hX:X=Iz*u) (hY:Y=Rw*v) (hk:(1-d*X*x3*Y*y3)*k=1):
 ((Y*y3+X*x3)*k)*(m*p-d*Iz*Rw*x3*y3)=(Rw*p*y3+Iz*m*x3)∧(m*p-d*Iz*Rw*x3*y3)*(k*u*v)=1:=by
 constructor<;>grobner
theorem Gq {n:Nat} [NeZero n] (L R P Q S T q s:Fin n) (h1:L*Q=P) (h2:R*S=T) (h3:P*S=T*Q) (h4:Q*q=1) (h5:S*s=1):L=R:=by
 grobner
theorem Rx {n:Nat} [NeZero n] (a b c d:Fin n) (h:a*a=d*(b*b)) (h1:b*c=1):a*c*(a*c)=d:=by grobner
theorem Lt {n:Nat} [NeZero n] (d a b c e:Fin n) (h:a=0∨b=0∨c=0∨e=0):d*a*b*c*e=0:=by
 rcases h with h|h|h|h<;>subst h<;>grobner
theorem XR {n:Nat} [NeZero n] (a b:Fin n) (h:a+b=0) (h2:a-b=0):2*b=0:=by grobner
theorem adB {n:Nat} [NeZero n] (a:Fin n) (h:1+a=0):a=-1:=by grobner
theorem adD {n:Nat} [NeZero n] (a:Fin n) (h:1-a=0):a=1:=by grobner
theorem XS {n:Nat} [NeZero n] (x y d:Fin n) (h:y*y-x*x=1+d*x*x*y*y):y*y-(0-x)*(0-x)=1+d*(0-x)*(0-x)*y*y:=by grobner
theorem Ry {n:Nat} [NeZero n] (d a b c e:Fin n):d*a*b*c*e=d*b*a*e*c:=by grobner
theorem Lu {n:Nat} [NeZero n] (a b c e v:Fin n):(a*e+c*b)*v=(b*c+e*a)*v:=by grobner
theorem Lv {n:Nat} [NeZero n] (a b c e v:Fin n):(a*b+c*e)*v=(b*a+e*c)*v:=by grobner
theorem adE {n:Nat} [NeZero n] (d a b:Fin n):d*a*0*b*1=0:=by grobner
theorem Va {n:Nat} [NeZero n] (a b:Fin n):(a*1+b*0)*1=a:=by grobner
theorem adF {n:Nat} [NeZero n] (d x y:Fin n) (h:y*y-x*x=1+d*x*x*y*y):1-d*x*(0-x)*y*y=y*y-x*x:=by grobner
theorem adG {n:Nat} [NeZero n] (x y v:Fin n):(x*y+y*(0-x))*v=0:=by grobner
theorem adH {n:Nat} [NeZero n] (x y v:Fin n) (h:(y*y-x*x)*v=1):(y*y+x*(0-x))*v=1:=by grobner
theorem Rz {n:Nat} [NeZero n] (a:Fin n) (h:1*a=1):a=1:=by grobner
abbrev Pt:=Fp×Fp
def On (A:Pt):Prop:=A.2*A.2-A.1*A.1=1+dP*A.1*A.1*A.2*A.2
def cc (A B:Pt):Fp:=dP*A.1*B.1*A.2*B.2
def eE (A B:Pt):Pt:=((A.1*B.2+A.2*B.1)*fi (1+cc A B),(A.2*B.2+A.1*B.1)*fi (1-cc A B))
def BJ (A:Pt):Pt:=(0-A.1,A.2)
def iE:Pt:=(0,1)
theorem Vb {a b:Fp} (h:a*a=dP*(b*b)):b=0:=by
 refine Classical.byContradiction fun hb=>?_
 have h1:=cX hb
 refine ady (a*fi b) ?_
 exact Rx a b (fi b) dP h h1
theorem adI {a b:Fp} (ha:a≠0) (hb:b≠0):a*b≠0:=fun h=>(dM h).elim ha hb
theorem Vc {A B:Pt} (hA:On A) (hB:On B) {e:Fp} (he:e*e=1) (h:cc A B=e):False:=by
 obtain ⟨k1,k2⟩:=adA A.1 A.2 B.1 B.2 iP dP e adz hA hB he h
 have e0:e≠0:=fun q=>by rw [q] at he;exact absurd he (by decide)
 have x1:A.1≠0:=fun q=>e0 (by rw [←h];exact Lt _ _ _ _ _ (.inl q))
 have y1:A.2≠0:=fun q=>e0 (by rw [←h];exact Lt _ _ _ _ _ (.inr (.inr (.inl q))))
 have y2:B.2≠0:=fun q=>e0 (by rw [←h];exact Lt _ _ _ _ _ (.inr (.inr (.inr q))))
 have m1:iP*B.1+B.2=0:=(dM (Vb k1)).elim (fun q=>absurd q (adI x1 y1)) id
 have m2:iP*B.1-B.2=0:=(dM (Vb k2)).elim (fun q=>absurd q (adI x1 y1)) id
 have:2*B.2=0:=XR _ _ m1 m2
 exact (dM this).elim Ls y2
theorem Eb {A B:Pt} (hA:On A) (hB:On B):1+cc A B≠0:=fun h=>Vc hA hB (e:=-1) (by decide) (adB _ h)
theorem zI {A B:Pt} (hA:On A) (hB:On B):1-cc A B≠0:=fun h=>Vc hA hB (e:=1) (by decide) (adD _ h)
theorem Ec {A B:Pt} (hA:On A) (hB:On B):On (eE A B):=
 Rt A.1 A.2 B.1 B.2 dP (fi (1+cc A B)) (fi (1-cc A B)) hA hB (cX (Eb hA hB)) (cX (zI hA hB))
theorem Lw {A:Pt} (hA:On A):On (BJ A):=by
 exact XS A.1 A.2 dP hA
theorem RA:On iE:=by unfold On iE;decide
theorem RB (A B:Pt):cc A B=cc B A:=Ry dP A.1 B.1 A.2 B.2
theorem oG (A B:Pt):eE A B=eE B A:=by
 unfold eE
 rw [RB A B]
 refine Prod.ext ?_ ?_
 ·exact Lu A.1 B.1 A.2 B.2 _
 ·exact Lv A.2 B.2 A.1 B.1 _
theorem Lx:fi 1=1:=Rz _ (cX (a:=1) (by decide))
theorem oH (A:Pt):eE A iE=A:=by
 have h:cc A iE=0:=adE dP A.1 A.2
 unfold eE
 rw [h,show (1:Fp)+0=1 by decide,show (1:Fp)-0=1 by decide,Lx]
 refine Prod.ext ?_ ?_
 ·exact Va A.1 A.2
 ·exact Va A.2 A.1
theorem yq (A:Pt):eE iE A=A:=by rw [oG,oH]
theorem Ly {A:Pt} (hA:On A):eE A (BJ A)=iE:=by
 have h:=cX (zI hA (Lw hA))
 have e:1-cc A (BJ A)=A.2*A.2-A.1*A.1:=adF dP A.1 A.2 hA
 unfold eE
 generalize fi (1-cc A (BJ A))=v at*
 rw [e] at h
 refine Prod.ext ?_ ?_
 ·exact adG A.1 A.2 _
 ·exact adH A.1 A.2 _ h
theorem vO {A B C:Pt} (hA:On A) (hB:On B) (hC:On C):eE (eE A B) C=eE A (eE B C):=by
 have hu:=cX (Eb hA hB)
 have hv:=cX (zI hA hB)
 have hr:=cX (Eb hC hB)
 have hs:=cX (zI hC hB)
 have hAB:=Ec hA hB
 have hCB:=Ec hC hB
 have hk:=cX (Eb hAB hC)
 have hk':=cX (zI hAB hC)
 have hl:=cX (Eb hCB hA)
 have hl':=cX (zI hCB hA)
 rw [oG A (eE B C),oG B C]
 obtain ⟨a1,a2⟩:=Gn (eE A B).1 C.1 (eE A B).2 C.2 dP (fi (1+cc (eE A B) C)) (A.1*B.2+A.2*B.1) (A.2*B.2+A.1*B.1) (1+cc A B) (1-cc A B) _ _ hu hv rfl rfl hk
 obtain ⟨b1,b2⟩:=Gn (eE C B).1 A.1 (eE C B).2 A.2 dP (fi (1+cc (eE C B) A)) (C.1*B.2+C.2*B.1) (C.2*B.2+C.1*B.1) (1+cc C B) (1-cc C B) _ _ hr hs rfl rfl hl
 obtain ⟨c1,c2⟩:=Gp (eE A B).1 C.1 (eE A B).2 C.2 dP (fi (1-cc (eE A B) C)) (A.1*B.2+A.2*B.1) (A.2*B.2+A.1*B.1) (1+cc A B) (1-cc A B) _ _ hu hv rfl rfl hk'
 obtain ⟨d1,d2⟩:=Gp (eE C B).1 A.1 (eE C B).2 A.2 dP (fi (1-cc (eE C B) A)) (C.1*B.2+C.2*B.1) (C.2*B.2+C.1*B.1) (1+cc C B) (1-cc C B) _ _ hr hs rfl rfl hl'
 refine Prod.ext ?_ ?_
 ·exact Gq _ _ _ _ _ _ _ _ a1 b1 (Ru A.1 A.2 B.1 B.2 C.1 C.2 dP hA hB hC) a2 b2
 ·exact Gq _ _ _ _ _ _ _ _ c1 d1 (Rv A.1 A.2 B.1 B.2 C.1 C.2 dP hA hB hC) c2 d2
def c8 (P:Pt):Nat→Pt
 |0=>iE
 |n+1=>eE (c8 P n) P
theorem yt (P:Pt) (n:Nat):c8 P (n+1)=eE (c8 P n) P:=by rw [c8]
theorem lP {P:Pt} (h:On P):∀n,On (c8 P n)
 |0=>RA
 |n+1=>Ec (lP h n) h
theorem kQ {P:Pt} (h:On P) (m:Nat):∀n,c8 P (m+n)=eE (c8 P m) (c8 P n)
 |0=>(oH _).symm
 |n+1=>by
  show eE (c8 P (m+n)) P=eE (c8 P m) (eE (c8 P n) P)
  rw [kQ h m n,vO (lP h m) (lP h n) h]
theorem yu:∀n,c8 iE n=iE
 |0=>rfl
 |n+1=>by rw [c8,yu n,oH]
theorem qM {P:Pt} (h:On P) (m:Nat):∀n,c8 (c8 P m) n=c8 P (m*n)
 |0=>rfl
 |n+1=>by rw [c8,qM h m n,Nat.mul_succ,kQ h]
theorem vP (P:Pt):c8 P 1=P:=yq P
end Go.Proofs.YtibfpjeeanppjaaGreat.La
end
section
namespace Go.Proofs.YtibfpjeeanppjaaGreat.La
theorem po1:jR 1224481:=jR.pn 1105 (by decide+kernel)
theorem po2:jR 531581:=jR.pn 728 (by decide+kernel)
theorem po3:jR 1257559732178653:=by
 have h:=Cert.mk' (n:=1257559732178653) (b:=896025394887893) (F:=650910834461) (L:=[1224481,531581]) (by decide+kernel) (by
  intro l hl
  simp only [List.mem_cons,List.not_mem_nil,or_false] at hl
  rcases hl with rfl|rfl
  ·exact po1
  ·exact po2)
 exact h.1.prime h.2.1 (by rw [h.2.2.1];decide)
theorem po4:jR 4434155615661930479:=by
 have h:=Cert.mk' (n:=4434155615661930479) (b:=415787812636281767) (F:=1257559732178653) (L:=[1257559732178653]) (by decide+kernel) (by
  intro l hl
  simp only [List.mem_cons,List.not_mem_nil,or_false] at hl
  subst hl
  exact po3)
 exact h.1.prime h.2.1 (by rw [h.2.2.1];decide)
theorem po5:jR 172054593956031949258510691:=by
 have h:=Cert.mk' (n:=172054593956031949258510691) (b:=81982237619807054769897707) (F:=4434155615661930479) (L:=[4434155615661930479]) (by decide+kernel) (by
  intro l hl
  simp only [List.mem_cons,List.not_mem_nil,or_false] at hl
  subst hl
  exact po4)
 exact h.1.prime h.2.1 (by rw [h.2.2.1];decide)
theorem po6:jR 19757330305831588566944191468367130476339:=by
 have h:=Cert.mk' (n:=19757330305831588566944191468367130476339) (b:=9148758478138211201771971577098600188172) (F:=172054593956031949258510691) (L:=[172054593956031949258510691]) (by decide+kernel) (by
  intro l hl
  simp only [List.mem_cons,List.not_mem_nil,or_false] at hl
  subst hl
  exact po5)
 exact h.1.prime h.2.1 (by rw [h.2.2.1];decide)
theorem po7:jR 276602624281642239937218680557139826668747:=by
 have h:=Cert.mk' (n:=276602624281642239937218680557139826668747) (b:=16384) (F:=19757330305831588566944191468367130476339) (L:=[19757330305831588566944191468367130476339]) (by decide+kernel) (by
  intro l hl
  simp only [List.mem_cons,List.not_mem_nil,or_false] at hl
  subst hl
  exact po6)
 exact h.1.prime h.2.1 (by rw [h.2.2.1];decide)
theorem poL:jR 7237005577332262213973186563042994240857116359379907606001950938285454250989:=by
 have h:=Cert.mk' (n:=7237005577332262213973186563042994240857116359379907606001950938285454250989) (b:=2975531125133123119648879457563281269120703404158613135195788908093573672641) (F:=276602624281642239937218680557139826668747) (L:=[276602624281642239937218680557139826668747]) (by decide+kernel) (by
  intro l hl
  simp only [List.mem_cons,List.not_mem_nil,or_false] at hl
  subst hl
  exact po7)
 exact h.1.prime h.2.1 (by rw [h.2.2.1];decide)
end Go.Proofs.YtibfpjeeanppjaaGreat.La
end
section
namespace Go.Proofs.YtibfpjeeanppjaaGreat.La
open Go Go.Sy Re Fe
section
variable {n:Nat} [NeZero n]
theorem adJ (p q y h:Fin n) (hh:2*h=1) (e:p*(1-y)=q*(1+y)):p=(h*(p+q))*(1+y)∧q=(h*(p+q))*(1-y):=by constructor<;>grobner
theorem aiJ (p q y:Fin n) (e:p*(1-y)=q*(1+y)) (h:p+q=0):2*p=0∧2*q=0:=by constructor<;>grobner
theorem adK (p q N M a b s d v w:Fin n) (hv:p*v=1) (hw:q*w=1) (hs:s*p=N) (hd:d*q=M) (g:(p+N)*(q+M)*a=(p-N)*(q-M)*b):(1+s)*(1+d)*a=(1-s)*(1-d)*b:=by
 subst hs hd
 have e1:(1+s)*(1+d)*a=v*w*((p+s*p)*(q+d*q)*a):=by grobner
 have e2:(1-s)*(1-d)*b=v*w*((p-s*p)*(q-d*q)*b):=by grobner
 rw [e1,e2,g]
theorem adL (s d a b u k:Fin n) (g:(1+s)*(1+d)*a=(1-s)*(1-d)*b) (hu:u*(1-d)=1+d) (hk:(1-d)*k=1):(1+s)*(u*a)=(1-s)*b:=by grobner
theorem aiK (a b y1 y2:Fin n):((b*(1+y2)-b*(1-y2))*(a*(1+y1)+a*(1-y1))+(b*(1+y2)+b*(1-y2))*(a*(1+y1)-a*(1-y1)))*((b*(1+y2)-b*(1-y2))*(a*(1+y1)+a*(1-y1))+(b*(1+y2)+b*(1-y2))*(a*(1+y1)-a*(1-y1)))=(4*a*b)*(4*a*b)*((y1+y2)*(y1+y2)):=by grobner
theorem aiL (a b y1 y2 u:Fin n):u*(((b*(1+y2)-b*(1-y2))*(a*(1+y1)+a*(1-y1))-(b*(1+y2)+b*(1-y2))*(a*(1+y1)-a*(1-y1)))*((b*(1+y2)-b*(1-y2))*(a*(1+y1)+a*(1-y1))-(b*(1+y2)+b*(1-y2))*(a*(1+y1)-a*(1-y1))))=(4*a*b)*(4*a*b)*(u*((y2-y1)*(y2-y1))):=by grobner
theorem aiM (a y:Fin n):((a*(1+y)+a*(1-y))*(a*(1+y)+a*(1-y)))*((a*(1+y)-a*(1-y))*(a*(1+y)-a*(1-y)))=(4*a*a)*(4*a*a)*(y*y):=by grobner
theorem aiN (a y k:Fin n):((a*(1+y)+a*(1-y))*(a*(1+y)+a*(1-y))-(a*(1+y)-a*(1-y))*(a*(1+y)-a*(1-y)))*((a*(1+y)+a*(1-y))*(a*(1+y)+a*(1-y))+k*((a*(1+y)+a*(1-y))*(a*(1+y)+a*(1-y))-(a*(1+y)-a*(1-y))*(a*(1+y)-a*(1-y))))=(4*a*a)*(4*a*a)*((1-y*y)*(1+k*(1-y*y))):=by grobner
theorem Vd (c p q r s:Fin n) (h:p*q=r*s):(c*s)*r=(c*q)*p:=by grobner
theorem adM (p N E b s v:Fin n) (hv:p*v=1) (hs:s*p=N) (g:(p+N)*E=(p-N)*b):(1+s)*E=(1-s)*b:=by
 subst hs
 have e1:(1+s)*E=v*((p+s*p)*E):=by grobner
 have e2:(1-s)*b=v*((p-s*p)*b):=by grobner
 rw [e1,e2,g]
theorem aiO (y1 y2:Fin n) (h1:y1+y2=0) (h2:y2-y1=0):2*y1=0∧2*y2=0:=by constructor<;>grobner
theorem aiP (x1 y1 x2 y2 d e:Fin n) (h1:y1*y1-x1*x1=1+d*x1*x1*y1*y1) (h2:y2*y2-x2*x2=1+d*x2*x2*y2*y2) (z1:y1=0) (z2:y2=0) (hd:e*(1+d*x1*x2*y1*y2)=y1*y2-x1*x2):(e-1)*(e-(-1))=0:=by
 subst z1 z2;grobner
theorem Ve (a b:Fin n) (h:a-b=0):a=b:=by grobner
theorem aiQ (y k:Fin n) (h:y=0) (h1:(1-y*y)*(1+k*(1-y*y))=0):1+k=0:=by subst h;grobner
theorem aiR (x1 y1 x2 y2 d e:Fin n) (h:e=(y2*y1+x2*(0-x1))):e=y1*y2-x1*x2:=by grobner
theorem aiS (x1 y1 x2 y2 d:Fin n):1-d*x2*(0-x1)*y2*y1=1+d*x1*x2*y1*y2:=by grobner
theorem adN (a p q:Fin n) (h:p*q=1):(a*q)*p=a:=by grobner
theorem aiT (x y d:Fin n) (h:y*y-x*x=1+d*x*x*y*y) (hy:(y-1)*(y-(-1))=0):(x*x)*(1+d)=0:=by grobner
theorem j_1 (y:Fin n) (h:y=1∨y=-1):(y-1)*(y-(-1))=0:=by rcases h with h|h<;>subst h<;>grobner
theorem j_u (y k:Fin n) (hk:(1-y)*k=1):(1+y)*k*(1-y)=1+y:=by grobner
theorem j_n (y:Fin n) (h:1-y=0):y=1:=by grobner
theorem j_p (y:Fin n) (h:1+y=0):y=-1:=by grobner
theorem adO (d a b c e s:Fin n):(s*(1-d*a*b*c*e)=c*e+a*b→s*(1-d*b*a*e*c)=e*c+b*a)∧(s*(1+d*a*b*c*e)=c*e-a*b→s*(1+d*b*a*e*c)=e*c-b*a):=by
 constructor<;>intro h<;>grobner
theorem j_f (a x y f g:Fin n) (h:a*f=g):a*x*f=x*g:=by grobner
end
def Fr (X Z:Fp) (A:Pt):Prop:=∃a:Fp,a≠0∧X=a*(1+A.2)∧Z=a*(1-A.2)
def hP:Fp:=ph 28948022309329048855892746252171976963317496166410141009864396001978282409975
theorem Lz:2*hP=1:=by decide
theorem Vf:hP≠0:=by decide
theorem RC {a:Fp} (h:2*a=0):a=0:=(dM h).elim (fun q=>absurd q Ls) id
theorem Fr.of {p q:Fp} {A:Pt} (hn:p=0→q=0→False) (e:p*(1-A.2)=q*(1+A.2)):Fr p q A:=by
 refine ⟨hP*(p+q),fun h=>?_,(adJ p q A.2 hP Lz e).1,(adJ p q A.2 hP Lz e).2⟩
 have h0:p+q=0:=(dM h).elim (fun q=>absurd q Vf) id
 obtain ⟨h1,h2⟩:=aiJ p q A.2 e h0
 exact hn (RC h1) (RC h2)
structure SD (A B:Pt) (s d:Fp):Prop where
 s:s*(1-dP*A.1*B.1*A.2*B.2)=A.2*B.2+A.1*B.1
 d:d*(1+dP*A.1*B.1*A.2*B.2)=A.2*B.2-A.1*B.1
theorem SD.symm {A B:Pt} {s d:Fp} (h:SD A B s d):SD B A s d:=⟨(adO dP A.1 B.1 A.2 B.2 s).1 h.s,(adO dP A.1 B.1 A.2 B.2 d).2 h.d⟩
theorem SD.of {A B:Pt} (hA:On A) (hB:On B):SD A B (eE A B).2 (eE B (BJ A)).2:=by
 refine ⟨?_,?_⟩
 ·exact adN _ _ _ (cX (zI hA hB))
 ·have e:1-cc B (BJ A)=1+dP*A.1*B.1*A.2*B.2:=aiS A.1 A.2 B.1 B.2 dP
  have h:(1+dP*A.1*B.1*A.2*B.2)*fi (1+dP*A.1*B.1*A.2*B.2)=1:=cX (Eb hA hB)
  show (B.2*A.2+B.1*(0-A.1))*fi (1-cc B (BJ A))*_=_
  rw [e,adN _ _ _ h]
  exact aiR A.1 A.2 B.1 B.2 dP _ rfl
theorem LA {X Z X' Z' u:Fp} {A B S:Pt} {d:Fp} (hA:On A) (hB:On B) (f:Fr X Z A) (f':Fr X' Z' B) (h:SD A B S.2 d) (d1:d≠1) (d2:d≠-1) (hu:u*(1-d)=1+d):
  Fr (((X'-Z')*(X+Z)+(X'+Z')*(X-Z))*((X'-Z')*(X+Z)+(X'+Z')*(X-Z))) (u*(((X'-Z')*(X+Z)-(X'+Z')*(X-Z))*((X'-Z')*(X+Z)-(X'+Z')*(X-Z)))) S:=by
 obtain ⟨a,a0,rfl,rfl⟩:=f
 obtain ⟨b,b0,rfl,rfl⟩:=f'
 rw [aiK,aiL]
 have c0:(4*a*b)*(4*a*b)≠0:=cS (cS (cS qP a0) b0) (cS (cS qP a0) b0)
 have u0:u≠0:=fun q=>d2 (j_p d (by rw [←hu,q];grobner))
 have hk:=cX (a:=1-d) fun q=>d1 (j_n d q)
 have g:=adu A.1 A.2 B.1 B.2 dP hA hB
 have key:=adL _ _ _ _ _ _ (adK _ _ _ _ _ _ S.2 d _ _ (cX (zI hA hB)) (cX (Eb hA hB)) h.s h.d g) hu hk
 refine Fr.of (fun p q=>?_) ?_
 ·have p1:(A.2+B.2)*(A.2+B.2)=0:=(dM p).elim (fun q=>absurd q c0) id
  have q1:u*((B.2-A.2)*(B.2-A.2))=0:=(dM q).elim (fun q=>absurd q c0) id
  have p2:A.2+B.2=0:=(dM p1).elim id id
  have q2:(B.2-A.2)*(B.2-A.2)=0:=(dM q1).elim (fun q=>absurd q u0) id
  have q3:B.2-A.2=0:=(dM q2).elim id id
  obtain ⟨y1,y2⟩:=aiO _ _ p2 q3
  have:=aiP A.1 A.2 B.1 B.2 dP d hA hB (RC y1) (RC y2) h.d
  exact (dM this).elim (fun q=>d1 (Ve _ _ q)) (fun q=>d2 (Ve _ _ q))
 ·exact Vd _ _ _ _ _ key
def kP:Fp:=ph 121665
theorem aiU:dP*(kP+1)=0-kP:=by decide
theorem aiV:1+kP≠0:=by decide
theorem LB {X Z:Fp} {A:Pt} (hA:On A) (f:Fr X Z A):
  Fr (((X+Z)*(X+Z))*((X-Z)*(X-Z))) (((X+Z)*(X+Z)-(X-Z)*(X-Z))*((X+Z)*(X+Z)+kP*((X+Z)*(X+Z)-(X-Z)*(X-Z)))) (eE A A):=by
 obtain ⟨a,a0,rfl,rfl⟩:=f
 rw [aiM,aiN]
 have c0:(4*a*a)*(4*a*a)≠0:=cS (cS (cS qP a0) a0) (cS (cS qP a0) a0)
 have h:=SD.of hA hA
 have hv:=cX (zI hA hA)
 have e:(1:Fp)-cc A A=1-dP*A.1*A.1*A.2*A.2:=rfl
 have key:=adM _ _ _ _ _ _ hv h.s (adv A.1 A.2 dP kP hA aiU)
 refine Fr.of (fun p q=>?_) ?_
 ·have p1:A.2*A.2=0:=(dM p).elim (fun q=>absurd q c0) id
  have q1:=(dM q).elim (fun q=>absurd q c0) id
  exact aiV (aiQ _ _ ((dM p1).elim id id) q1)
 ·exact Vd _ _ _ _ _ key
def num (bits:Nat→Bool):Nat→Nat
 |0=>0
 |n+1=>2*num bits n+(if bits n then 1 else 0)
theorem RD:Fr 1 0 iE:=⟨hP,Vf,by decide,by decide⟩
theorem LC {P:Pt} (hP:On P) (m:Nat):eE (c8 P (m+1)) (BJ (c8 P m))=P:=by
 have hm:=lP hP m
 rw [yt,oG (c8 P m) P,vO hP hm (Lw hm),Ly hm,oH]
theorem Ed {P:Pt} {u:Int} (hP:On P) (h1:P.2≠1) (h2:P.2≠-1) (hu:ph u*(1-P.2)=1+P.2) (bits:Nat→Bool):
  ∀n,Fr (ph (run u bits (DB u) n).1) (ph (run u bits (DB u) n).2.1) (c8 P (num bits n))∧Fr (ph (run u bits (DB u) n).2.2.1) (ph (run u bits (DB u) n).2.2.2) (c8 P (num bits n+1))
 |0=>by
  refine ⟨?_,?_⟩
  ·show Fr (ph 1) (ph 0) iE
   rw [vQ,lQ]
   exact RD
  ·show Fr (ph u) (ph 1) (c8 P (0+1))
   rw [vP,vQ]
   refine Fr.of (fun _ q=>absurd q (by decide)) ?_
   rw [hu];grobner
 |n+1=>by
  obtain ⟨f0,f1⟩:=Ed hP h1 h2 hu bits n
  rw [run,num]
  generalize run u bits (DB u) n=s at*
  generalize num bits n=m at*
  have a0:=lP hP m
  have a1:=lP hP (m+1)
  have sd:=SD.of a0 a1
  rw [LC hP m, ←kQ hP] at sd
  cases bits n with
  |true=>
   refine ⟨?_,?_⟩
   ·show Fr (ph (aX s.2.2.1 s.2.2.2 s.1 s.2.1)) (ph (aZ u s.2.2.1 s.2.2.2 s.1 s.2.1)) (c8 P (2*m+1))
    rw [Ee,BK,show 2*m+1=m+(m+1) by omega]
    exact LA a1 a0 f1 f0 sd.symm h1 h2 hu
   ·show Fr (ph (dX s.2.2.1 s.2.2.2)) (ph (dZ s.2.2.1 s.2.2.2)) (c8 P (2*m+1+1))
    rw [IA,Ef,show 2*m+1+1=(m+1)+(m+1) by omega,kQ hP]
    exact LB a1 f1
  |false=>
   refine ⟨?_,?_⟩
   ·show Fr (ph (dX s.1 s.2.1)) (ph (dZ s.1 s.2.1)) (c8 P (2*m+0))
    rw [IA,Ef,show 2*m+0=m+m by omega,kQ hP]
    exact LB a0 f0
   ·show Fr (ph (aX s.1 s.2.1 s.2.2.1 s.2.2.2)) (ph (aZ u s.1 s.2.1 s.2.2.1 s.2.2.2)) (c8 P (2*m+0+1))
    rw [Ee,BK,show 2*m+0+1=m+(m+1) by omega]
    exact LA a0 a1 f0 f1 sd h1 h2 hu
def uA (A:Pt):Fp:=(1+A.2)*fi (1-A.2)
theorem XT {s:S4} {A:Pt} (f:Fr (ph s.1) (ph s.2.1) A):ph (fin s)=uA A:=by
 obtain ⟨a,a0,e1,e2⟩:=f
 unfold fin uA
 rw [tK,uU,e1,e2]
 exact j_f _ _ A.2 _ _ (Gr a0)
theorem XU {P:Pt} {u:Int} (hP:On P) (h1:P.2≠1) (h2:P.2≠-1) (hu:ph u*(1-P.2)=1+P.2) (sec:List Int):ph (Bb sec u)=uA (c8 P (num (fun j=>bt (sn sec) (j+1)) 255)):=
 XT (Ed hP h1 h2 hu _ 255).1
end Go.Proofs.YtibfpjeeanppjaaGreat.La
end
section
namespace Go.Proofs.YtibfpjeeanppjaaGreat.La
open Go Go.Sy Re Fe
def iF:Pt:=(ph 15112221349535400772501151409588531511454012693041857206046113283949847762202,ph 46316835694926478169428394003475163141307993866256225615783033603165251855960)
theorem jS:On iF:=by unfold On iF;decide
theorem Eg:iF.2≠1:=by decide
theorem LD:iF.2≠-1:=by decide
theorem LF:ph 9*(1-iF.2)=1+iF.2:=by decide
def LN:Nat:=7237005577332262213973186563042994240857116359379907606001950938285454250989
theorem vS:jR LN:=poL
def lb (j:Nat):Bool:=Nat.beq (LN/2^(252-j)%2) 1
theorem XV:num lb 253=LN:=by decide+kernel
theorem XW:(run 9 lb (DB 9) 253).2.1=0:=by decide+kernel
theorem aiW:1+dP≠0:=by decide
theorem adP {A:Pt} (hA:On A) (h:A.2=1∨A.2=-1):A.1=0:=by
 have:=aiT A.1 A.2 dP hA (j_1 _ h)
 exact (dM ((dM this).elim id fun q=>absurd q aiW)).elim id id
theorem order:c8 iF LN=iE:=by
 have h:=(Ed jS Eg LD LF lb 253).1
 rw [XV,XW,lQ] at h
 have hon:=lP jS LN
 generalize c8 iF LN=A at h hon ⊢
 obtain ⟨a,a0,_,h⟩:=h
 have y1:A.2=1:=j_n _ ((dM h.symm).elim (fun q=>absurd q a0) id)
 exact Prod.ext (adP hon (.inl y1)) y1
theorem aiX {n:Nat} [NeZero n] (y:Fin n) (h:(y-1)*(y-(-1))=0):(y*y+0*0)*1=1:=by grobner
theorem j_z {n:Nat} [NeZero n] (d y v:Fin n):d*0*0*y*y=0∧(0*y+y*0)*v=0:=by constructor<;>grobner
theorem adQ {A:Pt} (hA:On A) (h:A.2=1∨A.2=-1):c8 A 2=iE:=by
 have hx:=adP hA h
 obtain ⟨x,y⟩:=A
 have hx:x=0:=hx
 subst hx
 have hc:cc (0,y) (0,y)=0:=(j_z dP y 0).1
 rw [show (2:Nat)=1+1 from rfl,yt,vP]
 unfold eE
 rw [hc,show (1:Fp)-0=1 by decide,Lx]
 exact Prod.ext (j_z dP y _).2 (aiX y (j_1 y h))
theorem mul_gcd {P:Pt} (hP:On P) (m n:Nat):c8 P m=iE→c8 P n=iE→c8 P (Nat.gcd m n)=iE:=by
 induction m,n using Nat.gcd.induction with
 |H0 n=>intro _ h;rw [Nat.gcd_zero_left];exact h
 |H1 m n _ ih=>
  intro h1 h2
  rw [Nat.gcd_rec]
  refine ih ?_ h1
  have e:=kQ hP (m*(n/m)) (n%m)
  rw [Nat.div_add_mod,h2, ←qM hP,h1,yu,yq] at e
  exact e.symm
theorem RE {n:Nat} (h:c8 iF n=iE):LN∣n:=by
 have hg:=mul_gcd jS LN n order h
 rcases vS.dv _ (Nat.gcd_dvd_left LN n) with h1|h1
 ·rw [h1,vP] at hg
  exact absurd (congrArg Prod.snd hg) Eg
 ·exact h1▸Nat.gcd_dvd_right LN n
theorem jR.sI {p a b:Nat} (hp:jR p) (h:p∣a*b):p∣a∨p∣b:=by
 rcases hp.dv (Nat.gcd p a) (Nat.gcd_dvd_left ..) with h1|h1
 ·exact .inr (Nat.Coprime.dvd_of_dvd_mul_left h1 h)
 ·exact .inl (h1▸Nat.gcd_dvd_right p a)
theorem Vg {k:Nat} (h:¬LN∣k*2):(c8 iF k).2≠1∧(c8 iF k).2≠-1:=by
 have key:¬((c8 iF k).2=1∨(c8 iF k).2=-1):=fun q=>h (RE (by rw [←qM jS];exact adQ (lP jS k) q))
 exact ⟨fun q=>key (.inl q),fun q=>key (.inr q)⟩
noncomputable def sc (sec:List Int):Nat:=(bh (sn sec)).toNat
theorem adR:∀n:Fin 256,bS .u8 ((n.val:Nat):Int) 248%8=0:=by decide+kernel
theorem RF:∀n:Fin 256,64≤gi .u8 (bS .u8 ((n.val:Nat):Int) 127) 64:=by decide+kernel
theorem LG:(256:Int)^32=115792089237316195423570985008687907853269984665640564039457584007913129639936:=by decide
theorem XX {sec:List Int} (h:aj sec=true):bh (sn sec)%8=0∧28948022309329048855892746252171976963317496166410141009864396001978282409984≤bh (sn sec)∧bh (sn sec)<57896044618658097711785492504343953926634992332820282019728792003956564819968:=by
 obtain ⟨hn,hl⟩:=bI.1 h
 obtain ⟨_,h2,h3,h4⟩:=U7 hl hn
 have e:=kM _ h2
 rw [h3] at e
 have n0:=dD h2
 have n1:=oI h2
 rw [h3,LG] at n1
 have g0:(sn sec).getD 0 0=bS .u8 (sec.getD 0 0) 248:=by
  unfold sn
  rw [List.getD_eq_getElem?_getD,List.getElem?_set_ne (by omega),List.getElem?_set_self (by omega)];rfl
 have hg:(sn sec).getD 31 0=gi .u8 (bS .u8 ((sec.set 0 (bS .u8 (sec.getD 0 0) 248)).getD 31 0) 127) 64:=by
  unfold sn
  rw [List.getD_eq_getElem?_getD,List.getElem?_set_self (by rw [List.length_set,hn];omega)];rfl
 have e0:=nE (P:=fun x=>bS .u8 x 248=IntKind.u8.wrap (IntKind.u8.wrap (x.tdiv 8)*8)∧u8 (bS .u8 x 248)=true) K5 (qK hl 0)
 have hs:=zw hl 0 e0.2
 have b0:=nE (P:=fun x=>bS .u8 x 248%8=0) adR (qK hl 0)
 have b1:=nE (P:=fun x=>64≤gi .u8 (bS .u8 x 127) 64) RF (qK hs 31)
 rw [←g0] at b0
 rw [←hg] at b1
 generalize hV:bh (sn sec)=V at*
 generalize sn sec=c at*
 rw [e,fQ 32 0 V (by omega)] at b0
 rw [e,fQ 32 31 V (by omega)] at b1
 rw [show (256:Int)^0=1 by decide] at b0
 rw [show (256:Int)^31=452312848583266388373324160190187140051835877600158453279131187530910662656 by decide] at b1
 rw [show (2:Int)^255=57896044618658097711785492504343953926634992332820282019728792003956564819968 by decide] at h4
 omega
theorem uV {sec:List Int} (h:aj sec=true):∃k,sc sec=8*k∧0<k∧k<LN∧sc sec<57896044618658097711785492504343953926634992332820282019728792003956564819968∧((sc sec:Nat):Int)=bh (sn sec):=by
 obtain ⟨h1,h2,h3⟩:=XX h
 unfold sc
 generalize bh (sn sec)=V at*
 refine ⟨V.toNat/8,?_⟩
 unfold LN
 omega
theorem LH {sec:List Int} (h:aj sec=true):∀j,j≤255→num (fun j=>bt (sn sec) (j+1)) j=sc sec/2^(255-j)
 |0,_=>by
  obtain ⟨k,_,_,_,k4,_⟩:=uV h
  rw [num,Nat.sub_zero,Nat.div_eq_of_lt (by rw [show (2:Nat)^255=57896044618658097711785492504343953926634992332820282019728792003956564819968 by decide];exact k4)]
 |j+1,hj=>by
  obtain ⟨k,_,_,_,_,k5⟩:=uV h
  have ih:=LH h j (by omega)
  rw [num,ih]
  have e1:sc sec/2^(255-j)=sc sec/2^(255-(j+1))/2:=by
   rw [Nat.div_div_eq_div_mul,show 255-j=(255-(j+1))+1 by omega,Nat.pow_succ]
  have e2:bt (sn sec) (j+1)=decide (sc sec/2^(255-(j+1))%2=1):=by
   unfold bt
   rw [←k5]
   refine decide_eq_decide.2 ?_
   have e3:((sc sec:Nat):Int)/2^(255-(j+1))%2=((sc sec/2^(255-(j+1))%2:Nat):Int):=by
    rw [Int.natCast_emod,Int.natCast_ediv,Int.natCast_pow];rfl
   rw [e3]
   omega
  rw [e1,e2]
  generalize sc sec/2^(255-(j+1))=x
  by_cases hx:x%2=1
  ·rw [decide_eq_true hx,if_pos rfl];omega
  ·rw [decide_eq_false hx,if_neg (by decide)];omega
theorem LI {P:Pt} {u:Int} (hP:On P) (h1:P.2≠1) (h2:P.2≠-1) (hu:ph u*(1-P.2)=1+P.2) {sec:List Int} (h:aj sec=true):ph (Bb sec u)=uA (c8 P (sc sec)):=by
 rw [XU hP h1 h2 hu,LH h 255 (by omega),Nat.sub_self,Nat.pow_zero,Nat.div_one]
theorem LJ {a b:Nat} (ha:0<a∧a<LN) (hb:0<b∧b<LN):¬LN∣8*a*(8*b)*2:=by
 intro h
 have lt:∀x,0<x→x<LN→¬LN∣x:=fun x h0 h1 h2=>by
  have:=Nat.le_of_dvd h0 h2
  omega
 rcases vS.sI h with h|h
 ·rcases vS.sI h with h|h
  ·rcases vS.sI h with h|h
   ·exact lt 8 (by omega) (by decide) h
   ·exact lt a ha.1 ha.2 h
  ·rcases vS.sI h with h|h
   ·exact lt 8 (by omega) (by decide) h
   ·exact lt b hb.1 hb.2 h
 ·exact lt 2 (by omega) (by decide) h
theorem RG {a:Nat} (ha:0<a∧a<LN):¬LN∣8*a*2:=fun h=>LJ ha (b:=1) (by decide) (by
 obtain ⟨k,hk⟩:=h
 exact ⟨k*8,by rw [←Nat.mul_assoc LN k 8, ←hk];omega⟩)
theorem adS {A:Pt} (h1:A.2≠1) (h2:A.2≠-1):uA A≠0:=fun h=>by
 have hk:=cX (a:=1-A.2) fun q=>h1 (j_n _ q)
 rcases dM h with q|q
 ·exact h2 (j_p _ q)
 ·rw [q] at hk
  exact absurd (show (0:Fp)=1 by rw [←hk];generalize 1-A.2=w;grobner) (by decide)
theorem aiY {A:Pt} (h1:A.2≠1):uA A*(1-A.2)=1+A.2:=by
 exact j_u _ _ (cX (a:=1-A.2) fun q=>h1 (j_n _ q))
theorem zJ (sec:List Int) (n:Int):uP (aJ sec n)=Bb sec n:=by
 obtain ⟨h0,h1⟩:=oF sec n
 have hP:=jC
 unfold uP aJ
 rw [aD,vT 32 _ h0 (by rw [LG];omega),Int.emod_eq_of_lt h0 (by omega),Int.emod_eq_of_lt h0 h1]
theorem XY {sec:List Int} (h:aj sec=true):ph (Bb sec 9)=uA (c8 iF (sc sec)):=LI jS Eg LD LF h
theorem zK {s d:List Int} (hs:aj s=true) (hd:aj d=true):ph (Bb d (Bb s 9))=uA (c8 iF (sc s*sc d))∧(c8 iF (sc s*sc d)).2≠1∧(c8 iF (sc s*sc d)).2≠-1:=by
 obtain ⟨a,a1,a2,a3,_,_⟩:=uV hs
 obtain ⟨b,b1,b2,b3,_,_⟩:=uV hd
 obtain ⟨p1,p2⟩:=Vg (k:=sc s) (by rw [a1];exact RG ⟨a2,a3⟩)
 refine ⟨?_,Vg (by rw [a1,b1];exact LJ ⟨a2,a3⟩ ⟨b2,b3⟩)⟩
 rw [LI (lP jS (sc s)) p1 p2 (by rw [XY hs];exact aiY p1) hd,qM jS]
theorem uW {s d:List Int} (hs:aj s=true) (hd:aj d=true):eu d (aJ s 9)=eu s (aJ d 9):=by
 unfold eu
 rw [zJ,zJ]
 have e:Bb d (Bb s 9)=Bb s (Bb d 9):=Eh (oF _ _) (oF _ _) (by rw [(zK hs hd).1,(zK hd hs).1,Nat.mul_comm])
 unfold aJ
 rw [e]
theorem Vh {s d:List Int} (hs:aj s=true) (hd:aj d=true):gQ d (aJ s 9)=false:=by
 unfold gQ
 refine decide_eq_false fun h=>?_
 obtain ⟨k1,k2,k3⟩:=zK hs hd
 obtain ⟨h0,h1⟩:=oF d (Bb s 9)
 have hP:=jC
 unfold eu at h
 rw [zJ] at h
 unfold aJ at h
 rw [aD] at h
 have:=congrArg bh h
 rw [vT 32 _ h0 (by rw [LG];omega),show bh gR=0 by decide] at this
 rw [this,lQ] at k1
 exact adS k2 k3 k1.symm
end Go.Proofs.YtibfpjeeanppjaaGreat.La
end
