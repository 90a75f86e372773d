/- This file proves what the words of the program's marks stand for as numbers. Conditions: words within their kind; bytes. -/
import Derived.Test.YtibfpjeeanppjaaGreatYR4D
import Derived.Test.YtibfpjeeanppjaaGreatYAeF
set_option linter.all false
namespace Go.Proofs.YtibfpjeeanppjaaGreat.R4
open Go Go.Sy Sh Ae
def hv (l:List Int):Int:=g l 0+18446744073709551616*g l 1+340282366920938463463374607431768211456*g l 2
def mv (l:List Int):Int:=g l 0+18446744073709551616*g l 1+340282366920938463463374607431768211456*g l 2+6277101735386680763835789423207666416102355444464034512896*g l 3
theorem iY {x y c:Int} (hx:R x) (hy:R y) (hc:0≤c∧c≤1):Fe.ck x y c+18446744073709551616*Fe.bR x y c=x+y+c∧R (Fe.ck x y c)∧0≤Fe.bR x y c∧Fe.bR x y c≤1:=by
 obtain ⟨e1,e2⟩:=Fe.qz hx.1 hy.1 hc.1
 have h1:=hx.2
 have h2:=hy.2
 have h3:=hx.1
 have h4:=hy.1
 unfold R
 rw [e1,e2]
 omega
theorem yS:(0:Int)≤0∧(0:Int)≤1:=by decide
theorem uF (n:Int):Ae.W n=n%18446744073709551616:=Fe.wrap_u64 n
theorem Fh {x y:Int} (hx:R x) (hy:R y):18446744073709551616*Fe.fH x y+Fe.mulL x y=x*y∧R (Fe.fH x y)∧Fe.fH x y≤18446744073709551614∧R (Fe.mulL x y):=by
 obtain ⟨h1,h2,h3,h4,h5⟩:=Fe.w6 hx.1 hx.2 hy.1 hy.2
 exact ⟨h1,⟨h2,by omega⟩,h3,⟨h4,h5⟩⟩
theorem Hx {x y:Int} {m:List Int} (hx:R x) (hy:R y) (hm:∀i,R (g m i)):∃q:Int,0≤q∧mv (Wn x y m)+115792089237316195423570985008687907853269984665640564039457584007913129639936*q=mv m+18446744073709551616*(x*y):=by
 obtain ⟨h1,h2,h3,h4⟩:=Fh hx hy
 obtain ⟨a1,a2,a3,a4⟩:=iY (hm 1) h4 yS
 obtain ⟨b1,b2,b3,b4⟩:=iY (hm 2) h2 ⟨a3,a4⟩
 have h3':=hm 3
 refine ⟨(g m 3+Fe.bR (g m 2) (Fe.fH x y) (Fe.bR (g m 1) (Fe.mulL x y) 0))/18446744073709551616,by unfold R at h3';omega,?_⟩
 show g m 0+18446744073709551616*Fe.ck (g m 1) (Fe.mulL x y) 0+340282366920938463463374607431768211456*Fe.ck (g m 2) (Fe.fH x y) (Fe.bR (g m 1) (Fe.mulL x y) 0)+6277101735386680763835789423207666416102355444464034512896*Ae.W (g m 3+Fe.bR (g m 2) (Fe.fH x y) (Fe.bR (g m 1) (Fe.mulL x y) 0))+_=_
 rw [uF]
 unfold mv
 unfold R at*
 generalize Fe.bR (g m 2) (Fe.fH x y) (Fe.bR (g m 1) (Fe.mulL x y) 0)=c2 at*
 generalize Fe.ck (g m 2) (Fe.fH x y) (Fe.bR (g m 1) (Fe.mulL x y) 0)=s2 at*
 generalize Fe.bR (g m 1) (Fe.mulL x y) 0=c1 at*
 generalize Fe.ck (g m 1) (Fe.mulL x y) 0=s1 at*
 generalize Fe.fH x y=H at*
 generalize Fe.mulL x y=L at*
 generalize x*y=p at*
 omega
theorem Hy {x y:Int} {m:List Int} (hx:R x) (hy:R y) (hm:∀i,R (g m i)):∃q:Int,0≤q∧mv (Wo x y m)+115792089237316195423570985008687907853269984665640564039457584007913129639936*q=mv m+340282366920938463463374607431768211456*(x*y):=by
 obtain ⟨h1,h2,h3,h4⟩:=Fh hx hy
 obtain ⟨a1,a2,a3,a4⟩:=iY (hm 2) h4 yS
 obtain ⟨b1,b2,b3,b4⟩:=iY (hm 3) h2 ⟨a3,a4⟩
 refine ⟨Fe.bR (g m 3) (Fe.fH x y) (Fe.bR (g m 2) (Fe.mulL x y) 0),b3,?_⟩
 show g m 0+18446744073709551616*g m 1+340282366920938463463374607431768211456*Fe.ck (g m 2) (Fe.mulL x y) 0+6277101735386680763835789423207666416102355444464034512896*Fe.ck (g m 3) (Fe.fH x y) (Fe.bR (g m 2) (Fe.mulL x y) 0)+_=_
 unfold mv
 unfold R at*
 generalize Fe.bR (g m 3) (Fe.fH x y) (Fe.bR (g m 2) (Fe.mulL x y) 0)=c2 at*
 generalize Fe.ck (g m 3) (Fe.fH x y) (Fe.bR (g m 2) (Fe.mulL x y) 0)=s2 at*
 generalize Fe.bR (g m 2) (Fe.mulL x y) 0=c1 at*
 generalize Fe.ck (g m 2) (Fe.mulL x y) 0=s1 at*
 generalize Fe.fH x y=H at*
 generalize Fe.mulL x y=L at*
 generalize x*y=p at*
 omega
theorem oV {m:List Int} (hm:∀i,R (g m i)):0≤mv m:=by
 have h0:=hm 0
 have h1:=hm 1
 have h2:=hm 2
 have h3:=hm 3
 unfold R at*
 unfold mv
 omega
def Sm (h:List Int):Prop:=(∀i,R (g h i))∧g h 2≤7
theorem Jo {h:List Int} {r s:Int} (hs:Sm h) (hr:0≤r∧r<1152921504606846976) (hs':0≤s∧s<1152921504606846976):mv (yg h r s)=hv h*(r+18446744073709551616*s):=by
 obtain ⟨hR,h7⟩:=hs
 obtain ⟨r0,r1,r2,r3,r4⟩:=Wu h r s
 have Rr:R r:=⟨hr.1,by omega⟩
 have Rs:R s:=⟨hs'.1,by omega⟩
 have e0:mv (ti0 h r)=g h 0*r:=by
  obtain ⟨q1,_,_,_⟩:=Fh (hR 0) Rr
  show Fe.mulL (g h 0) r+18446744073709551616*Fe.fH (g h 0) r+340282366920938463463374607431768211456*0+6277101735386680763835789423207666416102355444464034512896*0=_
  omega
 obtain ⟨q1,p1,e1⟩:=Hx (hR 0) Rs r0
 obtain ⟨q2,p2,e2⟩:=Hx (hR 1) Rr r1
 obtain ⟨q3,p3,e3⟩:=Hy (hR 1) Rs r2
 obtain ⟨q4,p4,e4⟩:=Hy (hR 2) Rr r3
 change mv (ti1 h r s)+_=_ at e1
 change mv (ti2 h r s)+_=_ at e2
 change mv (ti3 h r s)+_=_ at e3
 change mv (vo h r s)+_=_ at e4
 have n1:=oV r1
 have n2:=oV r2
 have n3:=oV r3
 have n4:=oV r4
 have b00:=Fe.cO (hR 0).1 (show g h 0≤18446744073709551615 by have:=(hR 0).2;omega) hr.1 (show r≤1152921504606846975 by omega)
 have b01:=Fe.cO (hR 0).1 (show g h 0≤18446744073709551615 by have:=(hR 0).2;omega) hs'.1 (show s≤1152921504606846975 by omega)
 have b10:=Fe.cO (hR 1).1 (show g h 1≤18446744073709551615 by have:=(hR 1).2;omega) hr.1 (show r≤1152921504606846975 by omega)
 have b11:=Fe.cO (hR 1).1 (show g h 1≤18446744073709551615 by have:=(hR 1).2;omega) hs'.1 (show s≤1152921504606846975 by omega)
 have b20:=Fe.cO (hR 2).1 h7 hr.1 (show r≤1152921504606846975 by omega)
 have b21:=Fe.cO (hR 2).1 h7 hs'.1 (show s≤1152921504606846975 by omega)
 have ex:hv h*(r+18446744073709551616*s)=g h 0*r+18446744073709551616*(g h 0*s)+18446744073709551616*(g h 1*r)+340282366920938463463374607431768211456*(g h 1*s)+340282366920938463463374607431768211456*(g h 2*r)+6277101735386680763835789423207666416102355444464034512896*(g h 2*s):=by
  unfold hv
  generalize g h 0=a
  generalize g h 1=b
  generalize g h 2=c
  grind
 have em:mv (yg h r s)=mv (vo h r s)-6277101735386680763835789423207666416102355444464034512896*g (vo h r s) 3+6277101735386680763835789423207666416102355444464034512896*((g (vo h r s) 3+(g h 2*s)%18446744073709551616)%18446744073709551616):=by
  show g (vo h r s) 0+18446744073709551616*g (vo h r s) 1+340282366920938463463374607431768211456*g (vo h r s) 2+6277101735386680763835789423207666416102355444464034512896*Ae.W (g (vo h r s) 3+Ae.W (g h 2*s))=_
  rw [uF,uF]
  unfold mv
  omega
 have h3:mv (vo h r s)=g (vo h r s) 0+18446744073709551616*g (vo h r s) 1+340282366920938463463374607431768211456*g (vo h r s) 2+6277101735386680763835789423207666416102355444464034512896*g (vo h r s) 3:=rfl
 have k0:=r4 0
 have k1:=r4 1
 have k2:=r4 2
 have k3:=r4 3
 unfold R at k0 k1 k2 k3
 rw [ex,em]
 generalize mv (vo h r s)=t4 at*
 generalize mv (ti3 h r s)=t3 at*
 generalize mv (ti2 h r s)=t2 at*
 generalize mv (ti1 h r s)=t1 at*
 generalize mv (ti0 h r)=t0 at*
 generalize g (vo h r s) 0=u0 at*
 generalize g (vo h r s) 1=u1 at*
 generalize g (vo h r s) 2=u2 at*
 generalize g (vo h r s) 3=u3 at*
 generalize g h 0*r=A at*
 generalize g h 0*s=B at*
 generalize g h 1*r=C at*
 generalize g h 1*s=D at*
 generalize g h 2*r=E at*
 generalize g h 2*s=F at*
 have z4:q4=0:=by omega
 have z3:q3=0:=by omega
 have z2:q2=0:=by omega
 have z1:q1=0:=by omega
 subst z1 z2 z3 z4
 omega
theorem rd_val {h:List Int} {x y:Int} (hR:∀i,R (g h i)) (hx:R x) (hy:R y) (h2:g h 2<1000):hv (rd h x y)=hv h+x+18446744073709551616*y∧(∀i,R (g (rd h x y) i))∧g (rd h x y) 2≤g h 2+1:=by
 obtain ⟨a1,a2,a3,a4⟩:=iY (hR 0) hx yS
 obtain ⟨b1,b2,b3,b4⟩:=iY (hR 1) hy ⟨a3,a4⟩
 have k2:=hR 2
 have e2:g (rd h x y) 2=g h 2+Fe.bR (g h 1) y (Fe.bR (g h 0) x 0):=by
  show Ae.W _=_
  rw [uF]
  unfold R at*
  omega
 refine ⟨?_,fun i=>?_,by omega⟩
 ·show Fe.ck (g h 0) x 0+18446744073709551616*Fe.ck (g h 1) y (Fe.bR (g h 0) x 0)+340282366920938463463374607431768211456*g (rd h x y) 2=_
  rw [e2]
  unfold hv
  omega
 ·match i with
  |0=>exact a2
  |1=>exact b2
  |2=>exact JI _
  |n+3=>exact eL
theorem akh {x:Int} (h:R x):bS .u64 x 3=x%4:=Fe.M7 2 (by decide) x h.1 h.2
theorem Hz {a b:Nat} (ha:a<2^64):bS .u64 (a:Int) (b:Int)=((a&&& (b%2^64):Nat):Int):=by
 unfold bS jy
 show IntKind.u64.wrap ((BitVec.ofInt 64 (a:Int)&&& BitVec.ofInt 64 (b:Int)).toNat:Int)=_
 rw [BitVec.ofInt_natCast,BitVec.ofInt_natCast,BitVec.toNat_and,BitVec.toNat_ofNat,BitVec.toNat_ofNat,Nat.mod_eq_of_lt ha,Fe.wrap_u64]
 have:=Nat.and_lt_two_pow (n:=64) a (Nat.mod_lt b (show 0<2^64 by decide))
 omega
theorem Tx {x:Int} (h:R x):iq .u64 x 3=x-x%4:=by
 obtain ⟨n,rfl⟩:=Int.eq_ofNat_of_zero_le h.1
 have hn:n<2^64:=by have:=h.2;omega
 have key:iq .u64 (n:Int) 3=((n&&& (2^64-4):Nat):Int):=by
  unfold iq jy
  show IntKind.u64.wrap ((BitVec.ofInt 64 (n:Int)&&& ~~~ BitVec.ofInt 64 3).toNat:Int)=_
  rw [BitVec.ofInt_natCast,BitVec.toNat_and,BitVec.toNat_ofNat,Nat.mod_eq_of_lt hn,show (~~~ BitVec.ofInt 64 3).toNat=2^64-4 by decide,Fe.wrap_u64]
  have:=Nat.and_lt_two_pow (n:=64) n (show 2^64-4<2^64 by decide)
  omega
 rw [key]
 have e1:n&&& (2^64-4)=n/4*4:=by
  have a1:(n&&& (2^64-4))%2^2=0:=by rw [Nat.and_mod_two_pow];simp
  have a2:(n&&& (2^64-4))/2^2=n/4:=by
   rw [Nat.and_div_two_pow,show (2^64-4)/2^2=2^62-1 by decide,Nat.and_two_pow_sub_one_eq_mod]
   omega
  omega
 omega
theorem Ty {m:List Int} (hm:∀i,R (g m i)):hv (lK m)=mv m%1361129467683753853853498429727072845824+5*(mv m/1361129467683753853853498429727072845824)∧(∀i,R (g (lK m) i))∧g (lK m) 2≤5:=by
 have h0:=hm 0
 have h1:=hm 1
 have h2:=hm 2
 have h3:=hm 3
 have e1:gi .u64 (bO .u64 (g m 2) 2) (c7 .u64 (g m 3) 62)=g m 2/4+g m 3%4*4611686018427387904:=by
  have c:gi .u64 (bO .u64 (g m 2) 2) (c7 .u64 (g m 3) 62)=gi .u64 (c7 .u64 (g m 3) 62) (bO .u64 (g m 2) 2):=by unfold gi jy;simp only [BitVec.or_comm]
  rw [c,Fe.dB _ _ _ (by decide),Fe.lD _ _ (by decide)]
  unfold R at*
  rw [Fe.uD 62 _ _ (by omega) (by omega) (by omega) (by omega) (by omega) (by decide)]
  omega
 have e2:bO .u64 (g m 3) 2=g m 3/4:=by rw [Fe.dB _ _ _ (by decide)];rfl
 have e3:=akh h2
 have e4:=Tx h2
 have r3:∀i,R (g [g m 0,g m 1,bS .u64 (g m 2) 3] i):=fun i=>by
  match i with
  |0=>exact h0
  |1=>exact h1
  |2=>exact abY _ _
  |n+3=>exact eL
 have k2:g [g m 0,g m 1,bS .u64 (g m 2) 3] 2=g m 2%4:=e3
 obtain ⟨a1,a2,a3⟩:=rd_val (x:=iq .u64 (g m 2) 3) (y:=g m 3) r3 (Bi _ _) h3 (by rw [k2];omega)
 obtain ⟨b1,b2,b3⟩:=rd_val (x:=gi .u64 (bO .u64 (g m 2) 2) (c7 .u64 (g m 3) 62)) (y:=bO .u64 (g m 3) 2) a2 (Ws _ _) (by rw [e2];unfold R at*;omega) (by omega)
 refine ⟨?_,b2,by
  show g (rd (rd _ _ _) _ _) 2≤5
  omega⟩
 show hv (rd (rd _ _ _) _ _)=_
 rw [b1,a1,e1,e2,e4]
 have hv0:hv [g m 0,g m 1,bS .u64 (g m 2) 3]=g m 0+18446744073709551616*g m 1+340282366920938463463374607431768211456*(g m 2%4):=by
  show g m 0+18446744073709551616*g m 1+340282366920938463463374607431768211456*bS .u64 (g m 2) 3=_
  rw [e3]
 rw [hv0]
 unfold mv R at*
 omega
end Go.Proofs.YtibfpjeeanppjaaGreat.R4
