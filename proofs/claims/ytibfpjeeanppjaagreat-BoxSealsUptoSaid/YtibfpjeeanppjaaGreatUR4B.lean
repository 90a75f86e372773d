/- This file proves what the words of the program's marks stand for as numbers. Conditions: words within their kind; bytes. -/
import Derived.Test.YtibfpjeeanppjaaGreatUR4D
import Derived.Test.YtibfpjeeanppjaaGreatUAeF
set_option linter.all false
namespace Go.Proofs.YtibfpjeeanppjaaGreat.R4
open Go Go.Sy Sh Ae
def hv (l:List Int):Int:=g l 0+18446744073709551616*g l 1+340282366920938463463374607431768211456*g l 2
def mv (l:List Int):Int:=g l 0+18446744073709551616*g l 1+340282366920938463463374607431768211456*g l 2+6277101735386680763835789423207666416102355444464034512896*g l 3
theorem iA {x y c:Int} (hx:R x) (hy:R y) (hc:0≤c∧c≤1):Fe.b8 x y c+18446744073709551616*Fe.bG x y c=x+y+c∧R (Fe.b8 x y c)∧0≤Fe.bG x y c∧Fe.bG x y c≤1:=by
 obtain ⟨e1,e2⟩:=Fe.pG hx.1 hy.1 hc.1
 have h1:=hx.2
 have h2:=hy.2
 have h3:=hx.1
 have h4:=hy.1
 unfold R
 rw [e1,e2]
 omega
theorem w6:(0:Int)≤0∧(0:Int)≤1:=by decide
theorem sP (n:Int):Ae.W n=n%18446744073709551616:=Fe.wrap_u64 n
theorem CX {x y:Int} (hx:R x) (hy:R y):18446744073709551616*Fe.eO x y+Fe.mulL x y=x*y∧R (Fe.eO x y)∧Fe.eO x y≤18446744073709551614∧R (Fe.mulL x y):=by
 obtain ⟨h1,h2,h3,h4,h5⟩:=Fe.va hx.1 hx.2 hy.1 hy.2
 exact ⟨h1,⟨h2,by omega⟩,h3,⟨h4,h5⟩⟩
theorem EV {x y:Int} {m:List Int} (hx:R x) (hy:R y) (hm:∀i,R (g m i)):∃q:Int,0≤q∧mv (NK x y m)+115792089237316195423570985008687907853269984665640564039457584007913129639936*q=mv m+18446744073709551616*(x*y):=by
 obtain ⟨h1,h2,h3,h4⟩:=CX hx hy
 obtain ⟨a1,a2,a3,a4⟩:=iA (hm 1) h4 w6
 obtain ⟨b1,b2,b3,b4⟩:=iA (hm 2) h2 ⟨a3,a4⟩
 have h3':=hm 3
 refine ⟨(g m 3+Fe.bG (g m 2) (Fe.eO x y) (Fe.bG (g m 1) (Fe.mulL x y) 0))/18446744073709551616,by unfold R at h3';omega,?_⟩
 show g m 0+18446744073709551616*Fe.b8 (g m 1) (Fe.mulL x y) 0+340282366920938463463374607431768211456*Fe.b8 (g m 2) (Fe.eO x y) (Fe.bG (g m 1) (Fe.mulL x y) 0)+6277101735386680763835789423207666416102355444464034512896*Ae.W (g m 3+Fe.bG (g m 2) (Fe.eO x y) (Fe.bG (g m 1) (Fe.mulL x y) 0))+_=_
 rw [sP]
 unfold mv
 unfold R at*
 generalize Fe.bG (g m 2) (Fe.eO x y) (Fe.bG (g m 1) (Fe.mulL x y) 0)=c2 at*
 generalize Fe.b8 (g m 2) (Fe.eO x y) (Fe.bG (g m 1) (Fe.mulL x y) 0)=s2 at*
 generalize Fe.bG (g m 1) (Fe.mulL x y) 0=c1 at*
 generalize Fe.b8 (g m 1) (Fe.mulL x y) 0=s1 at*
 generalize Fe.eO x y=H at*
 generalize Fe.mulL x y=L at*
 generalize x*y=p at*
 omega
theorem EW {x y:Int} {m:List Int} (hx:R x) (hy:R y) (hm:∀i,R (g m i)):∃q:Int,0≤q∧mv (NL x y m)+115792089237316195423570985008687907853269984665640564039457584007913129639936*q=mv m+340282366920938463463374607431768211456*(x*y):=by
 obtain ⟨h1,h2,h3,h4⟩:=CX hx hy
 obtain ⟨a1,a2,a3,a4⟩:=iA (hm 2) h4 w6
 obtain ⟨b1,b2,b3,b4⟩:=iA (hm 3) h2 ⟨a3,a4⟩
 refine ⟨Fe.bG (g m 3) (Fe.eO x y) (Fe.bG (g m 2) (Fe.mulL x y) 0),b3,?_⟩
 show g m 0+18446744073709551616*g m 1+340282366920938463463374607431768211456*Fe.b8 (g m 2) (Fe.mulL x y) 0+6277101735386680763835789423207666416102355444464034512896*Fe.b8 (g m 3) (Fe.eO x y) (Fe.bG (g m 2) (Fe.mulL x y) 0)+_=_
 unfold mv
 unfold R at*
 generalize Fe.bG (g m 3) (Fe.eO x y) (Fe.bG (g m 2) (Fe.mulL x y) 0)=c2 at*
 generalize Fe.b8 (g m 3) (Fe.eO x y) (Fe.bG (g m 2) (Fe.mulL x y) 0)=s2 at*
 generalize Fe.bG (g m 2) (Fe.mulL x y) 0=c1 at*
 generalize Fe.b8 (g m 2) (Fe.mulL x y) 0=s1 at*
 generalize Fe.eO x y=H at*
 generalize Fe.mulL x y=L at*
 generalize x*y=p at*
 omega
theorem nJ {m:List Int} (hm:∀i,R (g m i)):0≤mv m:=by
 have h0:=hm 0
 have h1:=hm 1
 have h2:=hm 2
 have h3:=hm 3
 unfold R at*
 unfold mv
 omega
def Sm (h:List Int):Prop:=(∀i,R (g h i))∧g h 2≤7
theorem GG {h:List Int} {r s:Int} (hs:Sm h) (hr:0≤r∧r<1152921504606846976) (hs':0≤s∧s<1152921504606846976):mv (vL h r s)=hv h*(r+18446744073709551616*s):=by
 obtain ⟨hR,h7⟩:=hs
 obtain ⟨r0,r1,r2,r3,r4⟩:=TG h r s
 have Rr:R r:=⟨hr.1,by omega⟩
 have Rs:R s:=⟨hs'.1,by omega⟩
 have e0:mv (TD h r)=g h 0*r:=by
  obtain ⟨q1,_,_,_⟩:=CX (hR 0) Rr
  show Fe.mulL (g h 0) r+18446744073709551616*Fe.eO (g h 0) r+340282366920938463463374607431768211456*0+6277101735386680763835789423207666416102355444464034512896*0=_
  omega
 obtain ⟨q1,p1,e1⟩:=EV (hR 0) Rs r0
 obtain ⟨q2,p2,e2⟩:=EV (hR 1) Rr r1
 obtain ⟨q3,p3,e3⟩:=EW (hR 1) Rs r2
 obtain ⟨q4,p4,e4⟩:=EW (hR 2) Rr r3
 change mv (ti1 h r s)+_=_ at e1
 change mv (ti2 h r s)+_=_ at e2
 change mv (TE h r s)+_=_ at e3
 change mv (sR h r s)+_=_ at e4
 have n1:=nJ r1
 have n2:=nJ r2
 have n3:=nJ r3
 have n4:=nJ r4
 have b00:=Fe.cJ (hR 0).1 (show g h 0≤18446744073709551615 by have:=(hR 0).2;omega) hr.1 (show r≤1152921504606846975 by omega)
 have b01:=Fe.cJ (hR 0).1 (show g h 0≤18446744073709551615 by have:=(hR 0).2;omega) hs'.1 (show s≤1152921504606846975 by omega)
 have b10:=Fe.cJ (hR 1).1 (show g h 1≤18446744073709551615 by have:=(hR 1).2;omega) hr.1 (show r≤1152921504606846975 by omega)
 have b11:=Fe.cJ (hR 1).1 (show g h 1≤18446744073709551615 by have:=(hR 1).2;omega) hs'.1 (show s≤1152921504606846975 by omega)
 have b20:=Fe.cJ (hR 2).1 h7 hr.1 (show r≤1152921504606846975 by omega)
 have b21:=Fe.cJ (hR 2).1 h7 hs'.1 (show s≤1152921504606846975 by omega)
 have ex:hv h*(r+18446744073709551616*s)=g h 0*r+18446744073709551616*(g h 0*s)+18446744073709551616*(g h 1*r)+340282366920938463463374607431768211456*(g h 1*s)+340282366920938463463374607431768211456*(g h 2*r)+6277101735386680763835789423207666416102355444464034512896*(g h 2*s):=by
  unfold hv
  generalize g h 0=a
  generalize g h 1=b
  generalize g h 2=c
  grind
 have em:mv (vL h r s)=mv (sR h r s)-6277101735386680763835789423207666416102355444464034512896*g (sR h r s) 3+6277101735386680763835789423207666416102355444464034512896*((g (sR h r s) 3+(g h 2*s)%18446744073709551616)%18446744073709551616):=by
  show g (sR h r s) 0+18446744073709551616*g (sR h r s) 1+340282366920938463463374607431768211456*g (sR h r s) 2+6277101735386680763835789423207666416102355444464034512896*Ae.W (g (sR h r s) 3+Ae.W (g h 2*s))=_
  rw [sP,sP]
  unfold mv
  omega
 have h3:mv (sR h r s)=g (sR h r s) 0+18446744073709551616*g (sR h r s) 1+340282366920938463463374607431768211456*g (sR h r s) 2+6277101735386680763835789423207666416102355444464034512896*g (sR h r s) 3:=rfl
 have k0:=r4 0
 have k1:=r4 1
 have k2:=r4 2
 have k3:=r4 3
 unfold R at k0 k1 k2 k3
 rw [ex,em]
 generalize mv (sR h r s)=t4 at*
 generalize mv (TE h r s)=t3 at*
 generalize mv (ti2 h r s)=t2 at*
 generalize mv (ti1 h r s)=t1 at*
 generalize mv (TD h r)=t0 at*
 generalize g (sR h r s) 0=u0 at*
 generalize g (sR h r s) 1=u1 at*
 generalize g (sR h r s) 2=u2 at*
 generalize g (sR h r s) 3=u3 at*
 generalize g h 0*r=A at*
 generalize g h 0*s=B at*
 generalize g h 1*r=C at*
 generalize g h 1*s=D at*
 generalize g h 2*r=E at*
 generalize g h 2*s=F at*
 have z4:q4=0:=by omega
 have z3:q3=0:=by omega
 have z2:q2=0:=by omega
 have z1:q1=0:=by omega
 subst z1 z2 z3 z4
 omega
theorem rd_val {h:List Int} {x y:Int} (hR:∀i,R (g h i)) (hx:R x) (hy:R y) (h2:g h 2<1000):hv (rd h x y)=hv h+x+18446744073709551616*y∧(∀i,R (g (rd h x y) i))∧g (rd h x y) 2≤g h 2+1:=by
 obtain ⟨a1,a2,a3,a4⟩:=iA (hR 0) hx w6
 obtain ⟨b1,b2,b3,b4⟩:=iA (hR 1) hy ⟨a3,a4⟩
 have k2:=hR 2
 have e2:g (rd h x y) 2=g h 2+Fe.bG (g h 1) y (Fe.bG (g h 0) x 0):=by
  show Ae.W _=_
  rw [sP]
  unfold R at*
  omega
 refine ⟨?_,fun i=>?_,by omega⟩
 ·show Fe.b8 (g h 0) x 0+18446744073709551616*Fe.b8 (g h 1) y (Fe.bG (g h 0) x 0)+340282366920938463463374607431768211456*g (rd h x y) 2=_
  rw [e2]
  unfold hv
  omega
 ·match i with
  |0=>exact a2
  |1=>exact b2
  |2=>exact GZ _
  |n+3=>exact eC
theorem agA {x:Int} (h:R x):bR .u64 x 3=x%4:=Fe.LB 2 (by decide) x h.1 h.2
theorem EX {a b:Nat} (ha:a<2^64):bR .u64 (a:Int) (b:Int)=((a&&& (b%2^64):Nat):Int):=by
 unfold bR ja
 show IntKind.u64.wrap ((BitVec.ofInt 64 (a:Int)&&& BitVec.ofInt 64 (b:Int)).toNat:Int)=_
 rw [BitVec.ofInt_natCast,BitVec.ofInt_natCast,BitVec.toNat_and,BitVec.toNat_ofNat,BitVec.toNat_ofNat,Nat.mod_eq_of_lt ha,Fe.wrap_u64]
 have:=Nat.and_lt_two_pow (n:=64) a (Nat.mod_lt b (show 0<2^64 by decide))
 omega
theorem QC {x:Int} (h:R x):fL .u64 x 3=x-x%4:=by
 obtain ⟨n,rfl⟩:=Int.eq_ofNat_of_zero_le h.1
 have hn:n<2^64:=by have:=h.2;omega
 have key:fL .u64 (n:Int) 3=((n&&& (2^64-4):Nat):Int):=by
  unfold fL ja
  show IntKind.u64.wrap ((BitVec.ofInt 64 (n:Int)&&& ~~~ BitVec.ofInt 64 3).toNat:Int)=_
  rw [BitVec.ofInt_natCast,BitVec.toNat_and,BitVec.toNat_ofNat,Nat.mod_eq_of_lt hn,show (~~~ BitVec.ofInt 64 3).toNat=2^64-4 by decide,Fe.wrap_u64]
  have:=Nat.and_lt_two_pow (n:=64) n (show 2^64-4<2^64 by decide)
  omega
 rw [key]
 have e1:n&&& (2^64-4)=n/4*4:=by
  have a1:(n&&& (2^64-4))%2^2=0:=by rw [Nat.and_mod_two_pow];simp
  have a2:(n&&& (2^64-4))/2^2=n/4:=by
   rw [Nat.and_div_two_pow,show (2^64-4)/2^2=2^62-1 by decide,Nat.and_two_pow_sub_one_eq_mod]
   omega
  omega
 omega
theorem QD {m:List Int} (hm:∀i,R (g m i)):hv (RC m)=mv m%1361129467683753853853498429727072845824+5*(mv m/1361129467683753853853498429727072845824)∧(∀i,R (g (RC m) i))∧g (RC m) 2≤5:=by
 have h0:=hm 0
 have h1:=hm 1
 have h2:=hm 2
 have h3:=hm 3
 have e1:gj .u64 (bh .u64 (g m 2) 2) (cV .u64 (g m 3) 62)=g m 2/4+g m 3%4*4611686018427387904:=by
  have c:gj .u64 (bh .u64 (g m 2) 2) (cV .u64 (g m 3) 62)=gj .u64 (cV .u64 (g m 3) 62) (bh .u64 (g m 2) 2):=by unfold gj ja;simp only [BitVec.or_comm]
  rw [c,Fe.dj _ _ _ (by decide),Fe.kF _ _ (by decide)]
  unfold R at*
  rw [Fe.sL 62 _ _ (by omega) (by omega) (by omega) (by omega) (by omega) (by decide)]
  omega
 have e2:bh .u64 (g m 3) 2=g m 3/4:=by rw [Fe.dj _ _ _ (by decide)];rfl
 have e3:=agA h2
 have e4:=QC h2
 have r3:∀i,R (g [g m 0,g m 1,bR .u64 (g m 2) 3] i):=fun i=>by
  match i with
  |0=>exact h0
  |1=>exact h1
  |2=>exact YH _ _
  |n+3=>exact eC
 have k2:g [g m 0,g m 1,bR .u64 (g m 2) 3] 2=g m 2%4:=e3
 obtain ⟨a1,a2,a3⟩:=rd_val (x:=fL .u64 (g m 2) 3) (y:=g m 3) r3 (zh _ _) h3 (by rw [k2];omega)
 obtain ⟨b1,b2,b3⟩:=rd_val (x:=gj .u64 (bh .u64 (g m 2) 2) (cV .u64 (g m 3) 62)) (y:=bh .u64 (g m 3) 2) a2 (TC _ _) (by rw [e2];unfold R at*;omega) (by omega)
 refine ⟨?_,b2,by
  show g (rd (rd _ _ _) _ _) 2≤5
  omega⟩
 show hv (rd (rd _ _ _) _ _)=_
 rw [b1,a1,e1,e2,e4]
 have hv0:hv [g m 0,g m 1,bR .u64 (g m 2) 3]=g m 0+18446744073709551616*g m 1+340282366920938463463374607431768211456*(g m 2%4):=by
  show g m 0+18446744073709551616*g m 1+340282366920938463463374607431768211456*bR .u64 (g m 2) 3=_
  rw [e3]
 rw [hv0]
 unfold mv R at*
 omega
end Go.Proofs.YtibfpjeeanppjaaGreat.R4
