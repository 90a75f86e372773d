/- This file holds the texts R4H, R4I, a section each. No conditions beyond those in the theorems. -/
import Derived.Test.YtibfpjeeanppjaaGreatYR4B
import Derived.Test.YtibfpjeeanppjaaGreatYR4G
set_option linter.all false
section
namespace Go.Proofs.YtibfpjeeanppjaaGreat.R4
open Go Go.Sy Sh
theorem iL {n x:Int} (h0:0≤n) (h1:n<72057594037927936) (hx:0≤x∧x<256):gi .u64 (c7 .u64 n 8) (Ae.W x)=x+256*n:=by
 rw [Fe.lD _ _ (by decide),uF]
 rw [show n*2^8%18446744073709551616=256*n by omega,show x%18446744073709551616=x by omega]
 rw [Fe.uD 8 _ _ (by omega) (by omega) (by omega) (by omega) (by omega) (by decide)]
 omega
theorem AT {l:List Int} (d:Dg l):Ae.eK l=nv [l.getD 0 0,l.getD 1 0,l.getD 2 0,l.getD 3 0,l.getD 4 0,l.getD 5 0,l.getD 6 0,l.getD 7 0]:=by
 have h:=fun i=>d.getD i
 have h0:=h 0
 have h1:=h 1
 have h2:=h 2
 have h3:=h 3
 have h4:=h 4
 have h5:=h 5
 have h6:=h 6
 have h7:=h 7
 unfold Ae.eK
 simp only [List.foldl,nv,Int.mul_zero,Int.add_zero]
 rw [iL (n:=0) (by omega) (by omega) h7]
 rw [iL (by omega) (by omega) h6,iL (by omega) (by omega) h5,iL (by omega) (by omega) h4,iL (by omega) (by omega) h3,iL (by omega) (by omega) h2,iL (by omega) (by omega) h1,iL (by omega) (by omega) h0]
 omega
theorem af0 {l:List Int} (h:8≤l.length):l.take 8=[l.getD 0 0,l.getD 1 0,l.getD 2 0,l.getD 3 0,l.getD 4 0,l.getD 5 0,l.getD 6 0,l.getD 7 0]:=by
 match l,h with
 |a::b::c::d::e::f::g::i::l,_=>rfl
theorem AU {l:List Int} (d:Dg l) (h:8≤l.length):Ae.eK l=nv (l.take 8):=by rw [AT d,af0 h]
theorem and_cons {x m:Nat} (n:Nat) (c:Nat) (hx:x<256) (hc:c<256):((x+256*n)&&& (c+256*m))=(x&&& c)+256*(n&&& m):=by
 have a1:((x+256*n)&&& (c+256*m))%2^8=x&&& c:=by
  rw [Nat.and_mod_two_pow,show (x+256*n)%2^8=x by omega,show (c+256*m)%2^8=c by omega]
 have a2:((x+256*n)&&& (c+256*m))/2^8=n&&& m:=by
  rw [Nat.and_div_two_pow,show (x+256*n)/2^8=n by omega,show (c+256*m)/2^8=m by omega]
 omega
theorem mJ (x:Nat) (h:x<256):x&&& 255=x:=by
 rw [show 255=2^8-1 by decide,Nat.and_two_pow_sub_one_eq_mod];omega
theorem HQ (x:Nat):x&&& 15=x%16:=by rw [show 15=2^4-1 by decide,Nat.and_two_pow_sub_one_eq_mod]
theorem Fm (x:Nat) (h:x<256):x&&& 252=x/4*4:=by
 have a1:(x&&& 252)%2^2=0:=by rw [Nat.and_mod_two_pow];simp
 have a2:(x&&& 252)/2^2=x/4:=by
  rw [Nat.and_div_two_pow,show 252/2^2=2^6-1 by decide,Nat.and_two_pow_sub_one_eq_mod];omega
 omega
theorem aam {a b c d e f g h:Nat} (ha:a<256) (hb:b<256) (hc:c<256) (hd:d<256) (he:e<256) (hf:f<256) (hg:g<256) (hh:h<256):
  (a+256*(b+256*(c+256*(d+256*(e+256*(f+256*(g+256*h)))))))&&& 1152921487695413247=a+256*(b+256*(c+256*(d%16+256*(e/4*4+256*(f+256*(g+256*(h%16))))))):=by
 rw [show (1152921487695413247:Nat)=255+256*(255+256*(255+256*(15+256*(252+256*(255+256*(255+256*15)))))) by decide]
 rw [and_cons _ _ ha (by decide),and_cons _ _ hb (by decide),and_cons _ _ hc (by decide),and_cons _ _ hd (by decide),and_cons _ _ he (by decide),and_cons _ _ hf (by decide),and_cons _ _ hg (by decide)]
 rw [mJ a ha,mJ b hb,mJ c hc,HQ d,Fm e he,mJ f hf,mJ g hg,HQ h]
theorem aan {a b c d e f g h:Nat} (ha:a<256) (hb:b<256) (hc:c<256) (hd:d<256) (he:e<256) (hf:f<256) (hg:g<256) (hh:h<256):
  (a+256*(b+256*(c+256*(d+256*(e+256*(f+256*(g+256*h)))))))&&& 1152921487695413244=a/4*4+256*(b+256*(c+256*(d%16+256*(e/4*4+256*(f+256*(g+256*(h%16))))))):=by
 rw [show (1152921487695413244:Nat)=252+256*(255+256*(255+256*(15+256*(252+256*(255+256*(255+256*15)))))) by decide]
 rw [and_cons _ _ ha (by decide),and_cons _ _ hb (by decide),and_cons _ _ hc (by decide),and_cons _ _ hd (by decide),and_cons _ _ he (by decide),and_cons _ _ hf (by decide),and_cons _ _ hg (by decide)]
 rw [Fm a ha,mJ b hb,mJ c hc,HQ d,Fm e he,mJ f hf,mJ g hg,HQ h]
theorem akM {a:Nat} (ha:a<2^64):bS .u64 (a:Int) 1152921487695413247=((a&&& 1152921487695413247:Nat):Int):=by
 have h:=Hz (b:=1152921487695413247) ha
 rw [Nat.mod_eq_of_lt (show 1152921487695413247<2^64 by decide)] at h
 exact h
theorem akN {a:Nat} (ha:a<2^64):bS .u64 (a:Int) 1152921487695413244=((a&&& 1152921487695413244:Nat):Int):=by
 have h:=Hz (b:=1152921487695413244) ha
 rw [Nat.mod_eq_of_lt (show 1152921487695413244<2^64 by decide)] at h
 exact h
theorem bd8 {a b c d e f g h:Nat} (ha:a<256) (hb:b<256) (hc:c<256) (hd:d<256) (he:e<256) (hf:f<256) (hg:g<256) (hh:h<256):a+256*(b+256*(c+256*(d+256*(e+256*(f+256*(g+256*h))))))<2^64:=by omega
theorem af1 {a b c d e f g h:Nat} (ha:a<256) (hb:b<256) (hc:c<256) (hd:d<256) (he:e<256) (hf:f<256) (hg:g<256) (hh:h<256):bS .u64 ((a+256*(b+256*(c+256*(d+256*(e+256*(f+256*(g+256*h)))))):Nat):Int) 1152921487695413247=((a+256*(b+256*(c+256*(d%16+256*(e/4*4+256*(f+256*(g+256*(h%16))))))):Nat):Int):=by
 rw [akM (bd8 ha hb hc hd he hf hg hh),aam ha hb hc hd he hf hg hh]
theorem af2 {a b c d e f g h:Nat} (ha:a<256) (hb:b<256) (hc:c<256) (hd:d<256) (he:e<256) (hf:f<256) (hg:g<256) (hh:h<256):bS .u64 ((a+256*(b+256*(c+256*(d+256*(e+256*(f+256*(g+256*h)))))):Nat):Int) 1152921487695413244=((a/4*4+256*(b+256*(c+256*(d%16+256*(e/4*4+256*(f+256*(g+256*(h%16))))))):Nat):Int):=by
 rw [akN (bd8 ha hb hc hd he hf hg hh),aan ha hb hc hd he hf hg hh]
theorem af3 {key:List Int} (d:Dg key):Ae.uJ key+18446744073709551616*Ae.uL key=nv (rQ key)∧(0≤Ae.uJ key∧Ae.uJ key<1152921504606846976)∧(0≤Ae.uL key∧Ae.uL key<1152921504606846976):=by
 have hb:∀i,∃n:Nat,key.getD i 0=(n:Int)∧n<256:=fun i=>by
  have:=d.getD i
  exact ⟨(key.getD i 0).toNat,by omega,by omega⟩
 obtain ⟨n0,e0,l0⟩:=hb 0
 obtain ⟨n1,e1,l1⟩:=hb 1
 obtain ⟨n2,e2,l2⟩:=hb 2
 obtain ⟨n3,e3,l3⟩:=hb 3
 obtain ⟨n4,e4,l4⟩:=hb 4
 obtain ⟨n5,e5,l5⟩:=hb 5
 obtain ⟨n6,e6,l6⟩:=hb 6
 obtain ⟨n7,e7,l7⟩:=hb 7
 obtain ⟨n8,e8,l8⟩:=hb 8
 obtain ⟨n9,e9,l9⟩:=hb 9
 obtain ⟨n10,e10,l10⟩:=hb 10
 obtain ⟨n11,e11,l11⟩:=hb 11
 obtain ⟨Iz,e12,l12⟩:=hb 12
 obtain ⟨n13,e13,l13⟩:=hb 13
 obtain ⟨n14,e14,l14⟩:=hb 14
 obtain ⟨n15,e15,l15⟩:=hb 15
 have g8:∀i,i<8→(Ae.k8 key).getD i 0=key.getD (8+i) 0:=fun i hi=>by
  unfold Ae.k8
  rw [tn _ _ _ (by omega),jx]
 have q0:Ae.eK key=((n0+256*(n1+256*(n2+256*(n3+256*(n4+256*(n5+256*(n6+256*n7)))))):Nat):Int):=by
  rw [AT d,e0,e1,e2,e3,e4,e5,e6,e7]
  simp only [nv]
  omega
 have q1:Ae.eK (Ae.k8 key)=((n8+256*(n9+256*(n10+256*(n11+256*(Iz+256*(n13+256*(n14+256*n15)))))):Nat):Int):=by
  have dk:Dg (Ae.k8 key):=(d.drop 8).take 24
  rw [AT dk,g8 0 (by decide),g8 1 (by decide),g8 2 (by decide),g8 3 (by decide),g8 4 (by decide),g8 5 (by decide),g8 6 (by decide),g8 7 (by decide),e8,e9,e10,e11,e12,e13,e14,e15]
  simp only [nv]
  omega
 have r0:Ae.uJ key=((n0+256*(n1+256*(n2+256*(n3%16+256*(n4/4*4+256*(n5+256*(n6+256*(n7%16))))))):Nat):Int):=by
  unfold Ae.uJ
  rw [q0,af1 l0 l1 l2 l3 l4 l5 l6 l7]
 have r1:Ae.uL key=((n8/4*4+256*(n9+256*(n10+256*(n11%16+256*(Iz/4*4+256*(n13+256*(n14+256*(n15%16))))))):Nat):Int):=by
  unfold Ae.uL
  rw [q1,af2 l8 l9 l10 l11 l12 l13 l14 l15]
 have t16:∀n:Nat,(n:Int).tmod 16=((n%16:Nat):Int):=fun n=>by rw [cY (by omega)];omega
 have t4:∀n:Nat,n<256→J (J ((n:Int).tdiv 4)*4)=((n/4*4:Nat):Int):=fun n h=>by
  rw [eA (by omega),dy (n:=(n:Int)/4) (by omega) (by omega),dy (by omega) (by omega)];omega
 rw [r0,r1]
 refine ⟨?_,by omega,by omega⟩
 unfold rQ
 rw [e0,e1,e2,e3,e4,e5,e6,e7,e8,e9,e10,e11,e12,e13,e14,e15,t16 n3,t16 n7,t16 n11,t16 n15,t4 n4 l4,t4 n8 l8,t4 Iz l12]
 simp only [nv]
 omega
end Go.Proofs.YtibfpjeeanppjaaGreat.R4
end
section
namespace Go.Proofs.YtibfpjeeanppjaaGreat.R4
open Go Go.Sy Sh
open Ae (R g)
theorem OU {p:List Int} (d:Dg p) (hl:p.length≤16):Dg (Ae.bW p)∧(Ae.bW p).length=17∧nv (Ae.bW p)=nv (p++[1]):=by
 have e:Ae.bW p=(p++List.replicate (17-p.length) 0).set p.length 1:=by
  unfold Ae.bW ng
  rw [show Nat.min p.length 17=p.length from Nat.min_eq_left (by omega),List.take_zero,List.nil_append,List.take_of_length_le (Nat.le_refl _),Nat.zero_add,Int.toNat_natCast,Nat.zero_add,List.drop_replicate]
 have d0:Dg (p++List.replicate (17-p.length) 0):=d.app (rZ _)
 have hlen:(p++List.replicate (17-p.length) (0:Int)).length=17:=by rw [List.length_append,List.length_replicate];omega
 rw [e]
 refine ⟨d0.set _ (by decide),by rw [List.length_set,hlen],?_⟩
 have hg:(p++List.replicate (17-p.length) (0:Int)).getD p.length 0=0:=by
  rw [List.getD_eq_getElem?_getD,List.getElem?_append_right (Nat.le_refl _),Nat.sub_self,List.getElem?_replicate]
  split<;>rfl
 rw [AO _ _ _ (by omega),hg,fW,fW,xA]
 simp only [nv]
 omega
theorem aao {l:List Int} (h:l.length=17):nv (l.drop 16)=l.getD 16 0:=by
 have h1:=HD (l.drop 16)
 rw [jx,List.drop_drop,List.drop_of_length_le (i:=16+1) (by omega)] at h1
 rw [h1]
 simp [nv]
theorem yU {b:List Int} (d:Dg b) (h:b.length=17):Ae.eK b+18446744073709551616*Ae.eK ((b.drop 8).take 9)+340282366920938463463374607431768211456*b.getD 16 0=nv b∧0≤b.getD 16 0∧b.getD 16 0<256:=by
 refine ⟨?_,d.getD 16⟩
 rw [AU d (by omega),AU ((d.drop 8).take 9) (by rw [List.length_take,List.length_drop];omega),List.take_take,Nat.min_eq_left (by decide)]
 have s1:=ou b 8 (by omega)
 have s2:=ou (b.drop 8) 8 (by rw [List.length_drop];omega)
 rw [List.drop_drop,aao h] at s2
 rw [s1,s2]
 have e8:(256:Int)^8=18446744073709551616:=by decide
 rw [e8]
 omega
theorem zA {h p:List Int} (hR:∀i,R (g h i)) (h5:g h 2≤5) (dp:Dg p) (hl:p.length≤16) (hp:g (Ae.bW p) 16≤1):hv (Ae.DH h p)=hv h+nv (p++[1])∧Sm (Ae.DH h p):=by
 obtain ⟨b1,b2,b3⟩:=OU dp hl
 obtain ⟨w1,w2,w3⟩:=yU b1 b2
 have GF:(Ae.bW p).getD 16 0≤1:=hp
 have hH:Ae.bH p=((Ae.bW p).drop 8).take 9:=rfl
 rw [←hH] at w1
 obtain ⟨a1,a2,a3,a4⟩:=iY (hR 0) (Ae.m9 (Ae.bW p)) yS
 obtain ⟨c1,c2,c3,c4⟩:=iY (hR 1) (Ae.m9 (Ae.bH p)) ⟨a3,a4⟩
 have k2:=hR 2
 have e2:g (Ae.DH h p) 2=g h 2+((Ae.bW p).getD 16 0+Fe.bR (g h 1) (Ae.eK (Ae.bH p)) (Fe.bR (g h 0) (Ae.eK (Ae.bW p)) 0)):=by
  show Ae.W (g h 2+Ae.W (Ae.W ((Ae.bW p).getD 16 0)+Fe.bR (g h 1) (Ae.eK (Ae.bH p)) (Fe.bR (g h 0) (Ae.eK (Ae.bW p)) 0)))=_
  rw [uF,uF,uF]
  unfold R at*
  omega
 refine ⟨?_,fun i=>?_,by unfold R at k2;omega⟩
 ·show Fe.ck (g h 0) (Ae.eK (Ae.bW p)) 0+18446744073709551616*Fe.ck (g h 1) (Ae.eK (Ae.bH p)) (Fe.bR (g h 0) (Ae.eK (Ae.bW p)) 0)+340282366920938463463374607431768211456*g (Ae.DH h p) 2=_
  rw [e2, ←b3]
  unfold hv
  omega
 ·match i with
  |0=>exact a2
  |1=>exact c2
  |2=>exact Ae.JI _
  |n+3=>exact Ae.eL
theorem TO {p:List Int} (d:Dg p) (hl:p.length≤16):g (Ae.bW p) 16≤1:=by
 obtain ⟨b1,b2,b3⟩:=OU d hl
 obtain ⟨w1,w2,w3⟩:=yU b1 b2
 have l0:=Ae.m9 (Ae.bW p)
 have l1:=Ae.m9 (((Ae.bW p).drop 8).take 9)
 have hn:=xz (d1 d)
 rw [fW] at hn b3
 have h1:=xz d
 have h2:(256:Int)^p.length≤256^16:=lF hl
 rw [xB] at h2
 simp only [nv] at b3
 have e:nv (Ae.bW p)<680564733841876926926749214863536422912:=by omega
 unfold R at*
 show (Ae.bW p).getD 16 0≤1
 omega
theorem OV {h p key:List Int} (hR:∀i,R (g h i)) (h5:g h 2≤5) (dp:Dg p) (hl:p.length≤16) (dk:Dg key):
  hv (Ae.sr h p (Ae.uJ key) (Ae.uL key))%1361129467683753853853498429727072845819=(hv h+nv (p++[1]))*nv (rQ key)%1361129467683753853853498429727072845819∧(∀i,R (g (Ae.sr h p (Ae.uJ key) (Ae.uL key)) i))∧g (Ae.sr h p (Ae.uJ key) (Ae.uL key)) 2≤5:=by
 obtain ⟨r1,r2,r3⟩:=af3 dk
 obtain ⟨a1,a2⟩:=zA hR h5 dp hl (TO dp hl)
 have t:=Jo a2 r2 r3
 obtain ⟨m1,m2,m3⟩:=Ty (Ae.Ux (Ae.DH h p) (Ae.uJ key) (Ae.uL key))
 rw [t,a1,r1] at m1
 have e:Ae.sr h p (Ae.uJ key) (Ae.uL key)=Ae.lK (Ae.yg (Ae.DH h p) (Ae.uJ key) (Ae.uL key)):=by unfold Ae.sr;rw [Ae.nc,aD]
 rw [e]
 refine ⟨?_,m2,m3⟩
 rw [m1]
 generalize (hv h+nv (p++[1]))*nv (rQ key)=v
 omega
theorem Dk {key text:List Int} (dk:Dg key) (dt:Dg text):∀j,hv (Ae.hN text (Ae.uJ key) (Ae.uL key) j)%1361129467683753853853498429727072845819=nv (qn key text j)%1361129467683753853853498429727072845819∧(∀i,R (g (Ae.hN text (Ae.uJ key) (Ae.uL key) j) i))∧g (Ae.hN text (Ae.uJ key) (Ae.uL key) j) 2≤5
 |0=>⟨by rfl,(Ae.WD text (Ae.uJ key) (Ae.uL key) 0).2,by show (0:Int)≤5;decide⟩
 |j+1=>by
  obtain ⟨h1,h2,h3⟩:=Dk dk dt j
  have dp:Dg ((text.drop (16*j)).take 16):=(dt.drop _).take _
  obtain ⟨s1,s2,s3⟩:=OV h2 h3 dp (by rw [List.length_take];omega) dk
  have q:=(OR (r8 dk dt j).1 dp (HM dk)).2
  refine ⟨?_,s2,s3⟩
  show hv (Ae.sr (Ae.hN text (Ae.uJ key) (Ae.uL key) j) ((text.drop (16*j)).take 16) (Ae.uJ key) (Ae.uL key))%1361129467683753853853498429727072845819=nv (DN (qn key text j) ((text.drop (16*j)).take 16) (rQ key))%1361129467683753853853498429727072845819
  rw [s1,q,Int.mul_emod,Int.add_emod,h1, ←Int.add_emod, ←Int.mul_emod]
theorem HR {l:List Int} (hR:∀i,R (g l i)) (h7:g l 2≤7):(∀i,R (g (Ae.oA l) i))∧g (Ae.oA l) 2≤7∧hv (Ae.oA l)=if 1361129467683753853853498429727072845819≤hv l then hv l-1361129467683753853853498429727072845819 else hv l:=by
 obtain ⟨a1,a2,a3,a4⟩:=iY (hR 0) Ae.vt yS
 obtain ⟨c1,c2,c3,c4⟩:=iY (hR 1) Ae.eL ⟨a3,a4⟩
 have k0:=hR 0
 have k1:=hR 1
 have k2:=hR 2
 have et:Ae.J5 l=g l 2+Fe.bR (g l 1) 0 (Fe.bR (g l 0) 5 0):=by
  show Ae.W _=_
  rw [uF]
  unfold R at*
  omega
 have ev:Fe.ck (g l 0) 5 0+18446744073709551616*Fe.ck (g l 1) 0 (Fe.bR (g l 0) 5 0)+340282366920938463463374607431768211456*Ae.J5 l=hv l+5:=by
  rw [et]
  unfold hv
  omega
 by_cases q:Ae.J5 l≥4
 ·have e:Ae.oA l=Ae.Wy l:=by unfold Ae.oA;rw [if_pos q]
  have e2:g (Ae.Wy l) 2=Ae.J5 l-4:=by
   show Ae.W (Ae.J5 l-4)=_
   rw [uF]
   unfold R at*
   omega
  rw [e]
  refine ⟨Ae.Uz l,by omega,?_⟩
  rw [if_pos (by unfold R at*;omega)]
  show Fe.ck (g l 0) 5 0+18446744073709551616*Fe.ck (g l 1) 0 (Fe.bR (g l 0) 5 0)+340282366920938463463374607431768211456*g (Ae.Wy l) 2=_
  rw [e2]
  omega
 ·have e:Ae.oA l=l:=by unfold Ae.oA;rw [if_neg q]
  rw [e]
  refine ⟨hR,h7,?_⟩
  rw [if_neg (by unfold R at*;omega)]
theorem aap {l:List Int} (hR:∀i,R (g l i)) (h5:g l 2≤5):(∀i,R (g (Ae.oA (Ae.oA l)) i))∧hv (Ae.oA (Ae.oA l))=hv l%1361129467683753853853498429727072845819:=by
 obtain ⟨a1,a2,a3⟩:=HR hR (by omega)
 obtain ⟨b1,_,b3⟩:=HR a1 a2
 refine ⟨b1,?_⟩
 have k0:=hR 0
 have k1:=hR 1
 have k2:=hR 2
 have hb:0≤hv l∧hv l<2041694201525630780780247644590609268736:=by unfold hv R at*;omega
 rw [b3,a3]
 generalize hv l=v at*
 by_cases q:1361129467683753853853498429727072845819≤v
 ·simp only [if_pos q]
  split<;>omega
 ·simp only [if_neg q]
  omega
theorem AV:∀{a:List Int} (_:Dg a) (i:Nat),a.getD i 0=nv a/256^i%256
 | [],_,i=>by simp [nv]
 |x::a,d,0=>by
  have:=(Dg.cons.1 d).1
  rw [List.getD_cons_zero,nv]
  omega
 |x::a,d,i+1=>by
  have h:=(Dg.cons.1 d).1
  rw [List.getD_cons_succ,AV (Dg.cons.1 d).2 i,nv,show (256:Int)^(i+1)=256*256^i by rw [Int.pow_succ,Int.mul_comm], ←Int.ediv_ediv_of_nonneg (show (0:Int)≤256 by decide),show (x+256*nv a)/256=nv a by omega]
theorem TP {s:List Int} (h:SQ s):Dg (lH s)∧nv (lH s)=nv s%1361129467683753853853498429727072845819:=by
 refine ⟨(HP h).1,?_⟩
 obtain ⟨ds,ts,vs⟩:=h
 obtain ⟨a1,a2⟩:=tq ds d5
 have h0:=eD ds
 have hg:=AV a1 16
 rw [a2,xB] at hg
 simp only [nv] at hg a2
 unfold lH
 by_cases q:17≤jd s [5]∧4≤(je s [5]).getD 16 0
 ·rw [if_pos q,AO _ _ _ (by rw [j7];omega),a2,xB,cY (by omega)]
  have hb:(nv s+(5+256*0))/340282366920938463463374607431768211456≤4:=by omega
  have hb':4≤(nv s+(5+256*0))/340282366920938463463374607431768211456:=by omega
  have hge:1361129467683753853853498429727072845819≤nv s:=by omega
  have hv4:(je s [5]).getD 16 0=4:=by omega
  rw [hv4]
  omega
 ·rw [if_neg q]
  have:¬4≤(je s [5]).getD 16 0:=fun hq=>by
   refine q ⟨?_,hq⟩
   rw [←j7]
   apply Classical.byContradiction
   intro hn
   rw [lG (by omega)] at hq
   exact absurd hq (by decide)
  omega
theorem vk {n:Int}:Ae.eI n=[n%256,n/256%256,n/65536%256,n/16777216%256,n/4294967296%256,n/1099511627776%256,n/281474976710656%256,n/72057594037927936%256]:=by
 have h:∀i:Nat,i<8→IntKind.u8.wrap (bO .u64 n (8*i))=n/2^(8*i)%256:=fun i hi=>by rw [Fe.wrap_u8,Fe.dB _ _ _ (show 8*i≤64 by omega)]
 show [IntKind.u8.wrap (bO .u64 n (8*0)),IntKind.u8.wrap (bO .u64 n (8*1)),IntKind.u8.wrap (bO .u64 n (8*2)),IntKind.u8.wrap (bO .u64 n (8*3)),IntKind.u8.wrap (bO .u64 n (8*4)),IntKind.u8.wrap (bO .u64 n (8*5)),IntKind.u8.wrap (bO .u64 n (8*6)),IntKind.u8.wrap (bO .u64 n (8*7))]=_
 rw [h 0 (by decide),h 1 (by decide),h 2 (by decide),h 3 (by decide),h 4 (by decide),h 5 (by decide),h 6 (by decide),h 7 (by decide)]
 simp
theorem Ar {a:List Int} (d:Dg a):aak a=[nv a%256,nv a/256%256,nv a/65536%256,nv a/16777216%256,nv a/4294967296%256,nv a/1099511627776%256,nv a/281474976710656%256,nv a/72057594037927936%256,
  nv a/18446744073709551616%256,nv a/4722366482869645213696%256,nv a/1208925819614629174706176%256,nv a/309485009821345068724781056%256,nv a/79228162514264337593543950336%256,nv a/20282409603651670423947251286016%256,nv a/5192296858534827628530496329220096%256,nv a/1329227995784915872903807060280344576%256]:=by
 have h:∀i:Nat,IntKind.u8.wrap (a.getD i 0)=nv a/256^i%256:=fun i=>by rw [Fe.wrap_u8,AV d i];omega
 show [IntKind.u8.wrap (a.getD 0 0),IntKind.u8.wrap (a.getD 1 0),IntKind.u8.wrap (a.getD 2 0),IntKind.u8.wrap (a.getD 3 0),IntKind.u8.wrap (a.getD 4 0),IntKind.u8.wrap (a.getD 5 0),IntKind.u8.wrap (a.getD 6 0),IntKind.u8.wrap (a.getD 7 0),IntKind.u8.wrap (a.getD 8 0),IntKind.u8.wrap (a.getD 9 0),IntKind.u8.wrap (a.getD 10 0),IntKind.u8.wrap (a.getD 11 0),IntKind.u8.wrap (a.getD 12 0),IntKind.u8.wrap (a.getD 13 0),IntKind.u8.wrap (a.getD 14 0),IntKind.u8.wrap (a.getD 15 0)]=_
 rw [h 0,h 1,h 2,h 3,h 4,h 5,h 6,h 7,h 8,h 9,h 10,h 11,h 12,h 13,h 14,h 15]
 simp
theorem Ju {V A B:Int} (h:(A+18446744073709551616*B-V)%340282366920938463463374607431768211456=0) (hA:R A) (hB:R B):A=V%18446744073709551616∧B=V/18446744073709551616%18446744073709551616:=by
 unfold R at*
 omega
theorem OW {key text:List Int} (hk:key.length=32) (dk:Dg key) (dt:Dg text):HL key text=Ae.jO key text:=by
 obtain ⟨s1,s2,s3⟩:=Dk (key:=key) dk dt ((text.length+15)/16)
 have hs:=r8 dk dt ((text.length+15)/16)
 unfold HL
 rw [Ae.jO,aD]
 unfold Ae.Qn Ae.enW
 generalize Ae.hN text (Ae.uJ key) (Ae.uL key) ((text.length+15)/16)=H at*
 generalize qn key text ((text.length+15)/16)=s at*
 obtain ⟨e1,e2⟩:=aap s2 s3
 obtain ⟨f1,f2⟩:=TP hs
 generalize Ae.oA (Ae.oA H)=L at*
 have d16:Dg (nh key):=(dk.drop 16).take 16
 obtain ⟨p1,p2⟩:=tq f1 d16
 have ek:Ae.eK (Ae.nh key)+18446744073709551616*Ae.eK (Ae.J6 key)=nv (nh key):=by
  have d24:Dg (Ae.J6 key):=(dk.drop 24).take 8
  have l16:(nh key).length=16:=by unfold nh;rw [List.length_take,List.length_drop,hk];rfl
  have h1:=AU (l:=Ae.nh key) d16 (by show 8≤(nh key).length;omega)
  have h2:=AU d24 (by unfold Ae.J6;rw [List.length_take,List.length_drop,hk];decide)
  have s:=ou (nh key) 8 (by omega)
  have e8:(256:Int)^8=18446744073709551616:=by decide
  have e24:(nh key).drop 8=(Ae.J6 key).take 8:=by
   unfold nh Ae.J6
   rw [List.drop_take,List.drop_drop,List.take_take]
   rfl
  rw [h1,h2,s,e8,e24]
  rfl
 obtain ⟨a1,a2,a3,a4⟩:=iY (e1 0) (Ae.m9 (Ae.nh key)) yS
 obtain ⟨c1,c2,c3,c4⟩:=iY (e1 1) (Ae.m9 (Ae.J6 key)) ⟨a3,a4⟩
 have hV:nv (je (lH s) (nh key))=hv L+nv (nh key):=by rw [p2,f2, ←s1,e2]
 rw [Ar p1,vk,vk,hV]
 have hw:=Ju (V:=hv L+nv (nh key)) (A:=Fe.ck (g L 0) (Ae.eK (Ae.nh key)) 0) (B:=Fe.ck (g L 1) (Ae.eK (Ae.J6 key)) (Fe.bR (g L 0) (Ae.eK (Ae.nh key)) 0)) (by
  rw [←ek]
  unfold hv
  omega) a2 c2
 rw [hw.1,hw.2]
 generalize hv L+nv (nh key)=V
 simp only [List.cons_append,List.nil_append,List.cons.injEq,and_true]
 omega
end Go.Proofs.YtibfpjeeanppjaaGreat.R4
end
