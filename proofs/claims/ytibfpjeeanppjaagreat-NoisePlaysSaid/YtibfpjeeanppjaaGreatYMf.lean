/- This file proves the contracts of field's Inv, imaginary, Root. Conditions: none. -/
import Derived.Test.YtibfpjeeanppjaaGreatYMe
set_option linter.all false
namespace Go.Proofs.YtibfpjeeanppjaaGreat.Fe
open Go Go.Sy
theorem EU:ag Tryz.prog (mk [aeU,U6,YL,fC] []):=ah _ au.nil _ _
noncomputable def F6 (a:List Int):List Int:=w9 a e2
noncomputable def CG:List SV→Option (SV×List Blk×Bool)
 | [.agg [.ints .u64 5 a]]=>some (.agg [.ints .u64 5 (F6 a)],[],true)
 |_=>none
set_option maxRecDepth 100000 in
noncomputable def XI:Entry Tryz.prog:=.val 102 _ Tryz.func102 (by decide) rfl false 0 CG fun vs v new e=>by
 unfold CG at e
 split at e
 ·cases e
  exact aF EU 60 Tryz.func102 (p:=true) (by kernel_rfl) rfl rfl
 ·cases e
end Go.Proofs.YtibfpjeeanppjaaGreat.Fe
namespace Go.Proofs.YtibfpjeeanppjaaGreat.Fe
open Go Go.Sy
def Pm:Int:=57896044618658097711785492504343953926634992332820282019728792003956564819949
theorem jC:Pm=57896044618658097711785492504343953926634992332820282019728792003956564819949:=rfl
theorem g9:0<Pm:=by rw [jC];omega
def v5 (a b c d e:Int):Int:=a+2251799813685248*b+5070602400912917605986812821504*c+11417981541647679048466287755595961091061972992*d+25711008708143844408671393477458601640355247900524685364822016*e
def iJ (w:List Int):Int:=v5 (w.getD 0 0) (w.getD 1 0) (w.getD 2 0) (w.getD 3 0) (w.getD 4 0)
def fv (w:List Int):Int:=iJ w%Pm
structure Bd (w:List Int):Prop where
 len:w.length=5
 b0:0≤w.getD 0 0∧w.getD 0 0<2251799813685248
 b1:0≤w.getD 1 0∧w.getD 1 0<2251799813685248
 b2:0≤w.getD 2 0∧w.getD 2 0<2251799813685248
 b3:0≤w.getD 3 0∧w.getD 3 0<2251799813685248
 b4:0≤w.getD 4 0∧w.getD 4 0<2251799813685248
theorem Bd.aH {w:List Int} (h:Bd w):aH 5 w=w:=aG h.len
theorem CH {a b c d e:Int} (ha:0≤a∧a<9223372036854775808) (hb:0≤b∧b<9223372036854775808) (hc:0≤c∧c<9223372036854775808) (hd:0≤d∧d<9223372036854775808) (he:0≤e∧e<9223372036854775808):
  ∃q r0 r1 r2 r3 r4,Cy [a,b,c,d,e]=[r0,r1,r2,r3,r4]∧0≤q∧2251799813685248*q≤e+4097∧v5 r0 r1 r2 r3 r4=v5 a b c d e-q*Pm∧0≤r0∧r0=a%2251799813685248+19*q∧(a<2251799813685248→b<2251799813685248→c<2251799813685248→d<2251799813685248→e<2251799813685248→q=0)∧
   (0≤r1∧r1<2251799813685248)∧(0≤r2∧r2<2251799813685248)∧(0≤r3∧r3<2251799813685248)∧(0≤r4∧r4<2251799813685248):=by
 have c0:cw0 [a,b,c,d,e]=a:=by simp only [cw0,fZ,wrap_u64,List.getD_cons_zero];omega
 have c1:cw1 [a,b,c,d,e]=b+a/2251799813685248:=by simp only [cw1,fZ,fF,wrap_u64,c0,lE,List.getD_cons_zero,List.getD_cons_succ];omega
 have c2:cw2 [a,b,c,d,e]=c+(b+a/2251799813685248)/2251799813685248:=by simp only [cw2,fZ,fF,wrap_u64,c1,lE,List.getD_cons_zero,List.getD_cons_succ];omega
 generalize hq0:a/2251799813685248=q0 at*
 generalize hq1:(b+q0)/2251799813685248=q1 at*
 have c3:cw3 [a,b,c,d,e]=d+(c+q1)/2251799813685248:=by simp only [cw3,fZ,fF,wrap_u64,c2,lE,List.getD_cons_zero,List.getD_cons_succ];omega
 generalize hq2:(c+q1)/2251799813685248=q2 at*
 have c4:cw4 [a,b,c,d,e]=e+(d+q2)/2251799813685248:=by simp only [cw4,fZ,fF,wrap_u64,c3,lE,List.getD_cons_zero,List.getD_cons_succ];omega
 generalize hq3:(d+q2)/2251799813685248=q3 at*
 have hr:Cy [a,b,c,d,e]=[a%2251799813685248+19*((e+q3)/2251799813685248),(b+q0)%2251799813685248,(c+q1)%2251799813685248,(d+q2)%2251799813685248,(e+q3)%2251799813685248]:=by
  unfold Cy
  rw [c0,c1,c2,c3,c4]
  simp only [fZ,fF,ej,lE]
  rw [eF _ (by omega) (by omega),eF _ (by omega) (by omega),eF _ (by omega) (by omega),eF _ (by omega) (by omega),eF _ (by omega) (by omega),wrap_u64,wrap_u64]
  congr 1
  omega
 refine ⟨(e+q3)/2251799813685248,_,_,_,_,_,hr,by omega,by omega,?_,by omega,rfl,fun _ _ _ _ _=>by omega,by omega,by omega,by omega,by omega⟩
 unfold v5
 rw [jC]
 generalize hq4:(e+q3)/2251799813685248=q4 at*
 omega
theorem u6 {l:List Int} (h:∀i,i<5→0≤l.getD i 0∧l.getD i 0<9223372036854775808):Bd (jt l)∧∃q,iJ (jt l)=iJ l-q*Pm:=by
 have hl:aH 5 l=[l.getD 0 0,l.getD 1 0,l.getD 2 0,l.getD 3 0,l.getD 4 0]:=rfl
 obtain ⟨q,r0,r1,r2,r3,r4,e1,hq,hq2,hv,a0,b0,_,h1,h2,h3,h4⟩:=CH (h 0 (by omega)) (h 1 (by omega)) (h 2 (by omega)) (h 3 (by omega)) (h 4 (by omega))
 have hl4:=h 4 (by omega)
 obtain ⟨q',s0,s1,s2,s3,s4,e2,hq',aoQ,Mi,a0',b0',z0,g1,g2,g3,g4⟩:=CH (a:=r0) (b:=r1) (c:=r2) (d:=r3) (e:=r4) (by omega) (by omega) (by omega) (by omega) (by omega)
 have hc:jt l=[s0,s1,s2,s3,s4]:=by rw [jt,aD,hl,e1,e2]
 rw [hc]
 refine ⟨⟨rfl,⟨a0',by
  simp only [List.getD_cons_zero]
  by_cases hr:r0<2251799813685248
  ·have:=z0 hr h1.2 h2.2 h3.2 h4.2;omega
  ·omega⟩,g1,g2,g3,g4⟩,q+q',?_⟩
 unfold iJ
 simp only [List.getD_cons_zero,List.getD_cons_succ]
 rw [Mi,hv,Int.add_mul]
 omega
theorem kE {x y q:Int} (h:x=y-q*Pm):x%Pm=y%Pm:=by
 subst h
 rw [show y-q*Pm=y+Pm*(-q) by rw [Int.mul_neg,Int.mul_comm q Pm];omega,Int.add_mul_emod_self_left]
end Go.Proofs.YtibfpjeeanppjaaGreat.Fe
namespace Go.Proofs.YtibfpjeeanppjaaGreat.Fe
open Go Go.Sy
theorem Bd.z5:Bd z5:=⟨rfl,by decide,by decide,by decide,by decide,by decide⟩
theorem zA {a b:List Int} (ha:Bd a) (hb:Bd b):Bd (gT a b)∧fv (gT a b)=(fv a+fv b)%Pm:=by
 obtain ⟨_,a0,a1,a2,a3,a4⟩:=ha
 obtain ⟨_,b0,b1,b2,b3,b4⟩:=hb
 have hw:∀x y:Int,0≤x→x<4503599627370496→0≤y→y<4503599627370496→fZ (x+y)=x+y:=fun x y h1 h2 h3 h4=>by
  simp only [fZ,wrap_u64];omega
 have e:Si a b=[a.getD 0 0+b.getD 0 0,a.getD 1 0+b.getD 1 0,a.getD 2 0+b.getD 2 0,a.getD 3 0+b.getD 3 0,a.getD 4 0+b.getD 4 0]:=by
  unfold Si
  rw [hw _ _ (by omega) (by omega) (by omega) (by omega),hw _ _ (by omega) (by omega) (by omega) (by omega),hw _ _ (by omega) (by omega) (by omega) (by omega),hw _ _ (by omega) (by omega) (by omega) (by omega),hw _ _ (by omega) (by omega) (by omega) (by omega)]
 obtain ⟨h1,q,h2⟩:=u6 (l:=Si a b) (fun i hi=>by
  rw [e]
  have:i=0∨i=1∨i=2∨i=3∨i=4:=by omega
  rcases this with rfl|rfl|rfl|rfl|rfl<;>simp only [List.getD_cons_zero,List.getD_cons_succ]<;>omega)
 refine ⟨h1,?_⟩
 unfold gT fv
 rw [kE h2, ←Int.add_emod]
 congr 1
 rw [e]
 unfold iJ v5
 simp only [List.getD_cons_zero,List.getD_cons_succ]
 omega
theorem Rd {a b:List Int} (ha:Bd a) (hb:Bd b):Bd (gU a b)∧fv (gU a b)=(fv a-fv b)%Pm:=by
 obtain ⟨_,a0,a1,a2,a3,a4⟩:=ha
 obtain ⟨_,b0,b1,b2,b3,b4⟩:=hb
 have hw:∀x y k:Int,0≤x→x<4503599627370496→0≤y→y≤k→k<18014398509481984→fZ (x+fZ (k-y))=x+(k-y):=fun x y k h1 h2 h3 h4 h5=>by
  simp only [fZ,wrap_u64];omega
 have e:Nd a b=[a.getD 0 0+(9007199254740916-b.getD 0 0),a.getD 1 0+(9007199254740988-b.getD 1 0),a.getD 2 0+(9007199254740988-b.getD 2 0),a.getD 3 0+(9007199254740988-b.getD 3 0),a.getD 4 0+(9007199254740988-b.getD 4 0)]:=by
  unfold Nd
  rw [hw _ _ _ (by omega) (by omega) (by omega) (by omega) (by omega),hw _ _ _ (by omega) (by omega) (by omega) (by omega) (by omega),hw _ _ _ (by omega) (by omega) (by omega) (by omega) (by omega),hw _ _ _ (by omega) (by omega) (by omega) (by omega) (by omega),hw _ _ _ (by omega) (by omega) (by omega) (by omega) (by omega)]
 obtain ⟨h1,q,h2⟩:=u6 (l:=Nd a b) (fun i hi=>by
  rw [e]
  have:i=0∨i=1∨i=2∨i=3∨i=4:=by omega
  rcases this with rfl|rfl|rfl|rfl|rfl<;>simp only [List.getD_cons_zero,List.getD_cons_succ]<;>omega)
 refine ⟨h1,?_⟩
 unfold gU fv
 rw [kE h2, ←Int.sub_emod]
 have:iJ (Nd a b)=(iJ a-iJ b)-(-4)*Pm:=by
  rw [e,jC]
  unfold iJ v5
  simp only [List.getD_cons_zero,List.getD_cons_succ]
  omega
 exact kE this
def W2 (s:Int×Int):Int:=18446744073709551616*s.1+s.2
theorem xb {s:Int×Int} {x y:Int} (h1:0≤s.1∧s.1<1125899906842624) (h2:0≤s.2∧s.2<18446744073709551616) (hx:0≤x∧x<4503599627370496) (hy:0≤y∧y<144115188075855872):
  W2 (pl s x y)=W2 s+x*y∧0≤(pl s x y).1∧(0≤(pl s x y).2∧(pl s x y).2<18446744073709551616):=by
 obtain ⟨m1,m2,m3,m4,m5⟩:=w6 hx.1 (show x<18446744073709551616 by omega) hy.1 (show y<18446744073709551616 by omega)
 have hb:=cO hx.1 (show x≤4503599627370495 by omega) hy.1 (show y≤144115188075855871 by omega)
 obtain ⟨e1,e2⟩:=qz (x:=s.2) (y:=mulL x y) (c:=0) h2.1 m4 (Int.le_refl 0)
 unfold pl W2
 simp only [e1,e2,fZ,wrap_u64]
 generalize fH x y=H at*
 generalize mulL x y=L at*
 generalize x*y=Q at*
 obtain ⟨s1,s2⟩:=s
 simp only at h1 h2 ⊢
 refine ⟨?_,?_,?_⟩<;>omega
theorem Nm {b:List Int} (hb:Bd b) (k i:Nat) (hk:k<5) (hi:i<5):(0≤yB b k i∧yB b k i<144115188075855872)∧yB b k i=if i≤k then b.getD (k-i) 0 else 19*b.getD (k+5-i) 0:=by
 have key:∀j:Nat,j<5→0≤b.getD j 0∧b.getD j 0<4503599627370496:=fun j hj=>by
  obtain ⟨_,b0,b1,b2,b3,b4⟩:=hb
  have:j=0∨j=1∨j=2∨j=3∨j=4:=by omega
  rcases this with rfl|rfl|rfl|rfl|rfl<;>omega
 unfold yB
 split
 ·have:=key (k-i) (by omega)
  exact ⟨by omega,rfl⟩
 ·have:=key (k+5-i) (by omega)
  have h19:b.getD (k+5-i) 0*19%18446744073709551616=b.getD (k+5-i) 0*19:=Int.emod_eq_of_lt (by omega) (by omega)
  simp only [fZ,wrap_u64]
  rw [h19]
  exact ⟨by omega,by omega⟩
theorem xd {a b:List Int} (ha:Bd a) (hb:Bd b) (k:Nat) (hk:k<5):(0≤(sK a b k).1∧(sK a b k).1<562949953421312)∧(0≤(sK a b k).2∧(sK a b k).2<18446744073709551616)∧
  W2 (sK a b k)=a.getD 0 0*yB b k 0+a.getD 1 0*yB b k 1+a.getD 2 0*yB b k 2+a.getD 3 0*yB b k 3+a.getD 4 0*yB b k 4:=by
 have ka:∀j:Nat,j<5→0≤a.getD j 0∧a.getD j 0<4503599627370496:=fun j hj=>by
  obtain ⟨_,b0,b1,b2,b3,b4⟩:=ha
  have:j=0∨j=1∨j=2∨j=3∨j=4:=by omega
  rcases this with rfl|rfl|rfl|rfl|rfl<;>omega
 have ky:∀j:Nat,j<5→(0≤yB b k j∧yB b k j<144115188075855872):=fun j hj=>(Nm hb k j hk hj).1
 have kb:∀j:Nat,j<5→0≤a.getD j 0*yB b k j∧a.getD j 0*yB b k j≤4503599627370495*144115188075855871:=fun j hj=>
  cO (ka j hj).1 (by have:=(ka j hj).2;omega) (ky j hj).1 (by have:=(ky j hj).2;omega)
 unfold sK
 simp only [List.foldl_cons,List.foldl_nil]
 have p0:=kb 0 (by omega)
 have p1:=kb 1 (by omega)
 have p2:=kb 2 (by omega)
 have p3:=kb 3 (by omega)
 have p4:=kb 4 (by omega)
 obtain ⟨e0,n0,l0⟩:=xb (s:=(0,0)) (by omega) (by omega) (ka 0 (by omega)) (ky 0 (by omega))
 generalize pl (0,0) (a.getD 0 0) (yB b k 0)=s0 at*
 have w0:W2 (0,0)=0:=rfl
 obtain ⟨e1,n1,l1⟩:=xb (s:=s0) (by unfold W2 at e0 w0;omega) l0 (ka 1 (by omega)) (ky 1 (by omega))
 generalize pl s0 (a.getD 1 0) (yB b k 1)=s1 at*
 obtain ⟨e2,n2,l2⟩:=xb (s:=s1) (by unfold W2 at e0 e1 w0;omega) l1 (ka 2 (by omega)) (ky 2 (by omega))
 generalize pl s1 (a.getD 2 0) (yB b k 2)=s2 at*
 obtain ⟨e3,n3,l3⟩:=xb (s:=s2) (by unfold W2 at e0 e1 e2 w0;omega) l2 (ka 3 (by omega)) (ky 3 (by omega))
 generalize pl s2 (a.getD 3 0) (yB b k 3)=s3 at*
 obtain ⟨e4,n4,l4⟩:=xb (s:=s3) (by unfold W2 at e0 e1 e2 e3 w0;omega) l3 (ka 4 (by omega)) (ky 4 (by omega))
 generalize pl s3 (a.getD 4 0) (yB b k 4)=s4 at*
 refine ⟨⟨n4,by unfold W2 at e0 e1 e2 e3 e4 w0;omega⟩,l4,by omega⟩
theorem iK (k:IntKind) (a b:Int):gi k a b=gi k b a:=by unfold gi jy;simp only [BitVec.or_comm]
theorem xe {s:Int×Int} {c:Int} (h1:0≤s.1∧s.1<562949953421312) (h2:0≤s.2∧s.2<18446744073709551616) (hc:0≤c∧c<9223372036854775808):
  nx s c=(W2 s+c)/2251799813685248∧(0≤nx s c∧nx s c<9223372036854775808)∧ej (ck s.2 c 0)=(W2 s+c)%2251799813685248:=by
 obtain ⟨e1,e2⟩:=qz (x:=s.2) (y:=c) (c:=0) h2.1 hc.1 (Int.le_refl 0)
 have hn:nx s c=(W2 s+c)/2251799813685248:=by
  unfold nx
  rw [e1,e2]
  simp only [fZ,wrap_u64,fF,lE]
  have hh:(s.1+(s.2+c+0)/18446744073709551616)%18446744073709551616=s.1+(s.2+c)/18446744073709551616:=by omega
  rw [hh,lD _ _ (by decide)]
  have hsh:(s.1+(s.2+c)/18446744073709551616)*2^13%18446744073709551616=(s.1+(s.2+c)/18446744073709551616)*8192:=by omega
  rw [hsh]
  have hor:gi .u64 ((s.2+c+0)%18446744073709551616/2251799813685248) ((s.1+(s.2+c)/18446744073709551616)*8192)=(s.1+(s.2+c)/18446744073709551616)*8192+(s.2+c+0)%18446744073709551616/2251799813685248:=by
   rw [iK]
   exact uD 13 _ _ (by omega) (by omega) (by omega) (by omega) (by omega) (by decide)
  rw [hor]
  unfold W2
  omega
 refine ⟨hn,?_,?_⟩
 ·rw [hn];unfold W2;omega
 ·rw [e1]
  simp only [ej]
  rw [eF _ (by omega) (by omega)]
  unfold W2
  omega
theorem Nn {s0 s1 s2 s3 s4:Int×Int} (h0:(0≤s0.1∧s0.1<562949953421312)∧(0≤s0.2∧s0.2<18446744073709551616)) (h1:(0≤s1.1∧s1.1<562949953421312)∧(0≤s1.2∧s1.2<18446744073709551616))
  (h2:(0≤s2.1∧s2.1<562949953421312)∧(0≤s2.2∧s2.2<18446744073709551616)) (h3:(0≤s3.1∧s3.1<562949953421312)∧(0≤s3.2∧s3.2<18446744073709551616)) (h4:(0≤s4.1∧s4.1<562949953421312)∧(0≤s4.2∧s4.2<18446744073709551616)):
  (∀i,i<5→0≤(j5 s0 s1 s2 s3 s4).getD i 0∧(j5 s0 s1 s2 s3 s4).getD i 0<9223372036854775808)∧∃q,iJ (j5 s0 s1 s2 s3 s4)=v5 (W2 s0) (W2 s1) (W2 s2) (W2 s3) (W2 s4)-q*Pm:=by
 obtain ⟨n1,b1,o0⟩:=xe (c:=0) h0.1 h0.2 (by omega)
 generalize hc1:nx s0 0=c1 at*
 obtain ⟨n2,b2,o1⟩:=xe (c:=c1) h1.1 h1.2 b1
 generalize hc2:nx s1 c1=c2 at*
 obtain ⟨n3,b3,o2⟩:=xe (c:=c2) h2.1 h2.2 b2
 generalize hc3:nx s2 c2=c3 at*
 obtain ⟨n4,b4,o3⟩:=xe (c:=c3) h3.1 h3.2 b3
 generalize hc4:nx s3 c3=c4 at*
 obtain ⟨n5,b5,o4⟩:=xe (c:=c4) h4.1 h4.2 b4
 generalize hc5:nx s4 c4=c5 at*
 have hm:j5 s0 s1 s2 s3 s4=[ej (ck (ej (ck s0.2 0 0)) (mulL c5 19) 0),fZ (ej (ck s1.2 c1 0)+gi .u64 (c7 .u64 (fZ (fH c5 19+bR (ej (ck s0.2 0 0)) (mulL c5 19) 0)) 13) (fF (ck (ej (ck s0.2 0 0)) (mulL c5 19) 0))),
   ej (ck s2.2 c2 0),ej (ck s3.2 c3 0),ej (ck s4.2 c4 0)]:=by
  unfold j5
  rw [hc1,hc2,hc3,hc4,hc5]
 rw [o0,o1,o2,o3,o4] at hm
 obtain ⟨m1,_,_,m4,m5⟩:=w6 b5.1 (show c5<18446744073709551616 by omega) (y:=19) (by omega) (by omega)
 generalize fH c5 19=H at*
 generalize mulL c5 19=L at*
 generalize hO0:(W2 s0+0)%2251799813685248=O0 at*
 have bO0:0≤O0∧O0<2251799813685248:=by omega
 generalize hO1:(W2 s1+c1)%2251799813685248=O1 at*
 have bO1:0≤O1∧O1<2251799813685248:=by omega
 generalize hO2:(W2 s2+c2)%2251799813685248=O2 at*
 have bO2:0≤O2∧O2<2251799813685248:=by omega
 generalize hO3:(W2 s3+c3)%2251799813685248=O3 at*
 have bO3:0≤O3∧O3<2251799813685248:=by omega
 generalize hO4:(W2 s4+c4)%2251799813685248=O4 at*
 have bO4:0≤O4∧O4<2251799813685248:=by omega
 obtain ⟨e1,e2⟩:=qz (x:=O0) (y:=L) (c:=0) bO0.1 m4 (Int.le_refl 0)
 rw [e1,e2] at hm
 -- what is beyond counts 19 times
 have hT:∃T r,T=(O0+19*c5)/2251799813685248∧r=(O0+19*c5)%2251799813685248∧j5 s0 s1 s2 s3 s4=[r,O1+T,O2,O3,O4]∧0≤T∧T<1125899906842624:=by
  refine ⟨_,_,rfl,rfl,?_,by omega,by omega⟩
  rw [hm]
  have x1:(O0+L+0)%18446744073709551616=(O0+L)%18446744073709551616:=by omega
  have x2:(O0+L+0)/18446744073709551616=(O0+L)/18446744073709551616:=by omega
  rw [x1,x2]
  generalize hX:(O0+L)%18446744073709551616=X at*
  generalize hC:(O0+L)/18446744073709551616=C at*
  have hHC:18446744073709551616*(H+C)+X=O0+19*c5:=by omega
  have bX:0≤X∧X<18446744073709551616:=by omega
  have bHC:0≤H+C∧H+C<1024:=by omega
  simp only [fZ,wrap_u64,ej,fF,lE]
  rw [eF X bX.1 bX.2]
  have y1:(H+C)%18446744073709551616=H+C:=by omega
  rw [y1,lD _ _ (by decide)]
  have y2:(H+C)*2^13%18446744073709551616=(H+C)*8192:=by omega
  rw [y2,uD 13 _ _ (by omega) (by omega) (by omega) (by omega) (by omega) (by decide)]
  have z1:X%2251799813685248=(O0+19*c5)%2251799813685248:=by omega
  have z2:(O1+((H+C)*8192+X/2251799813685248))%18446744073709551616=O1+(O0+19*c5)/2251799813685248:=by omega
  rw [z1,z2]
 obtain ⟨T,r,eT,er,hl,bT,bT'⟩:=hT
 rw [hl]
 refine ⟨fun i hi=>?_,c5,?_⟩
 ·have:i=0∨i=1∨i=2∨i=3∨i=4:=by omega
  rcases this with rfl|rfl|rfl|rfl|rfl<;>simp only [List.getD_cons_zero,List.getD_cons_succ]<;>omega
 ·unfold iJ v5
  simp only [List.getD_cons_zero,List.getD_cons_succ]
  rw [jC]
  omega
theorem ajG (a0 a1 a2 a3 a4 b0 b1 b2 b3 b4:Int):
  v5 (a0*b0+a1*(19*b4)+a2*(19*b3)+a3*(19*b2)+a4*(19*b1)) (a0*b1+a1*b0+a2*(19*b4)+a3*(19*b3)+a4*(19*b2)) (a0*b2+a1*b1+a2*b0+a3*(19*b4)+a4*(19*b3))
   (a0*b3+a1*b2+a2*b1+a3*b0+a4*(19*b4)) (a0*b4+a1*b3+a2*b2+a3*b1+a4*b0)=
  v5 a0 a1 a2 a3 a4*v5 b0 b1 b2 b3 b4-v5 (a1*b4+a2*b3+a3*b2+a4*b1) (a2*b4+a3*b3+a4*b2) (a3*b4+a4*b3) (a4*b4) 0*Pm:=by
 unfold v5
 rw [jC]
 grind
theorem zy {a b:List Int} (ha:Bd a) (hb:Bd b):Bd (gS (aH 5 a) (aH 5 b))∧fv (gS (aH 5 a) (aH 5 b))=(fv a*fv b)%Pm:=by
 rw [ha.aH,hb.aH]
 obtain ⟨p0,q0,v0⟩:=xd ha hb 0 (by omega)
 obtain ⟨p1,q1,v1⟩:=xd ha hb 1 (by omega)
 obtain ⟨p2,q2,v2⟩:=xd ha hb 2 (by omega)
 obtain ⟨p3,q3,v3⟩:=xd ha hb 3 (by omega)
 obtain ⟨p4,q4,v4⟩:=xd ha hb 4 (by omega)
 obtain ⟨t1,q,t2⟩:=Nn ⟨p0,q0⟩ ⟨p1,q1⟩ ⟨p2,q2⟩ ⟨p3,q3⟩ ⟨p4,q4⟩
 obtain ⟨h1,q',h2⟩:=u6 t1
 have hm:gS a b=jt (j5 (sK a b 0) (sK a b 1) (sK a b 2) (sK a b 3) (sK a b 4)):=by rw [gS,aD]
 rw [hm]
 refine ⟨h1,?_⟩
 unfold fv
 rw [kE h2,kE t2, ←Int.mul_emod]
 rw [v0,v1,v2,v3,v4]
 have yv:∀k i,k<5→i<5→yB b k i=if i≤k then b.getD (k-i) 0 else 19*b.getD (k+5-i) 0:=fun k i hk hi=>(Nm hb k i hk hi).2
 rw [yv 0 0 (by omega) (by omega),yv 0 1 (by omega) (by omega),yv 0 2 (by omega) (by omega),yv 0 3 (by omega) (by omega),yv 0 4 (by omega) (by omega),yv 1 0 (by omega) (by omega),yv 1 1 (by omega) (by omega),yv 1 2 (by omega) (by omega),yv 1 3 (by omega) (by omega),yv 1 4 (by omega) (by omega),
  yv 2 0 (by omega) (by omega),yv 2 1 (by omega) (by omega),yv 2 2 (by omega) (by omega),yv 2 3 (by omega) (by omega),yv 2 4 (by omega) (by omega),yv 3 0 (by omega) (by omega),yv 3 1 (by omega) (by omega),yv 3 2 (by omega) (by omega),yv 3 3 (by omega) (by omega),yv 3 4 (by omega) (by omega),
  yv 4 0 (by omega) (by omega),yv 4 1 (by omega) (by omega),yv 4 2 (by omega) (by omega),yv 4 3 (by omega) (by omega),yv 4 4 (by omega) (by omega)]
 simp only [Nat.reduceLeDiff,Nat.le_refl,if_true,if_false,Nat.reduceSub,Nat.reduceAdd,Nat.zero_le,Nat.sub_zero,Nat.sub_self]
 exact kE (ajG _ _ _ _ _ _ _ _ _ _)
end Go.Proofs.YtibfpjeeanppjaaGreat.Fe
namespace Go.Proofs.YtibfpjeeanppjaaGreat.Fe
open Go Go.Sy
def bh:List Int→Int
 | []=>0
 |x::l=>x+256*bh l
theorem dD:∀{l:List Int},l.all u8=true→0≤bh l
 | [],_=>by simp [bh]
 |x::l,h=>by
  simp only [List.all_cons,Bool.and_eq_true,nk] at h
  have:=dD h.2
  simp only [bh];omega
theorem oI:∀{l:List Int},l.all u8=true→bh l<256^l.length
 | [],_=>by simp [bh]
 |x::l,h=>by
  simp only [List.all_cons,Bool.and_eq_true,nk] at h
  have:=oI h.2
  rw [List.length_cons,Int.pow_succ]
  simp only [bh];omega
def fY:Nat→Int→List Int
 |0,_=>[]
 |n+1,v=>v%256::fY n (v/256)
theorem nF:∀(n:Nat) (v:Int),(fY n v).length=n
 |0,_=>rfl
 |n+1,v=>by rw [fY,List.length_cons,nF n]
theorem Gd:∀(n:Nat) (v:Int),(fY n v).all u8=true
 |0,_=>rfl
 |n+1,v=>by
  rw [fY,List.all_cons,Gd n,Bool.and_true,nk]
  omega
theorem vT:∀(n:Nat) (v:Int),0≤v→v<256^n→bh (fY n v)=v
 |0,v,h0,h1=>by simp at h1;simp [fY,bh];omega
 |n+1,v,h0,h1=>by
  rw [Int.pow_succ] at h1
  rw [fY,bh,vT n _ (by omega) (by omega)]
  omega
theorem kM:∀(l:List Int),l.all u8=true→l=fY l.length (bh l)
 | [],_=>rfl
 |x::l,h=>by
  simp only [List.all_cons,Bool.and_eq_true,nk] at h
  have e1:(x+256*bh l)%256=x:=by omega
  have e2:(x+256*bh l)/256=bh l:=by omega
  rw [List.length_cons,bh,fY,e1,e2, ←kM l h.2]
theorem fQ:∀(n i:Nat) (v:Int),i<n→(fY n v).getD i 0=v/256^i%256
 |0,i,v,h=>by omega
 |n+1,0,v,_=>by simp [fY]
 |n+1,i+1,v,h=>by
  rw [fY,List.getD_cons_succ,fQ n i _ (by omega),Int.ediv_ediv_of_nonneg (by omega),Int.pow_succ,Int.mul_comm]
theorem yN:∀(n:Nat) (v:Int),(List.range n).map (fun i=>v/256^i%256)=fY n v:=by
 intro n
 induction n with
 |zero=>intro v;rfl
 |succ n ih=>
  intro v
  rw [List.range_succ_eq_map,List.map_cons,List.map_map,fY, ←ih]
  congr 1
  ·simp
  ·apply List.map_congr_left
   intro i _
   show v/256^(i+1)%256=v/256/256^i%256
   rw [Int.ediv_ediv_of_nonneg (by omega),Int.pow_succ,Int.mul_comm]
theorem xg {w:List Int} (h:Bd w):w8 w=fY 32 (iJ w):=by
 obtain ⟨_,b0,b1,b2,b3,b4⟩:=h
 unfold w8 iJ v5
 generalize w.getD 0 0=a at*
 generalize w.getD 1 0=b at*
 generalize w.getD 2 0=c at*
 generalize w.getD 3 0=d at*
 generalize w.getD 4 0=e at*
 have x0:gi .u64 a (c7 .u64 b 51)=a+b*2251799813685248%18446744073709551616:=by
  rw [iK,lD _ _ (by decide),uD 51 _ _ (by omega) (by omega) (by omega) (by omega) (by omega) (by decide)];omega
 have x1:gi .u64 (bO .u64 b 13) (c7 .u64 c 38)=b/8192+c*274877906944%18446744073709551616:=by
  rw [iK,lD _ _ (by decide),dB _ _ _ (by decide),uD 38 _ _ (by omega) (by omega) (by omega) (by omega) (by omega) (by decide)];omega
 have x2:gi .u64 (bO .u64 c 26) (c7 .u64 d 25)=c/67108864+d*33554432%18446744073709551616:=by
  rw [iK,lD _ _ (by decide),dB _ _ _ (by decide),uD 25 _ _ (by omega) (by omega) (by omega) (by omega) (by omega) (by decide)];omega
 have x3:gi .u64 (bO .u64 d 39) (c7 .u64 e 12)=d/549755813888+e*4096%18446744073709551616:=by
  rw [iK,lD _ _ (by decide),dB _ _ _ (by decide),uD 12 _ _ (by omega) (by omega) (by omega) (by omega) (by omega) (by decide)];omega
 rw [x0,x1,x2,x3, ←yN]
 generalize hV:a+2251799813685248*b+5070602400912917605986812821504*c+11417981541647679048466287755595961091061972992*d+25711008708143844408671393477458601640355247900524685364822016*e=V
 have y0:a+b*2251799813685248%18446744073709551616=V%18446744073709551616:=by omega
 have y1:b/8192+c*274877906944%18446744073709551616=V/18446744073709551616%18446744073709551616:=by omega
 have y2:c/67108864+d*33554432%18446744073709551616=V/340282366920938463463374607431768211456%18446744073709551616:=by omega
 have y3:d/549755813888+e*4096%18446744073709551616=V/6277101735386680763835789423207666416102355444464034512896%18446744073709551616:=by omega
 rw [y0,y1,y2,y3]
 apply List.map_congr_left
 intro i hi
 rw [List.mem_range] at hi
 rw [dB _ _ _ (by show 8*(i%8)≤64;omega),wrap_u8]
 clear hV x0 x1 x2 x3 y0 y1 y2 y3
 have:i=0∨i=1∨i=2∨i=3∨i=4∨i=5∨i=6∨i=7∨i=8∨i=9∨i=10∨i=11∨i=12∨i=13∨i=14∨i=15∨i=16∨i=17∨i=18∨i=19∨i=20∨i=21∨i=22∨i=23∨i=24∨i=25∨i=26∨i=27∨i=28∨i=29∨i=30∨i=31:=by omega
 rcases this with h|h|h|h|h|h|h|h|h|h|h|h|h|h|h|h|h|h|h|h|h|h|h|h|h|h|h|h|h|h|h|h<;>subst h<;>simp<;>omega
end Go.Proofs.YtibfpjeeanppjaaGreat.Fe
namespace Go.Proofs.YtibfpjeeanppjaaGreat.Fe
open Go Go.Sy
theorem Np {w:List Int} (h:Bd w):0≤iJ w∧iJ w<57896044618658097711785492504343953926634992332820282019728792003956564819968∧(fF (t4 w)>0↔Pm≤iJ w)∧Bd (yM w)∧(fF (t4 w)>0→iJ (yM w)=iJ w-Pm):=by
 obtain ⟨_,b0,b1,b2,b3,b4⟩:=h
 have e0:t0 w=w.getD 0 0+19:=by simp only [t0,fZ,wrap_u64];omega
 have e1:t1 w=w.getD 1 0+(w.getD 0 0+19)/2251799813685248:=by simp only [t1,fZ,wrap_u64,e0,fF,lE];omega
 generalize hq0:(w.getD 0 0+19)/2251799813685248=q0 at*
 have e2:t2 w=w.getD 2 0+(w.getD 1 0+q0)/2251799813685248:=by simp only [t2,fZ,wrap_u64,e1,fF,lE];omega
 generalize hq1:(w.getD 1 0+q0)/2251799813685248=q1 at*
 have e3:t3 w=w.getD 3 0+(w.getD 2 0+q1)/2251799813685248:=by simp only [t3,fZ,wrap_u64,e2,fF,lE];omega
 generalize hq2:(w.getD 2 0+q1)/2251799813685248=q2 at*
 have e4:t4 w=w.getD 4 0+(w.getD 3 0+q2)/2251799813685248:=by simp only [t4,fZ,wrap_u64,e3,fF,lE];omega
 generalize hq3:(w.getD 3 0+q2)/2251799813685248=q3 at*
 have ho:yM w=[(w.getD 0 0+19)%2251799813685248,(w.getD 1 0+q0)%2251799813685248,(w.getD 2 0+q1)%2251799813685248,(w.getD 3 0+q2)%2251799813685248,(w.getD 4 0+q3)%2251799813685248]:=by
  unfold yM
  rw [e0,e1,e2,e3,e4]
  simp only [ej]
  rw [eF _ (by omega) (by omega),eF _ (by omega) (by omega),eF _ (by omega) (by omega),eF _ (by omega) (by omega),eF _ (by omega) (by omega)]
 rw [ho,e4]
 simp only [fF,lE]
 unfold iJ v5
 rw [jC]
 simp only [List.getD_cons_zero,List.getD_cons_succ]
 refine ⟨by omega,by omega,⟨fun h=>by omega,fun h=>by omega⟩,⟨rfl,?_,?_,?_,?_,?_⟩,fun h=>by omega⟩<;>simp only [List.getD_cons_zero,List.getD_cons_succ]<;>omega
theorem Nr (w:List Int):0≤fv w∧fv w<Pm:=⟨Int.emod_nonneg _ (by have:=g9;omega),Int.emod_lt_of_pos _ g9⟩
theorem I9 {a:List Int} (h:∀i,i<5→0≤a.getD i 0∧a.getD i 0<9223372036854775808):fl a=fY 32 (fv a):=by
 obtain ⟨hc,q,hv⟩:=u6 h
 rw [fl,aD,hc.aH]
 obtain ⟨v0,v1,hiff,hb,ho⟩:=Np hc
 have hf:fv a=iJ (jt a)%Pm:=(kE hv).symm
 cases hd:decide (fF (t4 (jt a))>0) with
 |true=>
  have h1:=of_decide_eq_true hd
  show w8 (yM (jt a))=_
  rw [xg hb,ho h1,hf]
  congr 1
  have:=hiff.1 h1
  rw [jC] at this ⊢
  omega
 |false=>
  have h1:=of_decide_eq_false hd
  show w8 (jt a)=_
  rw [xg hc,hf]
  congr 1
  have:¬Pm≤iJ (jt a):=fun h=>h1 (hiff.2 h)
  rw [jC] at this ⊢
  omega
theorem Bd.words {w:List Int} (h:Bd w):∀i,i<5→0≤w.getD i 0∧w.getD i 0<9223372036854775808:=fun i hi=>by
 obtain ⟨_,b0,b1,b2,b3,b4⟩:=h
 have:i=0∨i=1∨i=2∨i=3∨i=4:=by omega
 rcases this with rfl|rfl|rfl|rfl|rfl<;>omega
theorem Bd.bytes {w:List Int} (h:Bd w):fl w=fY 32 (fv w):=I9 h.words
theorem fV {acc x:Int} (h0:0≤acc) (h1:acc<72057594037927936) (hx0:0≤x) (hx:x<256):pL acc x=acc*256+x:=by
 unfold pL
 have e:fZ x=x:=by simp only [fZ,wrap_u64];omega
 rw [e,lD _ _ (by decide)]
 have:acc*2^8%18446744073709551616=acc*256:=by omega
 rw [this,uD 8 _ _ (by omega) (by omega) (by omega) hx0 (by omega) (by decide)]
theorem Ns {a b c d e f g h:Int} (ha:0≤a∧a<256) (hb:0≤b∧b<256) (hc:0≤c∧c<256) (hd:0≤d∧d<256) (he:0≤e∧e<256) (hf:0≤f∧f<256) (hg:0≤g∧g<256) (hh:0≤h∧h<256):
  GX a b c d e f g h=a+256*(b+256*(c+256*(d+256*(e+256*(f+256*(g+256*h)))))):=by
 rw [GX,aD,fV (acc:=0) (by omega) (by omega) hh.1 hh.2,fV (by omega) (by omega) hg.1 hg.2,fV (by omega) (by omega) hf.1 hf.2,fV (by omega) (by omega) he.1 he.2,fV (by omega) (by omega) hd.1 hd.2,
  fV (by omega) (by omega) hc.1 hc.2,fV (by omega) (by omega) hb.1 hb.2,fV (by omega) (by omega) ha.1 ha.2]
 omega
theorem mA {v:Int} (h0:0≤v) (k:Nat) (hk:k<4):iX (fY 32 v) (8*k)=v/18446744073709551616^k%18446744073709551616:=by
 have g:∀j,j<8→(fY 32 v).getD (8*k+j) 0=v/18446744073709551616^k/256^j%256:=fun j hj=>by
  rw [fQ _ _ _ (by omega),Int.ediv_ediv_of_nonneg (Int.pow_nonneg (by omega))]
  congr 2
  rw [show (18446744073709551616:Int)=256^8 from rfl, ←Int.pow_mul, ←Int.pow_add]
 unfold iX
 have g0:=g 0 (by omega)
 rw [Nat.add_zero] at g0
 rw [g0,g 1 (by omega),g 2 (by omega),g 3 (by omega),g 4 (by omega),g 5 (by omega),g 6 (by omega),g 7 (by omega)]
 generalize v/18446744073709551616^k=Y
 simp only [Int.reducePow,Int.ediv_one]
 rw [Ns (by omega) (by omega) (by omega) (by omega) (by omega) (by omega) (by omega) (by omega)]
 omega
theorem Li {l:List Int} (hl:l.all u8=true) (hn:l.length=32):Bd (gn l)∧iJ (gn l)=bh l%57896044618658097711785492504343953926634992332820282019728792003956564819968:=by
 have hd:=kM l hl
 rw [hn] at hd
 have v0:=dD hl
 have v1:=oI hl
 rw [hn,show (256:Int)^32=115792089237316195423570985008687907853269984665640564039457584007913129639936 by decide] at v1
 generalize bh l=v at*
 subst hd
 rw [gn,aD,aG (nF 32 v)]
 unfold VB
 rw [mA v0 0 (by omega),mA v0 1 (by omega),mA v0 2 (by omega),mA v0 3 (by omega)]
 simp only [Int.reducePow,Int.ediv_one]
 generalize hA:v%18446744073709551616=A
 generalize hB:v/18446744073709551616%18446744073709551616=B
 generalize hC:v/340282366920938463463374607431768211456%18446744073709551616=C
 generalize hD:v/6277101735386680763835789423207666416102355444464034512896%18446744073709551616=D
 have bA:0≤A∧A<18446744073709551616:=by omega
 have bB:0≤B∧B<18446744073709551616:=by omega
 have bC:0≤C∧C<18446744073709551616:=by omega
 have bD:0≤D∧D<18446744073709551616:=by omega
 have hv:v=A+18446744073709551616*B+340282366920938463463374607431768211456*C+6277101735386680763835789423207666416102355444464034512896*D:=by omega
 have x1:gi .u64 (bO .u64 A 51) (c7 .u64 B 13)=A/2251799813685248+B*8192%18446744073709551616:=by
  rw [iK,lD _ _ (by decide),dB _ _ _ (by decide),uD 13 _ _ (by omega) (by omega) (by omega) (by omega) (by omega) (by decide)];omega
 have x2:gi .u64 (bO .u64 B 38) (c7 .u64 C 26)=B/274877906944+C*67108864%18446744073709551616:=by
  rw [iK,lD _ _ (by decide),dB _ _ _ (by decide),uD 26 _ _ (by omega) (by omega) (by omega) (by omega) (by omega) (by decide)];omega
 have x3:gi .u64 (bO .u64 C 25) (c7 .u64 D 39)=C/33554432+D*549755813888%18446744073709551616:=by
  rw [iK,lD _ _ (by decide),dB _ _ _ (by decide),uD 39 _ _ (by omega) (by omega) (by omega) (by omega) (by omega) (by decide)];omega
 have x4:bO .u64 D 12=D/4096:=by rw [dB _ _ _ (by decide)];simp
 rw [x1,x2,x3,x4]
 simp only [ej]
 rw [eF _ bA.1 bA.2,eF _ (by omega) (by omega),eF _ (by omega) (by omega),eF _ (by omega) (by omega),eF _ (by omega) (by omega)]
 clear hA hB hC hD
 subst hv
 refine ⟨⟨rfl,?_,?_,?_,?_,?_⟩,?_⟩
 ·simp only [List.getD_cons_zero];omega
 ·simp only [List.getD_cons_zero,List.getD_cons_succ];omega
 ·simp only [List.getD_cons_zero,List.getD_cons_succ];omega
 ·simp only [List.getD_cons_zero,List.getD_cons_succ];omega
 ·simp only [List.getD_cons_zero,List.getD_cons_succ];omega
 ·unfold iJ v5
  simp only [List.getD_cons_zero,List.getD_cons_succ]
  omega
theorem oE {n:Int} (h0:0≤n) (h1:n<9223372036854775808):Bd (cF n)∧iJ (cF n)=n:=by
 have hd:decide (n<0)=false:=decide_eq_false (by omega)
 unfold cF
 rw [hd]
 show Bd (ta n)∧iJ (ta n)=n
 have e:ta n=[n%2251799813685248,n/2251799813685248,0,0,0]:=by
  unfold ta
  simp only [fZ,wrap_u64,ej,fF,lE]
  rw [eF _ (by omega) (by omega)]
  congr 1
  ·omega
  ·congr 1;omega
 rw [e]
 unfold iJ v5
 simp only [List.getD_cons_zero,List.getD_cons_succ]
 refine ⟨⟨rfl,?_,?_,?_,?_,?_⟩,by omega⟩<;>simp only [List.getD_cons_zero,List.getD_cons_succ]<;>omega
end Go.Proofs.YtibfpjeeanppjaaGreat.Fe
namespace Go.Proofs.YtibfpjeeanppjaaGreat.Fe
open Go Go.Sy
theorem zx {e:List Int} (he:e.all u8=true) (hn:e.length=32) {i:Nat} (h1:i<256):uu e i=bh e/2^i%2:=by
 have hd:=kM e he
 rw [hn] at hd
 have v0:=dD he
 generalize bh e=v at*
 have e1:(i:Int).tdiv 8=((i/8:Nat):Int):=by rw [Int.tdiv_eq_ediv_of_nonneg (by omega)];omega
 have e2:(i:Int).tmod 8=((i%8:Nat):Int):=by rw [Int.tmod_eq_emod_of_nonneg (by omega)];omega
 have w1:IntKind.i64.wrap ((i/8:Nat):Int)=((i/8:Nat):Int):=wrap_i64 _ (by omega) (by omega)
 unfold uu
 rw [e1,e2,w1,Int.toNat_natCast,Int.toNat_natCast,Nat.zero_add,hd,fQ _ _ _ (by omega)]
 rw [dB _ _ _ (by show i%8≤8;omega)]
 have hs:v/256^(i/8)/2^(i%8)=v/2^i:=by
  rw [Int.ediv_ediv_of_nonneg (Int.pow_nonneg (by omega)),show (256:Int)=2^8 from rfl, ←Int.pow_mul, ←Int.pow_add]
  congr 2
  omega
 rw [←hs]
 generalize v/256^(i/8)=Y
 have hr:i%8=0∨i%8=1∨i%8=2∨i%8=3∨i%8=4∨i%8=5∨i%8=6∨i%8=7:=by omega
 rcases hr with h|h|h|h|h|h|h|h<;>rw [h]<;>simp only [Int.reducePow]<;>rw [M8 _ (by omega) (by omega),wrap_i64 _ (by omega) (by omega)]<;>omega
theorem oe (x:Int) (m n:Nat):x^m%Pm*(x^n%Pm)%Pm=x^(m+n)%Pm:=by rw [←Int.mul_emod, ←Int.pow_add]
theorem Sr {a e:List Int} (ha:Bd a) (he:e.all u8=true) (hn:e.length=32):Bd (w9 a e)∧fv (w9 a e)=fv a^(bh e).toNat%Pm:=by
 have v0:=dD he
 have v1:=oI he
 rw [hn] at v1
 have key:∀j:Nat,j≤256→Bd (ue a e j)∧fv (ue a e j)=fv a^(bh e/2^(256-j)).toNat%Pm:=by
  intro j
  induction j with
  |zero=>
   intro _
   obtain ⟨s1,s2⟩:=oE (n:=1) (by omega) (by omega)
   refine ⟨s1,?_⟩
   rw [ue,fv,s2,Nat.sub_zero]
   have:bh e/2^256=0:=by
    rw [show (2:Int)^256=115792089237316195423570985008687907853269984665640564039457584007913129639936 by decide]
    rw [show (256:Int)^32=115792089237316195423570985008687907853269984665640564039457584007913129639936 by decide] at v1
    omega
   rw [this]
   simp
  |succ j ih=>
   intro hj
   obtain ⟨b1,b2⟩:=ih (by omega)
   obtain ⟨m1,m2⟩:=zy b1 b1
   have hb:=zx he hn (i:=255-j) (by omega)
   have hi:((255-j:Nat):Int)=255-(j:Int):=by omega
   rw [hi] at hb
   have hE:bh e/2^(256-(j+1))=2*(bh e/2^(256-j))+bh e/2^(255-j)%2:=by
    have h1:bh e/2^(256-j)=bh e/2^(255-j)/2:=by
     rw [Int.ediv_ediv_of_nonneg (Int.pow_nonneg (by omega)),show 256-j=(255-j)+1 by omega,Int.pow_succ]
    rw [h1,show 256-(j+1)=255-j by omega]
    omega
   have hnn:0≤bh e/2^(256-j):=Int.ediv_nonneg v0 (Int.pow_nonneg (by omega))
   have RI:fv (gS (aH 5 (ue a e j)) (aH 5 (ue a e j)))=fv a^(2*(bh e/2^(256-j))).toNat%Pm:=by
    rw [m2,b2,oe]
    congr 2
    omega
   rw [ue]
   cases hc:(uu e (255-(j:Int)) != 0) with
   |false=>
    simp only [bne_eq_false_iff_eq] at hc
    rw [hb] at hc
    refine ⟨m1,?_⟩
    show fv (gS (aH 5 (ue a e j)) (aH 5 (ue a e j)))=_
    rw [RI,hE,hc,Int.add_zero]
   |true=>
    rw [bne_iff_ne] at hc
    rw [hb] at hc
    have h1:bh e/2^(255-j)%2=1:=by omega
    obtain ⟨n1,n2⟩:=zy m1 ha
    refine ⟨n1,?_⟩
    show fv (gS (aH 5 (gS (aH 5 (ue a e j)) (aH 5 (ue a e j)))) (aH 5 a))=_
    have e1:fv a=fv a^1%Pm:=by rw [Int.pow_one];have:=Nr a;exact (Int.emod_eq_of_lt this.1 this.2).symm
    rw [n2,RI]
    conv=>lhs;arg 1;arg 2;rw [e1]
    rw [oe,hE,h1]
    congr 2
    omega
 obtain ⟨k1,k2⟩:=key 256 (Nat.le_refl _)
 rw [w9,aD]
 refine ⟨k1,?_⟩
 rw [k2,Nat.sub_self,Int.pow_zero,Int.ediv_one]
theorem YM:bh e2=Pm-2:=by decide
def tJ (x:Int) (n:Nat):Int:=x^n%Pm
theorem Ri {a:List Int} (ha:Bd a):Bd (F6 a)∧fv (F6 a)=tJ (fv a) (Pm-2).toNat:=by
 have:=Sr ha (e:=e2) (by decide) (by decide)
 rw [YM] at this
 exact this
end Go.Proofs.YtibfpjeeanppjaaGreat.Fe
