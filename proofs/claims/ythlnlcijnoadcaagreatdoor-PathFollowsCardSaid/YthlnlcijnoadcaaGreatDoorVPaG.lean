/- This file proves lemmas for the last one. Conditions: those in them. -/
import Derived.Test.YthlnlcijnoadcaaGreatDoorVMkL
noncomputable section
open Bool renaming true->Z,false->I
open Option renaming some->E,none->Y
open Decidable renaming decide->C
open List renaming length->A,getD->X,replicate->t9,range->t8
open Int renaming toNat->O
open Go.Proofs.Tryz
open Go.Proofs.Tryz renaming prog->Q
open Go.IntKind (i64)
set_option linter.all false
set_option maxRecDepth 100000
namespace Go.Proofs.YthlnlcijnoadcaaGreatDoor
namespace Mk
open Sy Tr Wi S2
open Q2 (b7 mq By ju)
def v8(N:Nat)(t:Nat->aE)(x c:Int):Bool:=L7 N t x&&(C (0<=c)&&(c==bk x||c==aW x))
def lH(t:Nat->aE)(x s:Int):pD:=cI [[3],(t (O x)).key,(t (O x)).cF,eu t (t (O x)).un s].flatten
def qu(N:Nat)(t:Nat->aE)(x c:Int):pD:=bif v8 N t x c then lH t x (bk x+aW x-c) else cG
section
variable {N:Nat} {t:Nat->aE} {x c:Int}
def Xl(i:eo N t)(h:v8 N t x c=Z):bq N t=Z/\0<=x/\x<N/\x<64/\0<=bk x/\bk x<N/\0<=aW x/\aW x<N/\(N:Int)<=71/\(c=bk x\/c=aW x)/\bk x≠aW x:=by
 unfold v8 L7 at h
 simp only[No,agV,aac,afP] at h
 have⟨⟨⟨e,l⟩,j⟩,h2,h3⟩:=h
 have⟨n,d,_,hN,_⟩:=jw i j
 have hs:=cn d
 obtain⟨y,rfl⟩:=ac7 e
 have m:=i.le
 cases g:l8 7 y with
 |zero=>
  have⟨a,b⟩:=vP d (by omega) g
  omega
 |succ k=>
  have⟨a1,a2,a3,a4,_,_,a7⟩:=mO d (by omega) g
  have hp:1<=2^k:=Nat.one_le_two_pow
  refine⟨j,e,l,by omega,by omega,by omega,by omega,by omega,by omega,h3,by omega⟩
end
def mrC(l:List (Nat×Bool)):cu:=mk [kA,asY 8 (PY 8),wz] [] (uT l)
def akN l:aq Q (mrC l):=au _ aN.nil _ _
def aBL(N:Nat)(t:Nat->aE)(x c:Int):(aV Q (mrC []) 60 f83 [.p4 I N t,.t6 x,.t6 c] []).v3=E (.agg [.t5 (lH t x (i64.wrap (i64.wrap (bk x+aW x)-c)))],aa (aa (aa (aa (aa (aa (aa (aa (aa (aa Z (aa Z (C (0<=x)&&C (x<64)))) (bC x N)) (Z&&(C (O x<N)&&Z))) (aa Z ((cX N λi=>ah (aA t i))&&C (N<=71)&&oE N (ai λi=>ah (aA t i)) (t (O x)).un (i64.wrap (i64.wrap (bk x+aW x)-c)) 8))) (bC x N)) (Z&&(C (O x<N)&&Z&&Z&&C ((t (O x)).key.length=32)))) (bC x N)) (Z&&(C (O x<N)&&Z&&Z&&C ((t (O x)).cF.length=32)))) (aa Z (C (0+0+32<=aC ([]++[SV.af IntKind.u8 32 (eu (ai λi=>ah (aA t i)) (t (O x)).un (i64.wrap (i64.wrap (bk x+aW x)-c)))]++[]))))) (aa (aa Z (aa (aa Z (C (A (eu (ai λi=>ah (aA t i)) (t x.toNat).un (i64.wrap (i64.wrap (bk x+aW x)-c)))=32)&&Z)) (C (A (eu (ai λi=>ah (aA t i)) (t x.toNat).un (i64.wrap (i64.wrap (bk x+aW x)-c)))=32)))) (C (([(t9 1 0).set 0 3,(t (O x)).key,(t (O x)).cF,eu (ai λi=>ah (aA t i)) (t (O x)).un (i64.wrap (i64.wrap (bk x+aW x)-c))],aa (aa (aa (aa Z (C (A (eu (ai λi=>ah (aA t i)) (t x.toNat).un (i64.wrap (i64.wrap (bk x+aW x)-c)))=32)&&(C ((32)<=32)&&C ((0+0)=0)))) (C (A (eu (ai λi=>ah (aA t i)) (t x.toNat).un (i64.wrap (i64.wrap (bk x+aW x)-c)))=32))) (C (A ((t9 1 0).set 0 3)=1)&&(C (1<=1)&&C (0=0)))) (C (A ((t9 1 0).set 0 3)=1))).fst.flatten.length<274877900000)&&C (([(t9 1 0).set 0 3,(t (O x)).key,(t (O x)).cF,eu (ai λi=>ah (aA t i)) (t (O x)).un (i64.wrap (i64.wrap (bk x+aW x)-c))],aa (aa (aa (aa Z (C (A (eu (ai λi=>ah (aA t i)) (t x.toNat).un (i64.wrap (i64.wrap (bk x+aW x)-c)))=32)&&(C ((32)<=32)&&C ((0+0)=0)))) (C (A (eu (ai λi=>ah (aA t i)) (t x.toNat).un (i64.wrap (i64.wrap (bk x+aW x)-c)))=32))) (C (A ((t9 1 0).set 0 3)=1)&&(C (1<=1)&&C (0=0)))) (C (A ((t9 1 0).set 0 3)=1))).fst.length<=274877906944)))):=by kernel_rfl
def akO(l:List (Nat×Bool)):cu:=mk [mQ,Wk,mq] [] (uT l)
def Mn(l:List (Nat×Bool)):aq Q (akO l):=au _ aN.nil _ _
def atU(N:Nat)(t:Nat->aE)(x c:Int):(aV Q (akO [(20,Z),(43,Z),(45,Z)]) 60 f42 [.p4 I N t,.t6 x,.t6 c] []).v3=E (.agg [.t5 (b7 ((([3]++(t (O x)).key)++(t (O x)).cF)++eu t (t (O x)).un (aW x)))],aa (aa (aa (aa (aa (aa (aa (aa (aa (aa (aa (aa (aa Z (aa Z (C (0<=x)&&C (x<64)))) (c==bk x)) (bC x N)) (Z&&(C (O x<N)&&Z))) (aa Z ((cX N λi=>ah (aA t i))&&C (N<=71)&&C ((t (O x)).un.length<=274877906944)&&L7 N (ai λi=>ah (aA t i)) (aW x)&&oJ N (ai λi=>ah (aA t i))))) (bC x N)) (Z&&(C (O x<N)&&Z&&Z&&C ((t (O x)).key.length=32)))) (aa Z (C (1+(t (O x)).key.length<=2^38)))) (bC x N)) (Z&&(C (O x<N)&&Z&&Z&&C ((t (O x)).cF.length=32)))) (aa (aa (aa Z (C (A ((t9 1 0).set 0 3++(t x.toNat).key)=1+(t (O x)).key.length)&&(C (1+(t (O x)).key.length<=1+(t (O x)).key.length)&&Z))) (C (A ((t9 1 0).set 0 3++(t x.toNat).key)=1+(t (O x)).key.length))) (C (1+(t (O x)).key.length+(t (O x)).cF.length<=2^38)))) (aa (aa (aa (C (A (eu (ai λi=>ah (aA t i)) (t x.toNat).un (aW x))=32)&&Z) (C (A ((t9 1 0).set 0 3++(t x.toNat).key++(t x.toNat).cF)=1+(t (O x)).key.length+(t (O x)).cF.length)&&(C (1+(t (O x)).key.length+(t (O x)).cF.length<=1+(t (O x)).key.length+(t (O x)).cF.length)&&Z))) (C (A ((t9 1 0).set 0 3++(t x.toNat).key++(t x.toNat).cF)=1+(t (O x)).key.length+(t (O x)).cF.length))) (C ((1+(t (O x)).key.length+(t (O x)).cF.length+32)<=2^38)))) (aa (aa (C (A ((t9 1 0).set 0 3++(t x.toNat).key++(t x.toNat).cF++eu (ai λi=>ah (aA t i)) (t x.toNat).un (aW x))=1+(t (O x)).key.length+(t (O x)).cF.length+32)&&(C ((1+(t (O x)).key.length+(t (O x)).cF.length+32)<=1+(t (O x)).key.length+(t (O x)).cF.length+32)&&Z)) (C (A ((t9 1 0).set 0 3++(t x.toNat).key++(t x.toNat).cF++eu (ai λi=>ah (aA t i)) (t x.toNat).un (aW x))=1+(t (O x)).key.length+(t (O x)).cF.length+32))) (C (A ((t9 1 0).set 0 3++(t x.toNat).key++(t x.toNat).cF++eu (ai λi=>ah (aA t i)) (t x.toNat).un (aW x))<274877900000)))):=by kernel_rfl
def atV(N:Nat)(t:Nat->aE)(x c:Int):(aV Q (akO [(20,I),(43,Z),(45,Z)]) 60 f42 [.p4 I N t,.t6 x,.t6 c] []).v3=E (.agg [.t5 (b7 ((([3]++(t (O x)).key)++(t (O x)).cF)++eu t (t (O x)).un (bk x)))],aa (aa (aa (aa (aa (aa (aa (aa (aa (aa (aa (aa (aa Z (aa Z (C (0<=x)&&C (x<64)))) !c==bk x) (bC x N)) (Z&&(C (O x<N)&&Z))) (aa Z ((cX N λi=>ah (aA t i))&&C (N<=71)&&C ((t (O x)).un.length<=274877906944)&&L7 N (ai λi=>ah (aA t i)) (bk x)&&oJ N (ai λi=>ah (aA t i))))) (bC x N)) (Z&&(C (O x<N)&&Z&&Z&&C ((t (O x)).key.length=32)))) (aa Z (C (1+(t (O x)).key.length<=2^38)))) (bC x N)) (Z&&(C (O x<N)&&Z&&Z&&C ((t (O x)).cF.length=32)))) (aa (aa (aa Z (C (A ((t9 1 0).set 0 3++(t x.toNat).key)=1+(t (O x)).key.length)&&(C (1+(t (O x)).key.length<=1+(t (O x)).key.length)&&Z))) (C (A ((t9 1 0).set 0 3++(t x.toNat).key)=1+(t (O x)).key.length))) (C (1+(t (O x)).key.length+(t (O x)).cF.length<=2^38)))) (aa (aa (aa (C (A (eu (ai λi=>ah (aA t i)) (t x.toNat).un (bk x))=32)&&Z) (C (A ((t9 1 0).set 0 3++(t x.toNat).key++(t x.toNat).cF)=1+(t (O x)).key.length+(t (O x)).cF.length)&&(C (1+(t (O x)).key.length+(t (O x)).cF.length<=1+(t (O x)).key.length+(t (O x)).cF.length)&&Z))) (C (A ((t9 1 0).set 0 3++(t x.toNat).key++(t x.toNat).cF)=1+(t (O x)).key.length+(t (O x)).cF.length))) (C ((1+(t (O x)).key.length+(t (O x)).cF.length+32)<=2^38)))) (aa (aa (C (A ((t9 1 0).set 0 3++(t x.toNat).key++(t x.toNat).cF++eu (ai λi=>ah (aA t i)) (t x.toNat).un (bk x))=1+(t (O x)).key.length+(t (O x)).cF.length+32)&&(C ((1+(t (O x)).key.length+(t (O x)).cF.length+32)<=1+(t (O x)).key.length+(t (O x)).cF.length+32)&&Z)) (C (A ((t9 1 0).set 0 3++(t x.toNat).key++(t x.toNat).cF++eu (ai λi=>ah (aA t i)) (t x.toNat).un (bk x))=1+(t (O x)).key.length+(t (O x)).cF.length+32))) (C (A ((t9 1 0).set 0 3++(t x.toNat).key++(t x.toNat).cF++eu (ai λi=>ah (aA t i)) (t x.toNat).un (bk x))<274877900000)))):=by kernel_rfl
section
variable {N:Nat} {t:Nat->aE} {x c:Int}
def ac1(a:eo N t)(h:v8 N t x c=Z):ak Q 83 [.p4 I N t,.t6 x,.t6 c] [] (.sM (lH t x (bk x+aW x-c))) []:=by
 have⟨p,g,v,q,z,F,w,D,B,s,u⟩:=Xl a h
 have f:cX N (λi=>ah (aA t i))=Z:=bU a
 have l:(ai λi=>ah (aA t i))=t:=rfl
 have e:=aBL N t x c
 rw[dU (n:=bk x+aW x) (by omega) (by omega),dU (by omega) (by omega)] at e
 have b:O x<N:=by omega
 have r:=a.un (O x) b
 have k:=B6 a p r (x:=bk x+aW x-c) (by omega) (by omega)
 have d:bC x N=Z:=by
  obtain⟨y,rfl⟩:=ac7 g
  exact bW (by omega)
 have j:=a.key (O x) b
 have o:=a.cF (O x) b
 have m:=mN t (t (O x)).un (bk x+aW x-c)
 refine aP (akN []) 60 func83 e ?_ rfl
 rw[l,f,d,k,Me b,Me a.le,Me g,Me q]
 simp[av,j,o,m,aC,kf]
def WV(d:eo N t)(h:v8 N t x c=Z)(m:oJ N t=Z):ak prog 42 [.p4 I N t,.t6 x,.t6 c] [] (.sM (lH t x (bk x+aW x-c))) []:=by
 have⟨G,o,R,B,H,M,F,L,S,P,Q⟩:=Xl d h
 have k:cX N (λi=>ah (aA t i))=Z:=bU d
 have q:(ai λi=>ah (aA t i))=t:=rfl
 have f:O x<N:=by omega
 have J:=d.un (O x) f
 have j:bC x N=Z:=by
  obtain⟨y,rfl⟩:=ac7 o
  exact bW (by omega)
 have l:=d.key (O x) f
 have p:=d.cF (O x) f
 have v:=DT d m (O x) f
 have w:∀s,lH t x s=b7 ((([3]++(t (O x)).key)++(t (O x)).cF)++eu t (t (O x)).un s):=λs=>by
  have g:=mN t (t (O x)).un s
  have n:By (eu t (t (O x)).un s):=by
   unfold eu
   cases l8 7 (O s)<;>(unfold rF;exact AH _)
  have e:[[3],(t (O x)).key,(t (O x)).cF,eu t (t (O x)).un s].flatten=(([3]++(t (O x)).key)++(t (O x)).cF)++eu t (t (O x)).un s:=by
   simp only[List.flatten_cons,List.flatten_nil,acj,aeH]
  unfold lH
  rw[e]
  refine ju (kB (kB (kB (by intro z K;simp at K;omega) v.key.2) v.cF.2) n) ?_
  simp only[abA,agM,List.length_nil,l,p,g];omega
 have r:∀s:Int,0<=s->s<N->L7 N t s=Z:=λs a b=>by unfold L7;rw[G,Me a,Me b];rfl
 have u:=Me J
 by_cases D:c=bk x
 ·have e:=atU N t x c
  rw[<-w] at e
  rw[show bk x+aW x-c=aW x by omega]
  refine aP (Mn _) 60 func42 e ?_ rfl
  have g:=mN t (t (O x)).un (aW x)
  rw[q,k,j,r _ F L,m,u,Me f,Me d.le,Me o,Me B,show(c==bk x)=Z from afP.2 D]
  simp[av,l,p,g,aC,kf]
 ·have e:=atV N t x c
  rw[<-w] at e
  rw[show bk x+aW x-c=bk x by omega]
  refine aP (Mn _) 60 func42 e ?_ rfl
  have g:=mN t (t (O x)).un (bk x)
  rw[q,k,j,r _ H M,m,u,Me f,Me d.le,Me o,Me B,show(c==bk x)=I from beq_false_of_ne D]
  simp[av,l,p,g,aC,kf]
end
def atW:aK Q:=.val 83 _ func83 (by decide) rfl Z 0 (λvs=>match vs with
 | [.aO I 99 N g,.int .i64 x,.int .i64 c]=>E (.sM (lH (ai g) x (bk x+aW x-c)),[],cX N g&&C (N<=71)&&v8 N (ai g) x c)
 |_=>Y) λvs v new e=>by
 split at e
 ·simp only[Mf,aad,No,aac] at e;have⟨rfl,rfl,⟨b,d⟩,f⟩:=e;exact ak.conv (ac1 (eo.of b d) f) ⟨VE.kM b,VE.refl _,VE.refl _,trivial⟩ trivial (VE.refl _) trivial
 ·cases e
def mmC(b:Bool)(l:List (Nat×Bool)):cu:=mk [JC b,kA,atW] [] (uT l)
def ur b(l:List (Nat×Bool)):aq Q (mmC b l):=au _ aN.nil _ _
abbrev xg:SV:=.bP [.sM cG,.bool I]
def aBM(N:Nat)(t:Nat->aE)(x c:Int):(aV Q (mmC Z [(11,Z)]) 60 f40 [.p4 I N t,.t6 x,.t6 c] []).v3=E (xg,aa Z (C (x<0))):=by kernel_rfl
def aBN(N:Nat)(t:Nat->aE)(x c:Int):(aV Q (mmC Z [(11,I),(16,Z)]) 60 f40 [.p4 I N t,.t6 x,.t6 c] []).v3=E (xg,aa (aa Z !C (x<0)) (C (x>=(N:Int)))):=by kernel_rfl
def aBO(N:Nat)(t:Nat->aE)(x c:Int):(aV Q (mmC I [(11,I),(16,I)]) 60 f40 [.p4 I N t,.t6 x,.t6 c] []).v3=E (xg,aa (aa (aa Z !C (x<0)) !C (x>=(N:Int))) (aa Z ((cX N λi=>ah (aA t i))&&C (N<=71)&&bq N (ai λi=>ah (aA t i))==I))):=by kernel_rfl
def aBP(N:Nat)(t:Nat->aE)(x c:Int):(aV Q (mmC Z [(11,I),(16,I),(30,Z)]) 60 f40 [.p4 I N t,.t6 x,.t6 c] []).v3=E (xg,aa (aa (aa (aa (aa Z !C (x<0)) !C (x>=(N:Int))) (aa Z ((cX N λi=>ah (aA t i))&&C (N<=71)&&bq N (ai λi=>ah (aA t i))==Z))) (aa Z (C (0<=x)&&C (x<64)))) (C (c<0))):=by kernel_rfl
def aBQ(N:Nat)(t:Nat->aE)(x c:Int):(aV Q (mmC Z [(11,I),(16,I),(30,I),(34,Z),(38,Z)]) 60 f40 [.p4 I N t,.t6 x,.t6 c] []).v3=E (xg,aa (aa (aa (aa (aa (aa (aa Z !C (x<0)) !C (x>=(N:Int))) (aa Z ((cX N λi=>ah (aA t i))&&C (N<=71)&&bq N (ai λi=>ah (aA t i))==Z))) (aa Z (C (0<=x)&&C (x<64)))) !C (c<0)) (c != bk x)) (c != aW x)):=by kernel_rfl
def aBR(N:Nat)(t:Nat->aE)(x c:Int):(aV Q (mmC Z [(11,I),(16,I),(30,I),(34,I)]) 60 f40 [.p4 I N t,.t6 x,.t6 c] []).v3=E (.bP [.sM (lH t x (bk x+aW x-c)),.bool Z],aa (aa (aa (aa (aa (aa (aa Z !C (x<0)) !C (x>=(N:Int))) (aa Z ((cX N λi=>ah (aA t i))&&C (N<=71)&&bq N (ai λi=>ah (aA t i))==Z))) (aa Z (C (0<=x)&&C (x<64)))) !C (c<0)) !c != bk x) (aa Z ((cX N λi=>ah (aA t i))&&C (N<=71)&&v8 N (ai λi=>ah (aA t i)) x c))):=by kernel_rfl
def aBS(N:Nat)(t:Nat->aE)(x c:Int):(aV Q (mmC Z [(11,I),(16,I),(30,I),(34,Z),(38,I)]) 60 f40 [.p4 I N t,.t6 x,.t6 c] []).v3=E (.bP [.sM (lH t x (bk x+aW x-c)),.bool Z],aa (aa (aa (aa (aa (aa (aa (aa Z !C (x<0)) !C (x>=(N:Int))) (aa Z ((cX N λi=>ah (aA t i))&&C (N<=71)&&bq N (ai λi=>ah (aA t i))==Z))) (aa Z (C (0<=x)&&C (x<64)))) !C (c<0)) (c != bk x)) !c != aW x) (aa Z ((cX N λi=>ah (aA t i))&&C (N<=71)&&v8 N (ai λi=>ah (aA t i)) x c))):=by kernel_rfl
section
variable {N:Nat} {t:Nat->aE} {x c:Int}
def WI(d:eo N t):ak Q 40 [.p4 I N t,.t6 x,.t6 c] [] (.bP [.sM (qu N t x c),.bool (v8 N t x c)]) []:=by
 have a:cX N (λi=>ah (aA t i))=Z:=bU d
 have f:(ai λi=>ah (aA t i))=t:=rfl
 have j:v8 N t x c=I->ak Q 40 [.p4 I N t,.t6 x,.t6 c] [] xg []->ak Q 40 [.p4 I N t,.t6 x,.t6 c] [] (.bP [.sM (qu N t x c),.bool (v8 N t x c)]) []:=λq g=>by
  unfold qu;rw[q];exact g
 by_cases s:x<0
 ·exact j (by unfold v8 L7;rw[aaS (show¬0<=x by omega)];rfl) (aP (ur _ _) 60 func40 (aBM N t x c) (by rw[Me s];rfl) rfl)
 have e:=aaS s
 by_cases u:x>=N
 ·exact j (by unfold v8 L7;rw[aaS (show¬x<(N:Int) by omega),ag8];rfl) (aP (ur _ _) 60 func40 (aBN N t x c) (by rw[e,Me u];rfl) rfl)
 have h:=aaS u
 cases b:bq N t with
 |false=>exact j (by unfold v8 L7;rw[b,ag8];rfl) (aP (ur _ _) 60 func40 (aBO N t x c) (by rw[e,h,f,a,Me d.le,b];rfl) rfl)
 |true=>
 have w:L7 N t x=Z:=by unfold L7;rw[b,Me (by omega),Me (by omega)];rfl
 have p:x<64:=by
  have⟨n,y,_,hN,_⟩:=jw d b
  have:=cn y
  omega
 have l:C (0<=x)=Z:=Me (by omega)
 have m:C (x<64)=Z:=Me p
 by_cases v:c<0
 ·exact j (by unfold v8;rw[aaS (show¬0<=c by omega),ahm,ag8]) (aP (ur _ _) 60 func40 (aBP N t x c) (by rw[e,h,f,a,Me d.le,b,l,m,Me v];rfl) rfl)
 have r:=aaS v
 by_cases k:c=bk x
 ·have q:v8 N t x c=Z:=by unfold v8;rw[w,Me (by omega),show(c==bk x)=Z from afP.2 k];rfl
  unfold qu;rw[q]
  exact aP (ur _ _) 60 func40 (aBR N t x c) (by rw[e,h,f,a,Me d.le,b,l,m,r,q,show(c != bk x)=I by simp[k]];rfl) rfl
 ·by_cases o:c=aW x
  ·have q:v8 N t x c=Z:=by unfold v8;rw[w,Me (by omega),show(c==aW x)=Z from afP.2 o,Bool.or_true];rfl
   unfold qu;rw[q]
   exact aP (ur _ _) 60 func40 (aBS N t x c) (by rw[e,h,f,a,Me d.le,b,l,m,r,q,show(c != bk x)=Z by simp[k],show(c != aW x)=I by simp[o]];rfl) rfl
  ·exact j (by unfold v8;rw[show(c==bk x)=I from beq_false_of_ne k,show(c==aW x)=I from beq_false_of_ne o,Bool.or_false,ag8,ag8]) (aP (ur _ _) 60 func40 (aBQ N t x c) (by rw[e,h,f,a,Me d.le,b,l,m,r,show(c != bk x)=Z by simp[k],show(c != aW x)=Z by simp[o]];rfl) rfl)
end
end Mk
namespace Mk
open Sy Tr Wi S2
section
variable {t:Nat->aE} {f:Nat->pD} {N n:Nat}
def Xm t u wo:∀k y,(∀z,y<z+2^k->z<y+2^k->u z=t z)->rF u wo k y=rF t wo k y:=by
 intro k
 induction k with
 |zero=>
  intro y h
  have:=h y (by omega) (by omega)
  unfold rF B3
  rw[this]
 |succ k d=>
  intro y h
  have i:1<=2^k:=Nat.one_le_two_pow
  have e:2^(k+1)=2*2^k:=by rw[Nat.pow_succ];omega
  rw[e] at h
  unfold rF
  rw[h y (by omega) (by omega),d (y-2^k) (λz a b=>h z (by omega) (by omega)),d (y+2^k) (λz a b=>h z (by omega) (by omega))]
end
end Mk
namespace Pa
open Sy Tr
def di(x n:Int):Int:=bif C (iP x n<0) then-1 else bk (iP x n)+aW (iP x n)-x
def sbC:cu:=mk [DV,kA] []
def akP:aq Q sbC:=au _ aN.nil _ _
theorem ac2:(bn.all λn=>(t8 (2*n-1)).all λx=>E9 (di x n) (aV Q sbC 60 f104 [.t6 x,.t6 n] []))=Z:=by kernel_rfl
def JG{x n:Int}(h:bf x n=Z):ak Q 104 [.t6 x,.t6 n] [] (.t6 (di x n)) []:=by obtain⟨m,b,y,rfl,rfl,a⟩:=fW h;have h:=aaB.1 (aaB.1 ac2 m b) y (aaI.2 a);exact aP akP 60 func104 (yN h) rfl rfl
def atj:aK Q:=.val 104 _ func104 (by decide) rfl I 0 (λvs=>match vs with
 | [.int .i64 x,.int .i64 n]=>E (.t6 (di x n),[],bf x n)
 |_=>Y) λvs v new e=>by
 split at e
 ·simp only[Mf,aad] at e;have⟨rfl,rfl,h⟩:=e;exact JG h
 ·cases e
def lO(N:Nat)(t:Nat->aE)(i:Int):Bool:=C (i>=0)&&C (i<32)&&C (2*i<(N:Int))&&(t (O (2*i))).used
def A6(l:List (Nat×Bool)):cu:=mk (P:=Q) [] [] (uT l)
def fS(l:List (Nat×Bool)):aq Q (A6 l):=au _ aN.nil _ _
def aBT(N:Nat) t(i:Int):(aV Q (A6 [(7,I),(11,I),(18,I)]) 60 f89 [.p4 I N t,.t6 i] []).v3=E (.bool I,aa Z !C (i>=0)):=by kernel_rfl
def aBU(N:Nat) t(i:Int):(aV Q (A6 [(7,Z),(11,I),(18,I)]) 60 f89 [.p4 I N t,.t6 i] []).v3=E (.bool I,aa (aa Z (C (i>=0))) !C (i<32)):=by kernel_rfl
def aBV(N:Nat) t(i:Int):(aV Q (A6 [(7,Z),(11,Z),(18,I)]) 60 f89 [.p4 I N t,.t6 i] []).v3=E (.bool I,aa (aa (aa Z (C (i>=0))) (C (i<32))) !C (i64.wrap (2*i)<(N:Int))):=by kernel_rfl
def aBW(N:Nat) t(i:Int):(aV Q (A6 [(7,Z),(11,Z),(18,Z)]) 60 f89 [.p4 I N t,.t6 i] []).v3=E (.bool (t (O (i64.wrap (2*i)))).used,aa (aa (aa (aa (aa Z (C (i>=0))) (C (i<32))) (C (i64.wrap (2*i)<(N:Int)))) (bC (i64.wrap (2*i)) N)) (Z&&(C (O (i64.wrap (2*i))<N)&&Z))):=by kernel_rfl
def Xn{N t}{i:Int}:ak Q 89 [.p4 I N t,.t6 i] [] (.bool (lO N t i)) []:=by
 unfold lO
 by_cases a:i>=0
 ·by_cases b:i<32
  ·have w:i64.wrap (2*i)=2*i:=dU (by omega) (by omega)
   by_cases d:2*i<(N:Int)
   ·have e:=aBW N t i
    rw[w] at e
    rw[Me a,Me b,Me d,af0,af0,af0]
    refine aP (fS _) 60 func89 e ?_ rfl
    obtain⟨y,rfl⟩:=ac7 a
    rw[Me a,Me b,Me d,show 2*(y:Int)=((2*y:Nat):Int) by omega,bW (by omega),aaq,Me (by omega)]
    rfl
   ·rw[aaS d,ag8,ahm]
    exact aP (fS _) 60 func89 (aBV N t i) (by rw[w,Me a,Me b,aaS d];rfl) rfl
  ·rw[aaS b,ag8,ahm,ahm]
   exact aP (fS _) 60 func89 (aBU N t i) (by rw[Me a,aaS b];rfl) rfl
 ·rw[aaS a]
  exact aP (fS _) 60 func89 (aBT N t i) (by rw[aaS a];rfl) rfl
def Sx(b:Bool):aK Q:=.val 89 _ func89 (by decide) rfl Z 0 (λvs=>match vs with
 | [.aO I 99 N g,.int .i64 i]=>E (.bool b,[],cX N g&&(lO N (ai g) i==b))
 |_=>Y) λvs v new e=>by
 split at e
 ·simp only[Mf,aad,No,afP] at e
  have⟨rfl,rfl,d,h⟩:=e
  rw[<-h]
  exact ak.conv Xn ⟨VE.kM d,VE.refl _,trivial⟩ trivial (VE.refl _) trivial
 ·cases e
end Pa
namespace Pa
open Sy Tr Wi S2 Mk
def e8(n x:Int):Nat->Int
 |0=>x
 |k+1=>cQ n x k
def fresh(k p:pD):aE:=⟨Z,0,k,Mk.cG,p,[]⟩
def uE(l:pD):Prop:=A l=32/\∀z∈l,0<=z/\z<256
def NU(v:aE):Prop:=v=lF\/∃k p,v=fresh k p/\uE k/\uE p
structure PW(t u:Nat->aE)(n j:Nat):Prop where
 on:∀a,a<cr n->NU (u (cQ n (2*(j:Int)) a).toNat)
 off:∀y:Nat,(∀a,a<cr n->cQ n (2*(j:Int)) a≠(y:Int))->y≠2*j->u y=t y
 leaf:∃k p,u (2*j)={t (2*j) with key:=k,cF:=p}/\uE k/\uE p
def aBX(n j:Nat):Bool:=(t8 (cr n)).all λa=>
 decide (0<=cQ n (2*(j:Int)) a)&&C (cQ n (2*(j:Int)) a<((2*n-1:Nat):Int))&&C (O (cQ n (2*(j:Int)) a)%2=1)&&
 decide (0<=di (e8 n (2*(j:Int)) a) n)&&C (di (e8 n (2*(j:Int)) a) n<((2*n-1:Nat):Int))&&C (0<=e8 n (2*(j:Int)) a)&&(e8 n (2*(j:Int)) a==bk (cQ n (2*(j:Int)) a)||e8 n (2*(j:Int)) a==aW (cQ n (2*(j:Int)) a))&&
 (bk (cQ n (2*(j:Int)) a)+aW (cQ n (2*(j:Int)) a)-e8 n (2*(j:Int)) a==di (e8 n (2*(j:Int)) a) n)&&
 ((t8 (cr n)).all λb=>(C (a=b)||cQ n (2*(j:Int)) b != cQ n (2*(j:Int)) a)&&(C (O (cQ n (2*(j:Int)) b)+2^l8 7 (O (di (e8 n (2*(j:Int)) a) n))<=O (di (e8 n (2*(j:Int)) a) n))||C (O (di (e8 n (2*(j:Int)) a) n)+2^l8 7 (O (di (e8 n (2*(j:Int)) a) n))<=O (cQ n (2*(j:Int)) b))))&&
 (C (2*j+2^l8 7 (O (di (e8 n (2*(j:Int)) a) n))<=O (di (e8 n (2*(j:Int)) a) n))||C (O (di (e8 n (2*(j:Int)) a) n)+2^l8 7 (O (di (e8 n (2*(j:Int)) a) n))<=2*j))
def ac3:(bn.all λn=>(t8 n).all λj=>aBX n j)=Z:=by decide+kernel
structure aBY(n j a:Nat):Prop where
 nn:0<=cQ n (2*(j:Int)) a
 lt:cQ n (2*(j:Int)) a<((2*n-1:Nat):Int)
 Wn:(cQ n (2*(j:Int)) a).toNat%2=1
 s0:0<=di (e8 n (2*(j:Int)) a) n
 s1:di (e8 n (2*(j:Int)) a) n<((2*n-1:Nat):Int)
 c0:0<=e8 n (2*(j:Int)) a
 kid:e8 n (2*(j:Int)) a=bk (cQ n (2*(j:Int)) a)\/e8 n (2*(j:Int)) a=aW (cQ n (2*(j:Int)) a)
 sib:bk (cQ n (2*(j:Int)) a)+aW (cQ n (2*(j:Int)) a)-e8 n (2*(j:Int)) a=di (e8 n (2*(j:Int)) a) n
 ne:∀b,b<cr n->a≠b->cQ n (2*(j:Int)) b≠cQ n (2*(j:Int)) a
 far:∀b,b<cr n->(cQ n (2*(j:Int)) b).toNat+2^l8 7 (di (e8 n (2*(j:Int)) a) n).toNat<=(di (e8 n (2*(j:Int)) a) n).toNat\/(di (e8 n (2*(j:Int)) a) n).toNat+2^l8 7 (di (e8 n (2*(j:Int)) a) n).toNat<=(cQ n (2*(j:Int)) b).toNat
 aBZ:2*j+2^l8 7 (di (e8 n (2*(j:Int)) a) n).toNat<=(di (e8 n (2*(j:Int)) a) n).toNat\/(di (e8 n (2*(j:Int)) a) n).toNat+2^l8 7 (di (e8 n (2*(j:Int)) a) n).toNat<=2*j
def ir{n j a}(r:n∈bn)(k:j<n)(m:a<cr n):aBY n j a:=by have h:=aaB.1 (aaB.1 (aaB.1 ac3 n r) j (aaI.2 k)) a (aaI.2 m);simp only[No,agV,aac,afP,bne_iff_ne,ne_eq,aaB,aaI] at h;have⟨⟨⟨⟨⟨⟨⟨⟨⟨o,v⟩,w⟩,u⟩,q⟩,s⟩,p⟩,l⟩,i⟩,e⟩:=h;exact⟨o,v,w,u,q,s,p,l,λb d g=>((i b d).1.resolve_left g),λb d=>(i b d).2,e⟩
def Xo:(bn.all λn=>(t8 n).all λi=>(t8 n).all λj=>(t8 (cr n)).all λa=>(t8 (cr n)).all λb=>C (a=b)||cQ n (2*(i:Int)) a != cQ n (2*(j:Int)) b)=Z:=by decide+kernel
def ac4{n i j a b k}(r:n∈bn)(hi:i<n)(l:j<n)(m:a<cr n)(o:b<cr n)(h:cQ n (2*(i:Int)) a=cQ n (2*(j:Int)) b)(s:a<=k):cQ n (2*(i:Int)) k=cQ n (2*(j:Int)) k:=by
 have q:=aaB.1 (aaB.1 (aaB.1 (aaB.1 (aaB.1 Xo n r) i (aaI.2 hi)) j (aaI.2 l)) a (aaI.2 m)) b (aaI.2 o)
 rw[h] at q
 have e:a=b:=by simpa using q
 subst e
 obtain⟨d,rfl⟩:=Nat.exists_eq_add_of_le s
 induction d with
 |zero=>exact h
 |succ d p=>
  show iP (cQ n (2*(i:Int)) (a+d)) n=iP (cQ n (2*(j:Int)) (a+d)) n
  rw[p (by omega)]
section
variable {t u:Nat->aE} {N n j:Nat}
def PW.ev(h:PW t u n j)(b:n∈bn)(hj:j<n){y}(g:y%2=0):(u y).used=(t y).used/\(u y).name=(t y).name/\(u y).un=(t y).un:=by
 by_cases e:y=2*j
 ·subst e;have⟨k,p,e,_⟩:=h.leaf;rw[e];exact⟨rfl,rfl,rfl⟩
 ·rw[h.off y (λa d q=>by have:=(ir b hj d).Wn;rw[q,aaq] at this;omega) e];exact⟨rfl,rfl,rfl⟩
def PW.each(h:PW t u n j){P:aE->Prop}(o:P lF)(v:∀k p,uE k->uE p->P (fresh k p))(r:∀k p,uE k->uE p->P {t (2*j) with key:=k,cF:=p})(s:∀i,i<N->P (t i)):∀i,i<N->P (u i):=λi m=>by
 by_cases l:∃a,a<cr n/\cQ n (2*(j:Int)) a=(i:Int)
 ·have⟨a,d,e⟩:=l
  have:=h.on a d
  rw[e,aaq] at this
  rcases this with q|⟨k,p,q,g,b⟩
  ·rw[q];exact o
  ·rw[q];exact v k p g b
 ·by_cases e:i=2*j
  ·subst e
   have⟨k,p,e,g,b⟩:=h.leaf
   rw[e];exact r k p g b
  ·rw[h.off i (λa d q=>l ⟨a,d,q⟩) e];exact s i m
def PW.tok(h:PW t u n j)(g:n∈bn)(k:j<n)(hN:N=2*n-1)(e:eo N t):eo N u:=by have l:=cn g;have q:=h.each (P:=λv=>A v.un<=274877906944/\A v.key=32/\A v.bH=32/\A v.cF=32) (by simp[lF]) (λk p a b=>⟨by simp[fresh],a.1,by simp[fresh],b.1⟩) (λk p a b=>⟨e.un _ (by omega),a.1,e.bH _ (by omega),b.1⟩) λi d=>⟨e.un i d,e.key i d,e.bH i d,e.cF i d⟩;exact⟨e.le,λi d=>(q i d).1,λi d=>(q i d).2.1,λi d=>(q i d).2.2.1,λi d=>(q i d).2.2.2⟩
def vQ{l:pD}(h:∀z∈l,0<=z/\z<256):l.all (λz=>C (0<=z)&&C (z<256))=Z:=aaB.2 λz a=>by have:=h z a;simp;omega
def Mc:uE Mk.cG:=⟨by simp,λz a=>by have:=List.eq_of_mem_replicate a;omega⟩
def PW.byt(h:PW t u n j)(m:n∈bn)(o:j<n)(hN:N=2*n-1)(e:oJ N t=Z):oJ N u=Z:=by
 have r:=cn m
 refine aaB.2 λi d=>h.each (P:=λv=>(((((v.key.all λz=>C (0<=z)&&C (z<256))&&(v.bH.all λz=>C (0<=z)&&C (z<256)))&&(v.cF.all λz=>C (0<=z)&&C (z<256)))&&C ((Lit.int .i64 v.name).wf=Z))&&v.un.all λz=>(Lit.int .i64 z).wf)=Z) ?_ (λk p a b=>?_) (λk p a b=>?_) (λi d=>aaB.1 e i (aaI.2 d)) i (aaI.1 d)
 ·decide
 ·show _=Z
  simp only[fresh,vQ a.2,vQ b.2,vQ Mc.2];rfl
 ·have q:=aaB.1 e (2*j) (aaI.2 (by omega))
  simp only[No] at q ⊢
  have⟨⟨⟨⟨_,k⟩,_⟩,g⟩,l⟩:=q
  exact⟨⟨⟨⟨vQ a.2,k⟩,vQ b.2⟩,g⟩,l⟩
def Gw{b N i}(hi:i<N)(h:b i=I)(e:∀k,k<i->b k=Z):cV b N=E i:=by cases q:cV b N with
 |none=>rw[dz q i hi] at h;cases h
 |some m=>
  have⟨_,a,d⟩:=dr q
  rcases Nat.lt_trichotomy m i with w|w|w
  ·rw[e m w] at a;cases a
  ·rw[w]
  ·rw[d i w] at h;cases h
def PW.btw(h:PW t u n j)(r:n∈bn)(v:j<n){x:Int}(B:∀a,a<cr n->cQ n (2*(j:Int)) a≠x){i}(hi:i<n)(g:vS t x i n=Z):vS u x i n=Z:=by
 unfold vS cR at g ⊢
 cases o:cV (JH t x i n) (cr n) with
 |none=>rw[o] at g;cases g
 |some k=>
  rw[o] at g
  have⟨s,z,D⟩:=dr o
  have l:=eq_of_beq g
  have bR:∀k',k'<=k->JH u x i n k'=JH t x i n k':=λk' d=>by
   have w:=ir r hi (show k'<cr n by omega)
   have⟨y,p⟩:=ac7 w.nn
   have e:u (O (cQ n (2*(i:Int)) k'))=t (O (cQ n (2*(i:Int)) k')):=by
    refine h.off _ (λb m q=>?_) (λq=>by have:=w.Wn;omega)
    rw[p,aaq, <-p] at q
    exact B k s ((ac4 r hi v (by omega) m q.symm d).symm.trans l)
   unfold JH
   rw[e]
  rw[Gw s ((bR k (aar _)).trans z) λk' d=>(bR k' (by omega)).trans (D k' d)]
  exact g
def PW.nm(h:PW t u n j)(l:n∈bn)(g:j<n):∀i,qe u i=qe t i:=by
 intro i
 induction i with
 |zero=>rfl
 |succ i k=>
  unfold qe
  rw[k]
  by_cases e:i%2=0
  ·have⟨a,b,_⟩:=h.ev l g e
   rw[a,b]
  ·rw[show(i%2==0)=I from beq_false_of_ne e,ag8,ag8];rfl
def PW.aB0(h:PW t u n j)(o:n∈bn)(r:j<n)(K:(t (2*j)).used=Z){x}(Q:x<2*n-1)(d:iF t n x=Z):iF u n x=Z:=by
 by_cases B:∃a,a<cr n/\cQ n (2*(j:Int)) a=(x:Int)
 ·have⟨a,s,e⟩:=B
  have w:=ir o r s
  have:=h.on a s
  have P:=w.Wn
  rw[e,aaq] at this P
  unfold iF
  rcases this with q|⟨k,p,q,_⟩
  ·rw[q];show tn lF=Z;decide
  ·have:gq u x n=Z:=by
    unfold gq
    rw[aaq,q]
    have:C (Mk.cG=t9 32 0)=Z:=Me rfl
    simp only[fresh,iz,this];rfl
   rw[this,q,show(x%2==0)=I from beq_false_of_ne (by omega)];rfl
 ·have l:=λa s q=>B ⟨a,s,q⟩
  by_cases v:x%2=0
  ·have⟨a,b,c⟩:=h.ev o r v
   unfold iF at d ⊢
   rw[h.nm o r,a,b,c,show(x%2==0)=Z from afP.2 v] at*
   by_cases e:x=2*j
   ·subst e;rw[K] at d ⊢;exact d
   ·rw[h.off x l e];exact d
  ·have e:=h.off x l (by omega)
   have M:=e
   unfold iF at d ⊢
   rw[show(x%2==0)=I from beq_false_of_ne v] at d ⊢
   rw[e]
   cases F:(t x).used with
   |false=>rw[F] at d;exact d
   |true=>
    rw[F] at d
    have d:gq t x n=Z:=d
    show gq u x n=Z
    have⟨L,R⟩:=Az o Q d
    unfold gq at d ⊢
    rw[aaq] at d
    rw[aaq,M]
    simp only[No,aaB] at d ⊢
    refine⟨d.1,λi z=>?_⟩
    have g:=d.2 i z
    have D:=aaI.1 z
    have m:=L _ (List.getElem_mem D)
    rw[<-dh D] at m
    unfold HW at g ⊢
    simp only[No] at g ⊢
    have⟨⟨G,J⟩,H⟩:=g
    refine⟨⟨G,?_⟩,h.btw o r l (by omega) H⟩
    rw[(h.ev o r (by omega)).1];exact J
def PW.atX(h:PW t u n j)(d:n∈bn)(b:j<n)(hN:N=2*n-1)(l:aY N=n)(g:(t (2*j)).used=Z)(a:bq N t=Z):bq N u=Z:=by unfold bq at a ⊢;rw[l,aaq] at*;simp only[No,aaB] at a ⊢;have⟨k,m,o⟩:=a;refine⟨k,λx e=>h.aB0 d b g (by have:=aaI.1 e;omega) (m x e),?_⟩;rw[<-o];unfold fm;congr 2;funext i;rw[(h.ev d b (by omega)).1]
def PW.dig(h:PW t u n j)(i:n∈bn)(d:j<n){a}(e:a<cr n):eu u [] (di (e8 n (2*(j:Int)) a) n)=eu t [] (di (e8 n (2*(j:Int)) a) n):=by
 have w:=ir i d e
 unfold eu
 refine Xm t u [] _ _ λz k l=>h.off z (λb g q=>?_) λq=>?_
 ·have f:=w.far b g
  rw[q,aaq] at f
  omega
 ·have f:=w.aBZ
  omega
def JB(t:Nat->aE)(a b:pD)(s:Int):pD:=cI [[3],a,b,eu t [] s].flatten
def PW.mark(h:PW t u n j)(d:n∈bn)(b:j<n)(hN:N=2*n-1)(k:aY N=n)(i:(t (2*j)).used=Z)(l:bq N t=Z){a}(g:a<cr n){key cF}(m:u (O (cQ n (2*(j:Int)) a))=fresh key cF):
  v8 N u (cQ n (2*(j:Int)) a) (e8 n (2*(j:Int)) a)=Z/\qu N u (cQ n (2*(j:Int)) a) (e8 n (2*(j:Int)) a)=JB t key cF (di (e8 n (2*(j:Int)) a) n):=by
 have w:=ir d b g
 have q:v8 N u (cQ n (2*(j:Int)) a) (e8 n (2*(j:Int)) a)=Z:=by
  unfold v8 L7
  rw[h.atX d b hN k i l,Me w.nn,Me (by rw[hN];exact w.lt),Me w.c0]
  rcases w.kid with e|e<;>simp[e]
 refine⟨q,?_⟩
 unfold qu
 rw[q,w.sib]
 show lH u _ _=_
 unfold lH JB
 rw[m,show(fresh key cF).un=[] from rfl,h.dig d b g];rfl
def PW.upd(h:PW t u n j)(m:n∈bn)(i:j<n){a}(g:a<cr n){v}(o:NU v):PW t (fO u (O (cQ n (2*(j:Int)) a)) v) n j:=by
 have w:=ir m i g
 refine⟨λb l=>?_,λy d r=>?_,?_⟩
 ·unfold fO
  by_cases e:O (cQ n (2*(j:Int)) b)=O (cQ n (2*(j:Int)) a)
  ·rw[ae8 e];exact o
  ·rw[acB e];exact h.on b l
 ·unfold fO
  rw[acB (λe=>d a g (by have:=w.nn;omega))];exact h.off y d r
 ·have⟨k,p,e,q⟩:=h.leaf
  refine⟨k,p,?_,q⟩
  unfold fO
  rw[acB (λe=>by have:=w.Wn;omega)];exact e
def PW.afl(h:PW t u n j)(l:n∈bn)(g:j<n){k p}(m:uE k)(o:uE p):PW t (fO u (2*j) {u (2*j) with key:=k,cF:=p}) n j:=by
 refine⟨λb a=>?_,λy i d=>?_,?_⟩
 ·unfold fO
  rw[acB (λe=>by have:=(ir l g a).Wn;omega)];exact h.on b a
 ·unfold fO
  rw[acB d];exact h.off y i d
 ·have⟨s,r,e,q⟩:=h.leaf
  refine⟨k,p,?_,m,o⟩
  unfold fO
  rw[ae8 rfl,e]
def pV{x:Int}{y}:∀k,(∀a,a<k->O (cQ n x a)≠y)->cH t n x k y=t y
 |0,_=>rfl
 |k+1,h=>by unfold cH fO;rw[acB (λe=>h k (by omega) e.symm)];exact pV k λa b=>h a (by omega)
def xe{x:Int}:∀k a,a<k->cH t n x k (O (cQ n x a))=lF
 |k+1,a,h=>by
  unfold cH fO;by_cases e:O (cQ n x a)=O (cQ n x k)
  ·rw[ae8 e]
  ·rw[acB e];exact xe k a (by rcases agP a k with q|q;exact q;exact absurd (show(cQ n x a).toNat=O (cQ n x k) by rw[show a=k by omega]) e)
def Gk(g:n∈bn)(d:j<n)(i:uE (t (2*j)).key)(k:uE (t (2*j)).cF):PW t (cH t n (2*(j:Int)) (cr n)) n j:=by refine⟨λa b=>.inl (xe _ a b),λy h _=>pV _ λa b e=>h a b (by have:=(ir g d b).nn;omega),_,_,?_,i,k⟩;exact pV _ λa b e=>by have:=(ir g d b).Wn;omega
end
end Pa
end Go.Proofs.YthlnlcijnoadcaaGreatDoor
namespace Go.Sy
section
variable {k:Nat}
def bG.acK{t h o o'} c(y:h[c]?=E (.b [.nl (.slice Y 0 0)])) z g ex:bG k ⟨t,h,o⟩ ⟨t,h.set c (.b [.b9 (A h) z 0 0 ex])++[.b [.aF z 0 g]],o'⟩:=
 λB e w D _ l R=>by
  have m:bM B e (h.set c (.b [.b9 (A h) z 0 0 ex])) w:=R.Iz y (λp x _ _ ⟨f,r,s,n,d,i⟩=>by have⟨v,p,a,u,r3⟩:=i;have a:=a;refine⟨f,r,s,n,d,v,p,.inl ⟨rfl,rfl,Y,a⟩,u,r3⟩) (λq=>by simp[aC,kf] at q)
  refine⟨e,rfl,l,?_⟩;have:=m.nothing (ps:=[.aF z 0 g]) (.inl rfl) (by simp[aC,kf]);unfold cO at this;rw[ae8 rfl] at this;exact this
end
end Go.Sy
namespace Go.Proofs.YthlnlcijnoadcaaGreatDoor
namespace Pa
open Sy Tr
def Q8(c u:Bool)(l:List (Nat×Bool))(a:Bool:=I):cu:=mk [JC c,Sx u,CS,ati,atj,Gm,DV] [] (uT l) λi=>Nat.beq i 45&&a
def lD c u l ip:aq Q (Q8 c u l ip):=au _ aN.nil _ _
def tuB:Code:=aI f65
def gX(T:Nat->Int×Int×Int):Nat->List SV:=λk=>[.t6 (T k).1,.t6 (T k).2.1,.t6 (T k).2.2]
def tuH(N:Nat)(t:Nat->aE)(n x c:Int)(o:SV):List Blk:=[.b [.p4 I N t],.b [o],.b [.t6 n],.b [.t6 c],.b [.t6 x],.b [.t6 n]]
def tuT:List (Option SV):=ag 48 [(2,.r5 0),(6,.r5 1),(7,.r5 2),(8,.r5 3),(29,.fn (.func 146) [] [.r5 4,.r5 5])]
def Wx(l:Nat):Lp:=IA (aJ 6 tuB) tuT l
def Gn(N:Nat)(t:Nat->aE)(n x c:Int)(o:SV)(l:Nat)(r:List Blk):List Blk:=tuH N t n x c o++[.g (E (Wx l))]++r
def En(N:Nat)(t:Nat->aE)(n x c:Int)(o:SV)(l:Nat)(r:List Blk)(p:Int):St:=⟨ag 17 [(0,.fn (.yield l) [] []),(2,.r5 5),(4,.t6 p)],Gn N t n x c o l r,Z⟩
abbrev dx:SV:=.nl (.slice Y 0 0)
def aBc N(t:Nat->aE)(i:Int):(aV Q (Q8 I Z []) 60 f65 [.p4 I N t,.t6 i] []).v3=E (.bP [dx,.iface 112 (.t6 3)],aa Z (aa Z ((cX N λi=>ah (aA t i))&&C (N<=71)&&bq N (ai λi=>ah (aA t i))==I))):=by kernel_rfl
def aBd N(t:Nat->aE)(i:Int):(aV Q (Q8 Z I []) 60 f65 [.p4 I N t,.t6 i] []).v3=E (.bP [dx,.iface 112 (.t6 9)],aa (aa Z (aa Z ((cX N λi=>ah (aA t i))&&C (N<=71)&&bq N (ai λi=>ah (aA t i))==Z))) (aa Z ((cX N λi=>ah (aA t i))&&lO N (ai λi=>ah (aA t i)) i==I))):=by kernel_rfl
def Wy N(t:Nat->aE)(i:Int):aD (az [2,6,7,8,29] 6 ((bh Q (Q8 Z Z []) 60 0 6 (aH tuB) ⟨aU f65.ntmps [.p4 I N t,.t6 i],[],Z⟩).x3))=(E (.normal,tuT,tuH N t (aY N) (i64.wrap (2*i)) (i64.wrap (2*i)) dx),(aa (aa Z (aa Z ((cX N λi=>ah (aA t i))&&C (N<=71)&&bq N (ai λi=>ah (aA t i))==Z))) (aa Z ((cX N λi=>ah (aA t i))&&lO N (ai λi=>ah (aA t i)) i==Z)))):=by kernel_rfl
def aBe N t i:=bu (Wy N t i)
def atl N t i:=bz (Wy N t i)
def Wz N(t:Nat->aE)(n x c:Int) l:aD (az [0,2,4] 7 ((bh Q (Q8 Z Z []) 60 7 1 (aH HS) ⟨aU f146.ntmps [.fn (.yield l) [] [],.r5 4,.r5 5],Gn N t n x c dx l [],Z⟩).x3))=(E (.normal,(En N t n x c dx l [] (iP x n)).t,(En N t n x c dx l [] (iP x n)).h),(aa Z (aa Z (bf x n)))):=by kernel_rfl
def WA N(t:Nat->aE)(n x c:Int) l m cc ex T(p:Int):aD (az [0,2,4] 8 (exec Q (Q8 Z Z [(9,Z),(38,I)]) 60 7 (aj (aj (aJ 1 HS))) (En N t n x c (.b9 7 3 m cc ex) l [.b [.aF 3 m (gX T)]] p)))=(E (.normal,(En N t n x c dx l [] (iP p n)).t,Gn N t n x p (.b9 7 3 m cc ex) l [.b [.aF 3 m (gX T)]]),(aa (aa (aa Z (C (p>=0))) (aa (aa (aa (aa (aa (C ((Wx l).l=l)) (C ((Wx l).l=l))) (aa Z (bf c n))) (aa Z ((cX N λi=>ah (aA t i))&&C (N<=71)))) !C ((A (ym N (ai λi=>ah (aA t i)) (di c n)):Int)>0)) (C (l=l)))) (aa Z (bf p n)))):=by kernel_rfl
def WB N(t:Nat->aE)(n x c:Int) l m cc T(p:Int):aD (az [0,2,4] 8 (exec Q (Q8 Z Z [(9,Z),(38,Z)] Z) 60 7 (aj (aj (aJ 1 HS))) (En N t n x c (.b9 7 3 m (cc+1) Z) l [.b [.aF 3 m (gX T)]] p)))=(E (.normal,(En N t n x c dx l [] (iP p n)).t,Gn N t n x p (.b9 7 3 (m+1) (cc+1) Z) l [.b [.aF 3 (m+1) λk=>bF (Nat.ble (k+1) m) (gX T k) [.t6 p,.t6 c,.t6 (di c n)]]]),(aa (aa (aa Z (C (p>=0))) (aa (aa (aa (aa (aa (aa (C ((Wx l).l=l)) (C ((Wx l).l=l))) (aa Z (bf c n))) (aa Z ((cX N λi=>ah (aA t i))&&C (N<=71)))) (C ((A (ym N (ai λi=>ah (aA t i)) (di c n)):Int)>0))) (aa (aa Z (C (m<=m))) (C (m+1<=cc+1)))) (C (l=l)))) (aa Z (bf p n)))):=by kernel_rfl
def aBh N t n x c l m cc T p:=bu (WB N t n x c l m cc T p)
def ato N t n x c l m cc T p:=bz (WB N t n x c l m cc T p)
def WC N(t:Nat->aE)(n x c:Int) l m cc T(p:Int):aD (az [0,2,4] 10 (exec Q (Q8 Z Z [(9,Z),(38,Z)] I) 60 7 (aj (aj (aJ 1 HS))) (En N t n x c (.b9 7 3 m (cc+1) Z) l [.b [.aF 3 m (gX T)]] p)))=(E (.normal,(En N t n x c dx l [] (iP p n)).t,Gn N t n x p (.b9 9 3 (m+1) (m+1) I) l [.b [.aF 3 m (gX T)],.b [.t6 p,.t6 c,.t6 (di c n)],.b [.aF 3 (m+1) λk=>bF (Nat.ble (k+1) m) (gX T k) [.t6 p,.t6 c,.t6 (di c n)]]]),(aa (aa (aa Z (C (p>=0))) (aa (aa (aa (aa (aa (aa (C ((Wx l).l=l)) (C ((Wx l).l=l))) (aa Z (bf c n))) (aa Z ((cX N λi=>ah (aA t i))&&C (N<=71)))) (C ((A (ym N (ai λi=>ah (aA t i)) (di c n)):Int)>0))) (aa (aa Z (C (m<=m))) (aa (C (cc+1<m+1)) (C (m+1<=2^38))))) (C (l=l)))) (aa Z (bf p n)))):=by kernel_rfl
def aBi N t n x c l m cc T p:=bu (WC N t n x c l m cc T p)
def atp N t n x c l m cc T p:=bz (WC N t n x c l m cc T p)
def WD N(t:Nat->aE)(n x c:Int) l T(p:Int):aD (az [0,2,4] 10 (exec Q (Q8 Z Z [(9,Z),(38,Z)] I) 60 7 (aj (aj (aJ 1 HS))) (En N t n x c (.b9 7 3 0 0 Z) l [.b [.aF 3 0 (gX T)]] p)))=(E (.normal,(En N t n x c dx l [] (iP p n)).t,Gn N t n x p (.sl 9 0 0 3 1 1 I Z) l [.b [.aF 3 0 (gX T)],.b [.t6 p,.t6 c,.t6 (di c n)],.b [.t6 p,.t6 c,.t6 (di c n)]]),(aa (aa (aa Z (C (p>=0))) (aa (aa (aa (aa (aa (C ((Wx l).l=l)) (C ((Wx l).l=l))) (aa Z (bf c n))) (aa Z ((cX N λi=>ah (aA t i))&&C (N<=71)))) (C ((A (ym N (ai λi=>ah (aA t i)) (di c n)):Int)>0))) (C (l=l)))) (aa Z (bf p n)))):=by kernel_rfl
def WE N(t:Nat->aE)(n x c:Int) l m cc ex T(p:Int):aD (az [0,2,4] 8 (exec Q (Q8 Z Z [(9,I)]) 60 7 (aj (aj (aJ 1 HS))) (En N t n x c (.b9 7 3 m cc ex) l [.b [.aF 3 m (gX T)]] p)))=(E (.exit 0,(En N t n x c dx l [] p).t,Gn N t n x c (.b9 7 3 m cc ex) l [.b [.aF 3 m (gX T)]]),(aa Z !C (p>=0))):=by kernel_rfl
def DU(m:Nat)(T:Nat->Int×Int×Int)(w:Int×Int×Int):Nat->Int×Int×Int:=λk=>bif Nat.ble (k+1) m then T k else w
def Md(m:Nat) T p c s:(λk=>bF (Nat.ble (k+1) m) (gX T k) [.t6 p,.t6 c,.t6 s])=gX (DU m T (p,c,s)):=by funext k;simp only[DU,gX];cases Nat.ble (k+1) m<;>rfl
def P3(N:Nat)(t:Nat->aE)(n x:Int)(k:Nat):Bool:=C ((A (ym N t (di (e8 n x k) n)):Int)>0)
def c6(N:Nat)(t:Nat->aE)(n x:Int):Nat->Nat×(Nat->Int×Int×Int)
 |0=>(0,λ_=>(0,0,0))
 |k+1=>bif P3 N t n x k then((c6 N t n x k).1+1,DU (c6 N t n x k).1 (c6 N t n x k).2 (cQ n x k,e8 n x k,di (e8 n x k) n)) else c6 N t n x k
def tuR(N:Nat)(t:Nat->aE)(n x c:Int)(l:Nat)(q:Nat×(Nat->Int×Int×Int))(p:Int):St:=En N t n x c (.b9 7 3 q.1 q.1 I) l [.b [.aF 3 q.1 (gX q.2)]] p
def fzA{e e' z len cap ex g b x}(H:∀y,VR e (.b9 0 z len cap ex) y->VR e' (.aO Z z len g) y)(c:VR e (.bP [.b9 0 z len cap ex,.nl b]) x):VR e' (.bP [.aO Z z len g,.nl b]) x:=by obtain⟨l,⟨y,j,h,⟨i,a,d,f,rfl⟩,rfl⟩,rfl⟩:=c;exact⟨_,⟨y,_,H y h,⟨i,a,d,f,rfl⟩,rfl⟩,rfl⟩
def VE.akF(b z len cap c:Nat) ex(h:c<=cap):VE (.b9 b z len cap ex) (.b9 b z len c I):=λe x j=>by
 rcases j with d|⟨p,i,a,d,e,g,m,n,f,l⟩
 ·exact .inl ⟨d.1,by omega,d.2.2⟩
 ·exact .inr ⟨p,i,a,d,e,g,af3 h m,(by simp),f,l⟩
section
variable {N m j:Nat} {t:Nat->aE}
def Mg n x p l d m1 a b ex ps T c t0(f:swT 7 9 t0=t0)(h1:t0.all (λo=>match o with|some v=>dL (t8 8) v|none=>Z)=Z):
  bG 7 ⟨t0,Gn N t n x p (.b9 9 3 a b ex) l [.b [.aF 3 d (gX T)],.b ps,.b [.aF 3 m1 (gX c)]],Z⟩ ⟨t0,Gn N t n x p (.b9 7 3 a b ex) l [.b [.aF 3 m1 (gX c)]],Z⟩:=by
 have e:=bG.Gp (k:=7) (t:=t0) (h:=Gn N t n x p (.b9 9 3 a b ex) l [.b [.aF 3 d (gX T)],.b ps,.b [.aF 3 m1 (gX c)]]) (o:=Z) (o':=Z) 7 9 (by decide) (by decide) rfl rfl rfl
 rw[f] at e
 refine e.trans (bG.dS (by decide:7<=8) ?_)
 unfold St.dS
 rw[ae8]
 ·rfl
 ·rw[No];exact⟨h1,rfl⟩
def acL(hT:eo N t)(hm:m∈bn)(hj:j<m) l{k}(hk:k<cr m):
  Tr Q Y 7 (aj (aj (aJ 1 HS))) (tuR N t m (2*(j:Int)) (e8 m (2*(j:Int)) k) l (c6 N t m (2*(j:Int)) k) (cQ m (2*(j:Int)) k)) .normal (tuR N t m (2*(j:Int)) (e8 m (2*(j:Int)) (k+1)) l (c6 N t m (2*(j:Int)) (k+1)) (cQ m (2*(j:Int)) (k+1))):=by
 have⟨B,u2,u3⟩:=sX hm hj
 rw[show((2*j:Nat):Int)=2*(j:Int) by omega] at B u2 u3
 have⟨s,p⟩:=B k hk
 have w:bf (e8 m (2*(j:Int)) k) m=Z:=by
  cases k with
  |zero=>exact u3
  |succ k=>exact(B k (by omega)).1
 have h:cX N (λi=>ah (aA t i))=Z:=bU hT
 have g:=hT.le
 have u:(ym N (ai λi=>ah (aA t i)) (di (e8 m (2*(j:Int)) k) m))=ym N t (di (e8 m (2*(j:Int)) k) m):=rfl
 have r:C ((Wx l).l=l)=Z:=Me rfl
 have hq:c6 N t m (2*(j:Int)) (k+1)=bif P3 N t m (2*(j:Int)) k then((c6 N t m (2*(j:Int)) k).1+1,DU (c6 N t m (2*(j:Int)) k).1 (c6 N t m (2*(j:Int)) k).2 (cQ m (2*(j:Int)) k,e8 m (2*(j:Int)) k,di (e8 m (2*(j:Int)) k) m)) else c6 N t m (2*(j:Int)) k:=rfl
 have x:(c6 N t m (2*(j:Int)) k).1<=2^37:=by
  have:∀i,(c6 N t m (2*(j:Int)) i).1<=i:=λi=>by
   induction i with
   |zero=>exact aar _
   |succ i ih=>
    show(bif P3 N t m (2*(j:Int)) i then _ else _:Nat×(Nat->Int×Int×Int)).1<=_
    cases P3 N t m (2*(j:Int)) i with
    |true=>exact Nat.succ_le_succ ih
    |false=>exact Nat.le_succ_of_le ih
  have h1:=this k
  have:cr m<=5:=by unfold cr;split<;>omega
  omega
 rw[hq]
 show Tr _ _ _ _ _ _ (tuR N t m (2*(j:Int)) (cQ m (2*(j:Int)) k) l _ (iP (cQ m (2*(j:Int)) k) m))
 cases d:P3 N t m (2*(j:Int)) k with
 |false=>
  unfold P3 at d
  exact Tr.i7 (lD _ _ _ _) (by decide:7<=8) (WA ..) (by
   rw[Me p,r,w,h,Me g,u,d,s,Me (Eq.refl l)];rfl)
 |true=>
  unfold P3 at d
  generalize c6 N t m (2*(j:Int)) k=q at*
  have⟨M,T⟩:=q
  refine Tr.aBm (b:=1) (pre:=[]) (len:=M) (cap:=M) rfl λcc yD=>?_
  cases cc with
  |zero=>
   obtain rfl:M=0:=by omega
   refine Tr.post (Tr.post (Tr.i7 (s':=⟨(En N t m (2*(j:Int)) 0 dx l [] (iP (cQ m (2*(j:Int)) k) m)).t,Gn N t m (2*(j:Int)) (cQ m (2*(j:Int)) k) (.sl 9 0 0 3 1 1 I Z) l [.b [.aF 3 0 (gX T)],.b [.t6 (cQ m (2*(j:Int)) k),.t6 (e8 m (2*(j:Int)) k),.t6 (di (e8 m (2*(j:Int)) k) m)],.b [.t6 (cQ m (2*(j:Int)) k),.t6 (e8 m (2*(j:Int)) k),.t6 (di (e8 m (2*(j:Int)) k) m)]],Z⟩) (lD _ _ _ _) (by decide:7<=10) (WD ..) (by
    rw[Me p,r,w,h,Me g,u,d,s,Me (Eq.refl l)];rfl)) (bG.tD (h':=Gn N t m (2*(j:Int)) (cQ m (2*(j:Int)) k) (.b9 9 3 1 1 I) l [.b [.aF 3 0 (gX T)],.b [.t6 (cQ m (2*(j:Int)) k),.t6 (e8 m (2*(j:Int)) k),.t6 (di (e8 m (2*(j:Int)) k) m)],.b [.aF 3 1 (gX (DU 0 T (cQ m (2*(j:Int)) k,e8 m (2*(j:Int)) k,di (e8 m (2*(j:Int)) k) m)))]]) (o':=Z) ?_)) (Mg m (2*(j:Int)) _ l 0 1 1 1 I _ T _ _ rfl rfl)
   exact⟨PE.refl _,⟨rfl,λe ys ⟨v,y,a,b,c⟩=>⟨v,y,VE.wV 9 3 1 1 I Z e v a,b,c⟩⟩,PE.refl _,PE.refl _,PE.refl _,PE.refl _,rfl,PE.refl _,PE.refl _,PE.one 3 rfl rfl (PE.refl _),trivial⟩
  |succ cc=>
   by_cases o:M+1<=cc+1
   ·have e:=aBh N t m (2*(j:Int)) (e8 m (2*(j:Int)) k) l M cc T (cQ m (2*(j:Int)) k)
    rw[Md] at e
    refine Tr.post (Tr.bg (lD _ _ _ _) 60 _ 8 (by decide:7<=8) (s':=⟨(En N t m (2*(j:Int)) 0 dx l [] (iP (cQ m (2*(j:Int)) k) m)).t,Gn N t m (2*(j:Int)) (cQ m (2*(j:Int)) k) (.b9 7 3 (M+1) (cc+1) Z) l [.b [.aF 3 (M+1) (gX (DU M T (cQ m (2*(j:Int)) k,e8 m (2*(j:Int)) k,di (e8 m (2*(j:Int)) k) m)))]],Z⟩) _ e (ato ..) (by
     rw[Me p,r,w,h,Me g,u,d,s,Me (Eq.refl l),Me (aar M),Me o];rfl)) (bG.tD ?_)
    exact⟨PE.refl _,⟨rfl,λe ys ⟨v,y,a,b,c⟩=>⟨v,y,VE.akF 7 3 (M+1) (cc+1) (M+1) Z o e v a,b,c⟩⟩,PE.refl _,PE.refl _,PE.refl _,PE.refl _,rfl,PE.refl _,trivial⟩
   ·have e:=aBi N t m (2*(j:Int)) (e8 m (2*(j:Int)) k) l M cc T (cQ m (2*(j:Int)) k)
    rw[Md] at e
    exact Tr.post (Tr.bg (lD _ _ _ _) 60 _ 10 (by decide:7<=10) (s':=⟨(En N t m (2*(j:Int)) 0 dx l [] (iP (cQ m (2*(j:Int)) k) m)).t,Gn N t m (2*(j:Int)) (cQ m (2*(j:Int)) k) (.b9 9 3 (M+1) (M+1) I) l [.b [.aF 3 M (gX T)],.b [.t6 (cQ m (2*(j:Int)) k),.t6 (e8 m (2*(j:Int)) k),.t6 (di (e8 m (2*(j:Int)) k) m)],.b [.aF 3 (M+1) (gX (DU M T (cQ m (2*(j:Int)) k,e8 m (2*(j:Int)) k,di (e8 m (2*(j:Int)) k) m)))]],Z⟩) _ e (atp N t m (2*(j:Int)) _ l M cc T _) (by
     rw[Me p,r,w,h,Me g,u,d,s,Me (Eq.refl l),Me (aar M),Me (by omega),Me (by have:=x;simp only at this;omega)];rfl)) (Mg m (2*(j:Int)) _ l M (M+1) (M+1) (M+1) I _ T _ _ rfl rfl)
def akG(hT:eo N t)(c:m∈bn)(d:j<m) l:
  ak Q 146 [.fn (.yield l) [] [],.r5 4,.r5 5] (Gn N t m (2*(j:Int)) (2*(j:Int)) dx l []) (.bP []) (tuR N t m (2*(j:Int)) (e8 m (2*(j:Int)) (cr m)) l (c6 N t m (2*(j:Int)) (cr m)) 0).h:=by
 have⟨u1,b,e⟩:=sX c d;rw[show((2*j:Nat):Int)=2*(j:Int) by omega] at u1 b e;refine ak.sW (h:=Gn N t m (2*(j:Int)) (2*(j:Int)) dx l []) func146 rfl 1 0 (λk=>tuR N t m (2*(j:Int)) (e8 m (2*(j:Int)) k) l (c6 N t m (2*(j:Int)) k) (cQ m (2*(j:Int)) k)) (cr m)
  (λy s' g=>TrL.i6 (lD _ _ _ _) (aar 7) (Wz ..) (by rw[e];rfl) (by decide) rfl (TrL.pre g (bG.acK 1 rfl 3 (gX λ_=>(0,0,0)) I) (by intro q;cases q))) (by decide) rfl
  (λk hk=>acL hT c d l hk) (sE:=tuR N t m (2*(j:Int)) (e8 m (2*(j:Int)) (cr m)) l (c6 N t m (2*(j:Int)) (cr m)) (cQ m (2*(j:Int)) (cr m))) (s':=tuR N t m (2*(j:Int)) (e8 m (2*(j:Int)) (cr m)) l (c6 N t m (2*(j:Int)) (cr m)) (cQ m (2*(j:Int)) (cr m))) (x:=.normal) (v:=[]) ?_ ⟨rfl,rfl⟩ (.inr rfl) rfl
 exact Tr.i7 (lD _ _ _ _) (by decide:7<=8) (WE ..) (by rw[b];rfl)
def WG(c:eo N t)(r:bq N t=Z)(o:lO N t j=Z)(g:m∈bn)(q:j<m)(a:aY N=m):
  ak Q 65 [.p4 I N t,.t6 j] [] (.bP [.aO Z 3 (c6 N t m (2*(j:Int)) (cr m)).1 (gX (c6 N t m (2*(j:Int)) (cr m)).2),.nl .nilIface]) []:=by
 have hs:=cn g
 have d:cX N (λi=>ah (aA t i))=Z:=bU c
 have n:(ai λi=>ah (aA t i))=t:=rfl
 have e:=aBe N t j
 rw[a,dU (by omega) (by omega)] at e
 refine ak.uR (v:=.bP [.b9 0 3 (c6 N t m (2*(j:Int)) (cr m)).1 (c6 N t m (2*(j:Int)) (cr m)).1 I,.nl .nilIface]) (aar _) (λe e' x _ _ H a=>fzA H a) ?_
 refine ak.yY (v:=.bP [.b9 7 3 (c6 N t m (2*(j:Int)) (cr m)).1 (c6 N t m (2*(j:Int)) (cr m)).1 I,.nl .nilIface]) (h1:=tuH N t m (2*(j:Int)) (e8 m (2*(j:Int)) (cr m)) (.b9 7 3 (c6 N t m (2*(j:Int)) (cr m)).1 (c6 N t m (2*(j:Int)) (cr m)).1 I)++[.gap,.b [.aF 3 (c6 N t m (2*(j:Int)) (cr m)).1 (gX (c6 N t m (2*(j:Int)) (cr m)).2)]]) [7] ?_ rfl
 refine ak.rest (lD Z Z [] I) 60 7 func65 rfl (λs' y h=>?_) (s:=⟨tuT,tuH N t m (2*(j:Int)) (e8 m (2*(j:Int)) (cr m)) (.b9 7 3 (c6 N t m (2*(j:Int)) (cr m)).1 (c6 N t m (2*(j:Int)) (cr m)).1 I)++[.gap,.b [.aF 3 (c6 N t m (2*(j:Int)) (cr m)).1 (gX (c6 N t m (2*(j:Int)) (cr m)).2)]],Z⟩) (p:=Z) rfl rfl
 refine TrL.bY (lD Z Z [] I) 60 6 _ 6 (aaH _) (s1:=⟨tuT,tuH N t m (2*(j:Int)) (2*(j:Int)) dx,Z⟩) _ e (atl ..) (by rw[n,d,Me c.le,r,o];rfl) (by decide) rfl ?_
 refine TrL.dV 6 (by decide) ?_ h
 exact Tr.zi 1 rfl (f:=146) (first:=[]) (nM:=[.r5 4,.r5 5]) Z func146 (by decide) rfl rfl (λl=>akG c g q l)
  (λl=>⟨_,rfl,rfl,by simp[Wx,IA],rfl⟩) (λl=>rfl)
end
end Pa
end Go.Proofs.YthlnlcijnoadcaaGreatDoor
namespace Go.Sy
section
variable {P:Program}
def ak.agn{f z n g v ex a c}(k:ak P f [.aO I z n λi=>ah (g i),.t6 a,.t6 c] [] v [])(r:gU v=I)(u:mU (λb=>b+1) v=v):ak P f [.b9 0 z n n ex,.t6 a,.t6 c] [.b [.aF z n g]] v [.b [.aF z n g]]:=λB e w d hB p R=>by
 refine(sj k (t:=Z) ?_ (λ_=>⟨r,λb s=>by cases s⟩) p R (j:=1) (.inl rfl)).mono ?_
 ·simp[mL,cA,aa]
 ·rintro B y ⟨x,rfl,e2,o,l,q⟩
  rw[u] at o
  refine⟨x,rfl,e2,q.m,o,?_⟩
  have:cO [Blk.b [.aF z n g]] 1 (([]:List Blk).map (shB 1))=[.b [.aF z n g]]:=by simp[cO]
  rw[this] at l;exact l
end
end Go.Sy
namespace Go.Proofs.YthlnlcijnoadcaaGreatDoor
namespace Pa
open Sy Tr Mk
def KW:List SV->List Nat
 | .b9 b _ _ _ _::_=>[b]
 |_=>[]
def VE.ago{N g}(h:cX N g=Z):∀i,i<N->ah (g i)=aA (ai g) i:=λi a=>by rw[(rQ.1 h i a).1];rfl
def axc:aK Q:=.rdm 40 _ func40 (by decide) rfl KW (λus f=>match us,f with
 | [.b9 0 99 N M i,.int .i64 x,.int .i64 c],[.b [.aF 99 K g]]=>E (.bP [.sM (qu N (ai g) x c),.bool (v8 N (ai g) x c)],cX N g&&C (N<=71)&&C (N=M)&&C (N=K))
 |_,_=>Y) λus f v e=>by
 split at e
 ·simp only[Mf,aad,No,aac] at e;have⟨rfl,⟨⟨d,h⟩,rfl⟩,rfl⟩:=e;exact ak.agn (ak.conv (WI (eo.of d h)) ⟨VE.Sb (VE.ago d),VE.refl _,VE.refl _,trivial⟩ trivial (VE.refl _) trivial) rfl rfl
 ·cases e
def cT(N:Nat)(t:Nat->aE)(i:Int):Nat:=(c6 N t (aY N) (2*i) (cr (O (aY N)))).1
def j8(N:Nat)(t:Nat->aE)(i:Int):Nat->Int×Int×Int:=(c6 N t (aY N) (2*i) (cr (O (aY N)))).2
def iJ(N:Nat)(t:Nat->aE)(i:Int):Nat:=bif bq N t then(bif lO N t i then 0 else 2) else 1
def Bw{N}{t:Nat->aE}{i}(e:eo N t)(h:iJ N t i=0):bq N t=Z/\lO N t i=Z/\∃n j,n∈bn/\j<n/\i=(j:Int)/\aY N=(n:Int)/\N=2*n-1/\(t (2*j)).used=Z:=by
 unfold iJ at h
 cases a:bq N t with
 |false=>rw[a] at h;cases h
 |true=>
  cases b:lO N t i with
  |false=>rw[a,b] at h;cases h
  |true=>
   have⟨n,c,d,hN,_⟩:=jw e a
   have o:=cn c
   have h:=b
   unfold lO at h
   simp only[No,aac] at h
   have⟨⟨⟨f,g⟩,l⟩,h4⟩:=h
   obtain⟨j,rfl⟩:=ac7 f
   exact⟨rfl,rfl,n,j,c,by omega,rfl,d,hN,by rw[show(2*(j:Int)).toNat=2*j by omega] at h4;exact h4⟩
def P8{N}{t:Nat->aE}{i}(b:eo N t)(h:iJ N t i=0):ak Q 65 [.p4 I N t,.t6 i] [] (.bP [.aO Z 3 (cT N t i) (gX (j8 N t i)),.nl .nilIface]) []:=by obtain⟨f,c,n,j,d,e,rfl,a,hN,_⟩:=Bw b h;have g:=WG b f c d e a;unfold cT j8;rw[a,aaq];exact g
def P9{N}{t:Nat->aE}{i}(a:eo N t)(h:iJ N t i=1):ak Q 65 [.p4 I N t,.t6 i] [] (.bP [dx,.iface 112 (.t6 3)]) []:=by
 have c:bq N t=I:=by
  unfold iJ at h
  cases q:bq N t with
  |false=>rfl
  |true=>rw[q] at h;cases b:lO N t i<;>rw[b] at h<;>cases h
 exact aP (lD _ _ _ _) 60 func65 (aBc N t i) (by rw[show cX N (λi=>ah (aA t i))=Z from bU a,Me a.le,show bq N (ai λi=>ah (aA t i))=I from c];rfl) rfl
def Qa{N}{t:Nat->aE}{i}(a:eo N t)(h:iJ N t i=2):ak Q 65 [.p4 I N t,.t6 i] [] (.bP [dx,.iface 112 (.t6 9)]) []:=by
 have b:bq N t=Z/\lO N t i=I:=by
  unfold iJ at h
  cases q:bq N t with
  |false=>rw[q] at h;cases h
  |true=>
   rw[q] at h
   cases c:lO N t i with
   |false=>exact⟨rfl,rfl⟩
   |true=>rw[c] at h;cases h
 exact aP (lD _ _ _ _) 60 func65 (aBd N t i) (by rw[show cX N (λi=>ah (aA t i))=Z from bU a,Me a.le,show bq N (ai λi=>ah (aA t i))=Z from b.1,show lO N (ai λi=>ah (aA t i)) i=I from b.2];rfl) rfl
def y6(b:Nat):aK Q:=.val 65 _ func65 (by decide) rfl Z 0 (λvs=>match vs with
 | [.aO I 99 N g,.int .i64 i]=>match b with
  |0=>E (.bP [.aO Z 3 (cT N (ai g) i) (gX (j8 N (ai g) i)),.nl .nilIface],[],cX N g&&C (N<=71)&&(iJ N (ai g) i==0))
  |1=>E (.bP [dx,.iface 112 (.t6 3)],[],cX N g&&C (N<=71)&&(iJ N (ai g) i==1))
  |_=>E (.bP [dx,.iface 112 (.t6 9)],[],cX N g&&C (N<=71)&&(iJ N (ai g) i==2))
 |_=>Y) λvs v new e=>by
 split at e
 ·split at e
  ·simp only[Mf,aad,No,aac,afP] at e
   have⟨rfl,rfl,⟨c,d⟩,f⟩:=e
   exact ak.conv (P8 (eo.of c d) f) ⟨VE.kM c,VE.refl _,trivial⟩ trivial (VE.refl _) trivial
  ·simp only[Mf,aad,No,aac,afP] at e
   have⟨rfl,rfl,⟨c,d⟩,f⟩:=e
   exact ak.conv (P9 (eo.of c d) f) ⟨VE.kM c,VE.refl _,trivial⟩ trivial (VE.refl _) trivial
  ·simp only[Mf,aad,No,aac,afP] at e
   have⟨rfl,rfl,⟨c,d⟩,f⟩:=e
   exact ak.conv (Qa (eo.of c d) f) ⟨VE.kM c,VE.refl _,trivial⟩ trivial (VE.refl _) trivial
 ·cases e
def Ky(k p:pD):List SV:=[.bool Z,.t6 0,.t5 k,.t5 (t9 32 0),.t5 p,.nl (.slice Y 0 0)]
def eI(a:Nat->pD):Nat->List SV:=λk=>[.t5 (a k)]
def reB:Code:=aI f69
def reT(i:Int)(M K:Nat)(T:Nat->Int×Int×Int)(a:Nat->pD):List (Option SV):=ag 76 [(1,.t6 i),(2,.aO I 3 M (gX T)),(4,.aO I 32 K (eI a)),(8,.r5 0),(11,.r5 2),(22,.fn (.func 146) [] [.r5 3,.r5 4])]
def reL(i:Int)(M K:Nat)(T:Nat->Int×Int×Int)(a:Nat->pD)(l:Nat):Lp:=IA (aJ 3 reB) (reT i M K T a) l
def lf1(t:Nat->aE)(X:Nat)(a:pD):Nat->List SV:=λj=>bF (Nat.beq j X) [.bool (t X).used,.t6 (t X).name,.t5 a,.t5 (t X).bH,.t5 (t X).cF,.ro I .i64 (t X).un] (aA t j)
def lf2(t:Nat->aE)(X:Nat)(a b:pD):Nat->List SV:=λj=>bF (Nat.beq j X) ((lf1 t X a X).take 4++ .t5 b::(lf1 t X a X).drop 5) (lf1 t X a j)
end Pa
namespace Pa
open Sy Tr S2 Mk
structure KT(T:Nat->Int×Int×Int)(M n j:Nat):Prop where
 way:∀k,k<M->∃a,a<cr n/\T k=(cQ n (2*(j:Int)) a,e8 n (2*(j:Int)) a,di (e8 n (2*(j:Int)) a) n)
 inj:∀k,k<M->∀k',k'<M->(T k).1.toNat=(T k').1.toNat->k=k'
def Wl{N n j t}(p:n∈bn)(o:j<n):∀i,i<=cr n->(c6 N t n (2*(j:Int)) i).1<=i/\(∀k,k<(c6 N t n (2*(j:Int)) i).1->∃a,a<i/\(c6 N t n (2*(j:Int)) i).2 k=(cQ n (2*(j:Int)) a,e8 n (2*(j:Int)) a,di (e8 n (2*(j:Int)) a) n))/\(∀k,k<(c6 N t n (2*(j:Int)) i).1->∀k',k'<(c6 N t n (2*(j:Int)) i).1->((c6 N t n (2*(j:Int)) i).2 k).1.toNat=((c6 N t n (2*(j:Int)) i).2 k').1.toNat->k=k'):=by
 intro i
 induction i with
 |zero=>exact λ_=>⟨aar _,λk d=>absurd d (Nat.not_lt_zero _),λk d=>absurd d (Nat.not_lt_zero _)⟩
 |succ i v=>
  intro z
  have⟨l,h,m⟩:=v (by omega)
  have e:c6 N t n (2*(j:Int)) (i+1)=bif P3 N t n (2*(j:Int)) i then((c6 N t n (2*(j:Int)) i).1+1,DU (c6 N t n (2*(j:Int)) i).1 (c6 N t n (2*(j:Int)) i).2 (cQ n (2*(j:Int)) i,e8 n (2*(j:Int)) i,di (e8 n (2*(j:Int)) i) n)) else c6 N t n (2*(j:Int)) i:=rfl
  rw[e]
  cases P3 N t n (2*(j:Int)) i with
  |false=>exact⟨Nat.le_succ_of_le l,λk d=>by have⟨a,b,c⟩:=h k d;exact⟨a,by omega,c⟩,m⟩
  |true=>
   generalize c6 N t n (2*(j:Int)) i=q at*
   have⟨M,T⟩:=q
   dsimp only[_root_.cond_true] at l h m ⊢
   have f:∀k,k<M->DU M T (cQ n (2*(j:Int)) i,e8 n (2*(j:Int)) i,di (e8 n (2*(j:Int)) i) n) k=T k:=λk d=>by unfold DU;rw[acH,Me d];rfl
   have new:DU M T (cQ n (2*(j:Int)) i,e8 n (2*(j:Int)) i,di (e8 n (2*(j:Int)) i) n) M=(cQ n (2*(j:Int)) i,e8 n (2*(j:Int)) i,di (e8 n (2*(j:Int)) i) n):=by unfold DU;rw[acH,aaS (Nat.lt_irrefl M)];rfl
   have u:∀k,k<M->(T k).1.toNat≠O (cQ n (2*(j:Int)) i):=λk d q=>by
    have⟨a,y,e⟩:=h k d
    have w:=ir p o (show a<cr n by omega)
    have s:=ir p o (show i<cr n by omega)
    rw[e] at q
    exact s.ne a (by omega) (by omega) (by have:=w.nn;have:=s.nn;dsimp only at q;omega)
   refine⟨Nat.succ_le_succ l,λk d=>?_,λk d k' x q=>?_⟩
   ·rcases agP k M with g|g
    ·rw[f k g];have⟨a,b,c⟩:=h k g;exact⟨a,by omega,c⟩
    ·obtain rfl:k=M:=by omega
     exact⟨i,by omega,new⟩
   ·rcases agP k M with g|g<;>rcases agP k' M with g'|g'
    ·rw[f k g,f k' g'] at q;exact m k g k' g' q
    ·obtain rfl:k'=M:=by omega
     rw[f k g,new] at q;exact absurd q (u k g)
    ·obtain rfl:k=M:=by omega
     rw[f k' g',new] at q;exact absurd q.symm (u k' g')
    ·omega
def Wm n:cr n<=5:=by unfold cr;split<;>omega
def RE{N n j:Nat}{t}(b:n∈bn)(a:j<n)(d:aY N=n):KT (j8 N t j) (cT N t j) n j/\cT N t j<=5:=by obtain⟨f,e,c⟩:=Wl b a (cr n) (aar _);have:=Wm n;unfold j8 cT;rw[d,aaq];exact⟨⟨e,c⟩,by omega⟩
def bK(B:Nat->aE)(T:Nat->Int×Int×Int)(f:Nat->aE):Nat->Nat->aE
 |0=>B
 |s+1=>fO (bK B T f s) (T s).1.toNat (f s)
section
variable {B:Nat->aE} {T:Nat->Int×Int×Int} {f g:Nat->aE}
def jg:∀{M},(∀k,k<M->f k=g k)->bK B T f M=bK B T g M
 |0,_=>rfl
 |M+1,h=>by unfold bK;rw[jg λk a=>h k (by omega),h M (by omega)]
def P4 t{x y}(h:x≠y) v w:fO (fO t x v) y w=fO (fO t y w) x v:=by
 funext i;unfold fO;by_cases a:i=x
 ·subst a;rw[ae8 rfl,acB h,ae8 rfl]
 ·rw[acB a,acB a]
def B7 t x v w:fO (fO t x v) x w=fO t x w:=by
 funext i;unfold fO;by_cases a:i=x
 ·rw[ae8 a,ae8 a]
 ·rw[acB a,acB a,acB a]
def AI:∀{M k},k<M->(∀a,a<M->∀b,b<M->(T a).1.toNat=(T b).1.toNat->a=b)->(v:aE)->fO (bK B T f M) (T k).1.toNat v=bK B T (λi=>if i=k then v else f i) M
 |M+1,k,h,c,v=>by
  unfold bK;rcases agP k M with g|g
  ·rw[P4 _ (λq=>by have:=c M (by omega) k (by omega) q;omega),AI g (λa d b e=>c a (by omega) b (by omega)) v,acB (by omega)]
  ·obtain rfl:k=M:=by omega
   rw[B7,ae8 rfl,jg λi c=>acB (by omega)]
def B8:∀{M},(∀k,k<M->B (T k).1.toNat=lF)->bK B T (λ_=>lF) M=B
 |0,_=>rfl
 |M+1,h=>by
  unfold bK
  rw[B8 λk a=>h k (by omega)]
  funext i
  unfold fO
  by_cases e:i=(T M).1.toNat
  ·rw[ae8 e,e,h M (by omega)]
  ·rw[acB e]
def yM:∀{M k},k<M->(∀a,a<M->∀b,b<M->(T a).1.toNat=(T b).1.toNat->a=b)->bK B T f M (T k).1.toNat=f k
 |M+1,k,h,c=>by
  unfold bK fO;rcases agP k M with g|g
  ·rw[acB (λq=>by have:=c k (by omega) M (by omega) q;omega)];exact yM g λa d b e=>c a (by omega) b (by omega)
  ·obtain rfl:k=M:=by omega
   rw[ae8 rfl]
def JA{t n j M}(c:n∈bn)(b:j<n)(h:PW t B n j)(i:KT T M n j)(d:∀k,k<M->NU (f k)):∀s,s<=M->PW t (bK B T f s) n j
 |0,_=>h
 |s+1,m=>by obtain⟨a,l,e⟩:=i.way s (by omega);unfold bK;rw[e];exact(JA c b h i d s (by omega)).upd c b l (d s (by omega))
end
def xd(t:Nat->aE)(T:Nat->Int×Int×Int)(a:Nat->pD)(M:Nat):Nat->pD
 |0=>Mk.cG
 |s+1=>JB t (a (M-1-s)) (xd t T a M s) (T (M-1-s)).2.2
def P5 xs:uE (cI xs):=⟨mo _,rT _⟩
def Ic t(T:Nat->Int×Int×Int) ks M:∀s,uE (xd t T ks M s)
 |0=>Mc
 |s+1=>by unfold xd JB;exact P5 _
def stF(t:Nat->aE)(T:Nat->Int×Int×Int)(a:Nat->pD)(M s:Nat):Nat->aE:=λk=>if M-s<=k then fresh (a k) (xd t T a M (M-1-k)) else lF
def P6(t:Nat->aE)(n j M:Nat)(T:Nat->Int×Int×Int)(a:Nat->pD)(s:Nat):Nat->aE:=bK (cH t n (2*(j:Int)) (cr n)) T (stF t T a M s) M
def rnW(t:Nat->aE)(n j M:Nat)(T:Nat->Int×Int×Int)(b:Nat->pD)(a:pD):Nat->aE:=fO (P6 t n j M T b M) (2*j) {t (2*j) with key:=a,cF:=xd t T b M M}
section
variable {N n j M:Nat} {t:Nat->aE} {T:Nat->Int×Int×Int} {ks:Nat->pD} {leaf:pD}
def akz(b:∀k,k<M->uE (ks k)) s:∀k,k<M->NU (stF t T ks M s k):=λk a=>by
 unfold stF;split
 ·exact .inr ⟨_,_,rfl,b k a,Ic ..⟩
 ·exact .inl rfl
def RF(b:n∈bn)(a:j<n)(d:KT T M n j)(c:∀k,k<M->uE (ks k))(h1:uE (t (2*j)).key)(h2:uE (t (2*j)).cF) s:PW t (P6 t n j M T ks s) n j:=
 JA b a (Gk b a h1 h2) d (akz c s) M (aar _)
def yT(h:n∈bn)(d:j<n)(l:KT T M n j):∀s,P6 t n j M T ks s (2*j)=t (2*j):=λs=>by
 unfold P6
 have c:∀m,m<=M->bK (cH t n (2*(j:Int)) (cr n)) T (stF t T ks M s) m (2*j)=t (2*j):=λm=>by
  induction m with
  |zero=>exact λ_=>pV _ λa b e=>by have:=(ir h d b).Wn;omega
  |succ m k=>
   intro o
   unfold bK fO
   have⟨a,b,e⟩:=l.way m (by omega)
   rw[acB (λq=>by rw[e] at q;have:=(ir h d b).Wn;dsimp only at q;omega)]
   exact k (by omega)
 exact c M (aar _)
def Wo t(x:Nat) k p:(λj=>bF (Nat.beq j x) (Ky k p) (aA t j))=aA (fO t x (fresh k p)):=by
 funext j
 rw[P7]
 unfold aA fO
 by_cases h:j=x
 ·rw[Me h,ae8 h];rfl
 ·rw[aaS h,acB h];rfl
def Wp t X leaf cF:lf2 t X leaf cF=aA (fO t X {t X with key:=leaf,cF:=cF}):=by
 have b:lf1 t X leaf X=({t X with key:=leaf}:aE).cells:=by unfold lf1;rw[P7,Me rfl];rfl
 funext j
 unfold lf2
 rw[b,P7]
 unfold aA fO
 by_cases h:j=X
 ·subst h;rw[b,Me rfl,ae8 rfl];rfl
 ·rw[aaS h,acB h]
  show bF I _ (lf1 t X leaf j)=_
  unfold lf1
  rw[P7,aaS h];rfl
end
end Pa
end Go.Proofs.YthlnlcijnoadcaaGreatDoor
namespace Go.Sy
section
variable {k:Nat}
def bG.uU{t h o o'} i(hi:t[i]?=E (E (.nl (.slice Y 0 0)))) z g ex:bG k ⟨t,h,o⟩ ⟨t.set i (E (.b9 (A h) z 0 0 ex)),h++[.b [.aF z 0 g]],o'⟩:=
 λB e w r _ l R=>⟨e,rfl,⟨by simpa using l.1,λj v m a c=>by
  by_cases d:i=j
  ·subst d
   rw[acg (aaR.1 hi).1] at a
   simp only[Mf] at a
   subst a
   have p:=l.2 i _ m hi c
   exact .inl ⟨rfl,rfl,Y,p⟩
  ·rw[abI d] at a
   exact l.2 j v m a c⟩,by
  have:=R.nothing (ps:=[.aF z 0 g]) (.inl rfl) (by simp[aC,kf])
  unfold cO at this
  rw[ae8 rfl] at this
  exact this⟩
end
end Go.Sy
namespace Go.Proofs.YthlnlcijnoadcaaGreatDoor
namespace Mk
open Sy Tr Wi S2
def bcC(l:List (Nat×Bool)):cu:=mk (P:=Q) [] [] (uT l)
def um l:aq Q (bcC l):=au _ aN.nil _ _
def bcB:Code:=aI f22
def bcL:Code:=aj (aj (aJ 3 bcB))
def bcN:Code:=aj (aJ 2 bcL)
def Q7(N:Nat)(t:Nat->aE)(n:Nat)(i:Int):St:=⟨ag 26 [(0,.p4 I N t),(3,.b9 0 99 n n I),(4,.t6 i)],[.b [.aF 99 n (aA t)]],Z⟩
abbrev Bo(n:aE)(v:SV):List SV:=[.bool n.used,.t6 n.name,.t5 n.key,.t5 n.bH,.t5 n.cF,v]
def ZZ(N:Nat)(t:Nat->aE)(n:Nat)(i:Int):List (Option SV):=ag 26 [(0,.p4 I N t),(3,.b9 0 99 n n I),(4,.t6 i),(5,.r5 1)]
def B9 N t:aD (az [0,3,4] 0 ((bh Q (bcC []) 60 0 3 (aH bcB) ⟨aU f22.ntmps [.p4 I N t],[],Z⟩).x3))=(E (.normal,ag 26 [(0,.p4 I N t),(3,.nl (.slice Y 0 0)),(4,.t6 0)],[]),(Z)):=by kernel_rfl
def Wr N t n(i:Int):aD (az [0,3,4] 1 ((bh Q (bcC [(9,Z)]) 60 0 2 (aH bcL) (Q7 N t n i)).x3))=(E (.normal,(Q7 N t n i).t,(Q7 N t n i).h),(aa Z (C (i<(N:Int))))):=by kernel_rfl
def Ws N t n(i:Int):aD (az [0,3,4,5] 3 ((bh Q (bcC []) 60 0 2 (aH bcN) (Q7 N t n i)).x3))=(E (.normal,ZZ N t n i,[.b [.aF 99 n (aA t)],.b (Bo (t (O i)) (.sl 2 0 0 1 (0+(t (O i)).un.length) (0+(t (O i)).un.length) I Z)),.b [.af .i64 (0+(t (O i)).un.length) (t9 0 0++(t (O i)).un)]]),(aa (aa (aa Z (bC i N)) (Z&&(C (O i<N)&&Z))) (aa Z (C (0+(t (O i)).un.length<=2^38))))):=by kernel_rfl
def aA8 N t n i:=bu (Ws N t n i)
def atf N t n i:=bz (Ws N t n i)
def Wt N t n(i:Int) m:aD (az [0,3,4] 1 (eM Q (bcC []) 60 0 ((aH bcN).drop 2) ⟨ZZ N t n i,[.b [.aF 99 n (aA t)],.b (Bo m (.ro I .i64 m.un))],Z⟩))=(E (.normal,ag 26 [(0,.p4 I N t),(3,.b9 0 99 (n+1) (n+1) I),(4,.t6 i)],[.b [.aF 99 (n+1) λj=>bF (Nat.ble (j+1) n) (aA t j) m.cells]]),(aa Z (aa (aa Z (C (n<=n))) (C (n+1<=2^38))))):=by kernel_rfl
def Wu N t n(i:Int):aD (az [0,3,4] 1 (eM Q (bcC []) 60 0 ((aH bcL).drop 3) (Q7 N t n i)))=(E (.normal,(Q7 N t n (i64.wrap (i+1))).t,(Q7 N t n i).h),(Z)):=by kernel_rfl
def aBa N t n i:=bu (Wu N t n i)
def ath N t n i:=bz (Wu N t n i)
def Gl N t n(i:Int):aD (az [3] 1 (exec Q (bcC [(9,I)]) 60 0 bcL (Q7 N t n i)))=(E (.exit 0,ag 26 [(3,.b9 0 99 n n I)],[.b [.aF 99 n (aA t)]]),(aa Z !C (i<(N:Int)))):=by kernel_rfl
def aBb N t n(i:Int) m:St.fz 2 ⟨ZZ N t n i,[.b [.aF 99 n (aA t)],.b (Bo m (.sl 2 0 0 1 (A m.un) (A m.un) I Z)),.b [.af .i64 (A m.un) m.un]],Z⟩=E (⟨ZZ N t n i,[.b [.aF 99 n (aA t)],.b (Bo m (.ro Z .i64 m.un)),.b []],Z⟩,aa (C (A m.un=A m.un)) (aa ((ZZ N t n i).all λo=>match o with|some v=>qp 2 (A m.un) v|none=>Z) (qj 2 (A m.un) [.b [.aF 99 n (aA t)],.b (Bo m (.sl 2 0 0 1 (A m.un) (A m.un) I Z)),.b [.af .i64 (A m.un) m.un]] 0))):=by kernel_rfl
def akD N t n i m:bG 0 ⟨ZZ N t n i,[.b [.aF 99 n (aA t)],.b (Bo m (.sl 2 0 0 1 (A m.un) (A m.un) I Z)),.b [.af .i64 (A m.un) m.un]],Z⟩ ⟨ZZ N t n i,[.b [.aF 99 n (aA t)],.b (Bo m (.ro I .i64 m.un))],Z⟩:=by
 have e:=aBb N t n i m
 have e2:qj 2 (A m.un) [.b [.aF 99 n (aA t)],.b (Bo m (.sl 2 0 0 1 (A m.un) (A m.un) I Z)),.b [.af .i64 (A m.un) m.un]] 0=Z:=by simp[qj,DP,qp,qk,av]
 have c:((ZZ N t n i).all λo=>match o with|some v=>qp 2 (A m.un) v|none=>Z)=Z:=by kernel_rfl
 rw[e2,c,Me rfl] at e
 refine(bG.freeze (aaH _) e).trans ?_
 refine(bG.dS (n:=2) (aaH _) (s':=⟨ZZ N t n i,[.b [.aF 99 n (aA t)],.b (Bo m (.ro Z .i64 m.un))],Z⟩) rfl).trans ?_
 exact bG.tD ⟨PE.refl _,PE.iM (ps:=[.bool m.used,.t6 m.name,.t5 m.key,.t5 m.bH,.t5 m.cF]) rfl rfl (VE.Ju Z .i64 m.un),trivial⟩
def Wv t(n:Nat):∀i,i<n+1->PE (bF (Nat.ble (i+1) n) (aA t i) (t n).cells) (aA t i):=λi b=>by
 by_cases h:i<n
 ·rw[agO (by omega)];exact PE.refl _
 ·obtain rfl:i=n:=by omega
  rw[show Nat.ble (i+1) i=I from by
   cases a:Nat.ble (i+1) i with
   |false=>rfl
   |true=>have:=aeN a;omega]
  exact PE.refl _
def Ww{N t}(hT:eo N t):ak Q 22 [.p4 I N t] [] (.b9 0 99 N N I) [.b [.aF 99 N (aA t)]]:=by
 have hle:=hT.le
 refine ak.sW func22 rfl 3 0 (λj=>Q7 N t j (j:Int)) N
  (λy s' g=>TrL.i6 (um []) (aaH _) (B9 N t) rfl (by decide) rfl (TrL.pre g (bG.uU 3 rfl 99 (aA t) I) (by intro q;cases q))) (by decide) rfl
  (λj d=>?_) (sE:=⟨ag 26 [(3,.b9 0 99 N N I)],[.b [.aF 99 N (aA t)]],Z⟩) (s':=⟨ag 26 [(2,.b9 0 99 N N I),(3,.b9 0 99 N N I),(25,.b9 0 99 N N I)],[.b [.aF 99 N (aA t)]],Z⟩) (v:=[.b9 0 99 N N I]) ?_ ?_ (.inl rfl) rfl
 ·refine Tr.eX (TrL.i6 (s1:=Q7 N t j j) (um [(9,Z)]) (aaH _) (Wr ..) (by rw[g8 d];rfl) (by decide) rfl ?_)
  refine TrL.dV 2 (by decide) (s1:=Q7 N t (j+1) (j:Int)) ?_ ?_
  ·rw[show aJ 2 (aj (aj (aJ 3 (aI f22))))=.block 1 bcN by kernel_rfl]
   refine Tr.cz (Tr.eX ?_) (by simp)
   have e:=aA8 N t j j
   have e':=atf N t j j
   rw[aaq,af8,List.replicate_zero,List.nil_append] at e
   rw[aaq,af8] at e'
   refine TrL.bY (um []) 60 2 _ 3 (aaH _) (s1:=⟨ZZ N t j j,[.b [.aF 99 j (aA t)],.b (Bo (t j) (.sl 2 0 0 1 (t j).un.length (t j).un.length I Z)),.b [.af .i64 (t j).un.length (t j).un]],Z⟩) _ e e' (by rw[bW d,Me d,Me (show(t j).un.length<=2^38 by have:=hT.un j d;omega)];rfl) (by decide) rfl ?_
   refine TrL.pre ?_ (akD N t j j (t j)) (by intro q;cases q)
   refine TrL.post (s1:=⟨ag 26 [(0,.p4 I N t),(3,.b9 0 99 (j+1) (j+1) I),(4,.t6 j)],[.b [.aF 99 (j+1) λi=>bF (Nat.ble (i+1) j) (aA t i) (t j).cells]],Z⟩) (TrL.i8 (um []) (aaH _) (Wt N t j j (t j)) (by rw[Me (aar _),Me (by omega)];rfl) (by intro q;cases q)) (bG.tD ⟨PE.aF (Wv t j),trivial⟩) (by intro q;cases q)
  ·have e:=aBa N t (j+1) j
   rw[dm (by omega)] at e
   exact TrL.qz (um []) 60 _ 1 (aaH _) (s':=Q7 N t (j+1) (j+1:Int)) _ e (ath N t (j+1) j) rfl (by intro q;cases q)
 ·exact Tr.i7 (um [(9,I)]) (aaH _) (Gl N t N N) (by rw[gV (aar _)];rfl)
 ·exact TrL.rest (um []) 60 rfl rfl
def akE:aK Q:=.val 22 _ func22 (by decide) rfl Z 1 (λvs=>match vs with
 | [.aO I 99 N g]=>E (.b9 0 99 N N I,[.b [.aF 99 N (aA (ai g))]],cX N g&&C (N<=71))
 |_=>Y) λvs v new e=>by
 split at e
 ·simp only[Mf,aad,No,aac] at e;have⟨rfl,rfl,c,d⟩:=e;exact ak.conv (Ww (eo.of c d)) ⟨VE.kM c,trivial⟩ trivial (VE.refl _) ⟨PE.refl _,trivial⟩
 ·cases e
end Mk
end Go.Proofs.YthlnlcijnoadcaaGreatDoor
namespace Go.Sy
def bG.Kh{k t h o o'} i b{z n len cap ex g}(hb:k<=b)(WJ:h[b]?=E (.b [.aF z n g]))(hi:t[i]?=E (E (.b9 b z len cap ex)))(al:len<=n)(h1:(t.set i Y).all (lA b)=Z)(h2:fD b (h.set b (.b []))=Z):
  bG k ⟨t,h,o⟩ ⟨t.set i (E (.aO Z z len g)),h.set b (.b []),o'⟩:=by
 intro B e w t' hB hl R
 have ac:=(aaR.1 WJ).1
 have ab:=(aaR.1 hi).1
 have ad:∃e',e'.m=e.m/\e'.n0=e.n0/\e'.y=e.y/\(∀j,e'.r j=if j=b then Y else e.r j)/\(∀n o,e.z n=E o->e'.z n=E o)/\
   (∀n c t J,e'.z n=E (c,t,J)->w.heap[n]?=E (.cells c t J))/\(∀n x,e'.z n=E x->e.z n=E x\/B.w.heap.size<=n)/\(∀i p,i≠b->e.r i=E p->e'.z p.n=Y)/\
   (∀y,VR e (.b9 b z len cap ex) y->VR e' (.aO Z z len g) y):=by
  rcases R.gr b _ WJ with⟨F,H⟩|⟨p,o,F,H,c,P,rfl,g3,g4,g5⟩
  ·refine⟨e,rfl,rfl,rfl,λj=>?_,λ_ _ h=>h,R.gN,λ_ _ h=>.inl h,λi p _ hi=>R.gM i p hi,λy hy=>?_⟩
   ·split
    ·rename_i q;rw[q,H]
    ·rfl
   ·rcases hy with⟨W,_,a,rfl⟩|⟨p,_,_,W,_⟩
    ·exact .inl ⟨W,a,0,rfl,λ_=>rfl⟩
    ·rw[H] at W;cases W
  ·have ae:=R.gM b p F
   have am:B.w.heap.size<=p.n:=by
    rcases R.cM b p F with q|q
    ·have:=R.kr b p q;omega
    ·exact q
   have ZR:∀m o,e.z m=E o->(if m=p.n then E (c,P,(0,0)) else e.z m)=E o:=λm o h=>by
    rw[acB (λq=>by rw[q,ae] at h;cases h)];exact h
   have⟨us,zs,W,q2,q3,q4⟩:=PR.jO.1 g5
   rw[PR] at q3
   subst q3
   rw[acj] at q4
   have af:aC [SV.aF z n g]=n*z:=by simp[aC,kf]
   rw[af] at q4 g4
   refine⟨{e with r:=λj=>if j=b then Y else e.r j,z:=λm=>if m=p.n then E (c,P,(0,0)) else e.z m},rfl,rfl,rfl,λj=>rfl,ZR,λm c' t' J N=>?_,λm x N=>?_,λi q hi D=>?_,λy hy=>?_⟩
   ·have l:(if m=p.n then E (c,P,(0,0)) else e.z m)=E (c',t',J):=N
    split at l
    ·rename_i q;cases l;rw[q];exact H
    ·exact R.gN m c' t' J l
   ·have l:(if m=p.n then E (c,P,(0,0)) else e.z m)=E x:=N
    split at l
    ·rename_i q;right;omega
    ·exact .inl l
   ·show(if q.n=p.n then _ else _)=_
    rw[acB (λh=>hi (R.inj i b q p D F h))]
    exact R.gM i q D
   ·rcases hy with⟨h1,_,a,rfl⟩|⟨p',G,a,h1,rfl,h3,h4,h5,h6,h7⟩
    ·exact .inl ⟨h1,a,0,rfl,λ_=>rfl⟩
    ·rw[F] at h1
     cases h1
     by_cases hc:G=0
     ·subst hc
      exact .inl ⟨by omega,E ⟨p.n,a,Y⟩,0,by rw[show len=0 by omega],λ_=>rfl⟩
     ·have ha:=h3 hc
      have an:=h7 hc
      refine .inr ⟨p.n,a,G,c,P,(0,0),rfl,ae8 rfl,λ_=>?_,λi hi=>?_,h6,by omega⟩
      ·show e.n0<=p.n
       have:=R.n0;have:=R.dK;omega
      ·have:=q2 i (by omega)
       rw[<-q4,Gq _ (by omega),afu] at this
       rw[ha]
       exact PR.cN (e:=⟨λ_=>Y,e.z,e.n0,[],λ_=>Y⟩) (e':=⟨λ_=>Y,λm=>if m=p.n then E (c,P,(0,0)) else e.z m,e.n0,[],λ_=>Y⟩) ZR (aar _) _ _ (λj q _ h=>by cases h) this
 have⟨e',k1,k2,k3,k4,U,k6,k7,k8,k9⟩:=ad
 have V:∀j q,j≠b->e.r j=E q->e'.r j=E q:=λj q hj D=>by rw[k4,acB hj];exact D
 have s:∀j q,e'.r j=E q->j≠b/\e.r j=E q:=λj q D=>by
  rw[k4] at D
  split at D
  ·cases D
  ·rename_i hj;exact⟨hj,D⟩
 have hk:∀j q,B.e.r j=E q->j≠b:=λj q D h=>by have:=R.kr j q D;omega
 have gt:∀i x,(h.set b (.b []))[i]?=E x->(i=b/\x=.b [])\/(i≠b/\h[i]?=E x):=λi x hi=>by
  by_cases q:b=i
  ·subst q
   rw[acg ac] at hi
   cases hi;exact .inl ⟨rfl,rfl⟩
  ·rw[abI q] at hi
   exact .inr ⟨λc=>q c.symm,hi⟩
 have Px:∀i x,i≠b->h[i]?=E x->(match x with| .b ps=>!eY b ps| .g (E L)=>L.t.all (lA b)| .g Y=>Z)=Z:=λi x f hx=>by
  refine aaB.1 h2 x (ae9 (i:=i) ?_)
  rw[abI (λq=>f q.symm)];exact hx
 refine⟨e',k1,⟨by simpa using hl.1,λj v S a c=>?_⟩,?_⟩
 ·by_cases M:i=j
  ·subst M
   rw[acg ab] at a
   simp only[Mf] at a
   subst a
   exact k9 S (hl.2 i _ S hi c)
  ·rw[abI M] at a
   have u:=aaB.1 h1 (E v) (ae9 (by rw[abI M];exact a))
   exact VR.cN (e':=e') U (by rw[k2];exact aar _) v S (λa p T hp=>V a p (λq=>by subst q;simp[lA,T] at u) hp) (hl.2 j v S a c)
 ·exact{R with
   inj:=λi j p q hi hj=>R.inj i j p q (s i p hi).2 (s j q hj).2
   dom:=λi p hi=>by
    have:=R.dom i p (s i p hi).2
    simpa using this
   gM:=λi p hi=>k8 i p (s i p hi).1 (s i p hi).2
   gN:=k6
   bN:=λm x N=>by
    rcases k7 m x N with q|q
    ·exact R.bN m x q
    ·exact .inr q
   fU:=λg K xs hg=>(R.fU g K xs hg).imp λc ⟨t,J,h1,h2⟩=>⟨t,J,U _ _ h1,h2⟩
   cM:=λi p hi=>R.cM i p (s i p hi).2
   b6:=λi p hi=>V i p (hk i p hi) (R.b6 i p hi)
   cE:=λm x N=>U m x (R.cE m x N)
   n0:=by rw[k2];exact R.n0
   gr:=λi ps hi=>by
    rcases gt i _ hi with⟨rfl,q⟩|⟨f,Q⟩
    ·cases q;exact .inl ⟨rfl,by rw[k4,ae8 rfl]⟩
    ·have u:=Px i _ f Q
     rcases R.gr i ps Q with⟨F,H⟩|⟨p,o,F,H,c,t,rfl,g3,g4,g5⟩
     ·exact .inl ⟨F,by rw[k4,acB f];exact H⟩
     ·exact .inr ⟨p,_,V i p f F,H,c,t,rfl,g3,g4,PR.cN (e:=e) (e':=e') U (by rw[k2];exact aar _) _ _ (λa p T hp=>V a p (λq=>by subst q;simp[T] at u) hp) g5⟩
   gap:=λi g hi=>by
    rcases gt i _ hi with⟨_,q⟩|⟨f,Q⟩
    ·cases q
    ·have u:=Px i _ f Q
     refine⟨by rw[k4,acB f];exact(R.gap i _ Q).1,(R.gap i _ Q).2.jy (λ_ _ h=>h) (by rw[k3]) λL hL v S hv Ii=>?_⟩
     subst hL
     have:=aaB.1 u (E v) hv
     exact VR.cN (e:=e) (e':=e') U (by rw[k2];exact aar _) v S (λj p T hp=>V j p (λq=>by subst q;simp[lA,T] at this) hp) Ii
   yi:=by rw[k3];exact R.yi
   yb:=by rw[k3];exact R.yb
   iT:=by have:=R.iT;simpa using this
   g7:=by rw[k1];exact R.g7
   jG:=by rw[k1];exact R.jG}
end Go.Sy
namespace Go.Proofs.YthlnlcijnoadcaaGreatDoor
namespace Pa
open Sy Tr Mk
def EK(g:Nat->List SV):Nat->Int×Int×Int:=λk=>match g k with
 | [.int _ a,.int _ b,.int _ c]=>(a,b,c)
 |_=>(0,0,0)
def unK(g:Nat->List SV):Nat->pD:=λk=>match g k with
 | .af _ _ l::_=>l
 |_=>[]
def kyB(n:Nat)(a:Nat->pD):Bool:=(t8 n).all λk=>C (A (a k)=32)&&(a k).all λz=>C (0<=z)&&C (z<256)
def Kl{n ks}(h:kyB n ks=Z):∀k,k<n->uE (ks k):=λk a=>by have:=aaB.1 h k (aaI.2 a);simp only[No,aac,aaB] at this;exact this
def rnV(N:Nat)(t:Nat->aE)(i:Int)(b:Nat->pD)(a:pD):Nat->aE:=rnW t (O (aY N)) (O i) (cT N t i) (j8 N t i) b a
def Ew{N t}(b:eo N t)(a:oJ N t=Z){x}(c:x<N):uE (t x).key/\uE (t x).cF:=by have:=DT b a x c;exact⟨this.key,this.cF⟩
attribute [local instance low] Classical.propDecidable
section
variable {N:Nat} {t:Nat->aE} {i:Int} {u:Bool} {nm:Int} {k sg p un:pD} {S:Nat} {ks:Nat->pD} {sv:Nat->Nat}
end
end Pa
namespace Pa
open Sy Tr Mk
def akH:cu:=mk [Gr,mQ] []
def Mh:aq Q akH:=au _ aN.nil _ _
def akI:Option (SV×List Blk×Bool)->Option pD
 |some (.nl (.slice Y 0 0),[],Z)=>E []
 |some (.sl b o i z n c e g,h,Z)=>match ajF [b] (.sl b o i z n c e g) h with
  |some (.sl 0 0 0 1 d f _ _,[.b [.af .i64 m a]])=>bif Nat.beq m (A a)&&Nat.beq d m&&Nat.beq f m then E a else Y
  |_=>Y
 |_=>Y
def gm(n x:Int)(k:Nat):pD:=(t8 k).map (cQ n x)
def att:∀l,SA l l
 | []=>trivial
 |_::l=>⟨VE.refl _,att l⟩
def acM{C}(hC:aq Q C){f fn}(p:prog.funcs[f]?=E fn){args l n}(y:fn.body.isSome=Z)(h:akI (aV Q C n fn args [])=E l):ak Q f args [] (.ro Z .i64 l) []:=by
 unfold akI at h
 split at h
 ·rename_i e
  cases h
  exact ak.conv (ak.bZ hC p e) (att args) trivial (VE.xV Z .i64) trivial
 ·rename_i b o i z m c w x v e
  split at h
  ·rename_i q s t r k u e2
   cases a:Nat.beq k (A u)&&Nat.beq q k&&Nat.beq s k with
   |false=>rw[a] at h;cases h
   |true=>
    rw[a] at h
    cases h
    simp only[No] at a
    have⟨⟨g,j⟩,d⟩:=a
    have g:=acr g
    have j:=acr j
    have d:=acr d
    subst j;subst d
    exact ak.sn (ak.yY [b] (ak.bZ hC p e) e2) g.symm
  ·cases h
 ·cases h
theorem WK:(bn.all λn=>(t8 (2*n-1)).all λx=>E9 (di x n) (aV Q akH 60 f97 [.t6 x,.t6 n] []))=Z:=by kernel_rfl
def acN{x n}(h:bf x n=Z):ak Q 97 [.t6 x,.t6 n] [] (.t6 (di x n)) []:=by obtain⟨m,a,y,rfl,rfl,b⟩:=fW h;have h:=aaB.1 (aaB.1 WK m a) y (aaI.2 b);exact aP Mh 60 func97 (yN h) rfl rfl
theorem Qb:(bn.all λn=>(t8 n).all λx=>decide (akI (aV Q akH 60 f96 [.t6 ((2*x:Nat):Int),.t6 n] [])=some (gm n ((2*x:Nat):Int) (cr n))))=true:=by kernel_rfl
def WL{n j}(a:n∈bn)(b:j<n):ak Q 96 [.t6 ((2*j:Nat):Int),.t6 n] [] (.ro Z .i64 (gm n ((2*j:Nat):Int) (cr n))) []:=
 acM Mh func96 rfl (agm (aaB.1 (aaB.1 Qb n a) j (aaI.2 b)))
def atu:aK Q:=.val 97 _ func97 (by decide) rfl I 0 (λvs=>match vs with
 | [.int .i64 x,.int .i64 n]=>E (.t6 (di x n),[],bf x n)
 |_=>Y) λvs v new e=>by
 split at e
 ·simp only[Mf,aad] at e;have⟨rfl,rfl,h⟩:=e;exact acN h
 ·cases e
def lfQ(x n:Int):Bool:=bn.any λm=>C (n=m)&&C (0<=x)&&C (x<2*m)&&C (O x%2=0)
def acO{x n}(h:lfQ x n=Z):∃m∈bn,∃j,n=(m:Int)/\x=((2*j:Nat):Int)/\j<m:=by have⟨m,a,h⟩:=afJ.1 h;simp only[No,aac] at h;exact⟨m,a,O x/2,by omega,by omega,by omega⟩
def WM{n j}(b:n∈bn)(c:j<n):lfQ ((2*j:Nat):Int) n=Z:=afJ.2 ⟨n,b,by simp only[No,aac];exact⟨⟨⟨trivial,by omega⟩,by omega⟩,by omega⟩⟩
def WN:aK Q:=.val 96 _ func96 (by decide) rfl I 0 (λvs=>match vs with
 | [.int .i64 x,.int .i64 n]=>E (.ro Z .i64 (gm n x (cr (O n))),[],lfQ x n)
 |_=>Y) λvs v new e=>by
 split at e
 ·simp only[Mf,aad] at e
  have⟨rfl,rfl,h⟩:=e
  obtain⟨m,b,j,rfl,rfl,a⟩:=acO h
  rw[aaq]
  exact WL b a
 ·cases e
def aBn N t i:(aV Q (A6 [(7,I),(11,I),(18,I)]) 60 f95 [.p4 I N t,.t6 i] []).v3=E (.bool I,aa Z !C (i>=0)):=by kernel_rfl
def aBo N t i:(aV Q (A6 [(7,Z),(11,I),(18,I)]) 60 f95 [.p4 I N t,.t6 i] []).v3=E (.bool I,aa (aa Z (C (i>=0))) !C (i<32)):=by kernel_rfl
def aBp N t i:(aV Q (A6 [(7,Z),(11,Z),(18,I)]) 60 f95 [.p4 I N t,.t6 i] []).v3=E (.bool I,aa (aa (aa Z (C (i>=0))) (C (i<32))) !C (i64.wrap (2*i)<(N:Int))):=by kernel_rfl
def aBq N t i:(aV Q (A6 [(7,Z),(11,Z),(18,Z)]) 60 f95 [.p4 I N t,.t6 i] []).v3=E (.bool (t (O (i64.wrap (2*i)))).used,aa (aa (aa (aa (aa Z (C (i>=0))) (C (i<32))) (C (i64.wrap (2*i)<(N:Int)))) (bC (i64.wrap (2*i)) N)) (Z&&(C (O (i64.wrap (2*i))<N)&&Z))):=by kernel_rfl
def AJ{N t i}:ak Q 95 [.p4 I N t,.t6 i] [] (.bool (lO N t i)) []:=by
 unfold lO
 by_cases a:i>=0
 ·by_cases b:i<32
  ·have w:i64.wrap (2*i)=2*i:=dU (by omega) (by omega)
   by_cases c:2*i<(N:Int)
   ·have e:=aBq N t i
    rw[w] at e
    rw[Me a,Me b,Me c,af0,af0,af0]
    refine aP (fS _) 60 func95 e ?_ rfl
    obtain⟨y,rfl⟩:=ac7 a
    rw[Me a,Me b,Me c,show 2*(y:Int)=((2*y:Nat):Int) by omega,bW (by omega),aaq,Me (by omega)]
    rfl
   ·rw[aaS c,ag8,ahm]
    exact aP (fS _) 60 func95 (aBp N t i) (by rw[w,Me a,Me b,aaS c];rfl) rfl
  ·rw[aaS b,ag8,ahm,ahm]
   exact aP (fS _) 60 func95 (aBo N t i) (by rw[Me a,aaS b];rfl) rfl
 ·rw[aaS a]
  exact aP (fS _) 60 func95 (aBn N t i) (by rw[aaS a];rfl) rfl
def CV(b:Bool):aK Q:=.val 95 _ func95 (by decide) rfl Z 0 (λvs=>match vs with
 | [.aO I 99 N g,.int .i64 i]=>E (.bool b,[],cX N g&&(lO N (ai g) i==b))
 |_=>Y) λvs v new e=>by
 split at e
 ·simp only[Mf,aad,No,afP] at e
  have⟨rfl,rfl,c,d⟩:=e
  rw[<-d]
  exact ak.conv AJ ⟨VE.kM c,VE.refl _,trivial⟩ trivial (VE.refl _) trivial
 ·cases e
def rwC(g u:Bool)(l:List (Nat×Bool)):cu:=mk [aoZ g,CV u,uV,WN,atu,agp 8 (Gs 8)] [] (uT l)
def uo(g u:Bool) l:aq Q (rwC g u l):=au _ aN.nil _ _
def rwB:Code:=aI f54
def kZ(f:Int×Int×Int->Int)(q:Nat×(Nat->Int×Int×Int)):pD:=(t8 q.1).map λk=>f (q.2 k)
def WO(N:Nat)(t:Nat->aE)(n c:Int)(pl:pD)(m:Nat)(a b d:pD)(k:Int):St:=⟨ag 67 [(0,.p4 I N t),(8,.t6 n),(9,.sl 0 0 0 1 m m I Z),(10,.sl 1 0 0 1 m m I Z),(11,.sl 2 0 0 1 m m I Z),(12,.t6 c),(13,.ro Z .i64 pl),(14,.t6 k)],[.b [.af .i64 m a],.b [.af .i64 m b],.b [.af .i64 m d]],Z⟩
abbrev acP(n:Int):SV:=.bP [dx,dx,dx,.t6 n]
def aBr N t i:(aV Q (rwC I Z []) 60 f54 [.p4 I N t,.t6 i] []).v3=E (acP 3,aa Z (aa Z ((cX N λi=>ah (aA t i))&&C (N<=71)&&eH N (ai λi=>ah (aA t i))==I))):=by kernel_rfl
def aBs N t i:(aV Q (rwC Z I []) 60 f54 [.p4 I N t,.t6 i] []).v3=E (acP 9,aa (aa Z (aa Z ((cX N λi=>ah (aA t i))&&C (N<=71)&&eH N (ai λi=>ah (aA t i))==Z))) (aa Z ((cX N λi=>ah (aA t i))&&lO N (ai λi=>ah (aA t i)) i==I))):=by kernel_rfl
def WQ N t i:aD (az [0,8,9,10,11,12,13,14] 0 ((bh Q (rwC Z Z []) 60 0 12 (aH rwB) ⟨aU f54.ntmps [.p4 I N t,.t6 i],[],Z⟩).x3))=(E (.normal,ag 67 [(0,.p4 I N t),(8,.t6 (aY N)),(9,dx),(10,dx),(11,dx),(12,.t6 (i64.wrap (2*i))),(13,.ro Z .i64 (gm (aY N) (i64.wrap (2*i)) (cr (O (aY N))))),(14,.t6 0)],[]),(aa (aa (aa (aa Z (aa Z ((cX N λi=>ah (aA t i))&&C (N<=71)&&eH N (ai λi=>ah (aA t i))==Z))) (aa Z ((cX N λi=>ah (aA t i))&&lO N (ai λi=>ah (aA t i)) i==Z))) (aa Z (Z&&C ((N:Int)<72)))) (aa Z (lfQ (i64.wrap (2*i)) (aY (N:Int)))))):=by kernel_rfl
def aBt N t i:=bu (WQ N t i)
def atw N t i:=bz (WQ N t i)
def WR N t n c pl m a b d k:aD (az [0,8,9,10,11,12,13,14] 3 (exec Q (rwC Z Z [(34,Z),(44,I)]) 60 0 (aj (aj (aJ 12 rwB))) (WO N t n c pl m a b d k)))=(E (.normal,(WO N t n (X pl (O k) 0) pl m a b d (i64.wrap (k+1))).t,(WO N t n c pl m a b d k).h),(aa (aa (aa (aa (aa (aa Z (C (k<(A pl:Int)))) (aa Z (bf c n))) (aa Z ((cX N λi=>ah (aA t i))&&C (N<=71)&&iu N (ai λi=>ah (aA t i)) (di c n) 8))) !C ((A (bE (ai λi=>ah (aA t i)) (di c n)):Int)>0)) (bC k (A pl))) (C (O k<A pl)))):=by kernel_rfl
def aBu N t n c pl m a b d k:=bu (WR N t n c pl m a b d k)
def atx N t n c pl m a b d k:=bz (WR N t n c pl m a b d k)
def WS N t n c pl m a b d k:aD (az [0,8,9,10,11,12,13,14] 3 (exec Q (rwC Z Z [(34,Z),(44,Z)]) 60 0 (aj (aj (aJ 12 rwB))) (WO N t n c pl m a b d k)))=(E (.normal,(WO N t n (X pl (O k) 0) pl (m+1) a b d (i64.wrap (k+1))).t,[.b [.af .i64 (m+1) (a++[X pl (O k) 0])],.b [.af .i64 (m+1) (b++[c])],.b [.af .i64 (m+1) (d++[di c n])]]),(aa (aa (aa (aa (aa (aa (aa (aa (aa (aa (aa Z (C (k<(A pl:Int)))) (aa Z (bf c n))) (aa Z ((cX N λi=>ah (aA t i))&&C (N<=71)&&iu N (ai λi=>ah (aA t i)) (di c n) 8))) (C ((A (bE (ai λi=>ah (aA t i)) (di c n)):Int)>0))) (bC k (A pl))) (C (O k<A pl))) (aa (aa (aa Z (C (A a=m)&&(C (m<=m)&&Z))) (C (A a=m))) (C (m+1<=2^38)))) (aa (aa (aa Z (C (A b=m)&&(C (m<=m)&&Z))) (C (A b=m))) (C (m+1<=2^38)))) (aa (aa (aa Z (C (A d=m)&&(C (m<=m)&&Z))) (C (A d=m))) (C (m+1<=2^38)))) (bC k (A pl))) (C (O k<A pl)))):=by kernel_rfl
def aBv N t n c pl m a b d k:=bu (WS N t n c pl m a b d k)
def aty N t n c pl m a b d k:=bz (WS N t n c pl m a b d k)
def WT N t n c pl m a b d k:aD (az [9,10,11] 3 (exec Q (rwC Z Z [(34,I)]) 60 0 (aj (aj (aJ 12 rwB))) (WO N t n c pl m a b d k)))=(E (.exit 0,ag 67 [(9,.sl 0 0 0 1 m m I Z),(10,.sl 1 0 0 1 m m I Z),(11,.sl 2 0 0 1 m m I Z)],(WO N t n c pl m a b d k).h),(aa Z !C (k<(A pl:Int)))):=by kernel_rfl
def pW f q:A (kZ f q)=q.1:=by simp[kZ]
def JD f m T w:kZ f (m+1,DU m T w)=kZ f (m,T)++[f w]:=by
 unfold kZ
 rw[List.range_succ,List.map_append]
 congr 1
 ·refine aiw λk a=>?_
  simp only[DU,acH,Me (aaI.1 a)];rfl
 ·simp only[agr,List.map_nil,DU,acH,aaS (Nat.lt_irrefl m)];rfl
def Mi f q{k}(a:k<q.1):X (kZ f q) k 0=f (q.2 k):=by rw[dh (by rw[pW];exact a)];simp[kZ]
def su{n x m k}(h:k<m):X (gm n x m) k 0=cQ n x k:=by rw[dh (by simp[gm];exact h)];simp[gm]
def WU{f args m a b c e}(i:A a=m)(j:A b=m)(h:A c=m)(k:ak Q f args [] (.bP [.sl 0 0 0 1 m m I Z,.sl 1 0 0 1 m m I Z,.sl 2 0 0 1 m m I Z,.t6 e]) [.b [.af .i64 m a],.b [.af .i64 m b],.b [.af .i64 m c]]):ak Q f args [] (.bP [.ro Z .i64 a,.ro Z .i64 b,.ro Z .i64 c,.t6 e]) []:=by have g:=k.fz (u:=.bP [.sl 0 0 0 1 m m I Z,.sl 1 0 0 1 m m I Z,.ro Z .i64 c,.t6 e]) (h2:=[.b [.af .i64 m a],.b [.af .i64 m b]]) 2 2 (aaH _) (aaH _) rfl (by simp[qp,qj,qk,DP,av,h]);have l:=g.fz (u:=.bP [.sl 0 0 0 1 m m I Z,.ro Z .i64 b,.ro Z .i64 c,.t6 e]) 1 1 (aaH _) (aaH _) rfl (by simp[qp,qj,qk,DP,av,j]);exact l.fz 0 0 (aaH _) (aaH _) rfl (by simp[qp,qj,qk,DP,av,i])
section
variable {N n j:Nat} {t:Nat->aE}
def acQ(z:eo N t)(hg:eH N t=Z)(K:bq N t=Z)(hu:lO N t j=Z)(s:n∈bn)(u:j<n)(hN:N=2*n-1)(L:aY N=n):
  ak Q 54 [.p4 I N t,.t6 j] [] (.bP [.ro Z .i64 (kZ (·.1) (c6 N t n (2*(j:Int)) (cr n))),.ro Z .i64 (kZ (·.2.1) (c6 N t n (2*(j:Int)) (cr n))),.ro Z .i64 (kZ (·.2.2) (c6 N t n (2*(j:Int)) (cr n))),.t6 0]) []:=by
 have hs:=cn s
 have l:=z.le
 have d:cX N (λi=>ah (aA t i))=Z:=bU z
 have D:(ai λi=>ah (aA t i))=t:=rfl
 have⟨y,u2,J⟩:=sX s u
 have H:i64.wrap (2*(j:Int))=2*(j:Int):=dU (by omega) (by omega)
 have ex:((2*j:Nat):Int)=2*(j:Int):=by omega
 rw[ex] at y u2 J
 have pl:A (gm n (2*(j:Int)) (cr n))=cr n:=by simp[gm]
 have m:ak Q 54 [.p4 I N t,.t6 j] [] (.bP [.sl 0 0 0 1 (c6 N t n (2*(j:Int)) (cr n)).1 (c6 N t n (2*(j:Int)) (cr n)).1 I Z,.sl 1 0 0 1 (c6 N t n (2*(j:Int)) (cr n)).1 (c6 N t n (2*(j:Int)) (cr n)).1 I Z,.sl 2 0 0 1 (c6 N t n (2*(j:Int)) (cr n)).1 (c6 N t n (2*(j:Int)) (cr n)).1 I Z,.t6 0]) [.b [.af .i64 (c6 N t n (2*(j:Int)) (cr n)).1 (kZ (·.1) (c6 N t n (2*(j:Int)) (cr n)))],.b [.af .i64 (c6 N t n (2*(j:Int)) (cr n)).1 (kZ (·.2.1) (c6 N t n (2*(j:Int)) (cr n)))],.b [.af .i64 (c6 N t n (2*(j:Int)) (cr n)).1 (kZ (·.2.2) (c6 N t n (2*(j:Int)) (cr n)))]]:=by
  refine ak.sW func54 rfl 12 0 (λk=>WO N t n (e8 n (2*(j:Int)) k) (gm n (2*(j:Int)) (cr n)) (c6 N t n (2*(j:Int)) k).1 (kZ (·.1) (c6 N t n (2*(j:Int)) k)) (kZ (·.2.1) (c6 N t n (2*(j:Int)) k)) (kZ (·.2.2) (c6 N t n (2*(j:Int)) k)) (k:Int)) (cr n)
   (λy s' g=>?_) (by decide) rfl (λk c=>?_)
   (sE:=⟨ag 67 [(9,.sl 0 0 0 1 (c6 N t n (2*(j:Int)) (cr n)).1 (c6 N t n (2*(j:Int)) (cr n)).1 I Z),(10,.sl 1 0 0 1 (c6 N t n (2*(j:Int)) (cr n)).1 (c6 N t n (2*(j:Int)) (cr n)).1 I Z),(11,.sl 2 0 0 1 (c6 N t n (2*(j:Int)) (cr n)).1 (c6 N t n (2*(j:Int)) (cr n)).1 I Z)],[.b [.af .i64 (c6 N t n (2*(j:Int)) (cr n)).1 (kZ (·.1) (c6 N t n (2*(j:Int)) (cr n)))],.b [.af .i64 (c6 N t n (2*(j:Int)) (cr n)).1 (kZ (·.2.1) (c6 N t n (2*(j:Int)) (cr n)))],.b [.af .i64 (c6 N t n (2*(j:Int)) (cr n)).1 (kZ (·.2.2) (c6 N t n (2*(j:Int)) (cr n)))]],Z⟩)
   (s':=⟨ag 67 [(4,.sl 0 0 0 1 (c6 N t n (2*(j:Int)) (cr n)).1 (c6 N t n (2*(j:Int)) (cr n)).1 I Z),(5,.sl 1 0 0 1 (c6 N t n (2*(j:Int)) (cr n)).1 (c6 N t n (2*(j:Int)) (cr n)).1 I Z),(6,.sl 2 0 0 1 (c6 N t n (2*(j:Int)) (cr n)).1 (c6 N t n (2*(j:Int)) (cr n)).1 I Z),(7,.t6 0),(9,.sl 0 0 0 1 (c6 N t n (2*(j:Int)) (cr n)).1 (c6 N t n (2*(j:Int)) (cr n)).1 I Z),(10,.sl 1 0 0 1 (c6 N t n (2*(j:Int)) (cr n)).1 (c6 N t n (2*(j:Int)) (cr n)).1 I Z),(11,.sl 2 0 0 1 (c6 N t n (2*(j:Int)) (cr n)).1 (c6 N t n (2*(j:Int)) (cr n)).1 I Z),(64,.sl 0 0 0 1 (c6 N t n (2*(j:Int)) (cr n)).1 (c6 N t n (2*(j:Int)) (cr n)).1 I Z),(65,.sl 1 0 0 1 (c6 N t n (2*(j:Int)) (cr n)).1 (c6 N t n (2*(j:Int)) (cr n)).1 I Z),(66,.sl 2 0 0 1 (c6 N t n (2*(j:Int)) (cr n)).1 (c6 N t n (2*(j:Int)) (cr n)).1 I Z)],[.b [.af .i64 (c6 N t n (2*(j:Int)) (cr n)).1 (kZ (·.1) (c6 N t n (2*(j:Int)) (cr n)))],.b [.af .i64 (c6 N t n (2*(j:Int)) (cr n)).1 (kZ (·.2.1) (c6 N t n (2*(j:Int)) (cr n)))],.b [.af .i64 (c6 N t n (2*(j:Int)) (cr n)).1 (kZ (·.2.2) (c6 N t n (2*(j:Int)) (cr n)))]],Z⟩)
   (x:=.ret) (v:=[.sl 0 0 0 1 (c6 N t n (2*(j:Int)) (cr n)).1 (c6 N t n (2*(j:Int)) (cr n)).1 I Z,.sl 1 0 0 1 (c6 N t n (2*(j:Int)) (cr n)).1 (c6 N t n (2*(j:Int)) (cr n)).1 I Z,.sl 2 0 0 1 (c6 N t n (2*(j:Int)) (cr n)).1 (c6 N t n (2*(j:Int)) (cr n)).1 I Z,.t6 0]) ?_ (TrL.rest (uo Z Z []) 60 (by kernel_rfl) rfl) (.inl rfl) rfl
  ·have e:=aBt N t j
   rw[L,H,aaq] at e
   refine TrL.bY (uo Z Z []) 60 12 _ 0 (aaH _) (s1:=⟨ag 67 [(0,.p4 I N t),(8,.t6 n),(9,dx),(10,dx),(11,dx),(12,.t6 (2*(j:Int))),(13,.ro Z .i64 (gm n (2*(j:Int)) (cr n))),(14,.t6 0)],[],Z⟩) _ e (atw ..) (by rw[D,d,hg,hu,Me l,L,H, <-ex,WM s u,Me (show(N:Int)<72 by omega)];rfl) (by decide) rfl ?_
   refine TrL.pre (TrL.pre (TrL.pre g (bG.rz (o':=Z) 11 rfl .i64 I Z) ?_) (bG.rz (o':=Z) 10 rfl .i64 I Z) ?_) (bG.rz (o':=Z) 9 rfl .i64 I Z) ?_<;>(intro q;cases q)
  ·have⟨g1,g2⟩:=y k c
   have o:Tr.bf (e8 n (2*(j:Int)) k) n=Z:=by
    cases k with
    |zero=>exact J
    |succ k=>exact(y k (by omega)).1
   have w:=ir s u c
   have s1:di (e8 n (2*(j:Int)) k) n<(N:Int):=by rw[hN];exact w.s1
   have p:=Gt z K w.s0 s1
   have r:ym N t (di (e8 n (2*(j:Int)) k) n)=bE t (di (e8 n (2*(j:Int)) k) n):=by unfold ym;rw[K,Me w.s0,Me s1];rfl
   have hq:c6 N t n (2*(j:Int)) (k+1)=bif P3 N t n (2*(j:Int)) k then((c6 N t n (2*(j:Int)) k).1+1,DU (c6 N t n (2*(j:Int)) k).1 (c6 N t n (2*(j:Int)) k).2 (cQ n (2*(j:Int)) k,e8 n (2*(j:Int)) k,di (e8 n (2*(j:Int)) k) n)) else c6 N t n (2*(j:Int)) k:=rfl
   have h5:=(Wl (N:=N) (t:=t) s u k (by omega)).1
   have:=Wm n
   rw[hq]
   show Tr _ _ _ _ _ _ (WO N t n (cQ n (2*(j:Int)) k) _ _ _ _ _ _)
   cases a:P3 N t n (2*(j:Int)) k with
   |false=>
    unfold P3 at a
    rw[r] at a
    have e:=aBu N t n (e8 n (2*(j:Int)) k) (gm n (2*(j:Int)) (cr n)) (c6 N t n (2*(j:Int)) k).1 (kZ (·.1) (c6 N t n (2*(j:Int)) k)) (kZ (·.2.1) (c6 N t n (2*(j:Int)) k)) (kZ (·.2.2) (c6 N t n (2*(j:Int)) k)) k
    have B:=atx N t n (e8 n (2*(j:Int)) k) (gm n (2*(j:Int)) (cr n)) (c6 N t n (2*(j:Int)) k).1 (kZ (·.1) (c6 N t n (2*(j:Int)) k)) (kZ (·.2.1) (c6 N t n (2*(j:Int)) k)) (kZ (·.2.2) (c6 N t n (2*(j:Int)) k)) k
    rw[aaq,su c,dm (by omega)] at e
    refine Tr.bg (uo _ _ _) 60 _ 3 (aaH _) (s':=WO N t n (cQ n (2*(j:Int)) k) (gm n (2*(j:Int)) (cr n)) (c6 N t n (2*(j:Int)) k).1 (kZ (·.1) (c6 N t n (2*(j:Int)) k)) (kZ (·.2.1) (c6 N t n (2*(j:Int)) k)) (kZ (·.2.2) (c6 N t n (2*(j:Int)) k)) ((k+1:Nat):Int)) _ e B ?_
    rw[D,d,a,o,p,Me l,pl,g8 c,bW c,aaq,Me c];rfl
   |true=>
    unfold P3 at a
    rw[r] at a
    have e:=aBv N t n (e8 n (2*(j:Int)) k) (gm n (2*(j:Int)) (cr n)) (c6 N t n (2*(j:Int)) k).1 (kZ (·.1) (c6 N t n (2*(j:Int)) k)) (kZ (·.2.1) (c6 N t n (2*(j:Int)) k)) (kZ (·.2.2) (c6 N t n (2*(j:Int)) k)) k
    have B:=aty N t n (e8 n (2*(j:Int)) k) (gm n (2*(j:Int)) (cr n)) (c6 N t n (2*(j:Int)) k).1 (kZ (·.1) (c6 N t n (2*(j:Int)) k)) (kZ (·.2.1) (c6 N t n (2*(j:Int)) k)) (kZ (·.2.2) (c6 N t n (2*(j:Int)) k)) k
    rw[aaq,su c,dm (by omega)] at e
    show Tr _ _ _ _ _ _ (WO N t n (cQ n (2*(j:Int)) k) _ ((c6 N t n (2*(j:Int)) k).1+1) (kZ (·.1) ((c6 N t n (2*(j:Int)) k).1+1,DU (c6 N t n (2*(j:Int)) k).1 (c6 N t n (2*(j:Int)) k).2 (cQ n (2*(j:Int)) k,e8 n (2*(j:Int)) k,di (e8 n (2*(j:Int)) k) n))) (kZ (·.2.1) ((c6 N t n (2*(j:Int)) k).1+1,DU (c6 N t n (2*(j:Int)) k).1 (c6 N t n (2*(j:Int)) k).2 (cQ n (2*(j:Int)) k,e8 n (2*(j:Int)) k,di (e8 n (2*(j:Int)) k) n))) (kZ (·.2.2) ((c6 N t n (2*(j:Int)) k).1+1,DU (c6 N t n (2*(j:Int)) k).1 (c6 N t n (2*(j:Int)) k).2 (cQ n (2*(j:Int)) k,e8 n (2*(j:Int)) k,di (e8 n (2*(j:Int)) k) n))) _)
    rw[JD,JD,JD]
    refine Tr.bg (uo _ _ _) 60 _ 3 (aaH _) _ e B ?_
    have G:∀f,C (A (kZ f (c6 N t n (2*(j:Int)) k))=(c6 N t n (2*(j:Int)) k).1)=Z:=λf=>Me (pW f _)
    rw[D,d,a,o,p,Me l,pl,g8 c,bW c,aaq,Me c,G,G,G,Me (aar _),Me (show(c6 N t n (2*(j:Int)) k).1+1<=2^38 by omega)];rfl
  ·exact Tr.i7 (uo _ _ _) (aaH _) (WT N t n _ _ _ _ _ _ _) (by rw[pl,gV (aar _)];rfl)
 generalize c6 N t n (2*(j:Int)) (cr n)=q at m ⊢
 exact WU (pW _ q) (pW _ q) (pW _ q) m
end
end Pa
namespace Pa
open Sy Tr S2 Mk
def acR:aK Q:=.rdm 42 _ func42 (by decide) rfl KW (λus d=>match us,d with
 | [.b9 0 99 N M j,.int .i64 x,.int .i64 c],[.b [.aF 99 K g]]=>E (.sM (lH (ai g) x (bk x+aW x-c)),cX N g&&C (N<=71)&&C (N=M)&&C (N=K)&&v8 N (ai g) x c&&oJ N (ai g))
 |_,_=>Y) λus d v e=>by
 split at e
 ·simp only[Mf,aad,No,aac] at e;have⟨rfl,⟨⟨⟨⟨f,i⟩,rfl⟩,rfl⟩,h⟩,h4⟩:=e;exact ak.agn (ak.conv (WV (eo.of f i) h h4) ⟨VE.Sb (VE.ago f),VE.refl _,VE.refl _,trivial⟩ trivial (VE.refl _) trivial) rfl rfl
 ·cases e
def Qc(l:List (Nat×Bool)):cu:=mk [akE,uV,WN,acR] [] (uT l)
def lE l:aq Q (Qc l):=au _ aN.nil _ _
def JE:Code:=aI f55
def oI(a:Nat)(N:Nat)(u:Nat->aE)(c:pD)(i:Int)(d e:pD)(K:Nat)(f:Nat->pD)(pl:pD)(k:Int):St:=⟨ag 111 [(1,.t6 i),(2,.ro I .i64 d),(3,.ro I .i64 e),(5,.aO I 32 K (eI f)),(10,.r5 0),(13,.b9 1 99 N N I),(14,.ro Z .i64 pl),(a,.t6 k)],[.b [.t5 c],.b [.aF 99 N (aA u)]],Z⟩
def prF(u:Nat->aE)(X:Nat)(a:pD):Nat->List SV:=λj=>bF (Nat.beq j X) [.bool (u X).used,.t6 (u X).name,.t5 (u X).key,.t5 (u X).bH,.t5 a,.ro I .i64 (u X).un] (aA u j)
def zb(N:Nat)(t:Nat->aE) leaf i ws kd(K:Nat) ks:aD (az [1,2,3,5,10,13,14,15] 2 ((bh Q (Qc []) 60 0 4 (aH JE) ⟨aU f55.ntmps [.p4 I N t,.t6 i,.ro I .i64 ws,.ro I .i64 kd,.sM leaf,.aO I 32 K (eI ks)],[],Z⟩).x3))=(E (.normal,(oI 15 N t leaf i ws kd K ks (gm (aY N) (i64.wrap (2*i)) (cr (O (aY N)))) 0).t,(oI 15 N t leaf i ws kd K ks [] 0).h),(aa (aa (aa Z (aa Z ((cX N λi=>ah (aA t i))&&C (N<=71)))) (aa Z (Z&&C ((N:Int)<72)))) (aa Z (lfQ (i64.wrap (2*i)) (aY (N:Int)))))):=by kernel_rfl
def aif N t leaf i ws kd K ks:=bu (zb N t leaf i ws kd K ks)
def SN N t leaf i ws kd K ks:=bz (zb N t leaf i ws kd K ks)
def WW(N:Nat)(u:Nat->aE) leaf i ws kd(K:Nat) ks pl k:aD (az [1,2,3,5,10,13,14,15] 2 (exec Q (Qc [(29,Z)]) 60 0 (aj (aj (aJ 4 JE))) (oI 15 N u leaf i ws kd K ks pl k)))=(E (.normal,(oI 15 N u leaf i ws kd K ks pl (i64.wrap (k+1))).t,[.b [.t5 leaf],.b [.aF 99 N λj=>bF (Nat.beq j (O (pl.getD k.toNat 0))) [.bool I,.t6 0,.t5 (t9 32 0),.t5 (t9 32 0),.t5 (t9 32 0),.nl (.slice Y 0 0)] (aA u j)]]),(aa (aa (aa (aa (aa Z (C (k<(A pl:Int)))) (bC k (A pl))) (C (O k<A pl))) (bC (X pl (O k) 0) N)) (C (O (pl.getD k.toNat 0)<N)))):=by kernel_rfl
def aBx N u leaf i ws kd K ks pl k:=bu (WW N u leaf i ws kd K ks pl k)
def atA N u leaf i ws kd K ks pl k:=bz (WW N u leaf i ws kd K ks pl k)
def WX(N:Nat)(u:Nat->aE) leaf i ws kd(K:Nat) ks pl k:aD (az [1,2,3,5,10,13,14,15] 2 (exec Q (Qc [(29,I)]) 60 0 (aj (aj (aJ 4 JE))) (oI 15 N u leaf i ws kd K ks pl k)))=(E (.exit 0,(oI 15 N u leaf i ws kd K ks pl k).t,(oI 15 N u leaf i ws kd K ks pl k).h),(aa Z !C (k<(A pl:Int)))):=by kernel_rfl
def WY(N:Nat)(u:Nat->aE) leaf i ws kd(K:Nat) ks pl k:aD (az [1,2,3,5,10,13,14,16] 2 ((bh Q (Qc []) 60 0 1 ((aH JE).drop 5) (oI 15 N u leaf i ws kd K ks pl k)).x3))=(E (.normal,(oI 16 N u leaf i ws kd K ks pl 0).t,(oI 16 N u leaf i ws kd K ks pl 0).h),(Z)):=by kernel_rfl
def aBz N u leaf i ws kd K ks pl k:=bu (WY N u leaf i ws kd K ks pl k)
def atC N u leaf i ws kd K ks pl k:=bz (WY N u leaf i ws kd K ks pl k)
def WZ(N:Nat)(u:Nat->aE) leaf i ws kd(K:Nat) ks pl k:aD (az [1,2,3,5,10,13,14,16] 2 (exec Q (Qc [(42,Z)]) 60 0 (aj (aj (aJ 6 JE))) (oI 16 N u leaf i ws kd K ks pl k)))=(E (.normal,(oI 16 N u leaf i ws kd K ks pl (i64.wrap (k+1))).t,[.b [.t5 leaf],.b [.aF 99 N λj=>bF (Nat.beq j (O (ws.getD k.toNat 0))) (Ky (ks (O k)) (t9 32 0)) (aA u j)]]),(aa (aa (aa (aa (aa (aa (aa Z (C (k<(A ws:Int)))) (bC k (A ws))) (C (O k<A ws))) (bC k K)) (Z&&(C (O k<K)&&Z))) (bC (X ws (O k) 0) N)) (C (O (ws.getD k.toNat 0)<N)))):=by kernel_rfl
def aBA N u leaf i ws kd K ks pl k:=bu (WZ N u leaf i ws kd K ks pl k)
def atD N u leaf i ws kd K ks pl k:=bz (WZ N u leaf i ws kd K ks pl k)
def W3(N:Nat)(u:Nat->aE) leaf i ws kd(K:Nat) ks pl k:aD (az [1,2,3,5,10,13,14,16] 2 (exec Q (Qc [(42,I)]) 60 0 (aj (aj (aJ 6 JE))) (oI 16 N u leaf i ws kd K ks pl k)))=(E (.exit 2,(oI 16 N u leaf i ws kd K ks pl k).t,(oI 16 N u leaf i ws kd K ks pl k).h),(aa Z !C (k<(A ws:Int)))):=by kernel_rfl
def W5(N:Nat)(u:Nat->aE) leaf i ws kd(K:Nat) ks pl k:aD (az [1,2,3,5,10,13,14,17] 2 ((bh Q (Qc []) 60 0 1 ((aH JE).drop 7) (oI 16 N u leaf i ws kd K ks pl k)).x3))=(E (.normal,(oI 17 N u leaf i ws kd K ks pl (i64.wrap ((A ws:Int)-2))).t,(oI 17 N u leaf i ws kd K ks pl 0).h),(Z)):=by kernel_rfl
def aBC N u leaf i ws kd K ks pl k:=bu (W5 N u leaf i ws kd K ks pl k)
def atF N u leaf i ws kd K ks pl k:=bz (W5 N u leaf i ws kd K ks pl k)
def W6(N:Nat)(u:Nat->aE) leaf i ws kd(K:Nat) ks pl k:aD (az [1,2,3,5,10,13,14,17] 2 (exec Q (Qc [(60,Z)]) 60 0 (aj (aj (aJ 8 JE))) (oI 17 N u leaf i ws kd K ks pl k)))=(E (.normal,(oI 17 N u leaf i ws kd K ks pl (i64.wrap (k-1))).t,[.b [.t5 leaf],.b [.aF 99 N (prF u (O (ws.getD k.toNat 0)) (lH u (X ws (O (i64.wrap (k+1))) 0) (bk (X ws (O (i64.wrap (k+1))) 0)+aW (X ws (O (i64.wrap (k+1))) 0)-X kd (O (i64.wrap (k+1))) 0)))]]),(aa (aa (aa (aa (aa (aa (aa (aa (aa (aa Z (C (k>=0))) (bC k (A ws))) (C (O k<A ws))) (bC (i64.wrap (k+1)) (A ws))) (C (O (i64.wrap (k+1))<A ws))) (bC (i64.wrap (k+1)) (A kd))) (C (O (i64.wrap (k+1))<A kd))) (aa Z (cX N (aA u)&&C (N<=71)&&C (N=N)&&C (N=N)&&v8 N (ai (aA u)) (X ws (O (i64.wrap (k+1))) 0) (X kd (O (i64.wrap (k+1))) 0)&&oJ N (ai (aA u))))) (bC (X ws (O k) 0) N)) (C (O (ws.getD k.toNat 0)<N)))):=by kernel_rfl
def aBD N u leaf i ws kd K ks pl k:=bu (W6 N u leaf i ws kd K ks pl k)
def atG N u leaf i ws kd K ks pl k:=bz (W6 N u leaf i ws kd K ks pl k)
def W7(N:Nat)(u:Nat->aE) leaf i ws kd(K:Nat) ks pl k:aD (az [1,2,3,5,10,13,14,17] 2 (exec Q (Qc [(60,I)]) 60 0 (aj (aj (aJ 8 JE))) (oI 17 N u leaf i ws kd K ks pl k)))=(E (.exit 4,(oI 17 N u leaf i ws kd K ks pl k).t,(oI 17 N u leaf i ws kd K ks pl k).h),(aa Z !C (k>=0))):=by kernel_rfl
def za(N:Nat)(u:Nat->aE) leaf i ws kd(K:Nat) ks pl k:aD (az [1,2,3,5,10,13,14,17] 2 ((bh Q (Qc []) 60 0 2 ((aH JE).drop 9) (oI 17 N u leaf i ws kd K ks pl k)).x3))=(E (.normal,(oI 17 N u leaf i ws kd K ks pl k).t,[.b [.t5 leaf],.b [.aF 99 N (lf2 u (O (i64.wrap (2*i))) leaf (t9 32 0))]]),(aa (aa (aa (aa Z (bC (i64.wrap (2*i)) N)) (C (O (i64.wrap (2*i))<N))) (bC (i64.wrap (2*i)) N)) (C (O (i64.wrap (2*i))<N)))):=by kernel_rfl
def aid N u leaf i ws kd K ks pl k:=bu (za N u leaf i ws kd K ks pl k)
def SG N u leaf i ws kd K ks pl k:=bz (za N u leaf i ws kd K ks pl k)
def W8(N:Nat)(u:Nat->aE) leaf i ws kd(K:Nat) ks pl k:aD (az [12] 2 (eM Q (Qc [(96,I)]) 60 0 ((aH JE).drop 11) (oI 17 N u leaf i ws kd K ks pl k)))=(E (.ret,ag 111 [(12,.b9 1 99 N N I)],[.b [.t5 leaf],.b [.aF 99 N (aA u)]]),(aa Z !C ((A ws:Int)>0))):=by kernel_rfl
def W9(N:Nat)(u:Nat->aE) leaf i ws kd(K:Nat) ks pl k:aD (az [12] 2 (eM Q (Qc [(96,Z)]) 60 0 ((aH JE).drop 11) (oI 17 N u leaf i ws kd K ks pl k)))=(E (.ret,ag 111 [(12,.b9 1 99 N N I)],[.b [.t5 leaf],.b [.aF 99 N (prF u (O (i64.wrap (2*i))) (lH u (X ws 0 0) (bk (X ws 0 0)+aW (X ws 0 0)-X kd 0 0)))]]),(aa (aa (aa (aa (aa (aa (aa (aa Z (C ((A ws:Int)>0))) (bC 0 (A ws))) (C (Int.toNat 0<A ws))) (bC 0 (A kd))) (C (Int.toNat 0<A kd))) (aa Z (cX N (aA u)&&C (N<=71)&&C (N=N)&&C (N=N)&&v8 N (ai (aA u)) (X ws (Int.toNat 0) 0) (X kd (Int.toNat 0) 0)&&oJ N (ai (aA u))))) (bC (i64.wrap (2*i)) N)) (C (O (i64.wrap (2*i))<N)))):=by kernel_rfl
def aBG N u leaf i ws kd K ks pl k:=bu (W9 N u leaf i ws kd K ks pl k)
def atJ N u leaf i ws kd K ks pl k:=bz (W9 N u leaf i ws kd K ks pl k)
def Gu(u:Nat->aE)(X:Nat) cF:prF u X cF=aA (fO u X {u X with cF:=cF}):=by
 funext j
 unfold prF aA fO
 rw[P7]
 by_cases h:j=X
 ·rw[Me h,ae8 h];rfl
 ·rw[aaS h,acB h];rfl
def Qd(a:Nat->pD)(s:Nat):Nat->aE:=λk=>if k<s then fresh (a k) Mk.cG else lF
def xX(t:Nat->aE)(T:Nat->Int×Int×Int)(a:Nat->pD)(M s:Nat):Nat->aE:=λk=>fresh (a k) (if M-1-s<=k then xd t T a M (M-1-k) else Mk.cG)
section
variable {N n j M:Nat} {t u:Nat->aE} {T:Nat->Int×Int×Int} {ks:Nat->pD} {leaf:pD}
def Mj(h:PW t u n j)(s:n∈bn)(g:j<n)(hN:N=2*n-1)(i:aY N=n)(f:(t (2*j)).used=Z)(p:bq N t=Z)(o:KT T M n j){k:Nat}(r:k<M){b d}(c:u (T k).1.toNat=fresh b d):
  v8 N u (T k).1 (T k).2.1=Z/\lH u (T k).1 (bk (T k).1+aW (T k).1-(T k).2.1)=JB t b d (T k).2.2:=by have⟨a,l,e⟩:=o.way k r;rw[e] at c ⊢;have⟨q,m⟩:=h.mark s g hN i f p l c;unfold qu at m;rw[q] at m;exact⟨q,m⟩
def atK(b:∀k,k<M->uE (ks k))(s:Nat):∀k,k<M->NU (xX t T ks M s k):=λk a=>by
 unfold xX;split
 ·exact .inr ⟨_,_,rfl,b k a,Ic ..⟩
 ·exact .inr ⟨_,_,rfl,b k a,Mc⟩
def agq(g:n∈bn)(f:j<n)(hN:N=2*n-1)(c:KT T M n j){k:Nat}(d:k<M):bC (T k).1 N=Z/\(T k).1.toNat<N:=by have⟨a,b,e⟩:=c.way k d;have w:=ir g f b;rw[e];have:=w.lt;have:=w.nn;exact⟨uq w.nn (by dsimp only;omega),by dsimp only;omega⟩
theorem Qe(hT:eo N t)(hb:oJ N t=Z)(o:n∈bn)(p:j<n)(hN:N=2*n-1)(hv:aY N=n)(kD:(t (2*j)).used=Z)(hc:bq N t=Z)(r:KT T M n j)(hM:M<=5)(c:∀k,k<M->uE (ks k))(hl:uE leaf):
  ak Q 55 [.p4 I N t,.t6 j,.ro I .i64 (kZ (·.1) (M,T)),.ro I .i64 (kZ (·.2.1) (M,T)),.sM leaf,.aO I 32 M (eI ks)] [] (.aO Z 99 N (aA (rnW t n j M T ks leaf))) []:=by
 have hs:=cn o
 have z:=hT.le
 obtain⟨h1,h2⟩:=Ew hT hb (show 2*j<N by omega)
 obtain⟨u1,u2,u3⟩:=sX o p
 have ex:((2*j:Nat):Int)=2*(j:Int):=by omega
 rw[ex] at u1 u2 u3
 have F:i64.wrap (2*(j:Int))=2*(j:Int):=dU (by omega) (by omega)
 have pB:=Gk (n:=n) (t:=t) o p h1 h2
 have D:A (kZ (·.1) (M,T))=M:=pW _ _
 have l2:A (kZ (·.2.1) (M,T))=M:=pW _ _
 have y:∀k,k<M->X (kZ (·.1) (M,T)) k 0=(T k).1:=λk c=>Mi (·.1) (M,T) c
 have g2:∀k,k<M->X (kZ (·.2.1) (M,T)) k 0=(T k).2.1:=λk c=>Mi (·.2.1) (M,T) c
 have pl:A (gm n (2*(j:Int)) (cr n))=cr n:=by simp[gm]
 generalize kZ (·.1) (M,T)=ws at D y ⊢
 generalize kZ (·.2.1) (M,T)=kd at l2 g2 ⊢
 refine ak.uR (v:=.b9 0 99 N N I) (aar _) (λ_ _ x _ _ H hv=>H x hv) ?_
 refine ak.yY (v:=.b9 1 99 N N I) (h1:=[.b [.t5 leaf],.b [.aF 99 N (aA (rnW t n j M T ks leaf))]]) [1] ?_ rfl
 refine ak.mk (vs:=[.b9 1 99 N N I]) func55 rfl (x:=.ret) (s:=⟨ag 111 [(12,.b9 1 99 N N I)],[.b [.t5 leaf],.b [.aF 99 N (aA (rnW t n j M T ks leaf))]],Z⟩) ?_ (.inl rfl) (by kernel_rfl)
 have e:=aif N t leaf j ws kd M ks
 have d:=SN N t leaf j ws kd M ks
 rw[hv,F,aaq] at e
 rw[hv,F] at d
 refine TrL.bY (lE []) 60 4 _ 2 (aaH _) (s1:=oI 15 N (cH t n (2*(j:Int)) 0) leaf j ws kd M ks (gm n (2*(j:Int)) (cr n)) (0:Int)) _ e d (by rw[show cX N (λi=>ah (aA t i))=Z from bU hT,Me z, <-ex,WM o p,Me (show(N:Int)<72 by omega)];rfl) (by decide) rfl ?_
 refine TrL.dV 4 (by decide) (s1:=oI 15 N (cH t n (2*(j:Int)) (cr n)) leaf j ws kd M ks (gm n (2*(j:Int)) (cr n)) (cr n:Int)) (Tr.loop 0 (by kernel_rfl) (λk=>oI 15 N (cH t n (2*(j:Int)) k) leaf j ws kd M ks (gm n (2*(j:Int)) (cr n)) (k:Int)) (cr n) (λk c=>?_) ?_) ?_
 ·have w:=ir o p c
  have:=Wm n
  have e:=aBx N (cH t n (2*(j:Int)) k) leaf j ws kd M ks (gm n (2*(j:Int)) (cr n)) k
  have d:=atA N (cH t n (2*(j:Int)) k) leaf j ws kd M ks (gm n (2*(j:Int)) (cr n)) k
  rw[aaq,su c,acS,dm (by omega)] at e
  rw[aaq,su c,pl] at d
  refine Tr.bg (lE _) 60 _ 2 (aaH _) (s':=oI 15 N (cH t n (2*(j:Int)) (k+1)) leaf j ws kd M ks (gm n (2*(j:Int)) (cr n)) ((k+1:Nat):Int)) _ e d ?_
  rw[g8 c,bW c,Me c,uq w.nn (by have:=w.lt;omega),Me (show(cQ n (2*(j:Int)) k).toNat<N by have:=w.lt;have:=w.nn;omega)];rfl
 ·exact Tr.i7 (lE _) (aaH _) (WX N _ leaf j ws kd M ks _ _) (by rw[pl,gV (aar _)];rfl)
 generalize gm n (2*(j:Int)) (cr n)=pp
 have z2:bK (cH t n (2*(j:Int)) (cr n)) T (Qd ks 0) M=cH t n (2*(j:Int)) (cr n):=by
  rw[jg (g:=λ_=>lF) λk c=>by unfold Qd;rw[acB (by omega)]]
  refine B8 λk c=>?_
  obtain⟨a,ha,e⟩:=r.way k c
  rw[e]
  exact xe _ a ha
 have e:=aBz N (cH t n (2*(j:Int)) (cr n)) leaf j ws kd M ks pp (cr n)
 have d:=atC N (cH t n (2*(j:Int)) (cr n)) leaf j ws kd M ks pp (cr n)
 rw[<-z2] at e d ⊢
 refine TrL.bY (lE []) 60 1 _ 2 (aaH _) (l:=(aH JE).drop 5) (s1:=oI 16 N (bK (cH t n (2*(j:Int)) (cr n)) T (Qd ks 0) M) leaf j ws kd M ks pp (0:Int)) _ e d rfl (by decide) rfl ?_
 refine TrL.dV 1 (by decide) (s1:=oI 16 N (bK (cH t n (2*(j:Int)) (cr n)) T (Qd ks M) M) leaf j ws kd M ks pp (M:Int)) (Tr.loop 2 (by kernel_rfl) (λk=>oI 16 N (bK (cH t n (2*(j:Int)) (cr n)) T (Qd ks k) M) leaf j ws kd M ks pp (k:Int)) M (λk c=>?_) ?_) ?_
 ·obtain⟨q1,q2⟩:=agq o p hN r c
  have e:=aBA N (bK (cH t n (2*(j:Int)) (cr n)) T (Qd ks k) M) leaf j ws kd M ks pp k
  have d:=atD N (bK (cH t n (2*(j:Int)) (cr n)) T (Qd ks k) M) leaf j ws kd M ks pp k
  have st:fO (bK (cH t n (2*(j:Int)) (cr n)) T (Qd ks k) M) (T k).1.toNat (fresh (ks k) (t9 32 0))=bK (cH t n (2*(j:Int)) (cr n)) T (Qd ks (k+1)) M:=by
   rw[AI c r.inj]
   refine jg λi hi=>?_
   unfold Qd
   by_cases h:i=k
   ·subst h;rw[ae8 rfl,ae8 (by omega)]
   ·rw[acB h]
    by_cases h':i<k
    ·rw[ae8 h',ae8 (by omega)]
    ·rw[acB h',acB (by omega)]
  rw[aaq,y k c,Wo,st,dm (by omega)] at e
  rw[aaq,y k c,D] at d
  refine Tr.bg (lE _) 60 _ 2 (aaH _) (s':=oI 16 N (bK (cH t n (2*(j:Int)) (cr n)) T (Qd ks (k+1)) M) leaf j ws kd M ks pp ((k+1:Nat):Int)) _ e d ?_
  rw[g8 c,bW c,Me c,q1,Me q2];rfl
 ·exact Tr.i7 (lE _) (aaH _) (W3 N _ leaf j ws kd M ks _ _) (by rw[D,gV (aar _)];rfl)
 have z3:bK (cH t n (2*(j:Int)) (cr n)) T (Qd ks M) M=bK (cH t n (2*(j:Int)) (cr n)) T (xX t T ks M 0) M:=jg λk c=>by
  unfold Qd xX
  rw[ae8 c]
  by_cases h:M-1-0<=k
  ·rw[ae8 h,show M-1-k=0 by omega];rfl
  ·rw[acB h]
 have p3:∀s,PW t (bK (cH t n (2*(j:Int)) (cr n)) T (xX t T ks M s) M) n j:=λs=>JA o p pB r (atK c s) M (aar _)
 rw[z3]
 have e:=aBC N (bK (cH t n (2*(j:Int)) (cr n)) T (xX t T ks M 0) M) leaf j ws kd M ks pp M
 have d:=atF N (bK (cH t n (2*(j:Int)) (cr n)) T (xX t T ks M 0) M) leaf j ws kd M ks pp M
 rw[D,dU (by omega) (by omega)] at e
 refine TrL.bY (lE []) 60 1 _ 2 (aaH _) (l:=(aH JE).drop 7) (s1:=oI 17 N (bK (cH t n (2*(j:Int)) (cr n)) T (xX t T ks M 0) M) leaf j ws kd M ks pp ((M:Int)-2-((0:Nat):Int))) _ (by rw[show(M:Int)-2-((0:Nat):Int)=(M:Int)-2 by omega];exact e) d rfl (by decide) rfl ?_
 refine TrL.dV 1 (by decide) (s1:=oI 17 N (bK (cH t n (2*(j:Int)) (cr n)) T (xX t T ks M (M-1)) M) leaf j ws kd M ks pp ((M:Int)-2-((M-1:Nat):Int))) (Tr.loop 4 (by kernel_rfl) (λs=>oI 17 N (bK (cH t n (2*(j:Int)) (cr n)) T (xX t T ks M s) M) leaf j ws kd M ks pp ((M:Int)-2-(s:Int))) (M-1) (λs hs'=>?_) ?_) ?_
 ·have ek:(M:Int)-2-(s:Int)=((M-2-s:Nat):Int):=by omega
  have ek1:i64.wrap (((M-2-s:Nat):Int)+1)=((M-1-s:Nat):Int):=by rw[dU (by omega) (by omega)];omega
  obtain⟨q1,q2⟩:=agq o p hN r (show M-2-s<M by omega)
  have a1:=yM (B:=cH t n (2*(j:Int)) (cr n)) (f:=xX t T ks M s) (show M-1-s<M by omega) r.inj
  have a2:=yM (B:=cH t n (2*(j:Int)) (cr n)) (f:=xX t T ks M s) (show M-2-s<M by omega) r.inj
  rw[show xX t T ks M s (M-1-s)=fresh (ks (M-1-s)) (xd t T ks M s) by unfold xX;rw[ae8 (aar _),show M-1-(M-1-s)=s by omega]] at a1
  rw[show xX t T ks M s (M-2-s)=fresh (ks (M-2-s)) Mk.cG by unfold xX;rw[acB (by omega)]] at a2
  obtain⟨m1,m2⟩:=Mj (p3 s) o p hN hv kD hc r (show M-1-s<M by omega) a1
  have st:fO (bK (cH t n (2*(j:Int)) (cr n)) T (xX t T ks M s) M) (T (M-2-s)).1.toNat {bK (cH t n (2*(j:Int)) (cr n)) T (xX t T ks M s) M (T (M-2-s)).1.toNat with cF:=xd t T ks M (s+1)}=bK (cH t n (2*(j:Int)) (cr n)) T (xX t T ks M (s+1)) M:=by
   rw[a2,AI (by omega) r.inj]
   refine jg λi hi=>?_
   unfold xX
   by_cases h:i=M-2-s
   ·subst h;rw[ae8 rfl,ae8 (by omega),show M-1-(M-2-s)=s+1 by omega];rfl
   ·rw[acB h]
    by_cases h':M-1-s<=i
    ·rw[ae8 h',ae8 (by omega)]
    ·rw[acB h',acB (by omega)]
  have m2:lH (bK (cH t n (2*(j:Int)) (cr n)) T (xX t T ks M s) M) (T (M-1-s)).1 (bk (T (M-1-s)).1+aW (T (M-1-s)).1-(T (M-1-s)).2.1)=xd t T ks M (s+1):=m2
  have e:=aBD N (bK (cH t n (2*(j:Int)) (cr n)) T (xX t T ks M s) M) leaf j ws kd M ks pp ((M-2-s:Nat):Int)
  have d:=atG N (bK (cH t n (2*(j:Int)) (cr n)) T (xX t T ks M s) M) leaf j ws kd M ks pp ((M-2-s:Nat):Int)
  rw[aaq,ek1,aaq,y _ (show M-2-s<M by omega),y _ (show M-1-s<M by omega),g2 _ (show M-1-s<M by omega),m2,Gu,st,dU (by omega) (by omega),show((M-2-s:Nat):Int)-1=(M:Int)-2-((s+1:Nat):Int) by omega] at e
  rw[aaq,ek1,aaq,y _ (show M-2-s<M by omega),y _ (show M-1-s<M by omega),g2 _ (show M-1-s<M by omega),D,l2,AK] at d
  rw[ek]
  refine Tr.bg (lE _) 60 _ 2 (aaH _) (s':=oI 17 N (bK (cH t n (2*(j:Int)) (cr n)) T (xX t T ks M (s+1)) M) leaf j ws kd M ks pp ((M:Int)-2-((s+1:Nat):Int))) _ e d ?_
  rw[Me (show(((M-2-s:Nat):Int)>=0) by omega),bW (show M-2-s<M by omega),bW (show M-1-s<M by omega),Me (show M-2-s<M by omega),Me (show M-1-s<M by omega),bU ((p3 s).tok o p hN hT),Me z,Me (Eq.refl N),m1,(p3 s).byt o p hN hb,q1,Me q2]
  rfl
 ·exact Tr.i7 (lE _) (aaH _) (W7 N _ leaf j ws kd M ks _ _) (by rw[aaS (show¬((M:Int)-2-((M-1:Nat):Int)>=0) by omega)];rfl)
 have z4:bK (cH t n (2*(j:Int)) (cr n)) T (xX t T ks M (M-1)) M=P6 t n j M T ks M:=jg λk c=>by
  unfold xX stF
  rw[ae8 (by omega),ae8 (by omega)]
 have pR:=RF (t:=t) o p r c h1 h2 M
 have hi:2*j<N:=by omega
 have en:O (2*(j:Int))=2*j:=by omega
 rw[z4]
 have e:=aid N (P6 t n j M T ks M) leaf j ws kd M ks pp ((M:Int)-2-((M-1:Nat):Int))
 have d:=SG N (P6 t n j M T ks M) leaf j ws kd M ks pp ((M:Int)-2-((M-1:Nat):Int))
 rw[F,en,Wp,yT o p r] at e
 rw[F,en, <-ex] at d
 have pL:=pR.afl o p hl Mc
 rw[yT o p r] at pL
 refine TrL.bY (lE []) 60 2 _ 2 (aaH _) (l:=(aH JE).drop 9) (s1:=oI 17 N (fO (P6 t n j M T ks M) (2*j) {t (2*j) with key:=leaf,cF:=Mk.cG}) leaf j ws kd M ks pp ((M:Int)-2-((M-1:Nat):Int))) _ e d (by rw[bW hi,Me hi];rfl) (by decide) rfl ?_
 rcases Nat.eq_zero_or_pos M with h0|h0
 ·subst h0
  exact TrL.i8 (lE _) (aaH _) (W8 N _ leaf j ws kd 0 ks pp _) (by rw[D];rfl) (by intro q;cases q)
 ·obtain⟨a,ha,eT⟩:=r.way 0 h0
  have w:=ir o p ha
  have a0:fO (P6 t n j M T ks M) (2*j) {t (2*j) with key:=leaf,cF:=Mk.cG} (T 0).1.toNat=fresh (ks 0) (xd t T ks M (M-1)):=by
   unfold fO
   rw[acB (λq=>by rw[eT] at q;have:=w.Wn;dsimp only at q;omega)]
   refine(yM (f:=stF t T ks M M) h0 r.inj).trans ?_
   unfold stF
   rw[ae8 (by omega),show M-1-0=M-1 by omega]
  obtain⟨m1,m2⟩:=Mj pL o p hN hv kD hc r h0 a0
  have m3:JB t (ks 0) (xd t T ks M (M-1)) (T 0).2.2=xd t T ks M M:=by
   obtain⟨m,rfl⟩:∃m,M=m+1:=⟨M-1,by omega⟩
   show _=JB t (ks (m+1-1-m)) (xd t T ks (m+1) m) (T (m+1-1-m)).2.2
   rw[show m+1-1-m=0 by omega,show m+1-1=m by omega]
  rw[m3] at m2
  have e:=aBG N (fO (P6 t n j M T ks M) (2*j) {t (2*j) with key:=leaf,cF:=Mk.cG}) leaf j ws kd M ks pp ((M:Int)-2-((M-1:Nat):Int))
  have d:=atJ N (fO (P6 t n j M T ks M) (2*j) {t (2*j) with key:=leaf,cF:=Mk.cG}) leaf j ws kd M ks pp ((M:Int)-2-((M-1:Nat):Int))
  rw[y 0 h0,g2 0 h0,m2,F,en,Gu,B7,show fO (P6 t n j M T ks M) (2*j) {t (2*j) with key:=leaf,cF:=Mk.cG} (2*j)={t (2*j) with key:=leaf,cF:=Mk.cG} by unfold fO;rw[ae8 rfl]] at e
  rw[D,l2,F,en, <-ex,show Int.toNat 0=0 from rfl,y 0 h0,g2 0 h0,AK] at d
  refine TrL.qz (lE _) 60 _ 2 (aaH _) _ e d ?_ (by intro q;cases q)
  rw[Me (show((M:Nat):Int)>0 by omega),show bC 0 M=Z from bW (i:=0) h0,Me h0,bU (pL.tok o p hN hT),Me z,Me (Eq.refl N),m1,pL.byt o p hN hb,bW hi,Me hi]
  rfl
