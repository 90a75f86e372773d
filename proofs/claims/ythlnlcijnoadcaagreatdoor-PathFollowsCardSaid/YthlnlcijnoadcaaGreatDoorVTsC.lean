/- This file proves lemmas for the last one. Conditions: those in them. -/
import Derived.Test.YthlnlcijnoadcaaGreatDoorVTrF
noncomputable section
open Bool renaming true->Z,false->I
open Option renaming some->E,none->Y
open Decidable renaming decide->C
open List renaming length->A,getD->X,replicate->t9,range->t8
open Int renaming toNat->O
open Go.Proofs.Tryz
open Go.Proofs.Tryz renaming prog->Q
open Go.IntKind (i64)
set_option linter.all false
set_option maxRecDepth 100000
namespace Go.Proofs.YthlnlcijnoadcaaGreatDoor
namespace Tr
open Sy
def cQ(n x:Int):Nat->Int
 |0=>iP x n
 |j+1=>iP (cQ n x j) n
def agN:List (FuncId×Func):=[(103,f103)]
def Yx:aN Q agN:=aN.cons func103 (by decide) aN.nil
def btT(a b c d:Bool):Nat->Option Bool:=λi=>if i=17 then E a else if i=22 then E b else if i=31 then E c else if i=9 then E d else Y
def btC(a b c d:Bool):cu:=mk [DV,l7] agN (btT a b c d)
def pZ(a b c d:Bool):aq Q (btC a b c d):=au _ Yx _ _
def btB:Code:=aI f163
def HS:Code:=aI f146
section
variable (N:Nat) (t:Nat->aE) (x i n:Int)
def btH(r:Bool):List Blk:=[.b [.p4 I N t],.b [.t6 x],.b [.t6 i],.b [.bool r],.b [.t6 (i64.wrap (2*i))],.b [.t6 n]]
def btS:St:=⟨ag 33 [(4,.r5 0),(5,.r5 1),(6,.r5 2),(8,.r5 3),(13,.fn (.func 146) [] [.r5 4,.r5 5])],btH N t x i n I,Z⟩
def GY(r:Bool)(st:LoopState)(b:Option Code)(l:Nat):List Blk:=btH N t x i n r++[.g (E {IA (aJ 2 btB) (btS N t x i n).t l with st:=st,lR:=b})]
def Bq(r:Bool)(b:LoopState)(a:Option Code)(l:Nat)(p:Int):St:=⟨ag 17 [(0,.fn (.yield l) [] []),(2,.r5 5),(4,.t6 p)],GY N t x i n r b a l,Z⟩
end
def Cn(N:Nat) t x i n:aD (az [4,5,6,8,13] 6 ((bh Q (btC Z Z Z Z) 60 0 2 (aH btB) ⟨aU f163.ntmps [.p4 I N t,.t6 x,.t6 i,.t6 n],[],Z⟩).x3))=(E (.normal,(btS N t x i n).t,(btS N t x i n).h),(Z)):=by kernel_rfl
def Co(N:Nat) t x i n(l:Nat):aD (az [0,2,4] 7 ((bh Q (btC Z Z Z Z) 60 7 1 (aH HS) ⟨aU f146.ntmps [.fn (.yield l) [] [],.r5 4,.r5 5],GY N t x i n I .ready Y l,Z⟩).x3))=(E (.normal,(Bq N t x i n I .ready Y l (iP (i64.wrap (2*i)) n)).t,GY N t x i n I .ready Y l),(aa Z (aa Z (bf (i64.wrap (2*i)) n)))):=by kernel_rfl
def ad9 N t x i n l:=bu (Co N t x i n l)
def Yy N t x i n l:=bz (Co N t x i n l)
def Yz(N:Nat) t x i n(l:Nat) p:aD (az [0,2,4] 7 (exec Q (btC Z Z Z Z) 60 7 (aj (aj (aJ 1 HS))) (Bq N t x i n I .ready Y l p)))=(E (.ret,(Bq N t x i n Z .done (E .ret) l p).t,GY N t x i n Z .done (E .ret) l),(aa (aa Z (C (p>=0))) (aa (aa (aa (C (l=l)) (C (l=l))) (p==x)) (C (l=l))))):=by kernel_rfl
def MQ(N:Nat) t x i n(l:Nat) p:aD (az [0,2,4] 7 (exec Q (btC I Z Z Z) 60 7 (aj (aj (aJ 1 HS))) (Bq N t x i n I .ready Y l p)))=(E (.ret,(Bq N t x i n I .done (E .ret) l p).t,GY N t x i n I .done (E .ret) l),(aa (aa Z (C (p>=0))) (aa (aa (aa (aa (aa (aa (aa (aa (aa (aa (C (l=l)) (C (l=l))) !p==x) (bC p N)) (Z&&(C (O p<N)&&Z))) (t (O p)).1) (bC p N)) (Z&&(C (O p<N)&&Z))) (aa Z (C ((t (O p)).un.length<=274877906944)))) !fy (t (O p)).un i) (C (l=l))))):=by kernel_rfl
def MR(N:Nat) t x i n(l:Nat) p:aD (az [0,2,4] 7 (exec Q (btC I I Z Z) 60 7 (aj (aj (aJ 1 HS))) (Bq N t x i n I .ready Y l p)))=(E (.normal,(Bq N t x i n I .ready Y l (iP p n)).t,GY N t x i n I .ready Y l),(aa (aa (aa Z (C (p>=0))) (aa (aa (aa (aa (aa (aa (C (l=l)) (C (l=l))) !p==x) (bC p N)) (Z&&(C (O p<N)&&Z))) !(t (O p)).1) (C (l=l)))) (aa Z (bf p n)))):=by kernel_rfl
def G1(N:Nat) t x i n(l:Nat) p:aD (az [0,2,4] 7 (exec Q (btC I Z I Z) 60 7 (aj (aj (aJ 1 HS))) (Bq N t x i n I .ready Y l p)))=(E (.normal,(Bq N t x i n I .ready Y l (iP p n)).t,GY N t x i n I .ready Y l),(aa (aa (aa Z (C (p>=0))) (aa (aa (aa (aa (aa (aa (aa (aa (aa (aa (C (l=l)) (C (l=l))) !p==x) (bC p N)) (Z&&(C (O p<N)&&Z))) (t (O p)).1) (bC p N)) (Z&&(C (O p<N)&&Z))) (aa Z (C ((t (O p)).un.length<=274877906944)))) !!fy (t (O p)).un i) (C (l=l)))) (aa Z (bf p n)))):=by kernel_rfl
def G2(N:Nat) t x i n(l:Nat) p:aD (az [0,2,4] 7 (exec Q (btC I Z I I) 60 7 (aj (aj (aJ 1 HS))) (Bq N t x i n I .ready Y l p)))=(E (.exit 0,(Bq N t x i n I .ready Y l p).t,GY N t x i n I .ready Y l),(aa Z !C (p>=0))):=by kernel_rfl
def cr:Nat->Nat
 |1=>0
 |2=>1
 |4=>2
 |8=>3
 |16=>4
 |_=>5
def amc:(bn.all λn=>(t8 n).all λi=>((t8 (cr n)).all λj=>bf (cQ n ((2*i:Nat):Int) j) n&&C (0<=cQ n ((2*i:Nat):Int) j))&&C (cQ n ((2*i:Nat):Int) (cr n)=-1)&&bf ((2*i:Nat):Int) n)=Z:=by decide+kernel
def sX{n i}(a:n∈bn)(hi:i<n):(∀j,j<cr n->bf (cQ n ((2*i:Nat):Int) j) n=Z/\0<=cQ n ((2*i:Nat):Int) j)/\cQ n ((2*i:Nat):Int) (cr n)=-1/\bf ((2*i:Nat):Int) n=Z:=by have h:=aaB.1 (aaB.1 amc n a) i (aaI.2 hi);simp[No,aac,aaB,aaI] at h;exact⟨h.1.1,h.1.2,h.2⟩
def cn{n}(a:n∈bn):1<=n/\n<=32:=by simp[bn,af7,ajy,or_false] at a;omega
def kX{p}{n:Nat}(h:bf p n=Z):0<=p/\p<((2*n-1:Nat):Int):=by obtain⟨m,_,y,a,rfl,b⟩:=fW h;omega
def JH(t:Nat->aE)(x i n:Int)(j:Nat):Bool:=!(cQ n (2*i) j==x)&&!((t (O (cQ n (2*i) j))).used&&!fy (t (O (cQ n (2*i) j))).un i)
def vS(t:Nat->aE)(x:Int)(i n:Nat):Bool:=cR (JH t x i n) (cr n) (λj=>cQ n (2*(i:Int)) j==x) I
section
variable {N:Nat} {t:Nat->aE} {x:Int} {i n:Nat}
def MS(q:n∈bn)(hi:i<n)(hN:N=2*n-1)(r:∀k,k<N->(t k).un.length<=274877906944) l{j}(p:j<cr n)(f:JH t x i n j=Z):
  Tr Q Y 7 (aj (aj (aJ 1 HS))) (Bq N t x i n I .ready Y l (cQ n (2*(i:Int)) j)) .normal (Bq N t x i n I .ready Y l (cQ n (2*(i:Int)) (j+1))):=by
 have⟨o,_,_⟩:=sX q hi;have⟨c,e⟩:=o j p;rw[show((2*i:Nat):Int)=2*(i:Int) by omega] at c e;have⟨h,u⟩:=kX c;have a:O (cQ n (2*(i:Int)) j)<N:=by omega
 unfold JH at f;simp only[No] at f;have⟨m,b⟩:=f
 cases g:(t (O (cQ n (2*(i:Int)) j))).used with
 |false=>
  exact Tr.i7 (pZ ..) (aar _) (MR N t x i n l _) (by
   rw[Me e,uq h (by omega),Me a,show(t (O (cQ n (2*(i:Int)) j))).1=I from g,c,m,Me rfl];rfl)
 |true=>
  rw[g] at b
  have d:(!!fy (t (O (cQ n (2*(i:Int)) j))).un i)=Z:=by simpa using b
  exact Tr.i7 (pZ I Z I Z) (aar _) (G1 N t x i n l _) (by
   rw[Me e,uq h (by omega),Me a,show(t (O (cQ n (2*(i:Int)) j))).1=Z from g,c,m,Me rfl,d,Me (r _ a)];rfl)
def G3(b:n∈bn)(hi:i<n) l:∀y s',TrL Q Y (A (GY N t x i n I .ready Y l)) ((aH HS).drop 1) (Bq N t x i n I .ready Y l (cQ n (2*(i:Int)) 0)) y s'->
  TrL Q Y (A (GY N t x i n I .ready Y l)) (aH HS) ⟨aU f146.ntmps [.fn (.yield l) [] [],.r5 4,.r5 5],GY N t x i n I .ready Y l,Z⟩ y s':=λy s' g=>by have h:=cn b;have e:=ad9 N t x i n l;have a:=Yy N t x i n l;rw[dU (by omega) (by omega)] at e a;exact TrL.bY (pZ Z Z Z Z) 60 1 _ 7 (aar 7) _ e a (by have:=(sX b hi).2.2;rw[show((2*i:Nat):Int)=2*(i:Int) by omega] at this;rw[this];rfl) (by decide) rfl g
def amd(a:n∈bn)(hi:i<n)(hN:N=2*n-1)(e:∀k,k<N->(t k).un.length<=274877906944) l(d:∀j,j<cr n->JH t x i n j=Z):
  ak Q 146 [.fn (.yield l) [] [],.r5 4,.r5 5] (GY N t x i n I .ready Y l) (.bP []) (GY N t x i n I .ready Y l):=by
 refine ak.sW func146 rfl 1 0 (λj=>Bq ..) (cr n) (G3 a hi l) (by decide) rfl
  (λj c=>MS a hi hN e l c (d j c)) (s':=Bq N t x i n I .ready Y l (cQ n (2*(i:Int)) (cr n))) ?_ ⟨rfl,rfl⟩ (.inr rfl) rfl
 have b:=(sX a hi).2.1;rw[show((2*i:Nat):Int)=2*(i:Int) by omega] at b;exact Tr.i7 (pZ I Z I I) (aar _) (G2 N t x i n l _) (by rw[b];rfl)
def auT(e:n∈bn)(hi:i<n)(hN:N=2*n-1)(m:∀k,k<N->(t k).un.length<=274877906944) l{j}(q:j<cr n)(d:JH t x i n j=I)(p:∀k,k<j->JH t x i n k=Z):
  ak Q 146 [.fn (.yield l) [] [],.r5 4,.r5 5] (GY N t x i n I .ready Y l) (.bP []) (GY N t x i n (cQ n (2*(i:Int)) j==x) .done (E .ret) l):=by
 have⟨o,_,_⟩:=sX e hi;have⟨g,c⟩:=o j q;rw[show((2*i:Nat):Int)=2*(i:Int) by omega] at g c;have⟨r,u⟩:=kX g;have b:O (cQ n (2*(i:Int)) j)<N:=by omega
 refine ak.KJ func146 rfl 1 0 (λj=>Bq N t x i n I .ready Y l (cQ n (2*(i:Int)) j)) j (G3 e hi l) (by decide) rfl
  (λk s=>MS e hi hN m l (by omega) (p k s)) (sF:=Bq N t x i n (cQ n (2*(i:Int)) j==x) .done (E .ret) l (cQ n (2*(i:Int)) j)) ?_ rfl
 unfold JH at d
 cases f:(cQ n (2*(i:Int)) j==x) with
 |true=>
  exact Tr.i7 (pZ Z Z Z Z) (aar _) (Yz N t x i n l _) (by rw[Me c,f,Me rfl];rfl)
 |false=>
  rw[f] at d
  have a:(t (O (cQ n (2*(i:Int)) j))).used=Z/\fy (t (O (cQ n (2*(i:Int)) j))).un i=I:=by simpa using d
  exact Tr.i7 (pZ I Z Z Z) (aar _) (MQ N t x i n l _) (by
   rw[Me c,uq r (by omega),Me b,show(t (O (cQ n (2*(i:Int)) j))).1=Z from a.1,f,Me rfl,a.2,Me (m _ b)];rfl)
def J5(b:n∈bn)(hi:i<n)(hN:N=2*n-1)(d:∀k,k<N->(t k).un.length<=274877906944):
  ak Q 163 [.p4 I N t,.t6 x,.t6 i,.t6 n] [] (.bool (vS t x i n)) []:=by unfold vS cR;cases c:cV .. with
 |none=>
  have a:=dz c;refine ak.yY (v:=.bool I) (h1:=btH N t x i n I++[.gap]) [] ?_ rfl;refine ak.rest (pZ Z Z Z Z) 60 3 func163 rfl (λs' y h=>?_) (s:=⟨(btS N t x i n).t,btH N t x i n I++[.gap],Z⟩) rfl rfl;refine TrL.i6 (pZ Z Z Z Z) (aaH _) (Cn N t x i n) rfl (by decide) rfl ?_;refine TrL.dV 2 (by decide) ?_ h
  exact Tr.zi 0 rfl (first:=[]) (nM:=[.r5 4,.r5 5]) Z func146 (by decide) rfl rfl (λl=>amd b hi hN d l a)
   (λl=>⟨_,rfl,rfl,by simp[IA],rfl⟩) (λl=>rfl)
 |some j=>
  have⟨m,g,a⟩:=dr c
  refine ak.yY (v:=.bool (cQ n (2*(i:Int)) j==x)) (h1:=btH N t x i n (cQ n (2*(i:Int)) j==x)++[.gap]) [] ?_ rfl
  refine ak.mk func163 rfl (x:=.ret) (s:=⟨(btS N t x i n).t,btH N t x i n (cQ n (2*(i:Int)) j==x)++[.gap],Z⟩) (vs:=[.bool (cQ n (2*(i:Int)) j==x)]) ?_ (.inl rfl) rfl
  refine TrL.i6 (pZ Z Z Z Z) (aaH _) (Cn N t x i n) rfl (by decide) rfl ?_
  refine TrL.jn 2 (by decide) (by simp) ?_
  show Tr Q Y 0 (.block 0 (aj (aJ 2 btB))) _ _ _
  refine Tr.cz ?_ (by simp)
  exact Tr.range (q:=E .ret) Z func146 (by decide) rfl rfl (first:=[]) (λl=>auT b hi hN d l m g a)
   (λl=>⟨_,rfl,rfl,by simp[IA],rfl⟩) (λl=>rfl) rfl
end
def p6:List SV->aE
 | [.bool u,.int .i64 n,.af .u8 32 k,.af .u8 32 s,.af .u8 32 p,.ro _ .i64 a]=>⟨u,n,k,s,p,a⟩
 |_=>default
def ai(g:Nat->List SV):Nat->aE:=λi=>p6 (g i)
def AK(t:Nat->aE):ai (aA t)=t:=rfl
def YA:List SV->Bool
 | [.bool _,.int .i64 _,.af .u8 32 k,.af .u8 32 s,.af .u8 32 p,.ro I .i64 a]=>C (A a<=274877906944)&&C (A k=32)&&C (A s=32)&&C (A p=32)
 |_=>I
def Cp{l}:YA l=Z↔l=(p6 l).cells/\(p6 l).un.length<=274877906944/\(p6 l).key.length=32/\(p6 l).bH.length=32/\(p6 l).cF.length=32:=by
 constructor
 ·intro h;unfold YA at h;split at h
  ·simp[No,aac] at h;have⟨⟨⟨b,c⟩,a⟩,d⟩:=h;exact⟨rfl,b,c,a,d⟩
  ·cases h
 ·rintro⟨e,b,c,a,d⟩;rw[e];show(C _&&C _&&C _&&C _)=Z;simp[No,aac];exact⟨⟨⟨b,c⟩,a⟩,d⟩
def cX(N:Nat)(g:Nat->List SV):Bool:=(t8 N).all λi=>YA (g i)
def rQ{N}{g:Nat->List SV}:cX N g=Z↔∀i,i<N->g i=(p6 (g i)).cells/\(p6 (g i)).un.length<=274877906944/\(p6 (g i)).key.length=32/\(p6 (g i)).bH.length=32/\(p6 (g i)).cF.length=32:=by unfold cX;rw[aaB];exact⟨λh i a=>Cp.1 (h i (aaI.2 a)),λh i a=>Cp.2 (h i (aaI.1 a))⟩
structure eo(N:Nat)(t:Nat->aE):Prop where
 le:N<=71
 un:∀i,i<N->(t i).un.length<=274877906944
 key:∀i,i<N->(t i).key.length=32
 bH:∀i,i<N->(t i).bH.length=32
 cF:∀i,i<N->(t i).cF.length=32
def bU{N}{t:Nat->aE}(h:eo N t):cX N (aA t)=Z:=rQ.2 λi a=>⟨rfl,h.un i a,h.key i a,h.bH i a,h.cF i a⟩
def eo.of{N}{g:Nat->List SV}(h:cX N g=Z)(hN:N<=71):eo N (ai g):=by have h:=rQ.1 h;exact⟨hN,λi a=>(h i a).2.1,λi a=>(h i a).2.2.1,λi a=>(h i a).2.2.2.1,λi a=>(h i a).2.2.2.2⟩
def VE.Sb{f:Bool}{z N}{g b:Nat->List SV}(h:∀i,i<N->g i=b i):VE (.aO f z N g) (.aO f z N b):=λe x a=>by
 rcases a with a|⟨n,o,cap,c,t,p,j,k,e,l,q,m⟩
 ·exact .inl a
 ·exact .inr ⟨n,o,cap,c,t,p,j,k,e,λi d=>by rw[<-h i d];exact l i d,q,m⟩
def VE.kM{N}{g:Nat->List SV}(h:cX N g=Z):VE (.aO I 99 N g) (.aO I 99 N (aA (ai g))):=VE.Sb λi a=>(rQ.1 h i a).1
def ux(N:Nat)(i n:Int):Bool:=bn.any λm=>C (n=m)&&C (0<=i)&&C (i<m)&&C (N=2*m-1)
def J6{N i n}(h:ux N i n=Z):∃m∈bn,∃y:Nat,n=(m:Int)/\i=(y:Int)/\y<m/\N=2*m-1:=by have⟨m,a,h⟩:=afJ.1 h;simp[No,aac] at h;obtain⟨⟨⟨rfl,b⟩,d⟩,c⟩:=h;obtain⟨y,rfl⟩:=ac7 b;exact⟨m,a,y,rfl,rfl,by omega,c⟩
def Cq{N m y}(a:m∈bn)(b:y<m)(hN:N=2*m-1):ux N y m=Z:=afJ.2 ⟨m,a,by simp;omega⟩
def G4:List SV->Option (SV×List Blk×Bool)
 | [.aO I 99 N g,.int .i64 x,.int .i64 i,.int .i64 n]=>E (.bool (vS (ai g) x (O i) (O n)),[],cX N g&&ux N i n)
 |_=>Y
def YB:aK Q:=.val 163 _ func163 (by decide) rfl Z 0 G4 λvs v new e=>by
 unfold G4 at e;split at e
 ·simp only[Mf,aad,No] at e;have⟨rfl,rfl,b,f⟩:=e;obtain⟨m,d,y,rfl,rfl,c,hN⟩:=J6 f;have h:=rQ.1 b;exact ak.conv (J5 d c hN λk g=>(h k g).2.1) ⟨VE.kM b,VE.refl _,VE.refl _,VE.refl _,trivial⟩ trivial (VE.refl _) trivial
 ·cases e
def uT(l:List (Nat×Bool)):Nat->Option Bool:=λi=>(l.find? λp=>p.1==i).map (·.2)
def A6(l:List (Nat×Bool)):cu:=mk [ad4,R7,YB] [] (uT l)
def fS(l:List (Nat×Bool)):aq Q (A6 l):=au _ aN.nil _ _
def upB:Code:=aI f116
def Rc(N:Nat)(t:Nat->aE)(x n b j:Int)(un:pD):St:=⟨ag 77 [(0,.p4 I N t),(1,.t6 x),(2,.t6 n),(8,.t6 (fB x)),(9,.t6 (jB x)),(10,.t6 b),(39,.ro I .i64 un),(40,.t6 (A un)),(41,.t6 j)],[],Z⟩
def Rd(b:Bool):St:=⟨ag 77 [(6,.bool b)],[],Z⟩
def aCA N(t:Nat->aE) x n:(aV Q (A6 [(19,Z),(24,Z),(30,Z)]) 60 f116 [.p4 I N t,.t6 x,.t6 n] []).v3=E (.bool I,aa (aa (aa Z (bC x N)) (Z&&(C (O x<N)&&Z))) ((t (O x)).name != 0)):=by kernel_rfl
def aCB N(t:Nat->aE) x n:(aV Q (A6 [(19,I),(24,Z),(30,Z)]) 60 f116 [.p4 I N t,.t6 x,.t6 n] []).v3=E (.bool I,aa (aa (aa (aa (aa Z (bC x N)) (Z&&(C (O x<N)&&Z))) !(t (O x)).name != 0) (C ((t (O x)).bH.length=32))) !C ((t (O x)).bH=t9 32 0)):=by kernel_rfl
def aCC N(t:Nat->aE) x n:(aV Q (A6 [(19,I),(24,I),(30,Z)]) 60 f116 [.p4 I N t,.t6 x,.t6 n] []).v3=E (.bool I,aa (aa (aa (aa (aa (aa (aa Z (bC x N)) (Z&&(C (O x<N)&&Z))) !(t (O x)).name != 0) (C ((t (O x)).bH.length=32))) !!C ((t (O x)).bH=t9 32 0)) (aa Z (C ((t (O x)).un.length<=274877906944)))) !iz (t (O x)).un):=by kernel_rfl
def Cr N(t:Nat->aE) x n:aD (az [0,1,2,8,9,10,39,40,41] 0 ((bh Q (A6 [(19,I),(24,I),(30,I)]) 60 0 7 (aH upB) ⟨aU f116.ntmps [.p4 I N t,.t6 x,.t6 n],[],Z⟩).x3))=(E (.normal,(Rc N t x n (-1) 0 (t (O x)).un).t,[]),(aa (aa (aa (aa (aa (aa (aa (aa Z (bC x N)) (Z&&(C (O x<N)&&Z))) !(t (O x)).name != 0) (C ((t (O x)).bH.length=32))) !!C ((t (O x)).bH=t9 32 0)) (aa Z (C ((t (O x)).un.length<=274877906944)))) !!iz (t (O x)).un) (aa Z (bf x n)))):=by kernel_rfl
def aec N t x n:=bu (Cr N t x n)
def YC N t x n:=bz (Cr N t x n)
def G5 N(t:Nat->aE) x n b j un:aD (az [0,1,2,8,9,10,39,40,41] 0 (exec Q (A6 [(42,Z),(47,I),(51,I),(56,I),(65,I),(73,I)]) 60 0 (aj (aj (aJ 7 upB))) (Rc N t x n b j un)))=(E (.normal,(Rc N t x n (X un (O j) 0) (i64.wrap (j+1)) un).t,[]),(aa (aa (aa (aa (aa (aa (aa (aa (aa (aa (aa Z (C (j<(A un:Int)))) (bC j (A un))) (C (O j<A un))) !C (X un (O j) 0<=b)) !C (X un (O j) 0<fB x)) !C (X un (O j) 0>jB x)) (bC (i64.wrap (2*X un (O j) 0)) N)) (Z&&(C (O (i64.wrap (2*un.getD j.toNat 0))<N)&&Z))) !!(t (O (i64.wrap (2*un.getD j.toNat 0)))).1) (aa Z ((cX N λi=>ah (aA t i))&&ux N (X un (O j) 0) n))) !!vS (ai λi=>ah (aA t i)) x (O (un.getD j.toNat 0)) (O n))):=by kernel_rfl
def ame N t x n b j un:=bu (G5 N t x n b j un)
def aed N t x n b j un:=bz (G5 N t x n b j un)
def YD N(t:Nat->aE) x n b j un:aD (az [6] 0 (exec Q (A6 [(42,Z),(47,Z),(51,I),(56,I),(65,I),(73,I)]) 60 0 (aj (aj (aJ 7 upB))) (Rc N t x n b j un)))=(E (.ret,(Rd I).t,[]),(aa (aa (aa (aa Z (C (j<(A un:Int)))) (bC j (A un))) (C (O j<A un))) (C (X un (O j) 0<=b)))):=by kernel_rfl
def YE N(t:Nat->aE) x n b j un:aD (az [6] 0 (exec Q (A6 [(42,Z),(47,I),(51,Z),(56,I),(65,I),(73,I)]) 60 0 (aj (aj (aJ 7 upB))) (Rc N t x n b j un)))=(E (.ret,(Rd I).t,[]),(aa (aa (aa (aa (aa Z (C (j<(A un:Int)))) (bC j (A un))) (C (O j<A un))) !C (X un (O j) 0<=b)) (C (X un (O j) 0<fB x)))):=by kernel_rfl
def YF N(t:Nat->aE) x n b j un:aD (az [6] 0 (exec Q (A6 [(42,Z),(47,I),(51,I),(56,Z),(65,I),(73,I)]) 60 0 (aj (aj (aJ 7 upB))) (Rc N t x n b j un)))=(E (.ret,(Rd I).t,[]),(aa (aa (aa (aa (aa (aa Z (C (j<(A un:Int)))) (bC j (A un))) (C (O j<A un))) !C (X un (O j) 0<=b)) !C (X un (O j) 0<fB x)) (C (X un (O j) 0>jB x)))):=by kernel_rfl
def YG N(t:Nat->aE) x n b j un:aD (az [6] 0 (exec Q (A6 [(42,Z),(47,I),(51,I),(56,I),(65,Z),(73,I)]) 60 0 (aj (aj (aJ 7 upB))) (Rc N t x n b j un)))=(E (.ret,(Rd I).t,[]),(aa (aa (aa (aa (aa (aa (aa (aa (aa Z (C (j<(A un:Int)))) (bC j (A un))) (C (O j<A un))) !C (X un (O j) 0<=b)) !C (X un (O j) 0<fB x)) !C (X un (O j) 0>jB x)) (bC (i64.wrap (2*X un (O j) 0)) N)) (Z&&(C (O (i64.wrap (2*un.getD j.toNat 0))<N)&&Z))) !(t (O (i64.wrap (2*un.getD j.toNat 0)))).1)):=by kernel_rfl
def YH N(t:Nat->aE) x n b j un:aD (az [6] 0 (exec Q (A6 [(42,Z),(47,I),(51,I),(56,I),(65,I),(73,Z)]) 60 0 (aj (aj (aJ 7 upB))) (Rc N t x n b j un)))=(E (.ret,(Rd I).t,[]),(aa (aa (aa (aa (aa (aa (aa (aa (aa (aa (aa Z (C (j<(A un:Int)))) (bC j (A un))) (C (O j<A un))) !C (X un (O j) 0<=b)) !C (X un (O j) 0<fB x)) !C (X un (O j) 0>jB x)) (bC (i64.wrap (2*X un (O j) 0)) N)) (Z&&(C (O (i64.wrap (2*un.getD j.toNat 0))<N)&&Z))) !!(t (O (i64.wrap (2*un.getD j.toNat 0)))).1) (aa Z ((cX N λi=>ah (aA t i))&&ux N (X un (O j) 0) n))) !vS (ai λi=>ah (aA t i)) x (O (un.getD j.toNat 0)) (O n))):=by kernel_rfl
def G6 N(t:Nat->aE) x n b j un:aD (az [] 0 (exec Q (A6 [(42,I),(47,I),(51,I),(56,I),(65,I),(73,Z)]) 60 0 (aj (aj (aJ 7 upB))) (Rc N t x n b j un)))=(E (.exit 0,ag 77 [],[]),(aa Z !C (j<(A un:Int)))):=by kernel_rfl
def QC:(bn.all λn=>(t8 (2*n-1)).all λx=>C (0<=fB (x:Nat))&&C (jB (x:Nat)<n))=Z:=by decide+kernel
def yQ{x}{n:Nat}(h:bf x n=Z):0<=fB x/\jB x<n:=by obtain⟨m,a,y,c,rfl,b⟩:=fW h;have h:=aaB.1 (aaB.1 QC m a) y (aaI.2 b);simp[No,aac] at h;exact⟨h.1,by omega⟩
def QK(un:pD):Nat->Int
 |0=>-1
 |k+1=>X un k 0
def HW(t:Nat->aE)(x:Int)(n:Nat)(un:pD)(j:Nat):Bool:=!C (X un j 0<=(QK un j))&&!C (X un j 0<fB x)&&!C (X un j 0>jB x)&&(t (O (2*un.getD j 0))).used&&vS t x (O (un.getD j 0)) n
def gq(t:Nat->aE)(x:Int)(n:Nat):Bool:=!((t (O x)).name != 0)&&C ((t (O x)).bH=t9 32 0)&&iz (t (O x)).un&&(t8 (t (O x)).un.length).all (HW t x n (t (O x)).un)
section
variable {N:Nat} {t:Nat->aE} {x:Int} {n:Nat}
theorem J7(q:eo N t)(u:n∈bn)(hN:N=2*n-1)(s:bf x n=Z)(h1:((t (O x)).name != 0)=I)(h2:C ((t (O x)).bH=t9 32 0)=Z)(h3:iz (t (O x)).un=Z):
  ak Q 116 [.p4 I N t,.t6 x,.t6 n] [] (.bool ((t8 (t (O x)).un.length).all (HW t x n (t (O x)).un))) []:=by
 have⟨g1,g2⟩:=kX s
 have⟨b1,b2⟩:=yQ s
 have hs:=cn u
 have k:O x<N:=by omega
 have o:=q.un _ k
 generalize l:(t (O x)).un=un at*
 have c:=ak.qD (h:=[]) func116 rfl 7 0 (λj:Nat=>Rc N t x n (QK un j) j un) (HW t x n un) (A un)
  (λy s' g=>TrL.bY (fS [(19,I),(24,I),(30,I)]) 60 7 _ 0 (by simp) _ (by have:=aec N t x n;rw[l] at this;exact this) (YC N t x n)
   (by rw[uq g1 (by omega),Me k,h1,Me (q.bH _ k),h2,l,Me o,h3,s];rfl) (by decide) rfl g) (by decide) (by kernel_rfl)
  (λj a d _=>?_) (λi=>Rd I) (λi=>[.bool I]) (λj a d _=>⟨?_,rfl,rfl⟩) (sE:=⟨ag 77 [],[],Z⟩) (A4:=Rd Z) (λ_=>?_) (λ_=>⟨?_,.inl rfl,rfl,rfl⟩)
 ·rw[de (g:=SV.bool) (vF:=λ_:Nat=>I) (vE:=Z)] at c
  have z:cR (HW t x n un) (A un) (λ_=>I) Z=(t8 (A un)).all (HW t x n un):=by
   unfold cR;rw[<-eS];cases cV _ _<;>rfl
  rw[z] at c;exact c
 ·unfold HW at d
  simp only[No,af9,agX] at d
  have⟨⟨⟨⟨c1,c2⟩,b⟩,p⟩,r⟩:=d
  have e:=ame N t x n (QK un j) j un
  have e':=aed N t x n (QK un j) j un
  rw[dm (by omega),aaq] at e
  refine Tr.bg (fS [(42,Z),(47,I),(51,I),(56,I),(65,I),(73,I)]) 60 _ 0 (aar _) (s':=Rc N t x n (X un j 0) ((j+1:Nat):Int) un) _ e e' ?_
  rw[aaq,dU (by omega) (by omega),g8 a,bW a,Me a,aaS c1,aaS c2,aaS b,uq (by omega) (by omega),Me (show(2*X un j 0).toNat<N by omega),
   show(t (O (2*X un j 0))).1=Z from p,show cX N (λi=>ah (aA t i))=Z from bU q,aaq,show vS (ai λi=>ah (aA t i)) x (O (X un j 0)) n=Z from r]
  rw[show ux N (X un j 0) n=Z from by
   have:=Cq (N:=N) (m:=n) (y:=O (X un j 0)) u (by omega) hN
   rwa [Int.toNat_of_nonneg (by omega)] at this]
  rfl
 ·have w:∀(h0:¬X un j 0<fB x)(h1:¬X un j 0>jB x),i64.wrap (2*X un j 0)=2*X un j 0:=λ_ _=>dU (by omega) (by omega)
  by_cases c1:X un j 0<=(QK un j)
  ·exact Tr.i7 (s':=Rd I) (fS [(42,Z),(47,Z),(51,I),(56,I),(65,I),(73,I)]) (aar _) (YD N t x n _ j un) (by
    rw[aaq,g8 a,bW a,Me a,Me c1];rfl)
  ·by_cases c2:X un j 0<fB x
   ·exact Tr.i7 (s':=Rd I) (fS [(42,Z),(47,I),(51,Z),(56,I),(65,I),(73,I)]) (aar _) (YE N t x n _ j un) (by
     rw[aaq,g8 a,bW a,Me a,aaS c1,Me c2];rfl)
   ·by_cases b:X un j 0>jB x
    ·exact Tr.i7 (s':=Rd I) (fS [(42,Z),(47,I),(51,I),(56,Z),(65,I),(73,I)]) (aar _) (YF N t x n _ j un) (by
      rw[aaq,g8 a,bW a,Me a,aaS c1,aaS c2,Me b];rfl)
    ·cases p:(t (2*X un j 0).toNat).used with
     |false=>
      exact Tr.i7 (s':=Rd I) (fS [(42,Z),(47,I),(51,I),(56,I),(65,Z),(73,I)]) (aar _) (YG N t x n _ j un) (by
       rw[aaq,w c2 b,g8 a,bW a,Me a,aaS c1,aaS c2,aaS b,uq (by omega) (by omega),Me (show(2*X un j 0).toNat<N by omega),show(t (2*X un j 0).toNat).1=I from p];rfl)
     |true=>
      unfold HW at d
      rw[aaS c1,aaS c2,aaS b,p] at d
      have r:vS t x (X un j 0).toNat n=I:=by simpa using d
      refine Tr.i7 (s':=Rd I) (fS [(42,Z),(47,I),(51,I),(56,I),(65,I),(73,Z)]) (aar _) (YH N t x n _ j un) ?_
      rw[aaq,w c2 b,g8 a,bW a,Me a,aaS c1,aaS c2,aaS b,uq (by omega) (by omega),Me (show(2*X un j 0).toNat<N by omega),show(t (2*X un j 0).toNat).1=Z from p,
       show cX N (λi=>ah (aA t i))=Z from bU q,aaq,show vS (ai λi=>ah (aA t i)) x (X un j 0).toNat n=I from r]
      rw[show ux N (X un j 0) n=Z from by
       have:=Cq (N:=N) (m:=n) (y:=(X un j 0).toNat) u (by omega) hN
       rwa [Int.toNat_of_nonneg (by omega)] at this]
      rfl
 ·exact Tr.i7 (s':=⟨ag 77 [],[],Z⟩) (fS [(42,I),(47,I),(51,I),(56,I),(65,I),(73,Z)]) (aar _) (G6 N t x n _ _ un) (by rw[gV (aar _)];rfl)
 ·exact TrL.rest (fS []) 60 (by kernel_rfl) rfl
def YI(c:eo N t)(j:n∈bn)(hN:N=2*n-1)(g:bf x n=Z):ak Q 116 [.p4 I N t,.t6 x,.t6 n] [] (.bool (gq t x n)) []:=by
 have⟨h,k⟩:=kX g;have a:O x<N:=by omega
 have d:bC x N=Z:=uq h (by omega);unfold gq;cases b:((t (O x)).name != 0) with
 |true=>exact aP (fS [(19,Z),(24,Z),(30,Z)]) 60 func116 (aCA ..) (by rw[d,Me a,b];rfl) rfl
 |false=>
  cases e:C ((t (O x)).bH=t9 32 0) with
  |false=>exact aP (fS [(19,I),(24,Z),(30,Z)]) 60 func116 (aCB N t x n) (by rw[d,Me a,b,e,Me (c.bH _ a)];rfl) rfl
  |true=>
   cases f:iz (t (O x)).un with
   |false=>exact aP (fS [(19,I),(24,I),(30,Z)]) 60 func116 (aCC N t x n) (by rw[d,Me a,b,e,Me (c.bH _ a),Me (c.un _ a),f];rfl) rfl
   |true=>exact J7 c j hN g b e f
end
end Tr
end Go.Proofs.YthlnlcijnoadcaaGreatDoor
namespace Go.Sy
section
variable {P:Program} {w:World}
def nV(l:List (Int×Int)):List (Value×Value):=l.map λp=>(.t6 p.1,.t6 p.2)
def Er(a:Array MapEntry):List (Value×Value):=a.toList.map λe=>(e.key,e.val)
def lu:List (Int×Int)->Int->Int
 | [],_=>0
 |p::l,k=>bif k==p.1 then p.2 else lu l k
def ql:List (Int×Int)->Int->Int->List (Int×Int)
 | [],k,v=>[(k,v)]
 |p::l,k,v=>bif k==p.1 then(k,v)::l else p::ql l k v
def YJ l k v j:lu (ql l k v) j=bif j==k then v else lu l j:=by induction l with
 |nil=>simp[ql,lu]
 |cons p l c=>
  simp[ql,lu]
  cases h:(k==p.1) with
  |true=>
   simp[aja,lu]
   have e:k=p.1:=by simpa using h
   cases a:(j==k) with
   |true=>rfl
   |false=>rw[<-e,a];rfl
  |false=>
   simp[ajB,lu,c]
   cases a:(j==p.1) with
   |true=>
    have d:j=p.1:=by simpa using a
    have:(j==k)=I:=by
     rw[d]
     cases b:(p.1==k) with
     |true=>rw[eq_of_beq b,beq_self_eq_true] at h;exact h
     |false=>rfl
    rw[this];rfl
   |false=>rfl
def lJ:List (Int×Int)->Int->Nat->Option (Nat×Value)
 | [],_,_=>Y
 |p::l,k,i=>bif k==p.1 then E (i,.t6 p.2) else lJ l k (i+1)
def x5 q k:∀a(l:List (Int×Int))i,a.map (λe=>(e.key,e.val))=nV l->Instr.findNow (.int q) (.t6 k) a i=E (lJ l k i)
 | [],[],i,_=>rfl
 | [],_::_,_,h=>by simp[nV] at h
 |_::_,[],_,h=>by simp[nV] at h
 |e::a,p::l,i,h=>by
  simp[nV,agr,aiT,aad] at h;have⟨⟨d,f⟩,b⟩:=h;have c:=x5 q k a l (i+1) b;unfold Instr.findNow;rw[d];simp[Instr.sameNow,akk,lJ]
  cases g:(k==p.1) with
  |true=>simp[f]
  |false=>simpa using c
def QD l k:∀i,(match lJ l k i with|some (_,v)=>v|none=>.t6 0)=.t6 (lu l k):=by induction l with
 |nil=>intro i;rfl
 |cons p l a=>
  intro i;simp[lJ,lu]
  cases k==p.1 with
  |true=>rfl
  |false=>exact a (i+1)
def x6{kt}(a:P.underlying kt=E (.int .i64)){es l}(b:Er es=nV l) k:(Instr.findKey kt (.t6 k) es.toList).run P w=.ok (lJ l k 0) w:=by unfold Instr.findKey;simp[abe,abF a,aaJ,x5 .i64 k es.toList l 0 b,ach]
def lN{kt}(a:P.underlying kt=E (.int .i64))(b:Bool) k:(Instr.checkKey b 10000 kt (.t6 k)).run P w=.ok () w:=by unfold Instr.checkKey;simp[abe,abF a,aaJ,ach]
def G7{t kt et m ck es l}(d:P.underlying t=E (.map kt et))(b:P.underlying kt=E (.int .i64))(f:(zeroValue et).run P w=.ok (.t6 0) w)(c:w.heap[m]?=E (.map es ck))(e:Er es=nV l) k:
  (Instr.lookup t (.map (E m)) (.t6 k) I).run P w=.ok (.t6 (lu l k)) w:=by
 unfold Instr.lookup;simp[abe,abF d,aaJ,MapKept.run_getObj_map c,ach,lN b,x6 b e];have:=QD l k 0;cases a:lJ .. with
 |none=>rw[a] at this;simp[abe,f,aaJ,ach];simpa using this
 |some q=>rw[a] at this;simp[ach,aaJ];simpa using this
def Cs{l k v}:∀{i j}{u},lJ l k i=E (j,u)->i<=j/\(∀es:List MapEntry,es.map (λe=>(e.key,e.val))=nV l->((es.modify (j-i) λe=>{e with key:=.t6 k,val:=.t6 v}).map λe=>(e.key,e.val))=nV (ql l k v)):=by induction l with
 |nil=>intro i j u h;simp[lJ] at h
 |cons p l ih=>
  intro i j u h
  simp[lJ] at h
  cases d:(k==p.1) with
  |true=>
   rw[d] at h
   simp[aja,Mf,aad] at h
   have⟨rfl,_⟩:=h
   refine⟨aar _,λes a=>?_⟩
   cases es with
   |nil=>simp[nV] at a
   |cons e es=>
    simp[nV,agr,aiT] at a
    simp only[Nat.sub_self,List.modify_zero_cons,agr,ql,d,aja,nV,aiT]
    exact⟨trivial,a.2⟩
  |false=>
   rw[d] at h
   have⟨h1,h2⟩:=ih h
   refine⟨by omega,λes a=>?_⟩
   cases es with
   |nil=>simp[nV] at a
   |cons e es=>
    simp[nV,agr,aiT] at a
    rw[show j-i=(j-(i+1))+1 by omega]
    simp[List.modify_succ_cons,agr,ql,d,ajB,nV,aiT]
    exact⟨a.1,h2 es a.2⟩
def J8{l k v}:∀{i},lJ l k i=Y->ql l k v=l++[(k,v)]:=by induction l with
 |nil=>intro i _;rfl
 |cons p l b=>
  intro i h;simp[lJ] at h
  cases a:(k==p.1) with
  |true=>rw[a] at h;simp at h
  |false=>
   rw[a] at h
   simp[ql,a,ajB,b h,List.cons_append]
def QE{l k}:∀{i j}{u},lJ l k i=E (j,u)->∀a:List MapEntry,a.map (λe=>(e.key,e.val))=nV l->(a[j-i]?).map (·.key)=E (.t6 k):=by induction l with
 |nil=>intro i j u h;simp[lJ] at h
 |cons p l d=>intro i j u h a b;cases a with
  |nil=>simp[nV] at b
  |cons e a=>
   simp[nV,agr,aiT,aad] at b
   simp[lJ] at h
   cases c:(k==p.1) with
   |true=>
    rw[c] at h
    simp[aja,Mf,aad] at h
    have⟨rfl,_⟩:=h
    have:k=p.1:=by simpa using c
    simp[b.1.1,this]
   |false=>
    rw[c] at h
    have f:=(Cs (v:=0) h).1
    have:=d h a b.2
    rw[show j-i=(j-(i+1))+1 by omega]
    simpa using this
def G8{t kt et m s b l}(r:P.underlying t=E (.map kt et))(p:P.underlying kt=E (.int .i64))(e:w.heap[m]?=E (.map b s))(d:Er b=nV l) k v:
  ∃c f,(Instr.mapUpdate t (.map (E m)) (.t6 k) (.t6 v)).run P w=.ok () (w.putObj m (.map c f))/\Er c=nV (ql l k v):=by
 unfold Instr.mapUpdate;simp only[abe,abF r,aaJ,MapKept.run_getObj_map e,lN p,x6 p d];cases g:lJ .. with
 |none=>
  refine⟨_,_,MapKept.run_setObj_map _ e,?_⟩
  rw[J8 g]
  unfold Er at d ⊢
  simp[nV,d]
 |some q=>
  have⟨j,u⟩:=q
  have a:=QE g b.toList d
  have o:=(Cs (v:=v) g).2 b.toList d
  rw[Nat.sub_zero] at a o
  have h:(Instr.keyThatStays (((b[j]?).map (·.key)).getD (.t6 k)) (.t6 k)).run P w=.ok (.t6 k) w:=by
   rw[show b[j]?=b.toList[j]? by simp,a]
   simp[Instr.keyThatStays,Instr.sameBits]
  simp only[abe,h,aaJ]
  refine⟨_,_,MapKept.run_setObj_map _ e,?_⟩
  unfold Er
  rw[Array.toList_modify]
  exact o
end
section
variable {P:Program} {ro:Option Nat} {k:Nat}
def bM.ajA{B e h w w' m}(R:bM B e h w)(h1:w'.os=w.os)(h2:w'.tape=w.tape)(J:w'.output=w.output)(M:w.heap.size<=w'.heap.size)(D:∀n,n<w.heap.size->n≠m->w'.heap[n]?=w.heap[n]?)(hB:B.w.heap.size<=m)
  (j:w.heap[m]?=Y\/∃f l,w.heap[m]?=E (.map f l)):bM B e h w':=by
 have jy:∀{n}{o:Obj},w.heap[n]?=E o->(∀f l,o≠.map f l)->w'.heap[n]?=E o:=λ{n o} b d=>by
  rw[D n (abE.1 b).1 (λq=>by
   subst q
   rcases j with j|⟨f,l,j⟩<;>rw[j] at b
   ·cases b
   ·cases b;exact d _ _ rfl)];exact b
 exact{
  os:=h1.trans R.os,tape:=h2.trans R.tape,output:=J.trans R.output
  size:=af3 R.size M
  inj:=R.inj,dom:=R.dom,gM:=R.gM
  gN:=λn c t y N=>jy (R.gN n c t y N) (by simp)
  bN:=R.bN,fU:=R.fU,cM:=R.cM,b6:=R.b6,cE:=R.cE,n0:=R.n0,dK:=R.dK
  gr:=λi F a=>(R.gr i F a).imp id λ⟨p,o,v,u,r⟩=>by
   obtain⟨c,t,rfl,s,L,G⟩:=r
   exact⟨p,_,v,jy u (by simp),c,t,rfl,s,L,G⟩
  gap:=λi g a=>⟨(R.gap i g a).1,(R.gap i g a).2.le (λn o d=>jy d (by simp)) rfl ⟨λ_ _ h=>h,λ_ _ h=>h,aar _⟩⟩
  yi:=R.yi,yb:=R.yb
  old:=λn d x K=>by rw[D n (by have:=R.size;omega) (by omega)];exact R.old n d x K
  lz:=λi p a=>by
   have⟨o,Q,v,u,r⟩:=R.lz i p a
   obtain⟨c,H,t,y,rfl,rfl,s⟩:=r
   exact⟨_,_,v,jy u (by simp),c,H,t,y,rfl,rfl,s⟩
  kr:=R.kr,iT:=R.iT
  g7:=λq z=>⟨jy (R.g7 q z).1 (by simp),(R.g7 q z).2⟩
  jG:=R.jG}
def iy(m:Nat)(l:List (Int×Int)):HP:=λB e w=>B.w.heap.size<=m/\∃a b,w.heap[m]?=E (.map a b)/\Er a=nV l
def iy.bJ m l:fT (iy m l):=λB _ h w e' v w' ms R ⟨s,f,o,a,j⟩ S=>by
 refine⟨s,f,o,?_,j⟩
 have d:=(abE.1 a).1
 rw[S.old m d (λi p u q=>?_) (λhl=>?_)]
 ·exact a
 ·have⟨c,t,g,_⟩:=R.gu u
  rw[q,a] at g;cases g
 ·obtain⟨i,L,n,rfl⟩:=ji.1 hl
  have⟨_,_,r,e,_⟩:=R.gap i _ n
  rw[a] at e;cases e
def OX.op{ops i o s H H' v}(hi:ops[i]?=E o)(p:∀c,o.op≠.defer c)(y:eC ops s.t o=E Z)
  (g:∀(B:dj)(e:cw)(w:World)(t':List Value)(d:List Deferred),TR e s.t t'->bM B e s.h w->H B e w->∃v' w',(execOp (Act.eval ⟨⟨t'⟩,d⟩) o).run P w=.ok (.value v') w'/\VR e v v'/\bM B e s.h w'/\H' B e w'):OX P ro k ops [i] s H ⟨bK s.t o.dst v,s.h,s.ob⟩ H':=by intro B e w t' d Q z rest hB b R r n;rw[List.singleton_append,wpOpsIn_cons];unfold wpOpIn;rw[hi];simp only[];rw[ae8 (fJ b y)];have⟨v',w',u,x,l,j⟩:=g B e w t' (n6 e.m++d) b R r;refine⟨λ_ _=>trivial,?_⟩;rw[Oper.semAt_eq _ _ _ p,u];obtain⟨f,q,a⟩:=TR.put b x;show wpOpsIn _ _ _ _ _ _ (Act.put _ _ _) _;rw[q];exact n e w' f a l j
def OX.opU{ops i o s H H'}(hi:ops[i]?=E o)(l:∀c,o.op≠.defer c)(r:o.dst=Y)(q:eC ops s.t o=E Z)
  (g:∀(B:dj)(e:cw)(w:World)(t':List Value)(d:List Deferred),TR e s.t t'->bM B e s.h w->H B e w->∃w',(execOp (Act.eval ⟨⟨t'⟩,d⟩) o).run P w=.ok .skip w'/\bM B e s.h w'/\H' B e w'):OX P ro k ops [i] s H s H':=by intro B e w t' d Q u rest hB a R j n;rw[List.singleton_append,wpOpsIn_cons];unfold wpOpIn;rw[hi];simp only[];rw[ae8 (fJ a q)];have⟨w',p,f,b⟩:=g B e w t' (n6 e.m++d) a R j;refine⟨λ_ _=>trivial,?_⟩;rw[Oper.semAt_eq _ _ _ l,p];show wpOpsIn _ _ _ _ _ _ (Act.put _ _ _) _;rw[r];exact n e w' t' a f b
def OX.ask{ops i dst s t kt et xm xk m l x}(hi:(ops[i]?).map (λo=>(o.dst,o.op))=E (dst,.lookup t xm xk I))(b:(ops[i]?).bind (eC ops s.t)=E Z)(p:P.underlying t=E (.map kt et))(r:P.underlying kt=E (.int .i64))(v:gw P et=E (.t6 0))
  (h1:ev s.t xm=E (.nl (.map (E m))))(h2:ev s.t xk=E (.t6 x)):OX P ro k ops [i] s (iy m l) ⟨bK s.t dst (.t6 (lu l x)),s.h,s.ob⟩ (iy m l):=by have⟨o,j,b⟩:=acU.1 b;have a:=hi;rw[j] at a;clear hi;have hi:=j;simp only[acs,Mf,aad] at a;have⟨rfl,c⟩:=a;refine OX.op hi (by rw[c];simp) b λB _ w n d g R u=>?_;have⟨hB,q,y,f,e⟩:=u;have e1:Act.eval ⟨⟨n⟩,d⟩ xm=.map (E m):=aT g h1;have e2:Act.eval ⟨⟨n⟩,d⟩ xk=.t6 x:=aT g h2;refine⟨.t6 (lu l x),w,?_,rfl,R,hB,q,y,f,e⟩;unfold execOp;rw[c];simp only[abe];rw[e1,e2,G7 p r (g9 v w) f e];rfl
def OX.auZ{ops i s t kt et xm xk xv m l x v}(hi:(ops[i]?).map (λo=>(o.dst,o.op))=E (Y,.mapUpdate t xm xk xv))(g:(ops[i]?).bind (eC ops s.t)=E Z)(p:P.underlying t=E (.map kt et))(D:P.underlying kt=E (.int .i64))
  (h1:ev s.t xm=E (.nl (.map (E m))))(h2:ev s.t xk=E (.t6 x))(u:ev s.t xv=E (.t6 v)):OX P ro k ops [i] s (iy m l) s (iy m (ql l x v)):=by
 have⟨o,n,g⟩:=acU.1 g
 have f:=hi
 rw[n] at f
 clear hi
 have hi:=n
 simp only[acs,Mf,aad] at f
 have⟨y,j⟩:=f
 refine OX.opU hi (by rw[j];simp) y g λB _ w h d e R F=>?_
 have⟨hB,q,H,c,z⟩:=F
 have e1:Act.eval ⟨⟨h⟩,d⟩ xm=.map (E m):=aT e h1
 have e2:Act.eval ⟨⟨h⟩,d⟩ xk=.t6 x:=aT e h2
 have r:Act.eval ⟨⟨h⟩,d⟩ xv=.t6 v:=aT e u
 have⟨a,b,J,G⟩:=G8 p D c z x v
 refine⟨w.putObj m (.map a b),?_,?_,hB,a,b,?_,G⟩
 ·unfold execOp
  rw[j]
  simp only[abe]
  rw[e1,e2,r,J]
  rfl
 ·exact R.ajA rfl rfl rfl (by rw[World.putObj_size];exact aar _) (λn _ B=>World.putObj_heap_other B) hB (.inr ⟨q,H,c⟩)
 ·have:=(abE.1 c).1
  simp[World.putObj,this]
def Z0(P:Program)(ro:Option Nat)(k:Nat)(ops:Array Oper)(is:List Nat)(s:St)(H:HP)(F:Nat->St)(G:Nat->HP):Prop:=
 ∀(B:dj)(e:cw)(w:World)(g:List Value)(d:List Deferred)(Q:Exit->Act->World->Prop)(f:Nat)(rest:List Nat),B.k<=k->TR e s.t g->bM B e s.h w->H B e w->
  (∀m b c a,TR b (F m).t a->bM B b (F m).h c->G m B b c->wpOpsIn (wF ro) f P ops Q rest ⟨⟨a⟩,n6 b.m++d⟩ c)->wpOpsIn (wF ro) f P ops Q (is++rest) ⟨⟨g⟩,n6 e.m++d⟩ w
def Z0.append{ops is js s H F F' G G'}(h1:Z0 P ro k ops is s H F G)(h2:∀m,OX P ro k ops js (F m) (G m) (F' m) (G' m)):Z0 P ro k ops (is++js) s H F' G':=
 λB e w j d Q a rest hB f R b h=>by rw[aeH];exact h1 B e w j d Q a (js++rest) hB f R b λm e1 i t1 l g c=>h2 m B e1 i t1 d Q a rest hB l g c (h m)
def Z0.region{ops s s' H H' F G b x} id(h:Z0 P ro k ops (t8 ops.size) s H F G)(g:∀m,TrX P ro k b (F m) (G m) x s' H'):TrX P ro k (.seq (.region id ops I) b) s H x s' H':=
 λB e w o d Q a hB i R c l=>wpIn_seq (wpIn_region (by have:=h B e w o d (Exit.then (b.wpIn (wF ro) a P Q) Q) a [] hB i R c λm e1 n t1 p j f=>g m B e1 n t1 d Q a hB p j f l;rwa [acj] at this))
def Z0.make{ops i dst s t}(hi:(ops[i]?).map (λo=>(o.dst,o.op))=E (dst,.makeMap t Y))(b:(ops[i]?).bind (eC ops s.t)=E Z):Z0 P ro k ops [i] s (λ_ _ _=>True) (λm=>⟨bK s.t dst (.nl (.map (E m))),s.h,s.ob⟩) (λm=>iy m []):=by
 have⟨o,l,b⟩:=acU.1 b
 have a:=hi
 rw[l] at a
 clear hi
 have hi:=l
 simp only[acs,Mf,aad] at a
 have⟨rfl,g⟩:=a
 intro B e w u d Q y rest hB j R x p
 rw[List.singleton_append,wpOpsIn_cons]
 unfold wpOpIn
 rw[hi]
 simp only[]
 rw[ae8 (fJ j b)]
 refine⟨λ_ _=>trivial,?_⟩
 rw[Oper.semAt_eq _ _ _ (by rw[g];simp)]
 have r:(execOp (Act.eval ⟨⟨u⟩,n6 e.m++d⟩) o).run P w=.ok (.value (.map (E w.heap.size))) (w.alloc (.map #[] 0)):=by
  unfold execOp
  rw[g]
  simp[Instr.makeMap,newObj,Sem.run]
 rw[r]
 obtain⟨c,q,f⟩:=TR.put j (show VR e (.nl (.map (E w.heap.size))) (.map (E w.heap.size)) from rfl)
 show wpOpsIn _ _ _ _ _ _ (Act.put _ _ _) _
 rw[q]
 refine p _ e _ c f (R.ajA rfl rfl rfl (by rw[aiR];omega) (λn v _=>heap_alloc_old w _ n v) R.size (.inl (by simp))) ⟨R.size,_,_,heap_alloc_new w _,rfl⟩
end
section
variable {P:Program} {ro:Option Nat} {k:Nat} {H H1 H':HP}
def gj(H:HP):Prop:=∀B e a w,H B e w->H B a w
def iy.cj m l:gj (iy m l):=λ_ _ _ _ h=>h
def TrX.QO(l:gj H'){c s s1 s' x}(h:TrX P ro k c s H x s1 H')(g:bG k s1 s'):TrX P ro k c s H x s' H':=
 TrX.post h λB e w j hB d R a=>by have⟨m,i,f,b⟩:=g B e w j hB d R;exact⟨m,i,f,b,l _ _ _ _ a⟩
def TrX.Bb{c s s' x}(h:TrX P ro k c s H x s' H1)(g:∀B e w,H1 B e w->H' B e w):TrX P ro k c s H x s' H':=
 λB e w n d Q f hB b R a i=>h B e w n d Q f hB b R a λe2 l t2 m o j=>i e2 l t2 m o (g _ _ _ j)
def TrX.pre(o:gj H){c s s1 s' x}(h:TrX P ro k c s1 H x s' H')(g:bG k s s1):TrX P ro k c s H x s' H':=
 λB e w a d Q j hB i R b l=>by have⟨e1,n,m,f⟩:=g B e w a hB i R;rw[<-n];exact h B e1 w a d Q j hB m f (o _ _ _ _ b) l
def TrX.CI(r:fT H){b s' x l}{s s1:St}(g:TrL P ro (A s.h) l s .normal s1)(h:TrX P ro k b s1 H x s' H'):TrX P ro k (l.foldr .seq b) s H x s' H':=by
 intro B e w D d Q q hB hl R hh y
 have o:∀(l:List Code)(j:St),TrL P ro (A s.h) l j .normal s1->∀(e':cw)(f:World)(t2:List Value),TR e' j.t t2->bM (fC e s.h w) e' j.h f->(l.foldr Code.seq b).wpIn (wF ro) q P Q ⟨⟨t2⟩,n6 e'.m++(n6 e.m++d)⟩ f:=by
  intro l
  induction l with
  |nil=>
   intro j g e' f t2 i n
   have⟨_,rfl⟩:=g
   have:=h B {e' with m:=e'.m++e.m} f t2 d Q q hB (TR.mono (e:=e') (e':={e' with m:=e'.m++e.m}) ⟨λ_ _ h=>h,λ_ _ h=>h,aar _⟩ i) (R.y8 n) (r B e s.h w e' _ f _ R hh n) y
   rw[tH,aeH] at this
   exact this
  |cons a l ih=>
   intro j g e' f t2 i n
   rcases g with⟨u,F,z⟩|⟨hx,_⟩
   ·exact wpIn_seq (F _ e' f t2 _ _ q (aar _) i n λe3 w3 t3 p v=>ih u z e3 w3 t3 p v)
   ·exact absurd rfl hx
 have:=o l s g (e.uO s.h) w D (hl.mono (jH e s.h)) R.self
 exact this
def TrX.jh{Γ}(v:aq P Γ)(j:fT H)(u:gj H) n live(m:Nat)(o:k<=m){l:List Code}{b:Code}{s s1 s':St}{x:Exit}(f:Bool)
  (e:jd (az live m ((bh P Γ n (A s.h) (A l) l s).x3))=E (.normal,s1.t,s1.h))(c:uF (az live m ((bh P Γ n (A s.h) (A l) l s).x3))=f)(h:f=Z)
  (g:TrX P ro k b s1 H x s' H'):TrX P ro k (l.foldr .seq b) s H x s' H':=by unfold jd az at e;unfold uF az at c;cases d:bh P Γ n (A s.h) (A l) l s with
 |none=>rw[d] at e;cases e
 |some q=>
  rw[d] at e c
  simp only[acs,ajZ] at e c
  cases a:q.cut live m with
  |none=>rw[a] at e;cases e
  |some w=>
   rw[a] at e c
   simp only[acs,Mf,aad,true_and] at e c
   have⟨p,r⟩:=e
   have i:q.ob=Z:=by
    unfold St.cut St.dS at a
    split at a
    ·cases a;exact c.trans h
    ·cases a
   have:=(m8 v n (A l) (ro:=ro) d i (by rw[List.drop_length];exact⟨rfl,rfl⟩)).1
   exact TrX.CI j this (g.pre u ((bG.cut o a).trans (bG.bR p r)))
theorem TrX.i5{Γ}(v:aq P Γ)(j:fT H)(u:gj H){n}{live}{m:Nat}(o:k<=m){l:List Code}{b:Code}{s s1 s':St}{x:Exit}{f:Bool}(e:aD (az live m ((bh P Γ n (A s.h) (A l) l s).x3))=(E (.normal,s1.t,s1.h),f))(h:f=Z)(g:TrX P ro k b s1 H x s' H'):TrX P ro k (l.foldr .seq b) s H x s' H':=TrX.jh v j u n live m o f (bu e) (bz e) h g
def TrX.bg{Γ}(p:aq P Γ)(g:fT H)(o:gj H) n live m(i:k<=m){c s s' x} ob(e:jd (az live m (Sy.exec P Γ n (A s.h) c s))=E (x,s'.t,s'.h))(b:uF (az live m (Sy.exec P Γ n (A s.h) c s))=ob)(h:ob=Z):TrX P ro k c s H x s' H:=by unfold jd az at e;unfold uF az at b;cases d:Sy.exec P Γ n (A s.h) c s with
 |none=>rw[d] at e;cases e
 |some q=>
  have⟨y,q⟩:=q
  rw[d] at e b
  simp only[ajZ] at e b
  cases a:q.cut live m with
  |none=>rw[a] at e;cases e
  |some r=>
   rw[a] at e b
   simp only[acs,Mf,aad] at e b
   have⟨rfl,j,l⟩:=e
   have f:q.ob=Z:=by
    unfold St.cut St.dS at a
    split at a
    ·cases a;exact b.trans h
    ·cases a
   exact TrX.QO o (TrX.frame g ((mh p n ro (A s.h)).1 _ _ _ _ d f)) ((bG.cut i a).trans (bG.bR j l))
theorem TrX.i4{Γ}(p:aq P Γ)(g:fT H)(o:gj H){n}{live}{m}(i:k<=m){c s s' x}{ob}(e:aD (az live m (Sy.exec P Γ n (A s.h) c s))=(E (x,s'.t,s'.h),ob))(h:ob=Z):TrX P ro k c s H x s' H:=TrX.bg p g o n live m i ob (bu e) (bz e) h
def OX.QO(q:gj H'){ops is s s1 s'}(h:OX P ro k ops is s H s1 H')(g:bG k s1 s'):OX P ro k ops is s H s' H':=
 λB e w r d Q p rest hB l R o c=>h B e w r d Q p rest hB l R o λe2 a t2 n b f=>by have⟨e1,m,i,j⟩:=g B e2 a t2 hB n b;rw[<-m];exact c e1 a t2 i j (q _ _ _ _ f)
def OX.mY{Γ}(o:aq P Γ)(f:fT H)(l:gj H) n live m(g:k<=m){ops is s s'} ob
  (e:jd (az live m ((cg P (c7 P Γ λk=>Sy.exec P Γ n k) Γ.sym Γ.eZ (A s.h) ops is s).x3))=E (.normal,s'.t,s'.h))(b:uF (az live m ((cg P (c7 P Γ λk=>Sy.exec P Γ n k) Γ.sym Γ.eZ (A s.h) ops is s).x3))=ob)(h:ob=Z):OX P ro k ops is s H s' H:=by unfold jd az at e;unfold uF az at b;cases c:cg P (c7 P Γ λk=>Sy.exec P Γ n k) Γ.sym Γ.eZ (A s.h) ops is s with
 |none=>rw[c] at e;cases e
 |some q=>
  rw[c] at e b
  simp only[acs,ajZ] at e b
  cases a:q.cut live m with
  |none=>rw[a] at e;cases e
  |some p=>
   rw[a] at e b
   simp only[acs,Mf,aad,true_and] at e b
   have⟨i,j⟩:=e
   have d:q.ob=Z:=by
    unfold St.cut St.dS at a
    split at a
    ·cases a;exact b.trans h
    ·cases a
   exact OX.QO l (OX.run o f n c d) ((bG.cut g a).trans (bG.bR i j))
theorem OX.i3{Γ}(o:aq P Γ)(f:fT H)(l:gj H){n}{live}{m}(g:k<=m){ops is s s'}{ob}(e:aD (az live m ((cg P (c7 P Γ λk=>Sy.exec P Γ n k) Γ.sym Γ.eZ (A s.h) ops is s).x3))=(E (.normal,s'.t,s'.h),ob))(h:ob=Z):OX P ro k ops is s H s' H:=OX.mY o f l n live m g ob (bu e) (bz e) h
def cq:Code->Code
 | .seq a _=>a
 |c=>c
def br:Code->Code
 | .seq _ b=>b
 |c=>c
def cdA:Code->Code
 | .cond _ a _=>a
 |c=>c
def cdB:Code->Code
 | .cond _ _ b=>b
 |c=>c
def bO:Code->Array Oper
 | .region _ a _=>a
 |_=>#[]
end
end Go.Sy
namespace Go.Proofs.YthlnlcijnoadcaaGreatDoor
namespace Tr
open Sy
def rK(N:Nat)(x n:Int):Bool:=bn.any λm=>C (n=m)&&C (N=2*m-1)&&bf x m
def AV{N x n}(h:rK N x n=Z):∃m∈bn,n=(m:Int)/\N=2*m-1/\bf x m=Z:=by have⟨m,a,h⟩:=afJ.1 h;simp only[No,aac] at h;exact⟨m,a,h.1.1,h.1.2,h.2⟩
def YK:List SV->Option (SV×List Blk×Bool)
 | [.aO I 99 N g,.int .i64 x,.int .i64 n]=>E (.bool (gq (ai g) x (O n)),[],cX N g&&rK N x n)
 |_=>Y
def amg:aK Q:=.val 116 _ func116 (by decide) rfl Z 0 YK λvs v new e=>by
 unfold YK at e
 split at e
 ·simp only[Mf,aad,No] at e
  have⟨rfl,rfl,c,f⟩:=e
  obtain⟨m,b,rfl,hN,d⟩:=AV f
  exact ak.conv (YI (eo.of c (by have:=cn b;omega)) b hN d) ⟨VE.kM c,VE.refl _,VE.refl _,trivial⟩ trivial (VE.refl _) trivial
 ·cases e
def YL:List SV->Option (SV×List Blk×Bool)
 | [.aO I 99 N g,.int .i64 a]=>E (.bool (fm N (ai g) (O a)),[],cX N g&&C (N<=71)&&C (0<=a)&&C (a<=71))
 |_=>Y
def amh:aK Q:=.val 117 _ func117 (by decide) rfl Z 0 YL λvs v new e=>by
 unfold YL at e
 split at e
 ·simp only[Mf,aad,No,aac] at e
  have⟨rfl,rfl,⟨⟨c,h2⟩,b⟩,h4⟩:=e
  obtain⟨y,rfl⟩:=ac7 b
  exact ak.conv (Yw (by omega) (by omega)) ⟨VE.kM c,VE.refl _,trivial⟩ trivial (VE.refl _) trivial
 ·cases e
def au1(b:Bool):aK Q:=.val 115 _ func115 (by decide) rfl Z 0 (λvs=>match vs with
 | [.agg [.bool u,.int .i64 n,.af .u8 32 k,.af .u8 32 s,.af .u8 32 p,.ro I .i64 a]]=>E (.bool b,[],Om u n a==b)
 |_=>Y) λvs v new e=>by
 split at e
 ·simp only[Mf,aad,afP] at e
  have⟨rfl,rfl,h⟩:=e
  rw[<-h]
  exact adO _ _ _ _ _ _
 ·cases e
def CS:aK Q:=.val 91 _ func91 (by decide) rfl I 0 (λvs=>match vs with
 | [.int .i64 n]=>E (.t6 (aY n),[],Z)
 |_=>Y) λvs v new e=>by
 split at e
 ·simp only[Mf,aad] at e;have⟨rfl,rfl,_⟩:=e;exact Qr _
 ·cases e
def nH(b:Bool)(l:List (Nat×Bool)):cu:=mk [CS,au1 b,auN,amg,amh] [] (uT l)
def eB(b:Bool) l:aq Q (nH b l):=au _ aN.nil _ _
def D2:Code:=aI f77
def Z1:Code:=br (br (br (br D2)))
def G9:Code:=aj (aj (br (cq Z1)))
def Z2:Code:=aj (cq (br (br G9)))
def ckJ:Code:=aj (cq (br (br Z2)))
def GH:Code:=cdB (br ckJ)
def Rf:Code:=cdA (br GH)
def Br:SV:=.iface 112 (.t6 3)
abbrev trV(N:Nat)(t:Nat->aE):SV:=.p4 I N t
def ckX(N:Nat)(t:Nat->aE)(n:Int)(m:Nat)(i:Int)(x:List (Nat×SV))(h:List Blk):St:=⟨ag 60 ([(0,trV N t),(3,.t6 n),(4,.nl (.map (E m))),(15,trV N t),(16,.t6 N),(17,.t6 i)]++x),h,Z⟩
def A7(N:Nat)(t:Nat->aE)(n:Int)(m:Nat)(i:Int):St:=ckX N t n m i [] []
def qt(N:Nat)(t:Nat->aE)(n:Int)(m:Nat)(i:Int)(x:List (Nat×SV)):St:=ckX N t n m i ([(5,.t6 i),(6,.r5 0)]++x) [.b (t (O i)).cells]
def YM(v:SV):St:=⟨ag 60 [(2,v)],[],Z⟩
def Rg(N:Nat)(t:Nat->aE)(n:Int)(x:List (Nat×SV)):St:=⟨ag 60 ([(0,trV N t),(3,.t6 n)]++x),[],Z⟩
def aef N(t:Nat->aE):(aV Q (nH Z [(12,Z)]) 60 f77 [trV N t] []).v3=E (Br,aa Z (aY (N:Int)==0)):=by kernel_rfl
def Ct N(t:Nat->aE):aD (az [0,3] 0 ((bh Q (nH Z [(12,I)]) 60 0 3 [cq D2,cq (br D2),cq (br (br D2))] ⟨aU f77.ntmps [trV N t],[],Z⟩).x3))=(E (.normal,(Rg N t (aY N) []).t,[]),(aa Z !aY (N:Int)==0)):=by kernel_rfl
def aeg N t:=bu (Ct N t)
def YN N t:=bz (Ct N t)
def MT N(t:Nat->aE) n m:aD (az [0,3,4] 0 ((cg Q (c7 Q (nH Z []) λk=>Sy.exec Q (nH Z []) 60 k) (nH Z []).sym (nH Z []).eZ 0 (bO (cq (br (br (br D2))))) [1] ⟨bK (Rg N t n []).t (E 14) (.nl (.map (E m))),[],Z⟩).x3))=(E (.normal,(Rg N t n [(4,.nl (.map (E m)))]).t,[]),(Z)):=by kernel_rfl
def Cu N(t:Nat->aE) n m:aD (az [0,3,4,15,16,17] 0 (exec Q (nH Z []) 60 0 (cq (cq Z1)) (Rg N t n [(4,.nl (.map (E m)))])))=(E (.normal,(A7 N t n m 0).t,[]),(Z)):=by kernel_rfl
def MU N(t:Nat->aE) n m i:aD (az [0,3,4,15,16,17] 0 (exec Q (nH Z [(18,Z),(26,Z),(52,I)]) 60 0 G9 (A7 N t n m i)))=(E (.normal,(A7 N t n m (i64.wrap (i+1))).t,[]),(aa (aa (aa (aa (aa (aa Z (C (i<(N:Int)))) (bC i N)) (Z&&(C (O i<N)&&Z))) !(t (O i)).1) (aa Z (qd (t (O i)).key (t (O i)).bH (t (O i)).cF (t (O i)).un&&Z))) !!rH (t (O i)).used I (t (O i)).name 0 (t (O i)).key (t (O i)).bH (t (O i)).cF (t (O i)).un (t9 32 0) (t9 32 0) (t9 32 0) [])):=by kernel_rfl
def au3 N t n m i:=bu (MU N t n m i)
def amk N t n m i:=bz (MU N t n m i)
def MV N(t:Nat->aE) n m i:aD (az [2] 0 (exec Q (nH Z [(18,Z),(26,Z),(52,Z)]) 60 0 G9 (A7 N t n m i)))=(E (.ret,(YM Br).t,[]),(aa (aa (aa (aa (aa (aa Z (C (i<(N:Int)))) (bC i N)) (Z&&(C (O i<N)&&Z))) !(t (O i)).1) (aa Z (qd (t (O i)).key (t (O i)).bH (t (O i)).cF (t (O i)).un&&Z))) !rH (t (O i)).used I (t (O i)).name 0 (t (O i)).key (t (O i)).bH (t (O i)).cF (t (O i)).un (t9 32 0) (t9 32 0) (t9 32 0) [])):=by kernel_rfl
def MW N(t:Nat->aE) n m i:aD (az [0,3,4,15,16,17] 0 (exec Q (nH Z [(18,Z),(26,I),(33,I),(52,I)]) 60 0 G9 (A7 N t n m i)))=(E (.normal,(A7 N t n m (i64.wrap (i+1))).t,[]),(aa (aa (aa (aa (aa (aa (aa Z (C (i<(N:Int)))) (bC i N)) (Z&&(C (O i<N)&&Z))) !!(t (O i)).1) !i.tmod 2==0) (aa Z ((cX N λi=>ah (aA t i))&&rK N i n))) !!gq (ai λi=>ah (aA t i)) i (O n))):=by kernel_rfl
def au5 N t n m i:=bu (MW N t n m i)
def amm N t n m i:=bz (MW N t n m i)
def MX N(t:Nat->aE) n m i:aD (az [2] 0 (exec Q (nH Z [(18,Z),(26,I),(33,I),(52,Z)]) 60 0 G9 (A7 N t n m i)))=(E (.ret,(YM Br).t,[]),(aa (aa (aa (aa (aa (aa (aa Z (C (i<(N:Int)))) (bC i N)) (Z&&(C (O i<N)&&Z))) !!(t (O i)).1) !i.tmod 2==0) (aa Z ((cX N λi=>ah (aA t i))&&rK N i n))) !gq (ai λi=>ah (aA t i)) i (O n))):=by kernel_rfl
def He N(t:Nat->aE) n m i:aD (az [0,3] 0 (exec Q (nH Z [(18,I)]) 60 0 G9 (A7 N t n m i)))=(E (.exit 0,(Rg N t n []).t,[]),(aa Z !C (i<(N:Int)))):=by kernel_rfl
def JY N t n m i:=bu (He N t n m i)
def MY N(t:Nat->aE) n m i:aD (az [0,3,4,15,16,17] 0 ((bh Q (nH Z [(18,Z)]) 60 0 2 [cq G9,cq (br G9)] (A7 N t n m i)).x3))=(E (.normal,(A7 N t n m i).t,[]),(aa Z (C (i<(N:Int))))):=by kernel_rfl
def MZ N(t:Nat->aE) n m i:aD (az [0,3,4,5,6,15,16,17] 1 ((bh Q (nH Z []) 60 0 2 [cq Z2,cq (br Z2)] (A7 N t n m i)).x3))=(E (.normal,(qt N t n m i []).t,[.b (t (O i)).cells]),(aa (aa Z (bC i N)) (Z&&(C (O i<N)&&Z)))):=by kernel_rfl
def M0 N(t:Nat->aE) n m i:aD (az [0,3,4,5,6,15,16,17,26] 1 ((bh Q (nH Z []) 60 1 1 [cq ckJ] (qt N t n m i [])).x3))=(E (.normal,(qt N t n m i [(26,.bool (!(t (O i)).used))]).t,[.b (t (O i)).cells]),(Z)):=by kernel_rfl
def au7 N t n m i:=bu (M0 N t n m i)
def YR N t n m i:=bz (M0 N t n m i)
def M1 N(t:Nat->aE) n m i(b:Bool):aD (az [0,3,4,5,6,15,16,17,33] 1 ((bh Q (nH Z []) 60 1 1 [cq GH] (qt N t n m i [(26,.bool b)])).x3))=(E (.normal,(qt N t n m i [(33,.bool (i.tmod 2==0))]).t,[.b (t (O i)).cells]),(Z)):=by kernel_rfl
def au8 N t n m i b:=bu (M1 N t n m i b)
def YS N t n m i b:=bz (M1 N t n m i b)
def M3 N(t:Nat->aE) n m i(b:Bool):aD (az [0,3,4,5,6,15,16,17,37,39] 1 ((cg Q (c7 Q (nH Z []) λk=>Sy.exec Q (nH Z []) 60 k) (nH Z []).sym (nH Z []).eZ 1 (bO (cq Rf)) [0,1,2] (qt N t n m i [(33,.bool b)])).x3))=(E (.normal,(qt N t n m i [(37,.nl (.map (E m))),(39,.t6 (t (O i)).name)]).t,[.b (t (O i)).cells]),(Z)):=by kernel_rfl
def M4 N(t:Nat->aE) n m i y:aD (az [0,3,4,5,6,15,16,17,37,39,41] 1 ((cg Q (c7 Q (nH Z []) λk=>Sy.exec Q (nH Z []) 60 k) (nH Z []).sym (nH Z []).eZ 1 (bO (cq Rf)) [4] ⟨bK (qt N t n m i [(37,.nl (.map (E m))),(39,.t6 (t (O i)).name)]).t (E 40) (.t6 y),[.b (t (O i)).cells],Z⟩).x3))=(E (.normal,(qt N t n m i [(37,.nl (.map (E m))),(39,.t6 (t (O i)).name),(41,.t6 (i64.wrap (y+1)))]).t,[.b (t (O i)).cells]),(Z)):=by kernel_rfl
def M5 N(t:Nat->aE) n m i y:aD (az [0,3,4,5,6,15,16,17,44,45,47] 1 ((cg Q (c7 Q (nH Z []) λk=>Sy.exec Q (nH Z []) 60 k) (nH Z []).sym (nH Z []).eZ 1 (bO (br Rf)) [0,1,2,3,4,5] (qt N t n m i [(37,.nl (.map (E m))),(39,.t6 (t (O i)).name),(41,.t6 y)])).x3))=(E (.normal,(qt N t n m i [(44,.bool Z),(45,.nl (.map (E m))),(47,.t6 (t (O i)).name)]).t,[.b (t (O i)).cells]),(aa Z (aa Z (Om (t (O i)).used (t (O i)).name (t (O i)).un==Z)))):=by kernel_rfl
def M6 N(t:Nat->aE) n m i y:aD (az [0,3,4,5,6,7,15,16,17] 1 ((cg Q (c7 Q (nH Z []) λk=>Sy.exec Q (nH Z []) 60 k) (nH Z []).sym (nH Z []).eZ 1 (bO (br Rf)) [7,8,9] ⟨bK (qt N t n m i [(44,.bool Z),(45,.nl (.map (E m))),(47,.t6 (t (O i)).name)]).t (E 48) (.t6 y),[.b (t (O i)).cells],Z⟩).x3))=(E (.normal,(qt N t n m i [(7,.bool (y==1))]).t,[.b (t (O i)).cells]),(Z)):=by kernel_rfl
def M7 N(t:Nat->aE) n m i y:aD (az [0,3,4,5,6,7,15,16,17] 1 ((cg Q (c7 Q (nH I []) λk=>Sy.exec Q (nH I []) 60 k) (nH I []).sym (nH I []).eZ 1 (bO (br Rf)) [0,1,2,3,4,5,6,7,8,9] (qt N t n m i [(37,.nl (.map (E m))),(39,.t6 (t (O i)).name),(41,.t6 y)])).x3))=(E (.normal,(qt N t n m i [(7,.bool I)]).t,[.b (t (O i)).cells]),(aa Z (aa Z (Om (t (O i)).used (t (O i)).name (t (O i)).un==I)))):=by kernel_rfl
def M8 N(t:Nat->aE) n m i(b:Bool):aD (az [0,3,4,15,16,17] 0 (exec Q (nH Z [(52,I)]) 60 1 (br (br (br Z2))) (qt N t n m i [(7,.bool b)])))=(E (.normal,(A7 N t n m i).t,[]),(aa Z !!b)):=by kernel_rfl
def M9 N(t:Nat->aE) n m i(b:Bool):aD (az [2] 0 (exec Q (nH Z [(52,Z)]) 60 1 (br (br (br Z2))) (qt N t n m i [(7,.bool b)])))=(E (.ret,(YM Br).t,[]),(aa Z !b)):=by kernel_rfl
def Na N(t:Nat->aE) n m i:aD (az [0,3,4,15,16,17] 0 (exec Q (nH Z []) 60 0 (br (br (br G9))) (A7 N t n m i)))=(E (.normal,(A7 N t n m (i64.wrap (i+1))).t,[]),(Z)):=by kernel_rfl
def avg N t n m i:=bu (Na N t n m i)
def amw N t n m i:=bz (Na N t n m i)
def Nb N(t:Nat->aE) n:aD (az [2] 0 (exec Q (nH Z [(58,I)]) 60 0 (br Z1) (Rg N t n [])))=(E (.ret,(YM (.nl .nilIface)).t,[]),(aa (aa Z (aa Z ((cX N λi=>ah (aA t i))&&C (N<=71)&&C (0<=i64.wrap (n.tdiv 2))&&C (i64.wrap (n.tdiv 2)<=71)))) !fm N (ai λi=>ah (aA t i)) (O (i64.wrap (n.tdiv 2))))):=by kernel_rfl
def Nc N(t:Nat->aE) n:aD (az [2] 0 (exec Q (nH Z [(58,Z)]) 60 0 (br Z1) (Rg N t n [])))=(E (.ret,(YM Br).t,[]),(aa (aa Z (aa Z ((cX N λi=>ah (aA t i))&&C (N<=71)&&C (0<=i64.wrap (n.tdiv 2))&&C (i64.wrap (n.tdiv 2)<=71)))) (fm N (ai λi=>ah (aA t i)) (O (i64.wrap (n.tdiv 2)))))):=by kernel_rfl
def qe(t:Nat->aE):Nat->List (Int×Int)
 |0=>[]
 |i+1=>bif (t i).used&&(i%2==0) then ql (qe t i) (t i).name (i64.wrap (lu (qe t i) (t i).name+1)) else qe t i
def tn(x:aE):Bool:=rH x.used I x.name 0 x.key x.bH x.cF x.un (t9 32 0) (t9 32 0) (t9 32 0) []
def iF(t:Nat->aE)(n i:Nat):Bool:=bif !(t i).used then tn (t i) else bif i%2==0 then Om (t i).used (t i).name (t i).un&&(lu (qe t (i+1)) (t i).name==1) else gq t i n
def bq(N:Nat)(t:Nat->aE):Bool:=!(aY N==0)&&((t8 N).all (iF t (O (aY N)))&&!fm N t (O (i64.wrap ((aY N).tdiv 2))))
def YT:G9=[cq G9,cq (br G9)].foldr .seq (.seq (.block 1 Z2) (br (br (br G9)))):=by kernel_rfl
def YU:Z2=[cq Z2,cq (br Z2)].foldr .seq (.seq (.block 2 ckJ) (br (br (br Z2)))):=by kernel_rfl
def YV:ckJ=[cq ckJ].foldr .seq (.cond (.tmp 26) (cdA (br ckJ)) GH):=by kernel_rfl
def YW:GH=[cq GH].foldr .seq (.cond (.tmp 33) Rf (cdB (br GH))):=by kernel_rfl
def amz:Rf=.seq (.region 13 (bO (cq Rf)) I) (.region 14 (bO (br Rf)) I):=by kernel_rfl
def amA:Z1=.seq (.seq (cq (cq Z1)) (.block 0 (.loop G9))) (br Z1):=by kernel_rfl
def amB:D2=[cq D2,cq (br D2),cq (br (br D2))].foldr .seq (.seq (.region 4 (bO (cq (br (br (br D2))))) I) Z1):=by kernel_rfl
def Jx i:(((i:Nat):Int).tmod 2==0)=(i%2==0):=by rw[show(2:Int)=((2:Nat):Int) from rfl, <-Int.ofNat_tmod];cases h:(i%2==0) with
 |true=>rw[eq_of_beq h];rfl
 |false=>
  rw[ahR] at h ⊢
  omega
section
variable {N:Nat} {t:Nat->aE} {n i m:Nat}
def Nd l b(hb:Om (t i).used (t i).name (t i).un=b):
  TrX Q Y 0 Rf (qt N t n m i [(33,.bool Z)]) (iy m l) .normal (qt N t n m i [(7,.bool (b&&(lu (ql l (t i).name (i64.wrap (lu l (t i).name+1))) (t i).name==1)))]) (iy m (ql l (t i).name (i64.wrap (lu l (t i).name+1)))):=by
 have K:=iy.bJ m
 have F:=iy.cj m
 have c:prog.underlying 170=E (.map 3 3):=by kernel_rfl
 have d:prog.underlying 3=E (.int .i64):=by kernel_rfl
 have hz:gw Q 3=E (.t6 0):=by kernel_rfl
 rw[amz]
 refine TrX.seq (H1:=iy m (ql l (t i).name (i64.wrap (lu l (t i).name+1)))) (s1:=qt N t n m i [(37,.nl (.map (E m))),(39,.t6 (t i).name),(41,.t6 (i64.wrap (lu l (t i).name+1)))]) (TrX.region 13 ?_) (TrX.region 14 ?_)
 ·rw[show t8 (bO (cq Rf)).size=[0,1,2]++([3]++([4]++[5])) by kernel_rfl]
  refine OX.append (OX.i3 (eB Z []) (K l) (F l) (by decide) (M3 ..) rfl) ?_
  refine OX.append (OX.ask (dst:=E 40) (t:=170) (xm:=.tmp 37) (xk:=.tmp 39) rfl rfl c d hz rfl (x:=(t i).name) rfl) ?_
  exact OX.append (OX.i3 (eB Z []) (K l) (F l) (by decide) (M4 ..) rfl) (OX.auZ (t:=170) (xm:=.tmp 37) (xk:=.tmp 39) (xv:=.tmp 41) rfl rfl c d rfl rfl rfl)
 ·cases b with
  |false=>
   exact OX.i3 (eB I []) (K _) (F _) (by decide) (M7 ..) (by rw[aaq,hb];rfl)
  |true=>
   rw[show t8 (bO (br Rf)).size=[0,1,2,3,4,5]++([6]++[7,8,9]) by kernel_rfl]
   refine OX.append (OX.i3 (s':=qt N t n m i [(44,.bool Z),(45,.nl (.map (E m))),(47,.t6 (t i).name)]) (eB Z []) (K _) (F _) (by decide) (M5 ..) (by rw[aaq,hb];rfl)) ?_
   refine OX.append (OX.ask (dst:=E 48) (t:=170) (xm:=.tmp 45) (xk:=.tmp 47) rfl rfl c d hz rfl (x:=(t i).name) rfl) ?_
   exact OX.i3 (eB Z []) (K _) (F _) (by decide) (M6 ..) rfl
def sG(a:eo N t)(hi:i<N):qd (t i).key (t i).bH (t i).cF (t i).un=Z:=oG.2 ⟨a.key i hi,a.bH i hi,a.cF i hi,a.un i hi⟩
def yP(b:n∈bn)(hN:N=2*n-1)(hi:i<N):rK N i n=Z:=by refine afJ.2 ⟨n,b,?_⟩;have c:=cn b;simp only[No,aac];refine⟨⟨trivial,hN⟩,afJ.2 ⟨n,b,?_⟩⟩;simp only[No,aac];refine⟨⟨trivial,?_⟩,?_⟩<;>omega
def aej(a:eo N t)(hi:i<N):i64.wrap ((i:Nat)+1:Int)=((i+1:Nat):Int):=by have:=a.le;rw[dm (by omega)]
def YX(a:(t i).used=Z):jd (az [0,3,4,5,6,15,16,17,26] 1 ((bh Q (nH Z []) 60 1 1 [cq ckJ] (qt N t n m i [])).x3))=E (.normal,(qt N t n m i [(26,.bool I)]).t,(qt N t n m i [(26,.bool I)]).h):=by
 have h:(!(t (O (i:Int))).used)=I:=by rw[aaq,a];rfl
 rw[au7 ..,h];rfl
def YY(a:(i%2==0)=Z):jd (az [0,3,4,5,6,15,16,17,33] 1 ((bh Q (nH Z []) 60 1 1 [cq GH] (qt N t n m i [(26,.bool I)])).x3))=E (.normal,(qt N t n m i [(33,.bool Z)]).t,(qt N t n m i [(33,.bool Z)]).h):=by rw[au8 ..,Jx,a];rfl
def Nf(l:eo N t)(hn:n∈bn)(hN:N=2*n-1)(hi:i<N)(b:iF t n i=Z):
  TrX Q Y 0 G9 (A7 N t n m i) (iy m (qe t i)) .normal (A7 N t n m ((i+1:Nat):Int)) (iy m (qe t (i+1))):=by
 have K:=iy.bJ m
 have F:=iy.cj m
 have f:=aej l hi
 have g:=g8 hi
 have d:=bW hi
 have hle:=l.le
 unfold iF at b
 cases c:(t i).used with
 |false=>
  rw[c] at b
  simp only[aiW,aja] at b
  have e:=au3 N t n m i
  rw[f] at e
  have:qe t (i+1)=qe t i:=by simp only[qe,c,ahm,ajB]
  rw[this]
  refine TrX.bg (eB Z _) (K _) (F _) 60 _ 0 (aar _) _ e (amk ..) ?_
  rw[aaq,g,d,Me hi,sG l hi,show(t i).1=I from c]
  unfold tn at b
  rw[c] at b
  rw[b];rfl
 |true=>
  rw[c] at b
  simp only[Bool.not_true,ajB] at b
  cases h:(i%2==0) with
  |false=>
   rw[h] at b
   simp only[ajB] at b
   have e:=au5 N t n m i
   rw[f] at e
   have:qe t (i+1)=qe t i:=by simp only[qe,h,ag8,ajB]
   rw[this]
   refine TrX.bg (eB Z _) (K _) (F _) 60 _ 0 (aar _) _ e (amm N t n m i) ?_
   rw[aaq,g,d,Me hi,show(t i).1=Z from c,Jx,h,show cX N (λi=>ah (aA t i))=Z from bU l,yP hn hN hi,aaq,show gq (ai λi=>ah (aA t i)) i n=Z from b]
   rfl
  |true=>
   rw[h] at b
   simp only[aja] at b
   have o:qe t (i+1)=ql (qe t i) (t i).name (i64.wrap (lu (qe t i) (t i).name+1)):=by simp only[qe,c,h,Bool.and_self,aja]
   rw[o] at b ⊢
   have⟨h1,h2⟩:=agQ.1 b
   have a:=Nd (N:=N) (n:=n) (m:=m) (qe t i) Z (by rw[c];exact h1)
   rw[h2] at a
   have j:=avg N t n m i
   rw[f] at j
   rw[YT]
   refine TrX.i5 (eB Z [(18,Z)]) (K _) (F _) (aar _) (MY N t n m i) (by rw[g];rfl) ?_
   refine TrX.seq (s1:=A7 N t n m i) (TrX.cz ?_ (by simp)) (TrX.bg (eB Z []) (K _) (F _) 60 _ 0 (aar _) _ j (amw N t n m i) rfl)
   rw[YU]
   refine TrX.i5 (s1:=qt N t n m i []) (eB Z []) (K _) (F _) (by decide) (MZ N t n m i) (by rw[aaq,d,Me hi];rfl) ?_
   refine TrX.seq (s1:=qt N t n m i [(7,.bool Z)]) (TrX.cz ?_ (by simp)) (TrX.i4 (eB Z [(52,I)]) (K _) (F _) (aar _) (M8 N t n m i Z) rfl)
   rw[YV]
   refine TrX.jh (eB Z []) (K _) (F _) 60 _ 1 (by decide) _ (s1:=qt N t n m i [(26,.bool I)]) (YX c) (YR N t n m i) rfl ?_
   refine TrX.cond_false rfl ?_
   rw[YW]
   refine TrX.jh (eB Z []) (K _) (F _) 60 _ 1 (by decide) _ (s1:=qt N t n m i [(33,.bool Z)]) (YY h) (YS N t n m i I) rfl ?_
   exact TrX.cond_true rfl a
def amC(hT:eo N t)(hn:n∈bn)(hN:N=2*n-1)(hi:i<N)(b:iF t n i=I):
  TrX Q Y 0 G9 (A7 N t n m i) (iy m (qe t i)) .ret (YM Br) (λ_ _ _=>True):=by
 have K:=iy.bJ m
 have F:=iy.cj m
 have e:=g8 hi
 have d:=bW hi
 have hle:=hT.le
 unfold iF at b
 cases c:(t i).used with
 |false=>
  rw[c] at b
  simp only[aiW,aja] at b
  refine TrX.Bb (TrX.i4 (eB Z _) (K _) (F _) (aar _) (MV ..) ?_) λ_ _ _ _=>trivial
  rw[aaq,e,d,Me hi,sG hT hi,show(t i).1=I from c]
  unfold tn at b
  rw[c] at b
  rw[b];rfl
 |true=>
  rw[c] at b
  simp only[Bool.not_true,ajB] at b
  cases f:(i%2==0) with
  |false=>
   rw[f] at b
   simp only[ajB] at b
   refine TrX.Bb (TrX.i4 (eB Z _) (K _) (F _) (aar _) (MX ..) ?_) λ_ _ _ _=>trivial
   rw[aaq,e,d,Me hi,show(t i).1=Z from c,Jx,f,show cX N (λi=>ah (aA t i))=Z from bU hT,yP hn hN hi,aaq,show gq (ai λi=>ah (aA t i)) i n=I from b]
   rfl
  |true=>
   rw[f] at b
   simp only[aja] at b
   have h:qe t (i+1)=ql (qe t i) (t i).name (i64.wrap (lu (qe t i) (t i).name+1)):=by simp only[qe,c,f,Bool.and_self,aja]
   rw[h] at b
   have a:=Nd (N:=N) (t:=t) (i:=i) (n:=n) (m:=m) (qe t i) _ rfl
   rw[c,b] at a
   rw[YT]
   refine TrX.i5 (eB Z [(18,Z)]) (K _) (F _) (aar _) (MY ..) (by rw[e];rfl) ?_
   refine TrX.jm (TrX.cz ?_ (by simp)) (by simp)
   rw[YU]
   refine TrX.i5 (s1:=qt N t n m i []) (eB Z []) (K _) (F _) (by decide) (MZ ..) (by rw[aaq,d,Me hi];rfl) ?_
   refine TrX.seq (s1:=qt N t n m i [(7,.bool I)]) (TrX.cz ?_ (by simp)) (TrX.Bb (TrX.i4 (eB Z [(52,Z)]) (K (ql (qe t i) (t i).name (i64.wrap (lu (qe t i) (t i).name+1)))) (F _) (aar _) (M9 ..) rfl) λ_ _ _ _=>trivial)
   rw[YV]
   refine TrX.jh (eB Z []) (K _) (F _) 60 _ 1 (by decide) _ (s1:=qt N t n m i [(26,.bool I)]) (YX c) (YR ..) rfl ?_
   refine TrX.cond_false rfl ?_
   rw[YW]
   refine TrX.jh (eB Z []) (K _) (F _) 60 _ 1 (by decide) _ (s1:=qt N t n m i [(33,.bool Z)]) (YY f) (YS ..) rfl ?_
   exact TrX.cond_true rfl a
def aek:TrX Q Y 0 G9 (A7 N t n m (N:Int)) (iy m (qe t N)) (.exit 0) (Rg N t n []) (iy m (qe t N)):=
 TrX.i4 (eB Z [(18,I)]) (iy.bJ _ _) (iy.cj _ _) (aar _) (He ..) (by rw[gV (aar _)];rfl)
def ael(b:eo N t)(e:n∈bn)(hN:N=2*n-1) m:
  TrX Q Y 0 Z1 (Rg N t n [(4,.nl (.map (E m)))]) (iy m []) .ret (YM (bif (t8 N).all (iF t n)&&!fm N t (O (i64.wrap ((n:Int).tdiv 2))) then .nl .nilIface else Br)) (λ_ _ _=>True):=by
 have hs:=cn e
 have K:=iy.bJ m
 have F:=iy.cj m
 have c:TrX Q Y 0 (cq (cq Z1)) (Rg N t n [(4,.nl (.map (E m)))]) (iy m []) .normal (A7 N t n m (0:Int)) (iy m (qe t 0)):=
  TrX.i4 (eB Z []) (K []) (F []) (aar _) (Cu ..) rfl
 rw[amA]
 cases hq:cV (iF t n) N with
 |some i=>
  have⟨h1,h2,g⟩:=dr hq
  have a:(t8 N).all (iF t n)=I:=by
   rw[<-aj2,aaB]
   intro h
   rw[h i (aaI.2 h1)] at h2
   cases h2
  rw[a]
  exact TrX.jm (TrX.seq c (TrX.cz (jE.loop (jE.for (by simp) (λj:Nat=>A7 N t n m (j:Int)) (λj=>iy m (qe t j)) i (λj hj=>Nf b e hN (by omega) (g j hj)) (amC b e hN h1 h2))) (by simp))) (by simp)
 |none=>
  have g:=dz hq
  have a:=aaB.2 λi hi=>g i (aaI.1 hi)
  rw[a,af0]
  refine TrX.seq (TrX.seq c (TrX.block (jE.loop (jE.for (by simp) (λj:Nat=>A7 N t n m (j:Int)) (λj=>iy m (qe t j)) N (λj hj=>Nf b e hN hj (g j hj)) aek)))) ?_
  have f:0<=i64.wrap ((n:Int).tdiv 2)/\i64.wrap ((n:Int).tdiv 2)<=71:=by
   have:(n:Int).tdiv 2=(n/2:Int):=rfl
   rw[this,dU (by omega) (by omega)]
   omega
  cases he:fm N t (O (i64.wrap ((n:Int).tdiv 2))) with
  |true=>
   refine TrX.Bb (TrX.i4 (eB Z [(58,Z)]) (K _) (F _) (aar _) (Nc ..) ?_) λ_ _ _ _=>trivial
   rw[show cX N (λi=>ah (aA t i))=Z from bU b,Me b.le,Me f.1,Me f.2,show fm N (ai λi=>ah (aA t i)) (O (i64.wrap ((n:Int).tdiv 2)))=Z from he]
   rfl
  |false=>
   refine TrX.Bb (TrX.i4 (eB Z [(58,I)]) (K _) (F _) (aar _) (Nb ..) ?_) λ_ _ _ _=>trivial
   rw[show cX N (λi=>ah (aA t i))=Z from bU b,Me b.le,Me f.1,Me f.2,show fm N (ai λi=>ah (aA t i)) (O (i64.wrap ((n:Int).tdiv 2)))=I from he]
   rfl
def Bs:((t8 72).all λN=>aY (N:Nat)==0||bn.any λn=>aY (N:Nat)==(n:Nat)&&C (N=2*n-1))=Z:=by decide+kernel
def lK(hN:N<=71)(h:(aY N==0)=I):∃n∈bn,aY N=(n:Int)/\N=2*n-1:=by have g:=aaB.1 Bs N (aaI.2 (by omega));rw[h,Bool.false_or] at g;have⟨n,a,g⟩:=afJ.1 g;rw[No,afP,aac] at g;exact⟨n,a,g⟩
def YZ(f:eo N t):ak Q 77 [trV N t] [] (bif bq N t then .nl .nilIface else Br) []:=by
 unfold bq
 cases d:(aY N==0) with
 |true=>exact aP (eB Z [(12,Z)]) 60 func77 (aef N t) (by rw[d];rfl) rfl
 |false=>
  have⟨n,j,e,hN⟩:=lK f.le d
  have hh:fT (λ_ _ _=>True):=λ_ _ _ _ _ _ _ _ _ _ _=>trivial
  have a:TrX Q Y 0 D2 ⟨aU f77.ntmps [trV N t],[],Z⟩ (λ_ _ _=>True) .ret (YM (bif (t8 N).all (iF t n)&&!fm N t (O (i64.wrap ((n:Int).tdiv 2))) then .nl .nilIface else Br)) (λ_ _ _=>True):=by
   rw[amB]
   refine TrX.jh (eB Z [(12,I)]) hh (λ_ _ _ _ _=>trivial) 60 _ 0 (aar _) _ (by have:=aeg N t;rw[e] at this;exact this) (YN N t) (by rw[d];rfl) ?_
   refine Z0.region 4 ?_ λm=>ael f j hN m
   rw[show t8 (bO (cq (br (br (br D2))))).size=[0]++[1] by kernel_rfl]
   exact Z0.append (Z0.make (t:=170) rfl rfl) λm=>OX.i3 (eB Z []) (iy.bJ m []) (iy.cj m []) (aar _) (MT ..) rfl
  have k:∀(b:Bool)v,ke Q (YM v).t (YM v).h f77.results.toList=E ([v],Z):=λ_ v=>by kernel_rfl
  rw[e,aaq,aiW,af0]
  exact ak.Vj (h:=[]) (s:=YM _) func77 (c:=D2) rfl (.inl rfl) (a.to λ_ _ _=>trivial) (k Z _)
end
def JC(b:Bool):aK Q:=.val 77 _ func77 (by decide) rfl Z 0 (λvs=>match vs with
 | [.aO I 99 N g]=>E (bif b then .nl .nilIface else Br,[],cX N g&&C (N<=71)&&(bq N (ai g)==b))
 |_=>Y) λvs v new e=>by
 split at e
 ·simp only[Mf,aad,No,aac,afP] at e
  have⟨rfl,rfl,⟨c,d⟩,f⟩:=e
  rw[<-f]
  exact ak.conv (YZ (eo.of c d)) ⟨VE.kM c,trivial⟩ trivial (VE.refl _) trivial
 ·cases e
end Tr
end Go.Proofs.YthlnlcijnoadcaaGreatDoor
namespace Go.Sy
section
variable {P:Program}
def ak.akd{f args h h1 v k xs}(l:0<A xs->ak P f (.ro I k xs::args) h v h1)
  (r:xs=[]->ak P f (.nl (.slice Y 0 0)::args) h v h1)(j:xs=[]->∀a c,ak P f (.nl (.slice (E a) 0 c)::args) h v h1):ak P f (.ro I k xs::args) h v h1:=by
 by_cases b:xs=[]
 ·intro B e w g hB p R
  obtain⟨y,s,h1,d,rfl⟩:=p
  rcases h1 with⟨_,a,cap,rfl,q⟩|⟨n,o,cap,c,t,u,rfl,_⟩
  ·cases a with
   |none=>
    obtain rfl:=q rfl
    exact r b B e w _ hB ⟨.slice Y 0 0,_,rfl,d,rfl⟩ R
   |some a=>exact j b a cap B e w _ hB ⟨_,_,rfl,d,rfl⟩ R
  ·subst b
   exact j rfl _ cap B e w _ hB ⟨_,_,rfl,d,rfl⟩ R
 ·exact l (List.length_pos_iff.2 b)
def ak.sn{f args K l N ex wh}(g:ak P f args [] (.sl 0 0 0 1 N N ex wh) [.b [.af K N l]])(c:A l=N):ak P f args [] (.ro Z K l) []:=by
 subst c
 cases wh
 ·have k:=g.fz (u:=.ro Z K ((l.drop 0).take (A l))) (p:=aa (C (A l=A l)) (([E (SV.sl 0 0 0 1 (A l) (A l) ex I)]:List (Option SV)).all λo=>match o with|some v=>qp 0 (A l) v|none=>Z)) 0 0 (aar _) (aar _) rfl (by simp[qp,aa])
  rw[agE,agW] at k
  exact k
 ·exact g.fz (h2:=[]) (p:=aa (C (A l=A l)) (([E (SV.sl 0 0 0 1 (A l) (A l) ex Z)]:List (Option SV)).all λo=>match o with|some v=>qp 0 (A l) v|none=>Z)) 0 0 (aar _) (aar _) rfl (by simp[qp,aa])
def VE.wV j z n cap ex wh:VE (.sl j 0 0 z n cap ex wh) (.b9 j z n cap ex):=λe x h=>by
 rcases h with h|⟨p,b,a,g,d,e,f,l,k,c⟩
 ·exact .inl h
 ·exact .inr ⟨p,b,a,g,d,λq=>by simpa using e q,f,l,k,λq=>by simpa using c q⟩
def PE.aF{z n g g'}(h:∀i,i<n->PE (g i) (g' i)):PE [.aF z n g] [.aF z n g']:=
 ⟨rfl,λe k q=>by have⟨f,b,j,c,d,e⟩:=PR.jO.1 q;exact PR.jO.2 ⟨f,b,j,λi a=>(h i a).2 _ _ (c i a),d,e⟩⟩
def PE.aq6{z g}:PE [] [.aF z 0 g]:=
 ⟨by simp[aC,kf],λe a q=>PR.jO.2 ⟨[],a,by simp,λi b=>absurd b (by omega),q,rfl⟩⟩
end
end Go.Sy
namespace Go.Proofs.YthlnlcijnoadcaaGreatDoor
namespace Tr
open Sy
def nK:aq Q (mk (P:=Q) [] []):=au _ aN.nil _ _
def aAC xs:(aV Q (mk (P:=Q) [] []) 60 f120 [.ro I .i64 xs] [])=E (.sl 0 0 0 1 (0+A xs) (0+A xs) I Z,[.b [.af .i64 (0+A xs) (t9 0 0++xs)]],aa (aa Z (C (0<A xs))) (aa Z (C (0+A xs<=2^38)))):=by kernel_rfl
def aAE a c:(aV Q (mk (P:=Q) [] []) 60 f120 [.nl (.slice (E a) 0 c)] [])=E (.sl 0 0 0 1 0 0 I Z,[.b [.af .i64 0 []]],Z):=by kernel_rfl
def aAD(_u:Unit):(aV Q (mk (P:=Q) [] []) 60 f120 [.nl (.slice Y 0 0)] [])=E (.nl (.slice Y 0 0),[],Z):=by kernel_rfl
def P7(j i:Nat):Nat.beq j i=C (j=i):=by cases h:Nat.beq j i with
 |true=>exact(Me (acr h)).symm
 |false=>exact(aaS (Nat.ne_of_beq_eq_false h)).symm
section
variable (N:Nat) (t:Nat->aE) (nm:Int)
end
section
variable {N:Nat} {t:Nat->aE} {nm:Int}
end
end Tr
end Go.Proofs.YthlnlcijnoadcaaGreatDoor
namespace Go.Sy
section
variable {P:Program} {ro:Option Nat} {k:Nat}
abbrev HT:HP:=λ_ _ _=>True
def OX.aAK{Γ}(l:aq P Γ) n live m(v:k<=m){ops is s s'} ob
  (e:jd (az live m ((cg P (c7 P Γ λk=>Sy.exec P Γ n k) Γ.sym Γ.eZ k ops is s).x3))=E (.normal,s'.t,s'.h))(b:uF (az live m ((cg P (c7 P Γ λk=>Sy.exec P Γ n k) Γ.sym Γ.eZ k ops is s).x3))=ob)(h:ob=Z):OX P ro k ops is s HT s' HT:=by
 unfold jd az at e
 unfold uF az at b
 cases g:cg P (c7 P Γ λk=>Sy.exec P Γ n k) Γ.sym Γ.eZ k ops is s with
 |none=>rw[g] at e;cases e
 |some q=>
  rw[g] at e b
  simp only[acs,ajZ] at e b
  cases a:q.cut live m with
  |none=>rw[a] at e;cases e
  |some q2=>
   rw[a] at e b
   simp only[acs,Mf,aad,true_and] at e b
   have⟨o,u⟩:=e
   have x:q.ob=Z:=by
    unfold St.cut St.dS at a
    split at a
    ·cases a;exact b.trans h
    ·cases a
   refine OX.QO (λ_ _ _ _ h=>h) ?_ ((bG.cut v a).trans (bG.bR o u))
   intro B e w H d Q G rest hB y R _ F
   refine kP (nc l λro k=>(mh l n ro k).1) is s q g x (λi p D=>Nat.lt_of_lt_of_le (R.kr i p D) hB) y R λe' z f c j r=>?_
   rw[<-c]
   exact F e' z f j r trivial
theorem OX.i2{Γ}(l:aq P Γ){n}{live}{m}(v:k<=m){ops is s s'}{ob}(e:aD (az live m ((cg P (c7 P Γ λk=>Sy.exec P Γ n k) Γ.sym Γ.eZ k ops is s).x3))=(E (.normal,s'.t,s'.h),ob))(h:ob=Z):OX P ro k ops is s HT s' HT:=OX.aAK l n live m v ob (bu e) (bz e) h
end
end Go.Sy
namespace Go.Proofs.YthlnlcijnoadcaaGreatDoor
namespace Tr
open Sy
def ati:aK Q:=.val 103 _ func103 (by decide) rfl I 2 (λvs=>match vs with
 | [.int .i64 x,.int .i64 n]=>E (.fn (.func 146) [] [.r5 0,.r5 1],[.b [.t6 x],.b [.t6 n]],Z)
 |_=>Y) λvs v new e=>by
 split at e
 ·simp only[Mf,aad] at e;have⟨rfl,rfl,_⟩:=e;exact ak.bZ nK func103 (n:=60) (by kernel_rfl)
 ·cases e
def lF:aE:=⟨I,0,t9 32 0,t9 32 0,t9 32 0,[]⟩
end Tr
end Go.Proofs.YthlnlcijnoadcaaGreatDoor
namespace Go.Sy
section
variable {P:Program} {ro:Option Nat} {k:Nat}
end
end Go.Sy
namespace Go.Proofs.YthlnlcijnoadcaaGreatDoor
namespace Tr
open Sy
def fO(t:Nat->aE)(x:Nat)(n:aE):Nat->aE:=λi=>if i=x then n else t i
def acH(i N:Nat):Nat.ble (i+1) N=C (i<N):=by cases h:Nat.ble (i+1) N with
 |true=>exact(Me (aeN h)).symm
 |false=>exact(aaS λg=>by rw[agO g] at h;cases h).symm
section
variable {N M:Nat} {t u:Nat->aE} {n:aE} {j m:Nat}
end
def acS(t:Nat->aE)(x:Nat):(λj=>bF (Nat.beq j x) [.bool I,.t6 0,.t5 (t9 32 0),.t5 (t9 32 0),.t5 (t9 32 0),.nl (.slice Y 0 0)] (aA t j))=aA (fO t x lF):=by
 funext j
 rw[P7]
 unfold aA fO
 by_cases h:j=x
 ·rw[Me h,ae8 h];rfl
 ·rw[aaS h,acB h];rfl
def cH(t:Nat->aE)(m:Nat)(x:Int):Nat->Nat->aE
 |0=>t
 |k+1=>fO (cH t m x k) (O (cQ m x k)) lF
section
variable {N:Nat} {ex:Bool} {t:Nat->aE} {j m:Nat}
end
def AW(l:List (Nat×Bool)):cu:=mk (P:=Q) [] [] (uT l)
def eU l:aq Q (AW l):=au _ aN.nil _ _
def Eb:((t8 72).all λn=>C (0<=i64.wrap ((aY (n:Nat)).tdiv 2))&&C (i64.wrap ((aY (n:Nat)).tdiv 2)<=71))=Z:=by decide+kernel
def Hf{n}(a:n<=71):C (0<=i64.wrap ((aY (n:Nat)).tdiv 2))=Z/\C (i64.wrap ((aY (n:Nat)).tdiv 2)<=71)=Z:=by have:=aaB.1 Eb n (aaI.2 (by omega));exact agQ.1 this
section
variable {N:Nat} {t:Nat->aE} {i:Int}
end
end Tr
end Go.Proofs.YthlnlcijnoadcaaGreatDoor
namespace Go.Sy
section
variable {P:Program}
def Gq{α:Type}(L:List α){n z i}(hi:i<n):((L.take (n*z)).drop (i*z)).take z=(L.drop (i*z)).take z:=by
 have:i*z+z<=n*z:=by have:=aeK z (show i+1<=n by omega);rw[ags,Nat.one_mul] at this;exact this
 rw[ahB,ahy,agK (by omega)]
def ak.uR{f args v u z n len cap ex g}(ae:len<=n)
  (hu:∀(e e':cw)(x:Value),(∀m o,e.z m=E o->e'.z m=E o)->e'.n0=e.n0->(∀y,VR e (.b9 0 z len cap ex) y->VR e' (.aO Z z len g) y)->VR e v x->VR e' u x)(k:ak P f args [] v [.b [.aF z n g]]):ak P f args [] u []:=by
 intro B e w H hB hl R
 refine(k B e w H hB hl R).mono ?_
 rintro en w' ⟨U,rfl,e1,W,hv,S⟩
 have ad:B.k=0:=by simpa using hB
 have F:∀i p,B.e.r i≠E p:=λi p d=>by have:=S.kr i p d;omega
 have af:∀i,i≠0->e1.r i=Y:=λi d=>by
  cases hq:e1.r i with
  |none=>rfl
  |some p=>have:=S.dom i p hq;simp at this;omega
 have mT:∀zz,(∀m o,e1.z m=E o->zz m=E o)->(∀m c t D,zz m=E (c,t,D)->w'.heap[m]?=E (.cells c t D))->(∀m x,zz m=E x->B.e.z m=E x\/B.w.heap.size<=m)->bM B {e1 with r:=λ_=>Y,z:=zz} [] w':=λzz z1 z2 z3=>{
  os:=S.os,tape:=S.tape,output:=S.output,size:=S.size
  inj:=λi j p q d=>by cases d
  dom:=λi p d=>by cases d
  gM:=λi p d=>by cases d
  gN:=z2,bN:=z3
  fU:=λgg K xs hg=>(S.fU gg K xs hg).imp λc ⟨t,D,G,q2⟩=>⟨t,D,z1 _ _ G,q2⟩
  cM:=λi p d=>by cases d
  b6:=λi p d=>absurd d (F i p)
  cE:=λm x W=>z1 m x (S.cE m x W)
  n0:=S.n0,dK:=S.dK
  gr:=λi ps d=>by simp at d
  gap:=λi g d=>by simp at d
  yi:=S.yi,yb:=S.yb,old:=S.old
  lz:=λi p d=>absurd d (F i p)
  kr:=S.kr,iT:=by rw[ad];exact aaH _
  g7:=S.g7,jG:=S.jG}
 rcases S.gr 0 _ rfl with⟨T,g2⟩|⟨p,o,T,g2,c,J,rfl,g3,g4,g5⟩
 ·refine⟨U,rfl,{e1 with r:=λ_=>Y},W,hu e1 _ U (λ_ _ h=>h) rfl (λy hy=>?_) hv,mT e1.z (λ_ _ h=>h) S.gN (λm x L=>?_)⟩
  ·rcases hy with⟨G,_,a,rfl⟩|⟨p,_,_,G,_⟩
   ·exact .inl ⟨G,a,0,rfl,λ_=>rfl⟩
   ·rw[g2] at G;cases G
  ·exact S.bN m x L
 ·have ab:=S.gM 0 p T
  have Q:B.w.heap.size<=p.n:=(S.cM 0 p T).resolve_left (F 0 p)
  have ZR:∀m o,e1.z m=E o->(if m=p.n then E (c,J,(0,0)) else e1.z m)=E o:=λm o h=>by
   rw[acB (λq=>by rw[q,ab] at h;cases h)];exact h
  have⟨us,zs,G,q2,q3,q4⟩:=PR.jO.1 g5
  rw[PR] at q3
  subst q3
  rw[acj] at q4
  have ac:aC [SV.aF z n g]=n*z:=by simp[aC,kf]
  rw[ac] at q4 g4
  refine⟨U,rfl,{e1 with r:=λ_=>Y,z:=λm=>if m=p.n then E (c,J,(0,0)) else e1.z m},W,hu e1 _ U ZR rfl (λy hy=>?_) hv,mT _ ZR (λm c' t' D L=>?_) (λm x L=>?_)⟩
  ·rcases hy with⟨V,_,a,rfl⟩|⟨p',s,a,V,rfl,h3,h4,h5,h6,h7⟩
   ·exact .inl ⟨V,a,0,rfl,λ_=>rfl⟩
   ·rw[T] at V
    cases V
    by_cases hc:s=0
    ·subst hc
     exact .inl ⟨by omega,E ⟨p.n,a,Y⟩,0,by rw[show len=0 by omega],λ_=>rfl⟩
    ·have ha:=h3 hc
     have al:=h7 hc
     refine .inr ⟨p.n,a,s,c,J,(0,0),rfl,ae8 rfl,λ_=>?_,λi d=>?_,h6,by omega⟩
     ·show e1.n0<=p.n
      rw[S.n0]
      exact af3 S.dK Q
     ·have:=q2 i (by omega)
      rw[<-q4,Gq _ (by omega),afu] at this
      rw[ha]
      exact PR.cN (e:=⟨λ_=>Y,e1.z,e1.n0,[],λ_=>Y⟩) (e':=⟨λ_=>Y,λm=>if m=p.n then E (c,J,(0,0)) else e1.z m,e1.n0,[],λ_=>Y⟩) ZR (aar _) _ _ (λj q _ h=>by cases h) this
  ·have l:(if m=p.n then E (c,J,(0,0)) else e1.z m)=E (c',t',D):=L
   split at l
   ·rename_i q;cases l;rw[q];exact g2
   ·exact S.gN m c' t' D l
  ·have l:(if m=p.n then E (c,J,(0,0)) else e1.z m)=E x:=L
   split at l
   ·rename_i q;right;omega
   ·exact S.bN m x l
end
end Go.Sy
namespace Go.Proofs.YthlnlcijnoadcaaGreatDoor
namespace Tr
open Sy
def Y0:List SV->Option aE
 | [.bool u,.int .i64 n,.af .u8 32 k,.af .u8 32 s,.af .u8 32 p,.ro I .i64 a]=>E ⟨u,n,k,s,p,a⟩
 | [.bool u,.int .i64 n,.af .u8 32 k,.af .u8 32 s,.af .u8 32 p,.nl (.slice Y 0 0)]=>E ⟨u,n,k,s,p,[]⟩
 |_=>Y
def Ec{l n}(h:Y0 l=E n):PE l n.cells:=by
 unfold Y0 at h
 split at h
 ·cases h;exact PE.refl _
 ·rename_i u a k s p
  cases h
  exact PE.iM (ps:=[.bool u,.t6 a,.t5 k,.t5 s,.t5 p]) rfl rfl (VE.xV I .i64)
 ·cases h
def PE.one z{ps g}(a:aC ps=z)(c:dI ps=Z)(h:PE ps (g 0)):PE ps [.aF z 1 g]:=by
 refine⟨by simp[aC,kf,a],λe b q=>PR.jO.2 ⟨b,[],by rw[q.length];omega,λi d=>?_,rfl,by simp⟩⟩
 obtain rfl:i=0:=by omega
 have e:=q.length
 rw[Nat.zero_mul,agE,aaT (by omega)]
 exact h.2 _ _ (q.closed c)
def bS(k r:Nat)(b:Bool):St:=⟨ag k [(r,.bool b)],[],Z⟩
def snB:Code:=aI f56
def Z3(a b:aE)(i:Int):St:=⟨ag 66 [(2,.r5 0),(3,.r5 1),(5,.t6 i)],[.b a.cells,.b b.cells],Z⟩
def aCJ(a b:aE):(aV Q (AW [(10,Z)]) 60 f56 [.agg a.cells,.agg b.cells] []).v3=E (.bool I,aa Z !a.used==b.used):=by kernel_rfl
def aCK(a b:aE):(aV Q (AW [(10,I),(16,Z)]) 60 f56 [.agg a.cells,.agg b.cells] []).v3=E (.bool I,aa (aa Z !!a.used==b.used) (a.name != b.name)):=by kernel_rfl
def aCL(a b:aE):(aV Q (AW [(10,I),(16,I),(23,Z)]) 60 f56 [.agg a.cells,.agg b.cells] []).v3=E (.bool I,aa (aa (aa (aa Z !!a.used==b.used) !a.name != b.name) (aa (C (A a.key=32)) (C (A b.key=32)))) !C (a.key=b.key)):=by kernel_rfl
def aCM(a b:aE):(aV Q (AW [(10,I),(16,I),(23,I),(30,Z)]) 60 f56 [.agg a.cells,.agg b.cells] []).v3=E (.bool I,aa (aa (aa (aa (aa (aa Z !!a.used==b.used) !a.name != b.name) (aa (C (A a.key=32)) (C (A b.key=32)))) !!C (a.key=b.key)) (aa (C (A a.bH=32)) (C (A b.bH=32)))) !C (a.bH=b.bH)):=by kernel_rfl
def aCN(a b:aE):(aV Q (AW [(10,I),(16,I),(23,I),(30,I),(37,Z)]) 60 f56 [.agg a.cells,.agg b.cells] []).v3=E (.bool I,aa (aa (aa (aa (aa (aa (aa (aa Z !!a.used==b.used) !a.name != b.name) (aa (C (A a.key=32)) (C (A b.key=32)))) !!C (a.key=b.key)) (aa (C (A a.bH=32)) (C (A b.bH=32)))) !!C (a.bH=b.bH)) (aa (C (A a.cF=32)) (C (A b.cF=32)))) !C (a.cF=b.cF)):=by kernel_rfl
def aCO(a b:aE):(aV Q (AW [(10,I),(16,I),(23,I),(30,I),(37,I),(46,Z)]) 60 f56 [.agg a.cells,.agg b.cells] []).v3=E (.bool I,aa (aa (aa (aa (aa (aa (aa (aa (aa Z !!a.used==b.used) !a.name != b.name) (aa (C (A a.key=32)) (C (A b.key=32)))) !!C (a.key=b.key)) (aa (C (A a.bH=32)) (C (A b.bH=32)))) !!C (a.bH=b.bH)) (aa (C (A a.cF=32)) (C (A b.cF=32)))) !!C (a.cF=b.cF)) ((A a.un:Int) != (A b.un:Int))):=by kernel_rfl
def Cv(a b:aE):aD (az [2,3,5] 2 ((bh Q (AW [(10,I),(16,I),(23,I),(30,I),(37,I),(46,I)]) 60 0 4 (aH snB) ⟨aU f56.ntmps [.agg a.cells,.agg b.cells],[],Z⟩).x3))=(E (.normal,(Z3 a b 0).t,(Z3 a b 0).h),(aa (aa (aa (aa (aa (aa (aa (aa (aa Z !!a.used==b.used) !a.name != b.name) (aa (C (A a.key=32)) (C (A b.key=32)))) !!C (a.key=b.key)) (aa (C (A a.bH=32)) (C (A b.bH=32)))) !!C (a.bH=b.bH)) (aa (C (A a.cF=32)) (C (A b.cF=32)))) !!C (a.cF=b.cF)) !(A a.un:Int) != (A b.un:Int))):=by kernel_rfl
def Ng(a b:aE) i:aD (az [2,3,5] 2 (exec Q (AW [(52,Z),(65,I)]) 60 0 (aj (aj (aJ 4 snB))) (Z3 a b i)))=(E (.normal,(Z3 a b (i64.wrap (i+1))).t,(Z3 a b i).h),(aa (aa (aa (aa (aa (aa Z (C (i<(A a.un:Int)))) (bC i (A a.un))) (C (O i<A a.un))) (bC i (A b.un))) (C (O i<A b.un))) !a.un.getD (O i) 0 != X b.un (O i) 0)):=by kernel_rfl
def avj a b i:=bu (Ng a b i)
def amD a b i:=bz (Ng a b i)
def Nh(a b:aE) i:aD (az [4] 0 (exec Q (AW [(52,Z),(65,Z)]) 60 0 (aj (aj (aJ 4 snB))) (Z3 a b i)))=(E (.ret,(bS 66 4 I).t,[]),(aa (aa (aa (aa (aa (aa Z (C (i<(A a.un:Int)))) (bC i (A a.un))) (C (O i<A a.un))) (bC i (A b.un))) (C (O i<A b.un))) (X a.un (O i) 0 != X b.un (O i) 0))):=by kernel_rfl
def Hg(a b:aE) i:aD (az [] 0 (exec Q (AW [(52,I)]) 60 0 (aj (aj (aJ 4 snB))) (Z3 a b i)))=(E (.exit 0,ag 66 [],[]),(aa Z !C (i<(A a.un:Int)))):=by kernel_rfl
def iS(k r:Nat)(b:Int):St:=⟨ag k [(r,.t6 b)],[],Z⟩
section
variable {N M:Nat} {t u:Nat->aE}
def Rm(a b:aE):Bool:=rH a.used b.used a.name b.name a.key a.bH a.cF a.un b.key b.bH b.cF b.un
end
section
variable {a b:aE}
def unJ(a b:pD)(i:Nat):Bool:=!(X a i 0 != X b i 0)
def aeo:∀{a b},A a=A b->cR (unJ a b) (A a) (λ_=>I) Z=C (a=b):=by
 intro a b h
 unfold cR
 cases e:cV (unJ a b) (A a) with
 |none=>
  have f:=dz e
  refine(Me ?_).symm
  apply List.ext_getElem h
  intro i d c
  have:=f i d
  unfold unJ at this
  simpa[List.getD,aaQ d,aaQ c] using this
 |some j=>
  have⟨d,c,_⟩:=dr e
  refine(aaS λq=>?_).symm
  subst q
  unfold unJ at c
  simp at c
def Hh(H:qd a.key a.bH a.cF a.un=Z)(i:qd b.key b.bH b.cF b.un=Z):ak Q 56 [.agg a.cells,.agg b.cells] [] (.bool (Rm a b)) []:=by
 have⟨o,r,y,k4⟩:=oG.1 H
 have⟨m,v,w,m4⟩:=oG.1 i
 unfold Rm rH
 cases d:(a.used==b.used) with
 |false=>exact aP (eU _) 60 func56 (aCJ a b) (by rw[d];rfl) rfl
 |true=>
 cases k:(a.name==b.name) with
 |false=>exact aP (eU _) 60 func56 (aCK a b) (by rw[d,bne,k];rfl) rfl
 |true=>
 cases n:C (a.key=b.key) with
 |false=>exact aP (eU _) 60 func56 (aCL a b) (by rw[d,bne,k,n,Me o,Me m];rfl) rfl
 |true=>
 cases s:C (a.bH=b.bH) with
 |false=>exact aP (eU _) 60 func56 (aCM a b) (by rw[d,bne,k,n,s,Me o,Me m,Me r,Me v];rfl) rfl
 |true=>
 cases z:C (a.cF=b.cF) with
 |false=>exact aP (eU _) 60 func56 (aCN a b) (by rw[d,bne,k,n,s,z,Me o,Me m,Me r,Me v,Me y,Me w];rfl) rfl
 |true=>
 cases p:((A a.un:Int) != (A b.un:Int)) with
 |true=>
  have:C (a.un=b.un)=I:=aaS λq=>by rw[q] at p;simp at p
  rw[this]
  exact aP (eU _) 60 func56 (aCO a b) (by rw[d,bne,k,n,s,z,p,Me o,Me m,Me r,Me v,Me y,Me w];rfl) rfl
 |false=>
  have G:A a.un=A b.un:=by
   have:((A a.un:Int)==(A b.un:Int))=Z:=by simpa[bne] using p
   have:=eq_of_beq this
   omega
  have l:=ak.qD (h:=[]) (h':=[]) func56 rfl 4 0 (λj:Nat=>Z3 a b (j:Int)) (unJ a.un b.un) (A a.un)
   (λx s' g=>TrL.i6 (s1:=Z3 a b (0:Int)) (eU [(10,I),(16,I),(23,I),(30,I),(37,I),(46,I)]) (by simp) (Cv a b) (by rw[d,bne,k,n,s,z,p,Me o,Me m,Me r,Me v,Me y,Me w];rfl) (by decide) rfl g) (by decide) rfl
   (λj f i _=>?_) (λi=>bS 66 4 I) (λi=>[.bool I]) (λj f i _=>⟨?_,rfl,rfl⟩) (sE:=⟨ag 66 [],[],Z⟩) (A4:=bS 66 4 Z) (vE:=[.bool Z]) (xE:=.ret) (λ_=>?_) (λ_=>⟨?_,.inl rfl,rfl,rfl⟩)
  ·rw[de (g:=SV.bool) (vF:=λ_:Nat=>I) (vE:=Z),aeo G] at l
   exact l
  ·have e:=avj a b j
   rw[dm (by omega)] at e
   exact Tr.bg (eU [(52,Z),(65,I)]) 60 _ 2 (aaH _) (s':=Z3 a b ((j+1:Nat):Int)) _ e (amD ..) (by
    have c:j<A b.un:=by omega
    rw[aaq,g8 f,bW f,Me f,bW c,Me c,show(!(X a.un j 0 != X b.un j 0))=Z from i];rfl)
  ·have c:j<A b.un:=by omega
   have x:(X a.un j 0 != X b.un j 0)=Z:=by
    unfold unJ at i
    simpa using i
   exact Tr.i7 (s':=bS 66 4 I) (eU [(52,Z),(65,Z)]) (aaH _) (Nh ..) (by
    rw[aaq,g8 f,bW f,Me f,bW c,Me c,x];rfl)
  ·exact Tr.i7 (s':=⟨ag 66 [],[],Z⟩) (eU [(52,I)]) (aar _) (Hg ..) (by rw[gV (aar _)];rfl)
  ·exact TrL.rest (eU []) 60 rfl rfl
end
section
variable {N:Nat} {t:Nat->aE} {nm:Int}
end
def amG:Option (SV×List Blk×Bool)->Option (Int×Bool)
 |some (.int .i64 a,[],p)=>E (a,p)
 |_=>Y
def aep{r}{a:Int}{p}(h:amG r=E (a,p)):r=E (.t6 a,[],p):=by
 unfold amG at h
 split at h
 ·simp only[Mf,aad] at h
  have⟨rfl,rfl⟩:=h
  rfl
 ·cases h
def Y2:Option (SV×List Blk×Bool)->Option (Int×Int×Bool)
 |some (.bP [.int .i64 a,.int .i64 b],[],p)=>E (a,b,p)
 |_=>Y
def Y3{r}{a b:Int}{p}(h:Y2 r=E (a,b,p)):r=E (.bP [.t6 a,.t6 b],[],p):=by
 unfold Y2 at h
 split at h
 ·simp only[Mf,aad] at h
  have⟨rfl,rfl,rfl⟩:=h
  rfl
 ·cases h
theorem Hi:((t8 72).all λN=>C (amG (aV Q (mk (P:=Q) [] []) 60 f44 [.t6 ((N:Nat):Int)] [])=E (aY ((N:Nat):Int),Z)))=Z:=by kernel_rfl
def J9{N:Nat}(h:N<72):ak Q 44 [.t6 (N:Int)] [] (.t6 (aY (N:Int))) []:=
 ak.bZ nK func44 (aep (agm (aaB.1 Hi N (aaI.2 h))))
def agU:List (FuncId×Func):=[(84,f84)]
def Y4:aN Q agU:=aN.cons func84 (by decide) aN.nil
def rlC:cu:=mk (P:=Q) [] agU λ_=>Y
def amH:aq Q rlC:=au _ Y4 _ _
theorem Bt:((t8 64).all λx=>decide (Y2 (aV Q rlC 60 f41 [.t6 (x:Int)] [])=some (bk (x:Int),aW (x:Int),true)))=true:=by kernel_rfl
def Ed{x:Nat}(h:x<64):ak Q 41 [.t6 (x:Int)] [] (.bP [.t6 (bk (x:Int)),.t6 (aW (x:Int))]) []:=
 ak.bZ amH func41 (Y3 (agm (aaB.1 Bt x (aaI.2 h))))
def rL(n:Int):Bool:=bn.any λm=>C (n=m)
def amI:aK Q:=.val 132 _ func132 (by decide) rfl I 0 (λvs=>match vs with
 | [.int .i64 n]=>E (.bool Z,[],rL n)
 |_=>Y) λvs v new e=>by
 split at e
 ·simp only[Mf,aad] at e
  have⟨rfl,rfl,d⟩:=e
  have⟨m,c,q⟩:=afJ.1 d
  obtain rfl:=agm q
  simp only[bn,af7,ajy,or_false] at c
  rcases c with rfl|rfl|rfl|rfl|rfl|rfl<;>exact ak.bZ nK func132 (n:=60) rfl
 ·cases e
def sdC(l:List (Nat×Bool)):cu:=mk [amI] [] (uT l)
def Ka l:aq Q (sdC l):=au _ aN.nil _ _
def amJ(x n:Int):(aV Q (sdC [(9,I)]) 60 f85 [.t6 x,.t6 n] []).v3=E (.bool I,aa (aa Z (aa Z (rL n))) !C (x>=0)):=by kernel_rfl
def amK(x n:Int):(aV Q (sdC [(9,Z),(16,I)]) 60 f85 [.t6 x,.t6 n] []).v3=E (.bool I,aa (aa (aa Z (aa Z (rL n))) (C (x>=0))) !C (x<=i64.wrap (i64.wrap (2*n)-2))):=by kernel_rfl
def aCP(x n:Int):(aV Q (sdC [(9,Z),(16,Z)]) 60 f85 [.t6 x,.t6 n] []).v3=E (.bool Z,aa (aa (aa Z (aa Z (rL n))) (C (x>=0))) (C (x<=i64.wrap (i64.wrap (2*n)-2)))):=by kernel_rfl
def uL{x n}(d:n∈bn):bf x n=(C (x>=0)&&C (x<=2*(n:Int)-2)):=by
 cases h:(C (x>=0)&&C (x<=2*(n:Int)-2)) with
 |true=>
  simp only[No,aac] at h
  exact afJ.2 ⟨n,d,by simp only[No,aac];exact⟨⟨trivial,h.1⟩,h.2⟩⟩
 |false=>
  cases g:bf x n with
  |false=>rfl
  |true=>
   obtain⟨m,_,y,f,rfl,e⟩:=fW g
   rw[Bool.and_eq_false_iff,agX,agX] at h
   omega
def Y5{x n}(d:n∈bn):ak Q 85 [.t6 x,.t6 (n:Int)] [] (.bool (bf x n)) []:=by
 rw[uL d]
 have i:=cn d
 have e:rL (n:Int)=Z:=afJ.2 ⟨n,d,Me rfl⟩
 have h:i64.wrap (i64.wrap (2*(n:Int))-2)=2*(n:Int)-2:=by
  rw[show i64.wrap (2*(n:Int))=2*(n:Int) from dU (by omega) (by omega)]
  exact dU (by omega) (by omega)
 have e2:=amK x n
 have f:=aCP x n
 rw[h] at e2 f
 cases c:C (x>=0) with
 |false=>exact aP (Ka _) 60 func85 (amJ x n) (by rw[c,e];rfl) rfl
 |true=>
  cases g:C (x<=2*(n:Int)-2) with
  |false=>exact aP (Ka _) 60 func85 e2 (by rw[c,g,e];rfl) rfl
  |true=>exact aP (Ka _) 60 func85 f (by rw[c,g,e];rfl) rfl
def Y6(b:Bool):aK Q:=.val 85 _ func85 (by decide) rfl I 0 (λvs=>match vs with
 | [.int .i64 x,.int .i64 n]=>E (.bool b,[],rL n&&(bf x n==b))
 |_=>Y) λvs v new e=>by
 split at e
 ·simp only[Mf,aad,No,afP] at e
  have⟨rfl,rfl,d,c⟩:=e
  have⟨m,f,q⟩:=afJ.1 d
  obtain rfl:=agm q
  rw[<-c]
  exact Y5 f
 ·cases e
def mQ:aK Q:=.val 41 _ func41 (by decide) rfl I 0 (λvs=>match vs with
 | [.int .i64 x]=>E (.bP [.t6 (bk x),.t6 (aW x)],[],C (0<=x)&&C (x<64))
 |_=>Y) λvs v new e=>by
 split at e
 ·simp only[Mf,aad,No,aac] at e
  have⟨rfl,rfl,c,f⟩:=e
  obtain⟨y,rfl⟩:=ac7 c
  exact Ed (by omega)
 ·cases e
def prC(l:List (Nat×Bool)):cu:=mk [Y6 Z,mQ] [] (uT l)
def xp(l:List (Nat×Bool)):aq Q (prC l):=au _ aN.nil _ _
def prB:Code:=aI f113
def Ug(x n p:Int):St:=⟨ag 33 [(0,.t6 x),(1,.t6 n),(5,.t6 p)],[],Z⟩
def Cw x n:aD (az [0,1,5] 0 ((bh Q (prC []) 60 0 4 (aH prB) ⟨aU f113.ntmps [.t6 x,.t6 n],[],Z⟩).x3))=(E (.normal,(Ug x n 0).t,[]),(aa Z (aa Z (rL n&&bf x n==Z)))):=by kernel_rfl
def Ni x n p:aD (az [0,1,5] 0 (exec Q (prC [(16,Z),(26,I),(30,I)]) 60 0 (aj (aj (aJ 4 prB))) (Ug x n p)))=(E (.normal,(Ug x n (i64.wrap (p+1))).t,[]),(aa (aa (aa (aa Z (C (p<=i64.wrap (i64.wrap (2*n)-2)))) (aa Z (C (0<=p)&&C (p<64)))) !bk p==x) !aW p==x)):=by kernel_rfl
def avm x n p:=bu (Ni x n p)
def amL x n p:=bz (Ni x n p)
def Y8 x n p:aD (az [4] 0 (exec Q (prC [(16,Z),(26,Z)]) 60 0 (aj (aj (aJ 4 prB))) (Ug x n p)))=(E (.ret,(iS 33 4 p).t,[]),(aa (aa (aa Z (C (p<=i64.wrap (i64.wrap (2*n)-2)))) (aa Z (C (0<=p)&&C (p<64)))) (bk p==x))):=by kernel_rfl
def Y9 x n p:aD (az [4] 0 (exec Q (prC [(16,Z),(26,I),(30,Z)]) 60 0 (aj (aj (aJ 4 prB))) (Ug x n p)))=(E (.ret,(iS 33 4 p).t,[]),(aa (aa (aa (aa Z (C (p<=i64.wrap (i64.wrap (2*n)-2)))) (aa Z (C (0<=p)&&C (p<64)))) !bk p==x) (aW p==x))):=by kernel_rfl
def Hj x n p:aD (az [] 0 (exec Q (prC [(16,I)]) 60 0 (aj (aj (aJ 4 prB))) (Ug x n p)))=(E (.exit 0,ag 33 [],[]),(aa Z !C (p<=i64.wrap (i64.wrap (2*n)-2)))):=by kernel_rfl
def aes:(bn.all λn=>(t8 (2*n-1)).all λx=>C (cR (λp=>!(bk (p:Int)==(x:Int))&&!(aW (p:Int)==(x:Int))) (2*n-1) (λp=>(p:Int)) (-1)=iP (x:Int) n))=Z:=by decide+kernel
def Kb{x}{n:Nat}(hx:bf x n=Z):ak Q 113 [.t6 x,.t6 (n:Int)] [] (.t6 (iP x n)) []:=by
 obtain⟨m,hm,y,h1,rfl,h2⟩:=fW hx
 obtain rfl:n=m:=by omega
 have hs:=cn hm
 have hz:rL (n:Int)=Z:=afJ.2 ⟨n,hm,Me rfl⟩
 have f:i64.wrap (i64.wrap (2*(n:Int))-2)=2*(n:Int)-2:=by
  rw[show i64.wrap (2*(n:Int))=2*(n:Int) from dU (by omega) (by omega)]
  exact dU (by omega) (by omega)
 have hv:=agm (aaB.1 (aaB.1 aes n hm) y (aaI.2 h2))
 rw[<-hv]
 have c:=ak.qD (h:=[]) func113 rfl 4 0 (λp:Nat=>Ug y n (p:Int)) (λp=>!(bk (p:Int)==(y:Int))&&!(aW (p:Int)==(y:Int))) (2*n-1)
  (λx s' g=>TrL.i6 (s1:=Ug y n (0:Int)) (xp []) (by simp) (Cw y n) (by rw[hz,hx];rfl) (by decide) rfl g) (by decide) rfl
  (λp hp k _=>?_) (λi=>iS 33 4 (i:Int)) (λi=>[.t6 (i:Int)]) (λp hp k _=>⟨?_,rfl,rfl⟩) (sE:=⟨ag 33 [],[],Z⟩) (A4:=iS 33 4 (-1)) (vE:=[.t6 (-1)]) (xE:=.ret) (λ_=>?_) (λ_=>⟨?_,.inl rfl,rfl,rfl⟩)
 ·rw[de (g:=SV.int .i64) (vF:=λi:Nat=>(i:Int)) (vE:=-1)] at c
  exact c
 ·have⟨d,b2⟩:=agQ.1 k
  have e:=avm y n p
  rw[dm (by omega)] at e
  exact Tr.bg (xp [(16,Z),(26,I),(30,I)]) 60 _ 0 (aar _) (s':=Ug y n ((p+1:Nat):Int)) _ e (amL ..) (by
   rw[f,Me (show(p:Int)<=2*(n:Int)-2 by omega),Me (show(0:Int)<=(p:Int) by omega),Me (show(p:Int)<64 by omega),d,b2];rfl)
 ·cases d:(bk (p:Int)==(y:Int)) with
  |true=>exact Tr.i7 (s':=iS 33 4 (p:Int)) (xp [(16,Z),(26,Z)]) (aar _) (Y8 ..) (by
    rw[f,Me (show(p:Int)<=2*(n:Int)-2 by omega),Me (show(0:Int)<=(p:Int) by omega),Me (show(p:Int)<64 by omega),d];rfl)
  |false=>
   rw[d] at k
   have b2:(aW (p:Int)==((y:Nat):Int))=Z:=by simpa using k
   exact Tr.i7 (s':=iS 33 4 ((p:Nat):Int)) (xp [(16,Z),(26,I),(30,Z)]) (aar _) (Y9 ..) (by
    rw[f,Me (show(p:Int)<=2*(n:Int)-2 by omega),Me (show(0:Int)<=(p:Int) by omega),Me (show(p:Int)<64 by omega),d,b2];rfl)
 ·exact Tr.i7 (s':=⟨ag 33 [],[],Z⟩) (xp [(16,I)]) (aar _) (Hj ..) (by
   rw[f,aaS (show¬(((2*n-1:Nat):Int))<=2*(n:Int)-2 by omega)];rfl)
 ·exact TrL.rest (xp []) 60 rfl rfl
def Gr:aK Q:=.val 113 _ func113 (by decide) rfl I 0 (λvs=>match vs with
 | [.int .i64 x,.int .i64 n]=>E (.t6 (iP x n),[],C (0<=n)&&bf x n)
 |_=>Y) λvs v new e=>by
 split at e
 ·simp only[Mf,aad,No,aac] at e
  have⟨rfl,rfl,c,d⟩:=e
  obtain⟨m,rfl⟩:=ac7 c
  exact Kb d
 ·cases e
def abC(l:List (Nat×Bool)):cu:=mk [Y6 Z,Gr] [] (uT l)
def tG(l:List (Nat×Bool)):aq Q (abC l):=au _ aN.nil _ _
def abB:Code:=aI f76
def abS(x n p:Int):St:=⟨ag 27 [(0,.t6 x),(2,.t6 n),(7,.t6 p)],[],Z⟩
def Cx x y n:aD (az [0,2,7] 0 ((bh Q (abC []) 60 0 4 (aH abB) ⟨aU f76.ntmps [.t6 x,.t6 y,.t6 n],[],Z⟩).x3))=(E (.normal,(abS x n y).t,[]),(aa (aa Z (aa Z (rL n&&bf x n==Z))) (aa Z (rL n&&bf y n==Z)))):=by kernel_rfl
def Nj x n p:aD (az [0,2,7] 0 (exec Q (abC [(20,Z),(26,I)]) 60 0 (aj (aj (aJ 4 abB))) (abS x n p)))=(E (.normal,(abS x n (iP p n)).t,[]),(aa (aa (aa Z (C (p>=0))) !p==x) (aa Z (C (0<=n)&&bf p n)))):=by kernel_rfl
def Nk x n p:aD (az [6] 0 (exec Q (abC [(20,Z),(26,Z)]) 60 0 (aj (aj (aJ 4 abB))) (abS x n p)))=(E (.ret,(bS 27 6 Z).t,[]),(aa (aa Z (C (p>=0))) (p==x))):=by kernel_rfl
def Hl x n p:aD (az [] 0 (exec Q (abC [(20,I)]) 60 0 (aj (aj (aJ 4 abB))) (abS x n p)))=(E (.exit 0,ag 27 [],[]),(aa Z !C (p>=0))):=by kernel_rfl
def aev:Code:=aI f75
def inS(x:Int)(l:pD)(i:Int):St:=⟨ag 18 [(0,.t6 x),(1,.ro I .i64 l),(5,.t6 i)],[],Z⟩
def Cy x(l:pD):aD (az [0,1,5] 0 ((bh Q (AW []) 60 0 2 (aH aev) ⟨aU f75.ntmps [.t6 x,.ro I .i64 l],[],Z⟩).x3))=(E (.normal,(inS x l 0).t,[]),(Z)):=by kernel_rfl
def aew x l:=bu (Cy x l)
def Zb x l:=bz (Cy x l)
def Nl x(l:pD) i:aD (az [0,1,5] 0 (exec Q (AW [(9,Z),(17,I)]) 60 0 (aj (aj (aJ 2 aev))) (inS x l i)))=(E (.normal,(inS x l (i64.wrap (i+1))).t,[]),(aa (aa (aa (aa Z (C (i<(A l:Int)))) (bC i (A l))) (C (O i<A l))) !l.getD (O i) 0==x)):=by kernel_rfl
def avr x l i:=bu (Nl x l i)
def amQ x l i:=bz (Nl x l i)
def Nm x(l:pD) i:aD (az [4] 0 (exec Q (AW [(9,Z),(17,Z)]) 60 0 (aj (aj (aJ 2 aev))) (inS x l i)))=(E (.ret,(bS 18 4 Z).t,[]),(aa (aa (aa (aa Z (C (i<(A l:Int)))) (bC i (A l))) (C (O i<A l))) (X l (O i) 0==x))):=by kernel_rfl
def Ho x(l:pD) i:aD (az [] 0 (exec Q (AW [(9,I)]) 60 0 (aj (aj (aJ 2 aev))) (inS x l i)))=(E (.exit 0,ag 18 [],[]),(aa Z !C (i<(A l:Int)))):=by kernel_rfl
def ruB:Code:=aI f57
def ruS(N:Nat)(t:Nat->aE)(x:Int):St:=⟨ag 19 [(0,.p4 I N t),(5,.t6 x)],[],Z⟩
def Cz N t fr:aD (az [0,5] 0 ((bh Q (AW []) 60 0 2 (aH ruB) ⟨aU f57.ntmps [.p4 I N t,.t6 fr],[],Z⟩).x3))=(E (.normal,(ruS N t (i64.wrap (2*fr))).t,[]),(Z)):=by kernel_rfl
def aey N t fr:=bu (Cz N t fr)
def Zc N t fr:=bz (Cz N t fr)
def Nn N t x:aD (az [0,5] 0 (exec Q (AW [(11,Z),(18,I)]) 60 0 (aj (aj (aJ 2 ruB))) (ruS N t x)))=(E (.normal,(ruS N t (i64.wrap (x+2))).t,[]),(aa (aa (aa (aa Z (C (x<(N:Int)))) (bC x N)) (Z&&(C (O x<N)&&Z))) !(t (O x)).1)):=by kernel_rfl
def avt N t x:=bu (Nn N t x)
def amT N t x:=bz (Nn N t x)
def Np N t x:aD (az [4] 0 (exec Q (AW [(11,Z),(18,Z)]) 60 0 (aj (aj (aJ 2 ruB))) (ruS N t x)))=(E (.ret,(bS 19 4 Z).t,[]),(aa (aa (aa (aa Z (C (x<(N:Int)))) (bC x N)) (Z&&(C (O x<N)&&Z))) (t (O x)).1)):=by kernel_rfl
def Hp N t x:aD (az [] 0 (exec Q (AW [(11,I)]) 60 0 (aj (aj (aJ 2 ruB))) (ruS N t x)))=(E (.exit 0,ag 19 [],[]),(aa Z !C (x<(N:Int)))):=by kernel_rfl
def aCS(a:aE):(aV Q (AW [(4,I)]) 60 f59 [.agg a.cells] []).v3=E (.bool I,aa Z !a.1):=by kernel_rfl
def aCT(a:aE):(aV Q (AW [(4,Z),(8,I)]) 60 f59 [.agg a.cells] []).v3=E (.bool I,aa (aa Z a.1) !C (a.name>=0)):=by kernel_rfl
def aCU(a:aE):(aV Q (AW [(4,Z),(8,Z),(13,I)]) 60 f59 [.agg a.cells] []).v3=E (.bool I,aa (aa (aa Z a.1) (C (a.name>=0))) !C (a.name<=255)):=by kernel_rfl
def aCV(a:aE):(aV Q (AW [(4,Z),(8,Z),(13,Z)]) 60 f59 [.agg a.cells] []).v3=E (.bool ((A a.un:Int)==0),aa (aa (aa Z a.1) (C (a.name>=0))) (C (a.name<=255))):=by kernel_rfl
def yq(n y:Int):Nat->Int
 |0=>y
 |j+1=>iP (yq n y j) n
def Zd(n:Nat)(y:Int):Nat:=((t8 8).find? λj=>C (yq n y j<0)).getD 8
def aeA:(bn.all λn=>(t8 (2*n-1)).all λy=>C (yq n (y:Int) (Zd n (y:Int))<0)&&(t8 (Zd n (y:Int))).all λj=>bf (yq n (y:Int) j) n&&C (yq n (y:Int) j>=0))=Z:=by decide+kernel
def iR(x y:Int)(n:Nat):Bool:=cR (λj=>!(yq n y j==x)) (Zd n y) (λ_=>Z) I
def QF{x y}{n:Nat}(hx:bf x n=Z)(r:bf y n=Z):ak Q 76 [.t6 x,.t6 y,.t6 (n:Int)] [] (.bool (iR x y n)) []:=by
 obtain⟨m,p,c,h1,rfl,h2⟩:=fW r
 obtain rfl:n=m:=by omega
 have hz:rL (n:Int)=Z:=afJ.2 ⟨n,p,Me rfl⟩
 have hd:=aaB.1 (aaB.1 aeA n p) c (aaI.2 h2)
 have⟨v,d2⟩:=agQ.1 hd
 have q:=λj e=>agQ.1 (aaB.1 d2 j (aaI.2 e))
 have d:=ak.qD (h:=[]) (h':=[]) func76 rfl 4 0 (λj:Nat=>abS x n (yq n (c:Int) j)) (λj=>!(yq n (c:Int) j==x)) (Zd n (c:Int))
  (λz s' g=>TrL.i6 (s1:=abS x n c) (tG []) (by simp) (Cx ..) (by rw[hz,hx,r];rfl) (by decide) rfl g) (by decide) rfl
  (λj e o _=>?_) (λi=>bS 27 6 Z) (λi=>[.bool Z]) (λj e o _=>⟨?_,rfl,rfl⟩) (sE:=⟨ag 27 [],[],Z⟩) (A4:=bS 27 6 I) (vE:=[.bool I]) (xE:=.ret) (λ_=>?_) (λ_=>⟨?_,.inl rfl,rfl,rfl⟩)
 ·rw[de (g:=SV.bool) (vF:=λ_:Nat=>Z) (vE:=I)] at d
  exact d
 ·have⟨s,k⟩:=q j e
  exact Tr.i7 (s':=abS x n (yq n (c:Int) (j+1))) (tG [(20,Z),(26,I)]) (aar _) (Nj ..) (by
   rw[s,k,o,Me (show(0:Int)<=(n:Int) by omega)];rfl)
 ·have⟨s,k⟩:=q j e
  have i:(yq n (c:Int) j==x)=Z:=by simpa using o
  exact Tr.i7 (s':=bS 27 6 Z) (tG [(20,Z),(26,Z)]) (aar _) (Nk ..) (by rw[k,i];rfl)
 ·have d4:=agm v
  exact Tr.i7 (s':=⟨ag 27 [],[],Z⟩) (tG [(20,I)]) (aar _) (Hl ..) (by rw[aaS (by omega)];rfl)
 ·exact TrL.rest (tG []) 60 rfl rfl
def Bn(x:Int)(l:pD):Bool:=cR (λi=>!(X l i 0==x)) (A l) (λ_=>Z) I
def amW{x l}(h:A l<=274877906944):ak Q 75 [.t6 x,.ro I .i64 l] [] (.bool (Bn x l)) []:=by
 have d:=ak.qD func75 rfl 2 0 (λj:Nat=>inS x l (j:Int)) (λi=>!(X l i 0==x)) (A l)
  (λz s' g=>TrL.bY (eU []) 60 2 _ 0 (by simp) _ (aew x l) (Zb x l) rfl (by decide) rfl g) (by decide) rfl
  (λj c hb _=>?_) (λi=>bS 18 4 Z) (λi=>[.bool Z]) (λj c hb _=>⟨?_,rfl,rfl⟩) (sE:=⟨ag 18 [],[],Z⟩) (A4:=bS 18 4 I) (vE:=[.bool I]) (xE:=.ret) (λ_=>?_) (λ_=>⟨?_,.inl rfl,rfl,rfl⟩)
 ·rw[de (g:=SV.bool) (vF:=λ_:Nat=>Z) (vE:=I)] at d;exact d
 ·have e:=avr x l j;rw[dm (by omega)] at e;exact Tr.bg (eU [(9,Z),(17,I)]) 60 _ 0 (aar _) (s':=inS x l ((j+1:Nat):Int)) _ e (amQ ..) (by rw[aaq,g8 c,bW c,Me c,hb];rfl)
 ·have hb':(X l j 0==x)=Z:=by simpa using hb
  exact Tr.i7 (s':=bS 18 4 Z) (eU [(9,Z),(17,Z)]) (aar _) (Nm ..) (by rw[aaq,g8 c,bW c,Me c,hb'];rfl)
 ·exact Tr.i7 (s':=⟨ag 18 [],[],Z⟩) (eU [(9,I)]) (aar _) (Ho ..) (by rw[gV (aar _)];rfl)
 ·exact TrL.rest (eU []) 60 rfl rfl
def AJ{N fr t}(h:N<=274877906944)(hf:fr<=274877906944):ak Q 57 [.p4 I N t,.t6 ((fr:Nat):Int)] [] (.bool (!fm N t fr)) []:=by
 have d:=ak.qD (h:=[]) (h':=[]) func57 rfl 2 0 (λj:Nat=>ruS N t ((2*fr+2*j:Nat):Int)) (λj=>!(t (2*fr+2*j)).used) ((N+1-2*fr)/2)
  (λx s' g=>TrL.bY (eU []) 60 2 _ 0 (by simp) (s1:=ruS N t ((2*fr+2*0:Nat):Int)) _ (by have:=aey N t fr;rw[dU (by omega) (by omega)] at this;rw[show((2*fr+2*0:Nat):Int)=2*(fr:Int) by omega];exact this) (Zc ..) rfl (by decide) rfl g) (by decide) rfl
  (λj m k _=>?_) (λi=>bS 19 4 Z) (λi=>[.bool Z]) (λj m k _=>⟨?_,rfl,rfl⟩) (sE:=⟨ag 19 [],[],Z⟩) (A4:=bS 19 4 I) (vE:=[.bool I]) (xE:=.ret) (λ_=>?_) (λ_=>⟨?_,.inl rfl,rfl,rfl⟩)
 ·rw[de (g:=SV.bool) (vF:=λ_:Nat=>Z) (vE:=I)] at d;have n:cR (λj=>!(t (2*fr+2*j)).used) ((N+1-2*fr)/2) (λ_=>Z) I=!fm N t fr:=by unfold cR fm;rw[<-eS];cases cV _ _<;>rfl
  rw[n] at d;exact d
 ·have e:=avt N t ((2*fr+2*j:Nat):Int);rw[dU (by omega) (by omega),show((2*fr+2*j:Nat):Int)+2=((2*fr+2*(j+1):Nat):Int) by omega] at e;have c:2*fr+2*j<N:=by omega
  exact Tr.bg (eU [(11,Z),(18,I)]) 60 _ 0 (aar _) (s':=ruS N t ((2*fr+2*(j+1):Nat):Int)) _ e (amT ..) (by rw[aaq,g8 c,bW c,Me c,show(!(t (2*fr+2*j)).1)=Z from k];rfl)
 ·have c:2*fr+2*j<N:=by omega
  have l:(t (2*fr+2*j)).used=Z:=by simpa using k
  exact Tr.i7 (s':=bS 19 4 Z) (eU [(11,Z),(18,Z)]) (aar _) (Np N t _) (by rw[aaq,g8 c,bW c,Me c,show(t (2*fr+2*j)).1=Z from l];rfl)
 ·exact Tr.i7 (s':=⟨ag 19 [],[],Z⟩) (eU [(11,I)]) (aar _) (Hp N t _) (by rw[gV (by omega)];rfl)
 ·exact TrL.rest (eU []) 60 rfl rfl
def Ze(a:aE):ak Q 59 [.agg a.cells] [] (.bool (Om a.used a.name a.un)) []:=by
 unfold Om
 cases c:a.used with
 |false=>exact aP (eU _) 60 func59 (aCS a) (by rw[c];rfl) rfl
 |true=>
  cases d:C (a.name>=0) with
  |false=>exact aP (eU _) 60 func59 (aCT a) (by rw[c,d];rfl) rfl
  |true=>
   cases e:C (a.name<=255) with
   |false=>exact aP (eU _) 60 func59 (aCU a) (by rw[c,d,e];rfl) rfl
   |true=>exact aP (eU _) 60 func59 (aCV a) (by rw[c,d,e];rfl) rfl
