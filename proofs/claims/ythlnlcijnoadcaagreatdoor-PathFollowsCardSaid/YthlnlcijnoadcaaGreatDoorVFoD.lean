/- This file proves lemmas for the last one. Conditions: those in them. -/
import Derived.Test.YthlnlcijnoadcaaGreatDoorVTsC
import Derived.OpenShut
import Derived.LaidSub
import Derived.Maps.RangeRun
noncomputable section
open Bool renaming true->Z,false->I
open Option renaming some->E,none->Y
open Decidable renaming decide->C
open List renaming length->A,getD->X,replicate->t9,range->t8
open Int renaming toNat->O
open Go.Proofs.Tryz
open Go.Proofs.Tryz renaming prog->Q
open Go.IntKind (i64)
set_option linter.all false
set_option maxRecDepth 100000
namespace Go.Proofs.YthlnlcijnoadcaaGreatDoor
namespace Tr
open Sy
def Kr:aK Q:=.val 76 _ func76 (by decide) rfl I 0 (λvs=>match vs with
 | [.int .i64 x,.int .i64 y,.int .i64 n]=>E (.bool (iR x y (O n)),[],C (0<=n)&&bf x n&&bf y n)
 |_=>Y) λvs v new e=>by
 split at e
 ·simp only[Mf,aad,No,aac] at e
  have⟨rfl,rfl,⟨b,c⟩,a⟩:=e
  obtain⟨m,rfl⟩:=ac7 b
  exact QF c a
 ·cases e
def akr:aK Q:=.val 75 _ func75 (by decide) rfl Z 0 (λvs=>match vs with
 | [.int .i64 x,.ro I .i64 l]=>E (.bool (Bn x l),[],C (A l<=274877906944))
 |_=>Y) λvs v new e=>by
 split at e
 ·simp only[Mf,aad,aac] at e;have⟨rfl,rfl,a⟩:=e;exact amW a
 ·cases e
def AX(l:List (Nat×Bool)):cu:=mk [Kr,akr] [] (uT l)
def fo l:aq Q (AX l):=au _ aN.nil _ _
def rpB:Code:=aI f58
def Z4:Code:=aj (aj (aJ 5 rpB))
def Nq:Code:=aj (aJ 2 Z4)
def Z5:Code:=aj (aj (aJ 4 Nq))
def rpX(N:Nat)(t:Nat->aE)(x n k:Int)(l:List (Nat×SV)):St:=⟨ag 113 ([(0,.p4 I N t),(1,.t6 x),(2,.t6 n),(7,.r5 0),(8,.t6 k)]++l),[.b (t (O x)).cells],Z⟩
def p5(N:Nat)(t:Nat->aE)(x n k:Int):St:=rpX N t x n k []
def v9(N:Nat)(t:Nat->aE)(x n k i y:Int):St:=rpX N t x n k [(9,.t6 i),(10,.t6 y)]
def aCW(N:Nat)(t:Nat->aE)(x n:Int):(aV Q (AX [(17,Z)]) 60 f58 [.p4 I N t,.t6 x,.t6 n] []).v3=E (.bool I,aa (aa (aa Z (bC x N)) (Z&&(C (O x<N)&&Z))) ((t (O x)).name != 0)):=by kernel_rfl
def aCX(N:Nat)(t:Nat->aE)(x n:Int):(aV Q (AX [(17,I),(22,Z)]) 60 f58 [.p4 I N t,.t6 x,.t6 n] []).v3=E (.bool I,aa (aa (aa (aa (aa Z (bC x N)) (Z&&(C (O x<N)&&Z))) !(t (O x)).name != 0) (C ((t (O x)).bH.length=32))) !C ((t (O x)).bH=t9 32 0)):=by kernel_rfl
def CA(N:Nat)(t:Nat->aE)(x n:Int):aD (az [0,1,2,7,8] 1 ((bh Q (AX [(17,I),(22,I)]) 60 0 5 (aH rpB) ⟨aU f58.ntmps [.p4 I N t,.t6 x,.t6 n],[],Z⟩).x3))=(E (.normal,(p5 N t x n 0).t,(p5 N t x n 0).h),(aa (aa (aa (aa (aa Z (bC x N)) (Z&&(C (O x<N)&&Z))) !(t (O x)).name != 0) (C ((t (O x)).bH.length=32))) !!C ((t (O x)).bH=t9 32 0))):=by kernel_rfl
def Hq(N:Nat)(t:Nat->aE)(x n k:Int):aD (az [] 0 (exec Q (AX [(28,I)]) 60 0 Z4 (p5 N t x n k)))=(E (.exit 0,ag 113 [],[]),(aa Z !C (k<((t (O x)).un.length:Int)))):=by kernel_rfl
def Nr(N:Nat)(t:Nat->aE)(x n k:Int):aD (az [0,1,2,7,8] 1 ((bh Q (AX [(28,Z)]) 60 0 2 (aH Z4) (p5 N t x n k)).x3))=(E (.normal,(p5 N t x n k).t,(p5 N t x n k).h),(aa Z (C (k<((t (O x)).un.length:Int))))):=by kernel_rfl
def Ns(N:Nat)(t:Nat->aE)(x n k:Int):aD (az [0,1,2,7,8] 1 (exec Q (AX []) 60 0 (aJ 3 Z4) (p5 N t x n k)))=(E (.normal,(p5 N t x n (i64.wrap (k+1))).t,(p5 N t x n k).h),(Z)):=by kernel_rfl
def avw N t x n k:=bu (Ns N t x n k)
def amZ N t x n k:=bz (Ns N t x n k)
def Nt(N:Nat)(t:Nat->aE)(x n k:Int):aD (az [0,1,2,7,8,9,10] 1 ((bh Q (AX [(37,I),(41,I),(45,I),(63,Z),(71,Z)]) 60 0 4 (aH Nq) (p5 N t x n k)).x3))=(E (.normal,(v9 N t x n k ((t (O x)).un.getD (O k) 0) 1).t,(p5 N t x n k).h),(aa (aa (aa (aa (aa (aa (aa (aa (aa (aa Z (bC k (t (O x)).un.length)) (C (O k<(t (O x)).un.length))) !C ((t (O x)).un.getD (O k) 0<0)) !C ((t (O x)).un.getD (O k) 0>=n)) !C (k>0)) (bC (i64.wrap (2*(t (O x)).un.getD (O k) 0)) N)) (Z&&(C (O (i64.wrap (2*(t x.toNat).un.getD k.toNat 0))<N)&&Z))) (t (O (i64.wrap (2*(t x.toNat).un.getD k.toNat 0)))).1) (aa Z (C (0<=n)&&bf x n&&bf (i64.wrap (2*(t (O x)).un.getD (O k) 0)) n))) (iR x (i64.wrap (2*(t (O x)).un.getD (O k) 0)) (O n)))):=by kernel_rfl
def avx N t x n k:=bu (Nt N t x n k)
def am0 N t x n k:=bz (Nt N t x n k)
def Nu(N:Nat)(t:Nat->aE)(x n k:Int):aD (az [0,1,2,7,8,9,10] 1 ((bh Q (AX [(37,I),(41,I),(45,Z),(54,I),(63,Z),(71,Z)]) 60 0 4 (aH Nq) (p5 N t x n k)).x3))=(E (.normal,(v9 N t x n k ((t (O x)).un.getD (O k) 0) 1).t,(p5 N t x n k).h),(aa (aa (aa (aa (aa (aa (aa (aa (aa (aa (aa (aa (aa Z (bC k (t (O x)).un.length)) (C (O k<(t (O x)).un.length))) !C ((t (O x)).un.getD (O k) 0<0)) !C ((t (O x)).un.getD (O k) 0>=n)) (C (k>0))) (bC (i64.wrap (k-1)) (t (O x)).un.length)) (C (O (i64.wrap (k-1))<(t (O x)).un.length))) !C ((t (O x)).un.getD (O k) 0<=(t (O x)).un.getD (O (i64.wrap (k-1))) 0)) (bC (i64.wrap (2*(t (O x)).un.getD (O k) 0)) N)) (Z&&(C (O (i64.wrap (2*(t x.toNat).un.getD k.toNat 0))<N)&&Z))) (t (O (i64.wrap (2*(t x.toNat).un.getD k.toNat 0)))).1) (aa Z (C (0<=n)&&bf x n&&bf (i64.wrap (2*(t (O x)).un.getD (O k) 0)) n))) (iR x (i64.wrap (2*(t (O x)).un.getD (O k) 0)) (O n)))):=by kernel_rfl
def avy N t x n k:=bu (Nu N t x n k)
def am1 N t x n k:=bz (Nu N t x n k)
def Nv(N:Nat)(t:Nat->aE)(x n k:Int):aD (az [6] 0 (exec Q (AX [(37,Z)]) 60 0 Nq (p5 N t x n k)))=(E (.ret,(bS 113 6 I).t,[]),(aa (aa (aa Z (bC k (t (O x)).un.length)) (C (O k<(t (O x)).un.length))) (C ((t (O x)).un.getD (O k) 0<0)))):=by kernel_rfl
def Nw(N:Nat)(t:Nat->aE)(x n k:Int):aD (az [6] 0 (exec Q (AX [(37,I),(41,Z)]) 60 0 Nq (p5 N t x n k)))=(E (.ret,(bS 113 6 I).t,[]),(aa (aa (aa (aa Z (bC k (t (O x)).un.length)) (C (O k<(t (O x)).un.length))) !C ((t (O x)).un.getD (O k) 0<0)) (C ((t (O x)).un.getD (O k) 0>=n)))):=by kernel_rfl
def Nx(N:Nat)(t:Nat->aE)(x n k:Int):aD (az [6] 0 (exec Q (AX [(37,I),(41,I),(45,Z),(54,Z)]) 60 0 Nq (p5 N t x n k)))=(E (.ret,(bS 113 6 I).t,[]),(aa (aa (aa (aa (aa (aa (aa (aa Z (bC k (t (O x)).un.length)) (C (O k<(t (O x)).un.length))) !C ((t (O x)).un.getD (O k) 0<0)) !C ((t (O x)).un.getD (O k) 0>=n)) (C (k>0))) (bC (i64.wrap (k-1)) (t (O x)).un.length)) (C (O (i64.wrap (k-1))<(t (O x)).un.length))) (C ((t (O x)).un.getD (O k) 0<=(t (O x)).un.getD (O (i64.wrap (k-1))) 0)))):=by kernel_rfl
def Hr(N:Nat)(t:Nat->aE)(x n k:Int):aD (az [6] 0 (exec Q (AX [(37,I),(41,I),(45,I),(63,I)]) 60 0 Nq (p5 N t x n k)))=(E (.ret,(bS 113 6 I).t,[]),(aa (aa (aa (aa (aa (aa (aa (aa Z (bC k (t (O x)).un.length)) (C (O k<(t (O x)).un.length))) !C ((t (O x)).un.getD (O k) 0<0)) !C ((t (O x)).un.getD (O k) 0>=n)) !C (k>0)) (bC (i64.wrap (2*(t (O x)).un.getD (O k) 0)) N)) (Z&&(C (O (i64.wrap (2*(t x.toNat).un.getD k.toNat 0))<N)&&Z))) !(t (O (i64.wrap (2*(t x.toNat).un.getD k.toNat 0)))).1)):=by kernel_rfl
def Hs(N:Nat)(t:Nat->aE)(x n k:Int):aD (az [6] 0 (exec Q (AX [(37,I),(41,I),(45,Z),(54,I),(63,I)]) 60 0 Nq (p5 N t x n k)))=(E (.ret,(bS 113 6 I).t,[]),(aa (aa (aa (aa (aa (aa (aa (aa (aa (aa (aa Z (bC k (t (O x)).un.length)) (C (O k<(t (O x)).un.length))) !C ((t (O x)).un.getD (O k) 0<0)) !C ((t (O x)).un.getD (O k) 0>=n)) (C (k>0))) (bC (i64.wrap (k-1)) (t (O x)).un.length)) (C (O (i64.wrap (k-1))<(t (O x)).un.length))) !C ((t (O x)).un.getD (O k) 0<=(t (O x)).un.getD (O (i64.wrap (k-1))) 0)) (bC (i64.wrap (2*(t (O x)).un.getD (O k) 0)) N)) (Z&&(C (O (i64.wrap (2*(t x.toNat).un.getD k.toNat 0))<N)&&Z))) !(t (O (i64.wrap (2*(t x.toNat).un.getD k.toNat 0)))).1)):=by kernel_rfl
def Ht(N:Nat)(t:Nat->aE)(x n k:Int):aD (az [6] 0 (exec Q (AX [(37,I),(41,I),(45,I),(63,Z),(71,I)]) 60 0 Nq (p5 N t x n k)))=(E (.ret,(bS 113 6 I).t,[]),(aa (aa (aa (aa (aa (aa (aa (aa (aa (aa Z (bC k (t (O x)).un.length)) (C (O k<(t (O x)).un.length))) !C ((t (O x)).un.getD (O k) 0<0)) !C ((t (O x)).un.getD (O k) 0>=n)) !C (k>0)) (bC (i64.wrap (2*(t (O x)).un.getD (O k) 0)) N)) (Z&&(C (O (i64.wrap (2*(t x.toNat).un.getD k.toNat 0))<N)&&Z))) (t (O (i64.wrap (2*(t x.toNat).un.getD k.toNat 0)))).1) (aa Z (C (0<=n)&&bf x n&&bf (i64.wrap (2*(t (O x)).un.getD (O k) 0)) n))) !iR x (i64.wrap (2*(t (O x)).un.getD (O k) 0)) (O n))):=by kernel_rfl
def Hu(N:Nat)(t:Nat->aE)(x n k:Int):aD (az [6] 0 (exec Q (AX [(37,I),(41,I),(45,Z),(54,I),(63,Z),(71,I)]) 60 0 Nq (p5 N t x n k)))=(E (.ret,(bS 113 6 I).t,[]),(aa (aa (aa (aa (aa (aa (aa (aa (aa (aa (aa (aa (aa Z (bC k (t (O x)).un.length)) (C (O k<(t (O x)).un.length))) !C ((t (O x)).un.getD (O k) 0<0)) !C ((t (O x)).un.getD (O k) 0>=n)) (C (k>0))) (bC (i64.wrap (k-1)) (t (O x)).un.length)) (C (O (i64.wrap (k-1))<(t (O x)).un.length))) !C ((t (O x)).un.getD (O k) 0<=(t (O x)).un.getD (O (i64.wrap (k-1))) 0)) (bC (i64.wrap (2*(t (O x)).un.getD (O k) 0)) N)) (Z&&(C (O (i64.wrap (2*(t x.toNat).un.getD k.toNat 0))<N)&&Z))) (t (O (i64.wrap (2*(t x.toNat).un.getD k.toNat 0)))).1) (aa Z (C (0<=n)&&bf x n&&bf (i64.wrap (2*(t (O x)).un.getD (O k) 0)) n))) !iR x (i64.wrap (2*(t (O x)).un.getD (O k) 0)) (O n))):=by kernel_rfl
def Ny(N:Nat)(t:Nat->aE)(x n k i y:Int):aD (az [0,1,2,7,8,9,10] 1 (exec Q (AX [(77,Z),(82,I)]) 60 0 Z5 (v9 N t x n k i y)))=(E (.normal,(v9 N t x n k i (i64.wrap (y+2))).t,(p5 N t x n k).h),(aa (aa Z (C (y<(N:Int)))) !y != x)):=by kernel_rfl
def avC N t x n k i y:=bu (Ny N t x n k i y)
def am9 N t x n k i y:=bz (Ny N t x n k i y)
def Nz(N:Nat)(t:Nat->aE)(x n k i y:Int):aD (az [0,1,2,7,8,9,10] 1 (exec Q (AX [(77,Z),(82,Z),(88,I)]) 60 0 Z5 (v9 N t x n k i y)))=(E (.normal,(v9 N t x n k i (i64.wrap (y+2))).t,(p5 N t x n k).h),(aa (aa (aa (aa (aa Z (C (y<(N:Int)))) (y != x)) (bC y N)) (Z&&(C (O y<N)&&Z))) !(t (O y)).1)):=by kernel_rfl
def avD N t x n k i y:=bu (Nz N t x n k i y)
def ana N t x n k i y:=bz (Nz N t x n k i y)
def NA(N:Nat)(t:Nat->aE)(x n k i y:Int):aD (az [0,1,2,7,8,9,10] 1 (exec Q (AX [(77,Z),(82,Z),(88,Z),(94,I)]) 60 0 Z5 (v9 N t x n k i y)))=(E (.normal,(v9 N t x n k i (i64.wrap (y+2))).t,(p5 N t x n k).h),(aa (aa (aa (aa (aa (aa (aa Z (C (y<(N:Int)))) (y != x)) (bC y N)) (Z&&(C (O y<N)&&Z))) (t (O y)).1) (aa Z (C (0<=n)&&bf x n&&bf y n))) !iR x y (O n))):=by kernel_rfl
def avE N t x n k i y:=bu (NA N t x n k i y)
def anb N t x n k i y:=bz (NA N t x n k i y)
def NB(N:Nat)(t:Nat->aE)(x n k i y:Int):aD (az [0,1,2,7,8,9,10] 1 (exec Q (AX [(77,Z),(82,Z),(88,Z),(94,Z),(101,I)]) 60 0 Z5 (v9 N t x n k i y)))=(E (.normal,(v9 N t x n k i (i64.wrap (y+2))).t,(p5 N t x n k).h),(aa (aa (aa (aa (aa (aa (aa (aa (aa Z (C (y<(N:Int)))) (y != x)) (bC y N)) (Z&&(C (O y<N)&&Z))) (t (O y)).1) (aa Z (C (0<=n)&&bf x n&&bf y n))) (iR x y (O n))) (aa Z (C (0<=n)&&bf y n&&bf (i64.wrap (2*i)) n))) !iR y (i64.wrap (2*i)) (O n))):=by kernel_rfl
def avF N t x n k i y:=bu (NB N t x n k i y)
def anc N t x n k i y:=bz (NB N t x n k i y)
def NC(N:Nat)(t:Nat->aE)(x n k i y:Int):aD (az [0,1,2,7,8,9,10] 1 (exec Q (AX [(77,Z),(82,Z),(88,Z),(94,Z),(101,Z),(110,Z)]) 60 0 Z5 (v9 N t x n k i y)))=(E (.normal,(v9 N t x n k i (i64.wrap (y+2))).t,(p5 N t x n k).h),(aa (aa (aa (aa (aa (aa (aa (aa (aa (aa (aa (aa (aa Z (C (y<(N:Int)))) (y != x)) (bC y N)) (Z&&(C (O y<N)&&Z))) (t (O y)).1) (aa Z (C (0<=n)&&bf x n&&bf y n))) (iR x y (O n))) (aa Z (C (0<=n)&&bf y n&&bf (i64.wrap (2*i)) n))) (iR y (i64.wrap (2*i)) (O n))) (bC y N)) (Z&&(C (O y<N)&&Z))) (aa Z (C ((t (O y)).un.length<=274877906944)))) (Bn i (t (O y)).un))):=by kernel_rfl
def avG N t x n k i y:=bu (NC N t x n k i y)
def ane N t x n k i y:=bz (NC N t x n k i y)
def ND(N:Nat)(t:Nat->aE)(x n k i y:Int):aD (az [6] 0 (exec Q (AX [(77,Z),(82,Z),(88,Z),(94,Z),(101,Z),(110,I)]) 60 0 Z5 (v9 N t x n k i y)))=(E (.ret,(bS 113 6 I).t,[]),(aa (aa (aa (aa (aa (aa (aa (aa (aa (aa (aa (aa (aa Z (C (y<(N:Int)))) (y != x)) (bC y N)) (Z&&(C (O y<N)&&Z))) (t (O y)).1) (aa Z (C (0<=n)&&bf x n&&bf y n))) (iR x y (O n))) (aa Z (C (0<=n)&&bf y n&&bf (i64.wrap (2*i)) n))) (iR y (i64.wrap (2*i)) (O n))) (bC y N)) (Z&&(C (O y<N)&&Z))) (aa Z (C ((t (O y)).un.length<=274877906944)))) !Bn i (t (O y)).un)):=by kernel_rfl
def NF(N:Nat)(t:Nat->aE)(x n k i y:Int):aD (az [0,1,2,7,8] 1 (exec Q (AX [(77,I)]) 60 0 Z5 (v9 N t x n k i y)))=(E (.exit 2,(p5 N t x n k).t,(p5 N t x n k).h),(aa Z !C (y<(N:Int)))):=by kernel_rfl
end Tr
end Go.Proofs.YthlnlcijnoadcaaGreatDoor
namespace Go.Sy
def TrL.nil{P ro}{k:Nat}{l s}(h:l=[]):TrL P ro k l s .normal s:=by subst h;exact⟨rfl,rfl⟩
end Go.Sy
namespace Go.Proofs.YthlnlcijnoadcaaGreatDoor
namespace Tr
open Sy
def inJ(t:Nat->aE)(x:Int)(n:Nat)(i:Int)(j:Nat):Bool:=!(((2*j+1:Nat):Int) != x&&((t (2*j+1)).used&&(iR x ((2*j+1:Nat):Int) n&&(iR ((2*j+1:Nat):Int) (2*i) n&&!Bn i (t (2*j+1)).un))))
def CH(t:Nat->aE)(x:Int)(n:Nat)(un:pD)(k:Nat):Bool:=!C (X un k 0<0)&&(!C (X un k 0>=n)&&(!(C ((k:Int)>0)&&C (X un k 0<=X un (k-1) 0))&&((t (O (2*un.getD k 0))).used&&iR x (2*X un k 0) n)))
def x8(N:Nat)(t:Nat->aE)(x:Int)(n:Nat)(un:pD)(k:Nat):Bool:=CH t x n un k&&(t8 (N/2)).all (inJ t x n (X un k 0))
def j6(N:Nat)(t:Nat->aE)(x:Int)(n:Nat):Bool:=!((t (O x)).name != 0)&&(C ((t (O x)).bH=t9 32 0)&&(t8 (t (O x)).un.length).all (x8 N t x n (t (O x)).un))
section
variable {N:Nat} {t:Nat->aE} {x:Int} {n k j:Nat}
def oH(a:n∈bn){i:Int}(b:0<=i)(h1:i<n):bf (2*i) n=Z:=by rw[uL a,No,aac,aac];omega
def agY(hT:eo N t)(g:n∈bn)(hN:N=2*n-1)(l:bf x n=Z){i:Int}(h0:0<=i)(h1:i<n)(hj:j<N/2)(c:inJ t x n i j=Z):
  Tr Q Y 0 Z5 (v9 N t x n k i ((2*j+1:Nat):Int)) .normal (v9 N t x n k i ((2*(j+1)+1:Nat):Int)):=by
 have hs:=cn g
 have a:2*j+1<N:=by omega
 have d:i64.wrap (((2*j+1:Nat):Int)+2)=(2*(j+1)+1:Int):=by rw[dU (by omega) (by omega)];omega
 have Rh:i64.wrap (2*i)=2*i:=dU (by omega) (by omega)
 have hy:bf ((2*j+1:Nat):Int) n=Z:=by
  rw[uL g,No,aac,aac];omega
 have b:C ((0:Int)<=(n:Int))=Z:=Me (by omega)
 unfold inJ at c
 cases c1:(((2*j+1:Nat):Int) != x) with
 |false=>
  have e:=avC N t x n k i ((2*j+1:Nat):Int)
  rw[d] at e
  exact Tr.bg (fo [(77,Z),(82,I)]) 60 _ 1 (aaH _) _ e (am9 ..) (by rw[g8 a,c1];rfl)
 |true=>
 rw[c1,af0] at c
 cases c2:(t (2*j+1)).used with
 |false=>
  have e:=avD N t x n k i ((2*j+1:Nat):Int)
  rw[d] at e
  exact Tr.bg (fo [(77,Z),(82,Z),(88,I)]) 60 _ 1 (aaH _) _ e (ana N t x n k i _) (by
   rw[aaq,g8 a,c1,bW a,Me a,show(t (2*j+1)).1=I from c2];rfl)
 |true=>
 rw[c2,af0] at c
 cases h:iR x ((2*j+1:Nat):Int) n with
 |false=>
  have e:=avE N t x n k i ((2*j+1:Nat):Int)
  rw[d] at e
  exact Tr.bg (fo [(77,Z),(82,Z),(88,Z),(94,I)]) 60 _ 1 (aaH _) _ e (anb N t x n k i _) (by
   rw[aaq,aaq,g8 a,c1,bW a,Me a,show(t (2*j+1)).1=Z from c2,b,l,hy,h];rfl)
 |true=>
 rw[h,af0] at c
 cases c4:iR ((2*j+1:Nat):Int) (2*i) n with
 |false=>
  have e:=avF N t x n k i ((2*j+1:Nat):Int)
  rw[d] at e
  exact Tr.bg (fo [(77,Z),(82,Z),(88,Z),(94,Z),(101,I)]) 60 _ 1 (aaH _) _ e (anc N t x n k i _) (by
   rw[aaq,aaq,Rh,g8 a,c1,bW a,Me a,show(t (2*j+1)).1=Z from c2,b,l,hy,h,oH g h0 h1,c4];rfl)
 |true=>
  rw[c4,af0] at c
  have c5:Bn i (t (2*j+1)).un=Z:=by simpa using c
  have e:=avG N t x n k i ((2*j+1:Nat):Int)
  rw[d] at e
  exact Tr.bg (fo [(77,Z),(82,Z),(88,Z),(94,Z),(101,Z),(110,Z)]) 60 _ 1 (aaH _) _ e (ane N t x n k i _) (by
   rw[aaq,aaq,Rh,g8 a,c1,bW a,Me a,show(t (2*j+1)).1=Z from c2,b,l,hy,h,oH g h0 h1,c4,Me (hT.un _ a),c5];rfl)
def avJ(e:eo N t)(d:n∈bn)(hN:N=2*n-1)(g:bf x n=Z){i:Int}(o:0<=i)(h1:i<n)(hj:j<N/2)(b:inJ t x n i j=I):
  Tr Q Y 0 Z5 (v9 N t x n k i ((2*j+1:Nat):Int)) .ret (bS 113 6 I):=by
 have hs:=cn d
 have a:2*j+1<N:=by omega
 have h:i64.wrap (2*i)=2*i:=dU (by omega) (by omega)
 have m:bf ((2*j+1:Nat):Int) n=Z:=by
  rw[uL d,No,aac,aac];omega
 have c:C ((0:Int)<=(n:Int))=Z:=Me (by omega)
 unfold inJ at b
 rw[Bool.not_eq_false'] at b
 simp only[No] at b
 have⟨c1,c2,p,l,f⟩:=b
 exact Tr.i7 (fo [(77,Z),(82,Z),(88,Z),(94,Z),(101,Z),(110,I)]) (aaH _) (ND ..) (by
  rw[aaq,aaq,h,g8 a,c1,bW a,Me a,show(t (2*j+1)).1=Z from c2,c,g,m,p,oH d o h1,l,Me (e.un _ a),f];rfl)
def anh(a:N<=71){i:Int}:Tr Q Y 0 Z5 (v9 N t x n k i ((2*(N/2)+1:Nat):Int)) (.exit 2) (p5 N t x n k):=
 Tr.i7 (fo [(77,I)]) (aaH _) (NF ..) (by rw[gV (by omega)];rfl)
end
def Zg:aJ 2 Z4=.block 1 Nq:=by kernel_rfl
def aeI:(aH Z4).drop 4=[]:=by kernel_rfl
def aeJ:(aH Nq).drop 5=[]:=by kernel_rfl
section
variable {N:Nat} {t:Nat->aE} {x:Int} {n k:Nat}
theorem NG(w:eo N t)(u:n∈bn)(hN:N=2*n-1)(h:bf x n=Z)(d:k<(t x.toNat).un.length)(l:CH t x n (t x.toNat).un k=Z){y:Exit}{s':St}
  (g:TrL Q none 0 ((aH Nq).drop 4) (v9 N t x n k ((t x.toNat).un.getD k 0) ((2*0+1:Nat):Int)) y s'):TrL Q none 0 (aH Nq) (p5 N t x n k) y s':=by
 obtain⟨F,H⟩:=kX h
 have B:x.toNat<N:=by omega
 have D:=w.un _ B
 have G:=cn u
 unfold CH at l
 simp only[No] at l
 obtain⟨c1,c2,v,s,p⟩:=l
 have e1:¬(t x.toNat).un.getD k 0<0:=by simpa using c1
 have e2:¬(t x.toNat).un.getD k 0>=(n:Int):=by
  intro q
  rw[Me q] at c2
  cases c2
 have r:i64.wrap (2*(t x.toNat).un.getD k 0)=2*(t x.toNat).un.getD k 0:=dU (by omega) (by omega)
 have a:decide ((0:Int)<=(n:Int))=Z:=Me (by omega)
 have b:=oH u (i:=(t x.toNat).un.getD k 0) (by omega) (by omega)
 by_cases o:(k:Int)>0
 ·have m:decide ((t x.toNat).un.getD k 0<=(t x.toNat).un.getD (k-1) 0)=false:=by
   rw[Me o,af0] at v
   simpa using v
  have f:i64.wrap ((k:Int)-1)=((k-1:Nat):Int):=by rw[dU (by omega) (by omega)];omega
  have c:k-1<(t x.toNat).un.length:=by omega
  have e:=avy N t x n k
  rw[aaq] at e
  refine TrL.bY (fo [(37,false),(41,false),(45,Z),(54,false),(63,Z),(71,Z)]) 60 4 _ 1 (aaH _) (s1:=v9 N t x n k ((t x.toNat).un.getD k 0) ((2*0+1:Nat):Int)) _ e (am1 N t x n k) ?_ (by decide) rfl g
  rw[aaq,aaq,f,aaq,r,bW d,Me d,c1,c2,Me o,bW c,Me c,m,uq (by omega) (by omega),Me (show(2*(t x.toNat).un.getD k 0).toNat<N by omega),
   show(t (2*(t x.toNat).un.getD k 0).toNat).1=Z from s,a,h,b,p]
  rfl
 ·have e:=avx N t x n k
  rw[aaq] at e
  refine TrL.bY (fo [(37,false),(41,false),(45,false),(63,Z),(71,Z)]) 60 4 _ 1 (aaH _) (s1:=v9 N t x n k ((t x.toNat).un.getD k 0) ((2*0+1:Nat):Int)) _ e (am0 N t x n k) ?_ (by decide) rfl g
  rw[aaq,aaq,r,bW d,Me d,c1,c2,aaS o,uq (by omega) (by omega),Me (show(2*(t x.toNat).un.getD k 0).toNat<N by omega),
   show(t (2*(t x.toNat).un.getD k 0).toNat).1=Z from s,a,h,b,p]
  rfl
def Hv(a:k<(t (O x)).un.length){y s'}(g:TrL Q Y 0 ((aH Z4).drop 2) (p5 N t x n k) y s'):Tr Q Y 0 Z4 (p5 N t x n k) y s':=
 Tr.eX (TrL.i6 (fo [(28,Z)]) (aaH _) (Nr ..) (by rw[g8 a];rfl) (by decide) rfl g)
def agZ(b:eo N t)(a:CH t x n (t (O x)).un k=Z):0<=(t (O x)).un.getD k 0/\(t (O x)).un.getD k 0<n:=by
 have:=b.le
 unfold CH at a
 simp only[No] at a
 have⟨c1,c2,_⟩:=a
 constructor
 ·have e1:¬(t (O x)).un.getD k 0<0:=by simpa using c1
  omega
 ·have e2:¬(t (O x)).un.getD k 0>=(n:Int):=by
   intro q
   rw[Me q] at c2
   cases c2
  omega
def aeL(a:eo N t)(d:n∈bn)(hN:N=2*n-1)(b:bf x n=Z)(g:k<(t (O x)).un.length)(l:x8 N t x n (t (O x)).un k=Z):
  Tr Q Y 0 Z4 (p5 N t x n k) .normal (p5 N t x n ((k+1:Nat):Int)):=by have⟨g1,g2⟩:=kX b;have m:=a.un _ (show O x<N by omega);have⟨f,o⟩:=agQ.1 l;have⟨h,i⟩:=agZ a f;have e:=avw N t x n k;rw[dm (by omega)] at e;refine Hv g (TrL.dV 2 (by decide) ?_ (TrL.dV 3 (by decide) (Tr.bg (fo []) 60 _ 1 (aaH _) _ e (amZ ..) rfl) (TrL.nil aeI)));rw[Zg];refine Tr.cz (Tr.eX (NG a d hN b g f (TrL.dV 4 (by decide) ?_ (TrL.nil aeJ)))) (by simp);exact Tr.loop 2 rfl (λj=>v9 N t x n k ((t (O x)).un.getD k 0) ((2*j+1:Nat):Int)) (N/2) (λj c=>agY a d hN b h i c (aaB.1 o j (aaI.2 c))) (anh a.le)
def ani(o:eo N t)(q:n∈bn)(hN:N=2*n-1)(m:bf x n=Z)(a:k<(t (O x)).un.length)(u:x8 N t x n (t (O x)).un k=I):
  Tr Q Y 0 Z4 (p5 N t x n k) .ret (bS 113 6 I):=by
 have⟨L,P⟩:=kX m
 have H:O x<N:=by omega
 have J:=o.un _ H
 have M:=cn q
 refine Hv a (TrL.jn 2 (by decide) (by simp) ?_)
 rw[Zg]
 refine Tr.cz ?_ (by simp)
 cases c:CH t x n (t (O x)).un k with
 |true=>
  have⟨y,z⟩:=agZ o c
  unfold x8 at u
  rw[c,af0, <-eS] at u
  cases B:cV (inJ t x n ((t (O x)).un.getD k 0)) (N/2) with
  |none=>rw[B] at u;cases u
  |some j=>
   have⟨K,D,G⟩:=dr B
   exact Tr.eX (NG o q hN m a c (TrL.jn 4 (by decide) (by simp) (Tr.rW 2 rfl (TrR.for (by simp) (λj=>v9 N t x n k ((t (O x)).un.getD k 0) ((2*j+1:Nat):Int)) j (λi F=>agY o q hN m y z (by omega) (G i F)) (avJ o q hN m y z K D)))))
 |false=>
  have p:C ((0:Int)<=(n:Int))=Z:=Me (by omega)
  unfold CH at c
  cases c1:C ((t (O x)).un.getD k 0<0) with
  |true=>exact Tr.i7 (fo [(37,Z)]) (aaH _) (Nv ..) (by rw[aaq,bW a,Me a,c1];rfl)
  |false=>
  cases c2:C ((t (O x)).un.getD k 0>=(n:Int)) with
  |true=>exact Tr.i7 (fo [(37,I),(41,Z)]) (aaH _) (Nw ..) (by rw[aaq,bW a,Me a,c1,c2];rfl)
  |false=>
  have e1:=of_decide_eq_false c1
  have e2:=of_decide_eq_false c2
  have s:i64.wrap (2*(t (O x)).un.getD k 0)=2*(t (O x)).un.getD k 0:=dU (by omega) (by omega)
  have r:=oH q (i:=(t (O x)).un.getD k 0) (by omega) (by omega)
  have e:bC (2*(t (O x)).un.getD k 0) N=Z:=uq (by omega) (by omega)
  have d:C (O (2*(t x.toNat).un.getD k 0)<N)=Z:=Me (by omega)
  rw[c1,c2] at c
  by_cases h:(k:Int)>0
  ·have f:i64.wrap ((k:Int)-1)=((k-1:Nat):Int):=by rw[dU (by omega) (by omega)];omega
   have b:k-1<(t (O x)).un.length:=by omega
   rw[Me h] at c
   cases v:C ((t (O x)).un.getD k 0<=(t (O x)).un.getD (k-1) 0) with
   |true=>exact Tr.i7 (fo [(37,I),(41,I),(45,Z),(54,Z)]) (aaH _) (Nx ..) (by
     rw[aaq,f,aaq,bW a,Me a,c1,c2,Me h,bW b,Me b,v];rfl)
   |false=>
   rw[v] at c
   cases g:(t (O (2*(t x.toNat).un.getD k 0))).used with
   |false=>exact Tr.i7 (fo [(37,I),(41,I),(45,Z),(54,I),(63,I)]) (aaH _) (Hs ..) (by
     rw[aaq,f,aaq,s,bW a,Me a,c1,c2,Me h,bW b,Me b,v,e,d,show(t (O (2*(t x.toNat).un.getD k 0))).1=I from g];rfl)
   |true=>
    rw[g] at c
    have w:iR x (2*(t (O x)).un.getD k 0) n=I:=by simpa using c
    exact Tr.i7 (fo [(37,I),(41,I),(45,Z),(54,I),(63,Z),(71,I)]) (aaH _) (Hu ..) (by
     rw[aaq,aaq,f,aaq,s,bW a,Me a,c1,c2,Me h,bW b,Me b,v,e,d,show(t (O (2*(t x.toNat).un.getD k 0))).1=Z from g,p,m,r,w];rfl)
  ·rw[aaS h] at c
   cases g:(t (O (2*(t x.toNat).un.getD k 0))).used with
   |false=>exact Tr.i7 (fo [(37,I),(41,I),(45,I),(63,I)]) (aaH _) (Hr ..) (by
     rw[aaq,s,bW a,Me a,c1,c2,aaS h,e,d,show(t (O (2*(t x.toNat).un.getD k 0))).1=I from g];rfl)
   |true=>
    rw[g] at c
    have w:iR x (2*(t (O x)).un.getD k 0) n=I:=by simpa using c
    exact Tr.i7 (fo [(37,I),(41,I),(45,I),(63,Z),(71,I)]) (aaH _) (Ht ..) (by
     rw[aaq,aaq,s,bW a,Me a,c1,c2,aaS h,e,d,show(t (O (2*(t x.toNat).un.getD k 0))).1=Z from g,p,m,r,w];rfl)
def QG(d:eo N t)(p:n∈bn)(hN:N=2*n-1)(e:bf x n=Z):ak Q 58 [.p4 I N t,.t6 x,.t6 (n:Int)] [] (.bool (j6 N t x n)) []:=by
 have⟨g1,g2⟩:=kX e
 have c:O x<N:=by omega
 have b:bC x N=Z:=uq g1 (by omega)
 unfold j6
 cases i:((t (O x)).name != 0) with
 |true=>exact aP (fo _) 60 func58 (aCW N t x n) (by rw[b,Me c,i];rfl) rfl
 |false=>
 cases o:C ((t (O x)).bH=t9 32 0) with
 |false=>exact aP (fo _) 60 func58 (aCX N t x n) (by rw[b,Me c,i,o,Me (d.bH _ c)];rfl) rfl
 |true=>
  have a:=ak.qD (h:=[]) (h':=[]) func58 rfl 5 0 (λk:Nat=>p5 N t x n (k:Int)) (x8 N t x n (t (O x)).un) (t (O x)).un.length
   (λz s' g=>TrL.i6 (s1:=p5 N t x n (0:Int)) (fo [(17,I),(22,I)]) (by simp) (CA ..) (by rw[b,Me c,i,o,Me (d.bH _ c)];rfl) (by decide) rfl g) (by decide) rfl
   (λk l f _=>aeL d p hN e l f) (λi=>bS 113 6 I) (λi=>[.bool I]) (λk l f _=>⟨ani d p hN e l f,rfl,rfl⟩) (sE:=⟨ag 113 [],[],Z⟩) (A4:=bS 113 6 Z) (vE:=[.bool Z]) (xE:=.ret) (λ_=>?_) (λ_=>⟨?_,.inl rfl,rfl,rfl⟩)
  ·rw[de (g:=SV.bool) (vF:=λ_:Nat=>I) (vE:=Z)] at a
   have hv:cR (x8 N t x n (t (O x)).un) (t (O x)).un.length (λ_=>I) Z=(t8 (t (O x)).un.length).all (x8 N t x n (t (O x)).un):=by
    unfold cR;rw[<-eS];cases cV _ _<;>rfl
   rw[hv] at a;exact a
  ·exact Tr.i7 (s':=⟨ag 113 [],[],Z⟩) (fo [(28,I)]) (aar _) (Hq ..) (by rw[gV (aar _)];rfl)
  ·exact TrL.rest (fo []) 60 rfl rfl
end
def uV:aK Q:=.val 44 _ func44 (by decide) rfl I 0 (λvs=>match vs with
 | [.int .i64 n]=>E (.t6 (aY n),[],C (0<=n)&&C (n<72))
 |_=>Y) λvs v new e=>by
 split at e
 ·simp only[Mf,aad,No,aac] at e
  have⟨rfl,rfl,a,b⟩:=e
  obtain⟨m,rfl⟩:=ac7 a
  exact J9 (by omega)
 ·cases e
def CV:aK Q:=.val 57 _ func57 (by decide) rfl Z 0 (λvs=>match vs with
 | [.aO I 99 N g,.int .i64 fr]=>E (.bool (!fm N (ai g) (O fr)),[],cX N g&&C (N<=71)&&C (0<=fr)&&C (fr<=71))
 |_=>Y) λvs v new e=>by
 split at e
 ·simp only[Mf,aad,No,aac] at e
  have⟨rfl,rfl,⟨⟨d,h2⟩,c⟩,h4⟩:=e
  obtain⟨y,rfl⟩:=ac7 c
  exact ak.conv (AJ (by omega) (by omega)) ⟨VE.kM d,VE.refl _,trivial⟩ trivial (VE.refl _) trivial
 ·cases e
def xq(a:aE):Bool:=qd a.key a.bH a.cF a.un
def QH:aK Q:=.val 56 _ func56 (by decide) rfl Z 0 (λvs=>match vs with
 | [.agg l,.agg g]=>match Y0 l,Y0 g with
  |some a,E b=>E (.bool (Rm a b),[],xq a&&xq b)
  |_,_=>Y
 |_=>Y) λvs v new e=>by
 split at e
 ·split at e
  ·rename_i a b d i
   simp only[Mf,aad,No] at e
   have⟨rfl,rfl,h,f⟩:=e
   exact ak.conv (Hh h f) ⟨VE.agg (Ec d),VE.agg (Ec i),trivial⟩ trivial (VE.refl _) trivial
  ·cases e
 ·cases e
def QL(a:aE):Bool:=Om a.used a.name a.un
def anj:aK Q:=.val 59 _ func59 (by decide) rfl Z 0 (λvs=>match vs with
 | [.agg l]=>match Y0 l with
  |some a=>E (.bool (QL a),[],Z)
  |none=>Y
 |_=>Y) λvs v new e=>by
 split at e
 ·split at e
  ·rename_i a c
   simp only[Mf,aad] at e
   have⟨rfl,rfl,_⟩:=e
   exact ak.conv (Ze a) ⟨VE.agg (Ec c),trivial⟩ trivial (VE.refl _) trivial
  ·cases e
 ·cases e
def aeM:aK Q:=.val 58 _ func58 (by decide) rfl Z 0 (λvs=>match vs with
 | [.aO I 99 N g,.int .i64 x,.int .i64 n]=>E (.bool (j6 N (ai g) x (O n)),[],cX N g&&rK N x n)
 |_=>Y) λvs v new e=>by
 split at e
 ·simp only[Mf,aad,No] at e
  have⟨rfl,rfl,c,d⟩:=e
  obtain⟨m,b,rfl,hN,f⟩:=AV d
  exact ak.conv (QG (eo.of c (by have:=cn b;omega)) b hN f) ⟨VE.kM c,VE.refl _,VE.refl _,trivial⟩ trivial (VE.refl _) trivial
 ·cases e
def Eo(l:List (Nat×Bool)):cu:=mk [uV,CV,QH,anj,aeM] [] (uT l)
def gB l:aq Q (Eo l):=au _ aN.nil _ _
def rgB:Code:=aI f19
def HU:Code:=aj (aj (aJ 5 rgB))
def rgI:Code:=aj (aJ 2 HU)
def rgT:Code:=cdA (aJ 5 rgI)
def rgJ:Code:=aj (aj (aJ 3 rgT))
def rgX(N:Nat)(t:Nat->aE)(n x:Int)(l:List (Nat×SV)):St:=⟨ag 95 ([(0,.p4 I N t),(3,.t6 n),(4,.t6 x)]++l),[],Z⟩
def tg(N:Nat)(t:Nat->aE)(n x:Int):St:=rgX N t n x []
def HV(N:Nat)(t:Nat->aE)(n x y:Int):St:=rgX N t n x [(5,.t6 y)]
def aCY(N:Nat)(t:Nat->aE):(aV Q (Eo [(10,Z)]) 60 f19 [.p4 I N t] []).v3=E (.bool I,aa (aa Z (aa Z (Z&&C ((N:Int)<72)))) (aY (N:Int)==0)):=by kernel_rfl
def aCZ(N:Nat)(t:Nat->aE):(aV Q (Eo [(10,I),(15,I)]) 60 f19 [.p4 I N t] []).v3=E (.bool I,aa (aa (aa (aa Z (aa Z (Z&&C ((N:Int)<72)))) !aY (N:Int)==0) (aa Z ((cX N λi=>ah (aA t i))&&C (N<=71)&&C (0<=i64.wrap ((aY (N:Int)).tdiv 2))&&C (i64.wrap ((aY (N:Int)).tdiv 2)<=71)))) !!fm N (ai λi=>ah (aA t i)) (O (i64.wrap ((aY (N:Int)).tdiv 2)))):=by kernel_rfl
def CC(N:Nat)(t:Nat->aE):aD (az [0,3,4] 0 ((bh Q (Eo [(10,I),(15,Z)]) 60 0 5 (aH rgB) ⟨aU f19.ntmps [.p4 I N t],[],Z⟩).x3))=(E (.normal,(tg N t (aY N) 0).t,[]),(aa (aa (aa (aa Z (aa Z (Z&&C ((N:Int)<72)))) !aY (N:Int)==0) (aa Z ((cX N λi=>ah (aA t i))&&C (N<=71)&&C (0<=i64.wrap ((aY (N:Int)).tdiv 2))&&C (i64.wrap ((aY (N:Int)).tdiv 2)<=71)))) !fm N (ai λi=>ah (aA t i)) (O (i64.wrap ((aY (N:Int)).tdiv 2))))):=by kernel_rfl
def aeO N t:=bu (CC N t)
def Zh N t:=bz (CC N t)
def Hw(N:Nat)(t:Nat->aE)(n x:Int):aD (az [] 0 (exec Q (Eo [(21,I)]) 60 0 HU (tg N t n x)))=(E (.exit 0,ag 95 [],[]),(aa Z !C (x<(N:Int)))):=by kernel_rfl
def NH(N:Nat)(t:Nat->aE)(n x:Int):aD (az [0,3,4] 0 (exec Q (Eo [(21,Z),(28,I),(36,Z),(43,I),(60,I)]) 60 0 HU (tg N t n x)))=(E (.normal,(tg N t n (i64.wrap (x+1))).t,[]),(aa (aa (aa (aa (aa (aa (aa (aa (aa (aa (aa (aa (aa (aa Z (C (x<(N:Int)))) (bC x N)) (Z&&(C (O x<N)&&Z))) !(t (O x)).1) (bC x N)) (Z&&(C (O x<N)&&Z))) (aa Z (xq {used:=(t (O x)).used,name:=(t (O x)).name,key:=(t (O x)).key,bH:=(t (O x)).bH,cF:=(t (O x)).cF,un:=(t (O x)).un}&&Z))) (Rm {used:=(t (O x)).used,name:=(t (O x)).name,key:=(t (O x)).key,bH:=(t (O x)).bH,cF:=(t (O x)).cF,un:=(t (O x)).un} {used:=I,name:=0,key:=t9 32 0,bH:=t9 32 0,cF:=t9 32 0,un:=[]})) (bC x N)) (Z&&(C (O x<N)&&Z))) !(t (O x)).1) (bC x N)) (Z&&(C (O x<N)&&Z))) !(t (O x)).1)):=by kernel_rfl
def avK N t n x:=bu (NH N t n x)
def anl N t n x:=bz (NH N t n x)
def NI(N:Nat)(t:Nat->aE)(n x:Int):aD (az [2] 0 (exec Q (Eo [(21,Z),(28,I),(36,I)]) 60 0 HU (tg N t n x)))=(E (.ret,(bS 95 2 I).t,[]),(aa (aa (aa (aa (aa (aa (aa (aa Z (C (x<(N:Int)))) (bC x N)) (Z&&(C (O x<N)&&Z))) !(t (O x)).1) (bC x N)) (Z&&(C (O x<N)&&Z))) (aa Z (xq {used:=(t (O x)).used,name:=(t (O x)).name,key:=(t (O x)).key,bH:=(t (O x)).bH,cF:=(t (O x)).cF,un:=(t (O x)).un}&&Z))) !Rm {used:=(t (O x)).used,name:=(t (O x)).name,key:=(t (O x)).key,bH:=(t (O x)).bH,cF:=(t (O x)).cF,un:=(t (O x)).un} {used:=I,name:=0,key:=t9 32 0,bH:=t9 32 0,cF:=t9 32 0,un:=[]})):=by kernel_rfl
def NJ(N:Nat)(t:Nat->aE)(n x:Int):aD (az [0,3,4] 0 (exec Q (Eo [(21,Z),(28,Z),(43,Z),(47,Z),(53,Z),(60,Z),(64,I)]) 60 0 HU (tg N t n x)))=(E (.normal,(tg N t n (i64.wrap (x+1))).t,[]),(aa (aa (aa (aa (aa (aa (aa (aa (aa (aa (aa (aa (aa (aa Z (C (x<(N:Int)))) (bC x N)) (Z&&(C (O x<N)&&Z))) (t (O x)).1) (bC x N)) (Z&&(C (O x<N)&&Z))) (t (O x)).1) (x.tmod 2==1)) (aa Z ((cX N λi=>ah (aA t i))&&rK N x n))) (j6 N (ai λi=>ah (aA t i)) x (O n))) (bC x N)) (Z&&(C (O x<N)&&Z))) (t (O x)).1) !x.tmod 2==0)):=by kernel_rfl
def avM N t n x:=bu (NJ N t n x)
def ann N t n x:=bz (NJ N t n x)
def NK(N:Nat)(t:Nat->aE)(n x:Int):aD (az [2] 0 (exec Q (Eo [(21,Z),(28,Z),(43,Z),(47,Z),(53,I)]) 60 0 HU (tg N t n x)))=(E (.ret,(bS 95 2 I).t,[]),(aa (aa (aa (aa (aa (aa (aa (aa (aa (aa Z (C (x<(N:Int)))) (bC x N)) (Z&&(C (O x<N)&&Z))) (t (O x)).1) (bC x N)) (Z&&(C (O x<N)&&Z))) (t (O x)).1) (x.tmod 2==1)) (aa Z ((cX N λi=>ah (aA t i))&&rK N x n))) !j6 N (ai λi=>ah (aA t i)) x (O n))):=by kernel_rfl
def NL(N:Nat)(t:Nat->aE)(n x:Int):aD (az [0,3,4] 0 ((bh Q (Eo [(21,Z)]) 60 0 2 (aH HU) (tg N t n x)).x3))=(E (.normal,(tg N t n x).t,[]),(aa Z (C (x<(N:Int))))):=by kernel_rfl
def NM(N:Nat)(t:Nat->aE)(n x:Int):aD (az [0,3,4] 0 (exec Q (Eo []) 60 0 (aJ 3 HU) (tg N t n x)))=(E (.normal,(tg N t n (i64.wrap (x+1))).t,[]),(Z)):=by kernel_rfl
def avP N t n x:=bu (NM N t n x)
def anq N t n x:=bz (NM N t n x)
def Zi(N:Nat)(t:Nat->aE)(n x:Int):aD (az [0,3,4,65] 0 ((bh Q (Eo [(28,Z),(43,Z),(47,I),(60,Z),(64,Z)]) 60 0 5 (aH rgI) (tg N t n x)).x3))=(E (.normal,(rgX N t n x [(65,.bool Z)]).t,[]),(aa (aa (aa (aa (aa (aa (aa (aa (aa (aa (aa Z (bC x N)) (Z&&(C (O x<N)&&Z))) (t (O x)).1) (bC x N)) (Z&&(C (O x<N)&&Z))) (t (O x)).1) !x.tmod 2==1) (bC x N)) (Z&&(C (O x<N)&&Z))) (t (O x)).1) (x.tmod 2==0))):=by kernel_rfl
def NN(N:Nat)(t:Nat->aE)(n x:Int):aD (az [0,3,4,5] 0 ((bh Q (Eo [(70,Z)]) 60 0 3 (aH rgT) (rgX N t n x [(65,.bool Z)])).x3))=(E (.normal,(HV N t n x 0).t,[]),(aa (aa (aa Z (bC x N)) (Z&&(C (O x<N)&&Z))) (QL {used:=(t (O x)).used,name:=(t (O x)).name,key:=(t (O x)).key,bH:=(t (O x)).bH,cF:=(t (O x)).cF,un:=(t (O x)).un}))):=by kernel_rfl
def NO(N:Nat)(t:Nat->aE)(n x:Int):aD (az [2] 0 (exec Q (Eo [(70,I)]) 60 0 rgT (rgX N t n x [(65,.bool Z)])))=(E (.ret,(bS 95 2 I).t,[]),(aa (aa (aa Z (bC x N)) (Z&&(C (O x<N)&&Z))) !QL {used:=(t (O x)).used,name:=(t (O x)).name,key:=(t (O x)).key,bH:=(t (O x)).bH,cF:=(t (O x)).cF,un:=(t (O x)).un})):=by kernel_rfl
def NP(N:Nat)(t:Nat->aE)(n x y:Int):aD (az [0,3,4,5] 0 (exec Q (Eo [(74,Z),(81,I)]) 60 0 rgJ (HV N t n x y)))=(E (.normal,(HV N t n x (i64.wrap (y+2))).t,[]),(aa (aa (aa (aa Z (C (y<x))) (bC y N)) (Z&&(C (O y<N)&&Z))) !(t (O y)).1)):=by kernel_rfl
def avS N t n x y:=bu (NP N t n x y)
def ans N t n x y:=bz (NP N t n x y)
def NQ(N:Nat)(t:Nat->aE)(n x y:Int):aD (az [0,3,4,5] 0 (exec Q (Eo [(74,Z),(81,Z),(93,I)]) 60 0 rgJ (HV N t n x y)))=(E (.normal,(HV N t n x (i64.wrap (y+2))).t,[]),(aa (aa (aa (aa (aa (aa (aa (aa (aa Z (C (y<x))) (bC y N)) (Z&&(C (O y<N)&&Z))) (t (O y)).1) (bC y N)) (Z&&(C (O y<N)&&Z))) (bC x N)) (Z&&(C (O x<N)&&Z))) !(t (O y)).name==(t (O x)).name)):=by kernel_rfl
def avT N t n x y:=bu (NQ N t n x y)
def ant N t n x y:=bz (NQ N t n x y)
def NR(N:Nat)(t:Nat->aE)(n x y:Int):aD (az [2] 0 (exec Q (Eo [(74,Z),(81,Z),(93,Z)]) 60 0 rgJ (HV N t n x y)))=(E (.ret,(bS 95 2 I).t,[]),(aa (aa (aa (aa (aa (aa (aa (aa (aa Z (C (y<x))) (bC y N)) (Z&&(C (O y<N)&&Z))) (t (O y)).1) (bC y N)) (Z&&(C (O y<N)&&Z))) (bC x N)) (Z&&(C (O x<N)&&Z))) ((t (O y)).name==(t (O x)).name))):=by kernel_rfl
def NS(N:Nat)(t:Nat->aE)(n x y:Int):aD (az [0,3,4] 0 (exec Q (Eo [(74,I)]) 60 0 rgJ (HV N t n x y)))=(E (.exit 2,(tg N t n x).t,[]),(aa Z !C (y<x))):=by kernel_rfl
def Zk:aJ 2 HU=.block 1 rgI:=by kernel_rfl
def aeQ:(aH HU).drop 4=[]:=by kernel_rfl
def aeR:(aH rgI).drop 6=[]:=by kernel_rfl
def aeS:(aH rgT).drop 4=[]:=by kernel_rfl
def anw:aJ 5 rgI=.cond (.tmp 65) rgT .skip:=by kernel_rfl
def we(t:Nat->aE)(x j:Nat):Bool:=!((t (2*j)).used&&((t (2*j)).name==(t x).name))
def l9(N:Nat)(t:Nat->aE)(n x:Nat):Bool:=bif !(t x).used then Rm (t x) lF else bif x%2==1 then j6 N t x n else QL (t x)&&(t8 (x/2)).all (we t x)
def eH(N:Nat)(t:Nat->aE):Bool:=!(aY N==0)&&(!fm N t (O (i64.wrap ((aY N).tdiv 2)))&&(t8 N).all (l9 N t (O (aY N))))
def anx i:(((i:Nat):Int).tmod 2==1)=(i%2==1):=by rw[show(2:Int)=((2:Nat):Int) from rfl, <-Int.ofNat_tmod];cases h:(i%2==1) with
 |true=>rw[eq_of_beq h];rfl
 |false=>
  rw[ahR] at h ⊢
  omega
def evN{i}(h:(i%2==1)=I):(i%2==0)=Z:=by rw[ahR] at h;rw[afP];omega
def odN{i}(h:(i%2==1)=Z):(i%2==0)=I:=by rw[afP] at h;rw[ahR];omega
section
variable {N:Nat} {t:Nat->aE} {n x j:Nat}
def ag2(i:N<=71)(g:x<N)(k:j<x/2)(d:we t x j=Z):Tr Q Y 0 rgJ (HV N t n x ((2*j:Nat):Int)) .normal (HV N t n x ((2*(j+1):Nat):Int)):=by
 have b:2*j<x:=by omega
 have a:2*j<N:=by omega
 have f:i64.wrap (((2*j:Nat):Int)+2)=(2*(j+1):Int):=by rw[dU (by omega) (by omega)];omega
 unfold we at d
 cases c:(t (2*j)).used with
 |false=>
  have e:=avS N t n x ((2*j:Nat):Int)
  rw[f] at e
  exact Tr.bg (gB [(74,Z),(81,I)]) 60 _ 0 (aar _) _ e (ans ..) (by
   rw[aaq,g8 b,bW a,Me a,show(t (2*j)).1=I from c];rfl)
 |true=>
  rw[c,af0] at d
  have e:=avT N t n x ((2*j:Nat):Int)
  rw[f] at e
  exact Tr.bg (gB [(74,Z),(81,Z),(93,I)]) 60 _ 0 (aar _) _ e (ant ..) (by
   rw[aaq,aaq,g8 b,bW a,Me a,bW g,Me g,show(t (2*j)).1=Z from c,d];rfl)
def avW(d:x<N)(g:j<x/2)(e:we t x j=I):Tr Q Y 0 rgJ (HV N t n x ((2*j:Nat):Int)) .ret (bS 95 2 I):=by
 have c:2*j<x:=by omega
 have b:2*j<N:=by omega
 unfold we at e;have a:(t (2*j)).used=Z/\((t (2*j)).name==(t x).name)=Z:=by simpa using e
 exact Tr.i7 (gB [(74,Z),(81,Z),(93,Z)]) (aar _) (NR ..) (by rw[aaq,aaq,g8 c,bW b,Me b,bW d,Me d,show(t (2*j)).1=Z from a.1,a.2];rfl)
def NT(c:x<N)(l:(t x).used=Z)(f:(x%2==1)=I){y s'}(g:Tr Q Y 0 rgT (rgX N t n x [(65,.bool Z)]) y s')(hy:∀j,y≠.exit j)(k:y=.normal->s'=tg N t n x)(hr:y=.normal\/y=.ret)(hle:N<=71):
  (y=.normal->Tr Q Y 0 HU (tg N t n x) .normal (tg N t n ((x+1:Nat):Int)))/\(y=.ret->Tr Q Y 0 HU (tg N t n x) .ret s'):=by
 have e:=avP N t n x
 rw[dm (by omega)] at e
 have a:∀{z}{b},TrL Q Y 0 ((aH HU).drop 2) (tg N t n x) z b->Tr Q Y 0 HU (tg N t n x) z b:=λg=>Tr.eX (TrL.i6 (gB [(21,Z)]) (aaH _) (NL ..) (by rw[g8 c];rfl) (by decide) rfl g)
 have i:∀{z}{b},TrL Q Y 0 ((aH rgI).drop 5) (rgX N t n x [(65,.bool Z)]) z b->TrL Q Y 0 (aH rgI) (tg N t n x) z b:=λg=>TrL.i6 (gB [(28,Z),(43,Z),(47,I),(60,Z),(64,Z)]) (aaH _) (Zi ..) (by
  rw[aaq,bW c,Me c,show(t x).1=Z from l,anx,Jx,f,evN f];rfl) (by decide) rfl g
 have h:Tr Q Y 0 (aJ 5 rgI) (rgX N t n x [(65,.bool Z)]) y s':=by
  rw[anw]
  exact TrX.to (TrX.cond_true rfl (TrX.of g λ_ _ _=>trivial)) λ_ _ _=>trivial
 constructor
 ·rintro rfl
  obtain rfl:=k rfl
  refine a (TrL.dV 2 (by decide) ?_ (TrL.dV 3 (by decide) (Tr.bg (gB []) 60 _ 0 (aar _) _ e (anq ..) rfl) (TrL.nil aeQ)))
  rw[Zk]
  exact Tr.cz (Tr.eX (i (TrL.dV 5 (by decide) h (TrL.nil aeR)))) (by simp)
 ·rintro rfl
  refine a (TrL.jn 2 (by decide) (by simp) ?_)
  rw[Zk]
  exact Tr.cz (Tr.eX (i (TrL.jn 5 (by decide) (by simp) h))) (by simp)
theorem anA(g:eo N t)(m:n∈bn)(hN:N=2*n-1)(a:x<N)(b:l9 N t n x=Z):Tr Q Y 0 HU (tg N t n x) .normal (tg N t n ((x+1:Nat):Int)):=by
 have f:=g.le
 unfold l9 at b
 have h:cX N (λi=>ah (aA t i))=Z:=bU g
 cases d:(t x).used with
 |false=>
  rw[d] at b
  have b:=b
  have e:=avK N t n x
  rw[dm (by omega)] at e
  exact Tr.bg (gB _) 60 _ 0 (aar _) _ e (anl ..) (by
   rw[aaq,g8 a,bW a,Me a,show xq (t x)=Z from sG g a,show Rm (t x) ⟨I,0,t9 32 0,t9 32 0,t9 32 0,[]⟩=Z from b,d];rfl)
 |true=>
  rw[d] at b
  cases c:(x%2==1) with
  |true=>
   rw[c] at b
   have b:=b
   have e:=avM N t n x
   rw[dm (by omega)] at e
   exact Tr.bg (gB _) 60 _ 0 (aar _) _ e (ann ..) (by
    rw[aaq,aaq,g8 a,bW a,Me a,show(t x).1=Z from d,anx,Jx,c,odN c,h,yP m hN a,show j6 N (ai λi=>ah (aA t i)) x n=Z from b];rfl)
  |false=>
   rw[c] at b
   obtain⟨p,o⟩:=agQ.1 (show(QL (t x)&&(t8 (x/2)).all (we t x))=Z from b)
   refine(NT a d c ?_ (by simp) (λ_=>rfl) (.inl rfl) f).1 rfl
   refine Tr.eX (TrL.i6 (gB [(70,Z)]) (aaH _) (NN N t n x) ?_ (by decide) rfl (TrL.dV 3 (by decide) ?_ (TrL.nil aeS)))
   ·rw[aaq,bW a,Me a]
    show aa (aa (aa Z Z) (Z&&(Z&&Z))) (QL (t x))=Z
    rw[p];rfl
   ·have hz:x=2*(x/2):=by
     have:=eq_of_beq (evN c);omega
    refine Tr.loop 2 (by kernel_rfl) (λj=>HV N t n x ((2*j:Nat):Int)) (x/2) (λj l=>ag2 f a l (aaB.1 o j (aaI.2 l))) ?_
    exact Tr.i7 (gB [(74,I)]) (aar _) (NS N t n x _) (by rw[gV (by omega)];rfl)
def avX(g:eo N t)(hn:n∈bn)(hN:N=2*n-1)(b:x<N)(a:l9 N t n x=I):Tr Q Y 0 HU (tg N t n x) .ret (bS 95 2 I):=by
 have d:=g.le
 unfold l9 at a
 have h:cX N (λi=>ah (aA t i))=Z:=bU g
 cases c:(t x).used with
 |false=>
  rw[c] at a
  have a:=a
  exact Tr.i7 (gB _) (aar _) (NI ..) (by
   rw[aaq,g8 b,bW b,Me b,show xq (t x)=Z from sG g b,show Rm (t x) ⟨I,0,t9 32 0,t9 32 0,t9 32 0,[]⟩=I from a,c];rfl)
 |true=>
  rw[c] at a
  cases e:(x%2==1) with
  |true=>
   rw[e] at a
   have a:=a
   exact Tr.i7 (gB _) (aar _) (NK ..) (by
    rw[aaq,aaq,g8 b,bW b,Me b,show(t x).1=Z from c,anx,e,h,yP hn hN b,show j6 N (ai λi=>ah (aA t i)) x n=I from a];rfl)
  |false=>
   rw[e] at a
   have a:=a
   refine(NT b c e ?_ (by simp) (by simp) (.inr rfl) d).2 rfl
   cases h1:QL (t x) with
   |false=>
    exact Tr.i7 (gB [(70,I)]) (aar _) (NO ..) (by
     rw[aaq,bW b,Me b]
     show aa (aa (aa Z Z) (Z&&(Z&&Z))) (!QL (t x))=Z
     rw[h1];rfl)
   |true=>
    rw[h1,af0, <-eS] at a
    cases hq:cV (we t x) (x/2) with
    |none=>rw[hq] at a;cases a
    |some j=>
     have⟨j1,j2,j3⟩:=dr hq
     refine Tr.eX (TrL.i6 (gB [(70,Z)]) (aaH _) (NN ..) ?_ (by decide) rfl (TrL.jn 3 (by decide) (by simp) (Tr.rW 2 rfl (TrR.for (by simp) (λj=>HV N t n x ((2*j:Nat):Int)) j (λi hi=>ag2 d b (by omega) (j3 i hi)) (avW b j1 j2)))))
     rw[aaq,bW b,Me b]
     show aa (aa (aa Z Z) (Z&&(Z&&Z))) (QL (t x))=Z
     rw[h1];rfl
def aab(f:eo N t):ak Q 19 [.p4 I N t] [] (.bool (eH N t)) []:=by
 have a:=f.le
 have d:cX N (λi=>ah (aA t i))=Z:=bU f
 have c:C ((N:Int)<72)=Z:=Me (by omega)
 unfold eH
 cases k:(aY N==0) with
 |true=>exact aP (gB _) 60 func19 (aCY N t) (by rw[c,k];rfl) rfl
 |false=>
  have⟨n,r,q,hN⟩:=lK a k
  have⟨o,p⟩:=Hf a
  cases s:fm N t (O (i64.wrap ((aY (N:Int)).tdiv 2))) with
  |true=>exact aP (gB _) 60 func19 (aCZ N t) (by
    rw[c,k,d,Me a,o,p,show fm N (ai λi=>ah (aA t i)) (O (i64.wrap ((aY (N:Int)).tdiv 2)))=Z from s];rfl) rfl
  |false=>
   have e:=aeO N t
   rw[q] at e
   have b:=ak.qD (h:=[]) func19 rfl 5 0 (λx:Nat=>tg N t n (x:Int)) (l9 N t n) N
    (λz s' g=>TrL.bY (gB [(10,I),(15,Z)]) 60 5 _ 0 (by simp) (s1:=tg N t n (0:Int)) _ e (Zh N t) (by
     rw[c,k,d,Me a,o,p,show fm N (ai λi=>ah (aA t i)) (O (i64.wrap ((aY (N:Int)).tdiv 2)))=I from s];rfl) (by decide) rfl g) (by decide) rfl
    (λx m l _=>anA f r hN m l) (λi=>bS 95 2 I) (λi=>[.bool I]) (λx m l _=>⟨avX f r hN m l,rfl,rfl⟩) (sE:=⟨ag 95 [],[],Z⟩) (A4:=bS 95 2 Z) (vE:=[.bool Z]) (xE:=.ret) (λ_=>?_) (λ_=>⟨?_,.inl rfl,rfl,rfl⟩)
   ·rw[de (g:=SV.bool) (vF:=λ_:Nat=>I) (vE:=Z)] at b
    have v:cR (l9 N t n) N (λ_=>I) Z=(t8 N).all (l9 N t n):=by
     unfold cR;rw[<-eS];cases cV _ _<;>rfl
    rw[v] at b
    rw[q,aaq]
    exact b
   ·exact Tr.i7 (s':=⟨ag 95 [],[],Z⟩) (gB [(21,I)]) (aar _) (Hw ..) (by rw[gV (aar _)];rfl)
   ·exact TrL.rest (gB []) 60 rfl rfl
end
section
variable {N M:Nat} {t u:Nat->aE}
end
def Z7:(bn.all λn=>(t8 (2*n-1)).all λx=>(t8 n).all λi=>iR (x:Int) (2*(i:Int)) n==(C (fB (x:Int)<=(i:Int))&&C ((i:Int)<=jB (x:Int))))=Z:=by decide+kernel
theorem ag6:(bn.all λn=>(t8 (n-1)).all λx=>(t8 n).all λi=>((t8 (cr n)).any λj=>cQ n (2*(i:Int)) j==((2*x+1:Nat):Int))==iR ((2*x+1:Nat):Int) (2*((i:Nat):Int)) n)=Z:=by decide+kernel
theorem aeT:(bn.all λn=>(t8 n).all λi=>(t8 (cr n)).all λj=>(t8 (n-1)).all λy=>(((2*y+1:Nat):Int) != cQ n (2*((i:Nat):Int)) j&&(iR (cQ n (2*((i:Nat):Int)) j) ((2*y+1:Nat):Int) n&&iR ((2*y+1:Nat):Int) (2*((i:Nat):Int)) n))==((t8 j).any λk=>cQ n (2*((i:Nat):Int)) k==((2*y+1:Nat):Int)))=true:=by decide+kernel
def Ri(t:Nat->aE)(k:Int):Nat->Nat
 |0=>0
 |i+1=>Ri t k i+(bif (t i).used&&(i%2==0)&&((t i).name==k) then 1 else 0)
def Zl(t:Nat->aE)(k:Int):∀i,Ri t k i<=i
 |0=>aar _
 |i+1=>by have:=Zl t k i;unfold Ri;cases(t i).used&&(i%2==0)&&((t i).name==k)<;>simp<;>omega
def NV(t:Nat->aE)(k:Int):∀i,i<=1000->lu (qe t i) k=(Ri t k i:Int)
 |0,_=>rfl
 |i+1,h=>by have c:=λk=>NV t k i (by omega);unfold qe Ri;cases e:(t i).used&&(i%2==0) with
  |false=>simp[c]
  |true=>
   simp only[aja,af0]
   rw[YJ]
   cases a:(k==(t i).name) with
   |true=>
    have b:=eq_of_beq a
    subst b
    have:=Zl t (t i).name i
    rw[beq_self_eq_true,aja,aja,c,dm (by omega)]
   |false=>
    have:((t i).name==k)=I:=by
     cases d:((t i).name==k) with
     |true=>rw[eq_of_beq d,beq_self_eq_true] at a;exact a
     |false=>rfl
    rw[this,ajB,ajB,c]
    rfl
def Hx(t:Nat->aE)(k:Int):∀i,Ri t k i=0↔∀j,2*j<i->((t (2*j)).used&&((t (2*j)).name==k))=I
 |0=>⟨λ_ j c=>absurd c (by omega),λ_=>rfl⟩
 |i+1=>by
  have d:=Hx t k i
  unfold Ri
  constructor
  ·intro h j c
   by_cases b:2*j=i
   ·subst b
    have a:(bif (t (2*j)).used&&(2*j%2==0)&&((t (2*j)).name==k) then 1 else 0)=0:=by omega
    rw[show(2*j%2==0)=Z by rw[afP];omega,Bool.and_true] at a
    cases e:((t (2*j)).used&&((t (2*j)).name==k)) with
    |false=>rfl
    |true=>rw[e] at a;cases a
   ·exact d.1 (by omega) j (by omega)
  ·intro h
   have g:=d.2 λj c=>h j (by omega)
   rw[g]
   cases f:(i%2==0) with
   |false=>simp
   |true=>
    have l:i=2*(i/2):=by have:=eq_of_beq f;omega
    have:=h (i/2) (by omega)
    rw[<-l] at this
    rw[Bool.and_true,this]
    rfl
def HY{t:Nat->aE}{x}(i:x<=100)(f:(t x).used=Z)(c:(x%2==0)=Z):(lu (qe t (x+1)) (t x).name==1)=(t8 (x/2)).all (we t x):=by
 rw[NV t _ (x+1) (by omega)]
 have e:Ri t (t x).name (x+1)=Ri t (t x).name x+1:=by
  show Ri t (t x).name x+_=_
  rw[f,c,beq_self_eq_true]
  rfl
 rw[e]
 have d:=Hx t (t x).name x
 cases a:(t8 (x/2)).all (we t x) with
 |true=>
  have:=d.2 λj b=>by
   have:=aaB.1 a j (aaI.2 (by have:=eq_of_beq c;omega))
   unfold we at this
   rw[af9] at this
   exact this
  rw[this]
  rfl
 |false=>
  rw[ahR]
  intro h
  have g:Ri t (t x).name x=0:=by omega
  have:=d.1 g
  rw[<-aj2,aaB] at a
  refine a λj b=>?_
  have b:=aaI.1 b
  unfold we
  rw[this j (by omega)]
  rfl
def DS i l:Bn i l=fy l i:=by
 have b:Bn i l=!((t8 (A l)).all λk=>!(X l k 0==i)):=by unfold Bn cR;rw[<-eS];cases cV _ _<;>rfl
 rw[b,Bool.eq_iff_iff,af9, <-aj2,aaB];unfold fy;rw[afJ];constructor
 ·intro h
  refine Classical.byContradiction λg=>h λk a=>?_
  have a:=aaI.1 a
  rw[af9]
  cases q:(X l k 0==i) with
  |false=>rfl
  |true=>
   refine absurd ⟨l[k],List.getElem_mem a,?_⟩ g
   have:=eq_of_beq q
   rw[List.getD,aaQ a] at this
   rw[afP]
   exact this.symm
 ·rintro⟨v,c,q⟩ h
  obtain⟨k,a,rfl⟩:=List.mem_iff_getElem.1 c
  have:=h k (aaI.2 a)
  rw[List.getD,aaQ a,Option.getD_some, <-eq_of_beq q,beq_self_eq_true] at this
  cases this
def Zm:(bn.all λn=>(t8 n).all λi=>(t8 (cr n)).all λj=>(C (O (cQ n (2*(i:Int)) j)%2=1)&&C (O (cQ n (2*(i:Int)) j)<2*n-1))&&(t8 (cr n)).all λk=>(cQ n (2*(i:Int)) j==cQ n (2*(i:Int)) k)==C (j=k))=Z:=by decide+kernel
section
variable {N:Nat} {t:Nat->aE} {n i j:Nat}
def AY(t:Nat->aE)(n i k:Nat):Bool:=!((t (O (cQ n (2*(i:Int)) k))).used&&!fy (t (O (cQ n (2*(i:Int)) k))).un i)
def Rk(r:n∈bn)(hi:i<n)(e:j<cr n):vS t (cQ n (2*(i:Int)) j) i n=(t8 j).all (AY t n i):=by
 have g:=aaB.1 (aaB.1 Zm n r) i (aaI.2 hi)
 have d:=λa b c w=>
  eq_of_beq (aaB.1 (agQ.1 (aaB.1 g a (aaI.2 c))).2 b (aaI.2 w))
 have f:∀k,k<cr n->JH t (cQ n (2*(i:Int)) j) i n k=(!C (k=j)&&AY t n i k):=λk s=>by
  unfold JH AY
  rw[d k j s e]
 unfold vS cR
 cases o:cV (JH t (cQ n (2*(i:Int)) j) i n) (cr n) with
 |none=>
  have:=dz o j e
  rw[f j e,Me rfl] at this
  cases this
 |some k=>
  have⟨q,m,p⟩:=dr o
  show(cQ n (2*(i:Int)) k==cQ n (2*(i:Int)) j)=_
  rw[d k j q e]
  have v:k<=j:=by
   rcases agP j k with h|h
   ·have:=p j h
    rw[f j e,Me rfl] at this
    cases this
   ·exact h
  by_cases h:k=j
  ·subst h
   rw[Me rfl]
   refine(aaB.2 λa c=>?_).symm
   have c:=aaI.1 c
   have:=p a c
   rw[f a (by omega)] at this
   exact(agQ.1 this).2
  ·rw[aaS h]
   rw[f k q,aaS h,aiW,af0] at m
   cases l:(t8 j).all (AY t n i) with
   |false=>rfl
   |true=>
    have:=aaB.1 l k (aaI.2 (by omega))
    rw[this] at m
    cases m
def HX(c:n∈bn)(hi:i<n)(l:j<cr n)(hN:N=2*n-1):(t8 (N/2)).all (inJ t (cQ n (2*(i:Int)) j) n i)=(t8 j).all (AY t n i):=by
 have e:=aaB.1 (aaB.1 Zm n c) i (aaI.2 hi)
 have g:∀k,k<cr n->O (cQ n (2*(i:Int)) k)%2=1/\O (cQ n (2*(i:Int)) k)<2*n-1:=λk a=>by
  have:=agQ.1 (agQ.1 (aaB.1 e k (aaI.2 a))).1
  exact⟨agm this.1,agm this.2⟩
 have f:=λk a=>by
  have:=((sX c hi).1 k a).2
  rw[show((2*i:Nat):Int)=2*(i:Int) by omega] at this
  exact this
 have m:=aaB.1 (aaB.1 (aaB.1 aeT n c) i (aaI.2 hi)) j (aaI.2 l)
 have o:=cn c
 have one:∀y,y<n-1->inJ t (cQ n (2*(i:Int)) j) n i y=!(((t8 j).any λk=>cQ n (2*(i:Int)) k==((2*y+1:Nat):Int))&&((t (2*y+1)).used&&!fy (t (2*y+1)).un i)):=λy b=>by
  have:=eq_of_beq (aaB.1 m y (aaI.2 b))
  rw[<-this]
  unfold inJ
  rw[DS]
  cases(((2*y+1:Nat):Int) != cQ n (2*(i:Int)) j)<;>cases(t (2*y+1)).used<;>cases iR (cQ n (2*(i:Int)) j) ((2*y+1:Nat):Int) n<;>cases iR ((2*y+1:Nat):Int) (2*(i:Int)) n<;>rfl
 rw[Bool.eq_iff_iff,aaB,aaB]
 constructor
 ·intro h k a
  have a:=aaI.1 a
  have⟨s,r⟩:=g k (by omega)
  have p:=f k (by omega)
  have b:2*(O (cQ n (2*(i:Int)) k)/2)+1=O (cQ n (2*(i:Int)) k):=by omega
  have:=h (O (cQ n (2*(i:Int)) k)/2) (aaI.2 (by omega))
  rw[one _ (by omega),b] at this
  unfold AY
  have d:((t8 j).any λk'=>cQ n (2*(i:Int)) k'==((O (cQ n (2*(i:Int)) k):Nat):Int))=Z:=afJ.2 ⟨k,aaI.2 a,by rw[afP];omega⟩
  rw[d,af0] at this
  exact this
 ·intro h y b
  have b:=aaI.1 b
  rw[one y (by omega)]
  cases d:((t8 j).any λk=>cQ n (2*(i:Int)) k==((2*y+1:Nat):Int)) with
  |false=>rfl
  |true=>
   have⟨k,a,q⟩:=afJ.1 d
   have:=h k a
   unfold AY at this
   rw[eq_of_beq q,aaq] at this
   rw[af0]
   exact this
end
section
variable {N:Nat} {t:Nat->aE} {n x k:Nat}
def afg(c:n∈bn)(hN:N=2*n-1)(hx:x<N)(ho:x%2=1) un(hk:k<A un):HW t x n un k=x8 N t x n un k\/(X un k 0<=QK un k):=by
 have hs:=cn c
 have tj:bf (x:Int) n=Z:=by
  rw[uL c,No,aac,aac];omega
 have⟨b1,b2⟩:=yQ tj
 by_cases l:X un k 0<=QK un k
 ·exact .inr l
 ·refine .inl ?_
  have h3:(C ((k:Int)>0)&&C (X un k 0<=X un (k-1) 0))=I:=by
   cases k with
   |zero=>rfl
   |succ k=>
    rw[show k+1-1=k by omega,show C (X un (k+1) 0<=X un k 0)=I from aaS l,ag8]
  unfold HW x8 CH
  rw[aaS l,h3]
  by_cases h:X un k 0<0
  ·rw[Me h,Me (by omega)];rfl
  ·by_cases h1:X un k 0>=(n:Int)
   ·rw[Me h1,aaS h,Me (show X un k 0>jB x by omega)]
    simp
   ·rw[aaS h,aaS h1]
    have⟨i,hi⟩:=ac7 (show 0<=X un k 0 by omega)
    rw[hi]
    have a:i<n:=by omega
    rw[aaq]
    have f:=eq_of_beq (aaB.1 (aaB.1 (aaB.1 Z7 n c) x (aaI.2 (by omega))) i (aaI.2 a))
    have g:=eq_of_beq (aaB.1 (aaB.1 (aaB.1 ag6 n c) (x/2) (aaI.2 (by omega))) i (aaI.2 a))
    rw[show 2*(x/2)+1=x by omega] at g
    have b:(!C ((i:Int)<fB x)&&!C ((i:Int)>jB x))=iR x (2*(i:Int)) n:=by
     rw[f,Bool.eq_iff_iff]
     simp only[No,af9,agX,aac]
     omega
    cases ha:iR (x:Int) (2*(i:Int)) n with
    |false=>
     rw[ha] at b
     simp only[aiW,af0,ag8,ahm]
     rw[b]
     rfl
    |true=>
     rw[ha] at b g
     have⟨j,d,e⟩:=afJ.1 g
     have d:=aaI.1 d
     have e:=eq_of_beq e
     rw[<-e,Rk c a d,HX c a d hN,e]
     simp only[aiW,af0,Bool.and_true]
     rw[b,af0]
def Ol{un}(h:∀k,k<A un->QK un k<X un k 0):iz un=Z:=by
 unfold iz
 rw[aaB]
 intro j b
 have b:=aaI.1 b
 have:=h (A un-1-j) (by omega)
 rw[af9,agX]
 cases d:A un-1-j with
 |zero=>omega
 |succ a=>
  rw[d] at this
  have:X un a 0<X un (a+1) 0:=this
  rw[show a+1-1=a by omega]
  omega
def Z9{x un}(h:HW t x n un k=Z):QK un k<X un k 0:=by unfold HW at h;simp only[No,af9,agX] at h;have:=h.1.1.1.1;omega
def Ke{un x}(h:x8 N t x n un k=Z):QK un k<X un k 0:=by unfold x8 CH at h;simp only[No,af9,agX] at h;have⟨⟨c,_,b,_⟩,_⟩:=h;cases k with
 |zero=>show(-1:Int)<_;omega
 |succ k=>
  show X un k 0<_
  rw[Me (show((k+1:Nat):Int)>0 by omega),af0,agX,show k+1-1=k by omega] at b
  omega
def Rl(g:n∈bn)(hN:N=2*n-1)(e:x<N)(f:x%2=1):gq t x n=j6 N t x n:=by
 unfold gq j6
 rw[aaq]
 generalize (t x).un=a
 have d:(iz a&&(t8 (A a)).all (HW t x n a))=(t8 (A a)).all (x8 N t x n a):=by
  rw[Bool.eq_iff_iff,No,aaB,aaB]
  constructor
  ·rintro⟨_,h⟩ k b
   have c:=h k b
   rcases afg g hN e f a (aaI.1 b) with q|q
   ·rw[<-q];exact c
   ·have:=Z9 c;omega
  ·intro h
   refine⟨Ol λk b=>Ke (h k (aaI.2 b)),λk b=>?_⟩
   have c:=h k b
   rcases afg g hN e f a (aaI.1 b) with q|q
   ·rw[q];exact c
   ·have:=Ke c;omega
 rw[<-d]
 cases(!((t x).name != 0))<;>cases C ((t x).bH=t9 32 0)<;>rfl
def Kf(b:n∈bn)(hN:N=2*n-1)(d:x<N):iF t n x=l9 N t n x:=by have e:=cn b;unfold iF l9;cases c:(t x).used with
 |false=>
  show tn (t x)=Rm (t x) lF
  rfl
 |true=>
  show(bif x%2==0 then Om Z (t x).name (t x).un&&(lu (qe t (x+1)) (t x).name==1) else gq t x n)=(bif x%2==1 then j6 N t x n else QL (t x)&&(t8 (x/2)).all (we t x))
  cases a:(x%2==1) with
  |true=>
   rw[odN a,ajB,aja]
   exact Rl b hN d (eq_of_beq a)
  |false=>
   rw[evN a,ajB,aja,HY (by omega) c (evN a)]
   unfold QL
   rw[c]
def yR(b:N<=71):bq N t=eH N t:=by unfold bq eH;cases e:(aY N==0) with
 |true=>rfl
 |false=>
  have⟨n,c,d,hN⟩:=lK b e
  rw[d,aaq]
  have:(t8 N).all (iF t n)=(t8 N).all (l9 N t n):=by
   rw[Bool.eq_iff_iff,aaB,aaB]
   constructor
   ·intro h x a;rw[<-Kf c hN (aaI.1 a)];exact h x a
   ·intro h x a;rw[Kf c hN (aaI.1 a)];exact h x a
  rw[this,Bool.and_comm ((t8 N).all _)]
end
def HZ:List SV->Bool
 | [.bool _,.int .i64 _,.af .u8 32 k,.af .u8 32 s,.af .u8 32 p,.ro I .i64 _]=>C (A k=32)&&C (A s=32)&&C (A p=32)
 |_=>I
def x9(N:Nat)(g:Nat->List SV):Bool:=(t8 N).all λi=>HZ (g i)
def On{l}(h:HZ l=Z):l=(p6 l).cells:=by
 unfold HZ at h;split at h
 ·rfl
 ·cases h
def aaa{N t}(h:x9 N (aA t)=Z)(b:∀i,i<N->(t i).un.length<=274877906944):cX N (aA t)=Z:=rQ.2 λi a=>by have:=aaB.1 h i (aaI.2 a);have q:(C ((t i).key.length=32)&&C ((t i).bH.length=32)&&C ((t i).cF.length=32))=Z:=this;simp only[No,aac] at q;exact⟨rfl,b i a,q.1.1,q.1.2,q.2⟩
def aoZ(b:Bool):aK Q:=.val 19 _ func19 (by decide) rfl Z 0 (λvs=>match vs with
 | [.aO I 99 N g]=>E (.bool b,[],cX N g&&C (N<=71)&&(eH N (ai g)==b))
 |_=>Y) λvs v new e=>by
 split at e
 ·simp only[Mf,aad,No,aac,afP] at e
  have⟨rfl,rfl,⟨c,f⟩,d⟩:=e
  rw[<-d]
  exact ak.conv (aab (eo.of c f)) ⟨VE.kM c,trivial⟩ trivial (VE.refl _) trivial
 ·cases e
section
variable {N M:Nat} {t u:Nat->aE} {nm:Int}
end
end Tr
end Go.Proofs.YthlnlcijnoadcaaGreatDoor
namespace Go.Sy
open ChangeShapes WideShapes RowKit
variable {P:Program}
def VR.tail{e n k bs zs y}(h:A bs=n+k)(a:VR e (.ro I .u8 zs) y):VR e (.agg [.af .u8 n (bs.take n),.af .u8 k (bs.drop n),.ro I .u8 zs]) (.agg ⟨bB .u8 bs++[y]⟩):=by
 refine⟨bB .u8 bs++[y],⟨bB .u8 (bs.drop n)++[y],⟨[y],⟨y,[],a,rfl,rfl⟩,?_⟩,?_⟩,rfl⟩
 ·rw[bV (by simp;omega)]
 ·rw[bV (by simp;omega), <-aeH, <-jC,afA]
end Go.Sy
namespace Go.Sy
open ChangeShapes WideShapes RowKit
variable {P:Program} {H:Type} {enc:TypeId×Value->H} {W:World}
def tq{a v}(h:W.cell? a=E v):∃c t fr,W.heap[a.block]?=E (.cells c t fr)/\a.spot=Y/\c[a.off]?=E v:=by
 unfold World.cell? at h
 split at h
 ·rename_i c t fr d
  split at h
  ·cases h
  ·rename_i b
   refine⟨c,t,fr,d,?_,h⟩
   cases q:a.spot with
   |none=>rfl
   |some x=>rw[q] at b;exact absurd rfl b
 ·cases h
end Go.Sy
namespace Go.Sy
open ChangeShapes WideShapes RowKit
variable {P:Program} {H:Type} {enc:TypeId×Value->H} {W:World}
def j7{base N t e d c cs x}(F:P.underlying t=E (.array N e))(D:P.underlying e=E (.int .u8))(B:P.cellsOf e=1)(J:P.cellsOf t=N)
  (h:DataW.trod enc P W base (λ_=>Z) c d t cs=E x):∃zs,cs=bB .u8 zs/\A zs=N/\∀z∈zs,0<=z/\z<256:=by
 have⟨Q,m,_,_,b,T,w⟩:=DataW.trod_array F h
 rw[J] at b
 rw[B] at w
 have each:∀v∈cs,∃z,v=Value.int .u8 z/\0<=z/\z<256:=λv f=>by
  have⟨i,G,r⟩:=List.getElem_of_mem f
  have q:=w i (by omega)
  rw[aaQ (by omega),ajC] at q
  have⟨z,e1,_,L⟩:=DataW.trod_int D q
  have g:=ahV (λl:List Value=>l[0]?) e1
  simp only[afZ,af1,afO,ajf,Nat.zero_lt_one,akk] at g
  rw[aaQ G,r] at g
  have S:0<=z/\z<=255:=by simpa[Lit.wf,IntKind.has,IntKind.min,IntKind.max,IntKind.signed,IntKind.bits] using L
  exact⟨z,by simpa using g,by omega⟩
 have j:∀l,(∀v∈l,∃z,v=Value.int .u8 z/\0<=z/\z<256)->∃zs,l=bB .u8 zs/\∀z∈zs,0<=z/\z<256:=by
  intro l
  induction l with
  |nil=>intro _;exact⟨[],rfl,by simp⟩
  |cons a l K=>
   intro b
   obtain⟨z,rfl,o⟩:=b a (by simp)
   obtain⟨zs,rfl,p⟩:=K λv f=>b v (by simp[f])
   exact⟨z::zs,rfl,λy s=>by rcases af7.1 s with rfl|s;exact o;exact p y s⟩
 obtain⟨zs,rfl,o⟩:=j cs each
 exact⟨zs,rfl,by simpa[bB] using b,o⟩
end Go.Sy
namespace Go.Sy
open ChangeShapes WideShapes RowKit
variable {P:Program} {H:Type} {enc:TypeId×Value->H} {W:World}
def tr{k base m t e fuel held cs x}(r:P.underlying t=E (.slice e))(p:P.underlying e=E (.int k))(i:P.cellsOf e=1)
  (h:DataW.trod enc P W base (λ_=>Z) held fuel t cs=E x):∃zs v,cs=[v]/\VR (mb (lM W) m) (.ro I k zs) v/\∀z∈zs,(Lit.int k z).wf=Z:=by
 rcases ChangeShapes.open_ints r p i h with⟨d,_⟩|⟨a,f,cap,zs,d,_,j,B,l,_,b,g⟩
 ·exact⟨[],_,d,.inl ⟨rfl,Y,0,rfl,λ_=>rfl⟩,λ_ h=>by cases h⟩
 ·have o:A zs=cap:=by simpa using l
  refine⟨zs.take f,_,d,?_,λn w=>g n (List.mem_of_mem_take w)⟩;by_cases F:cap=0
  ·exact .inl ⟨by rw[List.take_eq_nil_iff];left;omega,E a,cap,by rw[show f=0 by omega],λq=>by cases q⟩
  ·have⟨c,D,G,y,s,_⟩:=tq (b 0 (by omega));exact qf.Rn y s o j b
def axA(l:List Value)(h:A l=99):l=(l.drop 0).take 1++((l.drop 1).take 1++((l.drop 2).take 32++((l.drop 34).take 32++((l.drop 66).take 32++(l.drop 98).take 1)))):=by
 rw[aaT (l:=l.drop 98) (by rw[afj];omega),show l.drop 98=(l.drop 66).drop 32 by rw[afu],afA,show l.drop 66=(l.drop 34).drop 32 by rw[afu],afA,
  show l.drop 34=(l.drop 2).drop 32 by rw[afu],afA,show l.drop 2=(l.drop 1).drop 1 by rw[afu],afA,agE,afA]
structure ag7(P:Program)(e t0 t1 t2 t3 t4 e1 e2:TypeId)(f0 f1 f2 f3 f4 f5:Field):Prop where
 s:P.underlying e=some (.struct #[f0,f1,f2,f3,f4,f5])
 c:P.cellsOf e=99
 ft:f0.type=t0/\f1.type=t1/\f2.type=t2/\f3.type=t2/\f4.type=t4/\f5.type=t3
 o:f0.offset=0/\f1.offset=1/\f2.offset=2/\f3.offset=34/\f4.offset=66/\f5.offset=98
 u:P.underlying t0=some .bool/\P.underlying t1=some (.int .i64)/\P.underlying t2=some (.array 32 e1)/\P.underlying t3=some (.slice e2)/\P.underlying e1=some (.int .u8)/\P.underlying e2=some (.int .i64)/\P.underlying t4=some (.array 32 e1)
 k:P.cellsOf t0=1/\P.cellsOf t1=1/\P.cellsOf t2=32/\P.cellsOf t3=1/\P.cellsOf e1=1/\P.cellsOf e2=1/\P.cellsOf t4=32
def Oo{base m e t0 t1 t2 t3 t4 e1 e2 f0 V L f3 f4 f5 f c cs x}(T:ag7 P e t0 t1 t2 t3 t4 e1 e2 f0 V L f3 f4 f5)
  (h:DataW.trod enc P W base (λ_=>Z) c f e cs=E x):∃n:aE,PR ⟨λ_=>Y,lM W,m,[],λ_=>Y⟩ n.cells cs/\n.OK:=by
 obtain⟨he,hc,⟨rfl,rfl,r2,r3,r4,rfl⟩,⟨o0,o1,o2,o3,o4,o5⟩,⟨u0,u1,R,u3,F,u5,u6⟩,⟨k0,k1,g,k3,j,k5,K⟩⟩:=T
 obtain⟨xs,n',rfl,_,Q,jD,a⟩:=DataW.trod_struct he h
 rw[hc] at Q
 have i:=a 0 f0 rfl
 have o:=a 1 V rfl
 have v:=a 2 L rfl
 have w:=a 3 f3 rfl
 have l:=a 4 f4 rfl
 have r:=a 5 f5 rfl
 rw[aaQ (by rw[jD];simp)] at i o v w l r
 rw[o0,k0] at i
 rw[o1,k1] at o
 rw[r2,o2,g] at v
 rw[r3,o3,g] at w
 rw[r4,o4,K] at l
 rw[o5,k3] at r
 have⟨b,e0,_⟩:=DataW.trod_bool u0 i
 have⟨z,G,_,w1⟩:=DataW.trod_int u1 o
 have⟨ks,s,S,w2⟩:=j7 R F j g v
 have⟨J,q,l3,w3⟩:=j7 R F j g w
 obtain⟨B,D,U,w4⟩:=j7 u6 F j K l
 obtain⟨zs,y,p,g1,g2⟩:=tr u3 u5 k5 r
 have d:=axA cs Q
 rw[e0,G,s,q,D,p] at d
 subst d
 refine⟨⟨b,z,ks,J,B,zs⟩,?_,w1,⟨S,w2⟩,⟨l3,w3⟩,⟨U,w4⟩,g2⟩
 refine⟨_,_,rfl,⟨_,_,rfl,⟨bB .u8 J++(bB .u8 B++[y]),⟨bB .u8 B++[y],⟨[y],⟨_,_,g1,rfl,rfl⟩,?_⟩,?_⟩,?_⟩,rfl⟩,rfl⟩
 ·rw[bV U]
 ·rw[bV l3]
 ·rw[bV S];rfl
end Go.Sy
namespace Go.Sy
open ChangeShapes WideShapes RowKit
def Oq{P H}{enc:TypeId×Value->H}{W base N t e fuel held cs zs p}(f:P.underlying t=E (.array N e))(o:P.underlying e=E (.int .u8))(j:P.cellsOf e=1)(s:P.cellsOf t=N)(v:A zs=N)
  (h:DataW.trod enc P W base (λ_=>Z) held fuel t cs=E (.agg (zs.map λz=>.lit (.int .u8 z)),p)):cs=bB .u8 zs:=by
 have⟨w,m,_,c,b,y,a⟩:=DataW.trod_array f h
 rw[s] at b
 rw[j] at a
 simp only[aad,DataW.agg.injEq] at c
 apply List.ext_getElem
 ·rw[b];simp[bB,v]
 ·intro i d B
  have q:=a i (by omega)
  rw[aaQ (by omega),ajC] at q
  have⟨z,e1,e2,D⟩:=DataW.trod_int o q
  have g:=ahV (λl:List Value=>l[0]?) e1
  simp only[afZ,af1,afO,ajf,Nat.zero_lt_one,akk] at g
  rw[aaQ d] at g
  have k:=ahV (λl=>l[i]?) c.1
  simp only[afr] at k
  rw[aaQ (by omega),aaQ (by omega)] at k
  simp only[acs,Mf,e2] at k
  simp only[DataW.lit.injEq,Lit.int.injEq,true_and] at k
  rw[ajt g]
  simp[bB,k]
end Go.Sy
namespace Go.Sy
section
variable {P:Program} {w:World}
def mV(l:List (Int×Value)):List (Value×Value):=l.map λp=>(.t6 p.1,p.2)
def H6:List (Int×Value)->Int->Option Value
 | [],_=>Y
 |p::l,k=>bif k==p.1 then E p.2 else H6 l k
def mW:List (Int×Value)->Int->Value->List (Int×Value)
 | [],k,v=>[(k,v)]
 |p::l,k,v=>bif k==p.1 then(k,v)::l else p::mW l k v
def nZ:List (Int×Value)->Int->Nat->Option (Nat×Value)
 | [],_,_=>Y
 |p::l,k,i=>bif k==p.1 then E (i,p.2) else nZ l k (i+1)
def nJ(l:List (Int×Value)):Prop:=(l.map (·.1)).Nodup
def Ro{l:List (Int×Value)}{k v j}:j∈(mW l k v).map (·.1)->j=k\/j∈l.map (·.1):=by
 induction l with
 |nil=>intro h;simpa[mW] using h
 |cons p l b=>
  intro h
  unfold mW at h
  cases a:(k==p.1) with
  |true=>
   rw[a] at h
   simp only[aja,agr,af7] at h ⊢
   rcases h with h|h
   ·exact .inl h
   ·exact .inr (.inr h)
  |false=>
   rw[a] at h
   simp only[ajB,agr,af7] at h ⊢
   rcases h with h|h
   ·exact .inr (.inl h)
   ·exact(b h).imp id .inr
def nJ.set{l:List (Int×Value)}(h:nJ l) k v:nJ (mW l k v):=by
 induction l with
 |nil=>simp[nJ,mW]
 |cons p l b=>
  unfold nJ at h b ⊢
  rw[agr,ajH] at h
  unfold mW
  cases a:(k==p.1) with
  |true=>
   have a:k=p.1:=by simpa using a
   simp only[aja,agr,ajH]
   rw[a];exact h
  |false=>
   have a:¬k=p.1:=by simpa using a
   simp only[ajB,agr,ajH]
   exact⟨λq=>(Ro q).elim (λq=>a q.symm) h.1,b h.2⟩
def Rp{l:List (Int×Value)}(h:nJ l):∀p∈l,H6 l p.1=E p.2:=by
 induction l with
 |nil=>intro p a;cases a
 |cons q l b=>
  unfold nJ at h b
  rw[agr,ajH] at h
  intro p a
  unfold H6
  rcases af7.1 a with rfl|a
  ·rw[beq_self_eq_true];rfl
  ·have:(p.1==q.1)=I:=by
    cases c:(p.1==q.1) with
    |false=>rfl
    |true=>exact absurd (ajj.2 ⟨p,a,by simpa using c⟩) h.1
   rw[this];exact b h.2 p a
def xx q k:∀a(l:List (Int×Value))i,a.map (λe=>(e.key,e.val))=mV l->Instr.findNow (.int q) (.t6 k) a i=E (nZ l k i)
 | [],[],i,_=>rfl
 | [],_::_,_,h=>by simp[mV] at h
 |_::_,[],_,h=>by simp[mV] at h
 |e::a,p::l,i,h=>by
  simp only[mV,agr,aiT,aad] at h
  obtain⟨⟨f,d⟩,c⟩:=h
  have b:=xx q k a l (i+1) c
  unfold Instr.findNow
  rw[f]
  simp only[Instr.sameNow,akk,nZ]
  cases g:(k==p.1) with
  |true=>simp[d]
  |false=>simpa using b
def Ot(l:List (Int×Value)) k:∀i,(nZ l k i).map (·.2)=H6 l k:=by induction l with
 |nil=>intro i;rfl
 |cons p l a=>
  intro i
  simp only[nZ,H6]
  cases k==p.1 with
  |true=>rfl
  |false=>exact a (i+1)
def uM{kt}(a:P.underlying kt=E (.int .i64)){es}{l:List (Int×Value)}(b:Er es=mV l) k:(Instr.findKey kt (.t6 k) es.toList).run P w=.ok (nZ l k 0) w:=by unfold Instr.findKey;simp only[abe,abF a,aaJ,xx .i64 k es.toList l 0 b,ach]
def Es{t kt et m ck es}{l:List (Int×Value)}{z}(d:P.underlying t=E (.map kt et))(b:P.underlying kt=E (.int .i64))(f:(zeroValue et).run P w=.ok z w)(c:w.heap[m]?=E (.map es ck))(e:Er es=mV l) k:
  (Instr.lookup t (.map (E m)) (.t6 k) I).run P w=.ok ((H6 l k).getD z) w:=by
 unfold Instr.lookup
 simp only[abe,abF d,aaJ,MapKept.run_getObj_map c,ach,lN b,uM b e]
 have:=Ot l k 0
 cases a:nZ l k 0 with
 |none=>rw[a] at this;rw[<-this];simp only[abe,f,aaJ,ach];rfl
 |some q=>rw[a] at this;rw[<-this];simp only[ach,aaJ];rfl
def Ou{l k v}:∀{i j}{u},nZ l k i=E (j,u)->i<=j/\(∀es:List MapEntry,es.map (λe=>(e.key,e.val))=mV l->((es.modify (j-i) λe=>{e with key:=.t6 k,val:=v}).map λe=>(e.key,e.val))=mV (mW l k v)/\(es[j-i]?).map (·.key)=E (.t6 k)):=by
 induction l with
 |nil=>intro i j u h;simp[nZ] at h
 |cons p l ih=>
  intro i j u h
  simp only[nZ] at h
  cases c:(k==p.1) with
  |true=>
   rw[c] at h
   simp only[aja,Mf,aad] at h
   have⟨rfl,_⟩:=h
   refine⟨aar _,λes a=>?_⟩
   cases es with
   |nil=>simp[mV] at a
   |cons e es=>
    simp only[mV,agr,aiT,aad] at a
    have hk':k=p.1:=by simpa using c
    simp only[Nat.sub_self,List.modify_zero_cons,agr,mW,c,aja,mV,aiT]
    exact⟨⟨trivial,a.2⟩,by simp[a.1.1,hk']⟩
  |false=>
   rw[c] at h
   have⟨h1,h2⟩:=ih h
   refine⟨by omega,λes a=>?_⟩
   cases es with
   |nil=>simp[mV] at a
   |cons e es=>
    simp only[mV,agr,aiT] at a
    rw[show j-i=(j-(i+1))+1 by omega]
    simp only[List.modify_succ_cons,agr,mW,c,ajB,mV,aiT]
    exact⟨⟨a.1,(h2 es a.2).1⟩,by simpa using(h2 es a.2).2⟩
def H7{l k v}:∀{i},nZ l k i=Y->mW l k v=l++[(k,v)]:=by
 induction l with
 |nil=>intro i _;rfl
 |cons p l b=>
  intro i h
  simp only[nZ] at h
  cases a:(k==p.1) with
  |true=>rw[a] at h;simp at h
  |false=>
   rw[a] at h
   simp only[mW,a,ajB,b h,List.cons_append]
def xy f(b:∀e,(f e).born=e.born):∀(a:List MapEntry)j,(a.modify j f).map (·.born)=a.map (·.born)
 | [],_=>by simp
 |e::a,0=>by simp[b]
 |e::a,j+1=>by simp[xy f b a j]
def Et(m:Nat)(l:List (Int×Value))(w:World):Prop:=∃a b,w.heap[m]?=E (.map a b)/\Er a=mV l/\(a.toList.map (·.born)).Nodup/\∀x∈a.toList,x.born<b
def Eu{t kt et m l}(Q:P.underlying t=E (.map kt et))(G:P.underlying kt=E (.int .i64))(h:Et m l w) k v:
  ∃i g,(Instr.mapUpdate t (.map (E m)) (.t6 k) v).run P w=.ok () (w.putObj m (.map i g))/\Et m (mW l k v) (w.putObj m (.map i g)):=by
 have⟨d,T,p,r,K,B⟩:=h
 have f:=(abE.1 p).1
 unfold Instr.mapUpdate
 simp only[abe,abF Q,aaJ,MapKept.run_getObj_map p,lN G,uM G r]
 cases J:nZ l k 0 with
 |none=>
  refine⟨_,_,MapKept.run_setObj_map _ p,_,_,by simp[World.putObj,f];exact⟨rfl,rfl⟩,?_,?_,?_⟩
  ·rw[H7 J]
   unfold Er at r ⊢
   simp[mV,r]
  ·rw[Array.toList_push,List.map_append,List.nodup_append]
   refine⟨K,by simp,λa R b s=>?_⟩
   obtain⟨x,a,rfl⟩:=ajj.1 R
   have:=B x a
   simp at s
   omega
  ·intro x a
   rw[Array.toList_push,agl] at a
   rcases a with a|a
   ·have:=B x a;omega
   ·simp at a;subst a;simp
 |some q=>
  have⟨j,u⟩:=q
  obtain⟨F,c⟩:=(Ou J).2 d.toList r
  rw[Nat.sub_zero] at c F
  have D:(Instr.keyThatStays (((d[j]?).map (·.key)).getD (.t6 k)) (.t6 k)).run P w=.ok (.t6 k) w:=by
   rw[show d[j]?=d.toList[j]? by simp,c]
   simp[Instr.keyThatStays,Instr.sameBits]
  simp only[abe,D,aaJ]
  have o:=xy (λe=>{e with key:=.t6 k,val:=v}) (λ_=>rfl) d.toList j
  refine⟨_,_,MapKept.run_setObj_map _ p,_,_,by simp[World.putObj,f];exact⟨rfl,rfl⟩,?_,?_,?_⟩
  ·unfold Er
   rw[Array.toList_modify]
   exact F
  ·rw[Array.toList_modify,o];exact K
  ·intro x a
   rw[Array.toList_modify] at a
   have:x.born∈d.toList.map (·.born):=by rw[<-o];exact ajj.2 ⟨x,a,rfl⟩
   obtain⟨y,S,z⟩:=ajj.1 this
   rw[<-z];exact B y S
def Ov{L}{e:MapEntry}:(L.map (·.born)).Nodup->e∈L->A (L.filter λx=>!(x.born==e.born))+1=A L:=by
 induction L with
 |nil=>intro _ h;cases h
 |cons x L c=>
  intro h a
  rw[agr,ajH] at h
  rcases af7.1 a with rfl|a
  ·have d:(L.filter λx=>!(x.born==e.born))=L:=ajR.2 λy f=>by
    have:¬y.born=e.born:=λq=>h.1 (ajj.2 ⟨y,f,q⟩)
    simp[this]
   rw[List.filter_cons_of_neg (by simp),d];rfl
  ·have b:¬x.born=e.born:=λq=>h.1 (ajj.2 ⟨e,a,q.symm⟩)
   rw[List.filter_cons_of_pos (by simp[b]),agM,agM,c h.2 a]
def Rq{es seen e}(d:(es.toList.map (·.born)).Nodup)(c:e∈(leftOf es seen).toList):(leftOf es (seen.push e.born)).size+1=(leftOf es seen).size:=by
 have b:(leftOf es (seen.push e.born)).toList=(leftOf es seen).toList.filter λx=>!(x.born==e.born):=by unfold leftOf;rw[Array.toList_filter,Array.toList_filter,List.filter_filter];congr 1;funext x;rw[contains_push,Bool.not_or,Bool.and_comm]
 have a:((leftOf es seen).toList.map (·.born)).Nodup:=by unfold leftOf;rw[Array.toList_filter];exact(List.Sublist.map _ List.filter_sublist).nodup d
 have:=Ov a c;rw[<-b] at this;simpa using this
end
section
variable {P:Program} {ro:Option Nat} {k:Nat}
def RJ:Obj->Bool
 | .map _ _=>Z
 | .mapIter _ _ _ _=>Z
 |_=>I
def bM.Ez{B e h w w' m}(R:bM B e h w)(h1:w'.os=w.os)(h2:w'.tape=w.tape)(K:w'.output=w.output)(L:w.heap.size<=w'.heap.size)(v:∀n,n<w.heap.size->n≠m->w'.heap[n]?=w.heap[n]?)(hB:B.w.heap.size<=m)
  (F:∀o,w.heap[m]?=E o->RJ o=Z):bM B e h w':=by
 have jy:∀{n}{o},w.heap[n]?=E o->RJ o=I->w'.heap[n]?=E o:=λ{n o} d a=>by
  rw[v n (abE.1 d).1 (λq=>by subst q;rw[F o d] at a;cases a)];exact d
 exact{
  os:=h1.trans R.os,tape:=h2.trans R.tape,output:=K.trans R.output
  size:=af3 R.size L
  inj:=R.inj,dom:=R.dom,gM:=R.gM
  gN:=λn c t s J=>jy (R.gN n c t s J) rfl
  bN:=R.bN,fU:=R.fU,cM:=R.cM,b6:=R.b6,cE:=R.cE,n0:=R.n0,dK:=R.dK
  gr:=λi G b=>(R.gr i G b).imp id λ⟨p,o,f,j,r⟩=>by
   obtain⟨c,t,rfl,l,y,z⟩:=r
   exact⟨p,_,f,jy j rfl,c,t,rfl,l,y,z⟩
  gap:=λi g b=>⟨(R.gap i g b).1,(R.gap i g b).2.le (λn o a=>jy a rfl) rfl ⟨λ_ _ h=>h,λ_ _ h=>h,aar _⟩⟩
  yi:=R.yi,yb:=R.yb
  old:=λn a u D=>by rw[v n (by have:=R.size;omega) (by omega)];exact R.old n a u D
  lz:=λi p b=>by
   have⟨o,M,f,j,r⟩:=R.lz i p b
   obtain⟨c,H,t,s,rfl,rfl,l⟩:=r
   exact⟨_,_,f,jy j rfl,c,H,t,s,rfl,rfl,l⟩
  kr:=R.kr,iT:=R.iT
  g7:=λq x=>⟨jy (R.g7 q x).1 rfl,(R.g7 q x).2⟩
  jG:=R.jG}
def bM.RK{B e e' h h' w w'}{m:Nat}{o}(R:bM B e h w)(S:bM (fC e h w) e' h' w')(h1:w.heap[m]?=E o)(h2:RJ o=Z):w'.heap[m]?=E o:=by
 have a:=(abE.1 h1).1
 rw[S.old m a (λi p f q=>?_) (λhl=>?_)]
 ·exact h1
 ·have⟨c,t,g,_⟩:=R.gu f
  rw[q,h1] at g;cases g;cases h2
 ·obtain⟨i,L,j,rfl⟩:=ji.1 hl
  have⟨_,_,r,d,_⟩:=R.gap i _ j
  rw[h1] at d;cases d;cases h2
def WH(p:World->Prop):HP:=λ_ _ w=>p w
def bA(a:Bool)(m:Nat)(l:List (Int×Value)):HP:=λB _ w=>(a=Z->B.w.heap.size<=m)/\Et m l w
def bA.bJ nw m l:fT (bA nw m l):=λ_ _ _ _ _ _ _ _ R ⟨d,b,a,e,c⟩ S=>⟨d,b,a,R.RK S e rfl,c⟩
def bA.cj nw m l:gj (bA nw m l):=λ_ _ _ _ h=>h
def cZ(H H':HP):HP:=λB e w=>H B e w/\H' B e w
def cZ.bJ{H H'}(h:fT H)(h':fT H'):fT (cZ H H'):=λB e b w c a d ms R ⟨g,f⟩ S=>⟨h B e b w c a d ms R g S,h' B e b w c a d ms R f S⟩
def cZ.cj{H H'}(h:gj H)(h':gj H'):gj (cZ H H'):=λB e a w ⟨c,b⟩=>⟨h B e a w c,h' B e a w b⟩
def TH:HP:=λ_ _ _=>True
def TH.bJ:fT TH:=λ_ _ _ _ _ _ _ _ _ _ _=>trivial
def TH.cj:gj TH:=λ_ _ _ _ _=>trivial
def nX(P:Program)(ro:Option Nat)(k:Nat)(ops:Array Oper)(is:List Nat)(s:St)(H:HP){ι:Type}(F:ι->St)(G:ι->HP):Prop:=
 ∀(B:dj)(e:cw)(w:World)(g:List Value)(d:List Deferred)(Q:Exit->Act->World->Prop)(f:Nat)(rest:List Nat),B.k<=k->TR e s.t g->bM B e s.h w->H B e w->
  (∀m b c a,TR b (F m).t a->bM B b (F m).h c->G m B b c->wpOpsIn (wF ro) f P ops Q rest ⟨⟨a⟩,n6 b.m++d⟩ c)->wpOpsIn (wF ro) f P ops Q (is++rest) ⟨⟨g⟩,n6 e.m++d⟩ w
variable {H H1 H':HP} {ι:Type}
def OX.Kg{ops is a s s1 F}{G:ι->HP}(h1:OX P ro k ops is s H s1 H1)(h2:nX P ro k ops a s1 H1 F G):nX P ro k ops (is++a) s H F G:=
 λB e w h d Q b rest hB c R m j=>by rw[aeH];exact h1 B e w h d Q b (a++rest) hB c R m λe1 g t1 l f i=>h2 B e1 g t1 d Q b rest hB l f i j
def nX.then{ops is a s F b}{G G':ι->HP}(h1:nX P ro k ops is s H F G)(h2:∀m,OX P ro k ops a (F m) (G m) (b m) (G' m)):nX P ro k ops (is++a) s H b G':=
 λB e w i d Q c rest hB f R o l=>by rw[aeH];exact h1 B e w i d Q c (a++rest) hB f R o λm e1 h t1 n g j=>h2 m B e1 h t1 d Q c rest hB n g j (l m)
def nX.region{ops s s' F}{G:ι->HP}{b x} id(h:nX P ro k ops (t8 ops.size) s H F G)(g:∀m,TrX P ro k b (F m) (G m) x s' H'):TrX P ro k (.seq (.region id ops I) b) s H x s' H':=
 λB e w n d Q a hB c R j p=>wpIn_seq (wpIn_region (by have:=h B e w n d (Exit.then (b.wpIn (wF ro) a P Q) Q) a [] hB c R j λm e1 l t1 i f o=>g m B e1 l t1 d Q a hB i f o p;rwa [acj] at this))
def nX.op{ops i o s}{v:ι->SV}{G}(hi:ops[i]?=E o)(y:∀c,o.op≠.defer c)(l:eC ops s.t o=E Z)
  (g:∀(B:dj)(e:cw)(w:World)(t':List Value)(d:List Deferred),TR e s.t t'->bM B e s.h w->H B e w->∃m v' w',(execOp (Act.eval ⟨⟨t'⟩,d⟩) o).run P w=.ok (.value v') w'/\VR e (v m) v'/\bM B e s.h w'/\G m B e w'):nX P ro k ops [i] s H (λm=>⟨bK s.t o.dst (v m),s.h,s.ob⟩) G:=by intro B e w t' d Q z rest hB f R u p;rw[List.singleton_append,wpOpsIn_cons];unfold wpOpIn;rw[hi];simp only[];rw[ae8 (fJ f l)];have⟨m,v',w',r,x,n,b⟩:=g B e w t' (n6 e.m++d) f R u;refine⟨λ_ _=>trivial,?_⟩;rw[Oper.semAt_eq _ _ _ y,r];obtain⟨a,q,j⟩:=TR.put f x;show wpOpsIn _ _ _ _ _ _ (Act.put _ _ _) _;rw[q];exact p m e w' a j n b
def nX.afo{ops i dst s t}(u:fT H)(r:gj H)(hi:(ops[i]?).map (λo=>(o.dst,o.op))=E (dst,.makeMap t Y))(c:(ops[i]?).bind (eC ops s.t)=E Z):nX P ro k ops [i] s H (λm=>⟨bK s.t dst (.nl (.map (E m))),s.h,s.ob⟩) (λm=>cZ (bA Z m []) H):=by
 have⟨o,f,c⟩:=acU.1 c
 rw[f] at hi
 simp only[acs,Mf,aad] at hi
 have⟨rfl,b⟩:=hi
 refine nX.op f (by rw[b];simp) c λB e w p d x R l=>?_
 have j:(execOp (Act.eval ⟨⟨p⟩,d⟩) o).run P w=.ok (.value (.map (E w.heap.size))) (w.alloc (.map #[] 0)):=by
  unfold execOp
  rw[b]
  simp[Instr.makeMap,newObj,Sem.run]
 have a:∀n,n<w.heap.size->n≠w.heap.size->(w.alloc (.map #[] 0)).heap[n]?=w.heap[n]? :=λn g _=>heap_alloc_old w _ g
 have q:=R.self.Ez (w':=w.alloc (.map #[] 0)) rfl rfl rfl (by rw[aiR];omega) a (aar _) (λo b=>by simp at b)
 refine⟨w.heap.size,_,_,j,rfl,R.Ez rfl rfl rfl (by rw[aiR];omega) a R.size (λo b=>by simp at b),⟨λ_=>R.size,_,_,heap_alloc_new w _,rfl,by simp,by simp⟩,?_⟩
 exact r _ _ _ _ (u B e s.h w _ _ _ [] R l q)
def OX.ax9{ops i dst s t kt et xm xk m l x z v} u(a:∀B e w,H B e w->bA u m l B e w)(hi:(ops[i]?).map (λo=>(o.dst,o.op))=E (dst,.lookup t xm xk I))(b:(ops[i]?).bind (eC ops s.t)=E Z)(q:P.underlying t=E (.map kt et))(p:P.underlying kt=E (.int .i64))(r:gw P et=E z)
  (h1:ev s.t xm=E (.nl (.map (E m))))(h2:ev s.t xk=E (.t6 x))(F:∀e,VR e v ((H6 l x).getD z)):OX P ro k ops [i] s H ⟨bK s.t dst v,s.h,s.ob⟩ H:=by have⟨o,n,b⟩:=acU.1 b;rw[n] at hi;simp only[acs,Mf,aad] at hi;have⟨rfl,c⟩:=hi;refine OX.op n (by rw[c];simp) b λB e w g d f R j=>?_;have⟨hB,G,J,y,D,_⟩:=a B e w j;have e1:Act.eval ⟨⟨g⟩,d⟩ xm=.map (E m):=aT f h1;have e2:Act.eval ⟨⟨g⟩,d⟩ xk=.t6 x:=aT f h2;refine⟨_,w,?_,F e,R,j⟩;unfold execOp;rw[c];simp only[abe];rw[e1,e2,Es q p (g9 r w) y D];rfl
def OX.RL{ops i s t kt et xm xk xv m l x d}(hi:(ops[i]?).map (λo=>(o.dst,o.op))=E (Y,.mapUpdate t xm xk xv))(f:(ops[i]?).bind (eC ops s.t)=E Z)(z:P.underlying t=E (.map kt et))(v:P.underlying kt=E (.int .i64))
  (h1:ev s.t xm=E (.nl (.map (E m))))(h2:ev s.t xk=E (.t6 x))(G:ev s.t xv=E (.sM d))(L:A d=32):OX P ro k ops [i] s (bA Z m l) s (bA Z m (mW l x (jb .u8 d))):=by
 have⟨o,r,f⟩:=acU.1 f
 rw[r] at hi
 simp only[acs,Mf,aad] at hi
 have⟨c,b⟩:=hi
 refine OX.opU r (by rw[b];simp) c f λB e w h a g R F=>?_
 have⟨hB,q⟩:=F
 have e1:Act.eval ⟨⟨h⟩,a⟩ xm=.map (E m):=aT g h1
 have e2:Act.eval ⟨⟨h⟩,a⟩ xk=.t6 x:=aT g h2
 have J:Act.eval ⟨⟨h⟩,a⟩ xv=jb .u8 d:=by
  obtain⟨S,⟨N,p,rfl⟩,u⟩:=aT g G
  rw[PR] at p
  subst p
  rw[acj,bV L] at u
  exact u
 have⟨n,j,D,K⟩:=Eu z v q x (jb .u8 d)
 have⟨M,Q,y,_⟩:=q
 refine⟨w.putObj m (.map n j),?_,R.Ez rfl rfl rfl (by rw[World.putObj_size];exact aar _) (λn _ B=>World.putObj_heap_other B) (hB rfl) (λo b=>by rw[y] at b;cases b;rfl),hB,K⟩
 unfold execOp
 rw[b]
 simp only[abe]
 rw[e1,e2,J,D]
 rfl
end
section
variable {P:Program} {ro:Option Nat} {k:Nat} {H H1 H':HP} {ι:Type}
def EA{es l}(h:Er es=mV l):es.size=A l:=by have:=ahV List.length h;simpa[Er,mV] using this
def yW(o:Oper):Option (Option Tmp×Callee×Array TypeId×Array Operand):=match o.op with
 | .call c=>E (o.dst,c.callee,c.argTypes,c.args)
 |_=>Y
def wu{ops:Array Oper}{i:Nat}{q}(h:(ops[i]?).bind yW=E q):∃o c,ops[i]?=E o/\o.op=.call c/\q=(o.dst,c.callee,c.argTypes,c.args):=by
 have⟨o,d,a⟩:=acU.1 h
 unfold yW at a
 split at a
 ·rename_i c b
  exact⟨o,c,d,b,(ajt a).symm⟩
 ·cases a
def OX.qw{ops i dst s ty kt et x v n}(hi:(ops[i]?).bind yW=E (dst,.builtin .len,#[ty],#[x]))(b:(ops[i]?).bind (eC ops s.t)=E Z)(q:P.underlying ty=E (.map kt et))(L:ev s.t x=E (.nl v))
  (M:(v=.map Y/\n=0)\/∃m l,v=.map (E m)/\n=(A l:Int)/\∀B e w,H B e w->bA I m l B e w):OX P ro k ops [i] s H ⟨bK s.t dst (.t6 n),s.h,s.ob⟩ H:=by
 have⟨o,c,g,f,r⟩:=wu hi
 simp only[aad] at r
 obtain⟨rfl,F,J,a⟩:=r
 have⟨Q,u,b⟩:=acU.1 b
 rw[g] at u;cases u
 refine OX.op g (by rw[f];simp) b λB e w j d z R p=>?_
 have e1:Act.eval ⟨⟨j⟩,d⟩ x=v:=aT z L
 have D:(#[v]:Array Value)=c.args.map (Act.eval ⟨⟨j⟩,d⟩):=by rw[<-a, <-e1];simp
 refine⟨.t6 n,w,?_,rfl,R,p⟩
 rw[jc F.symm D f, <-J]
 show((do pure (.value (<-Builtin.len_ #[ty] o.type #[v])):Sem Next)).run P w=_
 rcases M with⟨rfl,rfl⟩|⟨m,l,rfl,rfl,y⟩
 ·simp[Builtin.len_,abF q,goInt]
 ·have⟨_,N,S,G,K,_⟩:=y B e w p
  simp[Builtin.len_,abF q,goInt,MapKept.run_getObj_map G,EA K]
def iG(r m:Nat)(l:List (Int×Value))(n:Nat):HP:=λB _ w=>B.w.heap.size<=r/\∃(b:Array MapEntry)(c:Nat)(a:Array Nat),w.heap[m]?=E (.map b c)/\Er b=mV l/\(b.toList.map (·.born)).Nodup/\(∀x∈b.toList,x.born<c)/\w.heap[r]?=E (.mapIter (E m) c a c)/\(leftOf b a).size=n
def jk(r m:Nat)(l:List (Int×Value))(n:Nat)(p:Int×Value):HP:=λB _ w=>B.w.heap.size<=r/\∃(b:Array MapEntry)(c:Nat)(a:Array Nat)(e:MapEntry),w.heap[m]?=E (.map b c)/\Er b=mV l/\(b.toList.map (·.born)).Nodup/\(∀x∈b.toList,x.born<c)/\w.heap[r]?=E (.mapIter (E m) c (a.push e.born) c)/\e∈b.toList/\e.key=.t6 p.1/\e.val=p.2/\(leftOf b (a.push e.born)).size=n
def iG.bJ r m l n:fT (iG r m l n):=λ_ _ _ _ _ _ _ _ R ⟨j,c,b,a,f,h,e,i,d,g⟩ S=>⟨j,c,b,a,R.RK S f rfl,h,e,i,R.RK S d rfl,g⟩
def iG.cj r m l n:gj (iG r m l n):=λ_ _ _ _ h=>h
def jk.bJ r m l n p:fT (jk r m l n p):=λ_ _ _ _ _ _ _ _ R ⟨o,c,b,a,e,g,i,f,j,d,h⟩ S=>⟨o,c,b,a,e,R.RK S g rfl,i,f,j,R.RK S d rfl,h⟩
def jk.cj r m l n p:gj (jk r m l n p):=λ_ _ _ _ h=>h
def jk.Bb{r m l n p B e w}(h:jk r m l n p B e w):iG r m l n B e w:=by have⟨q,c,b,a,e,g,j,f,o,d,_,_,_,i⟩:=h;exact⟨q,c,b,_,g,j,f,o,d,i⟩
def nX.ahw{ops i dst s t kt et x m m1 M CN l l1}(hi:(ops[i]?).map (λo=>(o.dst,o.op))=E (dst,.range t x))(f:(ops[i]?).bind (eC ops s.t)=E Z)(F:P.underlying t=E (.map kt et))(U:ev s.t x=E (.nl (.map (E m)))):
  nX P ro k ops [i] s (cZ (bA M m l) (bA CN m1 l1)) (λr=>⟨bK s.t dst (.nl (.pointer (E ⟨r,0,Y⟩))),s.h,s.ob⟩) (λr=>cZ (iG r m l (A l)) (bA CN m1 l1)):=by
 have⟨o,D,f⟩:=acU.1 f
 rw[D] at hi
 simp only[acs,Mf,aad] at hi
 have⟨rfl,c⟩:=hi
 refine nX.op D (by rw[c];simp) f λB e w K d J R Q=>?_
 have⟨⟨_,z,a,j,y,S,T⟩,⟨L,u,q,B,N⟩⟩:=Q
 have e1:Act.eval ⟨⟨K⟩,d⟩ x=.map (E m):=aT J U
 have b:∀n,n<w.heap.size->n≠w.heap.size->(w.alloc (.mapIter (E m) a #[] a)).heap[n]?=w.heap[n]? :=λn G _=>heap_alloc_old w _ G
 have p:=(abE.1 j).1
 have g:=(abE.1 B).1
 refine⟨w.heap.size,_,w.alloc (.mapIter (E m) a #[] a),?_,rfl,R.Ez rfl rfl rfl (by rw[aiR];omega) b R.size (λo c=>by simp at c),⟨R.size,z,a,#[],by rw[heap_alloc_old w _ p];exact j,y,S,T,heap_alloc_new w _,?_⟩,L,u,q,by rw[heap_alloc_old w _ g];exact B,N⟩
 ·unfold execOp
  rw[c]
  simp only[abe]
  rw[e1,run_range_map w t kt et m z a F j]
  rfl
 ·unfold leftOf
  rw[Array.filter_eq_self.2 (by simp)]
  exact EA y
def RM(l:List (Int×Value)):Prop:=∀p∈l,∃d,A d=32/\p.2=jb .u8 d
def EB(l:List (Int×Value))(p:Int×pD):World->Prop:=λ_=>(p.1,jb .u8 p.2)∈l/\A p.2=32
def aau{es l}(h:Er es=mV l){e}(b:e∈es.toList):∃p∈l,e.key=.t6 p.1/\e.val=p.2:=by
 have:(e.key,e.val)∈mV l:=by rw[<-h];exact ajj.2 ⟨e,b,rfl⟩
 have⟨p,c,a⟩:=ajj.1 this;simp only[aad] at a;exact⟨p,c,a.1.symm,a.2.symm⟩
def CO e{d}(h:A d=32):VR e (.sM d) (jb .u8 d):=⟨_,⟨_,rfl,rfl⟩,by rw[acj,bV h];rfl⟩
def nX.apD{ops i dst s it r m m1 n CN l l1}(hl:RM l)(hi:(ops[i]?).map (λo=>(o.dst,o.op))=E (dst,.next it I))(G:(ops[i]?).bind (eC ops s.t)=E Z)(hx:ev s.t it=E (.nl (.pointer (E ⟨r,0,Y⟩)))):
  nX P ro k ops [i] s (cZ (iG r m l (n+1)) (bA CN m1 l1)) (λp:Int×pD=>⟨bK s.t dst (.bP [.bool Z,.t6 p.1,.agg [.t5 p.2]]),s.h,s.ob⟩) (λp=>cZ (WH (EB l p)) (cZ (jk r m l n (p.1,jb .u8 p.2)) (bA CN m1 l1))):=by
 have⟨o,u,G⟩:=acU.1 G
 rw[u] at hi
 simp only[acs,Mf,aad] at hi
 have⟨rfl,y⟩:=hi
 refine nX.op u (by rw[y];simp) G λB e w t' d U R hh=>?_
 have⟨⟨h0,es,b,a,D,h2,h3,h4,x,h6⟩,⟨g0,W,T,N,g2⟩⟩:=hh
 have e1:Act.eval ⟨⟨t'⟩,d⟩ it=.pointer (E ⟨r,0,Y⟩):=aT U hx
 have z:∀v' S,(Instr.next (.pointer (E ⟨r,0,Y⟩)) I o.type).run P w=.ok v' S->(execOp (Act.eval ⟨⟨t'⟩,d⟩) o).run P w=.ok (.value v') S:=λv' S Q=>by
  unfold execOp
  rw[y]
  simp only[abe]
  rw[e1,Q]
  rfl
 rcases run_next_at (P:=P) w o.type r m b b a es b x D h4 (aar _) with⟨q,_⟩|⟨F,ZE,M,B,Q⟩
 ·omega
 ·have⟨c,_⟩:=mem_left ZE
  have⟨p,hp,hk,hv⟩:=aau h2 c
  have⟨dd,hd,f⟩:=hl p hp
  have ab:=Rq h3 ZE
  have g:M.heap=w.heap:=by rcases B with rfl|rfl<;>rfl
  have L:=(abE.1 x).1
  have Bz:(ChangeMaps.setBlock M r (.mapIter (E m) b (a.push F.born) b)).heap[r]?=E (.mapIter (E m) b (a.push F.born) b):=by simp[ChangeMaps.setBlock,g,L]
  have J:∀j,j≠r->(ChangeMaps.setBlock M r (.mapIter (E m) b (a.push F.born) b)).heap[j]?=w.heap[j]? :=λj u=>by
   simp[ChangeMaps.setBlock,g,Ne.symm u]
  have K:m≠r:=λq=>by rw[q,x] at D;cases D
  have V:m1≠r:=λq=>by rw[q,x] at N;cases N
  refine⟨(p.1,dd),_,_,z _ _ Q,?_,?_,⟨by rw[<-f];exact hp,hd⟩,⟨h0,es,b,a,F,by rw[J m K];exact D,h2,h3,h4,Bz,c,hk,by rw[hv,f],by omega⟩,g0,W,T,by rw[J m1 V];exact N,g2⟩
  ·rw[hk,hv,f]
   exact⟨_,⟨_,_,rfl,⟨_,_,rfl,⟨_,_,CO e hd,rfl,rfl⟩,rfl⟩,rfl⟩,rfl⟩
  ·refine R.Ez ?_ ?_ ?_ (by simp[ChangeMaps.setBlock,g]) (λj _ u=>J j u) h0 (λo y=>by rw[x] at y;cases y;rfl)
   all_goals rcases B with rfl|rfl<;>rfl
def OX.aav{ops i dst s it r m l}(hi:(ops[i]?).map (λo=>(o.dst,o.op))=E (dst,.next it I))(b:(ops[i]?).bind (eC ops s.t)=E Z)(F:ev s.t it=E (.nl (.pointer (E ⟨r,0,Y⟩)))):
  OX P ro k ops [i] s (cZ (iG r m l 0) H) ⟨bK s.t dst (.bP [.bool I]),s.h,s.ob⟩ (cZ (iG r m l 0) H):=by
 have⟨o,u,b⟩:=acU.1 b
 rw[u] at hi
 simp only[acs,Mf,aad] at hi
 have⟨rfl,j⟩:=hi
 refine OX.op u (by rw[j];simp) b λB e w z d f R q=>?_
 have c:=q
 have⟨⟨L,n,g,a,y,G,J,D,v,x⟩,_⟩:=q
 have e1:Act.eval ⟨⟨z⟩,d⟩ it=.pointer (E ⟨r,0,Y⟩):=aT f F
 rcases run_next_at w o.type r m g g a n g v y D (aar _) with⟨_,B⟩|⟨K,p,_⟩
 ·refine⟨_,w,?_,⟨_,⟨_,_,rfl,rfl,rfl⟩,rfl⟩,R,c⟩
  unfold execOp
  rw[j]
  simp only[abe]
  rw[e1,B]
  rfl
 ·have:(leftOf n a).toList=[]:=abJ.1 (by simpa using x)
  rw[this] at p;cases p
def OX.ahx{ops i dst s it r m n l}{p:Int×pD}(M:A p.2=32)(f:∀B e w,H B e w->jk r m l n (p.1,jb .u8 p.2) B e w)(hi:(ops[i]?).map (λo=>(o.dst,o.op))=E (dst,.entry it))(c:(ops[i]?).bind (eC ops s.t)=E Z)(K:ev s.t it=E (.nl (.pointer (E ⟨r,0,Y⟩)))):
  OX P ro k ops [i] s H ⟨bK s.t dst (.bP [.t6 p.1,.agg [.t5 p.2]]),s.h,s.ob⟩ H:=by
 have⟨o,u,c⟩:=acU.1 c
 rw[u] at hi
 simp only[acs,Mf,aad] at hi
 have⟨rfl,j⟩:=hi
 refine OX.op u (by rw[j];simp) c λB e w F d g R q=>?_
 have⟨T,z,v,b,J,D,Q,G,S,x,a,y,L,N⟩:=f B e w q
 have e1:Act.eval ⟨⟨F⟩,d⟩ it=.pointer (E ⟨r,0,Y⟩):=aT g K
 refine⟨.tuple #[.t6 p.1,jb .u8 p.2],w,?_,?_,R,q⟩
 ·unfold execOp
  rw[j]
  simp only[abe]
  rw[e1,run_entry_at w r m v b z v J x D a G,y,L]
  rfl
 ·exact⟨_,⟨_,_,rfl,⟨_,_,CO e M,rfl,rfl⟩,rfl⟩,rfl⟩
def eL(P:Program)(f:FuncId)(args:List SV)(h:List Blk)(p:World->Prop){ι:Type}(v:ι->SV)(G:ι->HP):Prop:=
 ∀(B:dj)(e:cw)(w:World)(a:List Value),B.k<=A h->LR e args a->bM B e h w->p w->
  Calls P f ⟨a⟩ w λen d=>∃c m,en=.returned c/\∃b,VR b (v m) c/\bM B {b with m:=e.m} h d/\G m B b d
def Low(G:HP):Prop:=∀B a(e b:cw)w,a.w.heap.size<=B.w.heap.size->G B e w->G a b w
def ahz(G:HP):Prop:=∀B(e:cw)w(r:Nat),w.heap[r]?=E (.deferred (E []))->G B e w->G B e (w.putObj r (.deferred Y))
def bA.low nw m l:Low (bA nw m l):=λ_ _ _ _ _ b ⟨c,a⟩=>⟨λq=>af3 b (c q),a⟩
def bA.CL nw m l:ahz (bA nw m l):=λ_ _ w r d ⟨f,c,b,a,e⟩=>⟨f,c,b,by rw[World.putObj_heap_other (λq=>by rw[q,d] at a;cases a)];exact a,e⟩
def TH.low:Low TH:=λ_ _ _ _ _ _ _=>trivial
def TH.CL:ahz TH:=λ_ _ _ _ _ _=>trivial
def fu(P:Program)(ro:Option Nat)(k:Nat)(c:Code)(s:St)(H:HP)(x:Exit){ι:Type}(S:ι->St)(G:ι->HP):Prop:=
 ∀(B:dj)(e:cw)(w:World)(g:List Value)(d:List Deferred)(Q:Exit->Act->World->Prop)(i:Nat),B.k<=k->TR e s.t g->bM B e s.h w->H B e w->
  (∀m b f a,TR b (S m).t a->bM B b (S m).h f->G m B b f->Q x ⟨⟨a⟩,n6 b.m++d⟩ f)->c.wpIn (wF ro) i P Q ⟨⟨g⟩,n6 e.m++d⟩ w
def fu.seq{a b s s1 x S}{G:ι->HP}(h1:TrX P ro k a s H .normal s1 H1)(h2:fu P ro k b s1 H1 x S G):fu P ro k (.seq a b) s H x S G:=
 λB e w j d Q c hB f R n m=>wpIn_seq (h1 B e w j d _ c hB f R n λe1 i t1 g h l=>h2 B e1 i t1 d Q c hB g h l m)
def fu.EC{a b s x S S'}{G G':ι->HP}(h1:fu P ro k a s H .normal S G)(h2:∀m,TrX P ro k b (S m) (G m) x (S' m) (G' m)):fu P ro k (.seq a b) s H x S' G':=
 λB e w j d Q f hB g R q n=>wpIn_seq (h1 B e w j d _ f hB g R q λm e1 i t1 o h l=>h2 m B e1 i t1 d Q f hB o h l λe2 p t2 a b c=>n m e2 p t2 a b c)
def nX.CP{ops s F}{G:ι->HP} n(h:nX P ro k ops (t8 ops.size) s H F G):fu P ro k (.region n ops I) s H .normal F G:=
 λB e w j d Q a hB b R g o=>wpIn_region (by have:=h B e w j d Q a [] hB b R g λm e1 i t1 c f l=>o m e1 i t1 c f l;rwa [acj] at this)
def TrX.pure{p}{q:Prop}{c s s' x}(f:∀w,p w->q)(h:q->TrX P ro k c s H x s' H'):TrX P ro k c s (cZ (WH p) H) x s' H':=
 λB e w i d Q b hB g R a j=>h (f w a.1) B e w i d Q b hB g R a.2 j
def TrX.ahA{c s s' x}(h:TrX P ro k c s H1 x s' H')(g:∀B e w,H B e w->H1 B e w):TrX P ro k c s H x s' H':=
 λB e w f d Q a hB b R j i=>h B e w f d Q a hB b R (g _ _ _ j) i
def sU{fn t h vs}(f:ke P t h fn.results.toList=E (vs,Z)){B a K}{J:World->Prop}(g:∀w r,w.heap[r]?=E (.deferred (E []))->J w->J (w.putObj r (.deferred Y))):∀(m:List Nat)(e:cw)(w:World),e.m=m->TR e t a->bM B e h w->J w->
  (∀v' e' w',VR e' (fK vs) v'->bM B e' h w'->J w'->K (.returned v') w')->LeavesInM (wF Y) 0 P fn ⟨a⟩ K (n6 m++[]) .returning w
 | [],e,w,_,c,R,b,d=>by have⟨v',n,l⟩:=sV c R f;exact⟨v',n,d v' e w l R b⟩
 |r::m,e,w,i,c,R,b,d=>by have j:=(R.g7 r (by rw[i];simp)).1;refine⟨by simp,.inl ⟨r,_,rfl,run_takeDeferred j,?_⟩⟩;exact sU f g m {e with m:=m} _ rfl (TR.mono (e:=e) (e':={e with m:=m}) ⟨λ_ _ h=>h,λ_ _ h=>h,aar _⟩ c) (R.RN i) (g _ _ j b) d
def eL.of{f fn}(hf:P.funcs[f]?=E fn){c}(hb:fn.body=E c){args x p S}{vs:ι->List SV}{G:ι->HP}(hx:x=.ret\/x=.normal)(hG:∀m,Low (G m))(hS:∀m,ahz (G m))
  (ht:fu P Y 0 c ⟨aU fn.ntmps args,[],Z⟩ (WH p) x S G)(mX:∀m,dL (t8 0) (fK (vs m))=Z)(hr:∀m,ke P (S m).t (S m).h fn.results.toList=E (vs m,Z)):eL P f args [] p (λm=>fK (vs m)) G:=by
 intro B e w a hB hl R hp
 refine mc.1 (callsIn_of_wp_marks (n:=0) hf hb trivial ?_)
 have j:=hl.length
 have l:((⟨a⟩:Array Value)++Array.replicate (fn.ntmps-(⟨a⟩:Array Value).size) undef)=⟨a++t9 (fn.ntmps-A args) undef⟩:=by
  apply aiD
  simp[j]
 rw[l]
 have q:=ht (fC e [] w) (e.uO []) w (a++t9 (fn.ntmps-A args) undef) [] (bodyPostM (wF Y) 0 P fn λen d=>∃v' m,en=.returned v'/\∃b,VR b (fK (vs m)) v'/\bM B {b with m:=e.m} [] d/\G m B b d) 0 (aar _) (TR.aU (hl.mono (jH e [])) fn.ntmps) R.self hp
 refine q λm b d t'' r R' hg=>?_
 have mT:=sU (K:=λen d=>∃v' m,en=.returned v'/\∃b,VR b (fK (vs m)) v'/\bM B {b with m:=e.m} [] d/\G m B b d) (J:=G m B b) (hr m) (hS m B b) b.m b d rfl r R' (hG m _ B _ b d R.size hg) λv' e2 w2 hv R2 g2=>by
  have hE:bG 0 ⟨[E (fK (vs m))],(S m).h,Z⟩ ⟨[E (fK (vs m))],[],Z⟩:=bG.dS (n:=0) (aar _) (by
   unfold St.dS
   rw[ae8]
   ·rfl
   ·simp only[List.all_cons,List.all_nil,mX m,Bool.and_true,List.take_zero])
  have⟨e3,hm3,o,R3⟩:=hE (fC e [] w) e2 w2 [v'] (aar _) ⟨rfl,λi v u s hu=>by
   cases i with
   |zero=>simp only[afZ,Mf] at s hu;subst s hu;exact hv
   |succ i=>simp at s⟩ R2
  exact⟨v',m,rfl,e3,o.2 0 _ _ rfl rfl,R.trans R3,hG m _ _ _ _ _ (aar _) g2⟩
 rcases hx with rfl|rfl
 ·exact mT
 ·exact mT
end
section
variable {P:Program} {ro:Option Nat} {k:Nat} {H H1 H':HP} {ι:Type}
def xz(e:cw)(w:World):dj:=⟨w,⟨λ_=>Y,e.z,e.n0,[],λ_=>Y⟩,0,[]⟩
def bM.aj{B e h w}(R:bM B e h w):bM (xz e w) (xz e w).e [] w:={
 os:=rfl,tape:=rfl,output:=rfl,size:=aar _,inj:=(λi j p q a=>by cases a),dom:=(λi p a=>by cases a),gM:=(λi p a=>by cases a)
 gN:=R.gN,bN:=λ_ _ b=>.inl b,fU:=R.fU,cM:=λ_ _ a=>.inl a,b6:=λ_ _ a=>a,cE:=λ_ _ b=>b,n0:=rfl
 dK:=by have:=R.n0;have:=R.dK;have:=R.size;show e.n0<=w.heap.size;omega
 gr:=λi d a=>by simp at a
 gap:=λi g a=>by simp at a
 yi:=(λi j n a=>by cases a),yb:=(λi n a=>by cases a)
 old:=λ_ _ _ _=>rfl,lz:=(λi p a=>by cases a),kr:=(λi p a=>by cases a),iT:=aar _,g7:=(λr c=>by cases c),jG:=List.nodup_nil}
def bM.afp{B e e' h w w'}(R:bM B e h w)(S:bM (xz e w) e' [] w'):bM B {e with z:=e'.z} h w'/\cw.Le e {e with z:=e'.z}:=by
 have d:∀n,n<w.heap.size->w'.heap[n]?=w.heap[n]? :=λn c=>S.old n c (λi p a=>by cases a) (by simp[xz])
 have b:cw.Le e {e with z:=e'.z}:=⟨λ_ _ h=>h,S.cE,aar _⟩
 have N:=S.size
 refine⟨{
  os:=S.os.trans R.os,tape:=S.tape.trans R.tape,output:=S.output.trans R.output,size:=af3 R.size S.size
  inj:=R.inj,dom:=R.dom
  gM:=λi p a=>by
   cases K:e'.z p.n with
   |none=>rfl
   |some x=>
    rcases S.bN p.n x K with g|g
    ·have g:e.z p.n=E x:=g
     rw[R.gM i p a] at g;cases g
    ·have:=R.lt a
     have g:w.heap.size<=p.n:=g
     omega
  gN:=S.gN
  bN:=λn x l=>by
   rcases S.bN n x l with g|g
   ·exact R.bN n x g
   ·exact .inr (af3 R.size g)
  fU:=λg k M v=>(R.fU g k M v).imp λc ⟨t,L,j,f⟩=>⟨t,L,S.cE _ _ j,f⟩
  cM:=R.cM,b6:=R.b6,cE:=λn x l=>S.cE n x (R.cE n x l),n0:=R.n0,dK:=R.dK
  gr:=λi u a=>(R.gr i u a).imp id λ⟨p,o,q,y,J⟩=>⟨p,o,q,by rw[d p.n (R.lt q)];exact y,J.mono b⟩
  gap:=λi g a=>⟨(R.gap i g a).1,(R.gap i g a).2.le (λn o c=>by rw[d n (abE.1 c).1];exact c) rfl b⟩
  yi:=R.yi,yb:=R.yb
  old:=λn c m s=>by rw[d n (by have:=R.size;omega)];exact R.old n c m s
  lz:=λi p a=>by
   have⟨o,G,j,f,F⟩:=R.lz i p a
   exact⟨o,G,j,by rw[d p.n (R.lt (R.b6 i p a))];exact f,F⟩
  kr:=R.kr,iT:=R.iT
  g7:=λr D=>by
   have:=R.g7 r D
   rw[d r (abE.1 this.1).1];exact this
  jG:=R.jG},b⟩
def eL.ayj{f us p v}{G:ι->HP}(g:eL P f us [] p v G)(u:dI us=Z)(q:∀m,Low (G m)){B:dj}{e:cw}{h:List Blk}{w:World}{args:List Value}(o:LR e us args)(R:bM B e h w)(b:p w):
  Calls P f ⟨args⟩ w λen w'=>∃v' m z,en=.returned v'/\VR {e with z:=z} (v m) v'/\bM B {e with z:=z} h w'/\bM (fC e h w) {e.uO h with z:=z} h w'/\G m B {e with z:=z} w'/\cw.Le e {e with z:=z}:=by have t:=LR.cN (e:=e) (e':=(xz e w).e) (λ_ _ h=>h) (aar _) us args (λj p i=>by rw[e6 u] at i;cases i) o;refine(g (xz e w) _ w args (aar _) t R.aj b).mono ?_;rintro en w' ⟨v',m,rfl,e',s,S,n⟩;have⟨l,c⟩:=R.afp S;have⟨r,_⟩:=R.self.afp S;have d:=S.n0;refine⟨v',m,e'.z,rfl,?_,l,r,q m _ B _ _ _ R.size n,c⟩;refine VR.cN (e:=e') (e':={e with z:=e'.z}) (λ_ _ h=>h) (by rw[d];exact aar _) (v m) v' (λj p _ b=>?_) s;have:=S.dom j p b;exact absurd this (Nat.not_lt_zero _)
def Kn{f fn}(hf:P.funcs[f]?=E fn)(V:fn.name≠ "runtime.NumGoroutine")(hb:fn.body≠Y){us p v}{G:ι->HP}(g:eL P f us [] p v G)(T:dI us=Z)(M:∀m,Low (G m))(hH:fT H)(U:gj H)(W:∀B e w,H B e w->p w)
  {ops i o c x t h}(hi:ops[i]?=E o)(F:o.op=.call c)(iB:c.callee=.value x)(hx:ev t x=E (.fn (.func f) [] []))(ha:uP t c.args.toList=E us)(N:eC ops t o=E Z)
  {B e w t' d Q nn K}(j:TR e t t')(R:bM B e h w)(J:H B e w)
  (S:∀m e' w' a,e'.m=e.m->TR e' (bK t o.dst (v m)) a->bM B e' h w'->cZ (G m) H B e' w'->K ⟨⟨a⟩,d⟩ w'):wpOpIn (wF ro) nn P ops Q i K ⟨⟨t'⟩,d⟩ w:=by
 unfold wpOpIn
 rw[hi]
 simp only[]
 rw[ae8 (fJ j N)]
 refine⟨λ_ _=>trivial,?_⟩
 rw[Oper.semAt_eq _ _ _ (by rw[F];simp)]
 have⟨ys,r,u,n,l⟩:=aT (d:=d) j hx
 have u:=u
 have n:=n
 subst u n
 have b:=rR (d:=d) j ha
 have L:(execOp (Act.eval ⟨⟨t'⟩,d⟩) o).run P w=.ok (.enter f ⟨c.args.toList.map (Act.eval ⟨⟨t'⟩,d⟩)⟩) w:=by
  rw[<-fV hf V hb]
  unfold execOp
  rw[F]
  simp only[resolve,iB,l,Deferred.ofValue,invoke,abe,ach,aaJ]
  congr 2
  apply aiD
  simp
 rw[L]
 refine⟨λh=>by simp[wF,Fence.wide] at h,mc.2 ?_⟩
 intro cs
 obtain⟨y,w',fr,⟨v',m,z,rfl,hv,R2,R3,hg,s⟩,rest⟩:=g.ayj T M b R (W _ _ _ J) cs
 refine⟨.returned v',w',fr,?_,rest⟩
 obtain⟨a,q,D⟩:=TR.put (j.mono s) hv
 show K (Act.put _ _ _) _
 rw[q]
 exact S m {e with z:=z} w' a rfl D R2 ⟨hg,U _ _ _ _ (hH B e h w _ h w' [] R J R3)⟩
def nX.Rv{f fn}(hf:P.funcs[f]?=E fn)(L:(fn.name != "runtime.NumGoroutine")=Z)(y:fn.body.isSome=Z){us p v}{G:ι->HP}(g:eL P f us [] p v G)(F:dI us=Z)(z:∀m,Low (G m))(hH:fT H)(K:gj H)(M:∀B e w,H B e w->p w)
  {ops:Array Oper}{i:Nat}{dst:Option Tmp}{s:St}{x:Operand}{ty:Array TypeId}{a:Array Operand}(hi:(ops[i]?).bind yW=E (dst,.value x,ty,a))(hx:ev s.t x=E (.fn (.func f) [] []))(U:uP s.t a.toList=E us)(l:(ops[i]?).bind (eC ops s.t)=E Z):
  nX P ro k ops [i] s H (λm=>⟨bK s.t dst (v m),s.h,s.ob⟩) (λm=>cZ (G m) H):=by have⟨o,c,n,D,u⟩:=wu hi;simp only[aad] at u;obtain⟨rfl,V,_,rfl⟩:=u;rw[n] at l;intro B e w t' d Q nn rest hB N R hh T;rw[List.singleton_append,wpOpsIn_cons];refine Kn hf (by simpa using L) (by intro q;rw[q] at y;cases y) g F z hH K M n D V.symm hx U (by simpa using l) N R hh λm e' w' b J j S W=>?_;rw[<-J];exact T m e' w' b j S W
