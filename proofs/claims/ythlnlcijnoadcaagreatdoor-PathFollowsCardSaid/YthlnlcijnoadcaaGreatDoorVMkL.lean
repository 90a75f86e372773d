/- This file proves lemmas for the last one. Conditions: those in them. -/
import Derived.Test.YthlnlcijnoadcaaGreatDoorVTtB
noncomputable section
open Bool renaming true->Z,false->I
open Option renaming some->E,none->Y
open Decidable renaming decide->C
open List renaming length->A,getD->X,replicate->t9,range->t8
open Int renaming toNat->O
open Go.Proofs.Tryz
open Go.Proofs.Tryz renaming prog->Q
open Go.IntKind (i64)
set_option linter.all false
set_option maxRecDepth 100000
namespace Go.Proofs.YthlnlcijnoadcaaGreatDoor
namespace Wi
open Sy Tr
def apQ(t:Nat):Nat->Nat:=λi=>match Nat.beq i (1000000000+t) with
 |true=>1
 |false=>0
def pnC(l:List (Nat×Bool))(t d:Nat):cu:=cu.J0 (mk (P:=Q) [] [] (uT l) λi=>Nat.beq i d) (apQ t)
def AZ l(t d:Nat):aq Q (pnC l t d):=cu.Cg (au _ aN.nil _ _) _
abbrev nY(n c:Nat)(xs:pD)(a:Bool):List Blk:=[.b [.sl 1 0 0 1 n c Z Z,.bool a],.b [.af .u8 n xs]]
abbrev HF(n:Nat)(xs:pD)(a:Bool):List Blk:=[.b [.sl 2 0 0 1 n n I Z,.bool a],.b [],.b [.af .u8 n xs]]
def ja(x:Int):Int:=IntKind.u8.wrap (eF IntKind.i64 x (O (i64.wrap (8*i64.wrap (1-1)))))
def aC9(n c:Nat)(xs:pD)(e:Bool) x most:(aV Q (pnC [(10,I),(14,I)] 0 0) 60 f205 [.r5 0,.t6 x,.t6 1,.t6 most] (nY n c xs e))=E (.bP [],nY (n+1) c (xs++[ja x]) e++[.b [.af .u8 1 [ja x]]],aa (aa (aa (aa Z !C (x<0)) !C (x>most)) (C (0<=i64.wrap (8*i64.wrap (1-1))))) (aa (aa (aa (C (A ((t9 1 0).set 0 (IntKind.u8.wrap (eF IntKind.i64 x (O (i64.wrap (8*i64.wrap (1-1)))))))=1)&&Z) Z) (C (n+1<=c))) (C (A xs=n)&&C (n=n)&&C (A ((t9 1 0).set 0 (IntKind.u8.wrap (eF IntKind.i64 x (O (i64.wrap (8*i64.wrap (1-1)))))))=1)))):=by kernel_rfl
def aDa(n c:Nat)(xs:pD)(e:Bool) x most:(aV Q (pnC [(10,I),(14,I),(36,I)] 29 0) 60 f205 [.r5 0,.t6 x,.t6 1,.t6 most] (nY n c xs e))=E (.bP [],[.b [.sl 3 0 0 1 (n+1) (n+1) I Z,.bool e],.b [.af .u8 n xs],.b [.af .u8 1 [ja x]],.b [.af .u8 (n+1) (xs++[ja x])]],aa (aa (aa (aa Z !C (x<0)) !C (x>most)) (C (0<=i64.wrap (8*i64.wrap (1-1))))) (aa (aa (aa (aa (aa (C (A ((t9 1 0).set 0 (IntKind.u8.wrap (eF IntKind.i64 x (O (i64.wrap (8*i64.wrap (1-1)))))))=1)&&Z) (C (A xs=n)&&(C (n<=n)&&Z))) (C (A xs=n))) Z) (C (n+1<=2^38))) (C (c<n+1)))):=by kernel_rfl
def aDb(n c:Nat)(xs ys:pD)(a:Bool):(aV Q (pnC [] 0 10) 60 f204 [.r5 0,.ro I .u8 ys] (nY n c xs a))=E (.bP [],nY (n+A ys) c (xs++ys) a,aa Z (aa (aa Z (C (n+A ys<=c))) (C (A xs=n)&&C (n=n)&&C (A ys=A ys)))):=by kernel_rfl
def aDc(n c:Nat)(xs ys:pD)(a:Bool):(aV Q (pnC [] 0 0) 60 f204 [.r5 0,.ro I .u8 ys] (nY n c xs a))=E (.bP [],[.b [.sl 2 0 0 1 (n+A ys) (n+A ys) I Z,.bool a],.b [.af .u8 n xs],.b [.af .u8 (n+A ys) (xs++ys)]],aa Z (aa (aa (aa (aa Z (C (A xs=n)&&(C (n<=n)&&Z))) (C (A xs=n))) (C (n+A ys<=2^38))) (C (c<n+A ys)))):=by kernel_rfl
def aDd(ys:pD)(a:Bool):(aV Q (pnC [] 0 0) 60 f204 [.r5 0,.ro I .u8 ys] [.b [.nl (.slice Y 0 0),.bool a]])=E (.bP [],[.b [.sl 1 0 0 1 (A ys) (A ys) I Z,.bool a],.b [.af .u8 (A ys) ys]],aa Z (aa Z (C (A ys<=2^38)))):=by kernel_rfl
section
variable {n c:Nat} {xs ys:pD} {bad:Bool} {x most:Int}
def Zr(a:A xs=n)(d:0<=x)(h1:x<=most)(b:n+1<=c):ak Q 205 [.r5 0,.t6 x,.t6 1,.t6 most] (nY n c xs bad) (.bP []) (nY (n+1) c (xs++[ja x]) bad):=by refine qA (AZ _ _ _) 60 func205 2 (aar _) (by rw[aC9];rfl) ?_ rfl rfl;rw[aaS (show¬x<0 by omega),aaS (show¬x>most by omega),Me b,Me a,Me (Eq.refl n)];rfl
def Zs(a:A xs=n)(i:0<=x)(h1:x<=most)(d:c<n+1)(e:n+1<=2^38):ak Q 205 [.r5 0,.t6 x,.t6 1,.t6 most] (nY n c xs bad) (.bP []) (HF (n+1) (xs++[ja x]) bad):=by
 have g:ak Q 205 [.r5 0,.t6 x,.t6 1,.t6 most] (nY n c xs bad) (.bP []) [.b [.sl 3 0 0 1 (n+1) (n+1) I Z,.bool bad],.b [.af .u8 n xs],.b [.af .u8 1 [ja x]],.b [.af .u8 (n+1) (xs++[ja x])]]:=by refine ak.bZ (AZ _ _ _) func205 ((aDa n c xs bad x most).trans ?_);rw[aaS (show¬x<0 by omega),aaS (show¬x>most by omega),Me d,Me a,Me (aar n),Me e];rfl
 have q:=bG.Gp (t:=[E (.bP [])]) (h:=[.b [.sl 3 0 0 1 (n+1) (n+1) I Z,.bool bad],.b [.af .u8 n xs],.b [.af .u8 1 [ja x]],.b [.af .u8 (n+1) (xs++[ja x])]]) (o:=Z) (o':=Z) 2 3 (aar _) (by decide) rfl rfl rfl;refine g.post ((q.trans (bG.bR (s':=⟨[E (.bP [])],[.b [.sl 2 0 0 1 (n+1) (n+1) I Z,.bool bad],.b [.af .u8 n xs],.b [.af .u8 (n+1) (xs++[ja x])],.b [.af .u8 1 [ja x]]],Z⟩) rfl rfl)).trans ((bG.Ib 1 rfl).trans (bG.dS (n:=3) (by decide) rfl)))
def ae5(a:A xs=n)(b:n+A ys<=c):ak Q 204 [.r5 0,.ro I .u8 ys] (nY n c xs bad) (.bP []) (nY (n+A ys) c (xs++ys) bad):=by refine ak.bZ (AZ _ _ _) func204 ((aDb n c xs ys bad).trans ?_);rw[Me b,Me a,Me (Eq.refl n),Me (Eq.refl (A ys))];rfl
def ae6(a:A xs=n)(d:c<n+A ys)(e:n+A ys<=2^38):ak Q 204 [.r5 0,.ro I .u8 ys] (nY n c xs bad) (.bP []) (HF (n+A ys) (xs++ys) bad):=by
 have g:ak Q 204 [.r5 0,.ro I .u8 ys] (nY n c xs bad) (.bP []) [.b [.sl 2 0 0 1 (n+A ys) (n+A ys) I Z,.bool bad],.b [.af .u8 n xs],.b [.af .u8 (n+A ys) (xs++ys)]]:=by refine ak.bZ (AZ _ _ _) func204 ((aDc n c xs ys bad).trans ?_);rw[Me d,Me a,Me (aar n),Me e];rfl
 exact g.post (bG.Ib 1 rfl)
def ae7(a:A ys<=2^38):ak Q 204 [.r5 0,.ro I .u8 ys] [.b [.nl (.slice Y 0 0),.bool bad]] (.bP []) [.b [.sl 1 0 0 1 (A ys) (A ys) I Z,.bool bad],.b [.af .u8 (A ys) ys]]:=by refine ak.bZ (AZ _ _ _) func204 ((aDd ys bad).trans ?_);rw[Me a];rfl
end
def QI(m:Bool)(n c:Nat)(xs ys:pD)(b:Bool):List Blk:=match m with
 |true=>HF (n+A ys) (xs++ys) b
 |false=>nY (n+A ys) c (xs++ys) b
def kY(m:Bool)(n n' c:Nat)(xs ys:pD):Bool:=C (n=n')&&C (A xs=n)&&C (n+A ys<=2^38)&&(match m with
 |true=>C (c<n+A ys)
 |false=>C (n+A ys<=c))
def vX{m:Bool}{n n' c:Nat}{xs ys:pD}(h:kY m n n' c xs ys=Z):n=n'/\A xs=n/\n+A ys<=2^38/\(if m=Z then c<n+A ys else n+A ys<=c):=by
 unfold kY at h
 simp only[No,aac] at h
 refine⟨h.1.1.1,h.1.1.2,h.1.2,?_⟩
 cases m
 ·rw[acB (by simp)];exact agm h.2
 ·rw[ae8 rfl];exact agm h.2
def eO{m:Bool}{n c:Nat}{xs ys:pD}(h1:A xs=n)(h2:n+A ys<=2^38)(a:match m with|true=>c<n+A ys|false=>n+A ys<=c):kY m n n c xs ys=Z:=by
 unfold kY;rw[Me rfl,Me h1,Me h2];cases m
 ·exact Me a
 ·exact Me a
def nbM:Bool->Nat
 |true=>1
 |false=>0
def xZ:List SV->List Blk->List Nat
 | .aG b _ _::_,h=>match h[b]? with
  |some (.b [.sl d _ _ _ _ _ _ _,_])=>[b,d]
  |_=>[b]
 |_,_=>[]
def av0(m:Bool):List SV->List Blk->Option (SV×List Blk×Bool)
 | [.aG 0 0 0,.int .i64 x,.int .i64 1,.int .i64 most],[.b [.sl 1 0 0 1 n c Z Z,.bool b],.b [.af .u8 a xs]]=>E (.bP [],QI m n c xs [ja x] b,kY m n a c xs [ja x]&&C (0<=x)&&C (x<=most))
 |_,_=>Y
def anQ(m:Bool):aK Q:=.mut 205 _ func205 (by decide) rfl xZ (nbM m) (av0 m) λus i v j e=>by
 unfold av0 at e
 split at e
 ·simp only[Mf,aad,No,aac] at e
  have⟨rfl,rfl,⟨h,a⟩,b⟩:=e
  have⟨rfl,d,g,f⟩:=vX h
  cases m
  ·exact Zr d a b (by simpa using f)
  ·exact Zs d a b (by simpa using f) g
 ·cases e
def av1(m:Bool):List SV->List Blk->Option (SV×List Blk×Bool)
 | [.aG 0 0 0,.ro I .u8 ys],[.b [.sl 1 0 0 1 n c Z Z,.bool b],.b [.af .u8 a xs]]=>E (.bP [],QI m n c xs ys b,kY m n a c xs ys)
 |_,_=>Y
def aDe(m:Bool):aK Q:=.mut 204 _ func204 (by decide) rfl xZ (nbM m) (av1 m) λus f v g e=>by
 unfold av1 at e
 split at e
 ·simp only[Mf,aad] at e
  have⟨rfl,rfl,h⟩:=e
  have⟨rfl,a,d,b⟩:=vX h
  cases m
  ·exact ae5 a (by simpa using b)
  ·exact ae6 a (by simpa using b) d
 ·cases e
def av2:aK Q:=.mut 204 _ func204 (by decide) rfl xZ 1 (λus a=>match us,a with
 | [.aG 0 0 0,.ro I .u8 ys],[.b [.nl (.slice Y 0 0),.bool b]]=>E (.bP [],[.b [.sl 1 0 0 1 (A ys) (A ys) I Z,.bool b],.b [.af .u8 (A ys) ys]],C (A ys<=2^38))
 |_,_=>Y) λus a v f e=>by
 split at e
 ·simp only[Mf,aad,aac] at e;have⟨rfl,rfl,h⟩:=e;exact ae7 h
 ·cases e
def seC(m:Bool):cu:=mk [anQ m] [] (uT [])
def Zt(m:Bool):aq Q (seC m):=au _ aN.nil _ _
def aDg(n c:Nat)(xs:pD)(bad:Bool) x:(aV Q (seC I) 60 f207 [.r5 0,.t6 x] (nY n c xs bad))=E (.bP [],nY (n+1) c (xs++[ja x]) bad,aa Z (aa Z (kY I n n c xs [ja x]&&C (0<=x)&&C (x<=31)))):=by kernel_rfl
def aDh(n c:Nat)(xs:pD)(bad:Bool) x:(aV Q (seC Z) 60 f207 [.r5 0,.t6 x] (nY n c xs bad))=E (.bP [],HF (n+1) (xs++[ja x]) bad,aa Z (aa Z (kY Z n n c xs [ja x]&&C (0<=x)&&C (x<=31)))):=by kernel_rfl
def anR{n c:Nat}{xs bad x}(a:A xs=n)(d:0<=x)(h1:x<=31)(b:n+1<=c)(e:n+1<=2^38):ak Q 207 [.r5 0,.t6 x] (nY n c xs bad) (.bP []) (nY (n+1) c (xs++[ja x]) bad):=by refine ak.bZ (Zt _) func207 ((aDg n c xs bad x).trans ?_);rw[eO (ys:=[ja x]) a e b,Me d,Me h1];rfl
def anS{n c:Nat}{xs bad x}(a:A xs=n)(d:0<=x)(h1:x<=31)(b:c<n+1)(e:n+1<=2^38):ak Q 207 [.r5 0,.t6 x] (nY n c xs bad) (.bP []) (HF (n+1) (xs++[ja x]) bad):=by refine ak.bZ (Zt _) func207 ((aDh n c xs bad x).trans ?_);rw[eO (ys:=[ja x]) a e b,Me d,Me h1];rfl
def av3(m:Bool):List SV->List Blk->Option (SV×List Blk×Bool)
 | [.aG 0 0 0,.int .i64 x],[.b [.sl 1 0 0 1 n c Z Z,.bool b],.b [.af .u8 a xs]]=>E (.bP [],QI m n c xs [ja x] b,kY m n a c xs [ja x]&&C (0<=x)&&C (x<=31))
 |_,_=>Y
def aDi(m:Bool):aK Q:=.mut 207 _ func207 (by decide) rfl xZ (nbM m) (av3 m) λus i v j e=>by
 unfold av3 at e
 split at e
 ·simp only[Mf,aad,No,aac] at e
  have⟨rfl,rfl,⟨h,a⟩,b⟩:=e
  have⟨rfl,f,d,g⟩:=vX h
  cases m
  ·exact anR f a b (by simpa using g) d
  ·exact anS f a b (by simpa using g) d
 ·cases e
def liC(m:Bool)(l:List (Nat×Bool)):cu:=cu.J0 (mk [anQ m,aDi m] [] (uT l)) λi=>match Nat.beq i 25 with
 |true=>nbM m
 |false=>0
def nW m(l:List (Nat×Bool)):aq Q (liC m l):=cu.Cg (au _ aN.nil _ _) _
def liB:Code:=aI f206
def x7(un:pD)(i:Int)(h:List Blk):St:=⟨ag 30 [(0,.r5 0),(3,.fn (.func 207) [] []),(15,.ro I .i64 un),(16,.t6 (A un)),(17,.t6 i)],h,Z⟩
abbrev afa(n c:Nat)(xs:pD)(bad:Bool):List Blk:=[.b [.sl 2 0 0 1 n c Z Z,.bool bad],.b [],.b [.af .u8 n xs]]
def NX un(n c:Nat) xs most:aD (az [0,3,15,16,17] 2 ((bh Q (liC I []) 60 2 2 (aH liB) ⟨aU f206.ntmps [.r5 0,.ro I .i64 un,.t6 most,.fn (.func 207) [] []],nY n c xs I,Z⟩).x3))=(E (.normal,(x7 un 0 []).t,nY (n+1) c (xs++[ja (A un)]) I),(aa Z (aa Z (kY I n n c xs [ja (A un:Int)]&&Z&&C ((A un:Int)<=most))))):=by kernel_rfl
def NY un(n c:Nat) xs most:aD (az [0,3,15,16,17] 3 ((bh Q (liC Z []) 60 2 2 (aH liB) ⟨aU f206.ntmps [.r5 0,.ro I .i64 un,.t6 most,.fn (.func 207) [] []],nY n c xs I,Z⟩).x3))=(E (.normal,(x7 un 0 []).t,HF (n+1) (xs++[ja (A un)]) I),(aa Z (aa Z (kY Z n n c xs [ja (A un:Int)]&&Z&&C ((A un:Int)<=most))))):=by kernel_rfl
def NZ un(n c:Nat) xs i:aD (az [0,3,15,16,17] 2 (exec Q (liC I [(18,Z)]) 60 2 (aj (aj (aJ 2 liB))) (x7 un i (nY n c xs I))))=(E (.normal,(x7 un (i64.wrap (i+1)) []).t,nY (n+1) c (xs++[ja (X un (O i) 0)]) I),(aa (aa (aa (aa Z (C (i<(A un:Int)))) (bC i (A un))) (C (O i<A un))) (aa Z (kY I n n c xs [ja (X un (O i) 0)]&&C (0<=X un (O i) 0)&&C (X un (O i) 0<=31))))):=by kernel_rfl
def ag4 un n c xs i:=bu (NZ un n c xs i)
def Zv un n c xs i:=bz (NZ un n c xs i)
def N0 un(n c:Nat) xs i:aD (az [0,3,15,16,17] 3 (exec Q (liC Z [(18,Z)]) 60 2 (aj (aj (aJ 2 liB))) (x7 un i (nY n c xs I))))=(E (.normal,(x7 un (i64.wrap (i+1)) []).t,HF (n+1) (xs++[ja (X un (O i) 0)]) I),(aa (aa (aa (aa Z (C (i<(A un:Int)))) (bC i (A un))) (C (O i<A un))) (aa Z (kY Z n n c xs [ja (X un (O i) 0)]&&C (0<=X un (O i) 0)&&C (X un (O i) 0<=31))))):=by kernel_rfl
def av5 un n c xs i:=bu (N0 un n c xs i)
def anU un n c xs i:=bz (N0 un n c xs i)
def N1 un(n c:Nat) xs i:aD (az [0,3,15,16,17] 3 (exec Q (liC I [(18,Z)]) 60 2 (aj (aj (aJ 2 liB))) (x7 un i (afa n c xs I))))=(E (.normal,(x7 un (i64.wrap (i+1)) []).t,afa (n+1) c (xs++[ja (X un (O i) 0)]) I),(aa (aa (aa (aa Z (C (i<(A un:Int)))) (bC i (A un))) (C (O i<A un))) (aa Z (kY I n n c xs [ja (X un (O i) 0)]&&C (0<=X un (O i) 0)&&C (X un (O i) 0<=31))))):=by kernel_rfl
def av6 un n c xs i:=bu (N1 un n c xs i)
def anV un n c xs i:=bz (N1 un n c xs i)
def N2 un(n c:Nat) xs i:aD (az [0,3,15,16,17] 4 (exec Q (liC Z [(18,Z)]) 60 2 (aj (aj (aJ 2 liB))) (x7 un i (afa n c xs I))))=(E (.normal,(x7 un (i64.wrap (i+1)) []).t,[.b [.sl 3 0 0 1 (n+1) (n+1) I Z,.bool I],.b [],.b [],.b [.af .u8 (n+1) (xs++[ja (X un (O i) 0)])]]),(aa (aa (aa (aa Z (C (i<(A un:Int)))) (bC i (A un))) (C (O i<A un))) (aa Z (kY Z n n c xs [ja (X un (O i) 0)]&&C (0<=X un (O i) 0)&&C (X un (O i) 0<=31))))):=by kernel_rfl
def av7 un n c xs i:=bu (N2 un n c xs i)
def anW un n c xs i:=bz (N2 un n c xs i)
def N3 un(n c:Nat) xs i:aD (az [0] 2 (exec Q (liC I [(18,I)]) 60 2 (aj (aj (aJ 2 liB))) (x7 un i (nY n c xs I))))=(E (.exit 0,ag 30 [(0,.r5 0)],nY n c xs I),(aa Z !C (i<(A un:Int)))):=by kernel_rfl
def N4 un(n:Nat) xs i:aD (az [0] 3 (exec Q (liC I [(18,I)]) 60 2 (aj (aj (aJ 2 liB))) (x7 un i (HF n xs I))))=(E (.exit 0,ag 30 [(0,.r5 0)],HF n xs I),(aa Z !C (i<(A un:Int)))):=by kernel_rfl
def uJ(un:pD)(i:Nat):pD:=ja (A un:Int)::(un.take i).map ja
def tf(un:pD):pD:=ja (A un:Int)::un.map ja
def afb{un}{i:Nat}(h:i<=A un):A (uJ un i)=1+i:=by unfold uJ;rw[agM,List.length_map,afN];omega
def N5 un:uJ un (A un)=tf un:=by unfold uJ tf;rw[agW]
def sI un:A (tf un)=1+A un:=by unfold tf;rw[agM,List.length_map];omega
def Zw{un}{i:Nat}(h:i<A un):uJ un i++[ja (X un i 0)]=uJ un (i+1):=by unfold uJ;rw[List.cons_append,List.take_add_one,aaQ h,List.map_append,dh h];rfl
def anZ{n i:Nat}{un xs}(a:A xs=n)(h:i<A un):xs++uJ un i++[ja (X un i 0)]=xs++uJ un (i+1):=by rw[aeH,Zw h]
def Ay(un:pD):Bool:=un.all λu=>C (0<=u)&&C (u<=31)
def Zx{un}(h:Ay un=Z){i:Nat}(hi:i<A un):C (0<=X un i 0)=Z/\C (X un i 0<=31)=Z:=by have:=aaB.1 h (X un i 0) (by rw[dh hi];exact List.getElem_mem hi);simpa only[No] using this
section
variable {n c:Nat} {xs un:pD} {most:Int}
def Ee{i:Nat}(a:A xs=n)(hi:i<=A un):A (xs++uJ un i)=n+(1+i):=by rw[abA,a,afb hi]
def A0{i n':Nat}(d:Ay un=Z)(hi:i<A un){b}(f:b=Z):(aa (aa (aa (aa Z (C ((i:Int)<(A un:Int)))) (bC (i:Int) (A un))) (C (O (i:Int)<A un))) (aa Z (b&&C (0<=X un (O (i:Int)) 0)&&C (X un (O (i:Int)) 0<=31))))=Z:=by have⟨e,a⟩:=Zx d hi;rw[aaq,g8 hi,bW hi,Me hi,e,a,f];rfl
def an0(a:A xs=n)(f:Ay un=Z)(j:(A un:Int)<=most)(hc:n+(1+A un)<=c)(hn:n+(1+A un)<=2^38):
  ak Q 206 [.r5 0,.ro I .i64 un,.t6 most,.fn (.func 207) [] []] (nY n c xs I) (.bP []) (nY (n+(1+A un)) c (xs++tf un) I):=by
 refine ak.sW func206 rfl 2 0 (λi=>x7 un (i:Int) (nY (n+(1+i)) c (xs++uJ un i) I)) (A un)
  (λy s' g=>TrL.i6 (nW I []) (aar 2) (NX ..) (by rw[eO a (by show n+1<=2^38;omega) (by show n+1<=c;omega),Me j];rfl) (by decide) rfl g) (by decide) rfl
  (λi d=>?_) (s':=⟨ag 30 [(0,.r5 0)],nY (n+(1+A un)) c (xs++tf un) I,Z⟩) (x:=.normal) (v:=[]) ?_ ⟨rfl,rfl⟩ (.inr rfl) rfl
 ·have e:=ag4 un (n+(1+i)) c (xs++uJ un i) i;rw[aaq,dm (by omega),anZ a d,show n+(1+i)+1=n+(1+(i+1)) by omega] at e;exact Tr.bg (nW I [(18,Z)]) 60 _ 2 (aar 2) (s':=x7 un (i+1:Int) (nY (n+(1+(i+1))) c (xs++uJ un (i+1)) I)) _ e (Zv ..) (A0 (n':=0) f d (eO (m:=I) (ys:=[_]) (Ee a (by omega)) (by show n+(1+i)+1<=2^38;omega) (by show n+(1+i)+1<=c;omega)))
 ·rw[<-N5];exact Tr.i7 (nW I [(18,I)]) (aar 2) (N3 ..) (by rw[gV (aar _)];rfl)
def liG(un xs:pD)(n c i:Nat):St:=x7 un (i:Int) (if n+(1+i)<=c then nY (n+(1+i)) c (xs++uJ un i) I else HF (n+(1+i)) (xs++uJ un i) I)
def afc{i:Nat}(j:A xs=n)(s:Ay un=Z)(hi:i<A un)(hn:n+(1+A un)<=2^38):Tr Q Y 2 (aj (aj (aJ 2 liB))) (x7 un (i:Int) (HF (n+(1+i)) (xs++uJ un i) I)) .normal (x7 un ((i+1:Nat):Int) (HF (n+(1+(i+1))) (xs++uJ un (i+1)) I)):=by
 refine Tr.auK (b:=0) (pre:=[]) rfl λcc yD=>?_
 have d:=Ee (un:=un) (i:=i) j (by omega)
 have l:=anZ (un:=un) (i:=i) j hi
 by_cases hc:n+(1+i)+1<=cc
 ·have e:=av6 un (n+(1+i)) cc (xs++uJ un i) i
  rw[aaq,dm (by omega),l,show n+(1+i)+1=n+(1+(i+1)) by omega] at e
  refine Tr.post (Tr.bg (nW I [(18,Z)]) 60 _ 3 (by decide) (s':=x7 un (i+1:Int) (afa (n+(1+(i+1))) cc (xs++uJ un (i+1)) I)) _ e (anV ..) (A0 (n':=0) s hi (eO (m:=I) (ys:=[_]) d (by show n+(1+i)+1<=2^38;omega) hc))) ?_
  refine bG.tD ⟨⟨rfl,?_⟩,PE.refl _,PE.refl _,trivial⟩
  rintro e us ⟨y,zs,hy,hz,rfl⟩
  refine⟨y,zs,?_,hz,rfl⟩
  rcases hy with h|⟨p,u,a,v,h2,h3,h4,h5,r,h7⟩
  ·exact .inl ⟨h.1,h.1,h.2.2⟩
  ·exact .inr ⟨p,u,a,v,h2,h3,r,(by simp),r,h7⟩
 ·have e:=av7 un (n+(1+i)) cc (xs++uJ un i) i
  rw[aaq,dm (by omega),l,show n+(1+i)+1=n+(1+(i+1)) by omega] at e
  refine Tr.post (Tr.bg (nW Z [(18,Z)]) 60 _ 4 (by decide) (s':=x7 un (i+1:Int) [.b [.sl 3 0 0 1 (n+(1+(i+1))) (n+(1+(i+1))) I Z,.bool I],.b [],.b [],.b [.af .u8 (n+(1+(i+1))) (xs++uJ un (i+1))]]) _ e (anW ..) (A0 (n':=0) s hi (eO (m:=Z) (ys:=[_]) d (by show n+(1+i)+1<=2^38;omega) (by show cc<n+(1+i)+1;omega)))) ?_
  have q:=bG.Gp (k:=2) (t:=(x7 un (i+1:Int) []).t) (h:=[.b [.sl 3 0 0 1 (n+(1+(i+1))) (n+(1+(i+1))) I Z,.bool I],.b [],.b [],.b [.af .u8 (n+(1+(i+1))) (xs++uJ un (i+1))]]) (o:=Z) (o':=Z) 2 3 (aar _) (by decide) rfl rfl rfl
  exact(q.trans (bG.bR (s':=⟨(x7 un (i+1:Int) []).t,[.b [.sl 2 0 0 1 (n+(1+(i+1))) (n+(1+(i+1))) I Z,.bool I],.b [],.b [.af .u8 (n+(1+(i+1))) (xs++uJ un (i+1))],.b []],Z⟩) rfl rfl)).trans (bG.dS (n:=3) (by decide) rfl)
def an1(b:A xs=n)(k:Ay un=Z)(hm:(A un:Int)<=most)(hc:c<n+(1+A un))(hn:n+(1+A un)<=2^38):
  ak Q 206 [.r5 0,.ro I .i64 un,.t6 most,.fn (.func 207) [] []] (nY n c xs I) (.bP []) (HF (n+(1+A un)) (xs++tf un) I):=by
 refine ak.sW func206 rfl 2 0 (liG un xs n c) (A un)
  (λy s' g=>?_) (by decide) rfl
  (λi d=>?_) (s':=⟨ag 30 [(0,.r5 0)],HF (n+(1+A un)) (xs++tf un) I,Z⟩) ?_ ⟨rfl,rfl⟩ (.inr rfl) rfl
 ·by_cases j:n+1<=c
  ·refine TrL.i6 (s1:=x7 un (0:Int) (nY (n+(1+0)) c (xs++uJ un 0) I)) (nW I []) (aar 2) (NX ..) (by rw[eO b (by show n+1<=2^38;omega) j,Me hm];rfl) (by decide) rfl ?_;unfold liG at g;rwa [ae8 j] at g
  ·refine TrL.i6 (s1:=x7 un (0:Int) (HF (n+(1+0)) (xs++uJ un 0) I)) (nW Z []) (show 2<=3 by decide) (NY ..) (by rw[eO (m:=Z) (ys:=[ja (A un:Int)]) b (by show n+1<=2^38;omega) (by show c<n+1;omega),Me hm];rfl) (by decide) rfl ?_;unfold liG at g;rwa [acB j] at g
 ·unfold liG;have a:=Ee (un:=un) (i:=i) b (by omega);have l:=anZ (un:=un) (i:=i) b d;by_cases h2:n+(1+(i+1))<=c
  ·rw[ae8 h2,ae8 (by omega)];have e:=ag4 un (n+(1+i)) c (xs++uJ un i) i;rw[aaq,dm (by omega),l,show n+(1+i)+1=n+(1+(i+1)) by omega] at e;exact Tr.bg (nW I [(18,Z)]) 60 _ 2 (aar 2) (s':=x7 un (i+1:Int) (nY (n+(1+(i+1))) c (xs++uJ un (i+1)) I)) _ e (Zv un _ c _ i) (A0 (n':=0) k d (eO (m:=I) (ys:=[_]) a (by show n+(1+i)+1<=2^38;omega) (by show n+(1+i)+1<=c;omega)))
  ·rw[acB h2];by_cases h1:n+(1+i)<=c
   ·rw[ae8 h1];have e:=av5 un (n+(1+i)) c (xs++uJ un i) i;rw[aaq,dm (by omega),l,show n+(1+i)+1=n+(1+(i+1)) by omega] at e;exact Tr.bg (nW Z [(18,Z)]) 60 _ 3 (show 2<=3 by decide) (s':=x7 un (i+1:Int) (HF (n+(1+(i+1))) (xs++uJ un (i+1)) I)) _ e (anU un _ c _ i) (A0 (n':=0) k d (eO (m:=Z) (ys:=[_]) a (by show n+(1+i)+1<=2^38;omega) (by show c<n+(1+i)+1;omega)))
   ·rw[acB h1];exact afc b k d hn
 ·unfold liG;rw[acB (by omega), <-N5];exact Tr.i7 (nW I [(18,I)]) (show 2<=3 by decide) (N4 un _ _ (A un)) (by rw[gV (aar _)];rfl)
end
def awb(m:Bool):List SV->List Blk->Option (SV×List Blk×Bool)
 | [.aG 0 0 0,.ro I .i64 un,.int .i64 most,.fn (.func 207) [] []],[.b [.sl 1 0 0 1 n c Z Z,.bool I],.b [.af .u8 a xs]]=>E (.bP [],QI m n c xs (tf un) I,kY m n a c xs (tf un)&&Ay un&&C ((A un:Int)<=most))
 |_,_=>Y
def aDj(m:Bool):aK Q:=.mut 206 _ func206 (by decide) rfl xZ (nbM m) (awb m) λus i v j e=>by
 unfold awb at e
 split at e
 ·rename_i un most n c k xs
  simp only[Mf,aad,No,aac] at e
  have⟨rfl,rfl,⟨h,d⟩,f⟩:=e
  have⟨rfl,g,a,b⟩:=vX h
  rw[sI] at a b
  cases m
  ·have:=an0 g d f (by simpa using b) a
   unfold QI
   rw[sI];exact this
  ·have:=an1 g d f (by simpa using b) a
   unfold QI
   rw[sI];exact this
 ·cases e
def an2 nm(k s p un:pD):(aV Q (noL [(9,Z),(15,Z),(21,Z),(27,Z)]) 60 f202 [yl I nm k s p un] []).v3=E (.bool ((A un:Int)==0),aa (aa (aa (aa (aa (aa (aa Z (nm==0)) (C (A k=32))) (C (k=t9 32 0))) (C (A s=32))) (C (s=t9 32 0))) (C (A p=32))) (C (p=t9 32 0))):=by kernel_rfl
def wrB:Code:=aI f203
def Z6(un:pD)(i:Int):St:=⟨ag 24 [(0,.ro I .i64 un),(5,.t6 (A un)),(6,.t6 i)],[],Z⟩
def wrF(b:Bool):St:=⟨ag 24 [(2,.bool b)],[],Z⟩
def CF(un:pD):aD (az [0,5,6] 0 ((bh Q (noL []) 60 0 2 (aH wrB) ⟨aU f203.ntmps [.ro I .i64 un],[],Z⟩).x3))=(E (.normal,(Z6 un 0).t,[]),(Z)):=by kernel_rfl
def afd un:=bu (CF un)
def Zy un:=bz (CF un)
def ZA(un:pD) i:aD (az [0,5,6] 0 (exec Q (noL [(7,Z),(10,I)]) 60 0 (aj (aj (aJ 2 wrB))) (Z6 un i)))=(E (.normal,(Z6 un (i64.wrap (i+1))).t,[]),(aa (aa Z (C (i<(A un:Int)))) !C (i>0))):=by kernel_rfl
def aDk un i:=bu (ZA un i)
def awd un i:=bz (ZA un i)
def N6(un:pD) i:aD (az [0,5,6] 0 (exec Q (noL [(7,Z),(10,Z),(21,I)]) 60 0 (aj (aj (aJ 2 wrB))) (Z6 un i)))=(E (.normal,(Z6 un (i64.wrap (i+1))).t,[]),(aa (aa (aa (aa (aa (aa (aa Z (C (i<(A un:Int)))) (C (i>0))) (bC i (A un))) (C (O i<A un))) (bC (i64.wrap (i-1)) (A un))) (C (O (i64.wrap (i-1))<A un))) !C (X un (O i) 0<=X un (O (i64.wrap (i-1))) 0))):=by kernel_rfl
def awe un i:=bu (N6 un i)
def an3 un i:=bz (N6 un i)
def N7(un:pD) i:aD (az [2] 0 (exec Q (noL [(7,Z),(10,Z),(21,Z)]) 60 0 (aj (aj (aJ 2 wrB))) (Z6 un i)))=(E (.ret,(wrF I).t,[]),(aa (aa (aa (aa (aa (aa (aa Z (C (i<(A un:Int)))) (C (i>0))) (bC i (A un))) (C (O i<A un))) (bC (i64.wrap (i-1)) (A un))) (C (O (i64.wrap (i-1))<A un))) (C (X un (O i) 0<=X un (O (i64.wrap (i-1))) 0)))):=by kernel_rfl
def HG(un:pD) i:aD (az [] 0 (exec Q (noL [(7,I)]) 60 0 (aj (aj (aJ 2 wrB))) (Z6 un i)))=(E (.exit 0,ag 24 [],[]),(aa Z !C (i<(A un:Int)))):=by kernel_rfl
def wrJ(un:pD)(i:Nat):Bool:=!(C (i>0)&&C (X un i 0<=X un (i-1) 0))
theorem QJ{un}(h:A un<=274877906944):ak Q 203 [.ro I .i64 un] [] (.bool ((t8 (A un)).all (wrJ un))) []:=by
 have b:=ak.qD (h:=[]) (h':=[]) func203 rfl 2 0 (λj:Nat=>Z6 un j) (wrJ un) (A un)
  (λx s' g=>TrL.bY (uz []) 60 2 _ 0 (by simp) _ (afd un) (Zy un) rfl (by decide) rfl g) (by decide) (by kernel_rfl)
  (λi a f _=>?_) (λi=>wrF I) (λi=>[.bool I]) (λi a f _=>⟨?_,rfl,rfl⟩) (sE:=⟨ag 24 [],[],Z⟩) (A4:=wrF Z) (vE:=[.bool Z]) (xE:=.ret) (λ_=>?_) (λ_=>⟨?_,.inl rfl,rfl,rfl⟩)
 ·rw[de (g:=SV.bool) (vF:=λ_:Nat=>I) (vE:=Z)] at b
  have m:cR (wrJ un) (A un) (λ_=>I) Z=(t8 (A un)).all (wrJ un):=by
   unfold cR;rw[<-eS];cases cV _ _<;>rfl
  rw[m] at b;exact b
 ·by_cases h0:i=0
  ·subst h0
   have e:=aDk un ((0:Nat):Int)
   rw[dm (by omega)] at e
   exact Tr.bg (uz [(7,Z),(10,I)]) 60 _ 0 (aar _) (s':=Z6 un ((0+1:Nat):Int)) _ e (awd un _) (by rw[g8 a];rfl)
  ·have e:=awe un i
   rw[dm (by omega)] at e
   unfold wrJ at f
   rw[Me (by omega),af0] at f
   have d:i64.wrap ((i:Int)-1)=((i-1:Nat):Int):=by rw[dU (by omega) (by omega)];omega
   exact Tr.bg (uz [(7,Z),(10,Z),(21,I)]) 60 _ 0 (aar _) (s':=Z6 un ((i+1:Nat):Int)) _ e (an3 un _) (by rw[d,aaq,aaq,g8 a,bW a,bW (by omega),Me a,Me (show i-1<A un by omega),Me (show((i:Nat):Int)>0 by omega),f];rfl)
 ·unfold wrJ at f
  have l:i>0/\C (X un i 0<=X un (i-1) 0)=Z:=by simpa using f
  have d:i64.wrap ((i:Int)-1)=((i-1:Nat):Int):=by rw[dU (by omega) (by omega)];omega
  exact Tr.i7 (s':=wrF I) (uz [(7,Z),(10,Z),(21,Z)]) (aar _) (N7 un _) (by rw[d,aaq,aaq,g8 a,bW a,bW (show i-1<A un by omega),Me a,Me (show i-1<A un by omega),Me (show((i:Nat):Int)>0 by omega),l.2];rfl)
 ·exact Tr.i7 (s':=⟨ag 24 [],[],Z⟩) (uz [(7,I)]) (aar _) (HG un _) (by rw[gV (aar _)];rfl)
 ·exact TrL.rest (uz []) 60 (by kernel_rfl) rfl
def B5(un:pD):Bool:=(t8 (A un)).all λi=>!(C (i>0)&&C (X un i 0<=X un (i-1) 0))
def aDl:aK Q:=.val 203 _ func203 (by decide) rfl Z 0 (λvs=>match vs with
 | [.ro I .i64 un]=>E (.bool (B5 un),[],C (A un<=274877906944))
 |_=>Y) λvs v new e=>by
 split at e
 ·simp only[Mf,aad,aac] at e;have⟨rfl,rfl,h⟩:=e;exact QJ h
 ·cases e
def Ax(nm:Int)(k s p un:pD):Bool:=(nm==0)&&C (k=t9 32 0)&&C (s=t9 32 0)&&C (p=t9 32 0)&&C (A un=0)
def aDm:aK Q:=.val 202 _ func202 (by decide) rfl I 0 (λvs=>match vs with
 | [.agg [.bool I,.int .i64 nm,.af .u8 32 k,.af .u8 32 s,.af .u8 32 p,.ro f .i64 un]]=>E (.bool Z,[],Ax nm k s p un&&!f)
 |_=>Y) λvs v new e=>by
 split at e
 ·rename_i nm k s p f un
  simp only[Mf,aad,No,af9] at e
  obtain⟨rfl,rfl,h,rfl⟩:=e
  unfold Ax at h
  simp only[No,aac] at h
  obtain⟨⟨⟨⟨b,rfl⟩,rfl⟩,rfl⟩,a⟩:=h
  have q:=an2 nm (t9 32 0) (t9 32 0) (t9 32 0) un
  rw[a] at q
  refine aP (uz _) 60 func202 (q.trans ?_) rfl rfl
  rw[b];rfl
 ·cases e
def no0(l:List (Nat×Bool)):cu:=mk [av2,aDl,aDm] [] (uT l)
def ZB(l:List (Nat×Bool)):aq Q (no0 l):=au _ aN.nil _ _
def ZC(m:Bool)(l:List (Nat×Bool)):cu:=mk [aDe m,anQ m,aDj m] [] (uT l)
def kK(m:Bool)(l:List (Nat×Bool)):aq Q (ZC m l):=au _ aN.nil _ _
def CG:Code:=aI f164
section
variable (u:Bool) (nm:Int) (k s p un:pD)
abbrev N8:List SV:=[.bool u,.t6 nm,.t5 k,.t5 s,.t5 p,.ro I .i64 un]
def tF:List (Option SV):=ag 48 [(0,.r5 0),(3,.r5 1)]
def Ep(n:Nat)(xs:pD):St:=⟨tF,[.b [.sl 2 0 0 1 n n I Z,.bool I],.b (N8 u nm k s p un),.b [.af .u8 n xs]],Z⟩
def A1(n c:Nat)(xs:pD):St:=⟨tF,[.b [.sl 2 0 0 1 n c Z Z,.bool I],.b (N8 u nm k s p un),.b [.af .u8 n xs]],Z⟩
def Rj(n:Nat)(xs:pD):St:=⟨tF,[.b [.sl 3 0 0 1 n n I Z,.bool I],.b (N8 u nm k s p un),.b [],.b [.af .u8 n xs]],Z⟩
end
def N9 nm(k s p un:pD):aD (az [0,3] 4 ((bh Q (no0 [(20,I)]) 60 1 7 (aH CG) ⟨aU f164.ntmps [.r5 0,yl Z nm k s p un],[.b [.nl (.slice Y 0 0),.bool I]],Z⟩).x3))=(E (.normal,tF,[.b [.sl 3 0 0 1 1 1 I Z,.bool I],.b (N8 Z nm k s p un),.b [.af .u8 1 [1]],.b [.af .u8 1 [1]]]),(aa (aa Z (aa Z (C (A un<=274877906944)))) !!B5 un)):=by kernel_rfl
def Oa nm(k s p un:pD):aD (az [0,3] 4 ((bh Q (no0 [(20,I),(13,I)]) 60 1 7 (aH CG) ⟨aU f164.ntmps [.r5 0,yl I nm k s p un],[.b [.nl (.slice Y 0 0),.bool I]],Z⟩).x3))=(E (.normal,tF,[.b [.sl 3 0 0 1 1 1 I Z,.bool I],.b (N8 I nm k s p un),.b [.af .u8 1 [0]],.b [.af .u8 1 [0]]]),(aa (aa (aa Z (aa Z (Ax nm k s p un&&Z))) (aa Z (C (A un<=274877906944)))) !!B5 un)):=by kernel_rfl
def Ob u nm(k s p un:pD)(n c:Nat)(xs:pD):aD (az [0,3] 3 (exec Q (ZC I []) 60 1 (aJ 7 CG) (A1 u nm k s p un n c xs)))=(E (.normal,tF,(A1 u nm k s p un (n+1) c (xs++[ja nm])).h),(aa Z (aa Z (kY I n n c xs [ja nm]&&C (0<=nm)&&C (nm<=255))))):=by kernel_rfl
def Oc u nm(k s p un:pD)(n c:Nat)(xs:pD):aD (az [0,3] 4 (exec Q (ZC Z []) 60 1 (aJ 7 CG) (A1 u nm k s p un n c xs)))=(E (.normal,tF,(Rj u nm k s p un (n+1) (xs++[ja nm])).h),(aa Z (aa Z (kY Z n n c xs [ja nm]&&C (0<=nm)&&C (nm<=255))))):=by kernel_rfl
def Od u nm(k s p un:pD)(n c:Nat)(xs:pD):aD (az [0,3] 3 (exec Q (ZC I []) 60 1 (aJ 8 CG) (A1 u nm k s p un n c xs)))=(E (.normal,tF,(A1 u nm k s p un (n+A k) c (xs++k)).h),(aa Z (aa (aa Z (aa (C (A k=32)&&Z) (C (A k=32)))) (kY I n n c xs k)))):=by kernel_rfl
def Oe u nm(k s p un:pD)(n c:Nat)(xs:pD):aD (az [0,3] 4 (exec Q (ZC Z []) 60 1 (aJ 8 CG) (A1 u nm k s p un n c xs)))=(E (.normal,tF,(Rj u nm k s p un (n+A k) (xs++k)).h),(aa Z (aa (aa Z (aa (C (A k=32)&&Z) (C (A k=32)))) (kY Z n n c xs k)))):=by kernel_rfl
def Of u nm(k s p un:pD)(n c:Nat)(xs:pD):aD (az [0,3] 3 (exec Q (ZC I []) 60 1 (aJ 9 CG) (A1 u nm k s p un n c xs)))=(E (.normal,tF,(A1 u nm k s p un (n+A s) c (xs++s)).h),(aa Z (aa (aa Z (aa (C (A s=32)&&Z) (C (A s=32)))) (kY I n n c xs s)))):=by kernel_rfl
def Og u nm(k s p un:pD)(n c:Nat)(xs:pD):aD (az [0,3] 4 (exec Q (ZC Z []) 60 1 (aJ 9 CG) (A1 u nm k s p un n c xs)))=(E (.normal,tF,(Rj u nm k s p un (n+A s) (xs++s)).h),(aa Z (aa (aa Z (aa (C (A s=32)&&Z) (C (A s=32)))) (kY Z n n c xs s)))):=by kernel_rfl
def Oh u nm(k s p un:pD)(n c:Nat)(xs:pD):aD (az [0,3] 3 (exec Q (ZC I []) 60 1 (aJ 10 CG) (A1 u nm k s p un n c xs)))=(E (.normal,tF,(A1 u nm k s p un (n+A p) c (xs++p)).h),(aa Z (aa (aa Z (aa (C (A p=32)&&Z) (C (A p=32)))) (kY I n n c xs p)))):=by kernel_rfl
def Oi u nm(k s p un:pD)(n c:Nat)(xs:pD):aD (az [0,3] 4 (exec Q (ZC Z []) 60 1 (aJ 10 CG) (A1 u nm k s p un n c xs)))=(E (.normal,tF,(Rj u nm k s p un (n+A p) (xs++p)).h),(aa Z (aa (aa Z (aa (C (A p=32)&&Z) (C (A p=32)))) (kY Z n n c xs p)))):=by kernel_rfl
def Oj u nm(k s p un:pD)(n c:Nat)(xs:pD):aD (az [0,3] 3 (exec Q (ZC I []) 60 1 (aJ 11 CG) (A1 u nm k s p un n c xs)))=(E (.normal,tF,(A1 u nm k s p un (n+A (tf un)) c (xs++tf un)).h),(aa Z (aa Z (kY I n n c xs (tf un)&&Ay un&&C ((A un:Int)<=32))))):=by kernel_rfl
def Ok u nm(k s p un:pD)(n c:Nat)(xs:pD):aD (az [0,3] 4 (exec Q (ZC Z []) 60 1 (aJ 11 CG) (A1 u nm k s p un n c xs)))=(E (.normal,tF,(Rj u nm k s p un (n+A (tf un)) (xs++tf un)).h),(aa Z (aa Z (kY Z n n c xs (tf un)&&Ay un&&C ((A un:Int)<=32))))):=by kernel_rfl
def cW(u:Bool)(nm:Int)(k s p un:pD):pD:=(((([bif u then 1 else 0]++[ja nm])++k)++s)++p)++tf un
def bf(u:Bool)(nm:Int)(k s p un:pD):Bool:=C (A k=32)&&C (A s=32)&&C (A p=32)&&C (0<=nm)&&C (nm<=255)&&Ay un&&B5 un&&C (A un<=32)&&(u||Ax nm k s p un)
section
variable {u:Bool} {nm:Int} {k s p un:pD} {n:Nat} {xs ys:pD}
def vY{c}(hi:∀cc,n+A ys<=cc->Tr Q Y 1 c (A1 u nm k s p un n cc xs) .normal (A1 u nm k s p un (n+A ys) cc (xs++ys)))(hm:∀cc,cc<n+A ys->Tr Q Y 1 c (A1 u nm k s p un n cc xs) .normal (Rj u nm k s p un (n+A ys) (xs++ys))):
  Tr Q Y 1 c (Ep u nm k s p un n xs) .normal (Ep u nm k s p un (n+A ys) (xs++ys)):=by
 refine Tr.auK (b:=0) (pre:=[]) (wh:=Z) rfl λcc yD=>?_
 by_cases i:n+A ys<=cc
 ·refine Tr.post (hi cc i) ?_
  refine bG.tD ⟨⟨rfl,?_⟩,PE.refl _,PE.refl _,trivial⟩
  rintro e us ⟨y,l,m,r,rfl⟩
  refine⟨y,l,?_,r,rfl⟩
  rcases m with h|⟨p,j,a,v,h2,h3,h4,h5,f,g⟩
  ·exact .inl ⟨h.1,h.1,h.2.2⟩
  ·exact .inr ⟨p,j,a,v,h2,h3,f,(by simp),f,g⟩
 ·refine Tr.post (hm cc (by omega)) ?_
  have q:=bG.Gp (k:=1) (t:=tF) (h:=(Rj u nm k s p un (n+A ys) (xs++ys)).h) (o:=Z) (o':=Z) 2 3 (by decide) (by decide) rfl rfl rfl
  exact(q.trans (bG.bR (s':=⟨tF,[.b [.sl 2 0 0 1 (n+A ys) (n+A ys) I Z,.bool I],.b (N8 u nm k s p un),.b [.af .u8 (n+A ys) (xs++ys)],.b []],Z⟩) rfl rfl)).trans (bG.dS (n:=3) (by decide) rfl)
def aDo(c:A xs=n)(d:0<=nm)(h1:nm<=255)(e:n<=1000):Tr Q Y 1 (aJ 7 CG) (Ep u nm k s p un n xs) .normal (Ep u nm k s p un (n+ [ja nm].length) (xs++[ja nm])):=
 vY (λcc a=>Tr.i7 (kK I []) (by decide) (Ob ..) (by rw[eO c (by show n+1<=2^38;omega) a,Me d,Me h1];rfl))
  (λcc a=>Tr.i7 (kK Z []) (by decide) (Oc ..) (by rw[eO c (by show n+1<=2^38;omega) a,Me d,Me h1];rfl))
def aDp(c:A xs=n)(d:A k=32)(e:n<=1000):Tr Q Y 1 (aJ 8 CG) (Ep u nm k s p un n xs) .normal (Ep u nm k s p un (n+A k) (xs++k)):=
 vY (λcc a=>Tr.i7 (kK I []) (by decide) (Od ..) (by rw[eO c (by omega) a,Me d];rfl))
  (λcc a=>Tr.i7 (kK Z []) (by decide) (Oe ..) (by rw[eO c (by omega) a,Me d];rfl))
def aDq(c:A xs=n)(d:A s=32)(e:n<=1000):Tr Q Y 1 (aJ 9 CG) (Ep u nm k s p un n xs) .normal (Ep u nm k s p un (n+A s) (xs++s)):=
 vY (λcc a=>Tr.i7 (kK I []) (by decide) (Of ..) (by rw[eO c (by omega) a,Me d];rfl))
  (λcc a=>Tr.i7 (kK Z []) (by decide) (Og ..) (by rw[eO c (by omega) a,Me d];rfl))
def amJ(c:A xs=n)(d:A p=32)(e:n<=1000):Tr Q Y 1 (aJ 10 CG) (Ep u nm k s p un n xs) .normal (Ep u nm k s p un (n+A p) (xs++p)):=
 vY (λcc a=>Tr.i7 (kK I []) (by decide) (Oh ..) (by rw[eO c (by omega) a,Me d];rfl))
  (λcc a=>Tr.i7 (kK Z []) (by decide) (Oi ..) (by rw[eO c (by omega) a,Me d];rfl))
def amK(c:A xs=n)(d:Ay un=Z)(f:A un<=32)(g:n<=1000):Tr Q Y 1 (aJ 11 CG) (Ep u nm k s p un n xs) .normal (Ep u nm k s p un (n+A (tf un)) (xs++tf un)):=by
 have e:=sI un;exact vY (λcc a=>Tr.i7 (kK I []) (by decide) (Oj ..) (by rw[eO c (by omega) a,d,Me (show(A un:Int)<=32 by omega)];rfl))
  (λcc a=>Tr.i7 (kK Z []) (by decide) (Ok ..) (by rw[eO c (by omega) a,d,Me (show(A un:Int)<=32 by omega)];rfl))
def w9(b:A k=32)(c:A s=32)(a:A p=32):A (cW u nm k s p un)=1+1+32+32+32+(1+A un):=by unfold cW;simp only[abA,b,c,a,sI,agM,List.length_nil]
def HH{x}{h2:List Blk}{y s'}(g:TrL Q Y 1 ((aH CG).drop 7) (Ep u nm k s p un 1 [x]) y s'):TrL Q Y 1 ((aH CG).drop 7) ⟨tF,[.b [.sl 3 0 0 1 1 1 I Z,.bool I],.b (N8 u nm k s p un),.b [.af .u8 1 [x]],.b [.af .u8 1 [x]]],Z⟩ y s':=by refine TrL.pre g ?_ (by intro q;cases q);have q:=bG.Gp (k:=1) (t:=tF) (h:=[.b [.sl 3 0 0 1 1 1 I Z,.bool I],.b (N8 u nm k s p un),.b [.af .u8 1 [x]],.b [.af .u8 1 [x]]]) (o:=Z) (o':=Z) 2 3 (by decide) (by decide) rfl rfl rfl;exact(q.trans (bG.bR (s':=⟨tF,[.b [.sl 2 0 0 1 1 1 I Z,.bool I],.b (N8 u nm k s p un),.b [.af .u8 1 [x]],.b [.af .u8 1 [x]]],Z⟩) rfl rfl)).trans (bG.dS (n:=3) (by decide) rfl)
def aff(h:bf u nm k s p un=Z):ak Q 164 [.r5 0,yl u nm k s p un] [.b [.nl (.slice Y 0 0),.bool I]] (.bP []) [.b [.sl 1 0 0 1 (A (cW u nm k s p un)) (A (cW u nm k s p un)) I Z,.bool I],.b [.af .u8 (A (cW u nm k s p un)) (cW u nm k s p un)]]:=by
 unfold bf at h
 simp only[No,aac] at h
 have⟨⟨⟨⟨⟨⟨⟨⟨a,c⟩,d⟩,h0⟩,l⟩,hu⟩,e⟩,hl⟩,i⟩:=h
 have f:A (cW u nm k s p un)=1+ [ja nm].length+A k+A s+A p+A (tf un):=by
  rw[w9 a c d,a,c,d,sI];rfl
 have g:ak Q 164 [.r5 0,yl u nm k s p un] [.b [.nl (.slice Y 0 0),.bool I]] (.bP []) (Ep u nm k s p un (1+ [ja nm].length+A k+A s+A p+A (tf un)) (cW u nm k s p un)).h:=by
  refine ak.mk func164 rfl ?_ (.inr rfl) rfl
  have tail:TrL Q Y 1 ((aH CG).drop 7) (Ep u nm k s p un 1 [bif u then 1 else 0]) .normal (Ep u nm k s p un (1+ [ja nm].length+A k+A s+A p+A (tf un)) (cW u nm k s p un)):=by
   have l1:[ja nm].length=1:=rfl
   refine TrL.dV 7 (by decide) (aDo rfl h0 l (by decide)) ?_
   refine TrL.dV 8 (by decide) (aDp rfl a (by simp)) ?_
   refine TrL.dV 9 (by decide) (aDq (by simp[a]) c (by omega)) ?_
   refine TrL.dV 10 (by decide) (amJ (by simp[a,c]) d (by omega)) ?_
   exact TrL.dV 11 (by decide) (amK (by simp[a,c,d]) hu hl (by omega)) (TrL.nil rfl)
  cases u with
  |true=>exact TrL.i6 (ZB [(20,I)]) (by decide) (N9 ..) (by rw[e,Me (by omega)];rfl) (by decide) rfl (HH (h2:=[]) tail)
  |false=>exact TrL.i6 (s1:=⟨tF,[.b [.sl 3 0 0 1 1 1 I Z,.bool I],.b (N8 I nm k s p un),.b [.af .u8 1 [0]],.b [.af .u8 1 [0]]],Z⟩) (ZB [(20,I),(13,I)]) (by decide) (Oa ..) (by rw[e,show Ax nm k s p un=Z by simpa using i,Me (by omega)];rfl) (by decide) rfl (HH (h2:=[]) tail)
 rw[<-f] at g
 refine g.post ?_
 have q:=bG.Gp (k:=1) (t:=[E (.bP [])]) (h:=(Ep u nm k s p un (A (cW u nm k s p un)) (cW u nm k s p un)).h) (o:=Z) (o':=Z) 1 2 (by decide) (by decide) rfl rfl rfl
 exact(q.trans (bG.bR (s':=⟨[E (.bP [])],[.b [.sl 1 0 0 1 (A (cW u nm k s p un)) (A (cW u nm k s p un)) I Z,.bool I],.b [.af .u8 (A (cW u nm k s p un)) (cW u nm k s p un)],.b (N8 u nm k s p un)],Z⟩) rfl rfl)).trans (bG.dS (n:=2) (by decide) rfl)
end
def aDr:aK Q:=.mut 164 _ func164 (by decide) rfl xZ 1 (λus a=>match us,a with
 | [.aG 0 0 0,.agg [.bool u,.int .i64 nm,.af .u8 32 k,.af .u8 32 s,.af .u8 32 p,.ro I .i64 un]],[.b [.nl (.slice Y 0 0),.bool I]]=>E (.bP [],[.b [.sl 1 0 0 1 (A (cW u nm k s p un)) (A (cW u nm k s p un)) I Z,.bool I],.b [.af .u8 (A (cW u nm k s p un)) (cW u nm k s p un)]],bf u nm k s p un)
 |_,_=>Y) λus a v d e=>by
 split at e
 ·simp only[Mf,aad] at e;have⟨rfl,rfl,h⟩:=e;exact aff h
 ·cases e
def ag5:List (FuncId×Func):=[(165,f165)]
def ZD:aN Q ag5:=aN.cons func165 (by decide) aN.nil
def ptC(l:List (Nat×Bool)):cu:=mk [aDr] ag5 (uT l)
def aoi l:aq Q (ptC l):=au _ ZD _ _
def aoj(u:Bool) nm(k s p un:pD):(aV Q (ptC [(14,I)]) 60 f118 [yl u nm k s p un] [])=E (.bP [.sl 2 0 0 1 (A (cW u nm k s p un)) (A (cW u nm k s p un)) I Z,.nl .nilIface],[.b (N8 u nm k s p un),.b [.sl 2 0 0 1 (A (cW u nm k s p un)) (A (cW u nm k s p un)) I Z,.bool I],.b [.af .u8 (A (cW u nm k s p un)) (cW u nm k s p un)]],aa (aa Z (aa Z (bf u nm k s p un))) (aa Z !C ((A (cW u nm k s p un):Int)>65536))):=by kernel_rfl
def Av{u nm}{k s p un:pD}(h:bf u nm k s p un=Z):ak Q 118 [yl u nm k s p un] [] (.bP [.ro Z .u8 (cW u nm k s p un),.nl .nilIface]) []:=by
 have hL:A (cW u nm k s p un)<=200:=by have h':=h;unfold bf at h';simp only[No,aac] at h';have⟨⟨⟨⟨⟨⟨⟨⟨d,f⟩,e⟩,h0⟩,h1⟩,hu⟩,i⟩,hl⟩,j⟩:=h';rw[w9 d f e];omega
 have g:=ak.bZ (aoi [(14,I)]) func118 ((aoj u nm k s p un).trans (by rw[h,aaS (show¬(A (cW u nm k s p un):Int)>65536 by omega)];rfl))
 have c:=g.yY [2] rfl;generalize cW u nm k s p un=l at c;exact ak.fz 0 0 (by simp) (by simp) c (p:=aa (C (A l=A l)) (([E (SV.bP [.sl 0 0 0 1 (A l) (A l) I Z,.nl .nilIface])]:List (Option SV)).all λo=>match o with|some v=>qp 0 (A l) v|none=>Z)) rfl (by simp[qp,qk,aa])
def Gb:aK Q:=.val 118 _ func118 (by decide) rfl Z 0 (λvs=>match vs with
 | [.agg [.bool u,.int .i64 nm,.af .u8 32 k,.af .u8 32 s,.af .u8 32 p,.ro I .i64 un]]=>E (.bP [.ro Z .u8 (cW u nm k s p un),.nl .nilIface],[],bf u nm k s p un)
 |_=>Y) λvs v new e=>by
 split at e
 ·simp only[Mf,aad] at e;have⟨rfl,rfl,h⟩:=e;exact Av h
 ·cases e
end Wi
end Go.Proofs.YthlnlcijnoadcaaGreatDoor
namespace Go.Sy
section
variable {P:Program} {ro:Option Nat} {k:Nat} {e:cw} {B:dj} {h:List Blk} {w:World}
def bG.ace{t o o' b N n K l}(p:h[b]?=E (.b [.af K N l]))(a:n<=N):bG k ⟨t,h,o⟩ ⟨t,h.set b (.b [.af K n (l.take n)]),o'⟩:=λB e w s hB i R=>by refine⟨e,rfl,i,R.Iz p (λp o _ _ q=>?_) (λq=>by simp only[aC,kf] at q ⊢;omega)⟩;obtain⟨c,t,rfl,j,m,g⟩:=q;refine⟨c,t,rfl,j,by simp only[aC,kf] at m ⊢;omega,?_⟩;have⟨r,f,d⟩:=g;rw[PR] at f;subst f;refine⟨[],rfl,?_⟩;simp only[aC,kf,ajf,acj] at d ⊢;have:=ahV (List.take n) d;rw[ahy,agK a] at this;rw[this,qJ a,dW]
def OX.akc{ops i dst s c ty el x b m len cap ex wh xs}(hi:(ops[i]?).map (λo=>(o.dst,o.op))=E (dst,.call c))(T:(ops[i]?).bind (eC ops s.t)=E Z)
  (hc:c.callee=.builtin .clear/\c.argTypes= #[ty]/\c.args= #[x])(U:P.underlying ty=E (.slice el))(hz:gw P el=E (.t6 0))(hx:ev s.t x=E (.sl b 0 m 1 len cap ex wh))(Q:s.h[b]?=E (.b [.af .i64 m xs]))(hl:A xs=m):
  OX P ro k ops [i] s (λ_ _ _=>True) ⟨bK s.t dst (.bP []),s.h,s.ob⟩ (λ_ _ _=>True):=by
 have⟨o,g,T⟩:=acU.1 T
 rw[g] at hi
 simp only[acs,Mf,aad] at hi
 have⟨rfl,V⟩:=hi
 have⟨Eg,OC,M⟩:=hc
 refine OX.op g (by rw[V];simp) T λB e w G d K R _=>?_
 have e1:=aT (d:=d) K hx
 have u:∀v(y:World),Act.eval ⟨⟨G⟩,d⟩ x=v->(Builtin.clear_ #[ty] o.type #[v]).run P w=.ok (.tuple #[]) y->(execOp (Act.eval ⟨⟨G⟩,d⟩) o).run P w=.ok (.value (.tuple #[])) y:=λv y l hr=>by
  have ha:(#[v]:Array Value)=c.args.map (Act.eval ⟨⟨G⟩,d⟩):=by rw[M, <-l];simp
  rw[jc Eg ha V,OC]
  show((do pure (.value (<-Builtin.clear_ #[ty] o.type #[v])):Sem Next)).run P w=_
  simp[hr]
 have zero:∀(a:Option Addr)(cp:Nat),Act.eval ⟨⟨G⟩,d⟩ x=.slice a 0 cp->∃v' y,(execOp (Act.eval ⟨⟨G⟩,d⟩) o).run P w=.ok (.value v') y/\VR e (.bP []) v'/\bM B e s.h y/\True:=λa cp l=>by
  refine⟨.tuple #[],w,u _ _ l ?_,⟨[],rfl,rfl⟩,R,trivial⟩
  cases a<;>simp[Builtin.clear_,abF U]
 rcases e1 with⟨H,_,a,l⟩|⟨p,z,a,S,l,g2,g3,_,g5,g6⟩
 ·subst H;exact zero _ _ l
 ·by_cases H:len=0
  ·subst H;exact zero _ _ l
  ·have F:z≠0:=by omega
   have ha:=g2 F
   have hf:=g6 F
   rcases R.gr b _ Q with⟨_,D⟩|⟨p',o',q1,D,r,tt,rfl,q3,q4,q5⟩
   ·rw[S] at D;cases D
   rw[S] at q1;cases q1
   simp only[aC,kf] at q4
   have L:=run_storeCells_at P p.n a tt (t9 len (Value.int .i64 0)) 0 r w D (by simp;omega) (λv l=>by rw[List.eq_of_mem_replicate l];rfl)
   have N:(Builtin.zeroCells (Value.int .i64 0).cells len).toList=t9 len (Value.int .i64 0):=by
    show(Builtin.zeroCells #[Value.int .i64 0] len).toList=_
    simp[Builtin.zeroCells]
    apply List.ext_getElem
    ·simp
    ·intro i h1 h2;simp[Nat.mod_one]
   refine⟨.tuple #[],w.setRow p.n (r.toList.take (a+0)++t9 len (Value.int .i64 0)++r.toList.drop (a+0+A (t9 len (Value.int .i64 0)))).toArray,u _ _ l ?_,⟨[],rfl,rfl⟩,?_,trivial⟩
   ·obtain⟨len',rfl⟩:∃q,len=q+1:=⟨len-1,by omega⟩
    simp[Builtin.clear_,abF U,g9 hz w,N,L]
   ·have J:=R.setBlock (ps':=[.af .i64 m xs]) (c':=(r.toList.take (a+0)++t9 len (Value.int .i64 0)++r.toList.drop (a+0+A (t9 len (Value.int .i64 0)))).toArray) S D (by simp;omega) (λj g=>?_) (by simp only[aC,kf];omega) ?_
    ·rwa [show s.h.set b (.b [.af .i64 m xs])=s.h from by
      apply agh
      intro j
      by_cases g:b=j
      ·subst g;rw[acg (aaR.1 Q).1,Q]
      ·rw[abI g]] at J
    ·rw[ahF,ajf]
     rcases agP j a with h|h
     ·rw[aeH,afy (by simp;omega),af1,ae8 h];simp
     ·rw[afE (by simp;omega),afO]
      have:a+A (t9 len (Value.int .i64 0))+(j-A (List.take a r.toList++t9 len (Value.int .i64 0)))=j:=by simp;omega
      rw[this];simp
    ·simp only[aC,kf] at q5 ⊢
     rw[show((r.toList.take (a+0)++t9 len (Value.int .i64 0)++r.toList.drop (a+0+A (t9 len (Value.int .i64 0)))).drop p.base).take (m+0)=(r.toList.drop p.base).take (m+0) from ?_]
     ·exact q5
     ·apply agh
      intro j
      rw[af1,af1]
      by_cases g:j<m+0
      ·rw[ae8 g,ae8 g,afO,afO,aeH,afy (by simp;omega),af1,ae8 (by omega)]
      ·rw[acB g,acB g]
def LY(o:Oper):Option (Option Tmp×Callee×Array TypeId×Array Operand):=match o.op with
 | .call c=>E (o.dst,c.callee,c.argTypes,c.args)
 |_=>Y
def OX.clear{ops i dst s ty el x b m len cap ex wh xs}(hi:(ops[i]?).bind LY=E (dst,.builtin .clear,#[ty],#[x]))(p:(ops[i]?).bind (eC ops s.t)=E Z)
  (d:P.underlying ty=E (.slice el))(l:gw P el=E (.t6 0))(f:ev s.t x=E (.sl b 0 m 1 len cap ex wh))(r:s.h[b]?=E (.b [.af .i64 m xs]))(g:A xs=m):
  OX P ro k ops [i] s (λ_ _ _=>True) ⟨bK s.t dst (.bP []),s.h,s.ob⟩ (λ_ _ _=>True):=by
 have⟨o,j,a⟩:=acU.1 hi
 unfold LY at a
 split at a
 ·rename_i c n
  simp only[Mf,aad] at a
  have⟨rfl,q⟩:=a
  exact OX.akc (by rw[j,acs,n]) p q d l f r g
 ·cases a
end
end Go.Sy
namespace Go.Proofs.YthlnlcijnoadcaaGreatDoor
namespace Mk
open Sy Tr Wi
def PT{xs}(h:A xs<=274877906944):ak Q 120 [.ro I .i64 xs] [] (.sl 0 0 0 1 (A xs) (A xs) I Z) [.b [.af .i64 (A xs) xs]]:=by
 refine ak.akd (λh0=>?_) (λhx=>?_) (λhx a c=>?_)
 ·have k:=aAC xs
  rw[af8,Me h0,Me (by omega)] at k
  exact ak.bZ nK func120 k
 ·subst hx
  exact ak.rz (ak.bZ nK func120 (aAD ())) .i64 I Z
 ·subst hx
  exact ak.bZ nK func120 (aAE a c)
def acf:aK Q:=.val 120 _ func120 (by decide) rfl Z 1 (λvs=>match vs with
 | [.ro I .i64 a]=>E (.sl 0 0 0 1 (A a) (A a) I Z,[.b [.af .i64 (A a) a]],C (A a<=274877906944))
 |_=>Y) λvs v new e=>by
 split at e
 ·simp only[Mf,aad,aac] at e;have⟨rfl,rfl,h⟩:=e;exact PT h
 ·cases e
def VV:List (FuncId×Func):=[(121,f121)]
def F9:aN Q VV:=aN.cons func121 (by decide) aN.nil
def VW(l:List (Nat×Bool)):cu:=mk [l7] VV (uT l)
def mM l:aq Q (VW l):=au _ F9 _ _
def ixB:Code:=aI f160
abbrev fnD:SV:=.fn (.func 121) [] [.r5 1]
abbrev qo(n:Nat)(xs wo:pD):List Blk:=[.b [.af .i64 n xs],.b [.ro I .i64 wo]]
def HR(n:Nat)(xs wo:pD)(i:Int):St:=⟨ag 19 [(0,.sl 0 0 0 1 n n I Z),(1,fnD),(7,.t6 n),(8,.t6 i)],qo n xs wo,Z⟩
def ixF(n:Nat)(xs wo:pD)(i:Int):St:=⟨ag 19 [(4,.t6 i)],qo n xs wo,Z⟩
def B1 n xs wo:aD (az [0,1,7,8] 2 ((bh Q (VW []) 60 2 2 (aH ixB) ⟨aU f160.ntmps [.sl 0 0 0 1 n n I Z,fnD],qo n xs wo,Z⟩).x3))=(E (.normal,(HR n xs wo 0).t,qo n xs wo),(Z)):=by kernel_rfl
def DM n xs wo:=bu (B1 n xs wo)
def LZ n xs wo(i:Int):aD (az [0,1,7,8] 2 (exec Q (VW [(9,Z),(16,I)]) 60 2 (aj (aj (aJ 2 ixB))) (HR n xs wo i)))=(E (.normal,(HR n xs wo (i64.wrap (i+1))).t,qo n xs wo),(aa (aa (aa (aa (aa Z (C (i<(n:Int)))) (bC i n)) (C (0+O i<n))) (aa Z (aa Z (C (A wo<=274877906944))))) !fy wo (X xs (0+O i) 0))):=by kernel_rfl
def asP n xs wo i:=bu (LZ n xs wo i)
def ake n xs wo i:=bz (LZ n xs wo i)
def rD n xs wo(i:Int):aD (az [4] 2 (exec Q (VW [(9,Z),(16,Z)]) 60 2 (aj (aj (aJ 2 ixB))) (HR n xs wo i)))=(E (.ret,(ixF n xs wo i).t,qo n xs wo),(aa (aa (aa (aa (aa Z (C (i<(n:Int)))) (bC i n)) (C (0+O i<n))) (aa Z (aa Z (C (A wo<=274877906944))))) (fy wo (X xs (0+O i) 0)))):=by kernel_rfl
def Jq n xs wo i:=bu (rD n xs wo i)
def DN n xs wo i:=bz (rD n xs wo i)
def rE n xs wo(i:Int):aD (az [] 2 (exec Q (VW [(9,I)]) 60 2 (aj (aj (aJ 2 ixB))) (HR n xs wo i)))=(E (.exit 0,ag 19 [],qo n xs wo),(aa Z !C (i<(n:Int)))):=by kernel_rfl
def Jr n xs wo i:=bu (rE n xs wo i)
def DO n xs wo i:=bz (rE n xs wo i)
section
variable {n:Nat} {xs wo:pD}
def Au(hl:A xs=n)(hn:n<=274877906944)(hw:A wo<=274877906944):ak Q 160 [.sl 0 0 0 1 n n I Z,fnD] (qo n xs wo) (.t6 (cR (λi=>!fy wo (X xs i 0)) n (λi=>(i:Int)) (-1))) (qo n xs wo):=by
 have b:=Me hw
 have c:=ak.qD (h:=qo n xs wo) (h':=qo n xs wo) func160 rfl 2 0 (λj:Nat=>HR n xs wo (j:Int)) (λi=>!fy wo (X xs i 0)) n
  (λx s' g=>TrL.i6 (s1:=HR n xs wo (0:Int)) (mM []) (aar 2) (B1 ..) rfl (by decide) rfl g) (by decide) rfl
  (λi a l _=>?_) (λi=>ixF n xs wo (i:Int)) (λi=>[.t6 (i:Int)]) (λi a l _=>⟨?_,rfl,rfl⟩) (sE:=⟨ag 19 [],qo n xs wo,Z⟩) (A4:=ixF n xs wo (-1)) (vE:=[.t6 (-1)]) (xE:=.ret) (λ_=>?_) (λ_=>⟨?_,.inl rfl,rfl,rfl⟩)
 ·rw[de (g:=SV.int .i64) (vF:=λi:Nat=>(i:Int)) (vE:=-1)] at c
  exact c
 ·have e:=asP n xs wo i
  rw[dm (by omega)] at e
  exact Tr.bg (mM [(9,Z),(16,I)]) 60 _ 2 (aar 2) (s':=HR n xs wo ((i+1:Nat):Int)) _ e (ake ..) (by rw[g8 a,bW a,aaq,af8,Me a,b,l];rfl)
 ·have d:fy wo (X xs i 0)=Z:=by simpa using l
  exact Tr.i7 (s':=ixF n xs wo (i:Int)) (mM [(9,Z),(16,Z)]) (aar 2) (rD ..) (by rw[g8 a,bW a,aaq,af8,Me a,b,d];rfl)
 ·exact Tr.i7 (s':=⟨ag 19 [],qo n xs wo,Z⟩) (mM [(9,I)]) (aar 2) (rE ..) (by rw[gV (aar _)];rfl)
 ·exact TrL.rest (mM []) 60 rfl rfl
end
def L0:List SV->List Blk->List Nat
 | [.sl b _ _ _ _ _ _ _,.fn _ _ [.aG c _ _]],_=>[b,c]
 |_,_=>[]
def aci:aK Q:=.mut 160 _ func160 (by decide) rfl L0 0 (λus a=>match us,a with
 | [.sl 0 0 0 1 n d I Z,.fn (.func 121) [] [.aG 1 0 0]],[.b [.af .i64 f xs],.b [.ro I .i64 wo]]=>E (.t6 (cR (λi=>!fy wo (X xs i 0)) n (λi=>(i:Int)) (-1)),qo n xs wo,C (n=d)&&C (n=f)&&C (A xs=n)&&C (n<=274877906944)&&C (A wo<=274877906944))
 |_,_=>Y) λus a v l e=>by
 split at e
 ·simp only[Mf,aad,No,aac] at e;have⟨rfl,rfl,⟨⟨⟨rfl,rfl⟩,g⟩,h4⟩,c⟩:=e;exact Au g h4 c
 ·cases e
def VY(l:List (Nat×Bool)):cu:=mk [l7,aci] VV (uT l)
def uj(l:List (Nat×Bool)):aq Q (VY l):=au _ F9 _ _
def dlB:Code:=aI f110
abbrev ixV(n:Nat)(xs wo:pD):Int:=cR (λi=>!fy wo (X xs i 0)) n (λi=>(i:Int)) (-1)
def ZX(n:Nat)(ys wo:pD)(i j:Int):St:=⟨ag 42 [(0,.sl 0 0 0 1 n n I Z),(1,fnD),(5,.t6 i),(6,.t6 j)],qo n ys wo,Z⟩
def VZ n xs wo:aD (az [0,1,5,6] 2 ((bh Q (VY [(12,I)]) 60 2 5 (aH dlB) ⟨aU f110.ntmps [.sl 0 0 0 1 n n I Z,fnD],qo n xs wo,Z⟩).x3))=(E (.normal,(ZX n xs wo (ixV n xs wo) (i64.wrap (ixV n xs wo+1))).t,qo n xs wo),(aa (aa Z (aa Z (C (n=n)&&C (n=n)&&C (A xs=n)&&C (n<=274877906944)&&C (A wo<=274877906944)))) !cR (λi=>!fy wo (X xs i 0)) n (λi=>(i:Int)) (-1)==-1)):=by kernel_rfl
def aAF n xs wo:=bu (VZ n xs wo)
def asQ n xs wo:=bz (VZ n xs wo)
def V0 n xs wo:aD (az [4] 2 (eM Q (VY [(12,Z)]) 60 2 (aH dlB) ⟨aU f110.ntmps [.sl 0 0 0 1 n n I Z,fnD],qo n xs wo,Z⟩))=(E (.ret,ag 42 [(4,.sl 0 0 0 1 n n I Z)],qo n xs wo),(aa (aa Z (aa Z (C (n=n)&&C (n=n)&&C (A xs=n)&&C (n<=274877906944)&&C (A wo<=274877906944)))) (cR (λi=>!fy wo (X xs i 0)) n (λi=>(i:Int)) (-1)==-1))):=by kernel_rfl
def L3 n ys wo(i j:Int):aD (az [0,1,5,6] 2 (exec Q (VY [(19,Z),(28,I)]) 60 2 (aj (aj (aJ 5 dlB))) (ZX n ys wo i j)))=(E (.normal,(ZX n ys wo (i64.wrap (i+1)) (i64.wrap (j+1))).t,qo n (ys.set (0+O i) (X ys (0+O j) 0)) wo),(aa (aa (aa (aa (aa (aa (aa Z (C (j<(n:Int)))) (bC j n)) (C (0+O j<n))) (aa Z (aa Z (C (A wo<=274877906944))))) !fy wo (X ys (0+O j) 0)) (bC i n)) (C (0+O i<n)&&C (A ys=n)))):=by kernel_rfl
def asS n ys wo i j:=bu (L3 n ys wo i j)
def akf n ys wo i j:=bz (L3 n ys wo i j)
def L5 n ys wo(i j:Int):aD (az [0,1,5,6] 2 (exec Q (VY [(19,Z),(28,Z)]) 60 2 (aj (aj (aJ 5 dlB))) (ZX n ys wo i j)))=(E (.normal,(ZX n ys wo i (i64.wrap (j+1))).t,qo n ys wo),(aa (aa (aa (aa (aa Z (C (j<(n:Int)))) (bC j n)) (C (0+O j<n))) (aa Z (aa Z (C (A wo<=274877906944))))) (fy wo (X ys (0+O j) 0)))):=by kernel_rfl
def asT n ys wo i j:=bu (L5 n ys wo i j)
def akg n ys wo i j:=bz (L5 n ys wo i j)
def V1 n ys wo(i j:Int):aD (az [0,5] 2 (exec Q (VY [(19,I)]) 60 2 (aj (aj (aJ 5 dlB))) (ZX n ys wo i j)))=(E (.exit 0,ag 42 [(0,.sl 0 0 0 1 n n I Z),(5,.t6 i)],qo n ys wo),(aa Z !C (j<(n:Int)))):=by kernel_rfl
def aAH n ys wo i j:=bu (V1 n ys wo i j)
def asU n ys wo i j:=bz (V1 n ys wo i j)
def V2 n m ys wo(i:Int):aD (az [0,5,38] 2 ((cg Q (c7 Q (VY []) λk=>Sy.exec Q (VY []) 60 k) (VY []).sym (VY []).eZ 2 (bO (aJ 6 dlB)) [0,1,2] ⟨ag 42 [(0,.sl 0 0 0 1 n n I Z),(5,.t6 i)],qo m ys wo,Z⟩).x3))=(E (.normal,ag 42 [(0,.sl 0 0 0 1 n n I Z),(5,.t6 i),(38,.sl 0 0 (0+O i) 1 (n-O i) (n-O i) I I)],qo m ys wo),(aa Z (aa Z (aa Z (C (0<=i)&&C (i<=(n:Int))))))):=by kernel_rfl
def aAI n m ys wo i:=bu (V2 n m ys wo i)
def asV n m ys wo i:=bz (V2 n m ys wo i)
def V3 n m ys wo(i:Int):aD (az [4] 2 (eM Q (VY []) 60 2 ((aH dlB).drop 7) ⟨ag 42 [(0,.sl 0 0 0 1 n n I Z),(5,.t6 i)],qo m ys wo,Z⟩))=(E (.ret,ag 42 [(4,.sl 0 0 0 1 (O i) n I I)],qo m ys wo),(aa Z (aa Z (C (0<=i)&&C (i<=((n):Int)))))):=by kernel_rfl
def aAJ n m ys wo i:=bu (V3 n m ys wo i)
def asW n m ys wo i:=bz (V3 n m ys wo i)
def TrL.post{P ro k}:∀{l}{s s1 s'}{x},TrL P ro k l s x s1->bG k s1 s'->l≠[]->TrL P ro k l s x s'
 | [],_,_,_,_,_,_,h=>absurd rfl h
 | [_],_,_,_,_,.inl ⟨_,a,b,f⟩,g,_=>.inl ⟨_,a.post (f▸g),b,rfl⟩
 |_::_::_,_,_,_,_,.inl ⟨d,a,b⟩,g,_=>.inl ⟨d,a,TrL.post b g (by simp)⟩
 |_::_,_,_,_,_,.inr ⟨c,a⟩,g,_=>.inr ⟨c,a.post g⟩
def TrL.qz{P ro k Γ}(g:aq P Γ) n live m(i:k<=m){l s s' x} ob(e:jd (az live m (eM P Γ n k l s))=E (x,s'.t,s'.h))(b:uF (az live m (eM P Γ n k l s))=ob)(h:ob=Z)(f:l≠[]):TrL P ro k l s x s':=by unfold jd az at e;unfold uF az at b;cases c:eM P Γ n k l s with
 |none=>rw[c] at e;cases e
 |some q=>
  have⟨y,q⟩:=q
  rw[c] at e b
  simp only[ajZ] at e b
  cases a:q.cut live m with
  |none=>rw[a] at e;cases e
  |some p=>
   rw[a] at e b
   simp only[acs,Mf,aad] at e b
   have⟨rfl,j,d⟩:=e
   have o:q.ob=Z:=by
    unfold St.cut St.dS at a
    split at a
    ·cases a;exact b.trans h
    ·cases a
   exact TrL.post (TrL.rest g n c o) ((bG.cut i a).trans (bG.bR j d)) f
theorem TrL.i8{P ro k Γ}(g:aq P Γ){n}{live}{m}(i:k<=m){l s s' x}{ob}(e:aD (az live m (eM P Γ n k l s))=(E (x,s'.t,s'.h),ob))(h:ob=Z)(f:l≠[]):TrL P ro k l s x s':=TrL.qz g n live m i ob (bu e) (bz e) h f
def VE.cap b o i z len cap asX(l:asX<=cap){ex wh}:VE (.sl b o i z len cap ex wh) (.sl b o i z len asX I I):=λe x h=>by
 rcases h with⟨d,g,f⟩|⟨p,c,a,d,g,f,m,_,j,q⟩
 ·exact .inl ⟨d,by omega,f⟩
 ·exact .inr ⟨p,c,a,d,g,f,af3 l m,(by simp),j,q⟩
def ak.bE{P f us h h1 v u}(g:ak P f us h v h1)(q:VE v u):ak P f us h u h1:=ak.post g (bG.akh 0 rfl q)
def dn(xs wo:pD):pD:=xs.filter λx=>!fy wo x
section
variable (xs wo:pD) (i0:Nat)
def oD:Nat->Nat×pD
 |0=>(i0,xs)
 |t+1=>match oD t with
  |(i,l)=>bif fy wo (X xs (i0+1+t) 0) then(i,l) else(i+1,l.set i (X xs (i0+1+t) 0))
end
section
variable {xs wo:pD} {i0:Nat}
def V4{l i}{v:Int}(h:i<A l):(l.set i v).take (i+1)=l.take i++[v]:=by rw[List.take_add_one,acg h,List.take_set_of_le (aar _)];rfl
def PU(h:i0<A xs)(b:∀j,j<i0->fy wo (X xs j 0)=I)(hi:fy wo (X xs i0 0)=Z):xs.take i0=dn (xs.take (i0+1)) wo:=by
 unfold dn
 rw[List.take_add_one,List.filter_append,aaQ h,ajR.2,Option.toList_some,List.filter_cons, <-dh h,hi]
 ·simp
 ·intro a c
  obtain⟨j,d,rfl⟩:=List.mem_iff_getElem.1 c
  rw[afN] at d
  have:=b j (by omega)
  rw[dh (by omega)] at this
  rw[List.getElem_take,this];rfl
def ack(h:i0<A xs)(o:∀j,j<i0->fy wo (X xs j 0)=I)(hi:fy wo (X xs i0 0)=Z):∀t,i0+1+t<=A xs->(oD xs wo i0 t).1<=i0+t/\(oD xs wo i0 t).2.length=A xs/\(∀q,i0+1+t<=q->(oD xs wo i0 t).2.getD q 0=X xs q 0)/\(oD xs wo i0 t).2.take (oD xs wo i0 t).1=dn (xs.take (i0+1+t)) wo:=by
 intro t
 induction t with
 |zero=>intro _;exact⟨by simp[oD],rfl,λ_ _=>rfl,PU h o hi⟩
 |succ t ih=>
  intro ht
  have⟨f,d,b,a⟩:=ih (by omega)
  unfold oD
  generalize oD xs wo i0 t=p at f d b a
  have⟨i,l⟩:=p
  simp only at f d b a ⊢
  have c:dn (xs.take (i0+1+(t+1))) wo=dn (xs.take (i0+1+t)) wo++bif fy wo (X xs (i0+1+t) 0) then[] else[X xs (i0+1+t) 0]:=by
   unfold dn
   rw[show i0+1+(t+1)=(i0+1+t)+1 by omega,List.take_add_one,List.filter_append,aaQ (by omega),Option.toList_some,List.filter_cons,dh (by omega)]
   cases fy wo xs[i0+1+t]<;>rfl
  cases g:fy wo (X xs (i0+1+t) 0) with
  |true=>
   rw[g] at c
   exact⟨by show i<=_;omega,d,λq hq=>b q (by omega),by show l.take i=_;rw[c,a];simp⟩
  |false=>
   rw[g] at c
   refine⟨by show i+1<=_;omega,by show(l.set i _).length=_;rw[ajT];exact d,λq hq=>?_,?_⟩
   ·show(l.set i _).getD q 0=_
    rw[abQ,abI (by omega), <-abQ]
    exact b q (by omega)
   ·show(l.set i _).take (i+1)=_
    rw[c,V4 (by omega),a];rfl
theorem PV{n}(u:A xs=n)(D:n<=274877906944)(hw:A wo<=274877906944):ak Q 110 [.sl 0 0 0 1 n n I Z,fnD] (qo n xs wo) (.sl 0 0 0 1 (A (dn xs wo)) (A (dn xs wo)) I I) (qo (A (dn xs wo)) (dn xs wo) wo):=by
 have c:=Me hw
 cases p:cV (λi=>!fy wo (X xs i 0)) n with
 |none=>
  have g:ixV n xs wo=-1:=by unfold ixV cR;rw[p]
  have d:dn xs wo=xs:=ajR.2 λa ha=>by
   obtain⟨j,a,rfl⟩:=List.mem_iff_getElem.1 ha
   have:=dz p j (by omega)
   rwa [dh a] at this
  rw[d,u]
  refine ak.bE (ak.mk (vs:=[.sl 0 0 0 1 n n I Z]) func110 rfl (x:=.ret) (s:=⟨ag 42 [(4,.sl 0 0 0 1 n n I Z)],qo n xs wo,Z⟩) ?_ (.inl rfl) (by kernel_rfl)) (VE.cap 0 0 0 1 n n n (aar n))
  refine TrL.i8 (uj [(12,Z)]) (aar 2) (V0 n xs wo) ?_ (by intro q;have:=ahV List.length q;revert this;decide)
  have r:(cR (λi=>!fy wo (X xs i 0)) n (λi=>(i:Int)) (-1)==-1)=Z:=by rw[show cR _ n _ _=_ from g];rfl
  rw[r,c,Me D,Me u];simp[aa]
 |some i0=>
  obtain⟨f1,f2,f3⟩:=dr p
  have g:ixV n xs wo=(i0:Int):=by unfold ixV cR;rw[p]
  have KZ:=ack (xs:=xs) (wo:=wo) (i0:=i0) (by omega) (λj a=>by simpa using f3 j a) (by simpa using f2)
  obtain⟨e1,e2,e3,l⟩:=KZ (n-i0-1) (by omega)
  rw[show i0+1+(n-i0-1)=A xs by omega,agW] at l
  have hm:A (dn xs wo)=(oD xs wo i0 (n-i0-1)).1:=by rw[<-l,afN];omega
  rw[hm]
  have d:(oD xs wo i0 (n-i0-1)).1<=n:=by omega
  refine ak.bE (ak.mk (vs:=[.sl 0 0 0 1 (oD xs wo i0 (n-i0-1)).1 n I I]) func110 rfl (x:=.ret) (s:=⟨ag 42 [(4,.sl 0 0 0 1 (oD xs wo i0 (n-i0-1)).1 n I I)],qo (oD xs wo i0 (n-i0-1)).1 (dn xs wo) wo,Z⟩) ?_ (.inl rfl) (by kernel_rfl)) (VE.cap 0 0 0 1 _ n _ d)
  have eh:=aAF n xs wo
  rw[g,dm (by omega)] at eh
  refine TrL.bY (uj [(12,I)]) 60 5 _ 2 (aar 2) (s1:=ZX n (oD xs wo i0 0).2 wo ((oD xs wo i0 0).1:Nat) (i0+1+0:Int)) _ eh (asQ n xs wo) ?_ (by decide) rfl ?_
  ·have r:(cR (λi=>!fy wo (X xs i 0)) n (λi=>(i:Int)) (-1)==-1)=I:=by
    rw[show cR _ n _ _=_ from g];exact beq_false_of_ne (by omega)
   rw[r,c,Me D,Me u];simp[aa]
  refine TrL.dV 5 (by decide) (s1:=⟨ag 42 [(0,.sl 0 0 0 1 n n I Z),(5,.t6 ((oD xs wo i0 (n-i0-1)).1:Nat))],qo n (oD xs wo i0 (n-i0-1)).2 wo,Z⟩) (Tr.loop 0 (by kernel_rfl) (λt=>ZX n (oD xs wo i0 t).2 wo ((oD xs wo i0 t).1:Nat) ((i0+1+t:Nat):Int)) (n-i0-1) (λt ht=>?_) ?_) ?_
  ·obtain⟨g1,g2,g3,_⟩:=KZ t (by omega)
   have a:i0+1+t<n:=by omega
   have v:(oD xs wo i0 t).2.getD (i0+1+t) 0=X xs (i0+1+t) 0:=g3 _ (aar _)
   have f:oD xs wo i0 (t+1)=bif fy wo (X xs (i0+1+t) 0) then oD xs wo i0 t else((oD xs wo i0 t).1+1,(oD xs wo i0 t).2.set (oD xs wo i0 t).1 (X xs (i0+1+t) 0)):=by
    rw[oD]
   cases o:fy wo (X xs (i0+1+t) 0) with
   |true=>
    rw[o,_root_.cond_true] at f
    rw[f]
    have e:=asT n (oD xs wo i0 t).2 wo ((oD xs wo i0 t).1:Nat) ((i0+1+t:Nat):Int)
    rw[dm (by omega)] at e
    exact Tr.bg (uj [(19,Z),(28,Z)]) 60 _ 2 (aar 2) (s':=ZX n (oD xs wo i0 t).2 wo ((oD xs wo i0 t).1:Nat) ((i0+1+t+1:Nat):Int)) _ e (akg _ _ _ _ _) (by rw[g8 a,bW a,aaq,af8,v,o,Me a,c];rfl)
   |false=>
    rw[o,_root_.cond_false] at f
    rw[f]
    have hi:(oD xs wo i0 t).1<n:=by omega
    have e:=asS n (oD xs wo i0 t).2 wo ((oD xs wo i0 t).1:Nat) ((i0+1+t:Nat):Int)
    rw[dm (by omega),dm (by omega),aaq,aaq,af8,af8,v] at e
    exact Tr.bg (uj [(19,Z),(28,I)]) 60 _ 2 (aar 2) (s':=ZX n ((oD xs wo i0 t).2.set (oD xs wo i0 t).1 (X xs (i0+1+t) 0)) wo (((oD xs wo i0 t).1+1:Nat):Int) ((i0+1+t+1:Nat):Int)) _ e (akf _ _ _ _ _) (by rw[g8 a,bW a,bW hi,aaq,aaq,af8,af8,v,o,Me a,Me hi,c,Me (show(oD xs wo i0 t).2.length=n by omega)];rfl)
  ·have e:=aAH n (oD xs wo i0 (n-i0-1)).2 wo ((oD xs wo i0 (n-i0-1)).1:Nat) (n:Int)
   rw[show i0+1+(n-i0-1)=n by omega]
   exact Tr.bg (uj [(19,I)]) 60 _ 2 (aar 2) _ e (asU n _ wo _ (n:Int)) (by rw[gV (aar _)];rfl)
  generalize hq:oD xs wo i0 (n-i0-1)=q at e1 e2 e3 l d
  refine TrL.pre (s1:=⟨ag 42 [(0,.sl 0 0 0 1 n n I Z),(5,.t6 (q.1:Nat))],qo q.1 (dn xs wo) wo,Z⟩) ?_ (l▸bG.ace (b:=0) (t:=ag 42 [(0,.sl 0 0 0 1 n n I Z),(5,.t6 (q.1:Nat))]) (h:=qo n q.2 wo) rfl d) (by intro q;have:=ahV List.length q;revert this;decide)
  refine TrL.dV 6 (by decide) (s1:=⟨ag 42 [(0,.sl 0 0 0 1 n n I Z),(5,.t6 (q.1:Nat))],qo q.1 (dn xs wo) wo,Z⟩) ?_ ?_
  ·rw[show aJ 6 (aI f110)=.region 11 (bO (aJ 6 dlB)) I by kernel_rfl]
   refine TrX.to (H:=HT) (H':=HT) (TrX.region 11 ?_) λ_ _ _=>trivial
   rw[show t8 (bO (aJ 6 dlB)).size=[0,1,2]++[3] by kernel_rfl]
   have e:=aAI n q.1 (dn xs wo) wo (q.1:Nat)
   have e':=asV n q.1 (dn xs wo) wo (q.1:Nat)
   rw[aaq,af8] at e
   refine OX.append (OX.aAK (uj []) 60 _ 2 (aar 2) (s':=⟨ag 42 [(0,.sl 0 0 0 1 n n I Z),(5,.t6 (q.1:Nat)),(38,.sl 0 0 q.1 1 (n-q.1) (n-q.1) I I)],qo q.1 (dn xs wo) wo,Z⟩) _ e e' (by rw[Me (show(0:Int)<=(q.1:Nat) by omega),Me (show((q.1:Nat):Int)<=n by omega)];rfl)) ?_
   have z:A (dn xs wo)=q.1:=hq▸hm
   refine OX.QO (λ_ _ _ _ h=>h) (OX.clear (dst:=Y) (ty:=27) (el:=3) (x:=.tmp 38) (xs:=dn xs wo) (m:=q.1) (len:=n-q.1) (cap:=n-q.1) (ex:=I) (wh:=I) (b:=0) (by kernel_rfl) (by kernel_rfl) (by kernel_rfl) (by kernel_rfl) rfl rfl z) ?_
   exact(bG.jy 2 [0,5] _).trans (bG.bR (by kernel_rfl) rfl)
  ·have e:=aAJ n q.1 (dn xs wo) wo (q.1:Nat)
   rw[aaq] at e
   exact TrL.qz (uj []) 60 _ 2 (aar 2) _ e (asW _ _ _ _ _) (by rw[Me (show(0:Int)<=(q.1:Nat) by omega),Me (show((q.1:Nat):Int)<=n by omega)];rfl) (by intro q;have:=ahV List.length q;revert this;decide)
end
end Mk
namespace Mk
open Sy Tr Wi S2
def acm:aK Q:=.mut 110 _ func110 (by decide) rfl L0 0 (λus d=>match us,d with
 | [.sl 0 0 0 1 n i I Z,.fn (.func 121) [] [.aG 1 0 0]],[.b [.af .i64 f c],.b [.ro I .i64 a]]=>E (.sl 0 0 0 1 (A (dn c a)) (A (dn c a)) I I,qo (A (dn c a)) (dn c a) a,C (n=i)&&C (n=f)&&C (A c=n)&&C (n<=274877906944)&&C (A a<=274877906944))
 |_,_=>Y) λus d v h1 e=>by
 split at e
 ·simp only[Mf,aad,No,aac] at e;have⟨rfl,rfl,⟨⟨⟨rfl,rfl⟩,g⟩,h4⟩,h⟩:=e;exact PV g h4 h
 ·cases e
abbrev cG:pD:=t9 32 0
abbrev Js:pD:=cW I 0 cG cG cG []
def Ga{u nm k s p}(h:bf u nm k s p []=Z):ak Q 118 [.agg [.bool u,.t6 nm,.t5 k,.t5 s,.t5 p,.nl (.slice Y 0 0)]] [] (.bP [.ro Z .u8 (cW u nm k s p []),.nl .nilIface]) []:=
 ak.conv (Av h) ⟨VE.agg (PE.iM (ps:=[.bool u,.t6 nm,.t5 k,.t5 s,.t5 p]) rfl rfl (VE.xV I .i64)),trivial⟩ trivial (VE.refl _) trivial
def PX:aK Q:=.val 118 _ func118 (by decide) rfl Z 0 (λvs=>match vs with
 | [.agg [.bool u,.int .i64 nm,.af .u8 32 k,.af .u8 32 s,.af .u8 32 p,.nl (.slice Y 0 0)]]=>E (.bP [.ro Z .u8 (cW u nm k s p []),.nl .nilIface],[],bf u nm k s p [])
 |_=>Y) λvs v new e=>by
 split at e
 ·simp only[Mf,aad] at e;have⟨rfl,rfl,h⟩:=e;exact Ga h
 ·cases e
def uk(n:aE)(un:pD):pD:=cW n.used n.name n.key n.bH n.cF un
def B3(t:Nat->aE)(wo:pD)(x:Nat):pD:=bif fy wo ((x/2:Nat):Int) then Js else uk (t x) (t x).un
def rF(t:Nat->aE)(wo:pD):Nat->Nat->pD
 |0,x=>cI [[1,((x/2:Nat):Int)],B3 t wo x].flatten
 |k+1,x=>cI [[2],uk (t x) (dn (t x).un wo),rF t wo k (x-2^k),rF t wo k (x+2^k)].flatten
def eu(t:Nat->aE)(wo:pD)(x:Int):pD:=rF t wo (l8 7 (O x)) (O x)
def rG(n:aE)(un:pD):Bool:=bf n.used n.name n.key n.bH n.cF un
def oE(N:Nat)(t:Nat->aE)(wo:pD)(x:Int)(k:Nat):Bool:=((t8 N).all λi=>rG (t i) (t i).un&&rG (t i) (dn (t i).un wo))&&xW N&&C (0<=x)&&C (x<N)&&C (l8 7 (O x)<k)&&C (A wo<=274877906944)
def B4(k:Nat):Prop:=∀N(t:Nat->aE)a(x:Int),eo N t->oE N t a x k=Z->
 ak Q 78 [.p4 I N t,.t6 x,.ro I .i64 a] [] (.sM (eu t a x)) []
def asY(k:Nat)(h:B4 k):aK Q:=.val 78 _ func78 (by decide) rfl Z 0 (λvs=>match vs with
 | [.aO I 99 N g,.int .i64 x,.ro I .i64 b]=>E (.sM (eu (ai g) b x),[],cX N g&&C (N<=71)&&oE N (ai g) b x k)
 |_=>Y) λvs v new e=>by
 split at e
 ·simp only[Mf,aad,No,aac] at e;have⟨rfl,rfl,⟨c,d⟩,f⟩:=e;exact ak.conv (h _ _ _ _ (eo.of c d) f) ⟨VE.kM c,VE.refl _,VE.refl _,trivial⟩ trivial (VE.refl _) trivial
 ·cases e
def asZ(l:List (Nat×Bool)):cu:=mk [kA,l7,PX,wz] [] (uT l)
def acn l:aq Q (asZ l):=au _ aN.nil _ _
def as0(l:List (Nat×Bool)):cu:=mk [kA,l7,Gb,wz] [] (uT l)
def aco(l:List (Nat×Bool)):aq Q (as0 l):=au _ aN.nil _ _
def as1(l:List (Nat×Bool)):cu:=mk [kA,l7,acf,acm] [] (uT l)
def acp(l:List (Nat×Bool)):aq Q (as1 l):=au _ aN.nil _ _
def aki(k:Nat)(a:B4 k)(l:List (Nat×Bool)):cu:=mk [Gb,asY k a,wz] [] (uT l)
def acq(k:Nat)(a:B4 k)(l:List (Nat×Bool)):aq Q (aki k a l):=au _ aN.nil _ _
def dgB:Code:=aI f78
abbrev dgH(wo:pD)(n:aE)(v:SV):List Blk:=[.b [.ro I .i64 wo],.b [.t5 cG],.b [.bool n.used,.t6 n.name,.t5 n.key,.t5 n.bH,.t5 n.cF,v]]
def dgT(N:Nat)(t:Nat->aE)(l r:Int):List (Option SV):=ag 69 [(0,.p4 I N t),(5,.r5 0),(6,.r5 1),(7,.r5 2),(8,.t6 l),(9,.t6 r)]
def dgS(N:Nat)(t:Nat->aE)(l r:Int)(wo:pD)(n:aE)(un:pD):St:=⟨dgT N t l r,dgH wo n (.ro I .i64 un),Z⟩
def aAN(N:Nat)(t:Nat->aE) x(wo:pD):(aV Q (asZ [(26,Z),(30,Z)]) 60 f78 [.p4 I N t,.t6 x,.ro I .i64 wo] []).v3=E (.agg [.t5 (cI [[1,IntKind.u8.wrap (i64.wrap (x.tdiv 2))],Js].flatten)],aa (aa (aa (aa (aa (aa (aa Z (bC x N)) (Z&&(C (O x<N)&&Z))) (aa Z (C (0<=x)&&C (x<64)))) (C (bk x<0))) (aa Z (C (A wo<=274877906944)))) (fy wo (i64.wrap (x.tdiv 2)))) (aa (aa Z (aa (aa Z (C (A (((t9 2 0).set 0 1).set (0+1+0) (IntKind.u8.wrap (i64.wrap (x.tdiv 2))))=2)&&Z)) (C (A (((t9 2 0).set 0 1).set (0+1+0) (IntKind.u8.wrap (i64.wrap (x.tdiv 2))))=2)))) (C (([((t9 2 0).set 0 1).set (0+1+0) (IntKind.u8.wrap (i64.wrap (x.tdiv 2))),cW I 0 (t9 32 0) (t9 32 0) (t9 32 0) []],aa (aa Z (C (A (((t9 2 0).set 0 1).set (0+1+0) (IntKind.u8.wrap (i64.wrap (x.tdiv 2))))=2)&&(C (2<=2)&&C (0=0)))) (C (A (((t9 2 0).set 0 1).set (0+1+0) (IntKind.u8.wrap (i64.wrap (x.tdiv 2))))=2))).fst.flatten.length<274877900000)&&C (([((t9 2 0).set 0 1).set (0+1+0) (IntKind.u8.wrap (i64.wrap (x.tdiv 2))),cW I 0 (t9 32 0) (t9 32 0) (t9 32 0) []],aa (aa Z (C (A (((t9 2 0).set 0 1).set (0+1+0) (IntKind.u8.wrap (i64.wrap (x.tdiv 2))))=2)&&(C (2<=2)&&C (0=0)))) (C (A (((t9 2 0).set 0 1).set (0+1+0) (IntKind.u8.wrap (i64.wrap (x.tdiv 2))))=2))).fst.length<=274877906944)))):=by kernel_rfl
def aAO(N:Nat)(t:Nat->aE) x(wo:pD):(aV Q (as0 [(26,Z),(30,I)]) 60 f78 [.p4 I N t,.t6 x,.ro I .i64 wo] []).v3=E (.agg [.t5 (cI [[1,IntKind.u8.wrap (i64.wrap (x.tdiv 2))],uk (t (O x)) (t (O x)).un].flatten)],aa (aa (aa (aa (aa (aa (aa (aa Z (bC x N)) (Z&&(C (O x<N)&&Z))) (aa Z (C (0<=x)&&C (x<64)))) (C (bk x<0))) (aa Z (C (A wo<=274877906944)))) !fy wo (i64.wrap (x.tdiv 2))) (aa Z (Wi.bf (t (O x)).used (t (O x)).name (t (O x)).key (t (O x)).bH (t (O x)).cF (t (O x)).un))) (aa (aa Z (aa (aa Z (C (A (((t9 2 0).set 0 1).set (0+1+0) (IntKind.u8.wrap (i64.wrap (x.tdiv 2))))=2)&&Z)) (C (A (((t9 2 0).set 0 1).set (0+1+0) (IntKind.u8.wrap (i64.wrap (x.tdiv 2))))=2)))) (C (([((t9 2 0).set 0 1).set (0+1+0) (IntKind.u8.wrap (i64.wrap (x.tdiv 2))),cW (t (O x)).used (t (O x)).name (t (O x)).key (t (O x)).bH (t (O x)).cF (t (O x)).un],aa (aa Z (C (A (((t9 2 0).set 0 1).set (0+1+0) (IntKind.u8.wrap (i64.wrap (x.tdiv 2))))=2)&&(C (2<=2)&&C (0=0)))) (C (A (((t9 2 0).set 0 1).set (0+1+0) (IntKind.u8.wrap (i64.wrap (x.tdiv 2))))=2))).fst.flatten.length<274877900000)&&C (([((t9 2 0).set 0 1).set (0+1+0) (IntKind.u8.wrap (i64.wrap (x.tdiv 2))),cW (t (O x)).used (t (O x)).name (t (O x)).key (t (O x)).bH (t (O x)).cF (t (O x)).un],aa (aa Z (C (A (((t9 2 0).set 0 1).set (0+1+0) (IntKind.u8.wrap (i64.wrap (x.tdiv 2))))=2)&&(C (2<=2)&&C (0=0)))) (C (A (((t9 2 0).set 0 1).set (0+1+0) (IntKind.u8.wrap (i64.wrap (x.tdiv 2))))=2))).fst.length<=274877906944)))):=by kernel_rfl
def V5(N:Nat)(t:Nat->aE) x(wo:pD):aD (az [0,5,6,7,8,9] 4 ((bh Q (as1 [(26,I)]) 60 0 6 (aH dgB) ⟨aU f78.ntmps [.p4 I N t,.t6 x,.ro I .i64 wo],[],Z⟩).x3))=(E (.normal,dgT N t (bk x) (aW x),dgH wo (t (O x)) (.sl 3 0 0 1 (A (dn (t x.toNat).un wo)) (A (dn (t x.toNat).un wo)) I I)++[.b [.af .i64 (A (dn (t x.toNat).un wo)) (dn (t (O x)).un wo)]]),(aa (aa (aa (aa (aa (aa Z (bC x N)) (Z&&(C (O x<N)&&Z))) (aa Z (C (0<=x)&&C (x<64)))) !C (bk x<0)) (aa Z (C ((t (O x)).un.length<=274877906944)))) (aa Z (C ((t (O x)).un.length=(t (O x)).un.length)&&C ((t (O x)).un.length=(t (O x)).un.length)&&C ((t (O x)).un.length=(t (O x)).un.length)&&C ((t (O x)).un.length<=274877906944)&&C (A wo<=274877906944))))):=by kernel_rfl
def aAP N t x wo:=bu (V5 N t x wo)
def as2 N t x wo:=bz (V5 N t x wo)
def aAQ(N:Nat)(t:Nat->aE) l r(wo:pD)(n:aE)(un:pD)(k:Nat)(a:B4 k):jd (az [6] 2 (eM Q (aki k a []) 60 0 ((aH dgB).drop 6) (dgS N t l r wo n un)))=E (.ret,ag 69 [(6,.r5 1)],[.b [.ro I .i64 wo],.b [.t5 (cI [[2],uk n un,eu t wo l,eu t wo r].flatten)]]):=by kernel_rfl
def as3(N:Nat)(t:Nat->aE) l r(wo:pD)(n:aE)(un:pD)(k:Nat)(a:B4 k):uF (az [6] 2 (eM Q (aki k a []) 60 0 ((aH dgB).drop 6) (dgS N t l r wo n un)))=(aa (aa (aa (aa Z (aa Z (Wi.bf n.used n.name n.key n.bH n.cF un))) (aa Z ((cX N λi=>ah (aA t i))&&C (N<=71)&&oE N (ai λi=>ah (aA t i)) wo l k))) (aa Z ((cX N λi=>ah (aA t i))&&C (N<=71)&&oE N (ai λi=>ah (aA t i)) wo r k))) (aa (aa Z (aa (aa (aa (aa Z (C (A (eu (ai λi=>ah (aA t i)) wo r)=32)&&Z)) (C (A (eu (ai λi=>ah (aA t i)) wo r)=32))) (C (A (eu (ai λi=>ah (aA t i)) wo l)=32)&&Z)) (C (A (eu (ai λi=>ah (aA t i)) wo l)=32)))) (C (([(t9 1 0).set 0 2,cW n.used n.name n.key n.bH n.cF un,eu (ai λi=>ah (aA t i)) wo l,eu (ai λi=>ah (aA t i)) wo r],aa (aa (aa (aa (aa (aa Z (C (A (eu (ai λi=>ah (aA t i)) wo r)=32)&&(C ((32)<=32)&&C ((0+0)=0)))) (C (A (eu (ai λi=>ah (aA t i)) wo r)=32))) (C (A (eu (ai λi=>ah (aA t i)) wo l)=32)&&(C ((32)<=32)&&C ((0+0)=0)))) (C (A (eu (ai λi=>ah (aA t i)) wo l)=32))) (C (A ((t9 1 0).set 0 2)=1)&&(C (1<=1)&&C (0=0)))) (C (A ((t9 1 0).set 0 2)=1))).fst.flatten.length<274877900000)&&Z))):=by kernel_rfl
def V6:((t8 64).all λx=>i64.wrap ((x:Int).tdiv 2)==((x/2:Nat):Int)&&IntKind.u8.wrap (i64.wrap ((x:Int).tdiv 2))==((x/2:Nat):Int))=Z:=by decide+kernel
def L6{x:Nat}(h:x<64):i64.wrap ((x:Int).tdiv 2)=((x/2:Nat):Int)/\IntKind.u8.wrap (i64.wrap ((x:Int).tdiv 2))=((x/2:Nat):Int):=by have:=aaB.1 V6 x (aaI.2 h);simpa only[No,afP] using this
def V7(t:Nat->aE)(wo:pD)(k x:Nat):A (rF t wo k x)=32:=by cases k<;>(unfold rF;exact mo _)
def mN(t:Nat->aE)(wo:pD) x:A (eu t wo x)=32:=V7 ..
def vO{n:aE}{un:pD}(h:rG n un=Z):A (uk n un)<=131:=by unfold rG Wi.bf at h;simp only[No,aac] at h;have⟨⟨⟨⟨⟨⟨⟨⟨a,b⟩,c⟩,h0⟩,e⟩,hu⟩,f⟩,hl⟩,d⟩:=h;unfold uk;rw[w9 a b c];omega
def Jt:A Js<=131:=vO (n:=⟨I,0,cG,cG,cG,[]⟩) (by decide+kernel)
def VE.Ju f k(l:pD):VE (.ro f k l) (.ro I k l):=λe v h=>by
 rcases h with h|⟨n,o,cap,c,t,e,d,b,_,a⟩
 ·exact .inl h
 ·exact .inr ⟨n,o,cap,c,t,e,d,b,by simp,a⟩
def aAR(N:Nat)(t:Nat->aE) l r(wo:pD)(n:aE)(un:pD)(m:Nat):St.fz 3 ⟨dgT N t l r,dgH wo n (.sl 3 0 0 1 m m I I)++[.b [.af .i64 m un]],Z⟩=E (⟨dgT N t l r,dgH wo n (.ro Z .i64 ((un.drop 0).take m))++[.b []],Z⟩,aa (C (A un=m)) (aa ((dgT N t l r).all λo=>match o with|some v=>qp 3 m v|none=>Z) (qj 3 m (dgH wo n (.sl 3 0 0 1 m m I I)++[.b [.af .i64 m un]]) 0))):=by kernel_rfl
def akj(N:Nat)(t:Nat->aE) l r wo(n:aE) un:bG 0 ⟨dgT N t l r,dgH wo n (.sl 3 0 0 1 (A un) (A un) I I)++[.b [.af .i64 (A un) un]],Z⟩ (dgS N t l r wo n un):=by
 have e:=aAR N t l r wo n un (A un)
 have e2:qj 3 (A un) (dgH wo n (.sl 3 0 0 1 (A un) (A un) I I)++[.b [.af .i64 (A un) un]]) 0=Z:=by simp[qj,DP,qp,qk,av]
 have c:((dgT N t l r).all λo=>match o with|some v=>qp 3 (A un) v|none=>Z)=Z:=by kernel_rfl
 rw[e2,c,Me rfl,agE,agW] at e
 refine(bG.freeze (aaH _) e).trans ?_
 refine(bG.dS (n:=3) (aaH _) (s':=⟨dgT N t l r,dgH wo n (.ro Z .i64 un),Z⟩) rfl).trans ?_
 exact bG.tD ⟨PE.refl _,PE.refl _,PE.iM (ps:=[.bool n.used,.t6 n.name,.t5 n.key,.t5 n.bH,.t5 n.cF]) rfl rfl (VE.Ju Z .i64 un),trivial⟩
section
variable {N:Nat} {t:Nat->aE} {wo:pD}
def Aw{k:Nat}(a:((t8 N).all λi=>rG (t i) (t i).un&&rG (t i) (dn (t i).un wo))=Z)(c:xW N=Z)(d:A wo<=274877906944){y:Nat}(e:y<N)(b:l8 7 y<k):oE N t wo (y:Int) k=Z:=by unfold oE;rw[a,c,aaq,Me b,Me (show(y:Int)<N by omega),Me (show(0:Int)<=y by omega),Me d];rfl
theorem PY:∀k,B4 k:=by
 intro k
 induction k with
 |zero=>intro N t wo x l h;simp[oE] at h
 |succ k ih=>
  intro N t wo x l h
  unfold oE at h
  simp only[No,aac] at h
  obtain⟨⟨⟨⟨⟨hu,u⟩,h0⟩,d⟩,hk⟩,hw⟩:=h
  obtain⟨y,rfl⟩:=ac7 h0
  rw[aaq] at hk
  have d:y<N:=by omega
  obtain⟨n,o,hN⟩:=oF u
  have hs:=cn o
  have f:=bW d
  have a:=aaB.1 hu y (aaI.2 d)
  rw[No] at a
  obtain⟨f1,f2⟩:=L6 (x:=y) (by omega)
  cases m:l8 7 y with
  |zero=>
   have hV:eu t wo (y:Int)=cI [[1,((y/2:Nat):Int)],B3 t wo y].flatten:=by unfold eu;rw[aaq,m,rF]
   have c:=(vP o (hN▸d) m).1
   rw[hV]
   unfold B3
   cases hb:fy wo ((y/2:Nat):Int) with
   |true=>
    have e:=aAN N t y wo
    rw[f2] at e
    have hB:A (cW false 0 (t9 32 0) (t9 32 0) (t9 32 0) [])<=131:=Jt
    refine aP (acn [(26,Z),(30,Z)]) 60 func78 e ?_ rfl
    rw[f1,hb,f,aaq,Me d,c,Me hw,Me (show(0:Int)<=y by omega),Me (show(y:Int)<64 by omega)]
    generalize cW I 0 (t9 32 0) (t9 32 0) (t9 32 0) []=W at hB ⊢
    simp[av]
    omega
   |false=>
    have e:=aAO N t y wo
    rw[f2,aaq] at e
    have hB:=vO a.1
    refine aP (aco [(26,Z),(30,I)]) 60 func78 e ?_ rfl
    rw[f1,hb,f,Me d,c,Me hw,Me (show(0:Int)<=y by omega),Me (show(y:Int)<64 by omega),show Wi.bf _ _ _ _ _ _=Z from a.1]
    unfold uk at hB
    simp[av]
    omega
  |succ j=>
   obtain⟨h1,h2,h3,h4,h5,h6,h7⟩:=mO o (hN▸d) m
   have hV:eu t wo (y:Int)=cI [[2],uk (t y) (dn (t y).un wo),eu t wo ((y-2^j:Nat):Int),eu t wo ((y+2^j:Nat):Int)].flatten:=by
    unfold eu;rw[aaq,aaq,aaq,m,h5,h6,rF]
   have r:cX N (λi=>ah (aA t i))=Z:=bU l
   have r1:oE N (ai λi=>ah (aA t i)) wo ((y-2^j:Nat):Int) k=Z:=Aw hu u hw (by omega) (by omega)
   have r2:oE N (ai λi=>ah (aA t i)) wo ((y+2^j:Nat):Int) k=Z:=Aw hu u hw (by omega) (by omega)
   have d1:A (eu (ai λi=>ah (aA t i)) wo ((y-2^j:Nat):Int))=32:=mN ..
   have d2:A (eu (ai λi=>ah (aA t i)) wo ((y+2^j:Nat):Int))=32:=mN ..
   have hB:=vO a.2
   rw[hV]
   have ea:=aAP N t y wo
   have p:=as2 N t y wo
   rw[h1,h2,aaq] at ea
   have eb:=aAQ N t ((y-2^j:Nat):Int) ((y+2^j:Nat):Int) wo (t y) (dn (t y).un wo) k ih
   have eb':=as3 N t ((y-2^j:Nat):Int) ((y+2^j:Nat):Int) wo (t y) (dn (t y).un wo) k ih
   generalize hL:cI [[2],uk (t y) (dn (t y).un wo),eu t wo ((y-2^j:Nat):Int),eu t wo ((y+2^j:Nat):Int)].flatten=L at eb
   refine ak.yY (v:=.sM L) (h1:=[.b [.ro I .i64 wo],.b [.t5 L]]) [] ?_ rfl
   refine ak.mk (vs:=[.sM L]) func78 rfl (x:=.ret) (s:=⟨ag 69 [(6,.r5 1)],[.b [.ro I .i64 wo],.b [.t5 L]],Z⟩) ?_ (.inl rfl) (by kernel_rfl)
   refine TrL.bY (acp [(26,I)]) 60 6 _ 4 (aaH _) (s1:=⟨dgT N t ((y-2^j:Nat):Int) ((y+2^j:Nat):Int),dgH wo (t y) (.sl 3 0 0 1 (A (dn (t y).un wo)) (A (dn (t y).un wo)) I I)++[.b [.af .i64 (A (dn (t y).un wo)) (dn (t y).un wo)]],Z⟩) _ ea p ?_ (by decide) rfl ?_
   ·rw[f,aaq,Me d,h1,Me hw,Me (show(0:Int)<=y by omega),Me (show(y:Int)<64 by omega),Me (l.un y d),aaS (show¬((y-2^j:Nat):Int)<0 by omega),Me (Eq.refl (t y).un.length)];rfl
   refine TrL.pre ?_ (akj N t ((y-2^j:Nat):Int) ((y+2^j:Nat):Int) wo (t y) (dn (t y).un wo)) (by intro q;have:=ahV List.length q;revert this;decide)
   refine TrL.qz (acq k ih []) 60 _ 2 (aaH _) _ eb eb' ?_ (by intro q;have:=ahV List.length q;revert this;decide)
   rw[r,Me l.le,r1,r2,d1,d2,show Wi.bf _ _ _ _ _ _=Z from a.2]
   unfold uk at hB
   simp[av,mN]
   omega
end
def L7(N:Nat)(t:Nat->aE)(x:Int):Bool:=C (0<=x)&&C (x<N)&&bq N t
def V8{un wo}:(dn un wo).Sublist un:=List.filter_sublist
def PZ{un}(h:un.Pairwise (· < ·)):B5 un=Z:=aaB.2 λi a=>by
 have a:=aaI.1 a
 rw[af9]
 by_cases b:i>0
 ·rw[Me b,af0]
  have:=List.pairwise_iff_getElem.1 h (i-1) i (by omega) a (by omega)
  rw[dh a,dh (by omega:i-1<A un)]
  exact aaS (by omega)
 ·rw[aaS b,ahm]
def acu{un:pD}(h:∀j,j+1<A un->X un j 0<X un (j+1) 0):un.Pairwise (· < ·):=by
 have e:∀d i,i+d+1<A un->X un i 0<X un (i+d+1) 0:=by intro d;induction d with
  |zero=>intro i c;exact h i c
  |succ d k=>
   intro i c
   have a:=k i (by omega)
   have b:=h (i+d+1) (by omega)
   rw[show i+(d+1)+1=i+d+1+1 by omega]
   omega
 refine List.pairwise_iff_getElem.2 λi j c l g=>?_
 have:=e (j-i-1) i (by omega)
 rw[show i+(j-i-1)+1=j by omega,dh c,dh l] at this
 exact this
section
variable {N n:Nat} {t:Nat->aE}
def Gc(e:eo N t)(i:n∈bn)(hN:N=2*n-1){x:Nat}(c:x<N)(g:iF t n x=Z){un}(d:un.Sublist (t x).un):rG (t x) un=Z:=by
 have H:=cn i
 have z:=e.key x c
 have B:=e.bH x c
 have w:=e.cF x c
 unfold iF at g
 have mT:∀nm,(t x).name=nm->0<=nm->nm<=255->(t x).un.Pairwise (· < ·)->(∀u∈(t x).un,0<=u/\u<32)->(t x).un.length<=32->((t x).used||Ax (t x).name (t x).key (t x).bH (t x).cF un)=Z->rG (t x) un=Z:=by
  intro nm k p o y s G D
  unfold rG Wi.bf
  have q:Ay un=Z:=aaB.2 λu b=>by
   have:=s u (d.subset b)
   rw[Me this.1,Me (by omega)];rfl
  have m:=PZ (y.sublist d)
  have J:=d.length_le
  rw[Me z,Me B,Me w,k,Me p,Me o,q,m,Me (by omega), <-k,D];rfl
 cases b:(t x).used with
 |false=>
  rw[b] at g
  unfold tn rH at g
  simp only[aiW,_root_.cond_true,No,aac,afP] at g
  have a:=g.2
  have f:=List.sublist_nil.1 (a▸d)
  refine mT 0 (by simpa using g.1.1.1.1.2) (by omega) (by omega) (by rw[a];exact List.Pairwise.nil) (by rw[a];intro u h;cases h) (by rw[a];simp) ?_
  rw[b]
  unfold Ax
  rw[f]
  simp[g]
 |true=>
  rw[b] at g
  cases l:(x%2==0) with
  |true=>
   rw[l] at g
   unfold Om at g
   simp only[Bool.not_true,_root_.cond_false,_root_.cond_true,No,afP,aac] at g
   have⟨⟨⟨⟨_,L⟩,r⟩,l3⟩,_⟩:=g
   have a:(t x).un=[]:=abJ.1 (by omega)
   exact mT _ rfl (by omega) r (by rw[a];exact List.Pairwise.nil) (by rw[a];intro u h;cases h) (by rw[a];simp) (by rw[b];rfl)
  |false=>
   rw[l] at g
   have⟨v,K⟩:=Az i (hN▸c) g
   simp only[Bool.not_true,_root_.cond_false] at g
   unfold gq at g
   simp only[No,aaq] at g
   refine mT 0 (by simpa using g.1.1.1) (by omega) (by omega) (acu λj F=>?_) (λu h=>by have:=v u h;omega) (by omega) (by rw[b];rfl)
   exact(V9 (aaB.1 g.2 (j+1) (aaI.2 F))).1
def B6(b:eo N t)(h:bq N t=Z){wo}(f:A wo<=274877906944){x:Int}(e:0<=x)(h1:x<N):oE N t wo x 8=Z:=by have⟨n,c,_,hN,d⟩:=jw b h;obtain⟨y,rfl⟩:=ac7 e;refine Aw (aaB.2 λi a=>?_) (AB b h).2 f (by omega) (by have:=AD 7 y;omega);have a:=aaI.1 a;rw[Gc b c hN a (d i a) (List.Sublist.refl _),Gc b c hN a (d i a) V8];rfl
end
section
variable {N:Nat} {t:Nat->aE} {wo:pD} {x:Int}
end
def Gd(l:List (Nat×Bool)):cu:=mk (P:=Q) [] [] (uT l)
def iO(l:List (Nat×Bool)):aq Q (Gd l):=au _ aN.nil _ _
def rnB:Code:=aI f126
abbrev ZY(c nm:Int)(k s p un:pD):pD:=([c,IntKind.u8.wrap nm]++k++s++p)++[IntKind.u8.wrap (A un:Int)]
def cJ(u:Bool)(nm:Int)(k s p un:pD):pD:=ZY (bif u then 1 else 0) nm k s p un++un.map IntKind.u8.wrap
def DQ(u:Bool)(nm:Int)(k s p un:pD)(n:Nat)(xs:pD)(i:Int):St:=⟨ag 47 [(1,.r5 0),(3,.sl 1 0 0 1 n n I Z),(4,.t6 i)],[.b [.bool u,.t6 nm,.t5 k,.t5 s,.t5 p,.ro I .i64 un],.b [.af .u8 n xs]],Z⟩
def L8 u(nm:Int) k s p un:aD (az [1,3,4] 2 ((bh Q (Gd [(10,Z),(16,Z),(19,Z),(22,Z)]) 60 0 7 (aH rnB) ⟨aU f126.ntmps [yl u nm k s p un],[],Z⟩).x3))=(E (.normal,(DQ u nm k s p un 99 (ZY 1 nm k s p un) 0).t,(DQ u nm k s p un 99 (ZY 1 nm k s p un) 0).h),(aa (aa (aa (aa (aa (aa Z u) (Z&&C (A (((t9 2 0).set 0 0).set (0+1+0) (IntKind.u8.wrap nm))=2))) (aa (aa (C (A k=32)&&Z) (C (A ((((t9 2 0).set 0 0).set (0+1+0) (IntKind.u8.wrap nm)).set (0+Int.toNat 0) 1)=2)&&Z)) (C (A ((((t9 2 0).set 0 0).set (0+1+0) (IntKind.u8.wrap nm)).set (0+Int.toNat 0) 1)=2)))) (aa (aa (C (A s=32)&&Z) (C (A ((((t9 2 0).set 0 0).set (0+1+0) (IntKind.u8.wrap nm)).set (0+Int.toNat 0) 1++k)=2+32)&&Z)) (C (A ((((t9 2 0).set 0 0).set (0+1+0) (IntKind.u8.wrap nm)).set (0+Int.toNat 0) 1++k)=2+32)))) (aa (aa (C (A p=32)&&Z) (C (A ((((t9 2 0).set 0 0).set (0+1+0) (IntKind.u8.wrap nm)).set (0+Int.toNat 0) 1++k++s)=(2+32)+32)&&Z)) (C (A ((((t9 2 0).set 0 0).set (0+1+0) (IntKind.u8.wrap nm)).set (0+Int.toNat 0) 1++k++s)=(2+32)+32)))) (aa (aa (aa (C (A ((t9 1 0).set 0 (IntKind.u8.wrap (un.length:Int)))=1)&&Z) (C (A ((((t9 2 0).set 0 0).set (0+1+0) (IntKind.u8.wrap nm)).set (0+Int.toNat 0) 1++k++s++p)=((2+32)+32)+32)&&Z)) (C (A ((((t9 2 0).set 0 0).set (0+1+0) (IntKind.u8.wrap nm)).set (0+Int.toNat 0) 1++k++s++p)=((2+32)+32)+32))) Z))):=by kernel_rfl
def L9 u(nm:Int) k s p un:aD (az [1,3,4] 2 ((bh Q (Gd [(10,I),(16,Z),(19,Z),(22,Z)]) 60 0 7 (aH rnB) ⟨aU f126.ntmps [yl u nm k s p un],[],Z⟩).x3))=(E (.normal,(DQ u nm k s p un 99 (ZY 0 nm k s p un) 0).t,(DQ u nm k s p un 99 (ZY 0 nm k s p un) 0).h),(aa (aa (aa (aa (aa Z !u) (aa (aa (C (A k=32)&&Z) (C (A (((t9 2 0).set 0 0).set (0+1+0) (IntKind.u8.wrap nm))=2)&&Z)) (C (A (((t9 2 0).set 0 0).set (0+1+0) (IntKind.u8.wrap nm))=2)))) (aa (aa (C (A s=32)&&Z) (C (A (((t9 2 0).set 0 0).set (0+1+0) (IntKind.u8.wrap nm)++k)=2+32)&&Z)) (C (A (((t9 2 0).set 0 0).set (0+1+0) (IntKind.u8.wrap nm)++k)=2+32)))) (aa (aa (C (A p=32)&&Z) (C (A (((t9 2 0).set 0 0).set (0+1+0) (IntKind.u8.wrap nm)++k++s)=(2+32)+32)&&Z)) (C (A (((t9 2 0).set 0 0).set (0+1+0) (IntKind.u8.wrap nm)++k++s)=(2+32)+32)))) (aa (aa (aa (C (A ((t9 1 0).set 0 (IntKind.u8.wrap (un.length:Int)))=1)&&Z) (C (A (((t9 2 0).set 0 0).set (0+1+0) (IntKind.u8.wrap nm)++k++s++p)=((2+32)+32)+32)&&Z)) (C (A (((t9 2 0).set 0 0).set (0+1+0) (IntKind.u8.wrap nm)++k++s++p)=((2+32)+32)+32))) Z))):=by kernel_rfl
def Ge u(nm:Int) k s p un(n:Nat) xs(i:Int):aD (az [1,3,4] 2 (exec Q (Gd [(34,Z)]) 60 0 (aj (aj (aJ 7 rnB))) (DQ u nm k s p un n xs i)))=(E (.normal,(DQ u nm k s p un (n+1) (xs++[IntKind.u8.wrap (X un (O i) 0)]) (i64.wrap (i+1))).t,(DQ u nm k s p un (n+1) (xs++[IntKind.u8.wrap (X un (O i) 0)]) (i64.wrap (i+1))).h),(aa (aa (aa (aa Z (C (i<(A un:Int)))) (bC i (A un))) (C (O i<A un))) (aa (aa (aa (aa (C (A ((t9 1 0).set 0 (IntKind.u8.wrap (un.getD i.toNat 0)))=1)&&Z) (C (A xs=n)&&(C (n<=n)&&Z))) (C (A xs=n))) Z) (C (n+1<=2^38))))):=by kernel_rfl
def akn u nm k s p un n xs i:=bu (Ge u nm k s p un n xs i)
def acv u nm k s p un n xs i:=bz (Ge u nm k s p un n xs i)
def Gf u(nm:Int) k s p un(n:Nat) xs(i:Int):aD (az [3] 2 (exec Q (Gd [(34,I)]) 60 0 (aj (aj (aJ 7 rnB))) (DQ u nm k s p un n xs i)))=(E (.exit 0,ag 47 [(3,.sl 1 0 0 1 n n I Z)],(DQ u nm k s p un n xs i).h),(aa Z !C (i<(A un:Int)))):=by kernel_rfl
def ako u nm k s p un n xs i:=bu (Gf u nm k s p un n xs i)
def acw u nm k s p un n xs i:=bz (Gf u nm k s p un n xs i)
def Gg u(nm:Int) k s p un(n:Nat) xs(i:Int):aD (az [2] 2 (eM Q (Gd []) 60 0 ((aH rnB).drop 8) ⟨ag 47 [(3,.sl 1 0 0 1 n n I Z)],(DQ u nm k s p un n xs i).h,Z⟩))=(E (.ret,ag 47 [(2,.sl 1 0 0 1 n n I Z)],(DQ u nm k s p un n xs i).h),(Z)):=by kernel_rfl
section
variable {u:Bool} {nm:Int} {k s p un:pD}
def Wa{f:Int->Int}{l}{i:Nat}(h:i<A l):(l.take i).map f++[f (X l i 0)]=(l.take (i+1)).map f:=by rw[List.take_add_one,aaQ h,List.map_append,dh h];rfl
def AE(g:A k=32)(i:A s=32)(l:A p=32)(hu:A un<=100):ak Q 126 [yl u nm k s p un] [] (.ro Z .u8 (cJ u nm k s p un)) []:=by
 have b:A (cJ u nm k s p un)=99+A un:=by unfold cJ;simp[g,i,l];omega
 refine ak.sn (ak.yY (v:=.sl 1 0 0 1 (99+A un) (99+A un) I Z) (h1:=(DQ u nm k s p un (99+A un) (cJ u nm k s p un) 0).h) [1] ?_ (by rw[b];rfl)) rfl
 have w:∀c,A (ZY c nm k s p un)=99:=λc=>by simp[g,i,l]
 have a:TrL Q Y 0 ((aH rnB).drop 7) (DQ u nm k s p un 99 (ZY (bif u then 1 else 0) nm k s p un) 0) .ret ⟨ag 47 [(2,.sl 1 0 0 1 (99+A un) (99+A un) I Z)],(DQ u nm k s p un (99+A un) (cJ u nm k s p un) 0).h,Z⟩:=by
  generalize m:ZY (bif u then 1 else 0) nm k s p un=base
  have o:=m▸w _
  have r:cJ u nm k s p un=base++un.map IntKind.u8.wrap:=by unfold cJ;rw[m]
  rw[r]
  have d:Tr Q Y 0 (aJ 7 rnB) (DQ u nm k s p un (99+0) (base++(un.take 0).map IntKind.u8.wrap) (0:Int)) .normal ⟨ag 47 [(3,.sl 1 0 0 1 (99+A un) (99+A un) I Z)],(DQ u nm k s p un (99+A un) (base++un.map IntKind.u8.wrap) 0).h,Z⟩:=by
   refine Tr.loop 0 rfl (λj=>DQ u nm k s p un (99+j) (base++(un.take j).map IntKind.u8.wrap) (j:Int)) (A un) (λj f=>?_) ?_
   ·have e:=akn u nm k s p un (99+j) (base++(un.take j).map IntKind.u8.wrap) j
    rw[aaq,dm (by omega),aeH,Wa f,Nat.add_assoc] at e
    refine Tr.bg (iO [(34,Z)]) 60 _ 2 (aaH _) (s':=DQ u nm k s p un (99+(j+1)) (base++(un.take (j+1)).map IntKind.u8.wrap) ((j+1:Nat):Int)) _ e (acv ..) ?_
    rw[g8 f,bW f,aaq]
    simp[av,f,o,agK (Nat.le_of_lt f)]
    omega
   ·have e:=ako u nm k s p un (99+A un) (base++(un.take (A un)).map IntKind.u8.wrap) (A un)
    rw[agW] at e ⊢
    exact Tr.bg (iO [(34,I)]) 60 _ 2 (aaH _) _ e (acw ..) (by rw[gV (aar _)];rfl)
  rw[List.take_zero,List.map_nil,acj] at d
  exact TrL.dV 7 (by decide) d (TrL.i8 (iO []) (aaH _) (Gg ..) rfl (by intro q;have:=ahV List.length q;revert this;decide))
 refine ak.mk (vs:=[.sl 1 0 0 1 (99+A un) (99+A un) I Z]) func126 rfl (x:=.ret) (s:=⟨ag 47 [(2,.sl 1 0 0 1 (99+A un) (99+A un) I Z)],(DQ u nm k s p un (99+A un) (cJ u nm k s p un) 0).h,Z⟩) ?_ (.inl rfl) rfl
 cases u with
 |true=>exact TrL.i6 (iO [(10,Z),(16,Z),(19,Z),(22,Z)]) (aaH _) (L8 Z nm k s p un) (by simp[av,g,i,l]) (by decide) rfl a
 |false=>exact TrL.i6 (iO [(10,I),(16,Z),(19,Z),(22,Z)]) (aaH _) (L9 I nm k s p un) (by simp[av,g,i,l]) (by decide) rfl a
end
def Gh:aK Q:=.val 126 _ func126 (by decide) rfl Z 0 (λvs=>match vs with
 | [.agg [.bool u,.int .i64 nm,.af .u8 32 k,.af .u8 32 s,.af .u8 32 p,.ro I .i64 un]]=>E (.ro Z .u8 (cJ u nm k s p un),[],C (A k=32)&&C (A s=32)&&C (A p=32)&&C (A un<=100))
 |_=>Y) λvs v new e=>by
 split at e
 ·simp only[Mf,aad,No,aac] at e;have⟨rfl,rfl,⟨⟨b,a⟩,c⟩,h4⟩:=e;exact AE b a c h4
 ·cases e
end Mk
end Go.Proofs.YthlnlcijnoadcaaGreatDoor
namespace Go.Sy
section
variable {k:Nat}
def bG.rz{t h o o'} i(hi:t[i]?=E (E (.nl (.slice Y 0 0)))) K ex wh:bG k ⟨t,h,o⟩ ⟨t.set i (E (.sl (A h) 0 0 1 0 0 ex wh)),h++[.b [.af K 0 []]],o'⟩:=
 λB e w m _ f R=>⟨e,rfl,⟨by simpa using f.1,λj v g a c=>by
  by_cases d:i=j
  ·subst d
   rw[acg (aaR.1 hi).1] at a
   simp only[Mf] at a
   subst a
   have l:=f.2 i _ g hi c
   exact .inl ⟨rfl,rfl,Y,l⟩
  ·rw[abI d] at a
   exact f.2 j v g a c⟩,by
  have:=R.nothing (ps:=[.af K 0 []]) (.inl rfl) rfl
  unfold cO at this
  rw[ae8 rfl] at this
  exact this⟩
end
end Go.Sy
namespace Go.Proofs.YthlnlcijnoadcaaGreatDoor
namespace Mk
open Sy Tr Wi S2
open Q2 (b7 mq By)
def Gi{u nm k s p}(b:A k=32)(c:A s=32)(d:A p=32):ak Q 126 [.agg [.bool u,.t6 nm,.t5 k,.t5 s,.t5 p,.nl (.slice Y 0 0)]] [] (.ro Z .u8 (cJ u nm k s p [])) []:=
 ak.conv (AE b c d (by simp)) ⟨VE.agg (PE.iM (ps:=[.bool u,.t6 nm,.t5 k,.t5 s,.t5 p]) rfl rfl (VE.xV I .i64)),trivial⟩ trivial (VE.refl _) trivial
def P0:aK Q:=.val 126 _ func126 (by decide) rfl Z 0 (λvs=>match vs with
 | [.agg [.bool u,.int .i64 nm,.af .u8 32 k,.af .u8 32 s,.af .u8 32 p,.nl (.slice Y 0 0)]]=>E (.ro Z .u8 (cJ u nm k s p []),[],C (A k=32)&&C (A s=32)&&C (A p=32))
 |_=>Y) λvs v new e=>by
 split at e
 ·simp only[Mf,aad,No,aac] at e;have⟨rfl,rfl,⟨a,c⟩,b⟩:=e;exact Gi a c b
 ·cases e
def fl(n:aE)(un:pD):pD:=cJ n.used n.name n.key n.bH n.cF un
def eD(un wo:pD):pD:=un.filter λu=>!Bn u wo
def mP(t:Nat->aE)(wo:pD):Nat->Nat->pD
 |0,x=>[1,((x/2:Nat):Int)]++bif Bn ((x/2:Nat):Int) wo then cJ I 0 cG cG cG [] else fl (t x) (t x).un
 |k+1,x=>(([2]++fl (t x) (eD (t x).un wo))++b7 (mP t wo k (x-2^k)))++b7 (mP t wo k (x+2^k))
def gY(t:Nat->aE)(wo:pD)(x:Int):pD:=mP t wo (l8 7 (O x)) (O x)
def sQ(N:Nat)(t:Nat->aE)(wo:pD)(x:Int)(k:Nat):Bool:=((t8 N).all λi=>C ((t i).un.length<=100))&&xW N&&C (0<=x)&&C (x<N)&&C (l8 7 (O x)<k)&&C (A wo<=274877906944)
def ta(k:Nat):Prop:=∀N(t:Nat->aE)a(x:Int),eo N t->sQ N t a x k=Z->
 ak Q 80 [.p4 I N t,.t6 x,.ro I .i64 a] [] (.ro Z .u8 (gY t a x)) []
def aAT k(f:ta k):aK Q:=.val 80 _ func80 (by decide) rfl Z 0 (λvs=>match vs with
 | [.aO I 99 N g,.int .i64 x,.ro I .i64 c]=>E (.ro Z .u8 (gY (ai g) c x),[],cX N g&&C (N<=71)&&sQ N (ai g) c x k)
 |_=>Y) λvs v new e=>by
 split at e
 ·simp only[Mf,aad,No,aac] at e;have⟨rfl,rfl,⟨b,h⟩,d⟩:=e;exact ak.conv (f _ _ _ _ (eo.of b h) d) ⟨VE.kM b,VE.refl _,VE.refl _,trivial⟩ trivial (VE.refl _) trivial
 ·cases e
def rdC k(a:ta k)(l:List (Nat×Bool)):cu:=mk [aAT k a,mq] [] (uT l)
def akq k(a:ta k) l:aq Q (rdC k a l):=au _ aN.nil _ _
def aAU N(t:Nat->aE) x(wo:pD) k(a:ta k):(aV Q (rdC k a []) 60 f36 [.p4 I N t,.t6 x,.ro I .i64 wo] []).v3=E (.sM (b7 (gY t wo x)),aa (aa Z (aa Z ((cX N λi=>ah (aA t i))&&C (N<=71)&&sQ N (ai λi=>ah (aA t i)) wo x k))) (aa Z (C (A (gY (ai λi=>ah (aA t i)) wo x)<274877900000)))):=by kernel_rfl
def je(xs:pD):A (b7 xs)=32:=by unfold b7;rw[bD];simp[E1]
def Wb{N t}(b:eo N t)(f:((t8 N).all λi=>C ((t i).un.length<=100))=Z) wo k x(a:x<N):A (mP t wo k x)<=300:=by
 have c:=agm (aaB.1 f x (aaI.2 a))
 have g:=je
 have d:∀un,A un<=100->A (fl (t x) un)<=199:=λun h=>by
  unfold fl cJ;simp[b.key x a,b.bH x a,b.cF x a];omega
 cases k with
 |zero=>
  unfold mP
  cases Bn ((x/2:Nat):Int) wo with
  |true=>simp[cJ]
  |false=>have:=d _ c;simp;omega
 |succ k=>
  unfold mP
  have:=d (eD (t x).un wo) (af3 (List.length_filter_le _ _) c)
  simp[g];omega
def Wc{k}(c:ta k){N t wo x}(b:eo N t)(h:sQ N t wo x k=Z):
  ak Q 36 [.p4 I N t,.t6 x,.ro I .i64 wo] [] (.sM (b7 (gY t wo x))) []:=by
 have a:cX N (λi=>ah (aA t i))=Z:=bU b
 have e:sQ N (ai λi=>ah (aA t i)) wo x k=Z:=h
 have f:A (gY (ai λi=>ah (aA t i)) wo x)<274877900000:=by
  unfold sQ at h
  simp only[No,aac] at h
  have⟨⟨⟨⟨⟨d,g⟩,l⟩,hx⟩,_⟩,_⟩:=h
  have⟨n,j,hN⟩:=oF g
  have:=Wb b d wo (l8 7 (O x)) (O x) (by omega)
  show(mP t wo (l8 7 (O x)) (O x)).length<_
  omega
 exact aP (akq k c []) 60 func36 (aAU N t x wo k c) (by rw[a,Me b.le,e,Me f];rfl) rfl
def aAV k(f:ta k):aK Q:=.val 36 _ func36 (by decide) rfl Z 0 (λvs=>match vs with
 | [.aO I 99 N g,.int .i64 x,.ro I .i64 c]=>E (.agg [.t5 (b7 (gY (ai g) c x))],[],cX N g&&C (N<=71)&&sQ N (ai g) c x k)
 |_=>Y) λvs v new e=>by
 split at e
 ·simp only[Mf,aad,No,aac] at e;have⟨rfl,rfl,⟨b,h⟩,d⟩:=e;exact ak.conv (Wc f (eo.of b h) d) ⟨VE.kM b,VE.refl _,VE.refl _,trivial⟩ trivial (VE.refl _) trivial
 ·cases e
def as6(l:List (Nat×Bool)):cu:=mk [akr,P0] [] (uT l)
def acz(l:List (Nat×Bool)):aq Q (as6 l):=au _ aN.nil _ _
def Jv(l:List (Nat×Bool)):cu:=mk [akr,Gh] [] (uT l)
def sr(l:List (Nat×Bool)):aq Q (Jv l):=au _ aN.nil _ _
def aks k(a:ta k)(l:List (Nat×Bool)):cu:=mk [mQ,aAV k a,Gh] [] (uT l)
def acA k(a:ta k)(l:List (Nat×Bool)):aq Q (aks k a l):=au _ aN.nil _ _
def rtB:Code:=aI f80
abbrev A5(n:aE)(v:SV):List Blk:=[.b [.bool n.used,.t6 n.name,.t5 n.key,.t5 n.bH,.t5 n.cF,v]]
def rtT(N:Nat)(t:Nat->aE)(x:Int)(wo:pD)(v:SV)(i:Int):List (Option SV):=ag 81 [(0,.p4 I N t),(1,.t6 x),(2,.ro I .i64 wo),(7,.r5 0),(8,v),(9,.t6 i)]
abbrev rtV(m:Nat):SV:=.sl 1 0 0 1 m m I Z
def Em(N:Nat)(t:Nat->aE)(x:Int)(wo:pD)(n:aE)(m:Nat)(ys:pD)(i:Int):St:=⟨rtT N t x wo (rtV m) i,A5 n (.ro I .i64 n.un)++[.b [.af .i64 m ys]],Z⟩
def Q6(N:Nat)(t:Nat->aE)(x:Int)(wo:pD):List (Option SV):=ag 81 [(0,.p4 I N t),(1,.t6 x),(2,.ro I .i64 wo),(7,.r5 0)]
def aAX N t x wo:(aV Q (as6 [(21,Z),(25,Z)]) 60 f80 [.p4 I N t,.t6 x,.ro I .i64 wo] [])=E (.sl 1 0 0 1 101 101 I Z,A5 ⟨I,0,cG,cG,cG,[]⟩ (.nl (.slice Y 0 0))++[.b [.af .u8 101 ([1,IntKind.u8.wrap (i64.wrap (x.tdiv 2))]++cJ I 0 cG cG cG [])]],aa (aa (aa (aa (aa (aa Z (bC x N)) (Z&&(C (O x<N)&&Z))) (x.tmod 2==0)) (aa Z (C (A wo<=274877906944)))) (Bn (i64.wrap (x.tdiv 2)) wo)) (aa (aa (aa Z (C (A (((t9 2 0).set 0 1).set (0+1+0) (IntKind.u8.wrap (i64.wrap (x.tdiv 2))))=2)&&Z)) (C (A (((t9 2 0).set 0 1).set (0+1+0) (IntKind.u8.wrap (i64.wrap (x.tdiv 2))))=2))) ((0+1).beq 1))):=by kernel_rfl
def aAY N t x wo:(aV Q (Jv [(21,Z),(25,I)]) 60 f80 [.p4 I N t,.t6 x,.ro I .i64 wo] [])=E (.sl 1 0 0 1 (2+A (fl (t x.toNat) (t x.toNat).un)) (2+A (fl (t x.toNat) (t x.toNat).un)) I Z,A5 (t (O x)) (.ro I .i64 (t (O x)).un)++[.b [.af .u8 (2+A (fl (t x.toNat) (t x.toNat).un)) ([1,IntKind.u8.wrap (i64.wrap (x.tdiv 2))]++fl (t (O x)) (t (O x)).un)]],aa (aa (aa (aa (aa (aa (aa Z (bC x N)) (Z&&(C (O x<N)&&Z))) (x.tmod 2==0)) (aa Z (C (A wo<=274877906944)))) !Bn (i64.wrap (x.tdiv 2)) wo) (aa Z (C ((t (O x)).key.length=32)&&C ((t (O x)).bH.length=32)&&C ((t (O x)).cF.length=32)&&C ((t (O x)).un.length<=100)))) (aa (aa (aa (aa Z (C (A (((t9 2 0).set 0 1).set (0+1+0) (IntKind.u8.wrap (i64.wrap (x.tdiv 2))))=2)&&Z)) (C (A (((t9 2 0).set 0 1).set (0+1+0) (IntKind.u8.wrap (i64.wrap (x.tdiv 2))))=2))) ((0+1).beq 1)) (C (2+A (cJ (t x.toNat).used (t x.toNat).name (t x.toNat).key (t x.toNat).bH (t x.toNat).cF (t x.toNat).un)<=2^38)))):=by kernel_rfl
def Wd N t x wo:aD (az [0,1,2,7,8,9] 1 ((bh Q (Jv [(21,I)]) 60 0 6 (aH rtB) ⟨aU f80.ntmps [.p4 I N t,.t6 x,.ro I .i64 wo],[],Z⟩).x3))=(E (.normal,rtT N t x wo (.nl (.slice Y 0 0)) 0,A5 (t (O x)) (.ro I .i64 (t (O x)).un)),(aa (aa (aa Z (bC x N)) (Z&&(C (O x<N)&&Z))) !x.tmod 2==0)):=by kernel_rfl
def aAZ N t x wo:=bu (Wd N t x wo)
def as7 N t x wo:=bz (Wd N t x wo)
def Ma N t x wo(n:aE) m ys i:aD (az [0,1,2,7,8,9] 2 (exec Q (Jv [(38,Z),(48,Z)]) 60 0 (aj (aj (aJ 6 rtB))) (Em N t x wo n m ys i)))=(E (.normal,(Em N t x wo n (m+1) (ys++[X n.un (O i) 0]) (i64.wrap (i+1))).t,(Em N t x wo n (m+1) (ys++[X n.un (O i) 0]) (i64.wrap (i+1))).h),(aa (aa (aa (aa (aa (aa (aa (aa Z (C (i<(A n.un:Int)))) (bC i (A n.un))) (C (O i<A n.un))) (aa Z (C (A wo<=274877906944)))) !Bn (X n.un (O i) 0) wo) (bC i (A n.un))) (C (O i<A n.un))) (aa (aa (aa Z (C (A ys=m)&&(C (m<=m)&&Z))) (C (A ys=m))) (C (m+1<=2^38))))):=by kernel_rfl
def as8 N t x wo n m ys i:=bu (Ma N t x wo n m ys i)
def aku N t x wo n m ys i:=bz (Ma N t x wo n m ys i)
def Mb N t x wo(n:aE) m ys i:aD (az [0,1,2,7,8,9] 2 (exec Q (Jv [(38,Z),(48,I)]) 60 0 (aj (aj (aJ 6 rtB))) (Em N t x wo n m ys i)))=(E (.normal,(Em N t x wo n m ys (i64.wrap (i+1))).t,(Em N t x wo n m ys (i64.wrap (i+1))).h),(aa (aa (aa (aa (aa Z (C (i<(A n.un:Int)))) (bC i (A n.un))) (C (O i<A n.un))) (aa Z (C (A wo<=274877906944)))) !!Bn (X n.un (O i) 0) wo)):=by kernel_rfl
def as9 N t x wo n m ys i:=bu (Mb N t x wo n m ys i)
def akv N t x wo n m ys i:=bz (Mb N t x wo n m ys i)
def We N t x wo(n:aE) m ys i:aD (az [0,1,2,7,8,9] 2 (exec Q (Jv [(38,I)]) 60 0 (aj (aj (aJ 6 rtB))) (Em N t x wo n m ys i)))=(E (.exit 0,(Em N t x wo n m ys i).t,(Em N t x wo n m ys i).h),(aa Z !C (i<(A n.un:Int)))):=by kernel_rfl
def aA0 N t x wo n m ys i:=bu (We N t x wo n m ys i)
def ata N t x wo n m ys i:=bz (We N t x wo n m ys i)
def Wf N t x wo(n:aE) m ys i:aD (az [0,1,2,7] 2 (exec Q (Jv []) 60 0 (aJ 7 rtB) (Em N t x wo n m ys i)))=(E (.normal,Q6 N t x wo,A5 n (rtV m)++[.b [.af .i64 m ys]]),(Z)):=by kernel_rfl
def Wg N t x wo(n:aE) un k(c:ta k):aD (az [6] 4 (eM Q (aks k c [(78,Z),(80,Z)]) 60 0 ((aH rtB).drop 8) ⟨Q6 N t x wo,A5 n (.ro I .i64 un),Z⟩))=(E (.ret,ag 81 [(6,.sl 3 0 0 1 (1+A (fl n un)+32+32) (1+A (fl n un)+32+32) I Z)],A5 n (.ro I .i64 un)++[.b [.t5 (b7 (gY t wo (bk x)))],.b [.t5 (b7 (gY t wo (aW x)))],.b [.af .u8 (1+A (fl n un)+32+32) ((([2]++fl n un)++b7 (gY t wo (bk x)))++b7 (gY t wo (aW x)))]]),(aa (aa (aa (aa (aa (aa (aa Z (aa Z (C (0<=x)&&C (x<64)))) (aa Z ((cX N λi=>ah (aA t i))&&C (N<=71)&&sQ N (ai λi=>ah (aA t i)) wo (bk x) k))) (aa Z ((cX N λi=>ah (aA t i))&&C (N<=71)&&sQ N (ai λi=>ah (aA t i)) wo (aW x) k))) (aa Z (C (A n.key=32)&&C (A n.bH=32)&&C (A n.cF=32)&&C (A un<=100)))) (aa Z (C (1+A (cJ n.used n.name n.key n.bH n.cF un)<=2^38)))) (aa (aa (aa (C (A (b7 (gY (ai λi=>ah (aA t i)) wo (bk x)))=32)&&Z) (C (A ((t9 1 0).set 0 2++cJ n.used n.name n.key n.bH n.cF un)=1+A (cJ n.used n.name n.key n.bH n.cF un))&&(C (1+A (cJ n.used n.name n.key n.bH n.cF un)<=1+A (cJ n.used n.name n.key n.bH n.cF un))&&Z))) (C (A ((t9 1 0).set 0 2++cJ n.used n.name n.key n.bH n.cF un)=1+A (cJ n.used n.name n.key n.bH n.cF un)))) (C ((1+A (cJ n.used n.name n.key n.bH n.cF un)+32)<=2^38)))) (aa (aa (aa (C (A (b7 (gY (ai λi=>ah (aA t i)) wo (aW x)))=32)&&Z) (C (A ((t9 1 0).set 0 2++cJ n.used n.name n.key n.bH n.cF un++b7 (gY (ai λi=>ah (aA t i)) wo (bk x)))=1+A (cJ n.used n.name n.key n.bH n.cF un)+32)&&(C ((1+A (cJ n.used n.name n.key n.bH n.cF un)+32)<=1+A (cJ n.used n.name n.key n.bH n.cF un)+32)&&Z))) (C (A ((t9 1 0).set 0 2++cJ n.used n.name n.key n.bH n.cF un++b7 (gY (ai λi=>ah (aA t i)) wo (bk x)))=1+A (cJ n.used n.name n.key n.bH n.cF un)+32))) (C (((1+A (cJ n.used n.name n.key n.bH n.cF un)+32)+32)<=2^38))))):=by kernel_rfl
def aA2 N t x wo n un k ih:=bu (Wg N t x wo n un k ih)
def atc N t x wo n un k ih:=bz (Wg N t x wo n un k ih)
def aA3 N t x wo(n:aE) un m:St.fz 1 ⟨Q6 N t x wo,A5 n (rtV m)++[.b [.af .i64 m un]],Z⟩=E (⟨Q6 N t x wo,A5 n (.ro Z .i64 un)++[.b []],Z⟩,aa (C (A un=m)) (aa ((Q6 N t x wo).all λo=>match o with|some v=>qp 1 m v|none=>Z) (qj 1 m (A5 n (rtV m)++[.b [.af .i64 m un]]) 0))):=by kernel_rfl
def akw N t x wo n un:bG 0 ⟨Q6 N t x wo,A5 n (rtV (A un))++[.b [.af .i64 (A un) un]],Z⟩ ⟨Q6 N t x wo,A5 n (.ro I .i64 un),Z⟩:=by
 have e:=aA3 N t x wo n un (A un)
 have e2:qj 1 (A un) (A5 n (rtV (A un))++[.b [.af .i64 (A un) un]]) 0=Z:=by simp[qj,DP,qp,qk,av]
 have c:((Q6 N t x wo).all λo=>match o with|some v=>qp 1 (A un) v|none=>Z)=Z:=by kernel_rfl
 rw[e2,c,Me rfl] at e
 refine(bG.freeze (aaH _) e).trans ?_
 refine(bG.dS (n:=1) (aaH _) (s':=⟨Q6 N t x wo,A5 n (.ro Z .i64 un),Z⟩) rfl).trans ?_
 exact bG.tD ⟨PE.iM (ps:=[.bool n.used,.t6 n.name,.t5 n.key,.t5 n.bH,.t5 n.cF]) rfl rfl (VE.Ju Z .i64 un),trivial⟩
def Jw{un wo j}(h:j<A un):eD (un.take (j+1)) wo=eD (un.take j) wo++bif Bn (X un j 0) wo then[] else[X un j 0]:=by unfold eD;rw[List.take_add_one,List.filter_append,aaQ h,Option.toList_some,List.filter_cons,dh h];cases Bn un[j] wo<;>rfl
section
variable {N:Nat} {t:Nat->aE} {wo:pD}
def DR{k}(c:((t8 N).all λi=>C ((t i).un.length<=100))=Z)(d:xW N=Z)(a:A wo<=274877906944){y}(e:y<N)(b:l8 7 y<k):sQ N t wo (y:Int) k=Z:=by unfold sQ;rw[c,d,aaq,Me b,Me (show(y:Int)<N by omega),Me (show(0:Int)<=y by omega),Me a];rfl
def acD{x n}(d:A wo<=274877906944)(i:A n.un<=100):Tr Q Y 0 (aJ 6 rtB) (Em N t x wo n 0 [] 0) .normal (Em N t x wo n (A (eD n.un wo)) (eD n.un wo) (A n.un)):=by
 have c:Tr Q Y 0 (aJ 6 rtB) (Em N t x wo n (A (eD (n.un.take 0) wo)) (eD (n.un.take 0) wo) (0:Int)) .normal (Em N t x wo n (A (eD n.un wo)) (eD n.un wo) (A n.un)):=by
  refine Tr.loop 0 rfl (λj=>Em N t x wo n (A (eD (n.un.take j) wo)) (eD (n.un.take j) wo) (j:Int)) (A n.un) (λj a=>?_) ?_
  ·have b:A (eD (n.un.take j) wo)<=100:=by
    have:=List.length_filter_le (λu=>!Bn u wo) (n.un.take j)
    rw[afN] at this
    unfold eD;omega
   have f:=Jw (wo:=wo) a
   generalize eD (n.un.take j) wo=ys at b f ⊢
   rw[f]
   cases g:Bn (X n.un j 0) wo with
   |true=>
    rw[_root_.cond_true,acj]
    have e:=as9 N t x wo n (A ys) ys j
    rw[dm (by omega)] at e
    exact Tr.bg (sr [(38,Z),(48,I)]) 60 _ 2 (aaH _) _ e (akv ..) (by rw[g8 a,bW a,aaq,Me a,Me d,g];rfl)
   |false=>
    rw[_root_.cond_false,abA]
    have e:=as8 N t x wo n (A ys) ys j
    rw[dm (by omega),aaq] at e
    exact Tr.bg (sr [(38,Z),(48,Z)]) 60 _ 2 (aaH _) _ e (aku ..) (by rw[g8 a,bW a,aaq,Me a,Me d,g,Me (Eq.refl (A ys)),Me (aar (A ys)),Me (by omega)];rfl)
  ·have e:=aA0 N t x wo n (A (eD n.un wo)) (eD n.un wo) (A n.un)
   rw[agW]
   exact Tr.bg (sr [(38,I)]) 60 _ 2 (aaH _) _ e (ata N t x wo n _ _ _) (by rw[gV (aar _)];rfl)
 exact c
theorem Wh:∀k,ta k:=by
 intro k
 induction k with
 |zero=>intro N t wo x m h;simp[sQ] at h
 |succ k ih=>
  intro N t wo x m h
  unfold sQ at h
  simp only[No,aac] at h
  obtain⟨⟨⟨⟨⟨hu,ht⟩,h0⟩,d⟩,hk⟩,hw⟩:=h
  obtain⟨y,rfl⟩:=ac7 h0
  rw[aaq] at hk
  have d:y<N:=by omega
  obtain⟨n,hn,hN⟩:=oF ht
  have hs:=cn hn
  have g:bC (y:Int) N=Z:=bW d
  have f:=agm (aaB.1 hu y (aaI.2 d))
  obtain⟨f1,f2⟩:=L6 (x:=y) (by omega)
  have lk:=m.key y d
  have lg:=m.bH y d
  have lp:=m.cF y d
  have p:∀un,un.length<=100->(fl (t y) un).length<=199:=λun h=>by
   unfold fl cJ;simp[lk,lg,lp];omega
  cases l:l8 7 y with
  |zero=>
   have c:((y:Int).tmod 2==0)=Z:=by
    rw[Jx]
    unfold l8 at l
    split at l
    ·omega
    ·rename_i hq;have:y%2≠1:=λq=>hq q;have:=Nat.mod_two_eq_zero_or_one y;simp;omega
   have hV:gY t wo (y:Int)=mP t wo 0 y:=by unfold gY;rw[aaq,l]
   rw[hV,mP]
   cases hb:Bn ((y/2:Nat):Int) wo with
   |true=>
    have e:=aAX N t y wo
    rw[f2,f1,hb,g,aaq,Me d,c,Me hw] at e
    rw[_root_.cond_true]
    have a:([1,((y/2:Nat):Int)]++cJ I 0 cG cG cG []).length=101:=by simp[cJ]
    generalize [1,((y/2:Nat):Int)]++cJ I 0 cG cG cG []=L at e a
    refine ak.sn (ex:=I) (wh:=Z) (N:=101) (ak.yY (v:=.sl 1 0 0 1 101 101 I Z) (h1:=A5 ⟨I,0,cG,cG,cG,[]⟩ (.nl (.slice Y 0 0))++[.b [.af .u8 101 L]]) [1] ?_ rfl) a
    exact ak.bZ (acz [(21,Z),(25,Z)]) func80 (n:=60) e
   |false=>
    have e:=aAY N t y wo
    have hB:=p _ f
    rw[f2,f1,hb,g,aaq,Me d,c,Me hw,Me lk,Me lg,Me lp,Me f,show(cJ (t y).used (t y).name (t y).key (t y).bH (t y).cF (t y).un)=fl (t y) (t y).un from rfl] at e
    rw[_root_.cond_false]
    generalize fl (t y) (t y).un=W at e hB
    rw[Me (show 2+W.length<=2^38 by omega)] at e
    have a:([1,((y/2:Nat):Int)]++W).length=2+W.length:=by simp;omega
    generalize [1,((y/2:Nat):Int)]++W=L at e a
    refine ak.sn (ex:=I) (wh:=Z) (N:=2+W.length) (ak.yY (v:=.sl 1 0 0 1 (2+W.length) (2+W.length) I Z) (h1:=A5 (t y) (.ro I .i64 (t y).un)++[.b [.af .u8 (2+W.length) L]]) [1] ?_ rfl) a
    exact ak.bZ (sr [(21,Z),(25,I)]) func80 (n:=60) e
  |succ j=>
   have c:(((y:Nat):Int).tmod 2==0)=I:=by
    rw[Jx]
    unfold l8 at l
    split at l
    ·rename_i hq;simp[hq]
    ·omega
   obtain⟨h1,h2,h3,h4,h5,h6,h7⟩:=mO hn (hN▸d) l
   have hV:gY t wo (y:Int)=(([2]++fl (t y) (eD (t y).un wo))++b7 (gY t wo ((y-2^j:Nat):Int)))++b7 (gY t wo ((y+2^j:Nat):Int)):=by
    unfold gY;rw[aaq,aaq,aaq,l,h5,h6,mP]
   have hok:cX N (λi=>ah (aA t i))=Z:=bU m
   have r1:sQ N (ai λi=>ah (aA t i)) wo ((y-2^j:Nat):Int) k=Z:=DR (t:=t) hu ht hw (by omega) (by omega)
   have r2:sQ N (ai λi=>ah (aA t i)) wo ((y+2^j:Nat):Int) k=Z:=DR (t:=t) hu ht hw (by omega) (by omega)
   have hkl:(eD (t y).un wo).length<=100:=af3 (List.length_filter_le _ _) f
   have hB:=p _ hkl
   have eh:=aAZ N t y wo
   have eh':=as7 N t y wo
   rw[aaq] at eh
   have ef:=aA2 N t (y:Int) wo (t y) (eD (t y).un wo) k ih
   have u:=atc N t (y:Int) wo (t y) (eD (t y).un wo) k ih
   rw[h1,h2] at ef u
   rw[hV]
   have q1:=je (gY t wo ((y-2^j:Nat):Int))
   have q2:=je (gY t wo ((y+2^j:Nat):Int))
   have a:((([2]++fl (t y) (eD (t y).un wo))++b7 (gY t wo ((y-2^j:Nat):Int)))++b7 (gY t wo ((y+2^j:Nat):Int))).length=1+(fl (t y) (eD (t y).un wo)).length+32+32:=by simp only[abA,agM,List.length_nil,q1,q2]
   generalize hL:(([2]++fl (t y) (eD (t y).un wo))++b7 (gY t wo ((y-2^j:Nat):Int)))++b7 (gY t wo ((y+2^j:Nat):Int))=L at ef a ⊢
   have cY:uF (az [6] 4 (eM Q (aks k ih [(78,Z),(80,Z)]) 60 0 ((aH rtB).drop 8) ⟨Q6 N t y wo,A5 (t y) (.ro I .i64 (eD (t y).un wo)),Z⟩))=Z:=by
    refine u.trans ?_
    have q1':(b7 (gY (ai λi=>ah (aA t i)) wo ((y-2^j:Nat):Int))).length=32:=q1
    have q2':(b7 (gY (ai λi=>ah (aA t i)) wo ((y+2^j:Nat):Int))).length=32:=q2
    rw[hok,r1,r2,Me m.le,q1',q2']
    unfold fl at hB
    have q3:=je (gY (ai λi=>ah (aA t i)) wo ((y-2^j:Nat):Int))
    generalize b7 (gY (ai λi=>ah (aA t i)) wo ((y-2^j:Nat):Int))=A at q3 ⊢
    generalize cJ (t y).used (t y).name (t y).key (t y).bH (t y).cF (eD (t y).un wo)=W at hB ⊢
    simp only[av,No,aac,abA,q3,lk,lg,lp]
    simp
    omega
   generalize 1+(fl (t y) (eD (t y).un wo)).length+32+32=M at ef a
   refine ak.sn (ex:=I) (wh:=Z) (N:=M) (ak.yY (v:=.sl 3 0 0 1 M M I Z) (h1:=A5 (t y) (.ro I .i64 (eD (t y).un wo))++[.b [.t5 (b7 (gY t wo ((y-2^j:Nat):Int)))],.b [.t5 (b7 (gY t wo ((y+2^j:Nat):Int)))],.b [.af .u8 M L]]) [3] ?_ rfl) a
   refine ak.mk (vs:=[.sl 3 0 0 1 M M I Z]) func80 rfl (x:=.ret) (s:=⟨ag 81 [(6,.sl 3 0 0 1 M M I Z)],A5 (t y) (.ro I .i64 (eD (t y).un wo))++[.b [.t5 (b7 (gY t wo ((y-2^j:Nat):Int)))],.b [.t5 (b7 (gY t wo ((y+2^j:Nat):Int)))],.b [.af .u8 M L]],Z⟩) ?_ (.inl rfl) (by kernel_rfl)
   refine TrL.bY (sr [(21,I)]) 60 6 _ 1 (aaH _) (s1:=⟨rtT N t y wo (.nl (.slice Y 0 0)) 0,A5 (t y) (.ro I .i64 (t y).un),Z⟩) _ eh eh' ?_ (by decide) rfl ?_
   ·rw[g,aaq,Me d,c];rfl
   refine TrL.pre (s1:=Em N t y wo (t y) 0 [] 0) ?_ ((bG.rz 8 (by kernel_rfl) .i64 I Z).trans (bG.bR (by kernel_rfl) rfl)) (by intro q;have:=ahV List.length q;revert this;decide)
   refine TrL.dV 6 (by decide) (acD hw f) ?_
   refine TrL.dV 7 (by decide) (s1:=⟨Q6 N t y wo,A5 (t y) (.ro I .i64 (eD (t y).un wo)),Z⟩) (Tr.post (Tr.i7 (s':=⟨Q6 N t y wo,A5 (t y) (rtV (eD (t y).un wo).length)++[.b [.af .i64 (eD (t y).un wo).length (eD (t y).un wo)]],Z⟩) (sr []) (aaH _) (Wf N t y wo (t y) _ _ _) rfl) (akw N t y wo (t y) _)) ?_
   exact TrL.qz (acA k ih [(78,Z),(80,Z)]) 60 _ 4 (aaH _) _ ef cY rfl (by intro q;have:=ahV List.length q;revert this;decide)
end
end Mk
namespace Mk
open Sy Tr Wi S2
open Q2 (b7 mq By ju)
def acE:((t8 256).all λx=>ja (x:Int)==(x:Int)&&IntKind.u8.wrap (x:Int)==(x:Int))=Z:=by decide+kernel
def xb{x}(a:0<=x)(h1:x<=255):ja x=x/\IntKind.u8.wrap x=x:=by obtain⟨y,rfl⟩:=ac7 a;have:=aaB.1 acE y (aaI.2 (by omega));simpa only[No,afP] using this
def yL{n un}(h:rG n un=Z):uk n un=fl n un:=by
 unfold rG Wi.bf at h
 simp only[No,aac] at h
 have⟨⟨⟨⟨⟨⟨⟨⟨e,g⟩,i⟩,h0⟩,a⟩,hu⟩,f⟩,hl⟩,d⟩:=h
 unfold uk fl cW cJ tf
 have e1:=xb h0 a
 have e2:=xb (x:=(A un:Int)) (by omega) (by omega)
 have b:un.map ja=un.map IntKind.u8.wrap:=aiw λu c=>by
  have:=aaB.1 hu u c
  simp only[No,aac] at this
  have:=xb this.1 (by omega)
  rw[this.1,this.2]
 rw[e1.1,e2.1,b,ZY,e1.2,e2.2]
 simp
def kB{a b}(d:By a)(c:By b):By (a++b):=λx e=>(agl.1 e).elim (d x) (c x)
def Jy{n un}(h:rG n un=Z)(b:n.OK):By (fl n un):=by
 unfold rG Wi.bf at h
 simp only[No,aac] at h
 have⟨⟨⟨⟨⟨⟨⟨⟨f,i⟩,j⟩,h0⟩,c⟩,hu⟩,g⟩,hl⟩,e⟩:=h
 unfold fl cJ ZY
 have e1:=xb h0 c
 have e2:=xb (x:=(A un:Int)) (by omega) (by omega)
 refine kB (kB (kB (kB (kB ?_ b.key.2) b.bH.2) b.cF.2) ?_) ?_
 ·intro x a
  rw[e1.2] at a
  simp only[af7,ajy,or_false] at a
  rcases a with rfl|rfl
  ·cases n.used<;>decide
  ·omega
 ·intro x a
  rw[e2.2] at a
  simp only[af7,ajy,or_false] at a
  subst a;omega
 ·intro x a
  obtain⟨u,d,rfl⟩:=ajj.1 a
  have:=aaB.1 hu u d
  simp only[No,aac] at this
  rw[(xb this.1 (by omega)).2];omega
def acF un wo:eD un wo=dn un wo:=by unfold eD dn;congr 1;funext u;rw[DS]
abbrev AF:aE:=⟨I,0,cG,cG,cG,[]⟩
def P1:AF.OK:=⟨by decide,by decide,by decide,by decide,by decide⟩
def AG:rG AF []=Z:=by decide+kernel
def AH l:By (cI l):=rT l
section
variable {N n:Nat} {t:Nat->aE} {wo:pD}
def acG(o:n∈bn)(hN:N=2*n-1)(hB:((t8 N).all λi=>rG (t i) (t i).un&&rG (t i) (dn (t i).un wo))=Z)(s:∀i,i<N->(t i).OK):
  ∀k x,x<N->l8 7 x=k->By (mP t wo k x)/\A (mP t wo k x)<=300/\rF t wo k x=b7 (mP t wo k x):=by
 have K:=cn o
 have b:∀m(un:pD),rG m un=Z->A (fl m un)<=131:=λm un h=>yL h▸vO h
 intro k
 induction k with
 |zero=>
  intro x c l
  have g:=aaB.1 hB x (aaI.2 c)
  rw[No] at g
  have e:By [1,(x/2:Int)]:=by
   intro z d
   simp only[af7,ajy,or_false] at d
   rcases d with rfl|rfl<;>omega
  have a:By (mP t wo 0 x)/\A (mP t wo 0 x)<=300/\[[1,((x/2:Nat):Int)],B3 t wo x].flatten=mP t wo 0 x:=by
   unfold mP B3
   rw[DS]
   cases fy wo ((x/2:Nat):Int) with
   |true=>
    have q:=b _ _ AG
    refine⟨kB e (Jy AG P1),?_,?_⟩
    ·show([1,(x/2:Int)]++fl AF []).length<=300
     simp only[abA,agM,List.length_nil];omega
    ·show[1,((x/2:Nat):Int)]++(uk AF []++[])=[1,((x/2:Nat):Int)]++fl AF []
     rw[yL AG,acj]
   |false=>
    have q:=b _ _ g.1
    refine⟨kB e (Jy g.1 (s x c)),?_,?_⟩
    ·show([1,((x/2:Nat):Int)]++fl (t x) (t x).un).length<=300
     simp only[abA,agM,List.length_nil];omega
    ·show[1,((x/2:Nat):Int)]++(uk (t x) (t x).un++[])=[1,((x/2:Nat):Int)]++fl (t x) (t x).un
     rw[yL g.1,acj]
  refine⟨a.1,a.2.1,?_⟩
  rw[rF,a.2.2]
  exact ju a.1 (by omega)
 |succ k p=>
  intro x c l
  have⟨e,G,F,H,v,u,J⟩:=mO o (hN▸c) l
  have g:=aaB.1 hB x (aaI.2 c)
  rw[No] at g
  have⟨B,_,j⟩:=p (x-2^k) (by omega) v
  have⟨D,_,r⟩:=p (x+2^k) (by omega) u
  have q:=b _ _ g.2
  have y:By (b7 (mP t wo k (x-2^k))):=by rw[<-j];cases k<;>exact AH _
  have w:By (b7 (mP t wo k (x+2^k))):=by rw[<-r];cases k<;>exact AH _
  have a:By (mP t wo (k+1) x)/\A (mP t wo (k+1) x)<=300/\[[2],uk (t x) (dn (t x).un wo),rF t wo k (x-2^k),rF t wo k (x+2^k)].flatten=mP t wo (k+1) x:=by
   rw[mP,acF,j,r,yL g.2]
   refine⟨kB (kB (kB (by intro z d;simp at d;omega) (Jy g.2 (s x c))) y) w,?_,?_⟩
   ·simp only[abA,agM,List.length_nil,je];omega
   ·simp only[List.flatten_cons,List.flatten_nil,acj,aeH]
  refine⟨a.1,a.2.1,?_⟩
  rw[rF,a.2.2]
  exact ju a.1 (by omega)
def akx(a:eo N t)(h:bq N t=Z)(b:A wo<=274877906944)(e:∀i,i<N->(t i).OK){x:Int}(d:0<=x)(h1:x<N):b7 (gY t wo x)=eu t wo x:=by have⟨n,c,_,hN,f⟩:=jw a h;have q:=B6 a h b d h1;unfold oE at q;simp only[No] at q;exact(acG c hN q.1.1.1.1.1 e (l8 7 (O x)) (O x) (by omega) rfl).2.2.symm
def Wj(d:eo N t)(h:bq N t=Z)(a:A wo<=274877906944){x:Int}(c:0<=x)(h1:x<N):sQ N t wo x 8=Z:=by have⟨b,f⟩:=AB d h;obtain⟨y,rfl⟩:=ac7 c;refine DR (aaB.2 λi e=>Me ?_) f a (by omega) (by have:=AD 7 y;omega);have:=(Gj b (aaI.1 e)).1;omega
end
def oJ(N:Nat)(t:Nat->aE):Bool:=(t8 N).all λi=>(t i).key.all (λz=>C (0<=z)&&C (z<256))&&(t i).bH.all (λz=>C (0<=z)&&C (z<256))&&(t i).cF.all (λz=>C (0<=z)&&C (z<256))&&C ((Lit.int .i64 (t i).name).wf=Z)&&(t i).un.all λz=>(Lit.int .i64 z).wf
def DT{N t}(b:eo N t)(h:oJ N t=Z):∀i,i<N->(t i).OK:=λi a=>by have:=aaB.1 h i (aaI.2 a);simp only[No,aaB,aac] at this;have⟨⟨⟨⟨c,f⟩,d⟩,g⟩,e⟩:=this;exact⟨g,⟨b.key i a,c⟩,⟨b.bH i a,f⟩,⟨b.cF i a,d⟩,e⟩
def aas{N t}(h:∀i,i<N->(t i).OK):oJ N t=Z:=aaB.2 λi a=>by have g:=h i (aaI.1 a);simp only[No,aaB,aac];exact⟨⟨⟨⟨g.key.2,g.bH.2⟩,g.cF.2⟩,g.name⟩,g.un⟩
def Wk:aK Q:=.val 36 _ func36 (by decide) rfl Z 0 (λvs=>match vs with
 | [.aO I 99 N g,.int .i64 x,.ro I .i64 wo]=>E (.sM (eu (ai g) wo x),[],cX N g&&C (N<=71)&&C (A wo<=274877906944)&&L7 N (ai g) x&&oJ N (ai g))
 |_=>Y) λvs v new e=>by
 split at e
 ·simp only[Mf,aad,No,aac] at e
  have⟨rfl,rfl,⟨⟨⟨d,h2⟩,h⟩,h4⟩,h5⟩:=e
  unfold L7 at h4
  simp only[No,aac] at h4
  have⟨⟨c,i⟩,f⟩:=h4
  have b:=eo.of d h2
  rw[<-akx b f h (DT b h5) c i]
  exact ak.conv (Wc (Wh 8) b (Wj b f h c i)) ⟨VE.kM d,VE.refl _,VE.refl _,trivial⟩ trivial (VE.refl _) trivial
 ·cases e
def P2(k r:Nat)(b:Bool):St:=⟨ag k [(r,.bool b)],[],Z⟩
section
variable {N M:Nat} {t u:Nat->aE}
end
end Mk
end Go.Proofs.YthlnlcijnoadcaaGreatDoor
namespace Go.Sy
section
variable {P:Program}
def PE.atd z{ps}(d:aC ps=z)(c:dI ps=Z):PE [.aF z 1 λ_=>ps] ps:=by refine⟨by simp[aC,kf,d],λe l q=>?_⟩;obtain⟨g,k,i,f,b,rfl⟩:=PR.jO.1 q;rw[PR] at b;subst b;have:=f 0 (by omega);rw[Nat.zero_mul,agE,aaT (by omega)] at this;rw[acj];exact PR.cN (e:=⟨λ_=>Y,e.z,e.n0,[],λ_=>Y⟩) (e':=e) (λ_ _ h=>h) (aar _) ps g (λj p a _=>by rw[e6 c] at a;cases a) this
end
end Go.Sy
namespace Go.Proofs.YthlnlcijnoadcaaGreatDoor
namespace Mk
open Sy Tr Wi S2
abbrev Jz(u:Bool)(nm:Int)(k s p:pD):aE:=⟨u,nm,k,s,p,[]⟩
abbrev sR(u:Bool)(nm:Int)(k s p:pD):List SV:=[.bool u,.t6 nm,.t5 k,.t5 s,.t5 p,.nl (.slice Y 0 0)]
section
variable {N:Nat} {t:Nat->aE} {x:Int} {wo:pD}
