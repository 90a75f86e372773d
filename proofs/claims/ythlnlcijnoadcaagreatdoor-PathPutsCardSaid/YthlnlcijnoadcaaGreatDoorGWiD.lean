/- This file holds the texts WiC, WiD, a section each. No conditions beyond those in the theorems. -/
import Derived.Test.YthlnlcijnoadcaaGreatDoorGWiB
noncomputable section
open Go.Proofs.Tryz
open Go.IntKind (i64 u8 u64 u32)
set_option linter.all false
set_option maxRecDepth 100000
section
namespace Go.Proofs.YthlnlcijnoadcaaGreatDoor.Wi
open Go Go.Sy Tr
theorem Uo (nm:Int) (k s p un:List Int):(aG prog (E9 [(9,true),(15,true),(21,true),(27,true)]) 60 f202 [pM false nm k s p un] []).map (λx=>(x.1,x.2.2))=some (.bool ((un.length:Int)==0),aa (aa (aa (aa (aa (aa (aa true (nm==0)) (decide (k.length=32))) (decide (k=List.replicate 32 0))) (decide (s.length=32))) (decide (s=List.replicate 32 0))) (decide (p.length=32))) (decide (p=List.replicate 32 0))):=by kernel_rfl
def J7:Code:=aP f203
def C7 (un:List Int) (i:Int):St:=⟨slotsOf 24 [(0,.ro false .i64 un),(5,.int .i64 un.length),(6,.int .i64 i)],[],true⟩
def wrF (b:Bool):St:=⟨slotsOf 24 [(2,.bool b)],[],true⟩
theorem N0 (un:List Int):aA (ah [0,5,6] 0 ((aE prog (E9 []) 60 0 2 (atoms J7) ⟨aD f203.ntmps [.ro false .i64 un],[],true⟩).map λs=>(Exit.normal,s)))=some (.normal,(C7 un 0).t,[]):=by kernel_rfl
theorem JN (un:List Int):aZ (ah [0,5,6] 0 ((aE prog (E9 []) 60 0 2 (atoms J7) ⟨aD f203.ntmps [.ro false .i64 un],[],true⟩).map λs=>(Exit.normal,s)))=(true):=by kernel_rfl
theorem ae4 (un:List Int) (i:Int):aA (ah [0,5,6] 0 (exec prog (E9 [(7,true),(10,false)]) 60 0 (inner (inner (au 2 J7))) (C7 un i)))=some (.normal,(C7 un (i64.wrap (i+1))).t,[]):=by kernel_rfl
theorem ZN (un:List Int) (i:Int):aZ (ah [0,5,6] 0 (exec prog (E9 [(7,true),(10,false)]) 60 0 (inner (inner (au 2 J7))) (C7 un i)))=(aa (aa true (decide (i<((un.length:Nat):Int)))) !decide (i>0)):=by kernel_rfl
theorem ZO (un:List Int) (i:Int):aA (ah [0,5,6] 0 (exec prog (E9 [(7,true),(10,true),(21,false)]) 60 0 (inner (inner (au 2 J7))) (C7 un i)))=some (.normal,(C7 un (i64.wrap (i+1))).t,[]):=by kernel_rfl
theorem Up (un:List Int) (i:Int):aZ (ah [0,5,6] 0 (exec prog (E9 [(7,true),(10,true),(21,false)]) 60 0 (inner (inner (au 2 J7))) (C7 un i)))=(aa (aa (aa (aa (aa (aa (aa true (decide (i<((un.length:Nat):Int)))) (decide (i>0))) (aX i un.length)) (decide (i.toNat<un.length))) (aX (i64.wrap (i-1)) un.length)) (decide ((i64.wrap (i-1)).toNat<un.length))) !decide (un.getD i.toNat 0<=un.getD (i64.wrap (i-1)).toNat 0)):=by kernel_rfl
theorem ZP (un:List Int) (i:Int):aA (ah [2] 0 (exec prog (E9 [(7,true),(10,true),(21,true)]) 60 0 (inner (inner (au 2 J7))) (C7 un i)))=some (.ret,(wrF false).t,[]):=by kernel_rfl
theorem Uq (un:List Int) (i:Int):aZ (ah [2] 0 (exec prog (E9 [(7,true),(10,true),(21,true)]) 60 0 (inner (inner (au 2 J7))) (C7 un i)))=(aa (aa (aa (aa (aa (aa (aa true (decide (i<((un.length:Nat):Int)))) (decide (i>0))) (aX i un.length)) (decide (i.toNat<un.length))) (aX (i64.wrap (i-1)) un.length)) (decide ((i64.wrap (i-1)).toNat<un.length))) (decide (un.getD i.toNat 0<=un.getD (i64.wrap (i-1)).toNat 0))):=by kernel_rfl
theorem Ur (un:List Int) (i:Int):aA (ah [] 0 (exec prog (E9 [(7,false)]) 60 0 (inner (inner (au 2 J7))) (C7 un i)))=some (.exit 0,slotsOf 24 [],[]):=by kernel_rfl
theorem N1 (un:List Int) (i:Int):aZ (ah [] 0 (exec prog (E9 [(7,false)]) 60 0 (inner (inner (au 2 J7))) (C7 un i)))=(aa true !decide (i<((un.length:Nat):Int))):=by kernel_rfl
def U3 (un:List Int) (i:Nat):Bool:=!(decide (i>0)&&decide (un.getD i 0<=un.getD (i-1) 0))
theorem ET {un:List Int} (h:un.length<=274877906944):ai prog 203 [.ro false .i64 un] [] (.bool ((List.range un.length).all (U3 un))) []:=by
 have key:=ai.scan (P:=prog) (args:=[.ro false .i64 un]) (h:=[]) (h':=[]) func203 rfl 2 0 (λj:Nat=>C7 un j) (U3 un) un.length
  (λx s' g=>aV.bk (oD []) 60 2 _ 0 (by simp) _ (N0 un) (JN un) rfl (by decide) rfl g) (by decide) (by kernel_rfl)
  (λi hi hb _=>?_) (λi=>wrF false) (λi=>[.bool false]) (λi hi hb _=>⟨?_,rfl,rfl⟩) (sE:=⟨slotsOf 24 [],[],true⟩) (uM:=wrF true) (vE:=[.bool true]) (xE:=.ret) (λ_=>?_) (λ_=>⟨?_,.inl rfl,rfl,rfl⟩)
 ·rw [bX (g:=SV.bool) (vF:=λ_:Nat=>false) (vE:=true)] at key
  have hv:bP (U3 un) un.length (λ_=>false) true=(List.range un.length).all (U3 un):=by
   unfold bP;rw [<-cY];cases b6 _ _<;>rfl
  rw [hv] at key;exact key
 ·by_cases h0:i=0
  ·subst h0
   have e:=ae4 un ((0:Nat):Int)
   rw [cq (by omega)] at e
   exact Tr.aR (oD [(7,true),(10,false)]) 60 _ 0 (aaf _) (s':=C7 un ((0+1:Nat):Int)) _ e (ZN un _) (by rw [fo hi];rfl)
  ·have e:=ZO un i
   rw [cq (by omega)] at e
   unfold U3 at hb
   rw [Me (show i>0 by omega),abb] at hb
   have hi2:i64.wrap ((i:Int)-1)=((i-1:Nat):Int):=by rw [cg (by omega) (by omega)];omega
   exact Tr.aR (oD [(7,true),(10,true),(21,false)]) 60 _ 0 (aaf _) (s':=C7 un ((i+1:Nat):Int)) _ e (Up un _) (by rw [hi2,aaa,aaa,fo hi,bf hi,bf (show i-1<un.length by omega),Me hi,Me (show i-1<un.length by omega),Me (show ((i:Nat):Int)>0 by omega),hb];rfl)
 ·unfold U3 at hb
  have hb':i>0/\decide (un.getD i 0<=un.getD (i-1) 0)=true:=by simpa using hb
  have hi2:i64.wrap ((i:Int)-1)=((i-1:Nat):Int):=by rw [cg (by omega) (by omega)];omega
  exact Tr.aR (oD [(7,true),(10,true),(21,true)]) 60 _ 0 (aaf _) (s':=wrF false) _ (ZP un _) (Uq un _) (by rw [hi2,aaa,aaa,fo hi,bf hi,bf (show i-1<un.length by omega),Me hi,Me (show i-1<un.length by omega),Me (show ((i:Nat):Int)>0 by omega),hb'.2];rfl)
 ·exact Tr.aR (oD [(7,false)]) 60 _ 0 (aaf _) (s':=⟨slotsOf 24 [],[],true⟩) _ (Ur un _) (N1 un _) (by rw [fA (aaf _)];rfl)
 ·exact aV.rest (oD []) 60 (by kernel_rfl) rfl
def vL (un:List Int):Bool:=(List.range un.length).all λi=>!(decide (i>0)&&decide (un.getD i 0<=un.getD (i-1) 0))
def ae5:Entry prog:=.val 203 _ func203 (by decide) rfl true 0 (λvs=>match vs with
 | [.ro false .i64 un]=>some (.bool (vL un),[],decide (un.length<=274877906944))
 |_=>none) λvs v new e=>by
 split at e
 ·simp only [No,aae,aab] at e
  obtain ⟨rfl,rfl,h⟩:=e
  exact ET h
 ·cases e
def tH (nm:Int) (k s p un:List Int):Bool:=(nm==0)&&decide (k=List.replicate 32 0)&&decide (s=List.replicate 32 0)&&decide (p=List.replicate 32 0)&&decide (un.length=0)
def ae6:Entry prog:=.val 202 _ func202 (by decide) rfl false 0 (λvs=>match vs with
 | [.agg [.bool false,.int .i64 nm,.ints .u8 32 k,.ints .u8 32 s,.ints .u8 32 p,.ro f .i64 un]]=>some (.bool true,[],tH nm k s p un&&!f)
 |_=>none) λvs v new e=>by
 split at e
 ·rename_i nm k s p f un
  simp only [No,aae,aac,aaY] at e
  obtain ⟨rfl,rfl,h,rfl⟩:=e
  unfold tH at h
  simp only [aac,aab] at h
  obtain ⟨⟨⟨⟨h1,rfl⟩,rfl⟩,rfl⟩,h2⟩:=h
  have q:=Uo nm (List.replicate 32 0) (List.replicate 32 0) (List.replicate 32 0) un
  rw [h2] at q
  refine aI (oD _) 60 func202 (q.trans ?_) rfl rfl
  rw [h1];rfl
 ·cases e
def ZQ (l:List (Nat×Bool)):bO:=mk (P:=prog) [ZD,ae5,ae6] [] (uT l)
theorem JO (l:List (Nat×Bool)):ak prog (ZQ l):=az _ aL.nil _ _
def vp (m:Bool) (l:List (Nat×Bool)):bO:=mk (P:=prog) [aeY m,Uc m,ae3 m] [] (uT l)
theorem gQ (m:Bool) (l:List (Nat×Bool)):ak prog (vp m l):=az _ aL.nil _ _
def nR:Code:=aP f164
end Go.Proofs.YthlnlcijnoadcaaGreatDoor.Wi
end
section
namespace Go.Proofs.YthlnlcijnoadcaaGreatDoor.Wi
open Go Go.Sy Tr
section
variable (u:Bool) (nm:Int) (k s p un:List Int)
abbrev C8:List SV:=[.bool u,.int .i64 nm,.ints .u8 32 k,.ints .u8 32 s,.ints .u8 32 p,.ro false .i64 un]
def uP:List (Option SV):=slotsOf 48 [(0,.ptr 0 0 0),(3,.ptr 1 0 0)]
def x5 (n:Nat) (xs:List Int):St:=⟨uP,[.b [.sl 2 0 0 1 n n false true,.bool false],.b (C8 u nm k s p un),.b [.ints .u8 n xs]],true⟩
def nG (n c:Nat) (xs:List Int):St:=⟨uP,[.b [.sl 2 0 0 1 n c true true,.bool false],.b (C8 u nm k s p un),.b [.ints .u8 n xs]],true⟩
def Fa (n:Nat) (xs:List Int):St:=⟨uP,[.b [.sl 3 0 0 1 n n false true,.bool false],.b (C8 u nm k s p un),.b [],.b [.ints .u8 n xs]],true⟩
end
theorem ZR (nm:Int) (k s p un:List Int):aA (ah [0,3] 4 ((aE prog (ZQ [(20,false)]) 60 1 7 (atoms nR) ⟨aD f164.ntmps [.ptr 0 0 0,pM true nm k s p un],[.b [.nl (.slice none 0 0),.bool false]],true⟩).map λs=>(Exit.normal,s)))=some (.normal,uP,[.b [.sl 3 0 0 1 1 1 false true,.bool false],.b (C8 true nm k s p un),.b [.ints .u8 1 [1]],.b [.ints .u8 1 [1]]]):=by kernel_rfl
theorem Us (nm:Int) (k s p un:List Int):aZ (ah [0,3] 4 ((aE prog (ZQ [(20,false)]) 60 1 7 (atoms nR) ⟨aD f164.ntmps [.ptr 0 0 0,pM true nm k s p un],[.b [.nl (.slice none 0 0),.bool false]],true⟩).map λs=>(Exit.normal,s)))=(aa (aa true (aa true (decide (un.length<=274877906944)))) !!vL un):=by kernel_rfl
theorem ZS (nm:Int) (k s p un:List Int):aA (ah [0,3] 4 ((aE prog (ZQ [(20,false),(13,false)]) 60 1 7 (atoms nR) ⟨aD f164.ntmps [.ptr 0 0 0,pM false nm k s p un],[.b [.nl (.slice none 0 0),.bool false]],true⟩).map λs=>(Exit.normal,s)))=some (.normal,uP,[.b [.sl 3 0 0 1 1 1 false true,.bool false],.b (C8 false nm k s p un),.b [.ints .u8 1 [0]],.b [.ints .u8 1 [0]]]):=by kernel_rfl
theorem Ut (nm:Int) (k s p un:List Int):aZ (ah [0,3] 4 ((aE prog (ZQ [(20,false),(13,false)]) 60 1 7 (atoms nR) ⟨aD f164.ntmps [.ptr 0 0 0,pM false nm k s p un],[.b [.nl (.slice none 0 0),.bool false]],true⟩).map λs=>(Exit.normal,s)))=(aa (aa (aa true (aa true (tH nm k s p un&&true))) (aa true (decide (un.length<=274877906944)))) !!vL un):=by kernel_rfl
theorem ZT (u:Bool) (nm:Int) (k s p un:List Int) (n c:Nat) (xs:List Int):aA (ah [0,3] 3 (exec prog (vp false []) 60 1 (au 7 nR) (nG u nm k s p un n c xs)))=some (.normal,uP,(nG u nm k s p un (n+1) c (xs++[fq nm])).h):=by kernel_rfl
theorem Uu (u:Bool) (nm:Int) (k s p un:List Int) (n c:Nat) (xs:List Int):aZ (ah [0,3] 3 (exec prog (vp false []) 60 1 (au 7 nR) (nG u nm k s p un n c xs)))=(aa true (aa true (g9 false n n c xs [fq nm]&&decide (0<=nm)&&decide (nm<=255)))):=by kernel_rfl
theorem ZU (u:Bool) (nm:Int) (k s p un:List Int) (n c:Nat) (xs:List Int):aA (ah [0,3] 4 (exec prog (vp true []) 60 1 (au 7 nR) (nG u nm k s p un n c xs)))=some (.normal,uP,(Fa u nm k s p un (n+1) (xs++[fq nm])).h):=by kernel_rfl
theorem Uv (u:Bool) (nm:Int) (k s p un:List Int) (n c:Nat) (xs:List Int):aZ (ah [0,3] 4 (exec prog (vp true []) 60 1 (au 7 nR) (nG u nm k s p un n c xs)))=(aa true (aa true (g9 true n n c xs [fq nm]&&decide (0<=nm)&&decide (nm<=255)))):=by kernel_rfl
theorem ZV (u:Bool) (nm:Int) (k s p un:List Int) (n c:Nat) (xs:List Int):aA (ah [0,3] 3 (exec prog (vp false []) 60 1 (au 8 nR) (nG u nm k s p un n c xs)))=some (.normal,uP,(nG u nm k s p un (n+k.length) c (xs++k)).h):=by kernel_rfl
theorem Uw (u:Bool) (nm:Int) (k s p un:List Int) (n c:Nat) (xs:List Int):aZ (ah [0,3] 3 (exec prog (vp false []) 60 1 (au 8 nR) (nG u nm k s p un n c xs)))=(aa true (aa (aa true (aa (decide (k.length=32)&&true) (decide (k.length=32)))) (g9 false n n c xs k))):=by kernel_rfl
theorem ZW (u:Bool) (nm:Int) (k s p un:List Int) (n c:Nat) (xs:List Int):aA (ah [0,3] 4 (exec prog (vp true []) 60 1 (au 8 nR) (nG u nm k s p un n c xs)))=some (.normal,uP,(Fa u nm k s p un (n+k.length) (xs++k)).h):=by kernel_rfl
theorem Ux (u:Bool) (nm:Int) (k s p un:List Int) (n c:Nat) (xs:List Int):aZ (ah [0,3] 4 (exec prog (vp true []) 60 1 (au 8 nR) (nG u nm k s p un n c xs)))=(aa true (aa (aa true (aa (decide (k.length=32)&&true) (decide (k.length=32)))) (g9 true n n c xs k))):=by kernel_rfl
theorem ZX (u:Bool) (nm:Int) (k s p un:List Int) (n c:Nat) (xs:List Int):aA (ah [0,3] 3 (exec prog (vp false []) 60 1 (au 9 nR) (nG u nm k s p un n c xs)))=some (.normal,uP,(nG u nm k s p un (n+s.length) c (xs++s)).h):=by kernel_rfl
theorem Uy (u:Bool) (nm:Int) (k s p un:List Int) (n c:Nat) (xs:List Int):aZ (ah [0,3] 3 (exec prog (vp false []) 60 1 (au 9 nR) (nG u nm k s p un n c xs)))=(aa true (aa (aa true (aa (decide (s.length=32)&&true) (decide (s.length=32)))) (g9 false n n c xs s))):=by kernel_rfl
theorem ZY (u:Bool) (nm:Int) (k s p un:List Int) (n c:Nat) (xs:List Int):aA (ah [0,3] 4 (exec prog (vp true []) 60 1 (au 9 nR) (nG u nm k s p un n c xs)))=some (.normal,uP,(Fa u nm k s p un (n+s.length) (xs++s)).h):=by kernel_rfl
theorem Uz (u:Bool) (nm:Int) (k s p un:List Int) (n c:Nat) (xs:List Int):aZ (ah [0,3] 4 (exec prog (vp true []) 60 1 (au 9 nR) (nG u nm k s p un n c xs)))=(aa true (aa (aa true (aa (decide (s.length=32)&&true) (decide (s.length=32)))) (g9 true n n c xs s))):=by kernel_rfl
theorem ZZ (u:Bool) (nm:Int) (k s p un:List Int) (n c:Nat) (xs:List Int):aA (ah [0,3] 3 (exec prog (vp false []) 60 1 (au 10 nR) (nG u nm k s p un n c xs)))=some (.normal,uP,(nG u nm k s p un (n+p.length) c (xs++p)).h):=by kernel_rfl
theorem UA (u:Bool) (nm:Int) (k s p un:List Int) (n c:Nat) (xs:List Int):aZ (ah [0,3] 3 (exec prog (vp false []) 60 1 (au 10 nR) (nG u nm k s p un n c xs)))=(aa true (aa (aa true (aa (decide (p.length=32)&&true) (decide (p.length=32)))) (g9 false n n c xs p))):=by kernel_rfl
theorem Z0 (u:Bool) (nm:Int) (k s p un:List Int) (n c:Nat) (xs:List Int):aA (ah [0,3] 4 (exec prog (vp true []) 60 1 (au 10 nR) (nG u nm k s p un n c xs)))=some (.normal,uP,(Fa u nm k s p un (n+p.length) (xs++p)).h):=by kernel_rfl
theorem UB (u:Bool) (nm:Int) (k s p un:List Int) (n c:Nat) (xs:List Int):aZ (ah [0,3] 4 (exec prog (vp true []) 60 1 (au 10 nR) (nG u nm k s p un n c xs)))=(aa true (aa (aa true (aa (decide (p.length=32)&&true) (decide (p.length=32)))) (g9 true n n c xs p))):=by kernel_rfl
theorem Z1 (u:Bool) (nm:Int) (k s p un:List Int) (n c:Nat) (xs:List Int):aA (ah [0,3] 3 (exec prog (vp false []) 60 1 (au 11 nR) (nG u nm k s p un n c xs)))=some (.normal,uP,(nG u nm k s p un (n+(nO un).length) c (xs++nO un)).h):=by kernel_rfl
theorem UC (u:Bool) (nm:Int) (k s p un:List Int) (n c:Nat) (xs:List Int):aZ (ah [0,3] 3 (exec prog (vp false []) 60 1 (au 11 nR) (nG u nm k s p un n c xs)))=(aa true (aa true (g9 false n n c xs (nO un)&&tI un&&decide (((un.length:Nat):Int)<=32)))):=by kernel_rfl
theorem Z2 (u:Bool) (nm:Int) (k s p un:List Int) (n c:Nat) (xs:List Int):aA (ah [0,3] 4 (exec prog (vp true []) 60 1 (au 11 nR) (nG u nm k s p un n c xs)))=some (.normal,uP,(Fa u nm k s p un (n+(nO un).length) (xs++nO un)).h):=by kernel_rfl
theorem UD (u:Bool) (nm:Int) (k s p un:List Int) (n c:Nat) (xs:List Int):aZ (ah [0,3] 4 (exec prog (vp true []) 60 1 (au 11 nR) (nG u nm k s p un n c xs)))=(aa true (aa true (g9 true n n c xs (nO un)&&tI un&&decide (((un.length:Nat):Int)<=32)))):=by kernel_rfl
def bQ (u:Bool) (nm:Int) (k s p un:List Int):List Int:=(((([bif u then 1 else 0]++[fq nm])++k)++s)++p)++nO un
def aQ (u:Bool) (nm:Int) (k s p un:List Int):Bool:=decide (k.length=32)&&decide (s.length=32)&&decide (p.length=32)&&decide (0<=nm)&&decide (nm<=255)&&tI un&&vL un&&decide (un.length<=32)&&(u||tH nm k s p un)
section
variable {u:Bool} {nm:Int} {k s p un:List Int} {n:Nat} {xs ys:List Int}
theorem p7 {c:Code} (hi:∀cc,n+ys.length<=cc->Tr prog none 1 c (nG u nm k s p un n cc xs) .normal (nG u nm k s p un (n+ys.length) cc (xs++ys))) (hm:∀cc,cc<n+ys.length->Tr prog none 1 c (nG u nm k s p un n cc xs) .normal (Fa u nm k s p un (n+ys.length) (xs++ys))):
  Tr prog none 1 c (x5 u nm k s p un n xs) .normal (x5 u nm k s p un (n+ys.length) (xs++ys)):=by
 refine Tr.Yk (b:=0) (pre:=[]) (post:=[.bool false]) (wh:=true) rfl λcc rX=>?_
 by_cases hc:n+ys.length<=cc
 ·refine Tr.post (hi cc hc) ?_
  refine bE.vc ⟨⟨rfl,?_⟩,PE.refl _,PE.refl _,trivial⟩
  rintro e us ⟨y,zs,hy,hz,rfl⟩
  refine ⟨y,zs,?_,hz,rfl⟩
  rcases hy with h|⟨p,c',a,h1,h2,h3,h4,h5,h6,h7⟩
  ·exact .inl ⟨h.1,h.1,h.2.2⟩
  ·exact .inr ⟨p,c',a,h1,h2,h3,h6,(by simp),h6,h7⟩
 ·refine Tr.post (hm cc (by omega)) ?_
  have q:=bE.swap (k:=1) (t:=uP) (h:=(Fa u nm k s p un (n+ys.length) (xs++ys)).h) (o:=true) (o':=true) 2 3 (by decide) (by decide) rfl rfl rfl
  exact (q.trans (bE.same (s':=⟨uP,[.b [.sl 2 0 0 1 (n+ys.length) (n+ys.length) false true,.bool false],.b (C8 u nm k s p un),.b [.ints .u8 (n+ys.length) (xs++ys)],.b []],true⟩) rfl rfl)).trans (bE.dn (n:=3) (by decide) rfl)
theorem ae7 (hl:xs.length=n) (h0:0<=nm) (h1:nm<=255) (hn:n<=1000):Tr prog none 1 (au 7 nR) (x5 u nm k s p un n xs) .normal (x5 u nm k s p un (n+ [fq nm].length) (xs++[fq nm])):=
 p7 (λcc hc=>Tr.aR (gQ false []) 60 _ 3 (by decide) (s':=nG u nm k s p un (n+1) cc (xs++[fq nm])) _ (ZT u nm k s p un n cc xs) (Uu u nm k s p un n cc xs) (by rw [cU (m:=false) (ys:=[fq nm]) hl (by show n+1<=2^38;omega) hc,Me h0,Me h1];rfl))
  (λcc hc=>Tr.aR (gQ true []) 60 _ 4 (by decide) (s':=Fa u nm k s p un (n+1) (xs++[fq nm])) _ (ZU u nm k s p un n cc xs) (Uv u nm k s p un n cc xs) (by rw [cU (m:=true) (ys:=[fq nm]) hl (by show n+1<=2^38;omega) hc,Me h0,Me h1];rfl))
theorem ae8 (hl:xs.length=n) (hk:k.length=32) (hn:n<=1000):Tr prog none 1 (au 8 nR) (x5 u nm k s p un n xs) .normal (x5 u nm k s p un (n+k.length) (xs++k)):=
 p7 (λcc hc=>Tr.aR (gQ false []) 60 _ 3 (by decide) (s':=nG u nm k s p un (n+k.length) cc (xs++k)) _ (ZV u nm k s p un n cc xs) (Uw u nm k s p un n cc xs) (by rw [cU (m:=false) (ys:=k) hl (by omega) hc,Me hk];rfl))
  (λcc hc=>Tr.aR (gQ true []) 60 _ 4 (by decide) (s':=Fa u nm k s p un (n+k.length) (xs++k)) _ (ZW u nm k s p un n cc xs) (Ux u nm k s p un n cc xs) (by rw [cU (m:=true) (ys:=k) hl (by omega) hc,Me hk];rfl))
theorem ae9 (hl:xs.length=n) (hk:s.length=32) (hn:n<=1000):Tr prog none 1 (au 9 nR) (x5 u nm k s p un n xs) .normal (x5 u nm k s p un (n+s.length) (xs++s)):=
 p7 (λcc hc=>Tr.aR (gQ false []) 60 _ 3 (by decide) (s':=nG u nm k s p un (n+s.length) cc (xs++s)) _ (ZX u nm k s p un n cc xs) (Uy u nm k s p un n cc xs) (by rw [cU (m:=false) (ys:=s) hl (by omega) hc,Me hk];rfl))
  (λcc hc=>Tr.aR (gQ true []) 60 _ 4 (by decide) (s':=Fa u nm k s p un (n+s.length) (xs++s)) _ (ZY u nm k s p un n cc xs) (Uz u nm k s p un n cc xs) (by rw [cU (m:=true) (ys:=s) hl (by omega) hc,Me hk];rfl))
theorem SW (hl:xs.length=n) (hk:p.length=32) (hn:n<=1000):Tr prog none 1 (au 10 nR) (x5 u nm k s p un n xs) .normal (x5 u nm k s p un (n+p.length) (xs++p)):=
 p7 (λcc hc=>Tr.aR (gQ false []) 60 _ 3 (by decide) (s':=nG u nm k s p un (n+p.length) cc (xs++p)) _ (ZZ u nm k s p un n cc xs) (UA u nm k s p un n cc xs) (by rw [cU (m:=false) (ys:=p) hl (by omega) hc,Me hk];rfl))
  (λcc hc=>Tr.aR (gQ true []) 60 _ 4 (by decide) (s':=Fa u nm k s p un (n+p.length) (xs++p)) _ (Z0 u nm k s p un n cc xs) (UB u nm k s p un n cc xs) (by rw [cU (m:=true) (ys:=p) hl (by omega) hc,Me hk];rfl))
theorem SX (hl:xs.length=n) (hu:tI un=true) (hk:un.length<=32) (hn:n<=1000):Tr prog none 1 (au 11 nR) (x5 u nm k s p un n xs) .normal (x5 u nm k s p un (n+(nO un).length) (xs++nO un)):=by
 have hlen:=nr un
 exact p7 (λcc hc=>Tr.aR (gQ false []) 60 _ 3 (by decide) (s':=nG u nm k s p un (n+(nO un).length) cc (xs++nO un)) _ (Z1 u nm k s p un n cc xs) (UC u nm k s p un n cc xs) (by rw [cU (m:=false) (ys:=nO un) hl (by omega) hc,hu,Me (show ((un.length:Nat):Int)<=32 by omega)];rfl))
  (λcc hc=>Tr.aR (gQ true []) 60 _ 4 (by decide) (s':=Fa u nm k s p un (n+(nO un).length) (xs++nO un)) _ (Z2 u nm k s p un n cc xs) (UD u nm k s p un n cc xs) (by rw [cU (m:=true) (ys:=nO un) hl (by omega) hc,hu,Me (show ((un.length:Nat):Int)<=32 by omega)];rfl))
theorem qp (hk:k.length=32) (hs:s.length=32) (hp:p.length=32):(bQ u nm k s p un).length=1+1+32+32+32+(1+un.length):=by
 unfold bQ
 simp only [aar,hk,hs,hp,nr,adY,List.length_nil]
theorem zZ {x:Int} {h2:List Blk} {y:Exit} {s':St} (g:aV prog none 1 ((atoms nR).drop 7) (x5 u nm k s p un 1 [x]) y s'):aV prog none 1 ((atoms nR).drop 7) ⟨uP,[.b [.sl 3 0 0 1 1 1 false true,.bool false],.b (C8 u nm k s p un),.b [.ints .u8 1 [x]],.b [.ints .u8 1 [x]]],true⟩ y s':=by
 refine aV.pre g ?_ (by intro q;cases q)
 have q:=bE.swap (k:=1) (t:=uP) (h:=[.b [.sl 3 0 0 1 1 1 false true,.bool false],.b (C8 u nm k s p un),.b [.ints .u8 1 [x]],.b [.ints .u8 1 [x]]]) (o:=true) (o':=true) 2 3 (by decide) (by decide) rfl rfl rfl
 exact (q.trans (bE.same (s':=⟨uP,[.b [.sl 2 0 0 1 1 1 false true,.bool false],.b (C8 u nm k s p un),.b [.ints .u8 1 [x]],.b [.ints .u8 1 [x]]],true⟩) rfl rfl)).trans (bE.dn (n:=3) (by decide) rfl)
theorem N2 (h:aQ u nm k s p un=true):ai prog 164 [.ptr 0 0 0,pM u nm k s p un] [.b [.nl (.slice none 0 0),.bool false]] (.bC []) [.b [.sl 1 0 0 1 (bQ u nm k s p un).length (bQ u nm k s p un).length false true,.bool false],.b [.ints .u8 (bQ u nm k s p un).length (bQ u nm k s p un)]]:=by
 unfold aQ at h
 simp only [aac,aab] at h
 obtain ⟨⟨⟨⟨⟨⟨⟨⟨hk,hs⟩,hp⟩,h0⟩,h1⟩,hu⟩,hr⟩,hl⟩,hz⟩:=h
 have hW:(bQ u nm k s p un).length=1+ [fq nm].length+k.length+s.length+p.length+(nO un).length:=by
  rw [qp hk hs hp,hk,hs,hp,nr];rfl
 have g:ai prog 164 [.ptr 0 0 0,pM u nm k s p un] [.b [.nl (.slice none 0 0),.bool false]] (.bC []) (x5 u nm k s p un (1+ [fq nm].length+k.length+s.length+p.length+(nO un).length) (bQ u nm k s p un)).h:=by
  refine ai.mk (vs:=[]) func164 rfl (x:=.normal) (s:=x5 u nm k s p un (1+ [fq nm].length+k.length+s.length+p.length+(nO un).length) (bQ u nm k s p un)) ?_ (.inr rfl) rfl
  have tail:aV prog none 1 ((atoms nR).drop 7) (x5 u nm k s p un 1 [bif u then 1 else 0]) .normal (x5 u nm k s p un (1+ [fq nm].length+k.length+s.length+p.length+(nO un).length) (bQ u nm k s p un)):=by
   have l1:[fq nm].length=1:=rfl
   refine aV.item 7 (by decide) (ae7 rfl h0 h1 (by decide)) ?_
   refine aV.item 8 (by decide) (ae8 rfl hk (by simp)) ?_
   refine aV.item 9 (by decide) (ae9 (by simp [hk]) hs (by omega)) ?_
   refine aV.item 10 (by decide) (SW (by simp [hk,hs]) hp (by omega)) ?_
   exact aV.item 11 (by decide) (SX (by simp [hk,hs,hp]) hu hl (by omega)) (aV.nil rfl)
  cases u with
  |true=>exact aV.bk (JO [(20,false)]) 60 7 _ 4 (by decide) (s1:=⟨uP,[.b [.sl 3 0 0 1 1 1 false true,.bool false],.b (C8 true nm k s p un),.b [.ints .u8 1 [1]],.b [.ints .u8 1 [1]]],true⟩) _ (ZR nm k s p un) (Us nm k s p un) (by rw [hr,Me (show un.length<=274877906944 by omega)];rfl) (by decide) rfl (zZ (h2:=[]) tail)
  |false=>exact aV.bk (JO [(20,false),(13,false)]) 60 7 _ 4 (by decide) (s1:=⟨uP,[.b [.sl 3 0 0 1 1 1 false true,.bool false],.b (C8 false nm k s p un),.b [.ints .u8 1 [0]],.b [.ints .u8 1 [0]]],true⟩) _ (ZS nm k s p un) (Ut nm k s p un) (by rw [hr,show tH nm k s p un=true by simpa using hz,Me (show un.length<=274877906944 by omega)];rfl) (by decide) rfl (zZ (h2:=[]) tail)
 rw [<-hW] at g
 refine g.post ?_
 have q:=bE.swap (k:=1) (t:=[some (.bC [])]) (h:=(x5 u nm k s p un (bQ u nm k s p un).length (bQ u nm k s p un)).h) (o:=true) (o':=true) 1 2 (by decide) (by decide) rfl rfl rfl
 exact (q.trans (bE.same (s':=⟨[some (.bC [])],[.b [.sl 1 0 0 1 (bQ u nm k s p un).length (bQ u nm k s p un).length false true,.bool false],.b [.ints .u8 (bQ u nm k s p un).length (bQ u nm k s p un)],.b (C8 u nm k s p un)],true⟩) rfl rfl)).trans (bE.dn (n:=2) (by decide) rfl)
end
def afa:Entry prog:=.mut 164 _ func164 (by decide) rfl rq 1 (λus h0=>match us,h0 with
 | [.ptr 0 0 0,.agg [.bool u,.int .i64 nm,.ints .u8 32 k,.ints .u8 32 s,.ints .u8 32 p,.ro false .i64 un]],[.b [.nl (.slice none 0 0),.bool false]]=>some (.bC [],[.b [.sl 1 0 0 1 (bQ u nm k s p un).length (bQ u nm k s p un).length false true,.bool false],.b [.ints .u8 (bQ u nm k s p un).length (bQ u nm k s p un)]],aQ u nm k s p un)
 |_,_=>none) λus h0 v h1 e=>by
 split at e
 ·simp only [No,aae] at e
  obtain ⟨rfl,rfl,h⟩:=e
  exact N2 h
 ·cases e
def Pn:List (FuncId×Func):=[(165,f165)]
theorem JP:aL prog Pn:=aL.cons func165 (by decide) aL.nil
def ptC (l:List (Nat×Bool)):bO:=mk (P:=prog) [afa] Pn (uT l)
theorem UE (l:List (Nat×Bool)):ak prog (ptC l):=az _ JP _ _
theorem UF (u:Bool) (nm:Int) (k s p un:List Int):(aG prog (ptC [(14,false)]) 60 f118 [pM u nm k s p un] [])=some (.bC [.sl 2 0 0 1 (bQ u nm k s p un).length (bQ u nm k s p un).length false true,.nl .nilIface],[.b (C8 u nm k s p un),.b [.sl 2 0 0 1 (bQ u nm k s p un).length (bQ u nm k s p un).length false true,.bool false],.b [.ints .u8 (bQ u nm k s p un).length (bQ u nm k s p un)]],aa (aa true (aa true (aQ u nm k s p un))) (aa true !decide ((((bQ u nm k s p un).length:Nat):Int)>65536))):=by kernel_rfl
theorem tE {u:Bool} {nm:Int} {k s p un:List Int} (h:aQ u nm k s p un=true):ai prog 118 [pM u nm k s p un] [] (.bC [.ro true .u8 (bQ u nm k s p un),.nl .nilIface]) []:=by
 have hL:(bQ u nm k s p un).length<=200:=by
  have h':=h
  unfold aQ at h'
  simp only [aac,aab] at h'
  obtain ⟨⟨⟨⟨⟨⟨⟨⟨hk,hs⟩,hp⟩,h0⟩,h1⟩,hu⟩,hr⟩,hl⟩,hz⟩:=h'
  rw [qp hk hs hp];omega
 have g:=ai.bg (h':=[.b (C8 u nm k s p un),.b [.sl 2 0 0 1 (bQ u nm k s p un).length (bQ u nm k s p un).length false true,.bool false],.b [.ints .u8 (bQ u nm k s p un).length (bQ u nm k s p un)]]) (UE [(14,false)]) func118 (n:=60) ((UF u nm k s p un).trans (by
  rw [h,aam (show ¬(((bQ u nm k s p un).length:Nat):Int)>65536 by omega)];rfl))
 have g2:=g.yN (u:=.bC [.sl 0 0 0 1 (bQ u nm k s p un).length (bQ u nm k s p un).length false true,.nl .nilIface]) (new:=[.b [.ints .u8 (bQ u nm k s p un).length (bQ u nm k s p un)]]) [2] rfl
 generalize bQ u nm k s p un=l at g2
 exact ai.fz 0 0 (by simp) (by simp) g2 (u:=.bC [.ro true .u8 l,.nl .nilIface]) (h2:=[]) (p:=aa (decide (l.length=l.length)) (([some (SV.bC [.sl 0 0 0 1 l.length l.length false true,.nl .nilIface])]:List (Option SV)).all λo=>match o with|some v=>lW 0 l.length v|none=>true)) rfl (by simp [lW,lR,aa])
def yZ:Entry prog:=.val 118 _ func118 (by decide) rfl true 0 (λvs=>match vs with
 | [.agg [.bool u,.int .i64 nm,.ints .u8 32 k,.ints .u8 32 s,.ints .u8 32 p,.ro false .i64 un]]=>some (.bC [.ro true .u8 (bQ u nm k s p un),.nl .nilIface],[],aQ u nm k s p un)
 |_=>none) λvs v new e=>by
 split at e
 ·simp only [No,aae] at e
  obtain ⟨rfl,rfl,h⟩:=e
  exact tE h
 ·cases e
end Go.Proofs.YthlnlcijnoadcaaGreatDoor.Wi
end
