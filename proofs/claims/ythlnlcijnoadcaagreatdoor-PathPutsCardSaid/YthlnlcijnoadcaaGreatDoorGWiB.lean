/- This file holds the texts WiA, WiB, a section each. No conditions beyond those in the theorems. -/
import Derived.Test.YthlnlcijnoadcaaGreatDoorGSxF
import Derived.Test.YthlnlcijnoadcaaGreatDoorGTtB
noncomputable section
open Go.Proofs.Tryz
open Go.IntKind (i64 u8 u64 u32)
set_option linter.all false
set_option maxRecDepth 100000
section
namespace Go.Proofs.YthlnlcijnoadcaaGreatDoor.Wi
open Go Go.Sy Tr
def apQ (t:Nat):Nat->Nat:=λi=>match Nat.beq i (1000000000+t) with
 |true=>1
 |false=>0
def U2 (l:List (Nat×Bool)) (t d:Nat):bO:=bO.Bn (mk (P:=prog) [] [] (uT l) λi=>Nat.beq i d) (apQ t)
theorem uG (l:List (Nat×Bool)) (t d:Nat):ak prog (U2 l t d):=bO.vY (az _ aL.nil _ _) _
abbrev jl (n c:Nat) (xs:List Int) (bad:Bool):List Blk:=[.b [.sl 1 0 0 1 n c true true,.bool bad],.b [.ints .u8 n xs]]
abbrev x4 (n:Nat) (xs:List Int) (bad:Bool):List Blk:=[.b [.sl 2 0 0 1 n n false true,.bool bad],.b [],.b [.ints .u8 n xs]]
def fq (x:Int):Int:=u8.wrap (e6 IntKind.i64 x (i64.wrap (8*i64.wrap (1-1))).toNat)
theorem aeT (n c:Nat) (xs:List Int) (bad:Bool) (x most:Int):(aG prog (U2 [(10,false),(14,false)] 0 0) 60 f205 [.ptr 0 0 0,.int .i64 x,.int .i64 1,.int .i64 most] (jl n c xs bad))=some (.bC [],jl (n+1) c (xs++[fq x]) bad++[.b [.ints .u8 1 [fq x]]],aa (aa (aa (aa true !decide (x<0)) !decide (x>most)) (decide (0<=i64.wrap (8*i64.wrap (1-1))))) (aa (aa (aa (decide (((List.replicate 1 0).set 0 (u8.wrap (e6 IntKind.i64 x (i64.wrap (8*i64.wrap (1-1))).toNat))).length=1)&&true) true) (decide (n+1<=c))) (decide (xs.length=n)&&decide (n=n)&&decide (((List.replicate 1 0).set 0 (u8.wrap (e6 IntKind.i64 x (i64.wrap (8*i64.wrap (1-1))).toNat))).length=1)))):=by kernel_rfl
theorem aeU (n c:Nat) (xs:List Int) (bad:Bool) (x most:Int):(aG prog (U2 [(10,false),(14,false),(36,false)] 29 0) 60 f205 [.ptr 0 0 0,.int .i64 x,.int .i64 1,.int .i64 most] (jl n c xs bad))=some (.bC [],[.b [.sl 3 0 0 1 (n+1) (n+1) false true,.bool bad],.b [.ints .u8 n xs],.b [.ints .u8 1 [fq x]],.b [.ints .u8 (n+1) (xs++[fq x])]],aa (aa (aa (aa true !decide (x<0)) !decide (x>most)) (decide (0<=i64.wrap (8*i64.wrap (1-1))))) (aa (aa (aa (aa (aa (decide (((List.replicate 1 0).set 0 (u8.wrap (e6 IntKind.i64 x (i64.wrap (8*i64.wrap (1-1))).toNat))).length=1)&&true) (decide (xs.length=n)&&(decide (n<=n)&&true))) (decide (xs.length=n))) true) (decide (n+1<=2^38))) (decide (c<n+1)))):=by kernel_rfl
theorem aeV (n c:Nat) (xs ys:List Int) (bad:Bool):(aG prog (U2 [] 0 10) 60 f204 [.ptr 0 0 0,.ro false .u8 ys] (jl n c xs bad))=some (.bC [],jl (n+ys.length) c (xs++ys) bad,aa true (aa (aa true (decide (n+ys.length<=c))) (decide (xs.length=n)&&decide (n=n)&&decide (ys.length=ys.length)))):=by kernel_rfl
theorem aeW (n c:Nat) (xs ys:List Int) (bad:Bool):(aG prog (U2 [] 0 0) 60 f204 [.ptr 0 0 0,.ro false .u8 ys] (jl n c xs bad))=some (.bC [],[.b [.sl 2 0 0 1 (n+ys.length) (n+ys.length) false true,.bool bad],.b [.ints .u8 n xs],.b [.ints .u8 (n+ys.length) (xs++ys)]],aa true (aa (aa (aa (aa true (decide (xs.length=n)&&(decide (n<=n)&&true))) (decide (xs.length=n))) (decide (n+ys.length<=2^38))) (decide (c<n+ys.length)))):=by kernel_rfl
theorem aeX (ys:List Int) (bad:Bool):(aG prog (U2 [] 0 0) 60 f204 [.ptr 0 0 0,.ro false .u8 ys] [.b [.nl (.slice none 0 0),.bool bad]])=some (.bC [],[.b [.sl 1 0 0 1 ys.length ys.length false true,.bool bad],.b [.ints .u8 ys.length ys]],aa true (aa true (decide (ys.length<=2^38)))):=by kernel_rfl
section
variable {n c:Nat} {xs ys:List Int} {bad:Bool} {x most:Int}
theorem JG (hl:xs.length=n) (h0:0<=x) (h1:x<=most) (hc:n+1<=c):ai prog 205 [.ptr 0 0 0,.int .i64 x,.int .i64 1,.int .i64 most] (jl n c xs bad) (.bC []) (jl (n+1) c (xs++[fq x]) bad):=by
 refine lK (uG _ _ _) 60 func205 2 (aaf _) (by rw [aeT];rfl) ?_ rfl rfl
 rw [aam (show ¬x<0 by omega),aam (show ¬x>most by omega),Me hc,Me hl,Me (Eq.refl n)]
 rfl
theorem JH (hl:xs.length=n) (h0:0<=x) (h1:x<=most) (hc:c<n+1) (hn:n+1<=2^38):ai prog 205 [.ptr 0 0 0,.int .i64 x,.int .i64 1,.int .i64 most] (jl n c xs bad) (.bC []) (x4 (n+1) (xs++[fq x]) bad):=by
 have g:ai prog 205 [.ptr 0 0 0,.int .i64 x,.int .i64 1,.int .i64 most] (jl n c xs bad) (.bC []) [.b [.sl 3 0 0 1 (n+1) (n+1) false true,.bool bad],.b [.ints .u8 n xs],.b [.ints .u8 1 [fq x]],.b [.ints .u8 (n+1) (xs++[fq x])]]:=by
  refine ai.bg (uG _ _ _) func205 (n:=60) ((aeU n c xs bad x most).trans ?_)
  rw [aam (show ¬x<0 by omega),aam (show ¬x>most by omega),Me hc,Me hl,Me (aaf n),Me hn]
  rfl
 have q:=bE.swap (k:=2) (t:=[some (.bC [])]) (h:=[.b [.sl 3 0 0 1 (n+1) (n+1) false true,.bool bad],.b [.ints .u8 n xs],.b [.ints .u8 1 [fq x]],.b [.ints .u8 (n+1) (xs++[fq x])]]) (o:=true) (o':=true) 2 3 (aaf _) (by decide) rfl rfl rfl
 refine g.post ((q.trans (bE.same (s':=⟨[some (.bC [])],[.b [.sl 2 0 0 1 (n+1) (n+1) false true,.bool bad],.b [.ints .u8 n xs],.b [.ints .u8 (n+1) (xs++[fq x])],.b [.ints .u8 1 [fq x]]],true⟩) rfl rfl)).trans ((bE.forget 1 rfl).trans (bE.dn (n:=3) (by decide) rfl)))
theorem NV (hl:xs.length=n) (hc:n+ys.length<=c):ai prog 204 [.ptr 0 0 0,.ro false .u8 ys] (jl n c xs bad) (.bC []) (jl (n+ys.length) c (xs++ys) bad):=by
 refine ai.bg (uG _ _ _) func204 (n:=60) ((aeV n c xs ys bad).trans ?_)
 rw [Me hc,Me hl,Me (Eq.refl n),Me (Eq.refl ys.length)]
 rfl
theorem NW (hl:xs.length=n) (hc:c<n+ys.length) (hn:n+ys.length<=2^38):ai prog 204 [.ptr 0 0 0,.ro false .u8 ys] (jl n c xs bad) (.bC []) (x4 (n+ys.length) (xs++ys) bad):=by
 have g:ai prog 204 [.ptr 0 0 0,.ro false .u8 ys] (jl n c xs bad) (.bC []) [.b [.sl 2 0 0 1 (n+ys.length) (n+ys.length) false true,.bool bad],.b [.ints .u8 n xs],.b [.ints .u8 (n+ys.length) (xs++ys)]]:=by
  refine ai.bg (uG _ _ _) func204 (n:=60) ((aeW n c xs ys bad).trans ?_)
  rw [Me hc,Me hl,Me (aaf n),Me hn]
  rfl
 exact g.post (bE.forget 1 rfl)
theorem NX (hn:ys.length<=2^38):ai prog 204 [.ptr 0 0 0,.ro false .u8 ys] [.b [.nl (.slice none 0 0),.bool bad]] (.bC []) [.b [.sl 1 0 0 1 ys.length ys.length false true,.bool bad],.b [.ints .u8 ys.length ys]]:=by
 refine ai.bg (uG _ _ _) func204 (n:=60) ((aeX ys bad).trans ?_)
 rw [Me hn];rfl
end
def ER (m:Bool) (n c:Nat) (xs ys:List Int) (b:Bool):List Blk:=match m with
 |true=>x4 (n+ys.length) (xs++ys) b
 |false=>jl (n+ys.length) c (xs++ys) b
def g9 (m:Bool) (n n' c:Nat) (xs ys:List Int):Bool:=decide (n=n')&&decide (xs.length=n)&&decide (n+ys.length<=2^38)&&(match m with
 |true=>decide (c<n+ys.length)
 |false=>decide (n+ys.length<=c))
theorem p6 {m:Bool} {n n' c:Nat} {xs ys:List Int} (h:g9 m n n' c xs ys=true):n=n'/\xs.length=n/\n+ys.length<=2^38/\(if m=true then c<n+ys.length else n+ys.length<=c):=by
 unfold g9 at h
 simp only [aac,aab] at h
 refine ⟨h.1.1.1,h.1.1.2,h.1.2,?_⟩
 cases m
 ·rw [aaC (by simp)];exact abB h.2
 ·rw [aaM rfl];exact abB h.2
theorem cU {m:Bool} {n c:Nat} {xs ys:List Int} (h1:xs.length=n) (h2:n+ys.length<=2^38) (h3:match m with|true=>c<n+ys.length|false=>n+ys.length<=c):g9 m n n c xs ys=true:=by
 unfold g9
 rw [Me rfl,Me h1,Me h2]
 cases m
 ·exact Me h3
 ·exact Me h3
def ZA:Bool->Nat
 |true=>1
 |false=>0
def rq:List SV->List Blk->List Nat
 | .ptr b _ _::_,h=>match h[b]? with
  |some (.b [.sl d _ _ _ _ _ _ _,_])=>[b,d]
  |_=>[b]
 |_,_=>[]
def ZB (m:Bool):List SV->List Blk->Option (SV×List Blk×Bool)
 | [.ptr 0 0 0,.int .i64 x,.int .i64 1,.int .i64 most],[.b [.sl 1 0 0 1 n c true true,.bool b],.b [.ints .u8 n' xs]]=>some (.bC [],ER m n c xs [fq x] b,g9 m n n' c xs [fq x]&&decide (0<=x)&&decide (x<=most))
 |_,_=>none
def Uc (m:Bool):Entry prog:=.mut 205 _ func205 (by decide) rfl rq (ZA m) (ZB m) λus h0 v h1 e=>by
 unfold ZB at e
 split at e
 ·simp only [No,aae,aac,aab] at e
  obtain ⟨rfl,rfl,⟨h,h2⟩,h3⟩:=e
  obtain ⟨rfl,q1,q2,q3⟩:=p6 h
  cases m
  ·exact JG q1 h2 h3 (by simpa using q3)
  ·exact JH q1 h2 h3 (by simpa using q3) q2
 ·cases e
def ZC (m:Bool):List SV->List Blk->Option (SV×List Blk×Bool)
 | [.ptr 0 0 0,.ro false .u8 ys],[.b [.sl 1 0 0 1 n c true true,.bool b],.b [.ints .u8 n' xs]]=>some (.bC [],ER m n c xs ys b,g9 m n n' c xs ys)
 |_,_=>none
def aeY (m:Bool):Entry prog:=.mut 204 _ func204 (by decide) rfl rq (ZA m) (ZC m) λus h0 v h1 e=>by
 unfold ZC at e
 split at e
 ·simp only [No,aae] at e
  obtain ⟨rfl,rfl,h⟩:=e
  obtain ⟨rfl,q1,q2,q3⟩:=p6 h
  cases m
  ·exact NV q1 (by simpa using q3)
  ·exact NW q1 (by simpa using q3) q2
 ·cases e
def ZD:Entry prog:=.mut 204 _ func204 (by decide) rfl rq 1 (λus h0=>match us,h0 with
 | [.ptr 0 0 0,.ro false .u8 ys],[.b [.nl (.slice none 0 0),.bool b]]=>some (.bC [],[.b [.sl 1 0 0 1 ys.length ys.length false true,.bool b],.b [.ints .u8 ys.length ys]],decide (ys.length<=2^38))
 |_,_=>none) λus h0 v h1 e=>by
 split at e
 ·simp only [No,aae,aab] at e
  obtain ⟨rfl,rfl,h⟩:=e
  exact NX h
 ·cases e
def seC (m:Bool):bO:=mk (P:=prog) [Uc m] [] (uT [])
theorem JI (m:Bool):ak prog (seC m):=az _ aL.nil _ _
theorem ae0 (n c:Nat) (xs:List Int) (bad:Bool) (x:Int):(aG prog (seC false) 60 f207 [.ptr 0 0 0,.int .i64 x] (jl n c xs bad))=some (.bC [],jl (n+1) c (xs++[fq x]) bad,aa true (aa true (g9 false n n c xs [fq x]&&decide (0<=x)&&decide (x<=31)))):=by kernel_rfl
theorem ae1 (n c:Nat) (xs:List Int) (bad:Bool) (x:Int):(aG prog (seC true) 60 f207 [.ptr 0 0 0,.int .i64 x] (jl n c xs bad))=some (.bC [],x4 (n+1) (xs++[fq x]) bad,aa true (aa true (g9 true n n c xs [fq x]&&decide (0<=x)&&decide (x<=31)))):=by kernel_rfl
theorem Ud {n c:Nat} {xs:List Int} {bad:Bool} {x:Int} (hl:xs.length=n) (h0:0<=x) (h1:x<=31) (hc:n+1<=c) (hn:n+1<=2^38):ai prog 207 [.ptr 0 0 0,.int .i64 x] (jl n c xs bad) (.bC []) (jl (n+1) c (xs++[fq x]) bad):=by
 refine ai.bg (JI _) func207 (n:=60) ((ae0 n c xs bad x).trans ?_)
 rw [cU (ys:=[fq x]) hl hn (m:=false) hc,Me h0,Me h1];rfl
theorem Ue {n c:Nat} {xs:List Int} {bad:Bool} {x:Int} (hl:xs.length=n) (h0:0<=x) (h1:x<=31) (hc:c<n+1) (hn:n+1<=2^38):ai prog 207 [.ptr 0 0 0,.int .i64 x] (jl n c xs bad) (.bC []) (x4 (n+1) (xs++[fq x]) bad):=by
 refine ai.bg (JI _) func207 (n:=60) ((ae1 n c xs bad x).trans ?_)
 rw [cU (ys:=[fq x]) hl hn (m:=true) hc,Me h0,Me h1];rfl
def ZE (m:Bool):List SV->List Blk->Option (SV×List Blk×Bool)
 | [.ptr 0 0 0,.int .i64 x],[.b [.sl 1 0 0 1 n c true true,.bool b],.b [.ints .u8 n' xs]]=>some (.bC [],ER m n c xs [fq x] b,g9 m n n' c xs [fq x]&&decide (0<=x)&&decide (x<=31))
 |_,_=>none
def ae2 (m:Bool):Entry prog:=.mut 207 _ func207 (by decide) rfl rq (ZA m) (ZE m) λus h0 v h1 e=>by
 unfold ZE at e
 split at e
 ·simp only [No,aae,aac,aab] at e
  obtain ⟨rfl,rfl,⟨h,h2⟩,h3⟩:=e
  obtain ⟨rfl,q1,q2,q3⟩:=p6 h
  cases m
  ·exact Ud q1 h2 h3 (by simpa using q3) q2
  ·exact Ue q1 h2 h3 (by simpa using q3) q2
 ·cases e
end Go.Proofs.YthlnlcijnoadcaaGreatDoor.Wi
end
section
namespace Go.Proofs.YthlnlcijnoadcaaGreatDoor.Wi
open Go Go.Sy Tr
def zX (m:Bool) (l:List (Nat×Bool)):bO:=bO.Bn (mk (P:=prog) [Uc m,ae2 m] [] (uT l)) λi=>match Nat.beq i 25 with
 |true=>ZA m
 |false=>0
theorem jR (m:Bool) (l:List (Nat×Bool)):ak prog (zX m l):=bO.vY (az _ aL.nil _ _) _
def zY:Code:=aP f206
def nQ (un:List Int) (i:Int) (h:List Blk):St:=⟨slotsOf 30 [(0,.ptr 0 0 0),(3,.fn (.func 207) [] []),(15,.ro false .i64 un),(16,.int .i64 un.length),(17,.int .i64 i)],h,true⟩
abbrev ES (n c:Nat) (xs:List Int) (bad:Bool):List Blk:=[.b [.sl 2 0 0 1 n c true true,.bool bad],.b [],.b [.ints .u8 n xs]]
theorem Pk (un:List Int) (n c:Nat) (xs:List Int) (most:Int):aA (ah [0,3,15,16,17] 2 ((aE prog (zX false []) 60 2 2 (atoms zY) ⟨aD f206.ntmps [.ptr 0 0 0,.ro false .i64 un,.int .i64 most,.fn (.func 207) [] []],jl n c xs false,true⟩).map λs=>(Exit.normal,s)))=some (.normal,(nQ un 0 []).t,jl (n+1) c (xs++[fq un.length]) false):=by kernel_rfl
theorem JJ (un:List Int) (n c:Nat) (xs:List Int) (most:Int):aZ (ah [0,3,15,16,17] 2 ((aE prog (zX false []) 60 2 2 (atoms zY) ⟨aD f206.ntmps [.ptr 0 0 0,.ro false .i64 un,.int .i64 most,.fn (.func 207) [] []],jl n c xs false,true⟩).map λs=>(Exit.normal,s)))=(aa true (aa true (g9 false n n c xs [fq ((un.length:Nat):Int)]&&true&&decide (((un.length:Nat):Int)<=most)))):=by kernel_rfl
theorem ZF (un:List Int) (n c:Nat) (xs:List Int) (most:Int):aA (ah [0,3,15,16,17] 3 ((aE prog (zX true []) 60 2 2 (atoms zY) ⟨aD f206.ntmps [.ptr 0 0 0,.ro false .i64 un,.int .i64 most,.fn (.func 207) [] []],jl n c xs false,true⟩).map λs=>(Exit.normal,s)))=some (.normal,(nQ un 0 []).t,x4 (n+1) (xs++[fq un.length]) false):=by kernel_rfl
theorem Uf (un:List Int) (n c:Nat) (xs:List Int) (most:Int):aZ (ah [0,3,15,16,17] 3 ((aE prog (zX true []) 60 2 2 (atoms zY) ⟨aD f206.ntmps [.ptr 0 0 0,.ro false .i64 un,.int .i64 most,.fn (.func 207) [] []],jl n c xs false,true⟩).map λs=>(Exit.normal,s)))=(aa true (aa true (g9 true n n c xs [fq ((un.length:Nat):Int)]&&true&&decide (((un.length:Nat):Int)<=most)))):=by kernel_rfl
theorem Pm (un:List Int) (n c:Nat) (xs:List Int) (i:Int):aA (ah [0,3,15,16,17] 2 (exec prog (zX false [(18,true)]) 60 2 (inner (inner (au 2 zY))) (nQ un i (jl n c xs false))))=some (.normal,(nQ un (i64.wrap (i+1)) []).t,jl (n+1) c (xs++[fq (un.getD i.toNat 0)]) false):=by kernel_rfl
theorem JK (un:List Int) (n c:Nat) (xs:List Int) (i:Int):aZ (ah [0,3,15,16,17] 2 (exec prog (zX false [(18,true)]) 60 2 (inner (inner (au 2 zY))) (nQ un i (jl n c xs false))))=(aa (aa (aa (aa true (decide (i<((un.length:Nat):Int)))) (aX i un.length)) (decide (i.toNat<un.length))) (aa true (g9 false n n c xs [fq (un.getD i.toNat 0)]&&decide (0<=un.getD i.toNat 0)&&decide (un.getD i.toNat 0<=31)))):=by kernel_rfl
theorem ZG (un:List Int) (n c:Nat) (xs:List Int) (i:Int):aA (ah [0,3,15,16,17] 3 (exec prog (zX true [(18,true)]) 60 2 (inner (inner (au 2 zY))) (nQ un i (jl n c xs false))))=some (.normal,(nQ un (i64.wrap (i+1)) []).t,x4 (n+1) (xs++[fq (un.getD i.toNat 0)]) false):=by kernel_rfl
theorem Ug (un:List Int) (n c:Nat) (xs:List Int) (i:Int):aZ (ah [0,3,15,16,17] 3 (exec prog (zX true [(18,true)]) 60 2 (inner (inner (au 2 zY))) (nQ un i (jl n c xs false))))=(aa (aa (aa (aa true (decide (i<((un.length:Nat):Int)))) (aX i un.length)) (decide (i.toNat<un.length))) (aa true (g9 true n n c xs [fq (un.getD i.toNat 0)]&&decide (0<=un.getD i.toNat 0)&&decide (un.getD i.toNat 0<=31)))):=by kernel_rfl
theorem ZH (un:List Int) (n c:Nat) (xs:List Int) (i:Int):aA (ah [0,3,15,16,17] 3 (exec prog (zX false [(18,true)]) 60 2 (inner (inner (au 2 zY))) (nQ un i (ES n c xs false))))=some (.normal,(nQ un (i64.wrap (i+1)) []).t,ES (n+1) c (xs++[fq (un.getD i.toNat 0)]) false):=by kernel_rfl
theorem Uh (un:List Int) (n c:Nat) (xs:List Int) (i:Int):aZ (ah [0,3,15,16,17] 3 (exec prog (zX false [(18,true)]) 60 2 (inner (inner (au 2 zY))) (nQ un i (ES n c xs false))))=(aa (aa (aa (aa true (decide (i<((un.length:Nat):Int)))) (aX i un.length)) (decide (i.toNat<un.length))) (aa true (g9 false n n c xs [fq (un.getD i.toNat 0)]&&decide (0<=un.getD i.toNat 0)&&decide (un.getD i.toNat 0<=31)))):=by kernel_rfl
theorem ZI (un:List Int) (n c:Nat) (xs:List Int) (i:Int):aA (ah [0,3,15,16,17] 4 (exec prog (zX true [(18,true)]) 60 2 (inner (inner (au 2 zY))) (nQ un i (ES n c xs false))))=some (.normal,(nQ un (i64.wrap (i+1)) []).t,[.b [.sl 3 0 0 1 (n+1) (n+1) false true,.bool false],.b [],.b [],.b [.ints .u8 (n+1) (xs++[fq (un.getD i.toNat 0)])]]):=by kernel_rfl
theorem Ui (un:List Int) (n c:Nat) (xs:List Int) (i:Int):aZ (ah [0,3,15,16,17] 4 (exec prog (zX true [(18,true)]) 60 2 (inner (inner (au 2 zY))) (nQ un i (ES n c xs false))))=(aa (aa (aa (aa true (decide (i<((un.length:Nat):Int)))) (aX i un.length)) (decide (i.toNat<un.length))) (aa true (g9 true n n c xs [fq (un.getD i.toNat 0)]&&decide (0<=un.getD i.toNat 0)&&decide (un.getD i.toNat 0<=31)))):=by kernel_rfl
theorem ZJ (un:List Int) (n c:Nat) (xs:List Int) (i:Int):aA (ah [0] 2 (exec prog (zX false [(18,false)]) 60 2 (inner (inner (au 2 zY))) (nQ un i (jl n c xs false))))=some (.exit 0,slotsOf 30 [(0,.ptr 0 0 0)],jl n c xs false):=by kernel_rfl
theorem Uj (un:List Int) (n c:Nat) (xs:List Int) (i:Int):aZ (ah [0] 2 (exec prog (zX false [(18,false)]) 60 2 (inner (inner (au 2 zY))) (nQ un i (jl n c xs false))))=(aa true !decide (i<((un.length:Nat):Int))):=by kernel_rfl
theorem ZK (un:List Int) (n:Nat) (xs:List Int) (i:Int):aA (ah [0] 3 (exec prog (zX false [(18,false)]) 60 2 (inner (inner (au 2 zY))) (nQ un i (x4 n xs false))))=some (.exit 0,slotsOf 30 [(0,.ptr 0 0 0)],x4 n xs false):=by kernel_rfl
theorem Uk (un:List Int) (n:Nat) (xs:List Int) (i:Int):aZ (ah [0] 3 (exec prog (zX false [(18,false)]) 60 2 (inner (inner (au 2 zY))) (nQ un i (x4 n xs false))))=(aa true !decide (i<((un.length:Nat):Int))):=by kernel_rfl
def oI (un:List Int) (i:Nat):List Int:=fq ((un.length:Nat):Int)::(un.take i).map fq
def nO (un:List Int):List Int:=fq ((un.length:Nat):Int)::un.map fq
theorem NY {un:List Int} {i:Nat} (h:i<=un.length):(oI un i).length=1+i:=by unfold oI;rw [adY,List.length_map,aaU];omega
theorem C6 (un:List Int):oI un un.length=nO un:=by unfold oI nO;rw [adA]
theorem nr (un:List Int):(nO un).length=1+un.length:=by unfold nO;rw [adY,List.length_map];omega
theorem JL {un:List Int} {i:Nat} (h:i<un.length):oI un i++[fq (un.getD i 0)]=oI un (i+1):=by
 unfold oI
 rw [List.cons_append,List.take_add_one,aai h,List.map_append,bY h];rfl
theorem Ul {n i:Nat} {un xs:List Int} (hl:xs.length=n) (h:i<un.length):xs++oI un i++[fq (un.getD i 0)]=xs++oI un (i+1):=by rw [aaE,JL h]
def tI (un:List Int):Bool:=un.all λu=>decide (0<=u)&&decide (u<=31)
theorem JM {un:List Int} (h:tI un=true) {i:Nat} (hi:i<un.length):decide (0<=un.getD i 0)=true/\decide (un.getD i 0<=31)=true:=by
 have:=aah.1 h (un.getD i 0) (by rw [bY hi];exact List.getElem_mem hi)
 simpa only [aac] using this
section
variable {n c:Nat} {xs un:List Int} {most:Int}
theorem xU {i:Nat} (hl:xs.length=n) (hi:i<=un.length):(xs++oI un i).length=n+(1+i):=by rw [aar,hl,NY hi]
theorem uI {i n':Nat} (hu:tI un=true) (hi:i<un.length) {b:Bool} (hb:b=true):(aa (aa (aa (aa true (decide (((i:Nat):Int)<((un.length:Nat):Int)))) (aX ((i:Nat):Int) un.length)) (decide (((i:Nat):Int).toNat<un.length))) (aa true (b&&decide (0<=un.getD ((i:Nat):Int).toNat 0)&&decide (un.getD ((i:Nat):Int).toNat 0<=31))))=true:=by
 obtain ⟨h1,h2⟩:=JM hu hi
 rw [aaa,fo hi,bf hi,Me hi,h1,h2,hb];rfl
theorem Um (hl:xs.length=n) (hu:tI un=true) (hm:(un.length:Int)<=most) (hc:n+(1+un.length)<=c) (hn:n+(1+un.length)<=2^38):
  ai prog 206 [.ptr 0 0 0,.ro false .i64 un,.int .i64 most,.fn (.func 207) [] []] (jl n c xs false) (.bC []) (jl (n+(1+un.length)) c (xs++nO un) false):=by
 refine ai.toEnd (h:=jl n c xs false) func206 rfl 2 0 (λi=>nQ un ((i:Nat):Int) (jl (n+(1+i)) c (xs++oI un i) false)) un.length
  (λy s' g=>aV.bk (jR false []) 60 2 _ 2 (aaf 2) (s1:=nQ un ((0:Nat):Int) (jl (n+(1+0)) c (xs++oI un 0) false)) _ (Pk un n c xs most) (JJ un n c xs most) (by rw [cU (m:=false) (ys:=[fq ((un.length:Nat):Int)]) hl (by show n+1<=2^38;omega) (by show n+1<=c;omega),Me hm];rfl) (by decide) rfl g) (by decide) (by kernel_rfl)
  (λi hi=>?_) (sE:=⟨slotsOf 30 [(0,.ptr 0 0 0)],jl (n+(1+un.length)) c (xs++nO un) false,true⟩) (s':=⟨slotsOf 30 [(0,.ptr 0 0 0)],jl (n+(1+un.length)) c (xs++nO un) false,true⟩) (x:=.normal) (v:=[]) ?_ ⟨rfl,rfl⟩ (.inr rfl) rfl
 ·have e:=Pm un (n+(1+i)) c (xs++oI un i) i
  rw [aaa,cq (by omega),Ul hl hi,show n+(1+i)+1=n+(1+(i+1)) by omega] at e
  exact Tr.aR (jR false [(18,true)]) 60 _ 2 (aaf 2) (s':=nQ un ((i+1:Nat):Int) (jl (n+(1+(i+1))) c (xs++oI un (i+1)) false)) _ e (JK un _ c _ i) (uI (n':=0) hu hi (cU (m:=false) (ys:=[_]) (xU hl (by omega)) (by show n+(1+i)+1<=2^38;omega) (by show n+(1+i)+1<=c;omega)))
 ·rw [<-C6]
  exact Tr.aR (jR false [(18,false)]) 60 _ 2 (aaf 2) _ (ZJ un _ c _ un.length) (Uj un _ c _ un.length) (by rw [fA (aaf _)];rfl)
def ZL (un xs:List Int) (n c i:Nat):St:=nQ un ((i:Nat):Int) (if n+(1+i)<=c then jl (n+(1+i)) c (xs++oI un i) false else x4 (n+(1+i)) (xs++oI un i) false)
theorem NZ {i:Nat} (hl:xs.length=n) (hu:tI un=true) (hi:i<un.length) (hn:n+(1+un.length)<=2^38):Tr prog none 2 (inner (inner (au 2 zY))) (nQ un ((i:Nat):Int) (x4 (n+(1+i)) (xs++oI un i) false)) .normal (nQ un ((i+1:Nat):Int) (x4 (n+(1+(i+1))) (xs++oI un (i+1)) false)):=by
 refine Tr.Yk (b:=0) (pre:=[]) (post:=[.bool false]) (wh:=true) rfl λcc rX=>?_
 have hlen:=xU (un:=un) (i:=i) hl (by omega)
 have a1:=Ul (un:=un) (i:=i) hl hi
 by_cases hc:n+(1+i)+1<=cc
 ·have e:=ZH un (n+(1+i)) cc (xs++oI un i) i
  rw [aaa,cq (by omega),a1,show n+(1+i)+1=n+(1+(i+1)) by omega] at e
  refine Tr.post (Tr.aR (jR false [(18,true)]) 60 _ 3 (by decide) (s':=nQ un ((i+1:Nat):Int) (ES (n+(1+(i+1))) cc (xs++oI un (i+1)) false)) _ e (Uh un _ cc _ i) (uI (n':=0) hu hi (cU (m:=false) (ys:=[_]) hlen (by show n+(1+i)+1<=2^38;omega) hc))) ?_
  refine bE.vc ⟨⟨rfl,?_⟩,PE.refl _,PE.refl _,trivial⟩
  rintro e us ⟨y,zs,hy,hz,rfl⟩
  refine ⟨y,zs,?_,hz,rfl⟩
  rcases hy with h|⟨p,c',a,h1,h2,h3,h4,h5,h6,h7⟩
  ·exact .inl ⟨h.1,h.1,h.2.2⟩
  ·exact .inr ⟨p,c',a,h1,h2,h3,h6,(by simp),h6,h7⟩
 ·have e:=ZI un (n+(1+i)) cc (xs++oI un i) i
  rw [aaa,cq (by omega),a1,show n+(1+i)+1=n+(1+(i+1)) by omega] at e
  refine Tr.post (Tr.aR (jR true [(18,true)]) 60 _ 4 (by decide) (s':=nQ un ((i+1:Nat):Int) [.b [.sl 3 0 0 1 (n+(1+(i+1))) (n+(1+(i+1))) false true,.bool false],.b [],.b [],.b [.ints .u8 (n+(1+(i+1))) (xs++oI un (i+1))]]) _ e (Ui un _ cc _ i) (uI (n':=0) hu hi (cU (m:=true) (ys:=[_]) hlen (by show n+(1+i)+1<=2^38;omega) (by show cc<n+(1+i)+1;omega)))) ?_
  have q:=bE.swap (k:=2) (t:=(nQ un ((i+1:Nat):Int) []).t) (h:=[.b [.sl 3 0 0 1 (n+(1+(i+1))) (n+(1+(i+1))) false true,.bool false],.b [],.b [],.b [.ints .u8 (n+(1+(i+1))) (xs++oI un (i+1))]]) (o:=true) (o':=true) 2 3 (aaf _) (by decide) rfl rfl rfl
  exact (q.trans (bE.same (s':=⟨(nQ un ((i+1:Nat):Int) []).t,[.b [.sl 2 0 0 1 (n+(1+(i+1))) (n+(1+(i+1))) false true,.bool false],.b [],.b [.ints .u8 (n+(1+(i+1))) (xs++oI un (i+1))],.b []],true⟩) rfl rfl)).trans (bE.dn (n:=3) (by decide) rfl)
theorem Un (hl:xs.length=n) (hu:tI un=true) (hm:(un.length:Int)<=most) (hc:c<n+(1+un.length)) (hn:n+(1+un.length)<=2^38):
  ai prog 206 [.ptr 0 0 0,.ro false .i64 un,.int .i64 most,.fn (.func 207) [] []] (jl n c xs false) (.bC []) (x4 (n+(1+un.length)) (xs++nO un) false):=by
 refine ai.toEnd (h:=jl n c xs false) func206 rfl 2 0 (ZL un xs n c) un.length
  (λy s' g=>?_) (by decide) (by kernel_rfl)
  (λi hi=>?_) (sE:=⟨slotsOf 30 [(0,.ptr 0 0 0)],x4 (n+(1+un.length)) (xs++nO un) false,true⟩) (s':=⟨slotsOf 30 [(0,.ptr 0 0 0)],x4 (n+(1+un.length)) (xs++nO un) false,true⟩) (x:=.normal) (v:=[]) ?_ ⟨rfl,rfl⟩ (.inr rfl) rfl
 ·by_cases h0:n+1<=c
  ·refine aV.bk (jR false []) 60 2 _ 2 (aaf 2) (s1:=nQ un ((0:Nat):Int) (jl (n+(1+0)) c (xs++oI un 0) false)) _ (Pk un n c xs most) (JJ un n c xs most) (by rw [cU (m:=false) (ys:=[fq ((un.length:Nat):Int)]) hl (by show n+1<=2^38;omega) h0,Me hm];rfl) (by decide) rfl ?_
   unfold ZL at g
   rwa [aaM h0] at g
  ·refine aV.bk (jR true []) 60 2 _ 3 (show 2<=3 by decide) (s1:=nQ un ((0:Nat):Int) (x4 (n+(1+0)) (xs++oI un 0) false)) _ (ZF un n c xs most) (Uf un n c xs most) (by rw [cU (m:=true) (ys:=[fq ((un.length:Nat):Int)]) hl (by show n+1<=2^38;omega) (by show c<n+1;omega),Me hm];rfl) (by decide) rfl ?_
   unfold ZL at g
   rwa [aaC h0] at g
 ·unfold ZL
  have hlen:=xU (un:=un) (i:=i) hl (by omega)
  have a1:=Ul (un:=un) (i:=i) hl hi
  by_cases h2:n+(1+(i+1))<=c
  ·rw [aaM h2,aaM (show n+(1+i)<=c by omega)]
   have e:=Pm un (n+(1+i)) c (xs++oI un i) i
   rw [aaa,cq (by omega),a1,show n+(1+i)+1=n+(1+(i+1)) by omega] at e
   exact Tr.aR (jR false [(18,true)]) 60 _ 2 (aaf 2) (s':=nQ un ((i+1:Nat):Int) (jl (n+(1+(i+1))) c (xs++oI un (i+1)) false)) _ e (JK un _ c _ i) (uI (n':=0) hu hi (cU (m:=false) (ys:=[_]) hlen (by show n+(1+i)+1<=2^38;omega) (by show n+(1+i)+1<=c;omega)))
  ·rw [aaC h2]
   by_cases h1:n+(1+i)<=c
   ·rw [aaM h1]
    have e:=ZG un (n+(1+i)) c (xs++oI un i) i
    rw [aaa,cq (by omega),a1,show n+(1+i)+1=n+(1+(i+1)) by omega] at e
    exact Tr.aR (jR true [(18,true)]) 60 _ 3 (show 2<=3 by decide) (s':=nQ un ((i+1:Nat):Int) (x4 (n+(1+(i+1))) (xs++oI un (i+1)) false)) _ e (Ug un _ c _ i) (uI (n':=0) hu hi (cU (m:=true) (ys:=[_]) hlen (by show n+(1+i)+1<=2^38;omega) (by show c<n+(1+i)+1;omega)))
   ·rw [aaC h1]
    exact NZ hl hu hi hn
 ·unfold ZL
  rw [aaC (by omega), <-C6]
  exact Tr.aR (jR false [(18,false)]) 60 _ 3 (show 2<=3 by decide) _ (ZK un _ _ un.length) (Uk un _ _ un.length) (by rw [fA (aaf _)];rfl)
end
def ZM (m:Bool):List SV->List Blk->Option (SV×List Blk×Bool)
 | [.ptr 0 0 0,.ro false .i64 un,.int .i64 most,.fn (.func 207) [] []],[.b [.sl 1 0 0 1 n c true true,.bool false],.b [.ints .u8 n' xs]]=>some (.bC [],ER m n c xs (nO un) false,g9 m n n' c xs (nO un)&&tI un&&decide ((un.length:Int)<=most))
 |_,_=>none
def ae3 (m:Bool):Entry prog:=.mut 206 _ func206 (by decide) rfl rq (ZA m) (ZM m) λus h0 v h1 e=>by
 unfold ZM at e
 split at e
 ·rename_i un most n c n' xs
  simp only [No,aae,aac,aab] at e
  obtain ⟨rfl,rfl,⟨h,h2⟩,h3⟩:=e
  obtain ⟨rfl,q1,q2,q3⟩:=p6 h
  rw [nr] at q2 q3
  cases m
  ·have:=Um (c:=c) (most:=most) q1 h2 h3 (by simpa using q3) q2
   unfold ER
   rw [nr];exact this
  ·have:=Un (c:=c) (most:=most) q1 h2 h3 (by simpa using q3) q2
   unfold ER
   rw [nr];exact this
 ·cases e
end Go.Proofs.YthlnlcijnoadcaaGreatDoor.Wi
end
