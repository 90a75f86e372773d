/- This file defines symbolic values ('SV') and what they say of the machine's values. No conditions: definitions and their plain laws. -/
import Derived.Calls
import Derived.LoopN
import Derived.KernelRfl
import Derived.Below
import Derived.OrdersIn
import Derived.Laws.CopyRow
import Derived.Laws.StructEq
import Derived.RangeFuncLeaves
import Derived.LoopNIn
import Derived.Laws.Closers25b
import Derived.Laws.Append
set_option linter.all false
namespace Go.Sy
open Go
noncomputable def gz {α:Type} (v:α):α:=Classical.choose (⟨v,rfl⟩:∃z,z=v)
theorem aq {α:Type} (v:α):gz v=v:=Classical.choose_spec (⟨v,rfl⟩:∃z,z=v)
structure Pl where
 n:Nat
 base:Nat
 size:Nat
inductive SV where
 |bool (b:Bool)
 |int (k:IntKind) (n:Int)
 |str (s:List Int)
 |nl (v:Value)
 |ints (k:IntKind) (n:Nat) (xs:List Int)
 |ptr (b o i:Nat)
 |sl (b o i z len cap:Nat) (ex wh:Bool)
 |ro (f:Bool) (k:IntKind) (xs:List Int)
 |hU (f:Bool) (xss:List (List Int))
 |qD (f:Bool) (z len:Nat) (g:Nat→List SV)
 |pV (k:IntKind) (xs:List Int) (i:Nat)
 |s6 (f:Bool) (xss:List (List Int)) (i:Nat)
 |nR (f:Bool) (z len:Nat) (g:Nat→List SV) (e o i:Nat)
 |agg (ps:List SV)
 |bk (vs:List SV)
 |iface (t:TypeId) (v:SV)
 |fn (f:Fn) (a b:List SV)
structure Env where
 r:Nat→Option Pl
 z:Nat→Option (Array Value×TypeId×(Nat×Nat))
 n0:Nat
 m:List Nat
 y:Nat→Option Nat
def aV (k:IntKind) (xs:List Int):List Value:=xs.map (Value.int k)
def aO (n:Nat) (l:List Int):List Int:=(List.range n).map fun i=>l.getD i 0
def gV (s:ByteArray):List Int:=s.data.toList.map fun b=>(b.toNat:Int)
def nX (e:Env) (f:Bool) (k:IntKind) (xs:List Int) (v:Value):Prop:=
 (xs=[]∧∃a cap,v= .slice a 0 cap∧(a=none→cap=0))∨
 ∃n o cap c t fr,v= .slice (some ⟨n,o,none⟩) xs.length cap∧e.z n=some (c,t,fr)∧(f=true→e.n0≤n)∧
  aV k xs=(c.toList.drop o).take xs.length∧xs.length≤cap∧o+cap≤c.size
def Ns (e:Env) (f:Bool) (xss:List (List Int)) (v:Value):Prop:=
 (xss=[]∧∃a cap,v= .slice a 0 cap∧(a=none→cap=0))∨
 ∃n o cap c t fr,v= .slice (some ⟨n,o,none⟩) xss.length cap∧e.z n=some (c,t,fr)∧(f=true→e.n0≤n)∧
  (∀(i:Nat) (xs:List Int),xss[i]? =some xs→∃y,c.toList[o+i]? =some y∧nX e f .u8 xs y)∧xss.length≤cap∧o+cap≤c.size
mutual
def VR:Env→SV→Value→Prop
 |_,.bool b,v'=>v'= .bool b
 |_,.int k n,v'=>v'= .int k n
 |_,.str xs,v'=>∃s,v'= .string s∧xs=gV s
 |_,.nl v,v'=>v'=v
 |_,.ints _ _ _,_=>False
 |e,.ptr b o i,v'=>∃p,e.r b=some p∧v'= .pointer (some ⟨p.n,p.base+(o+i),none⟩)
 |e,.sl b o i z len cap ex _,v'=>
  (len=0∧cap=0∧∃a,v'= .slice a 0 0)∨
  ∃p cap' a,e.r b=some p∧v'= .slice (some ⟨p.n,a,none⟩) len cap'∧(cap'≠0→a=p.base+(o+i*z))∧cap≤cap'∧(ex=true→cap'=cap)∧len≤cap'∧(cap'≠0→o+i*z+cap'*z≤p.size)
 |e,.ro f k xs,v'=>nX e f k xs v'
 |e,.hU f xss,v'=>Ns e f xss v'
 |e,.qD f z len g,v'=>
  (len=0∧∃a cap,v'= .slice a 0 cap∧(a=none→cap=0))∨
  ∃n o cap c t fr,v'= .slice (some ⟨n,o,none⟩) len cap∧e.z n=some (c,t,fr)∧(f=true→e.n0≤n)∧
   (∀i,i<len→PR ⟨fun _=>none,e.z,e.n0,[],fun _=>none⟩ (g i) ((c.toList.drop (o+i*z)).take z))∧len≤cap∧o+cap*z≤c.size
 |e,.pV k xs i,v'=>∃n o c t fr,v'= .pointer (some ⟨n,o+i,none⟩)∧e.z n=some (c,t,fr)∧aV k xs=(c.toList.drop o).take xs.length
 |e,.s6 f xss i,v'=>∃n o c t fr,v'= .pointer (some ⟨n,o+i,none⟩)∧e.z n=some (c,t,fr)∧
   (∀(i:Nat) (xs:List Int),xss[i]? =some xs→∃y,c.toList[o+i]? =some y∧nX e f .u8 xs y)
 |e,.nR _ z len g el o i,v'=>∃n o0 c t fr,v'= .pointer (some ⟨n,o0+el*z+(o+i),none⟩)∧e.z n=some (c,t,fr)∧
   (∀i,i<len→PR ⟨fun _=>none,e.z,e.n0,[],fun _=>none⟩ (g i) ((c.toList.drop (o0+i*z)).take z))∧o0+len*z≤c.size
 |e,.agg ps,v'=>∃ys,PR e ps ys∧v'= .agg ⟨ys⟩
 |e,.bk vs,v'=>∃ys,LR e vs ys∧v'= .tuple ⟨ys⟩
 |e,.iface t x,v'=>∃y,VR e x y∧v'= .iface t y
 |e,.fn f a b,v'=>∃ys us,LR e a ys∧LR e b us∧v'= .func f ⟨ys⟩ ⟨us⟩
def LR:Env→List SV→List Value→Prop
 |_,[],ys=>ys=[]
 |e,x::xs,ys=>∃y zs,VR e x y∧LR e xs zs∧ys=y::zs
def PR:Env→List SV→List Value→Prop
 |_,[],ys=>ys=[]
 |e,x::xs,ys=>match x with
  | .ints k n l=>∃zs,PR e xs zs∧ys=aV k (aO n l)++zs
  |x=>∃y zs,VR e x y∧PR e xs zs∧ys=y::zs
end
theorem aJ {n:Nat} {l:List Int} (h:l.length=n):aO n l=l:=by
 apply List.ext_getElem?
 intro i
 unfold aO
 rw [List.getElem?_map]
 rcases Nat.lt_or_ge i n with hi|hi
 ·rw [List.getElem?_range hi]
  simp [List.getD,List.getElem?_eq_getElem (show i<l.length by omega)]
 ·rw [List.getElem?_eq_none (by simpa using hi),List.getElem?_eq_none (by omega)];rfl
theorem aI (n:Nat) (l:List Int):(aO n l).length=n:=by simp [aO]
theorem iK {n i:Nat} (l:List Int) (h:i<n):(aO n l)[i]? =some (l.getD i 0):=by
 unfold aO;rw [List.getElem?_map,List.getElem?_range h];rfl
theorem uh (n o:Nat) (l:List Int):aO (n-o) (l.drop o)=(aO n l).drop o:=by
 apply List.ext_getElem?
 intro i
 rw [List.getElem?_drop]
 rcases Nat.lt_or_ge i (n-o) with hi|hi
 ·rw [iK _ hi,iK _ (by omega)]
  simp [List.getD,List.getElem?_drop]
 ·rw [List.getElem?_eq_none (by rw [aI];exact hi),List.getElem?_eq_none (by rw [aI];omega)]
theorem jc {n m:Nat} (h:m≤n) (l:List Int):aO m (l.take m)=(aO n l).take m:=by
 apply List.ext_getElem?
 intro i
 rw [List.getElem?_take]
 rcases Nat.lt_or_ge i m with hi|hi
 ·rw [iK _ hi,if_pos hi,iK _ (by omega)]
  simp [List.getD,hi]
 ·rw [List.getElem?_eq_none (by rw [aI];exact hi),if_neg (by omega)]
theorem Kw (n:Nat) (l:List Int):aO n (aO n l)=aO n l:=aJ (aI n l)
theorem av {k:IntKind} {xs:List Int}:(aV k xs).length=xs.length:=by simp [aV]
theorem F5 {k:IntKind} {xs:List Int} {o:Nat} (h:o<xs.length):(aV k xs)[o]? =some (.int k (xs.getD o 0)):=by
 simp [aV,List.getD,List.getElem?_eq_getElem h]
theorem eP (k:IntKind) (a b:List Int):aV k (a++b)=aV k a++aV k b:=by simp [aV]
theorem cq (k:IntKind) (n:Nat) (a:List Int):aV k (a.take n)=(aV k a).take n:=by simp [aV,List.map_take]
theorem dM (k:IntKind) (n:Nat) (a:List Int):aV k (a.drop n)=(aV k a).drop n:=by simp [aV,List.map_drop]
mutual
def lM (s:Nat→Nat):SV→SV
 | .ptr b o i=>.ptr (s b) o i
 | .sl b o i z len cap ex wh=>.sl (s b) o i z len cap ex wh
 | .agg ps=>.agg (gG s ps)
 | .bk vs=>.bk (gG s vs)
 | .iface t x=>.iface t (lM s x)
 | .fn f a b=>.fn f (gG s a) (gG s b)
 |v=>v
def gG (s:Nat→Nat):List SV→List SV
 | []=>[]
 |x::xs=>lM s x::gG s xs
end
mutual
def uses (j:Nat):SV→Bool
 | .ptr b _ _=>b==j
 | .sl b _ _ _ _ _ _ _=>b==j
 | .agg ps=>cW j ps
 | .bk vs=>cW j vs
 | .iface _ x=>uses j x
 | .fn _ a b=>cW j a||cW j b
 |_=>false
def cW (j:Nat):List SV→Bool
 | []=>false
 |x::xs=>uses j x||cW j xs
end
theorem nX.mono {e e':Env} (hz:∀n o,e.z n=some o→e'.z n=some o) (hn:e'.n0≤e.n0) {f:Bool} {k:IntKind} {xs:List Int} {v:Value} (h:nX e f k xs v):nX e' f k xs v:=by
 rcases h with h|⟨n,o,cap,c,t,fr,h1,h2,h3,h4,h5,h6⟩
 ·exact .inl h
 ·exact .inr ⟨n,o,cap,c,t,fr,h1,hz _ _ h2,fun q=>Nat.le_trans hn (h3 q),h4,h5,h6⟩
theorem Ns.mono {e e':Env} (hz:∀n o,e.z n=some o→e'.z n=some o) (hn:e'.n0≤e.n0) {f:Bool} {xss:List (List Int)} {v:Value} (h:Ns e f xss v):Ns e' f xss v:=by
 rcases h with h|⟨n,o,cap,c,t,fr,h1,h2,h3,h4,h5,h6⟩
 ·exact .inl h
 ·exact .inr ⟨n,o,cap,c,t,fr,h1,hz _ _ h2,fun q=>Nat.le_trans hn (h3 q),fun i xs hi=>(h4 i xs hi).imp fun y ⟨a,b⟩=>⟨a,b.mono hz hn⟩,h5,h6⟩
mutual
theorem VR.mono' {e e':Env} (hz:∀n o,e.z n=some o→e'.z n=some o) (hn:e'.n0≤e.n0):∀(v:SV) (v':Value),(∀j p,uses j v=true→e.r j=some p→e'.r j=some p)→VR e v v'→VR e' v v'
 | .bool _,_,_,h=>h
 | .int _ _,_,_,h=>h
 | .str _,_,_,h=>h
 | .nl _,_,_,h=>h
 | .ints _ _ _,_,_,h=>h
 | .ptr b _ _,_,g,⟨p,h1,h2⟩=>⟨p,g b p (by simp [uses]) h1,h2⟩
 | .sl b _ _ _ _ _ _ _,_,g,h=>by
  rcases h with h|⟨p,c,a,h1,h2⟩
  ·exact .inl h
  ·exact .inr ⟨p,c,a,g b p (by simp [uses]) h1,h2⟩
 | .ro _ _ _,_,_,h=>nX.mono hz hn h
 | .hU _ _,_,_,h=>Ns.mono hz hn h
 | .qD f z len g,_,_,h=>by
  rcases h with h|⟨n,o,cap,c,t,fr,h1,h2,h3,h4,h5,h6⟩
  ·exact .inl h
  ·exact .inr ⟨n,o,cap,c,t,fr,h1,hz _ _ h2,fun q=>Nat.le_trans hn (h3 q),fun i hi=>PR.mono' (e:=⟨fun _=>none,e.z,e.n0,[],fun _=>none⟩) (e':=⟨fun _=>none,e'.z,e'.n0,[],fun _=>none⟩) hz hn (g i) _ (fun _ _ _ q=>by cases q) (h4 i hi),h5,h6⟩
 | .pV _ _ _,_,_,⟨n,o,c,t,fr,h1,h2,h3⟩=>⟨n,o,c,t,fr,h1,hz _ _ h2,h3⟩
 | .s6 _ _ _,_,_,⟨n,o,c,t,fr,h1,h2,h3⟩=>⟨n,o,c,t,fr,h1,hz _ _ h2,fun i xs hi=>(h3 i xs hi).imp fun y ⟨a,b⟩=>⟨a,b.mono hz hn⟩⟩
 | .nR _ z len g el o i,_,_,⟨n,o0,c,t,fr,h1,h2,h3,h4⟩=>
  ⟨n,o0,c,t,fr,h1,hz _ _ h2,fun i hi=>PR.mono' (e:=⟨fun _=>none,e.z,e.n0,[],fun _=>none⟩) (e':=⟨fun _=>none,e'.z,e'.n0,[],fun _=>none⟩) hz hn (g i) _ (fun _ _ _ q=>by cases q) (h3 i hi),h4⟩
 | .agg ps,_,g,⟨ys,h1,h2⟩=>⟨ys,PR.mono' hz hn ps ys (fun j p q=>g j p (by simpa [uses] using q)) h1,h2⟩
 | .bk vs,_,g,⟨ys,h1,h2⟩=>⟨ys,LR.mono' hz hn vs ys (fun j p q=>g j p (by simpa [uses] using q)) h1,h2⟩
 | .iface _ x,_,g,⟨y,h1,h2⟩=>⟨y,VR.mono' hz hn x y (fun j p q=>g j p (by simpa [uses] using q)) h1,h2⟩
 | .fn _ a b,_,g,⟨ys,us,h1,h2,h3⟩=>
  ⟨ys,us,LR.mono' hz hn a ys (fun j p q=>g j p (by simp [uses,q])) h1,LR.mono' hz hn b us (fun j p q=>g j p (by simp [uses,q])) h2,h3⟩
theorem LR.mono' {e e':Env} (hz:∀n o,e.z n=some o→e'.z n=some o) (hn:e'.n0≤e.n0):∀(vs:List SV) (ys:List Value),(∀j p,cW j vs=true→e.r j=some p→e'.r j=some p)→LR e vs ys→LR e' vs ys
 | [],_,_,h=>h
 |x::xs,_,g,⟨y,zs,h1,h2,h3⟩=>⟨y,zs,VR.mono' hz hn x y (fun j p q=>g j p (by simp [cW,q])) h1,LR.mono' hz hn xs zs (fun j p q=>g j p (by simp [cW,q])) h2,h3⟩
theorem PR.mono' {e e':Env} (hz:∀n o,e.z n=some o→e'.z n=some o) (hn:e'.n0≤e.n0):∀(vs:List SV) (ys:List Value),(∀j p,cW j vs=true→e.r j=some p→e'.r j=some p)→PR e vs ys→PR e' vs ys
 | [],_,_,h=>h
 |x::xs,ys,g,h=>by
  have ih:=fun zs=>PR.mono' hz hn xs zs (fun j p q=>g j p (by simp [cW,q]))
  have iv:=fun y=>VR.mono' hz hn x y (fun j p q=>g j p (by simp [cW,q]))
  cases x<;>first
   |(obtain ⟨zs,h1,h2⟩:=h;exact ⟨zs,ih zs h1,h2⟩)
   |(obtain ⟨y,zs,h1,h2,h3⟩:=h;exact ⟨y,zs,iv y h1,ih zs h2,h3⟩)
end
mutual
theorem VR.lM {s:Nat→Nat} {e e':Env} (hz:∀n o,e.z n=some o→e'.z n=some o) (hn:e'.n0≤e.n0):∀(v:SV) (v':Value),(∀j p,uses j v=true→e.r j=some p→e'.r (s j)=some p)→VR e v v'→VR e' (Sy.lM s v) v'
 | .bool _,_,_,h=>h
 | .int _ _,_,_,h=>h
 | .str _,_,_,h=>h
 | .nl _,_,_,h=>h
 | .ints _ _ _,_,_,h=>h
 | .ptr b _ _,_,g,⟨p,h1,h2⟩=>⟨p,g b p (by simp [uses]) h1,h2⟩
 | .sl b _ _ _ _ _ _ _,_,g,h=>by
  rcases h with h|⟨p,c,a,h1,h2⟩
  ·exact .inl h
  ·exact .inr ⟨p,c,a,g b p (by simp [uses]) h1,h2⟩
 | .ro f k xs,v',_,h=>VR.mono' hz hn (.ro f k xs) v' (fun _ _ q=>by cases q) h
 | .hU f xss,v',_,h=>VR.mono' hz hn (.hU f xss) v' (fun _ _ q=>by cases q) h
 | .qD f z len g,v',_,h=>VR.mono' hz hn (.qD f z len g) v' (fun _ _ q=>by cases q) h
 | .pV k xs i,v',_,h=>VR.mono' hz hn (.pV k xs i) v' (fun _ _ q=>by cases q) h
 | .s6 f xss i,v',_,h=>VR.mono' hz hn (.s6 f xss i) v' (fun _ _ q=>by cases q) h
 | .nR f z len g a b c,v',_,h=>VR.mono' hz hn (.nR f z len g a b c) v' (fun _ _ q=>by cases q) h
 | .agg ps,_,g,⟨ys,h1,h2⟩=>⟨ys,PR.lM hz hn ps ys (fun j p q=>g j p (by simpa [uses] using q)) h1,h2⟩
 | .bk vs,_,g,⟨ys,h1,h2⟩=>⟨ys,LR.lM hz hn vs ys (fun j p q=>g j p (by simpa [uses] using q)) h1,h2⟩
 | .iface _ x,_,g,⟨y,h1,h2⟩=>⟨y,VR.lM hz hn x y (fun j p q=>g j p (by simpa [uses] using q)) h1,h2⟩
 | .fn _ a b,_,g,⟨ys,us,h1,h2,h3⟩=>
  ⟨ys,us,LR.lM hz hn a ys (fun j p q=>g j p (by simp [uses,q])) h1,LR.lM hz hn b us (fun j p q=>g j p (by simp [uses,q])) h2,h3⟩
theorem LR.lM {s:Nat→Nat} {e e':Env} (hz:∀n o,e.z n=some o→e'.z n=some o) (hn:e'.n0≤e.n0):∀(vs:List SV) (ys:List Value),(∀j p,cW j vs=true→e.r j=some p→e'.r (s j)=some p)→LR e vs ys→LR e' (gG s vs) ys
 | [],_,_,h=>h
 |x::xs,_,g,⟨y,zs,h1,h2,h3⟩=>⟨y,zs,VR.lM hz hn x y (fun j p q=>g j p (by simp [cW,q])) h1,LR.lM hz hn xs zs (fun j p q=>g j p (by simp [cW,q])) h2,h3⟩
theorem PR.lM {s:Nat→Nat} {e e':Env} (hz:∀n o,e.z n=some o→e'.z n=some o) (hn:e'.n0≤e.n0):∀(vs:List SV) (ys:List Value),(∀j p,cW j vs=true→e.r j=some p→e'.r (s j)=some p)→PR e vs ys→PR e' (gG s vs) ys
 | [],_,_,h=>h
 |x::xs,ys,g,h=>by
  have ih:=fun zs=>PR.lM hz hn xs zs (fun j p q=>g j p (by simp [cW,q]))
  have iv:=fun y=>VR.lM hz hn x y (fun j p q=>g j p (by simp [cW,q]))
  cases x<;>first
   |(obtain ⟨zs,h1,h2⟩:=h;exact ⟨zs,ih zs h1,h2⟩)
   |(obtain ⟨y,zs,h1,h2,h3⟩:=h;exact ⟨y,zs,iv y h1,ih zs h2,h3⟩)
end
structure Env.Le (e e':Env):Prop where
 r:∀j p,e.r j=some p→e'.r j=some p
 z:∀n o,e.z n=some o→e'.z n=some o
 n0:e'.n0≤e.n0
theorem Env.Le.refl (e:Env):Env.Le e e:=⟨fun _ _ h=>h,fun _ _ h=>h,Nat.le_refl _⟩
theorem Env.Le.trans {a b c:Env} (h:Env.Le a b) (g:Env.Le b c):Env.Le a c:=⟨fun j p q=>g.r j p (h.r j p q),fun n o q=>g.z n o (h.z n o q),Nat.le_trans g.n0 h.n0⟩
theorem VR.mono {e e':Env} (h:Env.Le e e') {v:SV} {v':Value} (g:VR e v v'):VR e' v v':=VR.mono' h.z h.n0 v v' (fun j p _ q=>h.r j p q) g
theorem LR.mono {e e':Env} (h:Env.Le e e') {v:List SV} {v':List Value} (g:LR e v v'):LR e' v v':=LR.mono' h.z h.n0 v v' (fun j p _ q=>h.r j p q) g
theorem PR.mono {e e':Env} (h:Env.Le e e') {v:List SV} {v':List Value} (g:PR e v v'):PR e' v v':=PR.mono' h.z h.n0 v v' (fun j p _ q=>h.r j p q) g
section
variable {e:Env}
theorem LR.length:∀{xs:List SV} {ys:List Value},LR e xs ys→ys.length=xs.length
 | [],_,h=>by rw [LR] at h;subst h;rfl
 |_::xs,_,⟨_,_,_,h,q⟩=>by subst q;simp [LR.length h]
theorem LR.get:∀{xs:List SV} {ys:List Value} {i:Nat} {x:SV},LR e xs ys→xs[i]? =some x→∃y,ys[i]? =some y∧VR e x y
 | [],_,_,_,_,h=>by simp at h
 |a::xs,_,0,x,⟨y,zs,hy,_,q⟩,h=>by subst q;simp at h;subst h;exact ⟨y,rfl,hy⟩
 |a::xs,_,i+1,x,⟨y,zs,_,hz,q⟩,h=>by subst q;simp at h;obtain ⟨u,hu,hv⟩:=LR.get hz h;exact ⟨u,by simpa using hu,hv⟩
theorem LR.append:∀{xs us:List SV} {ys vs:List Value},LR e xs ys→LR e us vs→LR e (xs++us) (ys++vs)
 | [],_,_,_,h,g=>by rw [LR] at h;subst h;exact g
 |_::xs,_,_,_,⟨y,zs,hy,hz,q⟩,h=>by subst q;exact ⟨y,_,hy,LR.append hz h,rfl⟩
theorem LR.one {x:SV} {y:Value} (h:VR e x y):LR e [x] [y]:=⟨y,[],h,rfl,rfl⟩
def sE:SV→Nat
 | .ints _ n _=>n
 |_=>1
def aA:List SV→Nat
 | []=>0
 |p::ps=>sE p+aA ps
def aW:SV→Bool
 | .ints _ _ _=>false
 |_=>true
theorem PR.cons {x:SV} {xs:List SV} {ys:List Value} (hx:aW x=true):PR e (x::xs) ys↔∃y zs,VR e x y∧PR e xs zs∧ys=y::zs:=by
 cases x<;>first|rfl|cases hx
theorem Pz {x:SV} (hx:aW x=true):sE x=1:=by cases x<;>first|rfl|cases hx
theorem PR.length:∀{ps:List SV} {ys:List Value},PR e ps ys→ys.length=aA ps
 | [],_,h=>by rw [PR] at h;subst h;rfl
 |x::xs,ys,h=>by
  by_cases hx:aW x=true
  ·rw [PR.cons hx] at h
   obtain ⟨y,zs,_,h2,rfl⟩:=h
   simp [aA,Pz hx,PR.length h2];omega
  ·cases x<;>simp [aW] at hx
   obtain ⟨zs,h2,rfl⟩:=h
   simp [aA,sE,PR.length h2,av,aI]
theorem PR.append:∀{ps qs:List SV} {ys zs:List Value},PR e ps ys→PR e qs zs→PR e (ps++qs) (ys++zs)
 | [],_,_,_,h,g=>by rw [PR] at h;subst h;exact g
 |x::xs,qs,ys,zs,h,g=>by
  rw [List.cons_append]
  by_cases hx:aW x=true
  ·rw [PR.cons hx] at h ⊢
   obtain ⟨y,us,h1,h2,rfl⟩:=h
   exact ⟨y,_,h1,PR.append h2 g,rfl⟩
  ·cases x<;>simp [aW] at hx
   obtain ⟨us,h2,rfl⟩:=h
   exact ⟨_,PR.append h2 g,by rw [List.append_assoc]⟩
def j6:List SV→Nat→Option (List SV)
 |ps,0=>some ps
 | [],_+1=>none
 |p::ps,o+1=>match p with
  | .ints k n xs=>match Nat.ble n (o+1) with
   |true=>j6 ps (o+1-n)
   |false=>some (.ints k (n-(o+1)) (xs.drop (o+1))::ps)
  |_=>j6 ps o
def oe:List SV→Nat→Option (List SV)
 |_,0=>some []
 | [],_+1=>none
 |p::ps,n+1=>match p with
  | .ints k m xs=>match Nat.ble m (n+1) with
   |true=>(oe ps (n+1-m)).map (p:: ·)
   |false=>some [.ints k (n+1) (xs.take (n+1))]
  |_=>(oe ps n).map (p:: ·)
def j7:List SV→Nat→Nat→Option (SV×Bool)
 | [],_,_=>none
 |p::ps,o,i=>match p with
  | .ints k n xs=>match o with
   |0=>some (.int k (xs.getD i 0),decide (i<n))
   |o+1=>match Nat.ble n (o+1) with
    |true=>j7 ps (o+1-n) i
    |false=>some (.int k (xs.getD (o+1+i) 0),decide (o+1+i<n))
  |p=>match o with
   |0=>match i with
    |0=>some (p,true)
    |i+1=>j7 ps 0 i
   |o+1=>j7 ps o i
def xR:Value→Option Nat
 | .pointer none=>some 0
 | .slice none 0 0=>some 1
 | .map none=>some 2
 | .chan none=>some 3
 | .nilFunc=>some 4
 | .nilIface=>some 5
 |_=>none
def one:SV→Bool
 | .ints _ _ _| .agg _| .bk _=>false
 | .nl v=>(xR v).isSome
 |_=>true
def PA (k:IntKind) (n:Nat) (xs:List Int) (j:Nat) (ps:List SV):SV→Option (List SV×Bool)
 | .int k' m=>if k=k' then some (.ints k n (xs.set j m)::ps,decide (j<n)&&decide (xs.length=n)) else none
 |_=>none
def uj:List SV→Nat→Nat→SV→Option (List SV×Bool)
 | [],_,_,_=>none
 |p::ps,o,i,v=>match p with
  | .ints k n xs=>match o with
   |0=>PA k n xs i ps v
   |o+1=>match Nat.ble n (o+1) with
    |true=>(uj ps (o+1-n) i v).map fun q=>(p::q.1,q.2)
    |false=>PA k n xs (o+1+i) ps v
  |_=>match o with
   |0=>match i with
    |0=>if one v then some (v::ps,true) else none
    |i+1=>(uj ps 0 i v).map fun q=>(p::q.1,q.2)
   |o+1=>(uj ps o i v).map fun q=>(p::q.1,q.2)
theorem eG:∀{ps qs:List SV} {o:Nat} {ys:List Value},j6 ps o=some qs→PR e ps ys→PR e qs (ys.drop o)∧o≤ys.length
 |ps,qs,0,ys,h,g=>by
  have:j6 ps 0=some ps:=by cases ps<;>rfl
  rw [this] at h;cases h;exact ⟨by simpa using g,Nat.zero_le _⟩
 | [],qs,o+1,ys,h,g=>by simp [j6] at h
 |x::xs,qs,o+1,ys,h,g=>by
  by_cases hx:aW x=true
  ·have h':j6 xs o=some qs:=by cases x<;>first|exact h|cases hx
   rw [PR.cons hx] at g
   obtain ⟨y,zs,_,h2,rfl⟩:=g
   obtain ⟨h3,h4⟩:=eG h' h2
   exact ⟨by simpa using h3,by simp;omega⟩
  ·cases x<;>simp [aW] at hx
   rename_i k n l
   obtain ⟨zs,h2,rfl⟩:=g
   simp only [j6] at h
   split at h
   ·rename_i hb
    have hle:=Nat.le_of_ble_eq_true hb
    obtain ⟨h3,h4⟩:=eG h h2
    refine ⟨?_,by simp [av,aI];omega⟩
    rw [List.drop_append]
    rw [List.drop_eq_nil_of_le (by rw [av,aI];exact hle),av,aI]
    exact h3
   ·rename_i hb
    cases h
    have hlt:o+1<n:=by
     rcases Nat.lt_or_ge (o+1) n with q|q
     ·exact q
     ·rw [Nat.ble_eq_true_of_le q] at hb;cases hb
    refine ⟨⟨zs,h2,?_⟩,by simp [av,aI];omega⟩
    rw [List.drop_append_of_le_length (by rw [av,aI];omega),uh,dM]
theorem jD:∀{ps qs:List SV} {n:Nat} {ys:List Value},oe ps n=some qs→PR e ps ys→PR e qs (ys.take n)∧n≤ys.length
 |ps,qs,0,ys,h,g=>by
  have:oe ps 0=some []:=by cases ps<;>rfl
  rw [this] at h;cases h;exact ⟨by simp [PR],Nat.zero_le _⟩
 | [],qs,n+1,ys,h,g=>by simp [oe] at h
 |x::xs,qs,n+1,ys,h,g=>by
  by_cases hx:aW x=true
  ·have h':(oe xs n).map (x:: ·)=some qs:=by cases x<;>first|exact h|cases hx
   obtain ⟨qs',h1,rfl⟩:=Option.map_eq_some_iff.1 h'
   rw [PR.cons hx] at g
   obtain ⟨y,zs,h0,h2,rfl⟩:=g
   obtain ⟨h3,h4⟩:=jD h1 h2
   exact ⟨by rw [PR.cons hx];exact ⟨y,_,h0,h3,by simp⟩,by simp;omega⟩
  ·cases x<;>simp [aW] at hx
   rename_i k m l
   obtain ⟨zs,h2,rfl⟩:=g
   simp only [oe] at h
   split at h
   ·rename_i hb
    have hle:=Nat.le_of_ble_eq_true hb
    obtain ⟨qs',h1,rfl⟩:=Option.map_eq_some_iff.1 h
    obtain ⟨h3,h4⟩:=jD h1 h2
    refine ⟨⟨_,h3,?_⟩,by simp [av,aI];omega⟩
    rw [List.take_append,List.take_of_length_le (by rw [av,aI];exact hle),av,aI]
   ·rename_i hb
    cases h
    have hlt:n+1<m:=by
     rcases Nat.lt_or_ge (n+1) m with q|q
     ·exact q
     ·rw [Nat.ble_eq_true_of_le q] at hb;cases hb
    refine ⟨⟨[],rfl,?_⟩,by simp [av,aI];omega⟩
    rw [List.take_append_of_le_length (by rw [av,aI];omega),jc (Nat.le_of_lt hlt),cq,List.append_nil]
theorem PR.Ec {k:IntKind} {n j:Nat} {l:List Int} {zs:List Value} (h:j<n):(aV k (aO n l)++zs)[j]? =some (.int k (l.getD j 0)):=by
 rw [List.getElem?_append_left (by rw [av,aI];exact h)]
 simp [aV,iK l h]
theorem fC:∀{ps:List SV} {o i:Nat} {ys:List Value} {v:SV},j7 ps o i=some (v,true)→PR e ps ys→∃y,ys[o+i]? =some y∧VR e v y
 | [],o,i,ys,v,h,g=>by simp [j7] at h
 |x::xs,o,i,ys,v,h,g=>by
  by_cases hx:aW x=true
  ·rw [PR.cons hx] at g
   obtain ⟨y,zs,h0,h2,rfl⟩:=g
   cases o with
   |zero=>
    cases i with
    |zero=>
     have:v=x:=by cases x<;>simp [j7,aW] at h hx<;>exact h.symm
     subst this
     exact ⟨y,by simp,h0⟩
    |succ i=>
     have h':j7 xs 0 i=some (v,true):=by cases x<;>first|exact h|cases hx
     obtain ⟨u,hu,hv⟩:=fC h' h2
     exact ⟨u,by simpa [Nat.add_comm,Nat.add_left_comm] using hu,hv⟩
   |succ o=>
    have h':j7 xs o i=some (v,true):=by cases x<;>first|exact h|cases hx
    obtain ⟨u,hu,hv⟩:=fC h' h2
    exact ⟨u,by rw [show o+1+i=o+i+1 by omega];simpa using hu,hv⟩
  ·cases x<;>simp [aW] at hx
   rename_i k n l
   obtain ⟨zs,h2,rfl⟩:=g
   simp only [j7] at h
   split at h
   ·simp only [Option.some.injEq,Prod.mk.injEq,decide_eq_true_eq] at h
    obtain ⟨rfl,h⟩:=h
    exact ⟨_,by rw [Nat.zero_add,PR.Ec h],rfl⟩
   ·rename_i o
    split at h
    ·rename_i hb
     have hle:=Nat.le_of_ble_eq_true hb
     obtain ⟨u,hu,hv⟩:=fC h h2
     refine ⟨u,?_,hv⟩
     rw [List.getElem?_append_right (by rw [av,aI];omega),av,aI]
     rw [←hu];congr 1;omega
    ·simp only [Option.some.injEq,Prod.mk.injEq,decide_eq_true_eq] at h
     obtain ⟨rfl,h⟩:=h
     exact ⟨_,by rw [PR.Ec h],rfl⟩
theorem Kx {v:Value} (h:(xR v).isSome=true):v.oneCell'=true:=by
 cases v<;>first|rfl|(simp [xR] at h)
theorem VR.pW {v:SV} {v':Value} (h:VR e v v') (ho:one v=true):v'.oneCell'=true:=by
 cases v with
 |nl x=>rw [VR] at h;subst h;exact Kx ho
 |ints=>cases ho
 |agg=>cases ho
 |bk=>cases ho
 |bool=>rw [VR] at h;subst h;rfl
 |int=>rw [VR] at h;subst h;rfl
 |str=>obtain ⟨s,rfl,_⟩:=h;rfl
 |ptr=>obtain ⟨p,_,rfl⟩:=h;rfl
 |sl=>
  rcases h with ⟨_,_,a,rfl⟩|⟨p,c,a,_,rfl,_⟩<;>rfl
 |ro=>
  rcases h with ⟨_,a,c,rfl,_⟩|⟨n,o,cap,c,t,fr,rfl,_⟩<;>rfl
 |hU=>
  rcases h with ⟨_,a,c,rfl,_⟩|⟨n,o,cap,c,t,fr,rfl,_⟩<;>rfl
 |qD=>
  rcases h with ⟨_,a,c,rfl,_⟩|⟨n,o,cap,c,t,fr,rfl,_⟩<;>rfl
 |pV=>obtain ⟨n,o,c,t,fr,rfl,_⟩:=h;rfl
 |s6=>obtain ⟨n,o,c,t,fr,rfl,_⟩:=h;rfl
 |nR=>obtain ⟨n,o,c,t,fr,rfl,_⟩:=h;rfl
 |iface=>obtain ⟨y,_,rfl⟩:=h;rfl
 |fn=>obtain ⟨ys,us,_,_,rfl⟩:=h;rfl
theorem um {k:IntKind} {n j:Nat} {l:List Int} {ps qs:List SV} {v:SV} {y:Value} {zs:List Value} (h:PA k n l j ps v=some (qs,true)) (g:PR e ps zs) (hv:VR e v y):
  PR e qs ((aV k (aO n l)++zs).set j y)∧j<n:=by
 unfold PA at h
 split at h
 ·rename_i k' m
  split at h
  ·rename_i hk
   subst hk
   simp only [Option.some.injEq,Prod.mk.injEq,Bool.and_eq_true,decide_eq_true_eq] at h
   obtain ⟨rfl,h1,h2⟩:=h
   rw [VR] at hv
   subst hv
   refine ⟨⟨zs,g,?_⟩,h1⟩
   rw [List.set_append_left _ _ (by rw [av,aI];exact h1),aJ h2,aJ (by simp [h2])]
   simp [aV,List.map_set]
  ·cases h
 ·cases h
theorem kS:∀{ps qs:List SV} {o i:Nat} {ys:List Value} {v:SV} {y:Value},uj ps o i v=some (qs,true)→PR e ps ys→VR e v y→PR e qs (ys.set (o+i) y)∧o+i<ys.length
 | [],qs,o,i,ys,v,y,h,g,hv=>by simp [uj] at h
 |x::xs,qs,o,i,ys,v,y,h,g,hv=>by
  by_cases hx:aW x=true
  ·rw [PR.cons hx] at g
   obtain ⟨u,zs,h0,h2,rfl⟩:=g
   have z7:∀{o i:Nat},((uj xs o i v).map fun q=>(x::q.1,q.2))=some (qs,true)→PR e qs (u::zs.set (o+i) y)∧o+i<zs.length:=fun h=>by
    obtain ⟨⟨q1,q2⟩,h1,h'⟩:=Option.map_eq_some_iff.1 h
    simp only [Prod.mk.injEq] at h'
    obtain ⟨rfl,rfl⟩:=h'
    obtain ⟨h3,h4⟩:=kS h1 h2 hv
    exact ⟨by rw [PR.cons hx];exact ⟨u,_,h0,h3,rfl⟩,h4⟩
   cases o with
   |zero=>
    cases i with
    |zero=>
     have h':(if one v then some (v::xs,true) else none)=some (qs,true):=by cases x<;>first|exact h|cases hx
     split at h'
     ·rename_i ho
      cases h'
      have hv2:aW v=true:=by cases v<;>first|rfl|cases ho
      exact ⟨by rw [PR.cons hv2];exact ⟨y,zs,hv,h2,by simp⟩,by simp⟩
     ·cases h'
    |succ i=>
     have h':((uj xs 0 i v).map fun q=>(x::q.1,q.2))=some (qs,true):=by cases x<;>first|exact h|cases hx
     obtain ⟨h3,h4⟩:=z7 h'
     exact ⟨by rw [Nat.zero_add] at h3 ⊢;simpa using h3,by simp;omega⟩
   |succ o=>
    have h':((uj xs o i v).map fun q=>(x::q.1,q.2))=some (qs,true):=by cases x<;>first|exact h|cases hx
    obtain ⟨h3,h4⟩:=z7 h'
    exact ⟨by rw [show o+1+i=o+i+1 by omega];simpa using h3,by simp;omega⟩
  ·cases x<;>simp [aW] at hx
   rename_i k n l
   obtain ⟨zs,h2,rfl⟩:=g
   simp only [uj] at h
   split at h
   ·obtain ⟨h3,h4⟩:=um h h2 hv
    exact ⟨by rw [Nat.zero_add];exact h3,by simp [av,aI];omega⟩
   ·rename_i o
    split at h
    ·rename_i hb
     have hle:=Nat.le_of_ble_eq_true hb
     obtain ⟨⟨q1,q2⟩,h1,h'⟩:=Option.map_eq_some_iff.1 h
     simp only [Prod.mk.injEq] at h'
     obtain ⟨rfl,rfl⟩:=h'
     obtain ⟨h3,h4⟩:=kS h1 h2 hv
     refine ⟨⟨_,h3,?_⟩,by simp [av,aI];omega⟩
     rw [List.set_append_right _ _ (by rw [av,aI];omega),av,aI]
     congr 2;omega
    ·obtain ⟨h3,h4⟩:=um h h2 hv
     exact ⟨h3,by simp [av,aI];omega⟩
def F6 (ps:List SV) (o n:Nat):Option (List SV):=(j6 ps o).bind fun q=>oe q n
theorem oI {ps qs:List SV} {o n:Nat} {ys:List Value} (h:F6 ps o n=some qs) (g:PR e ps ys):PR e qs ((ys.drop o).take n)∧o+n≤ys.length:=by
 obtain ⟨q,h1,h2⟩:=Option.bind_eq_some_iff.1 h
 obtain ⟨h3,h4⟩:=eG h1 g
 obtain ⟨h5,h6⟩:=jD h2 h3
 refine ⟨h5,?_⟩
 rw [List.length_drop] at h6;omega
def PB (ps:List SV) (o n:Nat) (new:List SV):Option (List SV):=match oe ps o,j6 ps (o+n) with
 |some a,some b=>some (a++new++b)
 |_,_=>none
theorem uo {ps qs new:List SV} {o n:Nat} {ys zs:List Value} (h:PB ps o n new=some qs) (g:PR e ps ys) (g':PR e new zs):PR e qs (ys.take o++zs++ys.drop (o+n))∧o+n≤ys.length:=by
 unfold PB at h
 split at h
 ·rename_i a b ha hb
  cases h
  obtain ⟨h1,_⟩:=jD ha g
  obtain ⟨h2,h3⟩:=eG hb g
  exact ⟨(h1.append g').append h2,h3⟩
 ·cases h
end
end Go.Sy
namespace Go.Sy
open Go
def TR (e:Env) (t:List (Option SV)) (t':List Value):Prop:=
 t.length=t'.length∧∀(i:Nat) (v:SV) (v':Value),t[i]? =some (some v)→t'[i]? =some v'→VR e v v'
structure Lp where
 l:Nat
 t:List (Option SV)
 ps:Array Tmp
 pP:Code
 body:Code
 st:LoopState
 fc:Option Code
inductive Blk where
 |b (ps:List SV)
 |g (o:Option Lp)
@[match_pattern] abbrev Blk.gap : Blk := .g none
def uq (e:Env) (i:Nat) (g:Option Lp) (w:World):Prop:=match g with
 |none=>True
 |some L=>e.y i=some L.l∧∃r:Loop,w.heap[L.l]? =some (.loop r)∧r.params=L.ps∧r.assign=L.pP∧r.body=L.body∧r.state=L.st∧r.pending=L.fc∧TR e L.t r.tmps.toList
theorem uq.keep {e e':Env} {i:Nat} {g:Option Lp} {w w':World} (h:uq e i g w) (hk:∀(n:Nat) (r:Loop),w.heap[n]? =some (.loop r)→w'.heap[n]? =some (.loop r)) (hy:e'.y i=e.y i) (ht:∀L,g=some L→∀v v',some v∈L.t→VR e v v'→VR e' v v'):uq e' i g w':=by
 cases g with
 |none=>trivial
 |some L=>
  obtain ⟨h1,r,h2,h3,h4,h5,h6,h7,h8,h9⟩:=h
  exact ⟨by rw [hy];exact h1,r,hk _ _ h2,h3,h4,h5,h6,h7,h8,fun j v v' a b=>ht L rfl v v' (List.mem_of_getElem? a) (h9 j v v' a b)⟩
theorem uq.le {e e':Env} {i:Nat} {g:Option Lp} {w w':World} (h:uq e i g w) (hk:∀(n:Nat) (r:Loop),w.heap[n]? =some (.loop r)→w'.heap[n]? =some (.loop r)) (hy:e'.y i=e.y i) (hle:Env.Le e e'):uq e' i g w':=
 h.keep hk hy fun _ _ _ _ _ hv=>hv.mono hle
structure dA where
 w:World
 e:Env
 k:Nat
 l:List Nat
def pX (base size:Nat) (o o':Obj):Prop:=
 ∃(c c':Array Value) (t:TypeId) (fr:Nat×Nat),o= .cells c t fr∧o'= .cells c' t fr∧c'.size=c.size∧∀j,j<base∨base+size≤j→c'[j]? =c[j]?
def BR (e:Env) (p:Pl) (ps:List SV) (o:Obj):Prop:=
 ∃c t,o= .cells c t (0,0)∧p.base+p.size≤c.size∧aA ps≤p.size∧PR e ps ((c.toList.drop p.base).take (aA ps))
structure Rel (B:dA) (e:Env) (h:List Blk) (w:World):Prop where
 os:w.os=B.w.os
 tape:w.tape=B.w.tape
 output:w.output=B.w.output
 size:B.w.heap.size≤w.heap.size
 inj:∀(i j:Nat) (p q:Pl),e.r i=some p→e.r j=some q→p.n=q.n→i=j
 dom:∀(i:Nat) (p:Pl),e.r i=some p→i<h.length
 sep:∀(i:Nat) (p:Pl),e.r i=some p→e.z p.n=none
 gk:∀(n:Nat) (c:Array Value) (t:TypeId) (fr:Nat×Nat),e.z n=some (c,t,fr)→w.heap[n]? =some (.cells c t fr)
 aY:∀n x,e.z n=some x→B.e.z n=some x∨B.w.heap.size≤n
 news:∀(i:Nat) (p:Pl),e.r i=some p→B.e.r i=some p∨B.w.heap.size≤p.n
 bg:∀(i:Nat) (p:Pl),B.e.r i=some p→e.r i=some p
 bM:∀n x,B.e.z n=some x→e.z n=some x
 n0:e.n0=B.e.n0
 cP:B.e.n0≤B.w.heap.size
 fA:∀(i:Nat) (ps:List SV),h[i]? =some (.b ps)→(aA ps=0∧e.r i=none)∨∃p o,e.r i=some p∧w.heap[p.n]? =some o∧BR e p ps o
 gap:∀(i:Nat) (g:Option Lp),h[i]? =some (.g g)→e.r i=none∧uq e i g w
 yi:∀(i j n:Nat),e.y i=some n→e.y j=some n→i=j
 yb:∀(i n:Nat),e.y i=some n→n∈B.l∨B.w.heap.size≤n
 old:∀n:Nat,n<B.w.heap.size→(∀(i:Nat) (p:Pl),B.e.r i=some p→p.n≠n)→n ∉ B.l→w.heap[n]? =B.w.heap[n]?
 win:∀(i:Nat) (p:Pl),B.e.r i=some p→∃o o',B.w.heap[p.n]? =some o∧w.heap[p.n]? =some o'∧pX p.base p.size o o'
 kr:∀(i:Nat) (p:Pl),B.e.r i=some p→i<B.k
 gL:B.k≤h.length
 hY:∀r,r∈e.m→w.heap[r]? =some (.deferred (some []))∧B.w.heap.size≤r
 jq:e.m.Nodup
structure St where
 t:List (Option SV)
 h:List Blk
 ob:Bool
abbrev Ky:=FuncId→List SV→List Blk→Nat→Option (SV×List Blk×List Blk×Bool)
abbrev bp:=Fn→List SV→List Blk→Nat→Option (SV×List Blk×List Blk×Bool)
structure bK where
 g:Ky
 inl:FuncId→Option Func
 pf:FuncId→Nat
 nb:FuncId→Nat
 sym:Tmp→Option Bool
 iM:Tmp→Bool
 yc:Nat→List SV→List Blk→Option (SV×List Blk×Bool):=fun _ _ _=>none
def aa (a b:Bool):Bool:=match b with
 |true=>a
 |false=>false
theorem au {a b:Bool}:aa a b=true↔a=true∧b=true:=by cases a<;>cases b<;>decide
section
variable (P:Program)
def cX (t:TypeId):Option Nat:=(P.info? t).map (·.size)
def zeroOf (t:TypeId):Option Value:=(P.info? t).bind (·.zero)
def gm (t:TypeId):Option Bool:=(P.underlying t).map fun| .struct _=>true| .array _ _=>true|_=>false
def isInt (t:TypeId):Option IntKind:=match P.underlying t with
 |some (.int k)=>some k
 |_=>none
mutual
def qP:Value→Option SV
 | .bool b=>some (.bool b)
 | .int k n=>some (.int k n)
 | .string s=>some (.str (gV s))
 | .pointer none=>some (.nl (.pointer none))
 | .slice none 0 0=>some (.nl (.slice none 0 0))
 | .map none=>some (.nl (.map none))
 | .chan none=>some (.nl (.chan none))
 | .nilFunc=>some (.nl .nilFunc)
 | .nilIface=>some (.nl .nilIface)
 | .tuple ⟨xs⟩=>(VM xs).map .bk
 | .iface t x=>(qP x).map (.iface t)
 | .func f ⟨xs⟩ ⟨ys⟩=>match VM xs,VM ys with
  |some a,some b=>some (.fn f a b)
  |_,_=>none
 |_=>none
def VM:List Value→Option (List SV)
 | []=>some []
 |x::xs=>match qP x,VM xs with
  |some a,some b=>some (a::b)
  |_,_=>none
end
def ev (t:List (Option SV)):Operand→Option SV
 | .tmp i=>match t[i]? with
  |some (some v)=>some v
  |_=>none
 | .const v=>qP v
 | .func f=>some (.fn (.func f) [] [])
 | .global _=>none
def sH (t:List (Option SV)):List Operand→Option (List SV)
 | []=>some []
 |x::xs=>match ev t x,sH t xs with
  |some v,some vs=>some (v::vs)
  |_,_=>none
def Hi (t:List (Option SV)):Option Operand→Option (Option SV)
 |none=>some none
 |some x=>(ev t x).map some
def Kz (g:TypeId→Option (List SV)):List Field→Option (List SV)
 | []=>some []
 |f::fs=>match g f.type,Kz g fs with
  |some a,some b=>some (a++b)
  |_,_=>none
def z8:Nat→TypeId→Option (List SV)
 |0,_=>none
 |d+1,t=>match P.underlying t with
  |some .bool=>some [.bool false]
  |some (.int k)=>some [.int k 0]
  |some .string=>some [.str []]
  |some (.pointer _)=>some [.nl (.pointer none)]
  |some (.slice _)=>some [.nl (.slice none 0 0)]
  |some (.map _ _)=>some [.nl (.map none)]
  |some (.func _ _ _)=>some [.nl .nilFunc]
  |some (.interface _)=>some [.nl .nilIface]
  |some (.array n e)=>match isInt P e with
   |some k=>some [.ints k n (List.replicate n 0)]
   |none=>(z8 d e).map fun z=>(List.replicate n z).flatten
  |some (.struct fs)=>Kz (fun t=>z8 d t) fs.toList
  |_=>none
def z9 (k:IntKind):List Int→List Value→Option (List Value)
 | [],ys=>some ys
 |a::as,.int k' b::ys=>if k=k'∧a=b then z9 k as ys else none
 |_::_,_=>none
def KA:SV→Value→Bool
 | .bool a,.bool b=>a==b
 | .int k a,.int k' b=>decide (k=k')&&a==b
 | .str [],.string s=>s.data.toList.isEmpty
 | .nl v,w=>match xR v,xR w with
  |some a,some b=>a==b
  |_,_=>false
 |_,_=>false
def wD:List SV→List Value→Bool
 | [],ys=>ys.isEmpty
 | .ints k n xs::ps,ys=>match z9 k xs ys with
  |some ys=>decide (xs.length=n)&&wD ps ys
  |none=>false
 |p::ps,y::ys=>KA p y&&wD ps ys
 |_::_,[]=>false
def KB:Value→List Value
 | .agg ⟨cs⟩=>cs
 |v=>[v]
def j8 (t:TypeId):Option (List SV):=match zeroOf P t,z8 P 12 t with
 |some z,some ps=>if wD ps (KB z) then some ps else none
 |_,_=>none
def partsOf:SV→List SV
 | .agg ps=>ps
 |v=>[v]
def ofParts (t:TypeId) (ps:List SV):Option SV:=match gm P t with
 |some true=>some (.agg ps)
 |some false=>match ps with
  | [p]=>if one p then some p else none
  |_=>none
 |none=>none
def PC (ps:List SV) (o i n:Nat):Option (List SV×Bool):=match i with
 |0=>(F6 ps o n).map fun q=>(q,true)
 |i+1=>match j6 ps o with
  |some (.ints k m xs::_)=>some ([.ints k n ((xs.drop (i+1)).take n)],decide (i+1+n≤m))
  |_=>none
def ur (t:TypeId) (h:List Blk):SV→Option (SV×Bool)
 | .ptr b o i=>match h[b]? with
  |some (.b ps)=>match gm P t with
   |some true=>match cX P t with
    |some n=>(PC ps o i n).map fun q=>(.agg q.1,q.2)
    |none=>none
   |some false=>j7 ps o i
   |none=>none
  |_=>none
 | .pV k xs i=>match gm P t with
  |some true=>match cX P t with
   |some n=>some (.agg [.ints k n ((xs.drop i).take n)],decide (0<n)&&decide (i+n≤xs.length))
   |none=>none
  |some false=>some (.int k (xs.getD i 0),decide (i<xs.length))
  |none=>none
 | .s6 f xss i=>match gm P t with
  |some false=>some (.ro f .u8 (xss.getD i []),decide (i<xss.length))
  |_=>none
 | .nR _ z len g e o i=>match gm P t with
  |some true=>match cX P t with
   |some n=>(PC (g e) o i n).map fun q=>(.agg q.1,q.2&&(decide (e<len)&&decide (o+i+n≤z)))
   |none=>none
  |some false=>(j7 (g e) o i).map fun q=>(q.1,q.2&&(decide (e<len)&&decide (o+i<z)))
  |none=>none
 |_=>none
def kT (t:TypeId) (h:List Blk) (x:SV):SV→Option (List Blk×Bool)
 | .ptr b o i=>match h[b]? with
  |some (.b ps)=>match gm P t with
   |some true=>match x,cX P t,i with
    | .agg q,some n,0=>if decide (aA q=n)&&q.all fun p=>one p||!aW p then (PB ps o n q).map fun ps'=>(h.set b (.b ps'),true) else none
    |_,_,_=>none
   |some false=>if one x&&cX P t==some 1 then (uj ps o i x).map fun q=>(h.set b (.b q.1),q.2) else none
   |none=>none
  |_=>none
 |_=>none
def ja (f:∀n,BitVec n→BitVec n→BitVec n) (k:IntKind) (a b:Int):Int:=k.wrap (f k.bits (BitVec.ofInt k.bits a) (BitVec.ofInt k.bits b)).toNat
def bR:=ja fun _ a b=>a&&& b
def gj:=ja fun _ a b=>a|||b
def cj:=ja fun _ a b=>a^^^b
def fL:=ja fun _ a b=>a&&& ~~~b
def cV (k:IntKind) (a:Int) (n:Nat):Int:=k.wrap (a*2^(min n k.bits))
def bh (k:IntKind) (a:Int) (n:Nat):Int:=a.fdiv (2^(min n k.bits))
def Aa (op:BinOp) (k:IntKind) (a:Int) (k':IntKind) (b:Int):Option (SV×Bool):=
 match op with
 | .shl=>some (.int k (cV k a b.toNat),decide (0≤b))
 | .shr=>some (.int k (bh k a b.toNat),decide (0≤b))
 |_=>if k≠k' then none else match op with
  | .add=>some (.int k (k.wrap (a+b)),true)
  | .sub=>some (.int k (k.wrap (a-b)),true)
  | .mul=>some (.int k (k.wrap (a*b)),true)
  | .quo=>some (.int k (k.wrap (a.tdiv b)),b != 0)
  | .rem=>some (.int k (a.tmod b),b != 0)
  | .and=>some (.int k (bR k a b),true)
  | .or=>some (.int k (gj k a b),true)
  | .xor=>some (.int k (cj k a b),true)
  | .andNot=>some (.int k (fL k a b),true)
  | .eql=>some (.bool (a==b),true)
  | .neq=>some (.bool (a != b),true)
  | .lss=>some (.bool (decide (a<b)),true)
  | .leq=>some (.bool (decide (a≤b)),true)
  | .gtr=>some (.bool (decide (a>b)),true)
  | .geq=>some (.bool (decide (a≥b)),true)
  |_=>none
def oJ (g:TypeId→Option (IntKind×Nat)) (k:IntKind) (at_:Nat):List Field→Option (IntKind×Nat)
 | []=>some (k,at_)
 |f::rest=>match g f.type with
  |some (k',m)=>if k'=k∧f.name≠"_"∧f.offset=at_∧cX P f.type=some m then oJ g k (at_+m) rest else none
  |none=>none
def jE:Nat→TypeId→Option (IntKind×Nat)
 |0,_=>none
 |d+1,t=>match P.underlying t with
  |some (.int k)=>some (k,1)
  |some (.array n e)=>match jE d e with
   |some (k,m)=>if cX P e=some m then some (k,n*m) else none
   |none=>none
  |some (.struct fs)=>if P.stoodInHeld t then none else match fs.toList with
   | []=>none
   |f::rest=>match jE d f.type with
    |some (k,m)=>if f.name≠"_"∧f.offset=0∧cX P f.type=some m then oJ P (fun t=>jE d t) k m rest else none
    |none=>none
  |_=>none
def uu (k:IntKind):List SV→Option (List Int×Bool)
 | []=>some ([],true)
 | .ints k' n xs::ps=>if k=k' then match ps.isEmpty with
  |true=>some (xs,decide (xs.length=n))
  |false=>(uu k ps).map fun q=>(xs++q.1,aa (decide (xs.length=n)) q.2) else none
 | .int k' n::ps=>if k=k' then (uu k ps).map fun q=>(n::q.1,q.2) else none
 |_=>none
def fh (op:BinOp) (b:Bool):Option SV:=match op with
 | .eql=>some (.bool b)
 | .neq=>some (.bool !b)
 |_=>none
def y8 (op:BinOp) (T:TypeId) (x y:Operand):SV→SV→Option (SV×Bool)
 | .agg cs,.agg ds=>if P.eqGuardType P.depth T||gm P T==some false then none else match jE P 20 T with
  |some (k,n)=>match uu k cs,uu k ds with
   |some (l,p),some (m,q)=>if aA cs=n∧aA ds=n then (fh op (decide (l=m))).map fun v=>(v,aa p q) else none
   |_,_=>none
  |none=>none
 | .bool a,.bool b=>match P.underlying T with
  |some .bool=>(fh op (a==b)).map fun v=>(v,true)
  |_=>none
 | .str a,.str b=>(fh op (decide (a=b))).map fun v=>(v,true)
 | .ptr _ _ _,.nl (.pointer none)=>match P.underlying T with
  |some (.pointer _)=>(fh op false).map fun v=>(v,true)
  |_=>none
 | .nl (.pointer none),.nl (.pointer none)=>match P.underlying T with
  |some (.pointer _)=>(fh op true).map fun v=>(v,true)
  |_=>none
 | .nl .nilIface,.nl .nilIface=>match P.underlying T,x,y with
  |some (.interface _),.const _,_=>(fh op true).map fun v=>(v,true)
  |some (.interface _),_,.const _=>(fh op true).map fun v=>(v,true)
  |_,_,_=>none
 | .iface _ _,.nl .nilIface=>match P.underlying T with
  |some (.interface _)=>(fh op false).map fun v=>(v,true)
  |_=>none
 | .nl .nilIface,.iface _ _=>match P.underlying T with
  |some (.interface _)=>(fh op false).map fun v=>(v,true)
  |_=>none
 | .iface t (.int k a),.iface t' (.int k' b)=>match P.underlying T,P.underlying t with
  |some (.interface _),some (.int _)=>match (P.info? t).map (·.comparable) with
   |some true=>if t=t'∧k=k' then (fh op (a==b)).map fun v=>(v,true) else none
   |_=>none
  |_,_=>none
 | .ro _ _ xs,.nl (.slice none 0 0)=>match P.underlying T with
  |some (.slice _)=>(fh op false).map fun v=>(v,decide (0<xs.length))
  |_=>none
 | .sl _ _ _ _ len _ _ _,.nl (.slice none 0 0)=>match P.underlying T with
  |some (.slice _)=>(fh op false).map fun v=>(v,decide (0<len))
  |_=>none
 | .nl (.slice a 0 _),.nl (.slice none 0 0)=>match P.underlying T with
  |some (.slice _)=>(fh op a.isNone).map fun v=>(v,true)
  |_=>none
 |_,_=>none
def placesOf (t:TypeId):Option (Nat→Option (Nat×Nat)):=match P.underlying t with
 |some (.array _ e)=>(P.info? e).map fun ie=>fun i=>some (i*ie.size,ie.size)
 |some (.struct fields)=>(fields.toList.mapM fun f=>(P.info? f.type).map fun i=>(f.offset,i.size)).map fun places=>fun i=>places.toArray[i]?
 |_=>none
def B9 (ps:List SV) (o n:Nat) (v:SV):Option (List SV×Bool):=match v with
 | .agg q=>if aA q=n then (PB ps o n q).map fun ps=>(ps,true) else none
 |v=>if n=1&&one v then uj ps o 0 v else none
def wE (place:Nat→Option (Nat×Nat)):List SV→List (Nat×SV)→Option (List SV×Bool)
 |ps,[]=>some (ps,true)
 |ps,(i,v)::rest=>match place i with
  |some (o,n)=>match B9 ps o n v with
   |some (ps,p)=>(wE place ps rest).map fun q=>(q.1,aa p q.2)
   |none=>none
  |none=>none
def Ca (t:TypeId) (parts:List (Nat×SV)):Option (SV×Bool):=match j8 P t,placesOf P t with
 |some z,some place=>(wE place z parts).map fun q=>(.agg q.1,q.2)
 |_,_=>none
def Ab (t:TypeId) (ps:List SV) (o i:Nat):Option (SV×Bool):=
 match gm P t with
 |some true=>match cX P t,i with
  |some n,0=>(F6 ps o n).map fun q=>(.agg q,true)
  |_,_=>none
 |some false=>j7 ps o i
 |none=>none
def Cb (t:TypeId) (i:Nat):SV→Option (SV×Bool)
 | .agg ps=>match P.underlying t with
  |some (.struct fs)=>match fs.toList[i]? with
   |some f=>Ab P f.type ps f.offset 0
   |none=>none
  |_=>none
 |_=>none
def oK (t:TypeId) (i:Nat) (x:SV):Option SV:=
 match P.underlying t with
 |some (.struct fs)=>match fs.toList[i]? with
  |some f=>match cX P f.type with
   |some (_+1)=>match x with
    | .ptr b o i=>some (.ptr b (o+f.offset) i)
    | .nR g z len c e o i=>some (.nR g z len c e (o+f.offset) i)
    |_=>none
   |_=>none
  |none=>none
 |_=>none
def cK (i:Int) (n:Nat):Bool:=decide (0≤i)&&decide (i<n)
def oL (t:TypeId) (x ix:SV):Option (SV×Bool):=
 match ix with
 | .int _ i=>match P.underlying t,x with
  |some (.array len e),.ptr b o j=>match isInt P e,cX P e with
   |some _,some 1=>some (.ptr b o (j+i.toNat),cK i len)
   |none,some n=>some (.ptr b (o+i.toNat*n) j,cK i len)
   |_,_=>none
  |some (.array len e),.nR f z l c el o j=>match isInt P e,cX P e with
   |some _,some 1=>some (.nR f z l c el o (j+i.toNat),cK i len)
   |none,some n=>some (.nR f z l c el (o+i.toNat*n) j,cK i len)
   |_,_=>none
  |some (.slice e),.sl b o j 1 len _ _ _=>match cX P e with
   |some 1=>match isInt P e with
    |some _=>some (.ptr b o (j+i.toNat),cK i len)
    |none=>some (.ptr b (o+(j+i.toNat)) 0,cK i len)
   |_=>none
  |some (.slice e),.sl b o j z len _ _ _=>match cX P e with
   |some n=>if n=z then some (.ptr b (o+(j+i.toNat)*z) 0,cK i len) else none
   |none=>none
  |some (.slice e),.ro _ k xs=>match cX P e with
   |some 1=>some (.pV k xs i.toNat,cK i xs.length)
   |_=>none
  |some (.slice e),.hU f xss=>match cX P e with
   |some 1=>some (.s6 f xss i.toNat,cK i xss.length)
   |_=>none
  |some (.slice e),.qD f z len g=>match cX P e with
   |some n=>if n=z then some (.nR f z len g i.toNat 0 0,cK i len) else none
   |none=>none
  |_,_=>none
 |_=>none
def Cd (t:TypeId) (x ix:SV):Option (SV×Bool):=
 match ix,x with
 | .int _ i,.agg ps=>match P.underlying t with
  |some (.array len e)=>match isInt P e,cX P e with
   |some _,some 1=>(j7 ps 0 i.toNat).map fun q=>(q.1,q.2&&cK i len)
   |none,some n=>(Ab P e ps (i.toNat*n) 0).map fun q=>(q.1,q.2&&cK i len)
   |_,_=>none
  |_=>none
 | .int _ i,.str xs=>match P.underlying t with
  |some .string=>some (.int .u8 (xs.getD i.toNat 0),cK i xs.length)
  |_=>none
 |_,_=>none
def oM (d y:Nat):Option SV→Option (Nat×Bool)
 |none=>some (d,true)
 |some (.int _ i)=>some (i.toNat,decide (0≤i)&&decide (i≤y))
 |_=>none
def fR (len cap:Nat) (lo hi mx:Option SV):Option (Nat×Nat×Nat×Bool):=
 match oM cap cap mx with
 |some (m,p)=>match mx,hi with
  |some _,none=>none
  |_,_=>match oM len (match mx with|some _=>m|none=>cap) hi with
   |some (h,q)=>match oM 0 h lo with
    |some (l,r)=>some (l,h,m,aa p (aa q r))
    |none=>none
   |none=>none
 |none=>none
def Ac (xs:List Int) (lo hi:Option SV) (l h:Nat):List Int:=match lo,hi with
 |none,none=>xs
 |some _,none=>xs.drop l
 |none,some _=>xs.take h
 |some _,some _=>(xs.drop l).take (h-l)
def mE (t:TypeId) (h:List Blk) (x:SV) (lo hi mx:Option SV):Option (SV×Bool):=
 match P.underlying t,x with
 |some (.array n e),.ptr b o i=>match h[b]?,cX P e,fR n n lo hi mx with
  |some (.b ps),some 1,some (l,h,m,p)=>some (.sl b o (match lo with|none=>i|some _=>i+l) 1 (match lo with|none=>h|some _=>h-l) (match lo with|none=>m|some _=>m-l) true (lo.isNone&&hi.isNone&&mx.isNone),aa p (decide (o+i+n≤aA ps)))
  |some (.b ps),some z,some (l,h,m,p)=>match i with
   |0=>some (.sl b o l z (h-l) (m-l) true (lo.isNone&&hi.isNone&&mx.isNone),aa p (decide (o+n*z≤aA ps)))
   |_=>none
  |_,_,_=>none
 |some (.slice e),.sl b o i z len cap ex wh=>match cX P e,fR len cap lo hi mx with
  |some n,some (l,h,m,p)=>if n=z then
   some (.sl b o (match lo with|none=>i|some _=>i+l) z (match lo with|none=>h|some _=>h-l) (match lo with|none=>m|some _=>m-l) (ex||mx.isSome) (wh&&lo.isNone&&hi.isNone&&mx.isNone),p) else none
  |_,_=>none
 |some (.slice e),.ro f k xs=>match cX P e,fR xs.length xs.length lo hi mx with
  |some 1,some (l,h,_,p)=>some (.ro f k (Ac xs lo hi l h),p)
  |_,_=>none
 |some .string,.str xs=>match mx,fR xs.length xs.length lo hi none with
  |none,some (l,h,_,p)=>some (.str (Ac xs lo hi l h),p)
  |_,_=>none
 |some (.slice e),.nl (.slice none 0 0)=>match cX P e,fR 0 0 lo hi mx with
  |some _,some (_,_,_,p)=>some (.nl (.slice none 0 0),p)
  |_,_=>none
 |_,_=>none
def Ed (lo hi mx:Option Operand):Bool:=match lo,hi,mx with
 |none,some (.const (.int .i64 0)),some (.const (.int .i64 0))=>true
 |_,_,_=>false
def mF (t:TypeId) (h:List Blk) (x:SV) (l u m:Option SV):Option (SV×Bool):=match x with
 | .ro _ _ _=>match P.underlying t with
  |some (.slice e)=>match cX P e with
   |some 1=>some (.sl 0 0 0 1 0 0 true false,true)
   |_=>none
  |_=>none
 | .nl (.slice _ 0 _)=>match P.underlying t with
  |some (.slice e)=>match cX P e with
   |some 1=>some (.sl 0 0 0 1 0 0 true false,true)
   |_=>none
  |_=>none
 |x=>mE P t h x l u m
def sI:SV→Option Nat
 | .sl _ _ _ _ n _ _ _=>some n
 | .ro _ _ xs=>some xs.length
 | .hU _ xss=>some xss.length
 | .qD _ _ n _=>some n
 | .str xs=>some xs.length
 | .nl (.slice _ 0 _)=>some 0
 |_=>none
def VN (t:TypeId) (x:SV):Option SV:=match P.underlying t,x with
 |some (.array n _),.agg _=>some (.int .i64 n)
 |some (.slice _),x=>match x with
  | .str _=>none
  |x=>(sI x).map fun (n:Nat)=>SV.int .i64 (n:Int)
 |some .string,.str xs=>some (.int .i64 xs.length)
 |_,_=>none
def VQ (t:TypeId) (x:SV):Option SV:=match P.underlying t,x with
 |some (.slice _),.sl _ _ _ _ _ cap true _=>some (.int .i64 cap)
 |some (.slice _),.nl (.slice none 0 0)=>some (.int .i64 0)
 |_,_=>none
def dz (h:List Blk):SV→Option (List SV×Bool)
 | .ro _ k xs=>some ([.ints k xs.length xs],true)
 | .str xs=>some ([.ints .u8 xs.length xs],true)
 | .nl (.slice _ 0 _)=>some ([],true)
 | .sl b o i z len _ _ wh=>match h[b]? with
  |some (.b ps)=>match j6 ps o,z with
   |some (.ints k n xs::_),1=>match wh with
    |true=>some ([.ints k len xs],decide (xs.length=len)&&(decide (len≤n)&&decide (i=0)))
    |false=>some ([.ints k len ((xs.drop i).take len)],decide (i+len≤n)&&decide (i+len≤xs.length))
   |some ps,z=>(F6 ps (i*z) (len*z)).map fun q=>(q,true)
   |none,_=>none
  |_=>none
 |_=>none
def lN:List SV→List SV→List SV
 | [.ints k n xs],[.ints k' m ys]=>if k=k' then [.ints k (n+m) (xs++ys)] else [.ints k n xs,.ints k' m ys]
 | [],b=>b
 |a,[]=>a
 |a,b=>a++b
def dN (z:Nat):SV→Bool
 | .sl _ _ _ z' _ _ _ _=>Nat.beq z' z
 |_=>Nat.beq z 1
def Ee (src dst:TypeId):SV→Option SV
 | .int _ n=>match P.underlying src,P.underlying dst with
  |some _,some (.int k)=>some (.int k (k.wrap n))
  |_,_=>none
 | .str xs=>match P.underlying src,P.underlying dst with
  |some .string,some .string=>some (.str xs)
  |_,_=>none
 |_=>none
def unS:UnOp→SV→Option SV
 | .neg,.int k n=>some (.int k (k.wrap (0-n)))
 | .xor,.int k n=>some (.int k (cj k (if k.signed then-1 else k.max) n))
 | .not,.bool b=>some (.bool !b)
 |_,_=>none
def KC:IntKind→Int→List SV→Option Int
 |_,a,[]=>some a
 |k,a,.int k' b::vs=>if k=k' then KC k (if b<a then b else a) vs else none
 |_,_,_=>none
def jF (t:TypeId) (len:Nat) (parts:List (Nat×SV)):Option (List SV×Nat×Bool):=
 match P.underlying t with
 |some (.slice e)=>match cX P e,j8 P e with
  |some (z+1),some zs=>if len*(z+1)≤2^24∧aA zs=z+1 then
    (wE (fun i=>some (i*(z+1),z+1)) (match isInt P e with
     |some k=>[.ints k len (List.replicate len 0)]
     |none=>(List.replicate len zs).flatten) parts).map fun q=>(q.1,z+1,q.2) else none
  |_,_=>none
 |_=>none
def VS:Operand→Operand→Bool
 | .tmp a,.tmp b=>a==b
 | .const (.int _ a),.const (.int _ b)=>a==b
 |_,_=>false
def kU (t:TypeId):SV→SV→Option (List SV×Nat×Nat×Nat×Bool)
 | .int _ l,.int _ c=>match P.underlying t with
  |some (.slice e)=>match P.info? e,cX P e,j8 P e with
   |some i,some (z+1),some zs=>if aA zs=z+1 then some (match isInt P e with
    |some k=>[.ints k c.toNat (List.replicate c.toNat 0)]
    |none=>(List.replicate c.toNat zs).flatten,z+1,l.toNat,c.toNat,(IntKind.i64.wrap l==l&&IntKind.i64.wrap c==c)&&(decide (0≤l)&&decide (l≤c)&&decide (i.bytes*c≤2^48))) else none
   |_,_,_=>none
  |_=>none
 |_,_=>none
def xS (asserted:TypeId) (ok:Bool):SV→Option SV
 | .iface t v=>match P.underlying asserted with
  |some (.interface _)=>none
  |some _=>if t=asserted then some (match ok with|true=>.bk [v,.bool true]|false=>v) else
   match ok,(zeroOf P asserted).bind qP with
   |true,some z=>some (.bk [z,.bool false])
   |_,_=>none
  |none=>none
 | .nl .nilIface=>match P.underlying asserted,ok,(zeroOf P asserted).bind qP with
  |some (.interface _),_,_=>none
  |some _,true,some z=>some (.bk [z,.bool false])
  |_,_,_=>none
 |_=>none
def yOK (f:Fn) (jX:List SV):Bool:=match f with
 | .func _=>true
 | .yield _=>jX.isEmpty
 |_=>false
def uv (b:Nat):Option SV→Bool
 |some v=>!uses b v
 |none=>true
def eH (b:Nat) (h:List Blk):Bool:=h.all fun| .b ps=>!cW b ps| .g (some L)=>L.t.all (uv b)| .g none=>true
structure jG where
 v:SV
 h:List Blk
 new:List Blk
 kill:Option Nat
 p:Bool
def jG.of (h:List Blk) (q:SV×Bool):jG:=⟨q.1,h,[],none,q.2⟩
def dD (xs:List Int):Bool:=xs.all fun n=>decide (0≤n)&&decide (n<256)
def F7 (f:SV→Option SV):List SV→Nat→Option (List SV)
 | [],_=>none
 |p::ps,0=>(f p).map (· ::ps)
 |p::ps,o+1=>match Nat.ble (sE p) (o+1) with
  |true=>(F7 f ps (o+1-sE p)).map (p:: ·)
  |false=>none
def nN (xs:List Int) (i:Nat) (ys:List Int) (n:Nat):List Int:=xs.take i++ys.take n++xs.drop (i+n)
def aaK (i:Nat) (k':IntKind) (ys:List Int) (n:Nat):SV→Option SV
 | .ints k m xs=>if k=k' then some (.ints k m (nN xs i ys n)) else none
 |_=>none
def VT:SV→Option (Nat×List Int)
 | .ints _ m xs=>some (m,xs)
 |_=>none
def atP:List SV→Nat→Option SV
 | [],_=>none
 |p::_,0=>some p
 |p::ps,o+1=>match Nat.ble (sE p) (o+1) with
  |true=>atP ps (o+1-sE p)
  |false=>none
def qQ (h:List Blk) (b o i:Nat) (k:IntKind) (ys:List Int) (n:Nat):Option (List Blk×Bool):=match h[b]? with
 |some (.b ps)=>match (atP ps o).bind VT,F7 (aaK i k ys n) ps o with
  |some (m,xs),some ps'=>some (h.set b (.b ps'),decide (xs.length=m)&&decide (i+n≤m)&&decide (n≤ys.length))
  |_,_=>none
 |_=>none
def PD (ps:List SV):Bool:=ps.all fun p=>one p||!aW p
def xU:List SV→Bool
 | [.ints _ n xs]=>decide (xs.length=n)
 |_=>true
def ux (e:TypeId):Option Nat:=match (P.info? e).map (·.bytes),cX P e,j8 P e with
 |some F8,some (z+1),some zs=>if decide (F8≤256)&&decide (aA zs=z+1) then some z else none
 |_,_,_=>none
def xV (h:List Blk) (j:Nat) (e:TypeId) (x y:SV):Option jG:=match x,y,isInt P e,ux P e with
 | .nl (.slice none 0 0),.int .i64 n,some ki,some 0=>some ⟨.sl j 0 0 1 n.toNat n.toNat false true,h,[.b [.ints ki n.toNat (List.replicate n.toNat 0)]],none,decide (0≤n)&&decide (n≤2^38)⟩
 |_,_,_,_=>none
def aaL (h:List Blk) (b:Nat) (k:IntKind) (ys:List Int) (ny len:Nat):Option (List Blk×Bool):=match h[b]? with
 |some (.b [.ints k' m xs])=>if k'=k then some (h.set b (.b [.ints k (m+ny) (xs++ys)]),decide (xs.length=m)&&decide (len=m)&&decide (ys.length=ny)) else none
 |_=>none
def KD (iM ex wh:Bool) (cap:Nat):Bool:=match iM with
 |true=>false
 |false=>match ex,wh with
  |true,false=>Nat.beq cap 0
  |_,_=>false
def s7 (k:Nat) (h:List Blk) (j:Nat) (iM:Bool) (sT xT:TypeId) (x y:SV):Option jG:=
 match P.underlying sT,P.underlying xT with
 |some (.slice e),some (.int _)=>xV P h j e x y
 |none,some (.int _)=>none
 |some (.slice e),some _=>match ux P e,dz h y,sI y with
  |some z,some (cy,py),some ny=>match x with
   | .nl (.slice none 0 0)=>some ⟨.sl j 0 0 (z+1) ny ny false true,h,[.b cy],none,aa (aa py (dN (z+1) y)) (decide (ny≤2^38))⟩
   | .sl b o i z' len cap ex wh=>match KD iM ex wh cap with
    |true=>some ⟨.sl j 0 0 (z+1) ny ny false true,h,[.b cy],none,aa (aa py (dN (z+1) y)) (decide (ny≤2^38))⟩
    |false=>match iM with
     |true=>match cy,z,z',wh with
      | [.ints ki _ ys],0,1,false=>(qQ h b o (i+len) ki ys ny).map fun q=>⟨.sl b o i 1 (len+ny) cap ex false,q.1,[],none,aa (aa (aa py (dN 1 y)) (decide (len+ny≤cap))) q.2⟩
      | [.ints ki _ ys],0,1,true=>match o,i with
       |0,0=>(aaL h b ki ys ny len).map fun q=>⟨.sl b 0 0 1 (len+ny) cap ex true,q.1,[],none,aa (aa (aa py (dN 1 y)) (decide (len+ny≤cap))) q.2⟩
       |_,_=>none
      |_,_,_,_=>none
     |false=>match dz h x with
      |some (cx,px)=>if Nat.ble k b&&decide (z'=z+1)&&PD cy&&eH b (h.set b (.b (lN cx cy))) then
       some ⟨.sl b 0 0 (z+1) (len+ny) (len+ny) false true,h.set b (.b (lN cx cy)),[],some b,aa (aa (aa (aa py px) (xU cx)) (dN (z+1) y)) (decide (len+ny≤2^38))⟩
       else if ex&&decide (z'=z+1) then some ⟨.sl j 0 0 (z+1) (len+ny) (len+ny) false true,h,[.b (lN cx cy)],none,aa (aa (aa (aa (aa py px) (xU cx)) (dN (z+1) y)) (decide (len+ny≤2^38))) (decide (cap<len+ny))⟩ else none
      |none=>none
   |_=>none
  |_,_,_=>none
 |_,_=>none
def KE (h:List Blk) (dT:TypeId) (x y:SV):Option (List Blk×SV×Bool):=
 match P.underlying dT,x,dz h y,sI y with
 |some (.slice e),.sl b o i 1 len _ _ _,some ([.ints k _ ys],p),some ny=>match cX P e with
  |some 1=>(qQ h b o i k ys (Nat.min ny len)).map fun q=>(q.1,.int .i64 (Nat.min ny len),aa (aa p (dN 1 y)) q.2)
  |_=>none
 |_,_,_,_=>none
def uy (h:List Blk) (src dst:TypeId):Option SV→Option jG
 |some (.str xs)=>match P.underlying dst with
  |some (.slice e)=>match isInt P e,cX P e with
   |some .u8,some 1=>match P.underlying src with
    |some _=>some (.of h (.ro true .u8 xs,true))
    |none=>none
   |_,_=>none
  |_=>(Ee P src dst (.str xs)).map fun v=>.of h (v,true)
 |some (.int k n)=>(Ee P src dst (.int k n)).map fun v=>.of h (v,true)
 |some (.nl (.slice none 0 0))=>match P.underlying src,P.underlying dst with
  |some (.slice e),some .string=>match isInt P e with
   |some .u8=>some (.of h (.str [],true))
   |_=>none
  |_,_=>none
 |some a=>match P.underlying src,P.underlying dst,dz h a,sI a with
  |some (.slice e),some .string,some ([.ints .u8 m xs],p),some _=>match isInt P e with
   |some .u8=>some (.of h (.str xs,aa (aa p (dN 1 a&&decide (xs.length=m))) (dD xs)))
   |_=>none
  |_,_,_,_=>none
 |none=>none
def Ce (k:Nat) (h:List Blk) (dst:TypeId):Option SV→Option jG
 |some (.sl b 0 0 1 (n+1) m true true)=>match P.underlying dst,h[b]? with
  |some (.slice e),some (.b [.ints .u8 q xs])=>match isInt P e,Nat.ble k b&&Nat.beq m (n+1)&&Nat.beq q (n+1)&&eH b (h.set b .gap) with
   |some .u8,true=>some ⟨.ro true .u8 xs,h.set b .gap,[],some b,decide (xs.length=n+1)⟩
   |_,_=>none
  |_,_=>none
 |_=>none
def mG (G:bp) (iM:Tmp→Bool) (k:Nat) (t:List (Option SV)) (h:List Blk) (j:Nat) (o:Oper):Option jG:=
 match o.op with
 | .move x| .assign x=>(ev t x).map fun v=>.of h (v,true)
 | .pick c a b=>match ev t c with
  |some (.bool true)=>(ev t a).map fun v=>.of h (v,true)
  |some (.bool false)=>(ev t b).map fun v=>.of h (v,true)
  |_=>none
 | .alloc e=>(j8 P e).map fun ps=>⟨.ptr j 0 0,h,[.b ps],none,true⟩
 | .box _ x=>(ev t x).map fun v=>⟨.ptr j 0 0,h,[.b (partsOf v)],none,(partsOf v).all fun p=>one p||!aW p⟩
 | .build ty ps=>match sH t (ps.toList.map (·.2)) with
  |some vs=>(Ca P ty ((ps.toList.map (·.1)).zip vs)).map (.of h)
  |none=>none
 | .buildSlice ty len ps=>match sH t (ps.toList.map (·.2)) with
  |some vs=>(jF P ty len ((ps.toList.map (·.1)).zip vs)).map fun q=>⟨.sl j 0 0 q.2.1 len len true true,h,[.b q.1],none,q.2.2⟩
  |none=>none
 | .makeSlice ty l c=>match ev t l,ev t c with
  |some a,some b=>(kU P ty a b).map fun q=>⟨.sl j 0 0 q.2.1 q.2.2.1 q.2.2.2.1 true (VS l c),h,[.b q.1],none,q.2.2.2.2⟩
  |_,_=>none
 | .load ty x=>match ev t x with
  |some a=>(ur P ty h a).map (.of h)
  |none=>none
 | .store ty x y=>match ev t x,ev t y with
  |some a,some v=>(kT P ty h v a).map fun q=>⟨.bk [],q.1,[],none,q.2⟩
  |_,_=>none
 | .nilCheck x=>match ev t x with
  |some (.ptr b o i)=>some (.of h (.ptr b o i,true))
  |some (.pV k xs i)=>some (.of h (.pV k xs i,true))
  |some (.nR f z l g e o i)=>some (.of h (.nR f z l g e o i,true))
  |some (.fn (.func f) a b)=>some (.of h (.fn (.func f) a b,true))
  |_=>none
 | .binOp op ty x y _=>match ev t x,ev t y with
  |some (.int k a),some (.int k' b)=>(Aa op k a k' b).map (.of h)
  |some a,some b=>(y8 P op ty x y a b).map (.of h)
  |_,_=>none
 | .unOp op _ x=>match ev t x with
  |some a=>(unS op a).map fun v=>.of h (v,true)
  |none=>none
 | .convert src dst x=>match Nat.beq src dst with
  |true=>Ce P k h dst (ev t x)
  |false=>uy P h src dst (ev t x)
 | .sliceToArrayPointer arr x=>match P.underlying arr,ev t x with
  |some (.array (n+1) e),some (.sl b o i 1 len _ _ _)=>match isInt P e with
   |some _=>some (.of h (.ptr b o i,decide (n+1≤len)))
   |none=>none
  |some (.array (n+1) e),some (.ro _ k xs)=>match isInt P e with
   |some _=>some (.of h (.pV k xs 0,decide (n+1≤xs.length)))
   |none=>none
  |_,_=>none
 | .makeInterface ty x=>match P.underlying ty,ev t x with
  |some (.interface _),_=>none
  |some _,some v=>if one v then some (.of h (.iface ty v,true)) else none
  |_,_=>none
 | .makeFunc fn first captured=>match sH t first.toList,sH t captured.toList with
  |some a,some b=>some (.of h (.fn fn a b,true))
  |_,_=>none
 | .fieldAddr ty x i=>match ev t x with
  |some a=>(oK P ty i a).map fun v=>.of h (v,true)
  |none=>none
 | .field ty x i=>match ev t x with
  |some a=>(Cb P ty i a).map (.of h)
  |none=>none
 | .indexAddr ty x i=>match ev t x,ev t i with
  |some a,some b=>(oL P ty a b).map (.of h)
  |_,_=>none
 | .index ty x i=>match ev t x,ev t i with
  |some a,some b=>(Cd P ty a b).map (.of h)
  |_,_=>none
 | .slice ty x lo hi mx=>match ev t x,Hi t lo,Hi t hi,Hi t mx with
  |some a,some l,some u,some m=>match Ed lo hi mx with
   |true=>(mF P ty h a l u m).map (.of h)
   |false=>(mE P ty h a l u m).map (.of h)
  |_,_,_,_=>none
 | .typeAssert x _ asserted ok=>match ev t x with
  |some a=>(xS P asserted ok a).map fun v=>.of h (v,true)
  |none=>none
 | .extract x i=>match ev t x with
  |some (.bk vs)=>(vs[i]?).map fun v=>.of h (v,true)
  |_=>none
 | .call c=>match c.callee with
  | .value f=>match ev t f,sH t c.args.toList with
   |some (.fn f first jX),some vs=>match yOK f jX with
    |true=>(G f (first++vs++jX) h j).map fun q=>⟨q.1,q.2.1,q.2.2.1,none,q.2.2.2⟩
    |false=>none
   |_,_=>none
  | .builtin .len=>match c.argTypes.toList,sH t c.args.toList with
   | [ty],some [a]=>(VN P ty a).map fun v=>.of h (v,true)
   |_,_=>none
  | .builtin .cap=>match c.argTypes.toList,sH t c.args.toList with
   | [ty],some [a]=>(VQ P ty a).map fun v=>.of h (v,true)
   |_,_=>none
  | .builtin .min=>match sH t c.args.toList with
   |some (.int k a::vs)=>(KC k a vs).map fun n=>.of h (.int k n,true)
   |_=>none
  | .builtin .append=>match c.argTypes.toList,sH t c.args.toList with
   | [ty,xt],some [a,b]=>s7 P k h j ((o.dst.map iM).getD false) ty xt a b
   |_,_=>none
  | .builtin .copy=>match c.argTypes.toList,sH t c.args.toList with
   | [ty,_],some [a,b]=>(KE P h ty a b).map fun q=>⟨q.2.1,q.1,[],none,q.2.2⟩
   |_,_=>none
  |_=>none
 |_=>none
def cO (t:List (Option SV)) (d:Option Tmp) (v:SV):List (Option SV):=
 match d with
 |some i=>t.set i (some v)
 |none=>t
def ez (b:Option Nat) (t:List (Option SV)):List (Option SV):=match b with
 |none=>t
 |some b=>t.map fun|some v=>if uses b v then none else some v|none=>none
def dW (sym:Tmp→Option Bool) (d:Option Tmp) (v:SV):SV×Bool:=
 match d with
 |none=>(v,true)
 |some i=>match sym i with
  |none=>(v,true)
  |some b=>match v with
   | .bool x=>(.bool b,match b with|true=>x|false=>!x)
   |_=>(v,true)
def jf (ops:Array Oper) (t:List (Option SV)) (o:Oper):Option Bool:=
 match o.guard with
 |none=>some true
 |some (j,want)=>match (ops.toList[j]?).bind (·.dst) with
  |none=>some false
  |some i=>match t[i]? with
   |none=>some false
   |some none=>none
   |some (some (.bool b))=>some (b==want)
   |some (some (.nl _))=>none
   |some (some _)=>some false
def bN (h:List Blk) (j:Nat):List Blk→List Blk
 | []=>h
 |b::bs=>bN (h.set j b) (j+1) bs
def bV (h:List Blk) (j:Nat) (new:List Blk):List Blk:=if j=h.length then h++new else bN h j new
def Ad (G:bp) (sym:Tmp→Option Bool) (iM:Tmp→Bool) (k:Nat) (ops:Array Oper) (o:Oper) (s:St):Option St:=
 match jf ops s.t o with
 |some true=>match mG P G iM k s.t s.h s.h.length o with
  |some r=>some ⟨cO (ez r.kill s.t) o.dst (dW sym o.dst r.v).1,bV r.h s.h.length r.new,aa (aa s.ob r.p) (dW sym o.dst r.v).2⟩
  |none=>none
 |some false=>some ⟨cO s.t o.dst (.bk []),s.h,s.ob⟩
 |none=>none
def kV (G:bp) (sym:Tmp→Option Bool) (iM:Tmp→Bool) (k:Nat) (ops:Array Oper):List Nat→St→Option St
 | [],s=>some s
 |i::is,s=>match ops.toList[i]? with
  |none=>kV G sym iM k ops is s
  |some o=>match Ad P G sym iM k ops o s with
   |some s'=>kV G sym iM k ops is s'
   |none=>none
def og (nb:FuncId→Nat):Op→Nat
 | .alloc _| .box .. | .buildSlice .. | .makeSlice .. =>1
 | .call c=>match c.callee with
  | .value (.func f)=>nb f
  | .value (.tmp t)=>nb (1000000000+t)
  |_=>0
 |_=>0
def makes (nb:FuncId→Nat) (ops:List Oper):Nat:=(ops.map fun o=>og nb o.op).sum
def cv (nb:FuncId→Nat) (ops:List Oper) (n i:Nat):Nat:=n+makes nb (ops.take i)
def KF (src dst:TypeId):Bool:=match P.underlying src,P.underlying dst with
 |some (.slice _),some .string=>true
 |_,_=>false
def cn (pf:FuncId→Nat):Op→Nat
 | .load .. =>1
 | .store .. =>2
 | .call c=>match c.callee with
  | .value (.func f)=>match pf f with
   |0=>0
   |1=>4
   |_=>5
  | .builtin .len=>0
  | .builtin .cap=>0
  | .builtin .min=>0
  |_=>5
 | .convert src dst _=>match Nat.beq src dst with
  |true=>5
  |false=>match KF P src dst with
   |true=>1
   |false=>0
 | .slice .. =>1
 |_=>0
def gw (t:List (Option SV)):Op→Option Nat
 | .load _ x| .store _ x _| .slice _ x _ _ _=>match ev t x with
  |some (.ptr b _ _)=>some b
  |_=>none
 | .convert _ _ x=>match ev t x with
  |some (.sl b _ _ _ _ _ _ _)=>some b
  |_=>none
 |_=>none
def vT (t:List (Option SV)):Op→Option Nat
 | .call c=>match c.args.toList with
  | [_,x]=>match ev t x with
   |some (.sl b _ _ _ _ _ _ _)=>some b
   |_=>none
  |_=>none
 |_=>none
def jg (nb:FuncId→Nat) (ops:List Oper) (n:Nat) (m:List Nat) (i:Nat) (t:List (Option SV)) (o:Op):Bool:=match gw t o with
 |none=>true
 |some b=>Nat.ble (b+1) n||(List.range i).any fun j=>(m.getD i 0).testBit j&&(match ops[j]? with
  |some x=>Nat.ble (cv nb ops n j) b&&Nat.ble (b+1) (cv nb ops n j+og nb x.op)
  |none=>false)
def jh (h:List Blk) (j:Nat):Nat→Bool
 |0=>true
 |n+1=>(match h[j]? with|some .gap=>true|_=>false)&&jh h (j+1) n
def Ef (Γ:bK) (G:bp) (k:Nat) (ops:List Oper) (n:Nat) (m:List Nat) (i:Nat) (t:List (Option SV)) (h:List Blk) (o:Oper):Option (SV×List Blk×Bool×List Blk):=
 match jg Γ.nb ops n m i t o.op,mG P G (fun _=>true) k t h (cv Γ.nb ops n i) o with
 |true,some r=>match r.kill.isNone&&decide (r.new.length=og Γ.nb o.op)&&jh h (cv Γ.nb ops n i) (og Γ.nb o.op)&&decide (r.h.length=h.length) with
  |true=>some (r.v,bN r.h (cv Γ.nb ops n i) r.new,r.p,r.new)
  |false=>none
 |_,_=>none
def isApp:Op→Bool
 | .call c=>match c.callee with
  | .builtin .append=>true
  |_=>false
 |_=>false
def Af (Γ:bK) (o:Oper):Bool:=match isApp o.op with
 |true=>match o.dst with
  |some d=>match Γ.sym d with
   |some true=>true
   |_=>false
  |none=>false
 |false=>false
structure Fp where
 q:Nat
 a:Option Nat
 c:Option Nat
 sl:List (Option (Option SV))
 v:SV
 new:List Blk
def ji (ops:Array Oper) (o:Oper):List Tmp:=match o.guard with
 |some (g,_)=>((ops.toList[g]?).bind (·.dst)).toList
 |none=>[]
def dL (Γ:bK) (G:bp) (k:Nat) (ops:Array Oper) (n:Nat) (m:List Nat) (i:Nat) (o:Oper) (s:St):Option (St×Fp):=
 match jf ops s.t o with
 |some true=>match Af Γ o with
  |true=>match mG P G (fun _=>false) k s.t s.h (cv Γ.nb ops.toList n i) o with
   |some r=>match r.new with
    | []=>some (⟨cO (ez r.kill s.t) o.dst r.v,r.h,aa s.ob r.p⟩,⟨2,r.kill,vT s.t o.op,[],.bk [],[]⟩)
    |_=>none
   |none=>none
  |false=>match Ef P Γ G k ops.toList n m i s.t s.h o with
   |some q=>some (⟨cO s.t o.dst (dW Γ.sym o.dst q.1).1,q.2.1,aa (aa s.ob q.2.2.1) (dW Γ.sym o.dst q.1).2⟩,⟨1,gw s.t o.op,none,(o.looksAt ops).map fun i=>s.t[i]?,(dW Γ.sym o.dst q.1).1,q.2.2.2⟩)
   |none=>none
 |some false=>some (⟨cO s.t o.dst (.bk []),s.h,s.ob⟩,⟨0,none,none,(ji ops o).map fun i=>s.t[i]?,.bk [],[]⟩)
 |none=>none
def xW (Γ:bK) (G:bp) (k:Nat) (ops:Array Oper) (n:Nat) (m:List Nat):List Nat→St→Option (St×List Fp)
 | [],s=>some (s,[])
 |i::is,s=>match ops.toList[i]? with
  |none=>none
  |some o=>match dL P Γ G k ops n m i o s with
   |some (s',f)=>match xW Γ G k ops n m is s' with
    |some (s2,fs)=>some (s2,f::fs)
    |none=>none
   |none=>none
def VU (a na b nb:Nat):Bool:=
 (a==0&&(b==0||b==1||b==2||na==0))||(b==0&&(a==1||a==2||(a==4&&na==0)||nb==0))||((a==1||a==4)&&(b==1||b==4)&&na==0&&nb==0)
def KG (a:Nat) (p:Option Nat) (b:Nat) (q:Option Nat):Bool:=((a==2&&(b==1||b==2))||(a==1&&b==2))&&(match p,q with
 |some x,some y=>!Nat.beq x y
 |_,_=>false)
def kW (b:Nat):Option (Option SV)→Bool
 |some (some v)=>!uses b v
 |_=>false
def PG (b r n:Nat):Bool:=Nat.ble (b+1) r||Nat.ble (r+n) b
def wH (f:Fp) (cls n r:Nat) (g:Fp):Bool:=match f.a with
 |some b=>(cls==0||(cls==1&&(match g.a with|some d=>!Nat.beq d b|none=>true)))&&g.sl.all (kW b)&&!uses b g.v&&eH b g.new&&PG b r n&&(match f.c with|some c=>PG c r n|none=>true)
 |none=>false
def Ag (Γ:bK) (ops:List Oper) (n:Nat) (i:Nat) (x:Oper) (f:Fp) (j:Nat) (y:Oper) (g:Fp):Bool:=match f.q,g.q with
 |1,1=>VU (cn P Γ.pf x.op) (og Γ.nb x.op) (cn P Γ.pf y.op) (og Γ.nb y.op)||KG (cn P Γ.pf x.op) f.a (cn P Γ.pf y.op) g.a
 |2,1=>wH f (cn P Γ.pf y.op) (og Γ.nb y.op) (cv Γ.nb ops n j) g
 |1,2=>wH g (cn P Γ.pf x.op) (og Γ.nb x.op) (cv Γ.nb ops n i) f
 |0,0=>true
 |0,1=>true
 |1,0=>true
 |2,0=>(match f.a with|some b=>g.sl.all (kW b)|none=>false)
 |0,2=>(match g.a with|some b=>f.sl.all (kW b)|none=>false)
 |_,_=>false
def Ah (fs:List Fp) (i:Nat):Fp:=match fs[i]? with
 |some f=>f
 |none=>⟨3,none,none,[],.bk [],[]⟩
def KH (Γ:bK) (n:Nat) (fs:List Fp) (ops:Array Oper) (i:Nat) (x:Oper) (j:Nat) (y:Oper):Bool:=
 x.apart ops y&&Ag P Γ ops.toList n i x (Ah fs i) j y (Ah fs j)
def KI (acc:List Nat) (o:Oper):Nat:=
 o.after.toList.foldl (fun s e=>if Region.binds .any e then s|||2^e.on|||acc.getD e.on 0 else s) 0
def masks:List Oper→List Nat→List Nat
 | [],acc=>acc
 |o::os,acc=>masks os (acc++[KI acc o])
def xX (Γ:bK) (n:Nat) (fs:List Fp) (ops:Array Oper):Bool:=
 let m:=masks ops.toList []
 ops.toList.zipIdx.all fun (y,j)=>y.after.toList.all (fun e=>!Region.binds .any e||decide (e.on<j))&&
  (ops.toList.zipIdx.take j).all fun (x,i)=>(m.getD j 0).testBit i||KH P Γ n fs ops i x j y
def j0 (t:List (Option SV)) (h:List Blk):List ResultVar→Option (List SV×Bool)
 | []=>some ([],true)
 | .tmp i::rs=>match ev t (.tmp i),j0 t h rs with
  |some v,some (l,p)=>some (v::l,p)
  |_,_=>none
 | .cell a ty::rs=>match ev t (.tmp a) with
  |some x=>match ur P ty h x,j0 t h rs with
   |some (v,q),some (l,p)=>some (v::l,aa p q)
   |_,_=>none
  |none=>none
def oneOf:List SV→SV
 | [v]=>v
 |vs=>.bk vs
def aT (n:Nat) (args:List SV):List (Option SV):=args.map some++List.replicate (n-args.length) none
def Eg (ex:Code→St→Option (Exit×St)) (fn:Func) (args:List SV) (h:List Blk):Option (SV×List Blk×Bool):=
 match fn.body with
 |none=>none
 |some c=>match ex c ⟨aT fn.ntmps args,h,true⟩ with
  |some (.ret,s)=>(j0 P s.t s.h fn.results.toList).map fun q=>(oneOf q.1,s.h,aa s.ob q.2)
  |some (.normal,s)=>(j0 P s.t s.h fn.results.toList).map fun q=>(oneOf q.1,s.h,aa s.ob q.2)
  |_=>none
def tY (t:List (Option SV)):List Tmp→List SV→List (Option SV)
 |i::is,v::vs=>tY (t.set i (some v)) is vs
 |_,_=>t
def qR:List Blk→Nat→Option (Nat×Lp)
 | [],_=>none
 |b::bs,i=>match qR bs (i+1) with
  |some q=>some q
  |none=>match b with
   | .g (some L)=>match L.st with
    | .ready=>some (i,L)
    |_=>none
   |_=>none
def qT:Exit→Option (Option Code)
 | .normal=>some none
 | .ret=>some (some .ret)
 | .exit id=>some (some (.exit id))
 |_=>none
def nS (h:List Blk) (i:Nat):Option Lp:=match h[i]? with
 |some (.g (some L))=>some L
 |_=>none
def KJ (ex:Code→St→Option (Exit×St)) (l:Nat) (vs:List SV) (h:List Blk):Option (SV×List Blk×Bool):=
 match qR h 0 with
 |none=>none
 |some (i,L)=>match Nat.beq L.ps.size vs.length,ex L.pP ⟨tY L.t L.ps.toList vs,h,decide (L.l=l)⟩ with
  |true,some (.normal,s1)=>match nS s1.h i with
   |none=>none
   |some L1=>match L1.st,ex L.body ⟨s1.t,s1.h.set i (.g (some {L1 with st:=.busy})),aa s1.ob (decide (L1.l=l))⟩ with
    | .ready,some (x,s2)=>match qT x,nS s2.h i with
     |some q,some L2=>some (.bool q.isNone,s2.h.set i (.g (some {L2 with st:=if q.isNone then .ready else .done,fc:=q})),aa s2.ob (decide (L2.l=l)))
     |_,_=>none
    |_,_=>none
  |_,_=>none
def rW (Γ:bK) (ex:Nat→Code→St→Option (Exit×St)):bp:=fun f vs h j=>
 match f with
 | .func f=>match Γ.inl f with
  |some fn=>match Eg P (ex h.length) fn vs h with
   |some (v,h',p)=>if Nat.beq (h'.length-h.length) 0||Nat.beq j h.length then some (v,h'.take h.length,h'.drop h.length,p) else none
   |none=>none
  |none=>Γ.g f vs h j
 | .yield l=>match Γ.yc l vs h with
  |some (v,h',p)=>some (v,h',[],p)
  |none=>match KJ (ex h.length) l vs h with
   |some (v,h',p)=>if Nat.beq (h'.length-h.length) 0||Nat.beq j h.length then some (v,h'.take h.length,h'.drop h.length,p) else none
   |none=>none
 |_=>none
def exec (Γ:bK):Nat→Nat→Code→St→Option (Exit×St)
 |0,_,_,_=>none
 |n+1,k,c,s=>match c with
  | .skip=>some (.normal,s)
  | .label _=>some (.normal,s)
  | .seq a b=>match exec Γ n k a s with
   |some (.normal,s')=>exec Γ n k b s'
   |r=>r
  | .cond c x y=>match ev s.t c with
   |some (.bool true)=>exec Γ n k x s
   |some (.bool false)=>exec Γ n k y s
   |_=>none
  | .block id b=>match exec Γ n k b s with
   |some (.exit j,s')=>if j=id then some (.normal,s') else some (.exit j,s')
   |r=>r
  | .loop b=>match exec Γ n k b s with
   |some (.normal,s')=>exec Γ n k (.loop b) s'
   |r=>r
  | .scope b=>match exec Γ n k b s with
   |some (.goto _,_)=>none
   |r=>r
  | .exit id=>some (.exit id,s)
  | .ret=>some (.ret,s)
  | .region _ ops draw=>match draw with
   |true=>match P.follows .mixedOrders,xW P Γ (rW P Γ fun k=>exec Γ n k) k ops s.h.length (masks ops.toList []) (List.range ops.size) ⟨s.t,s.h++List.replicate (makes Γ.nb ops.toList) .gap,s.ob⟩ with
    |true,some (s',fs)=>match xX P Γ s.h.length fs ops with
     |true=>some (.normal,s')
     |false=>none
    |_,_=>none
   |false=>(kV P (rW P Γ fun k=>exec Γ n k) Γ.sym Γ.iM k ops (List.range ops.size) s).map fun s'=>(.normal,s')
  |_=>none
def bE (Γ:bK) (n:Nat) (fn:Func) (args:List SV) (h:List Blk):Option (SV×List Blk×Bool):=Eg P (exec P Γ n h.length) fn args h
end
end Go.Sy
namespace Go.Sy
open Go
section
variable {P:Program} {e:Env}
theorem VR.empty:VR e (.bk []) undef:=⟨[],rfl,rfl⟩
theorem TR.get {t:List (Option SV)} {t':List Value} (h:TR e t t') {i:Nat} {v:SV} (g:t[i]? =some (some v)):∃v',t'[i]? =some v'∧VR e v v':=by
 have hi:i<t'.length:=by rw [←h.1];exact (List.getElem?_eq_some_iff.1 g).1
 exact ⟨t'[i],List.getElem?_eq_getElem hi,h.2 i v _ g (List.getElem?_eq_getElem hi)⟩
theorem TR.set {t:List (Option SV)} {t':List Value} (h:TR e t t') {v:SV} {v':Value} (g:VR e v v') (i:Nat):TR e (t.set i (some v)) (t'.set i v'):=by
 refine ⟨by simp [h.1],fun j x x' hx hx'=>?_⟩
 by_cases hij:i=j
 ·subst hij
  have h1:i<t.length:=by have:=(List.getElem?_eq_some_iff.1 hx).1;simpa using this
  have h2:i<t'.length:=by rw [←h.1];exact h1
  rw [List.getElem?_set_self h1] at hx
  rw [List.getElem?_set_self h2] at hx'
  cases hx;cases hx'
  exact g
 ·rw [List.getElem?_set_ne hij] at hx hx'
  exact h.2 j x x' hx hx'
theorem TR.mono {e':Env} (h:Env.Le e e') {t:List (Option SV)} {t':List Value} (g:TR e t t'):TR e' t t':=
 ⟨g.1,fun i v v' a b=>VR.mono h (g.2 i v v' a b)⟩
theorem TR.kill {e':Env} (hz:∀n o,e.z n=some o→e'.z n=some o) (hn:e'.n0≤e.n0) {b:Nat} (hr:∀j p,j≠b→e.r j=some p→e'.r j=some p) {t:List (Option SV)} {t':List Value} (g:TR e t t'):TR e' (ez (some b) t) t':=by
 refine ⟨by simp [ez,g.1],fun i v v' a c=>?_⟩
 simp only [ez,List.getElem?_map] at a
 cases hq:t[i]? with
 |none=>simp [hq] at a
 |some x=>
  cases x with
  |none=>simp [hq] at a
  |some x=>
   simp only [hq,Option.map_some,Option.some.injEq] at a
   split at a
   ·cases a
   ·rename_i hu
    cases a
    refine VR.mono' hz hn v v' (fun j p hj hp=>hr j p (fun q=>?_) hp) (g.2 i v v' hq c)
    subst q;exact hu hj
mutual
theorem j9:∀{v:Value} {s:SV},qP v=some s→VR e s v
 | .bool b,s,h=>by simp only [qP,Option.some.injEq] at h;subst h;exact rfl
 | .int k n,s,h=>by simp only [qP,Option.some.injEq] at h;subst h;exact rfl
 | .string x,s,h=>by simp only [qP,Option.some.injEq] at h;subst h;exact ⟨x,rfl,rfl⟩
 | .pointer none,s,h=>by simp only [qP,Option.some.injEq] at h;subst h;exact rfl
 | .pointer (some a),s,h=>by simp [qP] at h
 | .slice none 0 0,s,h=>by simp only [qP,Option.some.injEq] at h;subst h;exact rfl
 | .slice none (_+1) _,s,h=>by simp [qP] at h
 | .slice none 0 (_+1),s,h=>by simp [qP] at h
 | .slice (some _) _ _,s,h=>by simp [qP] at h
 | .map none,s,h=>by simp only [qP,Option.some.injEq] at h;subst h;exact rfl
 | .map (some _),s,h=>by simp [qP] at h
 | .chan none,s,h=>by simp only [qP,Option.some.injEq] at h;subst h;exact rfl
 | .chan (some _),s,h=>by simp [qP] at h
 | .nilFunc,s,h=>by simp only [qP,Option.some.injEq] at h;subst h;exact rfl
 | .nilIface,s,h=>by simp only [qP,Option.some.injEq] at h;subst h;exact rfl
 | .float _ _,s,h=>by simp [qP] at h
 | .complex _ _ _,s,h=>by simp [qP] at h
 | .agg _,s,h=>by simp [qP] at h
 | .tuple ⟨xs⟩,s,h=>by
  simp only [qP] at h
  obtain ⟨a,h1,rfl⟩:=Option.map_eq_some_iff.1 h
  exact ⟨xs,nt h1,rfl⟩
 | .iface t x,s,h=>by
  simp only [qP] at h
  obtain ⟨a,h1,rfl⟩:=Option.map_eq_some_iff.1 h
  exact ⟨x,j9 h1,rfl⟩
 | .func f ⟨xs⟩ ⟨ys⟩,s,h=>by
  simp only [qP] at h
  split at h
  ·rename_i a b h1 h2
   cases h
   exact ⟨xs,ys,nt h1,nt h2,rfl⟩
  ·cases h
theorem nt:∀{v:List Value} {s:List SV},VM v=some s→LR e s v
 | [],s,h=>by simp only [VM,Option.some.injEq] at h;subst h;exact rfl
 |x::xs,s,h=>by
  simp only [VM] at h
  split at h
  ·rename_i a b h1 h2
   cases h
   exact ⟨x,xs,j9 h1,nt h2,rfl⟩
  ·cases h
end
theorem aM {t:List (Option SV)} {t':List Value} {d:List Deferred} (h:TR e t t') {x:Operand} {v:SV} (g:ev t x=some v):VR e v (Act.eval ⟨⟨t'⟩,d⟩ x):=by
 cases x with
 |tmp i=>
  simp only [ev] at g
  split at g
  ·rename_i u hu
   cases g
   obtain ⟨v',KK,hv⟩:=h.get hu
   have:Act.eval ⟨⟨t'⟩,d⟩ (.tmp i)=v':=by
    show (⟨t'⟩:Array Value).getD i undef=v'
    rw [Array.getD_eq_getD_getElem?]
    simp [KK]
   rw [this]
   exact hv
  ·cases g
 |const c=>exact j9 g
 |func f=>simp only [ev,Option.some.injEq] at g;subst g;exact ⟨[],[],rfl,rfl,rfl⟩
 |global g'=>simp [ev] at g
theorem qU {t:List (Option SV)} {t':List Value} {d:List Deferred} (h:TR e t t'):∀{xs:List Operand} {vs:List SV},sH t xs=some vs→LR e vs (xs.map (Act.eval ⟨⟨t'⟩,d⟩))
 | [],vs,g=>by simp [sH] at g;subst g;rfl
 |x::xs,vs,g=>by
  simp only [sH] at g
  split at g
  ·rename_i v vs' hx hxs;cases g
   exact ⟨_,_,aM h hx,qU h hxs,rfl⟩
  ·cases g
def VO (e:Env):Option SV→Option Value→Prop
 |none,y=>y=none
 |some x,y=>∃z,y=some z∧VR e x z
theorem iV {t:List (Option SV)} {t':List Value} {d:List Deferred} (h:TR e t t') {x:Option Operand} {v:Option SV} (g:Hi t x=some v):VO e v (x.map (Act.eval ⟨⟨t'⟩,d⟩)):=by
 cases x with
 |none=>simp only [Hi,Option.some.injEq] at g;subst g;rfl
 |some x=>
  simp only [Hi] at g
  obtain ⟨u,hu,rfl⟩:=Option.map_eq_some_iff.1 g
  exact ⟨_,rfl,aM h hu⟩
theorem bY {t:TypeId} {n:Nat} (h:cX P t=some n) (w:World):(sizeOf t).run P w= .ok n w:=by
 cases hq:P.info? t with
 |none=>simp [cX,hq] at h
 |some i=>simp [cX,hq] at h;subst h;simp [sizeOf,typeInfo,hq]
theorem wI {t:TypeId} {n:Nat} (h:cX P t=some n):∃i,P.info? t=some i∧i.size=n:=by
 cases hq:P.info? t with
 |none=>simp [cX,hq] at h
 |some i=>simp [cX,hq] at h;exact ⟨i,rfl,h⟩
theorem jk {t:TypeId} {z:Value} (h:zeroOf P t=some z) (w:World):(zeroValue t).run P w= .ok z w:=by
 cases hq:P.info? t with
 |none=>simp [zeroOf,hq] at h
 |some i=>simp [zeroOf,hq] at h;simp [zeroValue,typeInfo,hq,h]
theorem ke {t:TypeId} {b:Bool} (h:gm P t=some b) (w:World):(isAgg t).run P w= .ok b w:=by
 cases hq:P.underlying t with
 |none=>simp [gm,hq] at h
 |some d=>
  simp only [gm,hq,Option.map_some,Option.some.injEq] at h
  unfold isAgg
  rw [Sem.run_bind,run_underlying hq w]
  cases d<;>simp_all
theorem kf {t:TypeId} {k:IntKind} (h:isInt P t=some k):P.underlying t=some (.int k):=by
 unfold isInt at h
 split at h
 ·rename_i k' hu;cases h;exact hu
 ·cases h
theorem rX {k:IntKind}:∀{xs:List Int} {ys zs:List Value},z9 k xs ys=some zs→ys=aV k xs++zs
 | [],ys,zs,h=>by simp only [z9,Option.some.injEq] at h;subst h;rfl
 |a::as,ys,zs,h=>by
  unfold z9 at h
  split at h
  ·rename_i h1;cases h1
  ·rename_i a' as' k' b ys' h1
   cases h1
   split at h
   ·rename_i hc
    obtain ⟨rfl,rfl⟩:=hc
    rw [rX h];rfl
   ·cases h
  ·cases h
theorem PI {v w:Value} {a:Nat} (h:xR v=some a) (g:xR w=some a):w=v:=by
 have key:∀{u:Value} {a:Nat},xR u=some a→(a=0∧u= .pointer none)∨(a=1∧u= .slice none 0 0)∨(a=2∧u= .map none)∨(a=3∧u= .chan none)∨(a=4∧u= .nilFunc)∨(a=5∧u= .nilIface):=by
  intro u a h
  unfold xR at h
  split at h<;>simp at h<;>subst h<;>simp
 rcases key h with ⟨h1,rfl⟩|⟨h1,rfl⟩|⟨h1,rfl⟩|⟨h1,rfl⟩|⟨h1,rfl⟩|⟨h1,rfl⟩<;>rcases key g with ⟨h2,rfl⟩|⟨h2,rfl⟩|⟨h2,rfl⟩|⟨h2,rfl⟩|⟨h2,rfl⟩|⟨h2,rfl⟩<;>first|rfl|omega
theorem Ai {x:SV} {y:Value} (h:KA x y=true):VR e x y∧aW x=true:=by
 unfold KA at h
 split at h
 ·simp at h;subst h;exact ⟨rfl,rfl⟩
 ·simp at h;obtain ⟨rfl,rfl⟩:=h;exact ⟨rfl,rfl⟩
 ·rename_i s
  refine ⟨⟨s,rfl,?_⟩,rfl⟩
  have:s.data.toList=[]:=by simpa using h
  simp [gV,this]
 ·rename_i v w
  split at h
  ·rename_i a b ha hb
   simp at h;subst h
   exact ⟨PI ha hb,rfl⟩
  ·cases h
 ·cases h
theorem mI:∀{ps:List SV} {ys:List Value},wD ps ys=true→PR e ps ys
 | [],ys,h=>by simp [wD] at h;exact h
 |x::xs,ys,h=>by
  unfold wD at h
  split at h
  ·rename_i h1;cases h1
  ·rename_i k n l ps ys h1
   cases h1
   split at h
   ·rename_i zs hz
    simp only [Bool.and_eq_true,decide_eq_true_eq] at h
    exact ⟨zs,mI h.2,by rw [aJ h.1];exact rX hz⟩
   ·cases h
  ·rename_i p ps y ys hni h1
   cases h1
   simp only [Bool.and_eq_true] at h
   obtain ⟨hv,hn⟩:=Ai (e:=e) h.1
   exact (PR.cons hn).2 ⟨y,ys,hv,mI h.2,rfl⟩
  ·cases h
theorem F9 (v:Value):KB v=v.cells.toList:=by cases v<;>rfl
theorem gW {t:TypeId} {ps:List SV} (h:j8 P t=some ps):∃z,zeroOf P t=some z∧PR e ps z.cells.toList:=by
 unfold j8 at h
 split at h
 ·rename_i z ps' hz hp
  split at h
  ·rename_i hs
   cases h
   exact ⟨z,hz,by rw [←F9];exact mI hs⟩
  ·cases h
 ·cases h
theorem VR.mJ {ps:List SV} {v':Value} (h:VR e (.agg ps) v'):∃ys,PR e ps ys∧v'= .agg ⟨ys⟩:=h
theorem VR.parts {v:SV} {v':Value} (h:VR e v v') (ho:one v=true∨∃ps,v= .agg ps):PR e (partsOf v) v'.cells.toList:=by
 rcases ho with ho|⟨ps,rfl⟩
 ·have h1:=h.pW ho
  have h2:partsOf v=[v]:=by cases v<;>first|rfl|cases ho
  have h3:aW v=true:=by cases v<;>first|rfl|cases ho
  have h4:v'.cells.toList=[v']:=by cases v'<;>first|rfl|cases h1
  rw [h2,h4]
  exact (PR.cons h3).2 ⟨v',[],h,rfl,rfl⟩
 ·obtain ⟨ys,h1,rfl⟩:=h.mJ
  exact h1
theorem fm (n o j:Nat):(⟨n,o,none⟩:Addr).add j=⟨n,o+j,none⟩:=by unfold Addr.add;split<;>simp_all
variable {B:dA} {h:List Blk} {w:World}
theorem Rel.block (R:Rel B e h w) {b:Nat} {p:Pl} {ps:List SV} (hr:e.r b=some p) (hb:h[b]? =some (.b ps)):
  ∃c t,w.heap[p.n]? =some (.cells c t (0,0))∧p.base+p.size≤c.size∧aA ps≤p.size∧PR e ps ((c.toList.drop p.base).take (aA ps)):=by
 rcases R.fA b ps hb with ⟨_,hn⟩|⟨q,o,hq,ho,VV⟩
 ·rw [hr] at hn;cases hn
 ·rw [hr] at hq;cases hq
  obtain ⟨c,t,rfl,h1,h2,h3⟩:=VV
  exact ⟨c,t,ho,h1,h2,h3⟩
theorem Rel.s8 (R:Rel B e h w) {b:Nat} {p:Pl} (hr:e.r b=some p):∃ps,h[b]? =some (.b ps):=by
 have hd:=R.dom b p hr
 cases hq:h[b]? with
 |none=>rw [List.getElem?_eq_none_iff] at hq;omega
 |some x=>
  cases x with
  |b ps=>exact ⟨ps,rfl⟩
  |g _=>rw [(R.gap b _ hq).1] at hr;cases hr
theorem Rel.eU (R:Rel B e h w) {b:Nat} {p:Pl} (hr:e.r b=some p):∃c t,w.heap[p.n]? =some (.cells c t (0,0))∧p.base+p.size≤c.size:=by
 obtain ⟨ps,hps⟩:=R.s8 hr
 obtain ⟨c,t,h1,h2,_⟩:=R.block hr hps
 exact ⟨c,t,h1,h2⟩
theorem Rel.lt (R:Rel B e h w) {b:Nat} {p:Pl} (hr:e.r b=some p):p.n<w.heap.size:=by
 obtain ⟨c,t,h1,_⟩:=R.eU hr
 exact (Array.getElem?_eq_some_iff.1 h1).1
theorem Rel.Nt (R:Rel B e h w) {n:Nat} {x} (hz:e.z n=some x):n<w.heap.size:=by
 obtain ⟨c,t,fr⟩:=x
 exact (Array.getElem?_eq_some_iff.1 (R.gk n c t fr hz)).1
theorem cell_of {n:Nat} {c:Array Value} {t:TypeId} {fr:Nat×Nat} (hb:w.heap[n]? =some (.cells c t fr)) {j:Nat} {y:Value} (hy:c.toList[j]? =some y):w.cell? ⟨n,j,none⟩=some y:=by
 simp only [World.cell?,hb]
 simpa using hy
theorem iq {n o m:Nat} {c:Array Value} {t ty:TypeId} {fr:Nat×Nat} (hb:w.heap[n]? =some (.cells c t fr)) (fT:gm P ty=some true) (hs:cX P ty=some m) (hl:o+m≤c.size):
  (loadVar ty ⟨n,o,none⟩).run P w= .ok (.agg ⟨(c.toList.drop o).take m⟩) w:=by
 have hlen:((c.toList.drop o).take m).length=m:=by simp [List.length_take,List.length_drop];omega
 have hrun:=run_loadCells_list (P:=P) w ⟨n,o,none⟩ ((c.toList.drop o).take m) (fun j v hv=>by
  rw [fm]
  apply cell_of hb
  have hj:j<m:=by
   have:=(List.getElem?_eq_some_iff.1 hv).1
   omega
  rwa [List.getElem?_take_of_lt hj,List.getElem?_drop] at hv)
 rw [hlen] at hrun
 simp [loadVar,Sem.run_bind,ke fT,bY hs,hrun]
theorem eV {n o:Nat} {y:Value} {ty:TypeId} (hc:w.cell? ⟨n,o,none⟩=some y) (fT:gm P ty=some false):(loadVar ty ⟨n,o,none⟩).run P w= .ok y w:=by
 simp [loadVar,Sem.run_bind,ke fT,run_load,hc]
theorem uz {ps:List SV} {o i n:Nat} {q:List SV} {ys:List Value} (hs:PC ps o i n=some (q,true)) (g:PR e ps ys):PR e q ((ys.drop (o+i)).take n)∧o+i+n≤ys.length:=by
 unfold PC at hs
 split at hs
 ·obtain ⟨q',h1,h2⟩:=Option.map_eq_some_iff.1 hs
  cases h2
  exact oI h1 g
 ·rename_i i
  split at hs
  ·rename_i k m xs ps' hd
   simp only [Option.some.injEq,Prod.mk.injEq,decide_eq_true_eq] at hs
   obtain ⟨rfl,hle⟩:=hs
   obtain ⟨h1,h2⟩:=eG hd g
   obtain ⟨zs,h3,h4⟩:=h1
   have hlen:ys.length-o=m+zs.length:=by rw [←List.length_drop,h4];simp [av,aI]
   refine ⟨⟨[],rfl,?_⟩,by omega⟩
   rw [←List.drop_drop,h4,List.append_nil,List.drop_append_of_le_length (by rw [av,aI];omega),List.take_append_of_le_length (by rw [List.length_drop,av,aI];omega)]
   rw [←dM, ←cq, ←uh, ←jc (by omega)]
  ·cases hs
theorem KL {k:IntKind} {xs:List Int} {c:List Value} {o i:Nat} (hq:aV k xs=(c.drop o).take xs.length) (hi:i<xs.length):c[o+i]? =some (.int k (xs.getD i 0)):=by
 have h1:=F5 (k:=k) hi
 rw [hq,List.getElem?_take_of_lt hi,List.getElem?_drop] at h1
 exact h1
theorem rY (R:Rel B e h w) {ty:TypeId} {a v:SV} {a':Value} (g:ur P ty h a=some (v,true)) (ha:VR e a a'):
  ∃x v',a'= .pointer (some x)∧(loadVar ty x).run P w= .ok v' w∧VR e v v':=by
 unfold ur at g
 split at g
 ·rename_i b o i
  obtain ⟨p,hp,rfl⟩:=ha
  split at g
  ·rename_i ps hb
   obtain ⟨c,t,hc,hsz,sJ,pn⟩:=R.block hp hb
   split at g
   ·rename_i fT
    split at g
    ·rename_i n hn
     obtain ⟨⟨q,pq⟩,hq,h2⟩:=Option.map_eq_some_iff.1 g
     simp only [Prod.mk.injEq] at h2
     obtain ⟨rfl,rfl⟩:=h2
     obtain ⟨h3,h4⟩:=uz hq pn
     have hl:((c.toList.drop p.base).take (aA ps)).length=aA ps:=by simp;omega
     rw [hl] at h4
     refine ⟨_,_,rfl,iq hc fT hn (by omega),_,?_,rfl⟩
     rw [List.drop_take,List.take_take,List.drop_drop,Nat.min_eq_left (by omega)] at h3
     exact h3
    ·cases g
   ·rename_i fT
    obtain ⟨y,hy,hv⟩:=fC g pn
    refine ⟨_,y,rfl,eV (cell_of hc ?_) fT,hv⟩
    have hlt:o+i<aA ps:=by
     have:=(List.getElem?_eq_some_iff.1 hy).1
     simp at this;omega
    rwa [List.getElem?_take_of_lt hlt,List.getElem?_drop] at hy
   ·cases g
  ·cases g
 ·rename_i k xs i
  obtain ⟨n,o,c,t,fr,rfl,hz,hq⟩:=ha
  have hc:=R.gk _ _ _ _ hz
  split at g
  ·rename_i fT
   split at g
   ·rename_i m hm
    simp only [Option.some.injEq,Prod.mk.injEq,Bool.and_eq_true,decide_eq_true_eq] at g
    obtain ⟨rfl,hpos,hle⟩:=g
    have hlen:xs.length≤c.size-o:=by
     have:=congrArg List.length hq
     simp [av] at this;omega
    refine ⟨_,_,rfl,iq hc fT hm (by omega),_,⟨[],rfl,rfl⟩,?_⟩
    rw [List.append_nil,aJ (by simp;omega),cq,dM,hq,List.drop_take,List.take_take,List.drop_drop,Nat.min_eq_left (by omega)]
   ·cases g
  ·rename_i fT
   simp only [Option.some.injEq,Prod.mk.injEq,decide_eq_true_eq] at g
   obtain ⟨rfl,hlt⟩:=g
   exact ⟨_,_,rfl,eV (cell_of hc (KL hq hlt)) fT,rfl⟩
  ·cases g
 ·rename_i f xss i
  obtain ⟨n,o,c,t,fr,rfl,hz,hq⟩:=ha
  have hc:=R.gk _ _ _ _ hz
  split at g
  ·rename_i fT
   simp only [Option.some.injEq,Prod.mk.injEq,decide_eq_true_eq] at g
   obtain ⟨rfl,hlt⟩:=g
   obtain ⟨y,hy,hv⟩:=hq i _ (List.getElem?_eq_getElem hlt)
   refine ⟨_,y,rfl,eV (cell_of hc hy) fT,?_⟩
   have:xss.getD i []=xss[i]:=by simp [List.getD,List.getElem?_eq_getElem hlt]
   rw [this];exact hv
  ·cases g
 ·rename_i f z len c0 el o i
  obtain ⟨n,o0,c,t,fr,rfl,hz,hq,hsz⟩:=ha
  have hc:=R.gk _ _ _ _ hz
  have up:∀{q:SV} {y:Value},VR ⟨fun _=>none,e.z,e.n0,[],fun _=>none⟩ q y→VR e q y:=fun hv=>VR.mono (e:=⟨fun _=>none,e.z,e.n0,[],fun _=>none⟩) (e':=e) ⟨(fun _ _ x=>by cases x),(fun _ _ x=>x),Nat.le_refl _⟩ hv
  have hrow:el<len→el*z+z≤len*z:=fun hlt=>by
   have:=Nat.mul_le_mul_right z (Nat.succ_le_of_lt hlt)
   rw [Nat.succ_mul] at this;exact this
  split at g
  ·rename_i fT
   split at g
   ·rename_i m hm
    obtain ⟨⟨q,pq⟩,hq',h2⟩:=Option.map_eq_some_iff.1 g
    simp only [Prod.mk.injEq,Bool.and_eq_true,decide_eq_true_eq] at h2
    obtain ⟨rfl,rfl,hlt,hle⟩:=h2
    have:=hrow hlt
    obtain ⟨h3,h4⟩:=uz hq' (hq el hlt)
    refine ⟨_,_,rfl,iq hc fT hm (by omega),up ⟨_,?_,rfl⟩⟩
    rw [List.drop_take,List.take_take,List.drop_drop,Nat.min_eq_left (by omega)] at h3
    exact h3
   ·cases g
  ·rename_i fT
   obtain ⟨⟨q,pq⟩,hq',h2⟩:=Option.map_eq_some_iff.1 g
   simp only [Prod.mk.injEq,Bool.and_eq_true,decide_eq_true_eq] at h2
   obtain ⟨rfl,rfl,hlt,hle⟩:=h2
   obtain ⟨y,hy,hv⟩:=fC hq' (hq el hlt)
   refine ⟨_,y,rfl,eV (cell_of hc ?_) fT,up hv⟩
   rwa [List.getElem?_take_of_lt hle,List.getElem?_drop] at hy
  ·cases g
 ·cases g
theorem Rel.setBlock (R:Rel B e h w) {b:Nat} {p:Pl} {ps':List SV} {c c':Array Value} {t:TypeId} (hr:e.r b=some p) (hc:w.heap[p.n]? =some (.cells c t (0,0)))
  (hs:c'.size=c.size) (hout:∀j,j<p.base∨p.base+p.size≤j→c'[j]? =c[j]?) (hps:aA ps'≤p.size) (pn:PR e ps' ((c'.toList.drop p.base).take (aA ps'))):
  Rel B e (h.set b (.b ps')) (w.setRow p.n c'):=by
 have hb:=R.dom b p hr
 obtain ⟨c0,t0,h1,h2⟩:=R.eU hr
 rw [hc] at h1;cases h1
 have Eh:(w.setRow p.n c').heap[p.n]? =some (.cells c' t (0,0)):=setRow_heap w p.n c c' t (0,0) hc
 have cL:∀n,n≠p.n→(w.setRow p.n c').heap[n]? =w.heap[n]? :=fun n hn=>setRow_other w p.n n c' hn
 exact {
  os:=R.os,tape:=R.tape,output:=R.output
  size:=by have:=R.size;simpa [World.setRow] using this
  inj:=R.inj
  dom:=fun i q hi=>by simpa using R.dom i q hi
  sep:=R.sep
  gk:=fun n cc tt fr hz=>by
   rw [cL n (fun q=>by rw [q,R.sep b p hr] at hz;cases hz)]
   exact R.gk n cc tt fr hz
  aY:=R.aY,news:=R.news,bg:=R.bg,bM:=R.bM,n0:=R.n0,cP:=R.cP
  fA:=fun i qs hi=>by
   by_cases jo:b=i
   ·subst jo
    rw [List.getElem?_set_self hb] at hi
    cases hi
    exact .inr ⟨p,_,hr,Eh,c',t,rfl,by rw [hs];exact h2,hps,pn⟩
   ·rw [List.getElem?_set_ne jo] at hi
    rcases R.fA i qs hi with g|⟨q,o,hq,ho,VV⟩
    ·exact .inl g
    ·exact .inr ⟨q,o,hq,by rw [cL q.n (fun x=>jo (R.inj i b q p hq hr x).symm)];exact ho,VV⟩
  gap:=fun i g hi=>by
   by_cases jo:b=i
   ·subst jo;rw [List.getElem?_set_self hb] at hi;cases hi
   ·rw [List.getElem?_set_ne jo] at hi
    refine ⟨(R.gap i g hi).1,(R.gap i g hi).2.le (fun n o hn=>?_) rfl (Env.Le.refl e)⟩
    rw [cL n (fun q=>by subst q;rw [hc] at hn;cases hn)];exact hn
  yi:=R.yi,yb:=R.yb
  old:=fun n hn hno pz=>by
   rw [cL n (fun q=>?_)]
   ·exact R.old n hn hno pz
   ·subst q
    rcases R.news b p hr with g|g
    ·exact hno b p g rfl
    ·omega
  win:=fun i q hq=>by
   obtain ⟨o,o',ho,ho',Nu⟩:=R.win i q hq
   by_cases hqp:q.n=p.n
   ·have hib:=R.inj i b q p (R.bg i q hq) hr hqp
    subst hib
    have:=R.bg i q hq
    rw [hr] at this;cases this
    rw [hc] at ho';cases ho'
    obtain ⟨d,d',tt,fr,rfl,q1,q2,q3⟩:=Nu
    cases q1
    exact ⟨_,_,ho,Eh,d,c',t,(0,0),rfl,rfl,by rw [hs,q2],fun j hj=>by rw [hout j hj,q3 j hj]⟩
   ·exact ⟨o,o',ho,by rw [cL q.n hqp];exact ho',Nu⟩
  kr:=R.kr
  gL:=by simpa using R.gL
  hY:=fun r hrm=>by
   refine ⟨?_,(R.hY r hrm).2⟩
   rw [cL r (fun q=>?_)]
   ·exact (R.hY r hrm).1
   ·subst q;have:=(R.hY _ hrm).1;rw [hc] at this;cases this
  jq:=R.jq}
theorem oh {ps:List SV}:∀{ys:List Value},PR e ps ys→ps.all (fun p=>one p||!aW p)=true→∀v∈ys,v.oneCell'=true:=by
 induction ps with
 |nil=>intro ys g _ v hv;rw [PR] at g;subst g;cases hv
 |cons x xs ih=>
  intro ys g ha v hv
  simp only [List.all_cons,Bool.and_eq_true] at ha
  by_cases hx:aW x=true
  ·obtain ⟨y,zs,h1,h2,rfl⟩:=(PR.cons hx).1 g
   have ho:one x=true:=by simpa [hx] using ha.1
   rcases List.mem_cons.1 hv with rfl|hv
   ·exact h1.pW ho
   ·exact ih h2 ha.2 v hv
  ·cases x<;>simp [aW] at hx
   obtain ⟨zs,h2,rfl⟩:=g
   rcases List.mem_append.1 hv with hv|hv
   ·simp only [aV,List.mem_map] at hv
    obtain ⟨n,_,rfl⟩:=hv
    rfl
   ·exact ih h2 ha.2 v hv
end
end Go.Sy
namespace Go.Sy
open Go
section
variable {P:Program} {e:Env} {B:dA} {h:List Blk} {w:World}
theorem Rel.storeAt (R:Rel B e h w) {b:Nat} {p:Pl} {ps:List SV} {c:Array Value} {t:TypeId} (hp:e.r b=some p) (hc:w.heap[p.n]? =some (.cells c t (0,0))) (hsz:p.base+p.size≤c.size) (sJ:aA ps≤p.size)
  (q:Nat) (vs:List Value) (ps':List SV) (hq:q+vs.length≤aA ps) (hps:aA ps'=aA ps) (hone:∀v∈vs,v.oneCell'=true)
  (VW:PR e ps' (((c.toList.drop p.base).take (aA ps)).take q++vs++((c.toList.drop p.base).take (aA ps)).drop (q+vs.length))):
  ∃w',(storeCells ⟨p.n,p.base+q,none⟩ vs 0).run P w= .ok () w'∧Rel B e (h.set b (.b ps')) w':=by
 have hst:=run_storeCells_at P p.n (p.base+q) t vs 0 c w hc (by omega) hone
 simp only [Nat.add_zero] at hst
 refine ⟨_,hst,R.setBlock hp hc ?_ ?_ (by omega) ?_⟩
 ·simp;omega
 ·intro j hj
  simp only [List.getElem?_toArray]
  rcases Nat.lt_or_ge j (p.base+q) with h1|h1
  ·rw [List.append_assoc,List.getElem?_append_left (by simp;omega),List.getElem?_take,if_pos h1];simp
  ·have h2:p.base+q+vs.length≤j:=by omega
   rw [List.getElem?_append_right (by simp;omega),List.getElem?_drop]
   have:p.base+q+vs.length+(j-(List.take (p.base+q) c.toList++vs).length)=j:=by simp;omega
   rw [this];simp
 ·rw [hps]
  have:(List.drop p.base (c.toList.take (p.base+q)++vs++c.toList.drop (p.base+q+vs.length))).take (aA ps)=((c.toList.drop p.base).take (aA ps)).take q++vs++((c.toList.drop p.base).take (aA ps)).drop (q+vs.length):=by
   apply List.ext_getElem?
   intro j
   simp only [List.getElem?_take,List.getElem?_drop,List.getElem?_append,List.length_append,List.length_take,List.length_drop,Array.length_toList]
   by_cases h1:j<aA ps
   ·rw [if_pos h1]
    by_cases h2:j<q
    ·simp only [show p.base+j<min (p.base+q) c.size+vs.length from by omega,show p.base+j<min (p.base+q) c.size from by omega,show p.base+j<p.base+q from by omega,show j<min q (min (aA ps) (c.size-p.base))+vs.length from by omega,show j<min q (min (aA ps) (c.size-p.base)) from by omega,h2,h1,if_true]
    ·by_cases h3:j<q+vs.length
     ·simp only [show p.base+j<min (p.base+q) c.size+vs.length from by omega,show ¬p.base+j<min (p.base+q) c.size from by omega,show j<min q (min (aA ps) (c.size-p.base))+vs.length from by omega,show ¬j<min q (min (aA ps) (c.size-p.base)) from by omega,if_true,if_false]
      congr 1;omega
     ·simp only [show ¬p.base+j<min (p.base+q) c.size+vs.length from by omega,show ¬j<min q (min (aA ps) (c.size-p.base))+vs.length from by omega,if_false]
      rw [if_pos (by omega)]
      congr 1;omega
   ·rw [if_neg h1]
    simp only [show ¬j<min q (min (aA ps) (c.size-p.base))+vs.length from by omega,if_false]
    rw [if_neg (by omega)]
  simp only []
  rw [this];exact VW
theorem Rel.KM (R:Rel B e h w) {b:Nat} {p:Pl} {ps:List SV} {c:Array Value} {t:TypeId} (hp:e.r b=some p) (hc:w.heap[p.n]? =some (.cells c t (0,0))) (hsz:p.base+p.size≤c.size)
  (vs:List Value) (ps':List SV) (hq:aA ps+vs.length≤p.size) (hps:aA ps'=aA ps+vs.length) (hone:∀v∈vs,v.oneCell'=true)
  (VW:PR e ps' ((c.toList.drop p.base).take (aA ps)++vs)):
  ∃w',(storeCells ⟨p.n,p.base+aA ps,none⟩ vs 0).run P w= .ok () w'∧Rel B e (h.set b (.b ps')) w':=by
 have hst:=run_storeCells_at P p.n (p.base+aA ps) t vs 0 c w hc (by omega) hone
 simp only [Nat.add_zero] at hst
 refine ⟨_,hst,R.setBlock hp hc ?_ ?_ (by omega) ?_⟩
 ·simp;omega
 ·intro j hj
  simp only [List.getElem?_toArray]
  rcases Nat.lt_or_ge j (p.base+aA ps) with h1|h1
  ·rw [List.append_assoc,List.getElem?_append_left (by simp;omega),List.getElem?_take,if_pos h1];simp
  ·have h2:p.base+aA ps+vs.length≤j:=by omega
   rw [List.getElem?_append_right (by simp;omega),List.getElem?_drop]
   have:p.base+aA ps+vs.length+(j-(List.take (p.base+aA ps) c.toList++vs).length)=j:=by simp;omega
   rw [this];simp
 ·rw [hps]
  have:(List.drop p.base (c.toList.take (p.base+aA ps)++vs++c.toList.drop (p.base+aA ps+vs.length))).take (aA ps+vs.length)=(c.toList.drop p.base).take (aA ps)++vs:=by
   have hlen:(c.toList.take (p.base+aA ps)).length=p.base+aA ps:=by rw [List.length_take,Array.length_toList];omega
   rw [List.append_assoc,List.drop_append_of_le_length (by omega),List.drop_take,Nat.add_sub_cancel_left]
   have lT:((c.toList.drop p.base).take (aA ps)).length=aA ps:=by rw [List.length_take,List.length_drop,Array.length_toList];omega
   rw [←List.append_assoc,List.take_append_of_le_length (by rw [List.length_append,lT];exact Nat.le_refl _),List.take_of_length_le (by rw [List.length_append,lT];exact Nat.le_refl _)]
  simp only []
  rw [this];exact VW
theorem xY (R:Rel B e h w) {ty:TypeId} {a x:SV} {a' x':Value} {h':List Blk} (g:kT P ty h x a=some (h',true)) (ha:VR e a a') (hx:VR e x x'):
  ∃ad w',a'= .pointer (some ad)∧(storeVar ty ad x').run P w= .ok () w'∧Rel B e h' w':=by
 unfold kT at g
 split at g
 ·rename_i b o i
  obtain ⟨p,hp,rfl⟩:=ha
  split at g
  ·rename_i ps hb
   obtain ⟨c,t,hc,hsz,sJ,pn⟩:=R.block hp hb
   have vU:((c.toList.drop p.base).take (aA ps)).length=aA ps:=by simp;omega
   have key:=fun q vs ps'=>R.storeAt (P:=P) (ps:=ps) hp hc hsz sJ q vs ps'
   split at g
   ·rename_i fT
    split at g
    ·rename_i q n hn
     split at g
     ·rename_i SJ
      simp only [Bool.and_eq_true,decide_eq_true_eq] at SJ
      obtain ⟨SJ,hone⟩:=SJ
      obtain ⟨ps',hput,h2⟩:=Option.map_eq_some_iff.1 g
      simp only [Prod.mk.injEq,and_true] at h2
      subst h2
      obtain ⟨ys,hys,rfl⟩:=hx.mJ
      have s9:=hys.length
      obtain ⟨h3,h4⟩:=uo hput pn hys
      rw [vU] at h4
      have Ga:aA ps'=aA ps:=by
       have:=h3.length
       simp at this;omega
      obtain ⟨w',hrun,R'⟩:=key o ys ps' (by omega) Ga (oh hys hone) (by rw [s9,SJ];exact h3)
      refine ⟨_,w',rfl,?_,R'⟩
      have VX:(Value.agg ⟨ys⟩).cells.size=n:=by show ys.length=n;omega
      unfold storeVar
      rw [Sem.run_bind,bY hn w]
      simp only [Result.andThen,VX,ne_eq,not_true,if_false]
      exact hrun
     ·cases g
    ·cases g
   ·rename_i fT
    split at g
    ·rename_i Si
     simp only [Bool.and_eq_true,beq_iff_eq] at Si
     obtain ⟨⟨ps',q⟩,uA,h2⟩:=Option.map_eq_some_iff.1 g
     simp only [Prod.mk.injEq] at h2
     obtain ⟨rfl,rfl⟩:=h2
     obtain ⟨h3,h4⟩:=kS uA pn hx
     rw [vU] at h4
     have Ga:aA ps'=aA ps:=by
      have:=h3.length
      simp at this;omega
     have Cf:x'.cells.toList=[x']:=by
      have:=hx.pW Si.1
      cases x'<;>first|rfl|cases this
     obtain ⟨w',hrun,R'⟩:=key (o+i) [x'] ps' (by simp;omega) Ga (fun v hv=>by simp at hv;subst hv;exact hx.pW Si.1) (by
      rw [List.set_eq_take_append_cons_drop] at h3
      rw [if_pos (by rw [vU];exact h4)] at h3
      simpa using h3)
     refine ⟨_,w',rfl,?_,R'⟩
     have VX:x'.cells.size=1:=by rw [←Array.length_toList,Cf];rfl
     unfold storeVar
     rw [Sem.run_bind,bY Si.2 w]
     simp only [Result.andThen,VX,ne_eq,not_true,if_false]
     rw [Cf]
     exact hrun
    ·cases g
   ·cases g
  ·cases g
 ·cases g
def mK (e:Env) (j:Nat) (p:Pl):Env:={e with r:=fun i=>if i=j then some p else e.r i}
theorem iN {j:Nat} {p:Pl} (hj:e.r j=none):Env.Le e (mK e j p):=⟨fun i b hi=>by
 show (if i=j then some p else e.r i)=some b
 rw [if_neg (fun q=>by subst q;rw [hj] at hi;cases hi)]
 exact hi,fun _ _ h=>h,Nat.le_refl _⟩
theorem ee {j:Nat} {p:Pl}:(mK e j p).r j=some p:=if_pos rfl
theorem dr {j i:Nat} {p b:Pl} (hi:(mK e j p).r i=some b):(i≠j∧e.r i=some b)∨(i=j∧b=p):=by
 simp only [mK] at hi
 split at hi
 ·rename_i h;cases hi;exact .inr ⟨h,rfl⟩
 ·rename_i h;exact .inl ⟨h,hi⟩
def kg (h:List Blk) (j:Nat) (n:Nat):Prop:=j=h.length∨∀i,i<n→h[j+i]? =some .gap
theorem BR.mono {e':Env} (hle:Env.Le e e') {p:Pl} {ps:List SV} {o:Obj} (g:BR e p ps o):BR e' p ps o:=by
 obtain ⟨c,t,h1,h2,h3,h4⟩:=g
 exact ⟨c,t,h1,h2,h3,h4.mono hle⟩
theorem Rel.drawn (R:Rel B e h w) (d:Nat):Rel B e h {w with drawn:=d}:=
 {os:=R.os,tape:=R.tape,output:=R.output,size:=R.size,inj:=R.inj,dom:=R.dom,sep:=R.sep,gk:=R.gk,aY:=R.aY,news:=R.news,bg:=R.bg,bM:=R.bM,n0:=R.n0,cP:=R.cP,
  fA:=R.fA,gap:=R.gap,yi:=R.yi,yb:=R.yb,old:=R.old,win:=R.win,kr:=R.kr,gL:=R.gL,hY:=R.hY,jq:=R.jq}
theorem Rel.free (R:Rel B e h w) {j:Nat} (hj:j=h.length∨h[j]? =some .gap):e.r j=none:=by
 rcases hj with rfl|hj
 ·cases hq:e.r h.length with
  |none=>rfl
  |some p=>have:=R.dom _ p hq;omega
 ·exact (R.gap j _ hj).1
theorem Rel.new (R:Rel B e h w) {h':List Blk} {ps:List SV} {ys:List Value} {t:TypeId} {j:Nat} (hl:PR e ps (ys.take (aA ps))) (hle:aA ps≤ys.length)
  (hj:e.r j=none) (h1:h'[j]? =some (.b ps)) (h2:∀i,i≠j→h'[i]? =h[i]?) (hlen:h.length≤h'.length):
  Rel B (mK e j ⟨w.heap.size,0,ys.length⟩) h' (w.alloc (.cells ⟨ys⟩ t)):=by
 have hold:∀n,n<w.heap.size→(w.alloc (.cells ⟨ys⟩ t)).heap[n]? =w.heap[n]? :=fun n hn=>heap_alloc_old w _ n hn
 exact {
  os:=R.os,tape:=R.tape,output:=R.output
  size:=by have:=R.size;rw [World.size_alloc];omega
  inj:=fun i i' p q hi hi' g=>by
   rcases dr hi with ⟨_,g1⟩|⟨g1,Ym⟩<;>rcases dr hi' with ⟨_,g2⟩|⟨g2,g2'⟩
   ·exact R.inj i i' p q g1 g2 g
   ·have:=R.lt g1;subst g2';simp at g;omega
   ·have:=R.lt g2;subst Ym;simp at g;omega
   ·omega
  dom:=fun i p hi=>by
   rcases dr hi with ⟨_,g⟩|⟨g,_⟩
   ·have:=R.dom i p g;omega
   ·subst g;exact (List.getElem?_eq_some_iff.1 h1).1
  sep:=fun i p hi=>by
   rcases dr hi with ⟨_,g⟩|⟨_,g⟩
   ·exact R.sep i p g
   ·subst g
    show e.z w.heap.size=none
    cases hq:e.z w.heap.size with
    |none=>rfl
    |some x=>have:=R.Nt hq;omega
  gk:=fun n c tt fr hz=>by rw [hold n (R.Nt hz)];exact R.gk n c tt fr hz
  aY:=R.aY
  news:=fun i p hi=>by
   rcases dr hi with ⟨_,g⟩|⟨_,g⟩
   ·exact R.news i p g
   ·subst g;exact .inr R.size
  bg:=fun i p hi=>(iN hj).r i p (R.bg i p hi)
  bM:=R.bM,n0:=R.n0,cP:=R.cP
  fA:=fun i qs hi=>by
   by_cases hij:i=j
   ·subst hij
    rw [h1] at hi
    cases hi
    exact .inr ⟨⟨w.heap.size,0,ys.length⟩,_,ee,heap_alloc_new w _,⟨ys⟩,t,rfl,by simp,hle,by simpa using hl.mono (iN hj)⟩
   ·rw [h2 i hij] at hi
    rcases R.fA i qs hi with ⟨g1,g2⟩|⟨q,o,hq,ho,VV⟩
    ·exact .inl ⟨g1,by simp only [mK];rw [if_neg hij];exact g2⟩
    ·exact .inr ⟨q,o,(iN hj).r i q hq,by rw [hold q.n (R.lt hq)];exact ho,VV.mono (iN hj)⟩
  gap:=fun i g hi=>by
   by_cases hij:i=j
   ·subst hij;rw [h1] at hi;cases hi
   ·rw [h2 i hij] at hi
    refine ⟨by simp only [mK];rw [if_neg hij];exact (R.gap i g hi).1,(R.gap i g hi).2.le (fun n o hn=>?_) rfl (iN hj)⟩
    rw [hold n (Array.getElem?_eq_some_iff.1 hn).1];exact hn
  yi:=R.yi,yb:=R.yb
  old:=fun n hn hno pz=>by rw [hold n (by have:=R.size;omega)];exact R.old n hn hno pz
  win:=fun i q hq=>by
   obtain ⟨o,o',ho,ho',Nu⟩:=R.win i q hq
   exact ⟨o,o',ho,by rw [hold q.n (R.lt (R.bg i q hq))];exact ho',Nu⟩
  kr:=R.kr
  gL:=by have:=R.gL;omega
  hY:=fun r hr=>by
   have:=R.hY r hr
   rw [hold r (Array.getElem?_eq_some_iff.1 this.1).1];exact this
  jq:=R.jq}
theorem Rel.make (R:Rel B e h w) {ps:List SV} {ys:List Value} {t:TypeId} {j:Nat} (hf:kg h j 1) (hl:PR e ps (ys.take (aA ps))) (hle:aA ps≤ys.length):
  Rel B (mK e j ⟨w.heap.size,0,ys.length⟩) (bV h j [.b ps]) (w.alloc (.cells ⟨ys⟩ t)):=by
 have hj:j=h.length∨h[j]? =some .gap:=hf.imp id fun g=>by simpa using g 0 (by omega)
 have hfree:=R.free hj
 unfold bV
 by_cases hjl:j=h.length
 ·rw [if_pos hjl]
  refine R.new hl hle hfree (by rw [hjl];simp) (fun i hi=>?_) (by simp)
  rcases Nat.lt_or_ge i h.length with h1|h1
  ·rw [List.getElem?_append_left h1]
  ·rw [List.getElem?_append_right h1,List.getElem?_eq_none (l:=h) h1,List.getElem?_eq_none (by simp;omega)]
 ·rw [if_neg hjl]
  have hg:=hj.resolve_left hjl
  have hlt:=(List.getElem?_eq_some_iff.1 hg).1
  exact R.new hl hle hfree (List.getElem?_set_self hlt) (fun i hi=>List.getElem?_set_ne (Ne.symm hi)) (by simp [bN])
theorem Rel.nothing (R:Rel B e h w) {ps:List SV} {j:Nat} (hf:kg h j 1) (hps:aA ps=0):Rel B e (bV h j [.b ps]) w:=by
 have hj:j=h.length∨h[j]? =some .gap:=hf.imp id fun g=>by simpa using g 0 (by omega)
 have hfree:=R.free hj
 have key:∀h':List Blk,h'[j]? =some (.b ps)→(∀i,i≠j→h'[i]? =h[i]?)→h.length≤h'.length→Rel B e h' w:=fun h' h1 h2 h3=>
  {os:=R.os,tape:=R.tape,output:=R.output,size:=R.size,inj:=R.inj,dom:=fun i p hi=>by have:=R.dom i p hi;omega,sep:=R.sep,gk:=R.gk,aY:=R.aY,news:=R.news,bg:=R.bg,bM:=R.bM,n0:=R.n0,cP:=R.cP,
   fA:=fun i qs hi=>by
    by_cases hij:i=j
    ·subst hij;rw [h1] at hi;cases hi;exact .inl ⟨hps,hfree⟩
    ·rw [h2 i hij] at hi;exact R.fA i qs hi
   gap:=fun i g hi=>by
    by_cases hij:i=j
    ·subst hij;rw [h1] at hi;cases hi
    ·rw [h2 i hij] at hi;exact R.gap i g hi
   yi:=R.yi,yb:=R.yb,old:=R.old,win:=R.win,kr:=R.kr,gL:=by have:=R.gL;omega,hY:=R.hY,jq:=R.jq}
 unfold bV
 by_cases hjl:j=h.length
 ·rw [if_pos hjl]
  refine key _ (by rw [hjl];simp) (fun i hi=>?_) (by simp)
  rcases Nat.lt_or_ge i h.length with h1|h1
  ·rw [List.getElem?_append_left h1]
  ·rw [List.getElem?_append_right h1,List.getElem?_eq_none (l:=h) h1,List.getElem?_eq_none (by simp;omega)]
 ·rw [if_neg hjl]
  have hg:=hj.resolve_left hjl
  have hlt:=(List.getElem?_eq_some_iff.1 hg).1
  exact key _ (List.getElem?_set_self hlt) (fun i hi=>List.getElem?_set_ne (Ne.symm hi)) (by simp [bN])
theorem KN (op:BinOp) (k:IntKind) (a b:Int) (w:World) (v:SV) (T:TypeId) (x y:Operand) (h:Aa op k a k b=some (v,true)) (ho:op≠.shl) (ho':op≠.shr):
  ∃v',(do eqGuard op T x y (.int k a) (.int k b);binOp op T (.int k a) (.int k b):Sem Value).run P w= .ok v' w∧VR e v v':=by
 have hg:(eqGuard op T x y (.int k a) (.int k b)).run P w= .ok () w:=by
  unfold eqGuard;split<;>simp
 rw [Sem.run_bind,hg]
 simp only [Result.andThen]
 cases op<;>simp [Aa] at h<;>first|contradiction|skip
 all_goals (try (obtain ⟨rfl,h⟩:=h))
 all_goals (try subst h)
 all_goals (simp [binOp,Op.intArith,Op.intBits,Op.intCmp,Op.intDiv,bR,gj,cj,fL,ja,VR, *,-Sem.run_bind])
theorem Cg {op:BinOp} {k k':IntKind} {n m:Int} {v:SV} (h:Aa op k n k' m=some (v,true)) (T:TypeId) (x y:Operand) (w:World):
  ∃v',(do eqGuard op T x y (.int k n) (.int k' m);binOp op T (.int k n) (.int k' m):Sem Value).run P w= .ok v' w∧VR e v v':=by
 by_cases h1:op= .shl
 ·subst h1
  simp only [Aa,Option.some.injEq,Prod.mk.injEq,decide_eq_true_eq] at h
  obtain ⟨rfl,h⟩:=h
  refine ⟨_,?_,rfl⟩
  have:¬m<0:=by omega
  simp [eqGuard,binOp,Op.shift,this,cV]
 by_cases h2:op= .shr
 ·subst h2
  simp only [Aa,Option.some.injEq,Prod.mk.injEq,decide_eq_true_eq] at h
  obtain ⟨rfl,h⟩:=h
  refine ⟨_,?_,rfl⟩
  have:¬m<0:=by omega
  simp [eqGuard,binOp,Op.shift,this,bh]
 have hk:k=k':=by
  by_cases hk:k=k'
  ·exact hk
  ·cases op<;>simp [Aa,hk] at h<;>contradiction
 subst hk
 exact KN op k n m w v T x y h h1 h2
def KO (k:IntKind) (xs:List Int):Value:=.agg ⟨aV k xs⟩
def om (P:Program) (t:TypeId) (k:IntKind) (l:List Int):Value:=match gm P t with
 |some false=>.int k (l.getD 0 0)
 |_=>KO k l
theorem nu {e:TypeId} {k:IntKind} {m o:Nat} {l:List Int} (hs:cX P e=some m) (hk:(P.underlying e).isSome=true) (hm:(gm P e=some false→m=1)) (h:o+m≤l.length) (w:World):
  (part e ⟨aV k l⟩ o).run P w= .ok (om P e k ((l.drop o).take m)) w:=by
 cases hb:gm P e with
 |none=>simp [gm] at hb;simp [hb] at hk
 |some b=>
  cases b with
  |true=>simp [part,ke hb,bY hs,om,hb,KO,aV,List.extract_eq_take_drop,List.map_take,List.map_drop]
  |false=>
   have:=hm hb
   subst this
   have ho:o<l.length:=by omega
   simp [part,ke hb,om,hb,aV,List.getElem?_eq_getElem ho,List.getD]
def kX (d:Nat) (e:TypeId) (n:Nat) (xs ys:Array Value):Nat→Nat→Sem Bool
 |0,_=>pure true
 |c+1,i=>do
  let a ←part e xs (i*n)
  let b ←part e ys (i*n)
  let r ←Op.equalIn d e a b
  if (!r)=true then pure false else kX d e n xs ys c (i+1)
theorem run_equalIn_array (w:World) (d:Nat) (t e:TypeId) (len n:Nat) (xs ys:Array Value) (ht:P.underlying t=some (.array len e)) (hs:cX P e=some n):
  (Op.equalIn (d+1) t (.agg xs) (.agg ys)).run P w=(kX d e n xs ys len 0).run P w:=by
 simp only [Op.equalIn,Sem.run_bind,run_underlying ht,Result.andThen_ok,bY hs,Std.Legacy.Range.forIn_eq_forIn_range']
 have hz:Std.Legacy.Range.size [:len]=len:=by simp [Std.Legacy.Range.size]
 rw [hz]
 clear ht hz
 generalize 0=i
 induction len generalizing w i with
 |zero=>simp [kX]
 |succ len ih=>
  simp only [List.range'_succ,List.forIn_cons,kX,Sem.run_bind,Sem.run_ite]
  generalize (part e xs (i*n)).run P w=r1
  cases r1 with
  |ok a w1=>
   simp only [Result.andThen_ok]
   generalize (part e ys (i*n)).run P w1=r2
   cases r2 with
   |ok b w2=>
    simp only [Result.andThen_ok]
    generalize (Op.equalIn d e a b).run P w2=r3
    cases r3 with
    |ok r w3=>
     cases r
     ·simp only [Result.andThen_ok,Bool.not_false,if_true,Sem.run_pure]
     ·simp only [Result.andThen_ok,Bool.not_true,Bool.false_eq_true,if_false,Sem.run_pure]
      exact ih w3 (i+1)
    |halt x w3=>simp [Result.andThen]
   |halt x w2=>simp [Result.andThen]
  |halt x w1=>simp [Result.andThen]
theorem wJ:∀{d:Nat} {t:TypeId} {k:IntKind} {n:Nat},jE P d t=some (k,n)→(P.underlying t).isSome=true∧(gm P t=some false→n=1)
 |0,t,k,n,h=>by simp [jE] at h
 |d+1,t,k,n,h=>by
  unfold jE at h
  split at h
  ·rename_i k' hu;cases h;exact ⟨by simp [hu],fun _=>rfl⟩
  ·rename_i hu;exact ⟨by simp [hu],fun hq=>by simp [gm,hu] at hq⟩
  ·rename_i hu;exact ⟨by simp [hu],fun hq=>by simp [gm,hu] at hq⟩
  ·cases h
theorem pY (l m:List Int) (n:Nat):decide (l=m)=(decide (l.take n=m.take n)&&decide (l.drop n=m.drop n)):=by
 rw [Bool.eq_iff_iff]
 simp only [Bool.and_eq_true,decide_eq_true_eq]
 constructor
 ·rintro rfl;exact ⟨rfl,rfl⟩
 ·rintro ⟨h1,h2⟩;rw [←List.take_append_drop n l, ←List.take_append_drop n m,h1,h2]
def EqAt (P:Program) (d:Nat) (t:TypeId) (k:IntKind) (n:Nat):Prop:=
 ∀(d':Nat),d≤d'→∀(l m:List Int),l.length=n→m.length=n→∀w:World,(Op.equalIn d' t (om P t k l) (om P t k m)).run P w= .ok (decide (l=m)) w
theorem pZ {d d':Nat} {e:TypeId} {k:IntKind} {z:Nat} (hd:d≤d') (hs:cX P e=some z) (hf:jE P d e=some (k,z)) (ih:EqAt P d e k z) {l m:List Int} (SK:l.length=m.length) (w:World):∀(c i:Nat),(i+c)*z=l.length→
  (kX d' e z ⟨aV k l⟩ ⟨aV k m⟩ c i).run P w= .ok (decide (l.drop (i*z)=m.drop (i*z))) w
 |0,i,h=>by
  have h1:l.drop (i*z)=[]:=List.drop_eq_nil_of_le (by simp at h;omega)
  have h2:m.drop (i*z)=[]:=List.drop_eq_nil_of_le (by simp at h;omega)
  simp [kX,h1,h2]
 |c+1,i,h=>by
  obtain ⟨hk,hone⟩:=wJ hf
  have hfit:i*z+z≤l.length:=by
   rw [←h,Nat.add_mul,Nat.add_mul];omega
  have aaM:(i+1)*z=i*z+z:=by rw [Nat.add_mul];omega
  have p1:=nu (k:=k) hs hk hone hfit w
  have p2:=nu (k:=k) hs hk hone (l:=m) (o:=i*z) (by omega) w
  have q:=ih d' hd ((l.drop (i*z)).take z) ((m.drop (i*z)).take z) (by simp;omega) (by simp;omega) w
  have z7:=pZ hd hs hf ih SK w c (i+1) (by rw [←h];congr 1;omega)
  simp only [kX,Sem.run_bind,p1,p2,q,Result.andThen_ok,Sem.run_ite,z7,aaM]
  rw [pY (l.drop (i*z)) (m.drop (i*z)) z,List.drop_drop,List.drop_drop]
  cases decide ((l.drop (i*z)).take z=(m.drop (i*z)).take z)<;>simp
theorem oo {d d':Nat} {k:IntKind} (hd:d≤d') (ih:∀(t:TypeId) (n:Nat),jE P d t=some (k,n)→EqAt P d t k n) {l m:List Int} (SK:l.length=m.length) (w:World):∀(fs:List Field) (a:Nat) (k':IntKind),oJ P (fun t=>jE P d t) k a fs=some (k',l.length)→
  k'=k∧a≤l.length∧(Op.eqFields d' ⟨aV k l⟩ ⟨aV k m⟩ fs).run P w= .ok (decide (l.drop a=m.drop a)) w
 | [],a,k',h=>by
  simp only [oJ,Option.some.injEq,Prod.mk.injEq] at h
  obtain ⟨rfl,rfl⟩:=h
  refine ⟨rfl,Nat.le_refl _,?_⟩
  have h1:l.drop l.length=[]:=List.drop_eq_nil_of_le (Nat.le_refl _)
  have h2:m.drop l.length=[]:=List.drop_eq_nil_of_le (by omega)
  simp [Op.eqFields,h1,h2]
 |f::fs,a,k',h=>by
  simp only [oJ] at h
  split at h
  ·rename_i k2 z hf
   split at h
   ·rename_i hc
    obtain ⟨rfl,hname,hoff,hs⟩:=hc
    obtain ⟨hkk,hle,z7⟩:=oo hd ih SK w fs (a+z) k' h
    obtain ⟨hk,hone⟩:=wJ hf
    have p1:=nu hs hk hone (l:=l) (o:=a) (k:=k2) (by omega) w
    have p2:=nu hs hk hone (l:=m) (o:=a) (k:=k2) (by omega) w
    have q:=ih f.type z hf d' hd ((l.drop a).take z) ((m.drop a).take z) (by simp;omega) (by simp;omega) w
    refine ⟨hkk,by omega,?_⟩
    simp only [Op.eqFields,hname,ne_eq,not_false_eq_true,if_true,hoff,Sem.run_bind,p1,p2,q,Result.andThen_ok,Sem.run_ite,z7]
    rw [pY (l.drop a) (m.drop a) z,List.drop_drop,List.drop_drop]
    cases decide ((l.drop a).take z=(m.drop a).take z)<;>simp
   ·cases h
  ·cases h
theorem oN:∀(d:Nat) (t:TypeId) (k:IntKind) (n:Nat),jE P d t=some (k,n)→EqAt P d t k n
 |0,t,k,n,h=>by simp [jE] at h
 |d+1,t,k,n,h=>by
  intro d' hd l m hl hm w
  obtain ⟨d',rfl⟩:∃e,d'=e+1:=⟨d'-1,by omega⟩
  unfold jE at h
  split at h
  ·rename_i k' hu
   cases h
   have hb:gm P t=some false:=by simp [gm,hu]
   match l,hl,m,hm with
   | [a],_,[b],_=>
    simp only [om,hb,List.getD_cons_zero]
    rw [run_equalIn_int w d' t k k a b hu]
    by_cases hab:a=b<;>simp [hab]
  ·rename_i len e hu
   have hb:gm P t=some true:=by simp [gm,hu]
   split at h
   ·rename_i k2 z hf
    split at h
    ·rename_i hs
     simp only [Option.some.injEq,Prod.mk.injEq] at h
     obtain ⟨rfl,rfl⟩:=h
     simp only [om,hb,KO]
     rw [run_equalIn_array w d' t e len z _ _ hu hs]
     have:=pZ (d:=d) (d':=d') (by omega) hs hf (oN d e k2 z hf) (l:=l) (m:=m) (by omega) w len 0 (by simp [hl])
     simpa using this
    ·cases h
   ·cases h
  ·rename_i fs hu
   have hb:gm P t=some true:=by simp [gm,hu]
   split at h
   ·cases h
   ·rename_i hst
    split at h
    ·cases h
    ·rename_i f rest Oz
     split at h
     ·rename_i k2 z hf
      split at h
      ·rename_i hc
       obtain ⟨hname,hoff,hs⟩:=hc
       have Ei:P.fieldsOf t=fs:=by simp [Program.fieldsOf,hu]
       have h':oJ P (fun t=>jE P d t) k2 0 (f::rest)=some (k,l.length):=by
        simp only [oJ,hf,hoff,hs,hname,ne_eq,not_false_eq_true,and_self,if_true,Nat.zero_add]
        rw [h,hl]
       obtain ⟨hk,_,hrun⟩:=oo (d:=d) (d':=d') (by omega) (fun t n ht=>oN d t k2 n ht) (l:=l) (m:=m) (by omega) w (f::rest) 0 k h'
       subst hk
       simp only [om,hb,KO]
       rw [run_equalIn_struct w d' t _ _ (by rw [Ei];exact hu) (by simpa using hst),Ei,Oz,hrun]
       simp
      ·cases h
     ·cases h
  ·cases h
theorem jH {k:IntKind}:∀{ps:List SV} {l:List Int} {ys:List Value},uu k ps=some (l,true)→PR e ps ys→ys=aV k l∧l.length=aA ps
 | [],l,ys,h,g=>by
  simp only [uu,Option.some.injEq,Prod.mk.injEq,and_true] at h
  subst h
  rw [PR] at g;subst g
  exact ⟨rfl,rfl⟩
 |x::xs,l,ys,h,g=>by
  unfold uu at h
  split at h
  ·rename_i h1;cases h1
  ·rename_i k' n zs ps h1
   cases h1
   obtain ⟨us,h2,rfl⟩:=g
   split at h
   ·rename_i hk
    subst hk
    split at h
    ·rename_i afG
     simp only [Option.some.injEq,Prod.mk.injEq,decide_eq_true_eq] at h
     obtain ⟨rfl,h⟩:=h
     have:xs=[]:=by simpa using afG
     subst this
     rw [PR] at h2;subst h2
     exact ⟨by rw [aJ h,List.append_nil],by simp [aA,sE,h]⟩
    ·obtain ⟨⟨q1,q2⟩,h3,h4⟩:=Option.map_eq_some_iff.1 h
     simp only [Prod.mk.injEq,au,decide_eq_true_eq] at h4
     obtain ⟨rfl,h5,rfl⟩:=h4
     obtain ⟨h6,h7⟩:=jH h3 h2
     exact ⟨by rw [h6,aJ h5,eP],by simp [aA,sE,h5,h7]⟩
   ·cases h
  ·rename_i k' n ps h1
   cases h1
   obtain ⟨y,us,hy,h2,rfl⟩:=(PR.cons rfl).1 g
   rw [VR] at hy;subst hy
   split at h
   ·rename_i hk
    subst hk
    obtain ⟨⟨q1,q2⟩,h3,h4⟩:=Option.map_eq_some_iff.1 h
    simp only [Prod.mk.injEq] at h4
    obtain ⟨rfl,rfl⟩:=h4
    obtain ⟨h6,h7⟩:=jH h3 h2
    exact ⟨by rw [h6];rfl,by simp [aA,sE,h7];omega⟩
   ·cases h
  ·cases h
theorem p5 {op:BinOp} {b:Bool} {v:SV} (h:fh op b=some v):(op= .eql∧v= .bool b)∨(op= .neq∧v= .bool !b):=by
 unfold fh at h
 split at h
 ·cases h;exact .inl ⟨rfl,rfl⟩
 ·cases h;exact .inr ⟨rfl,rfl⟩
 ·cases h
theorem ir {op:BinOp} {T:TypeId} {b:Bool} {v:SV} {a' b':Value} {x y:Operand} (h:fh op b=some v) (hg:(eqGuard op T x y a' b').run P w= .ok () w)
  (hq:∀op',op'= .eql∨op'= .neq→binOp op' T a' b'=(match op' with| .eql=>do pure (.bool (←Op.equal T a' b'))|_=>do pure (.bool (!(←Op.equal T a' b'))):Sem Value))
  (hr:(Op.equal T a' b').run P w= .ok b w):∃v',(do eqGuard op T x y a' b';binOp op T a' b':Sem Value).run P w= .ok v' w∧VR e v v':=by
 rcases p5 h with ⟨rfl,rfl⟩|⟨rfl,rfl⟩
 ·refine ⟨_,?_,rfl⟩
  rw [Sem.run_bind,hg,Result.andThen_ok,hq _ (.inl rfl)]
  simp [hr]
 ·refine ⟨_,?_,rfl⟩
  rw [Sem.run_bind,hg,Result.andThen_ok,hq _ (.inr rfl)]
  simp [hr]
end
end Go.Sy
namespace Go.Sy
open Go
section
variable {P:Program} {e:Env} {w:World}
theorem PJ {s t:ByteArray}:(gV s=gV t)↔s=t:=by
 constructor
 ·intro h
  have h1:s.data.toList=t.data.toList:=by
   unfold gV at h
   have key:∀(a b:List UInt8),(a.map fun x=>(x.toNat:Int))=(b.map fun x=>(x.toNat:Int))→a=b:=by
    intro a
    induction a with
    |nil=>intro b hb;cases b<;>simp_all
    |cons x xs ih=>
     intro b hb
     cases b with
     |nil=>simp at hb
     |cons y ys=>
      simp only [List.map_cons,List.cons.injEq] at hb
      have hxy:x=y:=UInt8.toNat.inj (by omega)
      rw [hxy,ih ys hb.2]
   exact key _ _ h
  cases s;cases t
  congr
  exact Array.ext' h1
 ·rintro rfl;rfl
theorem Gb {d:Nat} {T:TypeId} {a b:Bool} (hu:P.underlying T=some .bool):(Op.equalIn (d+1) T (.bool a) (.bool b)).run P w= .ok (a==b) w:=by simp [Op.equalIn,run_underlying hu]
theorem KP {d:Nat} {T el:TypeId} {a:Addr} (hu:P.underlying T=some (.pointer el)):(Op.equalIn (d+1) T (.pointer (some a)) (.pointer none)).run P w= .ok false w:=by simp [Op.equalIn,run_underlying hu]
theorem Aj {d:Nat} {T el:TypeId} (hu:P.underlying T=some (.pointer el)):(Op.equalIn (d+1) T (.pointer none) (.pointer none)).run P w= .ok true w:=by simp [Op.equalIn,run_underlying hu]
theorem wK {d:Nat} {T:TypeId} {ms} (hu:P.underlying T=some (.interface ms)):(Op.equalIn (d+1) T .nilIface .nilIface).run P w= .ok true w:=by simp [Op.equalIn,run_underlying hu]
theorem Gc {d:Nat} {T t:TypeId} {v:Value} {ms} (hu:P.underlying T=some (.interface ms)):(Op.equalIn (d+1) T (.iface t v) .nilIface).run P w= .ok false w:=by simp [Op.equalIn,run_underlying hu]
theorem Gd {d:Nat} {T t:TypeId} {v:Value} {ms} (hu:P.underlying T=some (.interface ms)):(Op.equalIn (d+1) T .nilIface (.iface t v)).run P w= .ok false w:=by simp [Op.equalIn,run_underlying hu]
theorem Ge {d:Nat} {T t:TypeId} {k k0:IntKind} {a b:Int} {ms i} (hu:P.underlying T=some (.interface ms)) (SL:P.underlying t=some (.int k0)) (hi:P.info? t=some i) (hc:i.comparable=true):
  (Op.equalIn (d+1+1) T (.iface t (.int k a)) (.iface t (.int k b))).run P w= .ok (a==b) w:=by
 have h1:(Op.equalIn (d+1) t (.int k a) (.int k b)).run P w= .ok (a==b) w:=by simp [Op.equalIn,run_underlying SL]
 rw [Op.equalIn]
 simp [run_underlying hu,typeInfo,hi,hc,h1]
theorem oO {d:Nat} {T el:TypeId} {a:Option Addr} {n c:Nat} (hu:P.underlying T=some (.slice el)):(Op.equalIn (d+1) T (.slice a n c) (.slice none 0 0)).run P w= .ok a.isNone w:=by cases a<;>simp [Op.equalIn,run_underlying hu]
theorem Gf {op:BinOp} {T:TypeId} {x y:Operand} {a b v:SV} {a' b':Value} (h:y8 P op T x y a b=some (v,true)) (ha:VR e a a') (hb:VR e b b'):
  ∃v',(do eqGuard op T x y a' b';binOp op T a' b':Sem Value).run P w= .ok v' w∧VR e v v':=by
 unfold y8 at h
 split at h
 ·-- VY
  rename_i cs ds
  split at h
  ·cases h
  ·rename_i hg
   split at h
   ·rename_i k n hf
    split at h
    ·rename_i l p m q hl hm
     split at h
     ·rename_i hn
      obtain ⟨u,hu,h2⟩:=Option.map_eq_some_iff.1 h
      simp only [Prod.mk.injEq,au] at h2
      obtain ⟨rfl,rfl,rfl⟩:=h2
      obtain ⟨ys,hys,rfl⟩:=ha.mJ
      obtain ⟨zs,hzs,rfl⟩:=hb.mJ
      obtain ⟨rfl,hln⟩:=jH hl hys
      obtain ⟨rfl,hmn⟩:=jH hm hzs
      simp only [Bool.or_eq_true,beq_iff_eq,not_or,Bool.not_eq_true] at hg
      refine ir hu (run_eqGuard_agg (P:=P) w op T x y ⟨aV k l⟩ ⟨aV k m⟩ hg.1) (fun op' ho=>by rcases ho with rfl|rfl<;>rfl) ?_
      have:=oN 20 T k n hf 10000 (by omega) l m (by omega) (by omega) w
      have hv:∀z:List Int,om P T k z=KO k z:=fun z=>by
       unfold om
       split
       ·rename_i h1;exact absurd h1 hg.2
       ·rfl
      rwa [hv,hv] at this
     ·cases h
    ·cases h
   ·cases h
 ·-- air
  rename_i a b
  rw [VR] at ha hb;subst ha hb
  split at h
  ·rename_i hu
   obtain ⟨u,pE,h2⟩:=Option.map_eq_some_iff.1 h
   simp only [Prod.mk.injEq,and_true] at h2;subst h2
   exact ir pE (by unfold eqGuard;split<;>simp) (fun op' ho=>by rcases ho with rfl|rfl<;>rfl) (Gb (d:=9999) hu)
  ·cases h
 ·-- strings
  rename_i a b
  obtain ⟨s,rfl,rfl⟩:=ha
  obtain ⟨t,rfl,rfl⟩:=hb
  obtain ⟨u,pE,h2⟩:=Option.map_eq_some_iff.1 h
  simp only [Prod.mk.injEq,and_true] at h2;subst h2
  have hg:(eqGuard op T x y (.string s) (.string t)).run P w= .ok () w:=by unfold eqGuard;split<;>simp
  have hd:decide (gV s=gV t)=(s.toList==t.toList):=by
   rw [Bool.eq_iff_iff,decide_eq_true_eq,PJ,beq_iff_eq]
   constructor
   ·rintro rfl;rfl
   ·intro h
    rw [ByteArray.toList_eq,ByteArray.toList_eq] at h
    cases s;cases t;congr;exact Array.ext' h
  rcases p5 pE with ⟨rfl,rfl⟩|⟨rfl,rfl⟩
  ·exact ⟨_,by rw [Sem.run_bind,hg,Result.andThen_ok];rfl,by rw [hd];rfl⟩
  ·exact ⟨_,by rw [Sem.run_bind,hg,Result.andThen_ok];rfl,by rw [hd];rfl⟩
 ·-- an address, nil
  obtain ⟨p,_,rfl⟩:=ha
  rw [VR] at hb;subst hb
  split at h
  ·rename_i hu
   obtain ⟨u,pE,h2⟩:=Option.map_eq_some_iff.1 h
   simp only [Prod.mk.injEq,and_true] at h2;subst h2
   exact ir pE (by unfold eqGuard;split<;>simp) (fun op' ho=>by rcases ho with rfl|rfl<;>rfl) (KP (d:=9999) hu)
  ·cases h
 ·rw [VR] at ha hb;subst ha hb
  split at h
  ·rename_i hu
   obtain ⟨u,pE,h2⟩:=Option.map_eq_some_iff.1 h
   simp only [Prod.mk.injEq,and_true] at h2;subst h2
   exact ir pE (by unfold eqGuard;split<;>simp) (fun op' ho=>by rcases ho with rfl|rfl<;>rfl) (Aj (d:=9999) hu)
  ·cases h
 ·-- two aka
  rw [VR] at ha hb;subst ha hb
  have hg:∀z:Value,(x= .const z∨y= .const z)→(eqGuard op T x y .nilIface .nilIface).run P w= .ok () w:=fun z hz=>by
   unfold eqGuard
   rcases hz with rfl|rfl<;>split<;>simp
  split at h
  ·rename_i hu
   obtain ⟨u,pE,h2⟩:=Option.map_eq_some_iff.1 h
   simp only [Prod.mk.injEq,and_true] at h2;subst h2
   exact ir pE (hg _ (.inl rfl)) (fun op' ho=>by rcases ho with rfl|rfl<;>rfl) (wK (d:=9999) hu)
  ·rename_i hu _
   obtain ⟨u,pE,h2⟩:=Option.map_eq_some_iff.1 h
   simp only [Prod.mk.injEq,and_true] at h2;subst h2
   exact ir pE (hg _ (.inr rfl)) (fun op' ho=>by rcases ho with rfl|rfl<;>rfl) (wK (d:=9999) hu)
  ·cases h
 ·obtain ⟨z,_,rfl⟩:=ha
  rw [VR] at hb;subst hb
  split at h
  ·rename_i hu
   obtain ⟨u,pE,h2⟩:=Option.map_eq_some_iff.1 h
   simp only [Prod.mk.injEq,and_true] at h2;subst h2
   exact ir pE (by unfold eqGuard;split<;>simp) (fun op' ho=>by rcases ho with rfl|rfl<;>rfl) (Gc (d:=9999) hu)
  ·cases h
 ·obtain ⟨z,_,rfl⟩:=hb
  rw [VR] at ha;subst ha
  split at h
  ·rename_i hu
   obtain ⟨u,pE,h2⟩:=Option.map_eq_some_iff.1 h
   simp only [Prod.mk.injEq,and_true] at h2;subst h2
   exact ir pE (by unfold eqGuard;split<;>simp) (fun op' ho=>by rcases ho with rfl|rfl<;>rfl) (Gd (d:=9999) hu)
  ·cases h
 ·rename_i t k a t' k' b
  obtain ⟨z,hz,rfl⟩:=ha
  obtain ⟨z',j4,rfl⟩:=hb
  rw [VR] at hz j4;subst hz j4
  split at h
  ·rename_i hu SL
   split at h
   ·rename_i hcmp
    split at h
    ·rename_i htk
     obtain ⟨rfl,rfl⟩:=htk
     obtain ⟨u,pE,h2⟩:=Option.map_eq_some_iff.1 h
     simp only [Prod.mk.injEq,and_true] at h2;subst h2
     obtain ⟨i,hi,hic⟩:=Option.map_eq_some_iff.1 hcmp
     exact ir pE (by unfold eqGuard;split<;>simp) (fun op' ho=>by rcases ho with rfl|rfl<;>rfl) (Ge (d:=9998) hu SL hi hic)
    ·cases h
   ·cases h
  ·cases h
 ·-- a slice, nil
  rw [VR] at hb;subst hb
  split at h
  ·rename_i hu
   obtain ⟨u,pE,h2⟩:=Option.map_eq_some_iff.1 h
   simp only [Prod.mk.injEq,decide_eq_true_eq] at h2
   obtain ⟨rfl,h0⟩:=h2
   rcases ha with ⟨h1,_⟩|⟨n,o,cap,c,t,fr,rfl,_⟩
   ·rw [h1] at h0;simp at h0
   ·exact ir pE (by unfold eqGuard;split<;>simp) (fun op' ho=>by rcases ho with rfl|rfl<;>rfl) (oO (d:=9999) hu)
  ·cases h
 ·rw [VR] at hb;subst hb
  split at h
  ·rename_i hu
   obtain ⟨u,pE,h2⟩:=Option.map_eq_some_iff.1 h
   simp only [Prod.mk.injEq,decide_eq_true_eq] at h2
   obtain ⟨rfl,h0⟩:=h2
   rcases ha with ⟨h1,_⟩|⟨p,cap',a,_,rfl,_⟩
   ·rw [h1] at h0;omega
   ·exact ir pE (by unfold eqGuard;split<;>simp) (fun op' ho=>by rcases ho with rfl|rfl<;>rfl) (oO (d:=9999) hu)
  ·cases h
 ·rw [VR] at ha hb;subst ha hb
  split at h
  ·rename_i hu
   obtain ⟨u,pE,h2⟩:=Option.map_eq_some_iff.1 h
   simp only [Prod.mk.injEq,and_true] at h2;subst h2
   exact ir pE (by unfold eqGuard;split<;>simp) (fun op' ho=>by rcases ho with rfl|rfl<;>rfl) (oO (d:=9999) hu)
  ·cases h
 ·cases h
theorem Gg {op:UnOp} {a v:SV} {a':Value} (h:unS op a=some v) (ha:VR e a a'):∃v',(Op.unary op a').run P w= .ok v' w∧VR e v v':=by
 unfold unS at h
 split at h
 ·cases h;rw [VR] at ha;subst ha;exact ⟨_,by simp [Op.unary,Op.intArith],rfl⟩
 ·cases h;rw [VR] at ha;subst ha;exact ⟨_,by simp [Op.unary,Op.intBits,cj,ja],rfl⟩
 ·cases h;rw [VR] at ha;subst ha;exact ⟨_,by simp [Op.unary],rfl⟩
 ·cases h
theorem rZ {src dst:TypeId} {a v:SV} {a':Value} (h:Ee P src dst a=some v) (ha:VR e a a'):∃v',(convert src dst a').run P w= .ok v' w∧VR e v v':=by
 unfold Ee at h
 split at h
 ·rename_i k n
  rw [VR] at ha;subst ha
  split at h
  ·rename_i s k' hs hd
   cases h
   refine ⟨_,?_,rfl⟩
   simp [convert,run_underlying hs,run_underlying hd,Conv.intToInt]
  ·cases h
 ·rename_i xs
  obtain ⟨s,rfl,rfl⟩:=ha
  split at h
  ·rename_i hs hd
   cases h
   exact ⟨_,by simp [convert,run_underlying hs,run_underlying hd],s,rfl,rfl⟩
  ·cases h
 ·cases h
theorem mM {t:TypeId} {ps:List SV} {ys:List Value} {o i:Nat} {v:SV} (h:Ab P t ps o i=some (v,true)) (hl:PR e ps ys):
  ∃v',(part t ⟨ys⟩ (o+i)).run P w= .ok v' w∧VR e v v':=by
 unfold Ab at h
 split at h
 ·rename_i fT
  split at h
  ·rename_i n hn
   obtain ⟨q,h1,h2⟩:=Option.map_eq_some_iff.1 h
   simp only [Prod.mk.injEq,and_true] at h2;subst h2
   obtain ⟨h3,h4⟩:=oI h1 hl
   exact ⟨.agg ⟨(ys.drop o).take n⟩,by simp [part,ke fT,bY hn,List.extract_eq_take_drop],_,h3,rfl⟩
  ·cases h
 ·rename_i fT
  obtain ⟨y,hy,hv⟩:=fC h hl
  refine ⟨y,?_,hv⟩
  simp only [part,Sem.run_bind,ke fT,Result.andThen_ok]
  have hlt:=(List.getElem?_eq_some_iff.1 hy).1
  have:ys[o+i]=y:=(List.getElem?_eq_some_iff.1 hy).2
  simp [hlt,this]
 ·cases h
theorem xZ {t:TypeId} {i:Nat} {a v:SV} {a':Value} (h:Cb P t i a=some (v,true)) (ha:VR e a a'):∃v',(Instr.field t a' i).run P w= .ok v' w∧VR e v v':=by
 unfold Cb at h
 split at h
 ·rename_i ps
  obtain ⟨ys,hys,rfl⟩:=ha.mJ
  split at h
  ·rename_i fs hu
   split at h
   ·rename_i f hf
    obtain ⟨v',hr,hv⟩:=mM (w:=w) h hys
    refine ⟨v',?_,hv⟩
    have hf':fs[i]? =some f:=by simpa using hf
    simp only [Instr.field,Sem.run_bind,run_underlying hu,Result.andThen_ok,hf']
    simpa [asAgg] using hr
   ·cases h
  ·cases h
 ·cases h
theorem mN {a:Addr} {f:Field} {z:Nat} (hz:cX P f.type=some (z+1)):(fieldPlace a f).run P w= .ok (a.add f.offset) w:=by
 simp [fieldPlace,bY hz]
theorem qV {t:TypeId} {i:Nat} {a v:SV} {a':Value} (h:oK P t i a=some v) (ha:VR e a a'):∃v',(Instr.fieldAt t a' i).run P w= .ok v' w∧VR e v v':=by
 unfold oK at h
 split at h
 ·rename_i fs hu
  split at h
  ·rename_i f hf
   have hf':fs[i]? =some f:=by simpa using hf
   split at h
   ·rename_i z hz
    split at h
    ·rename_i b o j
     cases h
     obtain ⟨p,hp,rfl⟩:=ha
     refine ⟨.pointer (some ⟨p.n,p.base+(o+f.offset+j),none⟩),?_,p,hp,rfl⟩
     simp only [Instr.fieldAt,Sem.run_bind,run_underlying hu,Result.andThen_ok,hf',Instr.sureAddr,Sem.run_pure,mN hz,fm]
     rw [show p.base+(o+j)+f.offset=p.base+(o+f.offset+j) by omega]
    ·rename_i f0 z0 len c el o j
     cases h
     obtain ⟨n,o0,c,t',fr,rfl,h2,h3,h4⟩:=ha
     refine ⟨.pointer (some ⟨n,o0+el*z0+(o+f.offset+j),none⟩),?_,n,o0,c,t',fr,rfl,h2,h3,h4⟩
     simp only [Instr.fieldAt,Sem.run_bind,run_underlying hu,Result.andThen_ok,hf',Instr.sureAddr,Sem.run_pure,mN hz,fm]
     rw [show o0+el*z0+(o+j)+f.offset=o0+el*z0+(o+f.offset+j) by omega]
    ·cases h
   ·cases h
  ·cases h
 ·cases h
theorem iO {i:Int} {n:Nat}:cK i n=true↔0≤i∧i<n:=by simp [cK]
theorem VR.KQ {b o i z len cap:Nat} {ex wh:Bool} {a':Value} {ix:Int} (ha:VR e (.sl b o i z len cap ex wh) a') (hb:cK ix len=true):
  ∃p cap',e.r b=some p∧a'= .slice (some ⟨p.n,p.base+(o+i*z),none⟩) len cap':=by
 rw [iO] at hb
 rcases ha with ⟨h1,_⟩|⟨p,cap',a,hp,h1,h2,_,_,h3,_⟩
 ·omega
 ·have:=h2 (by omega)
  subst this
  exact ⟨p,cap',hp,h1⟩
theorem eg {t el:TypeId} {n len cap:Nat} {x:Addr} {k:IntKind} {ix:Int} {z:Nat} (hu:P.underlying t=some (.slice el)) (hz:cX P el=some z) (hb:cK ix len=true) (hx:x=⟨n,x.off,none⟩):
  (Instr.indexAt t (.slice (some x) len cap) (.int k ix)).run P w= .ok (.pointer (some ⟨n,x.off+ix.toNat*z,none⟩)) w:=by
 rw [iO] at hb
 have h1:x.add (ix.toNat*z)=⟨n,x.off+ix.toNat*z,none⟩:=by
  have:=fm n x.off (ix.toNat*z)
  rwa [←hx] at this
 simp [Instr.indexAt,asIntOf,run_underlying hu,hb,bY hz,h1]
theorem gN {t el:TypeId} {n len o:Nat} {k:IntKind} {ix:Int} {z:Nat} (hu:P.underlying t=some (.array len el)) (hz:cX P el=some z) (hb:cK ix len=true):
  (Instr.indexAt t (.pointer (some ⟨n,o,none⟩)) (.int k ix)).run P w= .ok (.pointer (some ⟨n,o+ix.toNat*z,none⟩)) w:=by
 rw [iO] at hb
 simp [Instr.indexAt,asIntOf,run_underlying hu,hb,bY hz,fm,Instr.sureAddr]
theorem qW {t:TypeId} {a ix v:SV} {a' ix':Value} (h:oL P t a ix=some (v,true)) (ha:VR e a a') (hi:VR e ix ix'):
  ∃v',(Instr.indexAt t a' ix').run P w= .ok v' w∧VR e v v':=by
 unfold oL at h
 split at h
 ·rename_i k i
  rw [VR] at hi;subst hi
  split at h
  ·rename_i len el b o j hu
   obtain ⟨p,hp,rfl⟩:=ha
   split at h
   ·rename_i hz
    simp only [Option.some.injEq,Prod.mk.injEq] at h
    obtain ⟨rfl,hb⟩:=h
    exact ⟨_,gN hu hz hb,p,hp,by congr 3;omega⟩
   ·rename_i n _ hz
    simp only [Option.some.injEq,Prod.mk.injEq] at h
    obtain ⟨rfl,hb⟩:=h
    exact ⟨_,gN hu hz hb,p,hp,by congr 3;omega⟩
   ·cases h
  ·rename_i len el f z l c e0 o j hu
   obtain ⟨n,o0,c,t',fr,rfl,h2,h3,h4⟩:=ha
   split at h
   ·rename_i hz
    simp only [Option.some.injEq,Prod.mk.injEq] at h
    obtain ⟨rfl,hb⟩:=h
    exact ⟨_,gN hu hz hb,n,o0,c,t',fr,by congr 3;omega,h2,h3,h4⟩
   ·rename_i m _ hz
    simp only [Option.some.injEq,Prod.mk.injEq] at h
    obtain ⟨rfl,hb⟩:=h
    exact ⟨_,gN hu hz hb,n,o0,c,t',fr,by congr 3;omega,h2,h3,h4⟩
   ·cases h
  ·rename_i el b o j len cap ex wh hu
   split at h
   ·rename_i hz
    split at h
    ·simp only [Option.some.injEq,Prod.mk.injEq] at h
     obtain ⟨rfl,hb⟩:=h
     obtain ⟨p,cap',hp,rfl⟩:=ha.KQ hb
     exact ⟨_,eg (n:=p.n) hu hz hb rfl,p,hp,by simp only [];congr 3;omega⟩
    ·simp only [Option.some.injEq,Prod.mk.injEq] at h
     obtain ⟨rfl,hb⟩:=h
     obtain ⟨p,cap',hp,rfl⟩:=ha.KQ hb
     exact ⟨_,eg (n:=p.n) hu hz hb rfl,p,hp,by simp only [];congr 3;omega⟩
   ·cases h
  ·rename_i el b o j z len cap ex wh hne hu
   split at h
   ·rename_i n hz
    split at h
    ·rename_i hnz
     subst hnz
     simp only [Option.some.injEq,Prod.mk.injEq] at h
     obtain ⟨rfl,hb⟩:=h
     obtain ⟨p,cap',hp,rfl⟩:=ha.KQ hb
     refine ⟨_,eg (n:=p.n) hu hz hb rfl,p,hp,?_⟩
     simp only [];congr 3;rw [Nat.add_mul];omega
    ·cases h
   ·cases h
  ·rename_i el f k' xs hu
   split at h
   ·rename_i hz
    simp only [Option.some.injEq,Prod.mk.injEq] at h
    obtain ⟨rfl,hb⟩:=h
    have hb':=iO.1 hb
    rcases ha with ⟨h1,_⟩|⟨n,o,cap,c,t',fr,rfl,h2,_,h3,_⟩
    ·subst h1;simp at hb';omega
    ·exact ⟨_,eg (n:=n) hu hz hb rfl,n,o,c,t',fr,by simp,h2,h3⟩
   ·cases h
  ·rename_i el f xss hu
   split at h
   ·rename_i hz
    simp only [Option.some.injEq,Prod.mk.injEq] at h
    obtain ⟨rfl,hb⟩:=h
    have hb':=iO.1 hb
    rcases ha with ⟨h1,_⟩|⟨n,o,cap,c,t',fr,rfl,h2,_,h3,_⟩
    ·subst h1;simp at hb';omega
    ·exact ⟨_,eg (n:=n) hu hz hb rfl,n,o,c,t',fr,by simp,h2,h3⟩
   ·cases h
  ·rename_i el f z len g hu
   split at h
   ·rename_i n0 hz
    split at h
    ·rename_i hnz
     subst hnz
     simp only [Option.some.injEq,Prod.mk.injEq] at h
     obtain ⟨rfl,hb⟩:=h
     have hb':=iO.1 hb
     rcases ha with ⟨h1,_⟩|⟨n,o,cap,c,t',fr,rfl,h2,_,h3,h4,h5⟩
     ·omega
     ·have hle:=Nat.mul_le_mul_right n0 h4
      exact ⟨_,eg (n:=n) hu hz hb rfl,n,o,c,t',fr,by simp,h2,h3,by omega⟩
    ·cases h
   ·cases h
  ·cases h
 ·cases h
theorem x5 {t:TypeId} {a ix v:SV} {a' ix':Value} (h:Cd P t a ix=some (v,true)) (ha:VR e a a') (hi:VR e ix ix'):∃v',(Instr.index t a' ix').run P w= .ok v' w∧VR e v v':=by
 unfold Cd at h
 split at h
 ·rename_i k i ps
  rw [VR] at hi;subst hi
  obtain ⟨ys,hys,rfl⟩:=ha.mJ
  split at h
  ·rename_i len el hu
   split at h
   ·rename_i k' hk hz
    obtain ⟨⟨q1,q2⟩,h1,h2⟩:=Option.map_eq_some_iff.1 h
    simp only [Prod.mk.injEq,Bool.and_eq_true] at h2
    obtain ⟨rfl,rfl,hb⟩:=h2
    rw [iO] at hb
    have fT:gm P el=some false:=by simp [gm,kf hk]
    obtain ⟨v',hr,hv⟩:=mM (P:=P) (w:=w) (t:=el) (o:=0) (i:=i.toNat) (v:=q1) (by simp only [Ab,fT];exact h1) hys
    refine ⟨v',?_,hv⟩
    simp [Instr.index,asIntOf,run_underlying hu,hb,bY hz]
    simpa using hr
   ·rename_i n hk hz
    obtain ⟨⟨q1,q2⟩,h1,h2⟩:=Option.map_eq_some_iff.1 h
    simp only [Prod.mk.injEq,Bool.and_eq_true] at h2
    obtain ⟨rfl,rfl,hb⟩:=h2
    rw [iO] at hb
    obtain ⟨v',hr,hv⟩:=mM (w:=w) h1 hys
    refine ⟨v',?_,hv⟩
    simp [Instr.index,asIntOf,run_underlying hu,hb,bY hz]
    simpa using hr
   ·cases h
  ·cases h
 ·rename_i k i xs
  rw [VR] at hi;subst hi
  obtain ⟨s,rfl,rfl⟩:=ha
  split at h
  ·rename_i hu
   simp only [Option.some.injEq,Prod.mk.injEq] at h
   obtain ⟨rfl,hb⟩:=h
   rw [iO] at hb
   have hlen:(gV s).length=s.size:=by unfold gV;rw [List.length_map,Array.length_toList];rfl
   have hlt:i.toNat<s.size:=by omega
   refine ⟨.int .u8 (s[i.toNat]).toNat,?_,?_⟩
   ·have h1:(if 0≤i then s[i.toNat]? else none)=some (s[i.toNat]):=by rw [if_pos hb.1,getElem?_pos s i.toNat hlt]
    unfold Instr.index
    rw [Sem.run_bind,show (asIntOf (.int k i):Sem (IntKind×Int))=pure (k,i) from rfl,Sem.run_pure,Result.andThen_ok]
    simp only []
    rw [Sem.run_bind,run_underlying hu,Result.andThen_ok]
    simp only [h1]
    rfl
   ·have h3:i.toNat<s.data.toList.length:=by simpa using hlt
    have:(gV s).getD i.toNat 0=((s[i.toNat]).toNat:Int):=by
     rw [gV,List.getD,List.getElem?_map,List.getElem?_eq_getElem h3]
     rfl
    rw [this];rfl
  ·cases h
 ·cases h
end
end Go.Sy
namespace Go.Sy
open Go
section
variable {P:Program} {e:Env} {B:dA} {h:List Blk} {w:World}
def VP (e:Env):List (Nat×SV)→List (Nat×Value)→Prop
 | [],ys=>ys=[]
 |(i,x)::xs,ys=>∃y zs,VR e x y∧VP e xs zs∧ys=(i,y)::zs
theorem p6 (o:Nat):∀(l:List Value) (i:Nat) (cs:Array Value),o+i+l.length≤cs.size→
  ((l.zipIdx i).foldl (fun cs (x:Value×Nat)=>cs.setIfInBounds (o+x.2) x.1) cs).toList=cs.toList.take (o+i)++l++cs.toList.drop (o+i+l.length)
 | [],i,cs,_=>by simp
 |x::l,i,cs,hle=>by
  simp only [List.length_cons] at hle
  simp only [List.zipIdx_cons,List.foldl_cons]
  rw [p6 o l (i+1) _ (by simp;omega)]
  have q:=list_seg_step cs.toList (o+i) x l (by simp;omega)
  simpa [Array.toList_setIfInBounds,Nat.add_assoc] using q
theorem VR.cellsOf {v:SV} {v':Value} (hv:VR e v v') (ho:one v=true):v'.cells= #[v']:=by
 have:=hv.pW ho
 cases v'<;>first|rfl|cases this
theorem x6 {ps qs:List SV} {o n:Nat} {v:SV} {v':Value} {cs:Array Value} (hp:B9 ps o n v=some (qs,true)) (g:PR e ps cs.toList) (hv:VR e v v'):
  v'.cells.size=n∧o+n≤cs.size∧PR e qs (cs.toList.take o++v'.cells.toList++cs.toList.drop (o+n)):=by
 unfold B9 at hp
 split at hp
 ·rename_i q
  split at hp
  ·rename_i hq
   obtain ⟨ps',h1,h2⟩:=Option.map_eq_some_iff.1 hp
   simp only [Prod.mk.injEq,and_true] at h2;subst h2
   obtain ⟨ys,hys,rfl⟩:=hv.mJ
   obtain ⟨h3,h4⟩:=uo h1 g hys
   have:=hys.length
   exact ⟨by show ys.length=n;omega,by simpa using h4,h3⟩
  ·cases hp
 ·split at hp
  ·rename_i hc
   simp only [Bool.and_eq_true,decide_eq_true_eq] at hc
   obtain ⟨rfl,ho⟩:=hc
   obtain ⟨h3,h4⟩:=kS hp g hv
   rw [Nat.add_zero] at h3 h4
   have hc:=hv.cellsOf ho
   refine ⟨by rw [hc];rfl,by simp at h4;omega,?_⟩
   rw [hc]
   rw [List.set_eq_take_append_cons_drop,if_pos h4] at h3
   simpa using h3
  ·cases hp
theorem mO {place:Nat→Option (Nat×Nat)}:∀{parts:List (Nat×SV)} {parts':List (Nat×Value)} {ps qs:List SV} {cs:Array Value},wE place ps parts=some (qs,true)→PR e ps cs.toList→VP e parts parts'→
  ∃out,Instr.fill place cs parts'=some out∧PR e qs out.toList∧out.size=cs.size
 | [],parts',ps,qs,cs,hf,g,hv=>by
  rw [VP] at hv;subst hv
  simp only [wE,Option.some.injEq,Prod.mk.injEq,and_true] at hf;subst hf
  exact ⟨cs,rfl,g,rfl⟩
 |(i,x)::parts,_,ps,qs,cs,hf,g,⟨y,zs,hy,hz,q⟩=>by
  subst q
  simp only [wE] at hf
  split at hf
  ·rename_i o n Bo
   split at hf
   ·rename_i ps1 p1 zc
    obtain ⟨⟨q1,q2⟩,h1,h2⟩:=Option.map_eq_some_iff.1 hf
    simp only [Prod.mk.injEq,au] at h2
    obtain ⟨rfl,rfl,rfl⟩:=h2
    obtain ⟨h3,h4,h5⟩:=x6 zc g hy
    have e1:(y.cells.zipIdx.foldl (fun cs (x:Value×Nat)=>cs.setIfInBounds (o+x.2) x.1) cs).toList=cs.toList.take o++y.cells.toList++cs.toList.drop (o+n):=by
     rw [←Array.foldl_toList,Array.toList_zipIdx]
     have:=p6 o y.cells.toList 0 cs (by simp;omega)
     rw [this]
     simp [h3]
    obtain ⟨out,h6,h7,h8⟩:=mO h1 (cs:=y.cells.zipIdx.foldl (fun cs (x:Value×Nat)=>cs.setIfInBounds (o+x.2) x.1) cs) (by rw [e1];exact h5) hz
    refine ⟨out,?_,h7,?_⟩
    ·simp only [Instr.fill,Bo]
     rw [if_neg (by rw [h3];simp;omega)]
     exact h6
    ·rw [h8, ←Array.length_toList,e1]
     simp
     omega
   ·cases hf
  ·cases hf
theorem qX {t:TypeId} {ps:List SV} (hz:j8 P t=some ps):∃z,zeroOf P t=some z∧z.cells.size=aA ps:=by
 obtain ⟨z,h1,h2⟩:=gW (e:=⟨fun _=>none,fun _=>none,0,[],fun _=>none⟩) hz
 exact ⟨z,h1,by simpa using h2.length⟩
theorem x7 {t:TypeId} {parts:List (Nat×SV)} {parts':List (Nat×Value)} {v:SV} (hb:Ca P t parts=some (v,true)) (hp:VP e parts parts'):
  ∃v',(Instr.build t parts'.toArray).run P w= .ok v' w∧VR e v v':=by
 unfold Ca at hb
 split at hb
 ·rename_i z place hz Bo
  obtain ⟨⟨q1,q2⟩,h1,h2⟩:=Option.map_eq_some_iff.1 hb
  simp only [Prod.mk.injEq] at h2
  obtain ⟨rfl,rfl⟩:=h2
  obtain ⟨z',j4,pn⟩:=gW (e:=e) hz
  obtain ⟨out,h3,h4,_⟩:=mO h1 pn hp
  obtain ⟨it,hit,hiz⟩:∃it,P.info? t=some it∧it.zero=some z':=by
   unfold zeroOf at j4
   cases hq:P.info? t with
   |none=>simp [hq] at j4
   |some it=>simp [hq] at j4;exact ⟨it,rfl,j4⟩
  refine ⟨.agg out,run_build w t parts'.toArray out ?_,out.toList,h4,rfl⟩
  unfold Program.built
  unfold placesOf at Bo
  split at Bo
  ·rename_i n el hu
   obtain ⟨ie,hie,rfl⟩:=Option.map_eq_some_iff.1 Bo
   simp only [hit,hu,hiz,hie]
   simpa using h3
  ·rename_i fields hu
   obtain ⟨places,zc,rfl⟩:=Option.map_eq_some_iff.1 Bo
   simp only [hit,hu,hiz,zc]
   simpa using h3
  ·cases Bo
 ·cases hb
theorem PR.replicate {zs:List SV} {ys:List Value} (g:PR e zs ys):∀n:Nat,PR e (List.replicate n zs).flatten (List.replicate n ys).flatten
 |0=>rfl
 |n+1=>by
  rw [List.replicate_succ,List.flatten_cons,List.replicate_succ,List.flatten_cons]
  exact g.append (PR.replicate g n)
theorem KR (c:Array Value) (hc:0<c.size):∀n:Nat,((Array.range (n*c.size)).map fun i=>c[i%c.size]!).toList=(List.replicate n c.toList).flatten
 |0=>by simp
 |n+1=>by
  rw [List.replicate_succ',List.flatten_append, ←KR c hc n]
  simp only [List.flatten_cons,List.flatten_nil,List.append_nil,Array.toList_map,Array.toList_range]
  rw [Nat.succ_mul,List.range_add,List.map_append]
  congr 1
  apply List.ext_getElem?
  intro j
  simp only [List.map_map,List.getElem?_map]
  by_cases hj:j<c.size
  ·rw [List.getElem?_range hj]
   simp only [Option.map_some,Function.comp]
   rw [Nat.mul_comm n,Nat.mul_add_mod,Nat.mod_eq_of_lt hj,getElem!_pos c j hj]
   simp [hj]
  ·rw [List.getElem?_eq_none (by simpa using hj),List.getElem?_eq_none (by simpa using hj)];rfl
theorem Gh {el:TypeId} {k:IntKind} {zs:List SV} {z:Value} (hk:isInt P el=some k) (hz:j8 P el=some zs) (j4:zeroOf P el=some z):z.cells.toList=[.int k 0]:=by
 have hu:=kf hk
 have hp:z8 P 12 el=some [.int k 0]:=by simp [z8,hu]
 obtain ⟨z2,h1,h2⟩:=gW (e:=⟨fun _=>none,fun _=>none,0,[],fun _=>none⟩) hz
 rw [j4] at h1;cases h1
 have:zs=[.int k 0]:=by
  unfold j8 at hz
  rw [j4,hp] at hz
  simp only [] at hz
  split at hz
  ·cases hz;rfl
  ·cases hz
 subst this
 obtain ⟨y,us,hy,SL,q⟩:=(PR.cons rfl).1 h2
 rw [PR] at SL;subst SL
 rw [VR] at hy;subst hy
 exact q
theorem PK (k:IntKind) (n:Nat):(List.replicate n [Value.int k 0]).flatten=aV k (List.replicate n 0):=by
 induction n with
 |zero=>rfl
 |succ n ih=>rw [List.replicate_succ,List.flatten_cons,ih];rfl
theorem uD {el:TypeId} {zs:List SV} {z:Value} {n:Nat} (hz:j8 P el=some zs) (j4:zeroOf P el=some z) (hpos:0<z.cells.size) {ps:List SV} (hps:ps=match isInt P el with
  |some k=>[.ints k n (List.replicate n 0)]
  |none=>(List.replicate n zs).flatten):PR e ps ((Array.range (n*z.cells.size)).map fun i=>z.cells[i%z.cells.size]!).toList:=by
 rw [KR _ hpos]
 obtain ⟨z2,h1,h2⟩:=gW (e:=e) hz
 rw [j4] at h1;cases h1
 cases hk:isInt P el with
 |none=>rw [hk] at hps;subst hps;exact h2.replicate n
 |some k=>
  rw [hk] at hps;subst hps
  rw [Gh hk hz j4,PK]
  exact ⟨[],rfl,by rw [aJ (by simp),List.append_nil]⟩
theorem p7 {t:TypeId} {len z:Nat} {parts:List (Nat×SV)} {parts':List (Nat×Value)} {ps:List SV} (hb:jF P t len parts=some (ps,z,true)) (hp:VP e parts parts'):
  ∃el ys,(Instr.buildSlice t len parts'.toArray).run P w= .ok (.slice (some ⟨w.heap.size,0,none⟩) len len) (w.alloc (.cells ⟨ys⟩ el))∧PR e ps ys∧ys.length=len*z∧0<z:=by
 unfold jF at hb
 split at hb
 ·rename_i el hu
  split at hb
  ·rename_i z0 zs hs hz
   split at hb
   ·rename_i hc
    obtain ⟨⟨q1,q2⟩,h1,h2⟩:=Option.map_eq_some_iff.1 hb
    simp only [Prod.mk.injEq] at h2
    obtain ⟨rfl,rfl,rfl⟩:=h2
    obtain ⟨zv,hzv,hzs⟩:=qX hz
    obtain ⟨hc,afH⟩:=hc
    have hsz:zv.cells.size=z0+1:=by omega
    ·have hrow:=uD (e:=e) (n:=len) hz hzv (by omega) rfl
     obtain ⟨out,h3,h4,h5⟩:=mO h1 hrow hp
     rw [hsz] at h3 h5
     refine ⟨el,out.toList,?_,h4,by simpa using h5,by omega⟩
     have hle:¬len*(z0+1)>2^24:=by omega
     unfold Instr.buildSlice
     simp only [Sem.run_bind,run_underlying hu,Result.andThen_ok,bY hs,Sem.run_ite,if_neg hle,Sem.run_pure]
     by_cases h0:len*(z0+1)=0
     ·rw [if_pos h0]
      have:((Array.range (len*(z0+1))).map fun i=>zv.cells[i%(z0+1)]!)=((Array.range (len*(z0+1))).map fun i=>(#[]:Array Value)[i%(#[]:Array Value).size]!):=by rw [h0];simp
      rw [this] at h3
      simp only [h3,newRow,newObj,Sem.run_bind,Sem.run_pure]
      rfl
     ·rw [if_neg h0]
      simp only [jk hzv,Result.andThen_ok,hsz,h3,newRow,newObj,Sem.run_bind,Sem.run_pure]
      rfl
   ·cases hb
  ·cases hb
 ·cases hb
theorem qY {t:TypeId} {a b:SV} {a' b':Value} {ps:List SV} {z n m:Nat} (hm:kU P t a b=some (ps,z,n,m,true)) (ha:VR e a a') (hb:VR e b b'):
  ∃el ys,(Instr.makeSlice t a' b').run P w= .ok (.slice (some ⟨w.heap.size,0,none⟩) n m) (w.alloc (.cells ⟨ys⟩ el))∧PR e ps ys∧ys.length=m*z∧0<z∧n≤m:=by
 unfold kU at hm
 split at hm
 ·rename_i k1 l k2 c
  rw [VR] at ha hb;subst ha hb
  split at hm
  ·rename_i el hu
   split at hm
   ·rename_i i z0 zs hi hs hz
    split at hm
    ·rename_i afH
     simp only [Option.some.injEq,Prod.mk.injEq,Bool.and_eq_true,beq_iff_eq,decide_eq_true_eq] at hm
     obtain ⟨hps,rfl,rfl,rfl,⟨hl,Gi⟩,⟨h0,hlc⟩,vV⟩:=hm
     obtain ⟨zv,hzv,hzs⟩:=qX hz
     have hsz:zv.cells.size=z0+1:=by omega
     have t1:(decide (c<0)||decide ((i.bytes:Int)*c>2^48))=false:=by
      rw [Bool.or_eq_false_iff];exact ⟨decide_eq_false (by omega),decide_eq_false (by omega)⟩
     have hrow:=uD (e:=e) (n:=c.toNat) hz hzv (by omega) hps.symm
     rw [hsz] at hrow
     refine ⟨el,_,?_,hrow,by simp,by omega,by omega⟩
     unfold Instr.makeSlice
     have hnn:¬l>c:=by omega
     have hn0:¬l<0:=by omega
     simp only [Sem.run_bind,run_underlying hu,Result.andThen_ok,asInt,asIntOf,Sem.run_pure,typeInfo,run_program,hi,hl,Gi,t1,hn0,hnn,decide_false,Bool.or_self,Bool.false_eq_true,if_false]
     have hroom:∀w:World,(askRoom (c.toNat*i.bytes)).run P w= .ok () w:=fun w=>by unfold askRoom;split<;>simp [mark,Sem.run]
     rw [hroom]
     simp only [Result.andThen_ok,bY hs]
     by_cases hc0:c.toNat*(z0+1)=0
     ·rw [if_pos hc0]
      have PM:Array.range 0= #[]:=by simp
      simp [newRow,newObj,Sem.run,hc0,PM]
     ·rw [if_neg hc0]
      simp only [Sem.run_bind,jk hzv,Sem.run_pure,Result.andThen_ok,newRow,newObj,hsz]
      rfl
    ·cases hm
   ·cases hm
  ·cases hm
 ·cases hm
def x8 (d y:Nat) (code:BoundsCode) (v':Option Value):Sem Nat:=match v' with
 |some x=>Instr.sliceBound x y code
 |none=>pure d
theorem fD {d y y':Nat} {v:Option SV} {v':Option Value} {n:Nat} (hb:oM d y v=some (n,true)) (hv:VO e v v') (hy:y≤y') (code:BoundsCode):
  (x8 d y' code v').run P w= .ok n w∧(v=none→n=d)∧(v≠none→n≤y):=by
 unfold oM at hb
 split at hb
 ·simp only [Option.some.injEq,Prod.mk.injEq,and_true] at hb
  subst hb;rw [VO] at hv;subst hv
  exact ⟨rfl,fun _=>rfl,fun h=>absurd rfl h⟩
 ·rename_i k i
  obtain ⟨z,rfl,hz⟩:=hv
  rw [VR] at hz;subst hz
  simp only [Option.some.injEq,Prod.mk.injEq,Bool.and_eq_true,decide_eq_true_eq] at hb
  obtain ⟨rfl,h1,h2⟩:=hb
  have:i≤y':=by omega
  exact ⟨by simp [x8,Instr.sliceBound,asIntOf,h1,this],(fun h=>by cases h),fun _=>by omega⟩
 ·cases hb
theorem dw {len cap cap' l h m:Nat} {lo hi mx:Option SV} {lo' hi' Yn:Option Value} (hb:fR len cap lo hi mx=some (l,h,m,true)) (hl:VO e lo lo') (hh:VO e hi hi') (hm:VO e mx Yn) (hcap:cap≤cap') (b:Bool):
  ∃m',(Instr.sliceBounds b len cap' lo' hi' Yn).run P w= .ok (l,h,m') w∧(mx=none→m'=cap'∧m=cap)∧(mx≠none→m'=m∧m≤cap)∧(hi=none→h=len)∧(hi≠none→h≤m∧h≤m')∧(lo=none→l=0)∧(lo≠none→l≤h):=by
 unfold fR at hb
 split at hb
 ·rename_i m0 p0 SM
  split at hb
  ·cases hb
  ·rename_i hne
   split at hb
   ·rename_i h0 q0 hhi
    split at hb
    ·rename_i l0 r0 hlo
     simp only [Option.some.injEq,Prod.mk.injEq,au] at hb
     obtain ⟨rfl,rfl,rfl,rfl,rfl,rfl⟩:=hb
     cases mx with
     |none=>
      rw [VO] at hm;subst hm
      simp only [oM,Option.some.injEq,Prod.mk.injEq,and_true] at SM
      subst SM
      have a1:=fD (P:=P) (w:=w) hhi hh hcap (if b then .sliceAcap else .sliceAlen)
      have a2:=fD (P:=P) (w:=w) hlo hl (Nat.le_refl _) .sliceB
      refine ⟨cap',?_,fun _=>⟨rfl,rfl⟩,fun h=>absurd rfl h,a1.2.1,fun h=>⟨a1.2.2 h,Nat.le_trans (a1.2.2 h) hcap⟩,a2.2.1,a2.2.2⟩
      have b1:=a1.1;have b2:=a2.1
      unfold x8 at b1 b2
      unfold Instr.sliceBounds
      cases hi'<;>cases lo'<;>simp_all [Sem.run_bind]
     |some mv=>
      have a0:=fD (P:=P) (w:=w) SM hm hcap (if b then .slice3Acap else .slice3Alen)
      cases hi with
      |none=>exact absurd rfl (hne _ rfl)
      |some hv=>
       have a1:=fD (P:=P) (w:=w) hhi hh (Nat.le_refl _) .slice3B
       have a2:=fD (P:=P) (w:=w) hlo hl (Nat.le_refl _) .slice3C
       refine ⟨m0,?_,(fun h=>by cases h),fun _=>⟨rfl,a0.2.2 (by simp)⟩,(fun h=>by cases h),(fun h=>⟨a1.2.2 h,a1.2.2 h⟩),a2.2.1,a2.2.2⟩
       obtain ⟨mz,rfl,_⟩:=hm
       obtain ⟨hz,rfl,_⟩:=hh
       have b0:=a0.1;have b1:=a1.1;have b2:=a2.1
       unfold x8 at b0 b1 b2
       unfold Instr.sliceBounds
       cases lo'<;>simp_all [Sem.run_bind]
    ·cases hb
   ·cases hb
 ·cases hb
theorem KS (x:Addr) (m l z:Nat) (hx:x=⟨x.block,x.off,none⟩):∃a,(if m=l then x else x.add (l*z))=⟨x.block,a,none⟩∧(m≠l→a=x.off+l*z):=by
 by_cases h:m=l
 ·exact ⟨x.off,by rw [if_pos h];exact hx,fun g=>absurd h g⟩
 ·refine ⟨x.off+l*z,?_,fun _=>rfl⟩
  rw [if_neg h,hx,fm]
theorem r6 {xs:List Int} {lo hi:Option SV} {l h:Nat} (hlo:lo=none→l=0) (hhi:hi=none→h=xs.length) (hle:h≤xs.length) (hlh:l≤h):(Ac xs lo hi l h).length=h-l∧∀k,aV k (Ac xs lo hi l h)=((aV k xs).drop l).take (h-l):=by
 unfold Ac
 split
 ·have h1:=hlo rfl;have h2:=hhi rfl
  subst h1 h2
  exact ⟨by simp,fun k=>by rw [List.drop_zero,List.take_of_length_le (by rw [av];omega)]⟩
 ·have h2:=hhi rfl
  subst h2
  exact ⟨by simp,fun k=>by rw [←dM,List.take_of_length_le (by rw [av,List.length_drop];omega)]⟩
 ·have h1:=hlo rfl
  subst h1
  exact ⟨by simp;omega,fun k=>by rw [List.drop_zero,Nat.sub_zero, ←cq]⟩
 ·exact ⟨by simp;omega,fun k=>by rw [←dM, ←cq]⟩
theorem wL {k:IntKind}:∀{a b:List Int},aV k a=aV k b→a=b
 | [],[],_=>rfl
 | [],_::_,h=>by simp [aV] at h
 |_::_,[],h=>by simp [aV] at h
 |x::a,y::b,h=>by
  simp only [aV,List.map_cons,List.cons.injEq,Value.int.injEq,true_and] at h
  rw [h.1,wL (k:=k) h.2]
theorem eI (s:ByteArray):(gV s).length=s.size:=by unfold gV;rw [List.length_map,Array.length_toList];rfl
theorem kY (R:Rel B e h w) {t:TypeId} {x v:SV} {x':Value} {lo hi mx:Option SV} {lo' hi' Yn:Option Value} (hs:mE P t h x lo hi mx=some (v,true)) (hx:VR e x x') (hl:VO e lo lo') (hh:VO e hi hi') (hm:VO e mx Yn):
  ∃v',(Instr.sliceAt t x' lo' hi' Yn).run P w= .ok v' w∧VR e v v':=by
 unfold mE at hs
 split at hs
 ·-- an adI address
  rename_i n el b o i hu
  obtain ⟨p,hp,rfl⟩:=hx
  have fin:∀{z l u m:Nat} {ps:List SV},h[b]? =some (.b ps)→cX P el=some z→fR n n lo hi mx=some (l,u,m,true)→o+i+n*z≤aA ps→
    ∃v',(Instr.sliceAt t (.pointer (some ⟨p.n,p.base+(o+i),none⟩)) lo' hi' Yn).run P w= .ok v' w∧
     ∃a,v'= .slice (some ⟨p.n,a,none⟩) (u-l) (m-l)∧(m-l≠0→a=p.base+(o+i+l*z))∧u-l≤m-l∧(m-l≠0→o+i+l*z+(m-l)*z≤p.size)∧l≤u∧(lo=none→l=0):=fun {z l u m ps} hb hz hbd hfit=>by
   obtain ⟨c,tt,hc,hsz,sJ,pn⟩:=R.block hp hb
   obtain ⟨m',hr,f1,f2,f3,f4,f5,f6⟩:=dw (P:=P) (w:=w) hbd hl hh hm (Nat.le_refl n) false
   have hm':m'=m∧m≤n:=by
    cases mx with
    |none=>have:=f1 rfl;omega
    |some _=>exact f2 (by simp)
   obtain ⟨rfl,hmn⟩:=hm'
   have hum:u≤m':=by
    cases hi with
    |none=>
     have:=f3 rfl
     cases mx with
     |none=>have:=f1 rfl;omega
     |some _=>unfold fR at hbd;split at hbd<;>simp at hbd
    |some _=>exact (f4 (by simp)).2
   have hlu:l≤u:=by
    cases lo with
    |none=>have:=f5 rfl;omega
    |some _=>exact f6 (by simp)
   obtain ⟨a,ha,Yo⟩:=KS ⟨p.n,p.base+(o+i),none⟩ m' l z rfl
   refine ⟨_,?_,a,rfl,fun hne=>by have:=Yo (by omega);simp only [] at this;omega,by omega,fun hne=>?_,hlu,f5⟩
   ·simp only [Instr.sliceAt,Sem.run_bind,run_underlying hu,Result.andThen_ok,Instr.sureAddr,Sem.run_pure,hr,bY hz,ha]
   ·have h1:l*z+(m'-l)*z=m'*z:=by rw [←Nat.add_mul];congr 1;omega
    have h2:=Nat.mul_le_mul_right z hmn
    omega
  split at hs
  ·rename_i ps l u m pb hb hz hbd
   simp only [Option.some.injEq,Prod.mk.injEq,au,decide_eq_true_eq] at hs
   obtain ⟨rfl,rfl,hfit⟩:=hs
   obtain ⟨v',hr,a,rfl,h1,h2,h3,h4,h5⟩:=fin hb hz hbd (by omega)
   refine ⟨_,hr,.inr ⟨p,m-l,a,hp,?_,?_,?_,?_,?_,?_⟩⟩
   ·cases lo with
    |none=>have:=h5 rfl;subst this;simp
    |some _=>rfl
   ·intro hne
    have:=h1 hne
    cases lo with
    |none=>have:=h5 rfl;subst this;simp at*;omega
    |some _=>simp only [];omega
   ·cases lo with
    |none=>have:=h5 rfl;subst this;simp
    |some _=>exact Nat.le_refl _
   ·intro _
    cases lo with
    |none=>have:=h5 rfl;subst this;simp
    |some _=>rfl
   ·cases lo with
    |none=>have:=h5 rfl;subst this;simpa using h2
    |some _=>exact h2
   ·intro hne
    have:=h3 hne
    cases lo with
    |none=>have:=h5 rfl;subst this;simp at*;omega
    |some _=>simp only [];omega
  ·rename_i ps z l u m pb hne hb hz hbd
   split at hs
   ·simp only [Option.some.injEq,Prod.mk.injEq,au,decide_eq_true_eq] at hs
    obtain ⟨rfl,rfl,hfit⟩:=hs
    obtain ⟨v',hr,a,rfl,h1,h2,h3,h4,h5⟩:=fin hb hz hbd (by omega)
    exact ⟨_,hr,.inr ⟨p,m-l,a,hp,rfl,fun hne=>by have:=h1 hne;omega,Nat.le_refl _,fun _=>rfl,h2,fun hne=>by have:=h3 hne;omega⟩⟩
   ·cases hs
  ·cases hs
 ·-- a slice of a s8 block
  rename_i el b o i z len cap ex wh hu
  split at hs
  ·rename_i n l u m pb hz hbd
   split at hs
   ·rename_i hnz
    subst hnz
    simp only [Option.some.injEq,Prod.mk.injEq] at hs
    obtain ⟨rfl,rfl⟩:=hs
    rcases hx with ⟨rfl,rfl,a,rfl⟩|⟨p,cap',a,hp,rfl,ha,hcap,hex,hlen,hfit⟩
    ·obtain ⟨m',hr,f1,f2,f3,f4,f5,f6⟩:=dw (P:=P) (w:=w) hbd hl hh hm (Nat.le_refl 0) true
     have hm0:m'=0∧m=0:=by
      cases mx with
      |none=>have:=f1 rfl;omega
      |some _=>have:=f2 (by simp);omega
     have hu0:u=0:=by
      cases hi with
      |none=>exact f3 rfl
      |some _=>have:=f4 (by simp);omega
     have B6:l=0:=by
      cases lo with
      |none=>exact f5 rfl
      |some _=>have:=f6 (by simp);omega
     obtain ⟨rfl,rfl⟩:=hm0
     subst hu0 B6
     refine ⟨.slice a 0 0,?_,.inl ⟨by cases lo<;>rfl,by cases lo<;>rfl,a,rfl⟩⟩
     simp only [Instr.sliceAt,Instr.slice,Sem.run_bind,run_underlying hu,Result.andThen_ok,Sem.run_pure,hr,bY hz,if_true,Nat.sub_self]
    ·obtain ⟨m',hr,f1,f2,f3,f4,f5,f6⟩:=dw (P:=P) (w:=w) hbd hl hh hm hcap true
     have hm':m'≤cap'∧m≤m'∧((ex||mx.isSome)=true→m'=m):=by
      cases mx with
      |none=>obtain ⟨rfl,rfl⟩:=f1 rfl;exact ⟨Nat.le_refl _,hcap,fun h=>hex (by simpa using h)⟩
      |some _=>obtain ⟨rfl,g⟩:=f2 (by simp);exact ⟨by omega,Nat.le_refl _,fun _=>rfl⟩
     have hum:u≤m':=by
      cases hi with
      |none=>
       have:=f3 rfl
       cases mx with
       |none=>have:=f1 rfl;omega
       |some _=>unfold fR at hbd;split at hbd<;>simp at hbd
      |some _=>exact (f4 (by simp)).2
     have hlu:l≤u:=by
      cases lo with
      |none=>have:=f5 rfl;omega
      |some _=>exact f6 (by simp)
     obtain ⟨a2,Ej,ha3⟩:=KS ⟨p.n,a,none⟩ m' l n rfl
     refine ⟨.slice (some ⟨p.n,a2,none⟩) (u-l) (m'-l),?_,.inr ⟨p,m'-l,a2,hp,?_,?_,?_,?_,?_,?_⟩⟩
     ·simp only [Instr.sliceAt,Instr.slice,Sem.run_bind,run_underlying hu,Result.andThen_ok,Sem.run_pure,hr,bY hz,Option.map_some]
      congr 2
      have:(if m'=l then some (⟨p.n,a,none⟩:Addr) else some ((⟨p.n,a,none⟩:Addr).add (l*n)))=some (if m'=l then ⟨p.n,a,none⟩ else (⟨p.n,a,none⟩:Addr).add (l*n)):=by split<;>rfl
      rw [this,Ej]
     ·cases lo with
      |none=>have:=f5 rfl;subst this;simp
      |some _=>rfl
     ·intro hne
      have h1:=ha3 (by omega)
      have h2:=ha (by omega)
      simp only [] at h1
      cases lo with
      |none=>have:=f5 rfl;subst this;simp at h1;simp only [];omega
      |some _=>simp only [];rw [Nat.add_mul];omega
     ·cases lo with
      |none=>have:=f5 rfl;subst this;simp only [];omega
      |some _=>simp only [];omega
     ·intro g
      have:=hm'.2.2 g
      subst this
      cases lo with
      |none=>have:=f5 rfl;subst this;simp
      |some _=>rfl
     ·cases lo with
      |none=>have:=f5 rfl;subst this;simp only [];omega
      |some _=>simp only [];omega
     ·intro hne
      have h1:=hfit (by omega)
      have h2:l*n+(m'-l)*n=m'*n:=by rw [←Nat.add_mul];congr 1;omega
      have h3:=Nat.mul_le_mul_right n hm'.1
      cases lo with
      |none=>have:=f5 rfl;subst this;simp at h2 ⊢;omega
      |some _=>simp only [];rw [Nat.add_mul];omega
   ·cases hs
  ·cases hs
 ·-- a slice that afJ writes
  rename_i el f k xs hu
  split at hs
  ·rename_i l u m pb hz hbd
   simp only [Option.some.injEq,Prod.mk.injEq] at hs
   obtain ⟨rfl,rfl⟩:=hs
   have bnd:∀{cap:Nat} {m':Nat},(mx=none→m'=cap∧m=xs.length)∧(mx≠none→m'=m∧m≤xs.length)∧(hi=none→u=xs.length)∧(hi≠none→u≤m∧u≤m')∧(lo=none→l=0)∧(lo≠none→l≤u)→xs.length≤cap→u≤xs.length∧l≤u∧u≤m'∧m'≤cap:=fun {cap m'} ⟨f1,f2,f3,f4,f5,f6⟩ hcap=>by
    have hm':m'≤cap∧m≤xs.length:=by
     cases mx with
     |none=>have:=f1 rfl;omega
     |some _=>have:=f2 (by simp);omega
    have pE:u≤xs.length∧u≤m':=by
     cases hi with
     |none=>
      have:=f3 rfl
      cases mx with
      |none=>have:=f1 rfl;omega
      |some _=>unfold fR at hbd;split at hbd<;>simp at hbd
     |some _=>have:=f4 (by simp);omega
    have hlu:l≤u:=by
     cases lo with
     |none=>have:=f5 rfl;omega
     |some _=>exact f6 (by simp)
    omega
   rcases hx with ⟨rfl,a,cap,rfl,ha⟩|⟨n,o,cap,c,tt,fr,rfl,iB,hfr,hq,hcap,hfit⟩
   ·obtain ⟨m',hr,g⟩:=dw (P:=P) (w:=w) hbd hl hh hm (Nat.zero_le cap) true
    simp only [List.length_nil] at hr
    obtain ⟨h1,h2,h3,h4⟩:=bnd (cap:=cap) g (Nat.zero_le _)
    have hu0:u=0:=by simpa using h1
    subst hu0
    have B6:l=0:=by omega
    subst B6
    have hw:Ac [] lo hi 0 0=[]:=by unfold Ac;split<;>rfl
    rw [hw]
    refine ⟨.slice a 0 m',?_,.inl ⟨rfl,a,m',rfl,fun q=>by have:=ha q;omega⟩⟩
    have hmap:(if m'=0 then a else a.map (·.add (0*1)))=a:=by
     split
     ·rfl
     ·cases a with
      |none=>rfl
      |some a=>simp [Addr.add]
    simp only [Instr.sliceAt,Instr.slice,Sem.run_bind,run_underlying hu,Result.andThen_ok,Sem.run_pure,hr,bY hz,hmap,Nat.sub_zero]
   ·obtain ⟨m',hr,g⟩:=dw (P:=P) (w:=w) hbd hl hh hm hcap true
    obtain ⟨h1,h2,h3,h4⟩:=bnd (cap:=cap) g hcap
    obtain ⟨hwl,hwi⟩:=r6 (xs:=xs) (lo:=lo) (hi:=hi) g.2.2.2.2.1 g.2.2.1 h1 h2
    obtain ⟨a2,Ej,ha3⟩:=KS ⟨n,o,none⟩ m' l 1 rfl
    refine ⟨.slice (some ⟨n,a2,none⟩) (u-l) (m'-l),?_,?_⟩
    ·simp only [Instr.sliceAt,Instr.slice,Sem.run_bind,run_underlying hu,Result.andThen_ok,Sem.run_pure,hr,bY hz,Option.map_some]
     congr 2
     have:(if m'=l then some (⟨n,o,none⟩:Addr) else some ((⟨n,o,none⟩:Addr).add (l*1)))=some (if m'=l then ⟨n,o,none⟩ else (⟨n,o,none⟩:Addr).add (l*1)):=by split<;>rfl
     rw [this,Ej]
    ·by_cases hml:m'=l
     ·left
      have:u-l=0:=by omega
      exact ⟨List.length_eq_zero_iff.1 (by omega),_,_,by rw [this],fun q=>by cases q⟩
     ·right
      have h5:=ha3 hml
      simp only [Nat.mul_one] at h5
      subst h5
      refine ⟨n,o+l,m'-l,c,tt,fr,by rw [hwl],iB,hfr,?_,by omega,by omega⟩
      rw [hwl,hwi k,hq,List.drop_take,List.take_take,List.drop_drop,Nat.min_eq_left (by omega)]
  ·cases hs
 ·-- a string
  rename_i xs hu
  obtain ⟨s,rfl,rfl⟩:=hx
  split at hs
  ·rename_i l u m pb hbd
   simp only [Option.some.injEq,Prod.mk.injEq] at hs
   obtain ⟨rfl,rfl⟩:=hs
   rw [VO] at hm;subst hm
   obtain ⟨m',hr,f1,f2,f3,f4,f5,f6⟩:=dw (P:=P) (w:=w) hbd hl hh (show VO e none none from rfl) (Nat.le_refl _) false
   have hmm:=f1 rfl
   have pE:u≤(gV s).length:=by
    cases hi with
    |none=>have:=f3 rfl;omega
    |some _=>have:=f4 (by simp);omega
   have hlu:l≤u:=by
    cases lo with
    |none=>have:=f5 rfl;omega
    |some _=>exact f6 (by simp)
   obtain ⟨hwl,hwi⟩:=r6 (xs:=gV s) (lo:=lo) (hi:=hi) f5 f3 pE hlu
   refine ⟨.string (s.extract l u),?_,s.extract l u,rfl,?_⟩
   ·rw [eI] at hr
    simp only [Instr.sliceAt,Instr.slice,Sem.run_bind,run_underlying hu,Result.andThen_ok,Sem.run_pure,hr,Option.isSome_none,Bool.false_eq_true,if_false]
   ·have h1:=hwi .u8
    have h2:Ac (gV s) lo hi l u=((gV s).drop l).take (u-l):=by
     rw [←dM, ←cq] at h1
     exact wL h1
    rw [h2]
    simp [gV,List.extract_eq_take_drop,List.map_take,List.map_drop]
  ·cases hs
 ·-- no slice
  rename_i el hu
  rw [VR] at hx;subst hx
  split at hs
  ·rename_i z l u m pb hz hbd
   simp only [Option.some.injEq,Prod.mk.injEq] at hs
   obtain ⟨rfl,rfl⟩:=hs
   obtain ⟨m',hr,f1,f2,f3,f4,f5,f6⟩:=dw (P:=P) (w:=w) hbd hl hh hm (Nat.le_refl 0) true
   have hm0:m'=0:=by
    cases mx with
    |none=>have:=f1 rfl;omega
    |some _=>have:=f2 (by simp);omega
   have hu0:u=0:=by
    cases hi with
    |none=>exact f3 rfl
    |some _=>have:=f4 (by simp);omega
   have B6:l=0:=by
    cases lo with
    |none=>exact f5 rfl
    |some _=>have:=f6 (by simp);omega
   subst hm0 hu0 B6
   refine ⟨.slice none 0 0,?_,rfl⟩
   simp only [Instr.sliceAt,Instr.slice,Sem.run_bind,run_underlying hu,Result.andThen_ok,Sem.run_pure,hr,bY hz,if_true,Nat.sub_self]
  ·cases hs
 ·cases hs
theorem Gj {lo hi mx:Option Operand} (h:Ed lo hi mx=true):lo=none∧hi=some (.const (.int .i64 0))∧mx=some (.const (.int .i64 0)):=by
 unfold Ed at h
 split at h
 ·exact ⟨rfl,rfl,rfl⟩
 ·cases h
theorem Ch {t el:TypeId} {a:Option Addr} {n cap:Nat} (hu:P.underlying t=some (.slice el)) (hz:cX P el=some 1):
  (Instr.sliceAt t (.slice a n cap) none (some (.int .i64 0)) (some (.int .i64 0))).run P w= .ok (.slice a 0 0) w:=by
 have h0:∀(y:Nat) (code:BoundsCode),(Instr.sliceBound (.int .i64 0) y code).run P w= .ok 0 w:=fun y code=>
  (fD (P:=P) (w:=w) (d:=0) (y:=y) (y':=y) (v:=some (.int .i64 0)) (e:=⟨fun _=>none,fun _=>none,0,[],fun _=>none⟩) (n:=0) (by simp [oM]) ⟨_,rfl,rfl⟩ (Nat.le_refl _) code).1
 have hb:(Instr.sliceBounds true n cap none (some (.int .i64 0)) (some (.int .i64 0))).run P w= .ok (0,0,0) w:=by
  unfold Instr.sliceBounds
  simp [Sem.run_bind,h0]
 simp only [Instr.sliceAt,Instr.slice,Sem.run_bind,run_underlying hu,Result.andThen_ok,Sem.run_pure,hb,bY hz,if_true,Nat.sub_self]
theorem x9 (R:Rel B e h w) {t:TypeId} {T:List (Option SV)} {lo hi mx:Option Operand} (hz3:Ed lo hi mx=true) {x v:SV} {x':Value} {l u m:Option SV} {l' u' m':Option Value} (e1:Hi T lo=some l) (e2:Hi T hi=some u) (e3:Hi T mx=some m) (hs:mF P t h x l u m=some (v,true)) (hx:VR e x x') (hl:VO e l l') (hh:VO e u u') (hm:VO e m m'):
  ∃v',(Instr.sliceAt t x' l' u' m').run P w= .ok v' w∧VR e v v':=by
 obtain ⟨rfl,rfl,rfl⟩:=Gj hz3
 have go:∀a n cap,x'= .slice a n cap→∀el,P.underlying t=some (.slice el)→cX P el=some 1→v= .sl 0 0 0 1 0 0 true false→∃v',(Instr.sliceAt t x' l' u' m').run P w= .ok v' w∧VR e v v':=fun a n cap hx' el hu hz hv=>by
  subst hx' hv
  obtain rfl:none=l:=Option.some.inj e1
  obtain rfl:some (SV.int .i64 0)=u:=Option.some.inj e2
  obtain rfl:some (SV.int .i64 0)=m:=Option.some.inj e3
  rw [VO] at hl
  obtain ⟨_,rfl,rfl⟩:=hh
  obtain ⟨_,rfl,rfl⟩:=hm
  subst hl
  exact ⟨_,Ch hu hz,.inl ⟨rfl,rfl,a,rfl⟩⟩
 cases x with
 |ro f k xs=>
  simp only [mF] at hs
  split at hs
  ·rename_i el hu
   split at hs
   ·rename_i hz
    cases hs
    rcases hx with ⟨_,a,cap,rfl,_⟩|⟨_,_,cap,_,_,_,rfl,_⟩
    ·exact go _ _ _ rfl _ hu hz rfl
    ·exact go _ _ _ rfl _ hu hz rfl
   ·cases hs
  ·cases hs
 |nl y=>
  rw [VR] at hx;subst hx
  by_cases hy:∃a c,x'= .slice a 0 c
  ·obtain ⟨a,c,rfl⟩:=hy
   simp only [mF] at hs
   split at hs
   ·rename_i el hu
    split at hs
    ·rename_i hz
     cases hs
     exact go _ _ _ rfl _ hu hz rfl
    ·cases hs
   ·cases hs
  ·have hs':mE P t h (.nl x') l u m=some (v,true):=by
    unfold mF at hs
    split at hs
    ·rename_i q;cases q
    ·rename_i q;cases q;exact absurd ⟨_,_,rfl⟩ hy
    ·exact hs
   exact kY (P:=P) R hs' (x:=.nl x') rfl hl hh hm
 |_=>exact kY (P:=P) R hs hx hl hh hm
theorem uE {x:SV} {x':Value} {n:Nat} (hx:VR e x x') (hn:sI x=some n):(∃a c,x'= .slice a n c)∨∃s,x'= .string s∧s.size=n∧∃xs,x= .str xs:=by
 unfold sI at hn
 split at hn
 ·cases hn
  rcases hx with ⟨h1,_,a,rfl⟩|⟨p,c,a,_,rfl,_⟩
  ·subst h1;exact .inl ⟨a,0,rfl⟩
  ·exact .inl ⟨_,_,rfl⟩
 ·cases hn
  rcases hx with ⟨rfl,a,c,rfl,_⟩|⟨n,o,cap,c,t,fr,rfl,_⟩
  ·exact .inl ⟨_,_,rfl⟩
  ·exact .inl ⟨_,_,rfl⟩
 ·cases hn
  rcases hx with ⟨rfl,a,c,rfl,_⟩|⟨n,o,cap,c,t,fr,rfl,_⟩
  ·exact .inl ⟨_,_,rfl⟩
  ·exact .inl ⟨_,_,rfl⟩
 ·cases hn
  rcases hx with ⟨rfl,a,c,rfl,_⟩|⟨n,o,cap,c,t,fr,rfl,_⟩
  ·exact .inl ⟨_,_,rfl⟩
  ·exact .inl ⟨_,_,rfl⟩
 ·cases hn
  obtain ⟨s,rfl,rfl⟩:=hx
  exact .inr ⟨s,rfl,by rw [eI],_,rfl⟩
 ·cases hn;rw [VR] at hx;subst hx;exact .inl ⟨_,_,rfl⟩
 ·cases hn
theorem Ci {t ty:TypeId} {x v:SV} {x':Value} (hs:VN P t x=some v) (hx:VR e x x'):∃v',(Builtin.len_ #[t] ty #[x']).run P w= .ok v' w∧VR e v v':=by
 unfold VN at hs
 split at hs
 ·rename_i n el ps hu
  cases hs
  obtain ⟨ys,_,rfl⟩:=hx.mJ
  exact ⟨_,by simp [Builtin.len_,run_underlying hu,goInt],rfl⟩
 ·rename_i el hu
  split at hs
  ·cases hs
  ·rename_i hne
   obtain ⟨n,hn,rfl⟩:=Option.map_eq_some_iff.1 hs
   rcases uE hx hn with ⟨a,c,rfl⟩|⟨s,_,_,xs,rfl⟩
   ·exact ⟨_,by simp [Builtin.len_,run_underlying hu,goInt],rfl⟩
   ·exact absurd rfl (hne xs)
 ·rename_i xs hu
  cases hs
  obtain ⟨s,rfl,rfl⟩:=hx
  exact ⟨.int .i64 s.size,by simp [Builtin.len_,run_underlying hu,goInt],by rw [eI];rfl⟩
 ·cases hs
theorem Cj {t ty:TypeId} {x v:SV} {x':Value} (hs:VQ P t x=some v) (hx:VR e x x'):∃v',(Builtin.cap_ #[t] ty #[x']).run P w= .ok v' w∧VR e v v':=by
 unfold VQ at hs
 split at hs
 ·rename_i el b o i z len cap wh hu
  cases hs
  rcases hx with ⟨_,rfl,a,rfl⟩|⟨p,cap',a,_,rfl,_,_,hex,_⟩
  ·exact ⟨_,by simp [Builtin.cap_,run_underlying hu,goInt],rfl⟩
  ·have:=hex rfl;subst this
   exact ⟨_,by simp [Builtin.cap_,run_underlying hu,goInt],rfl⟩
 ·rename_i el hu
  cases hs
  rw [VR] at hx;subst hx
  exact ⟨_,by simp [Builtin.cap_,run_underlying hu,goInt],rfl⟩
 ·cases hs
theorem uF {k:IntKind}:∀{vs:List SV} {ys:List Value} {a n:Int},KC k a vs=some n→LR e vs ys→(ys.foldlM Builtin.min2 (.int k a)).run P w= .ok (.int k n) w
 | [],ys,a,n,h,g=>by
  simp only [KC,Option.some.injEq] at h;subst h
  rw [LR] at g;subst g
  simp
 |x::xs,_,a,n,h,⟨y,zs,hy,hz,q⟩=>by
  subst q
  unfold KC at h
  split at h
  ·rename_i h1;cases h1
  ·rename_i k' b vs h1
   cases h1
   split at h
   ·rename_i hk
    subst hk
    rw [VR] at hy;subst hy
    simp only [List.foldlM_cons,Sem.run_bind,Builtin.min2,Sem.run_pure,Result.andThen_ok]
    exact uF h hz
   ·cases h
  ·cases h
end
end Go.Sy
