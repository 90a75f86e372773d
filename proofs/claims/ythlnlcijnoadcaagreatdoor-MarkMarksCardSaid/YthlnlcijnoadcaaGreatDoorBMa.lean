/- This file defines symbolic values ('SV') and what they say of the machine's values. No conditions: definitions and their plain laws. -/
import Derived.Calls
import Derived.LoopN
import Derived.KernelRfl
import Derived.Below
import Derived.OrdersIn
import Derived.Laws.CopyRow
import Derived.Laws.StructEq
import Derived.RangeFuncLeaves
import Derived.LoopNIn
import Derived.Laws.Closers25b
import Derived.Laws.Append
set_option linter.all false
namespace Go.Sy
open Go
noncomputable def Lock {α:Type} (v:α):α:=Classical.choose (⟨v,rfl⟩:∃z,z=v)
theorem Lock_eq {α:Type} (v:α):Lock v=v:=Classical.choose_spec (⟨v,rfl⟩:∃z,z=v)
structure Pl where
 n:Nat
 base:Nat
 size:Nat
inductive SV where
 |bool (b:Bool)
 |int (k:IntKind) (n:Int)
 |str (s:List Int)
 |nl (v:Value)
 |ints (k:IntKind) (n:Nat) (xs:List Int)
 |ptr (b o i:Nat)
 |sl (b o i z len cap:Nat) (ex wh:Bool)
 |ro (f:Bool) (k:IntKind) (xs:List Int)
 |rob (f:Bool) (xss:List (List Int))
 |rol (f:Bool) (z len:Nat) (g:Nat→List SV)
 |rpi (k:IntKind) (xs:List Int) (i:Nat)
 |rpb (f:Bool) (xss:List (List Int)) (i:Nat)
 |rpl (f:Bool) (z len:Nat) (g:Nat→List SV) (e o i:Nat)
 |agg (ps:List SV)
 |tup (vs:List SV)
 |iface (t:TypeId) (v:SV)
 |fn (f:Fn) (a b:List SV)
 |rows (z n:Nat) (g:Nat→List SV)
 |rsl (b z len cap:Nat) (ex:Bool)
 |rptr (b z e o i:Nat)
 |mpv (b:Nat)
 |glb (g i:Nat)
structure Env where
 r:Nat→Option Pl
 z:Nat→Option (Array Value×TypeId×(Nat×Nat))
 n0:Nat
 m:List Nat
 y:Nat→Option Nat
def intsV (k:IntKind) (xs:List Int):List Value:=xs.map (Value.int k)
def lst (n:Nat) (l:List Int):List Int:=(List.range n).map fun i=>l.getD i 0
def strL (s:ByteArray):List Int:=s.data.toList.map fun b=>(b.toNat:Int)
def RoI (e:Env) (f:Bool) (k:IntKind) (xs:List Int) (v:Value):Prop:=
 (xs=[]∧∃a cap,v= .slice a 0 cap∧(a=none→cap=0))∨
 ∃n o cap c t fr,v= .slice (some ⟨n,o,none⟩) xs.length cap∧e.z n=some (c,t,fr)∧(f=true→e.n0≤n)∧
  intsV k xs=(c.toList.drop o).take xs.length∧xs.length≤cap∧o+cap≤c.size
def RoB (e:Env) (f:Bool) (xss:List (List Int)) (v:Value):Prop:=
 (xss=[]∧∃a cap,v= .slice a 0 cap∧(a=none→cap=0))∨
 ∃n o cap c t fr,v= .slice (some ⟨n,o,none⟩) xss.length cap∧e.z n=some (c,t,fr)∧(f=true→e.n0≤n)∧
  (∀(i:Nat) (xs:List Int),xss[i]? =some xs→∃y,c.toList[o+i]? =some y∧RoI e f .u8 xs y)∧xss.length≤cap∧o+cap≤c.size
mutual
def VR:Env→SV→Value→Prop
 |_,.bool b,v'=>v'= .bool b
 |_,.int k n,v'=>v'= .int k n
 |_,.str xs,v'=>∃s,v'= .string s∧xs=strL s
 |_,.nl v,v'=>v'=v
 |_,.ints _ _ _,_=>False
 |e,.ptr b o i,v'=>∃p,e.r b=some p∧v'= .pointer (some ⟨p.n,p.base+(o+i),none⟩)
 |e,.sl b o i z len cap ex _,v'=>
  (len=0∧cap=0∧∃a,v'= .slice a 0 0)∨
  ∃p cap' a,e.r b=some p∧v'= .slice (some ⟨p.n,a,none⟩) len cap'∧(cap'≠0→a=p.base+(o+i*z))∧cap≤cap'∧(ex=true→cap'=cap)∧len≤cap'∧(cap'≠0→o+i*z+cap'*z≤p.size)
 |e,.ro f k xs,v'=>RoI e f k xs v'
 |e,.rob f xss,v'=>RoB e f xss v'
 |e,.rol f z len g,v'=>
  (len=0∧∃a cap,v'= .slice a 0 cap∧(a=none→cap=0))∨
  ∃n o cap c t fr,v'= .slice (some ⟨n,o,none⟩) len cap∧e.z n=some (c,t,fr)∧(f=true→e.n0≤n)∧
   (∀i,i<len→PR ⟨fun _=>none,e.z,e.n0,[],fun _=>none⟩ (g i) ((c.toList.drop (o+i*z)).take z))∧len≤cap∧o+cap*z≤c.size
 |e,.rpi k xs i,v'=>∃n o c t fr,v'= .pointer (some ⟨n,o+i,none⟩)∧e.z n=some (c,t,fr)∧intsV k xs=(c.toList.drop o).take xs.length
 |e,.rpb f xss i,v'=>∃n o c t fr,v'= .pointer (some ⟨n,o+i,none⟩)∧e.z n=some (c,t,fr)∧
   (∀(i:Nat) (xs:List Int),xss[i]? =some xs→∃y,c.toList[o+i]? =some y∧RoI e f .u8 xs y)
 |e,.rpl _ z len g el o i,v'=>∃n o0 c t fr,v'= .pointer (some ⟨n,o0+el*z+(o+i),none⟩)∧e.z n=some (c,t,fr)∧
   (∀i,i<len→PR ⟨fun _=>none,e.z,e.n0,[],fun _=>none⟩ (g i) ((c.toList.drop (o0+i*z)).take z))∧o0+len*z≤c.size
 |e,.agg ps,v'=>∃ys,PR e ps ys∧v'= .agg ⟨ys⟩
 |e,.tup vs,v'=>∃ys,LR e vs ys∧v'= .tuple ⟨ys⟩
 |e,.iface t x,v'=>∃y,VR e x y∧v'= .iface t y
 |e,.fn f a b,v'=>∃ys us,LR e a ys∧LR e b us∧v'= .func f ⟨ys⟩ ⟨us⟩
 |_,.rows _ _ _,_=>False
 |e,.rsl b z len cap ex,v'=>
  (len=0∧cap=0∧∃a,v'= .slice a 0 0)∨
  ∃p cap' a,e.r b=some p∧v'= .slice (some ⟨p.n,a,none⟩) len cap'∧(cap'≠0→a=p.base)∧cap≤cap'∧(ex=true→cap'=cap)∧len≤cap'∧(cap'≠0→cap'*z≤p.size)
 |e,.rptr b z el o i,v'=>∃p,e.r b=some p∧v'= .pointer (some ⟨p.n,p.base+(el*z+(o+i)),none⟩)
 |e,.mpv b,v'=>∃p,e.r b=some p∧v'= .map (some p.n)
 |_,.glb g i,v'=>v'= .pointer (some ⟨g,i,none⟩)
def LR:Env→List SV→List Value→Prop
 |_,[],ys=>ys=[]
 |e,x::xs,ys=>∃y zs,VR e x y∧LR e xs zs∧ys=y::zs
def PR:Env→List SV→List Value→Prop
 |_,[],ys=>ys=[]
 |e,x::xs,ys=>match x with
  | .ints k n l=>∃zs,PR e xs zs∧ys=intsV k (lst n l)++zs
  | .rows z n g=>∃us zs,us.length=n*z∧(∀i,i<n→PR ⟨fun _=>none,e.z,e.n0,[],fun _=>none⟩ (g i) ((us.drop (i*z)).take z))∧PR e xs zs∧ys=us++zs
  |x=>∃y zs,VR e x y∧PR e xs zs∧ys=y::zs
end
theorem lst_eq {n:Nat} {l:List Int} (h:l.length=n):lst n l=l:=by
 apply List.ext_getElem?
 intro i
 unfold lst
 rw [List.getElem?_map]
 rcases Nat.lt_or_ge i n with hi|hi
 ·rw [List.getElem?_range hi]
  simp [List.getD,List.getElem?_eq_getElem (show i<l.length by omega)]
 ·rw [List.getElem?_eq_none (by simpa using hi),List.getElem?_eq_none (by omega)];rfl
theorem lst_length (n:Nat) (l:List Int):(lst n l).length=n:=by simp [lst]
theorem lst_get {n i:Nat} (l:List Int) (h:i<n):(lst n l)[i]? =some (l.getD i 0):=by
 unfold lst;rw [List.getElem?_map,List.getElem?_range h];rfl
theorem lst_drop (n o:Nat) (l:List Int):lst (n-o) (l.drop o)=(lst n l).drop o:=by
 apply List.ext_getElem?
 intro i
 rw [List.getElem?_drop]
 rcases Nat.lt_or_ge i (n-o) with hi|hi
 ·rw [lst_get _ hi,lst_get _ (by omega)]
  simp [List.getD,List.getElem?_drop]
 ·rw [List.getElem?_eq_none (by rw [lst_length];exact hi),List.getElem?_eq_none (by rw [lst_length];omega)]
theorem lst_take {n m:Nat} (h:m≤n) (l:List Int):lst m (l.take m)=(lst n l).take m:=by
 apply List.ext_getElem?
 intro i
 rw [List.getElem?_take]
 rcases Nat.lt_or_ge i m with hi|hi
 ·rw [lst_get _ hi,if_pos hi,lst_get _ (by omega)]
  simp [List.getD,hi]
 ·rw [List.getElem?_eq_none (by rw [lst_length];exact hi),if_neg (by omega)]
theorem lst_self (n:Nat) (l:List Int):lst n (lst n l)=lst n l:=lst_eq (lst_length n l)
theorem intsV_length {k:IntKind} {xs:List Int}:(intsV k xs).length=xs.length:=by simp [intsV]
theorem intsV_get {k:IntKind} {xs:List Int} {o:Nat} (h:o<xs.length):(intsV k xs)[o]? =some (.int k (xs.getD o 0)):=by
 simp [intsV,List.getD,List.getElem?_eq_getElem h]
theorem intsV_append (k:IntKind) (a b:List Int):intsV k (a++b)=intsV k a++intsV k b:=by simp [intsV]
theorem intsV_take (k:IntKind) (n:Nat) (a:List Int):intsV k (a.take n)=(intsV k a).take n:=by simp [intsV,List.map_take]
theorem intsV_drop (k:IntKind) (n:Nat) (a:List Int):intsV k (a.drop n)=(intsV k a).drop n:=by simp [intsV,List.map_drop]
mutual
def ren (s:Nat→Nat):SV→SV
 | .ptr b o i=>.ptr (s b) o i
 | .sl b o i z len cap ex wh=>.sl (s b) o i z len cap ex wh
 | .agg ps=>.agg (renL s ps)
 | .tup vs=>.tup (renL s vs)
 | .iface t x=>.iface t (ren s x)
 | .fn f a b=>.fn f (renL s a) (renL s b)
 | .rsl b z len cap ex=>.rsl (s b) z len cap ex
 | .rptr b z e o i=>.rptr (s b) z e o i
 | .mpv b=>.mpv (s b)
 |v=>v
def renL (s:Nat→Nat):List SV→List SV
 | []=>[]
 |x::xs=>ren s x::renL s xs
end
mutual
def uses (j:Nat):SV→Bool
 | .ptr b _ _=>b==j
 | .sl b _ _ _ _ _ _ _=>b==j
 | .agg ps=>usesL j ps
 | .tup vs=>usesL j vs
 | .iface _ x=>uses j x
 | .fn _ a b=>usesL j a||usesL j b
 | .rsl b _ _ _ _=>b==j
 | .rptr b _ _ _ _=>b==j
 | .mpv b=>b==j
 |_=>false
def usesL (j:Nat):List SV→Bool
 | []=>false
 |x::xs=>uses j x||usesL j xs
end
mutual
def closedV:SV→Bool
 | .ptr _ _ _=>false
 | .sl _ _ _ _ _ _ _ _=>false
 | .rsl _ _ _ _ _=>false
 | .rptr _ _ _ _ _=>false
 | .mpv _=>false
 | .agg ps=>closedL ps
 | .tup vs=>closedL vs
 | .iface _ x=>closedV x
 | .fn _ a b=>closedL a&&closedL b
 |_=>true
def closedL:List SV→Bool
 | []=>true
 |x::xs=>closedV x&&closedL xs
end
mutual
theorem closedV_uses {j:Nat}:∀{v:SV},closedV v=true→uses j v=false
 | .ptr _ _ _,h=>by simp [closedV] at h
 | .sl _ _ _ _ _ _ _ _,h=>by simp [closedV] at h
 | .rsl _ _ _ _ _,h=>by simp [closedV] at h
 | .rptr _ _ _ _ _,h=>by simp [closedV] at h
 | .mpv _,h=>by simp [closedV] at h
 | .agg ps,h=>by simpa only [uses] using closedL_uses (j:=j) (by simpa only [closedV] using h)
 | .tup ps,h=>by simpa only [uses] using closedL_uses (j:=j) (by simpa only [closedV] using h)
 | .iface _ x,h=>by simpa only [uses] using closedV_uses (j:=j) (v:=x) (by simpa only [closedV] using h)
 | .fn _ a b,h=>by
  simp only [closedV,Bool.and_eq_true] at h
  simp only [uses,Bool.or_eq_false_iff]
  exact ⟨closedL_uses h.1,closedL_uses h.2⟩
 | .bool _,_=>rfl
 | .int _ _,_=>rfl
 | .str _,_=>rfl
 | .nl _,_=>rfl
 | .ints _ _ _,_=>rfl
 | .ro _ _ _,_=>rfl
 | .rob _ _,_=>rfl
 | .rol _ _ _ _,_=>rfl
 | .rpi _ _ _,_=>rfl
 | .rpb _ _ _,_=>rfl
 | .rpl _ _ _ _ _ _ _,_=>rfl
 | .rows _ _ _,_=>rfl
 | .glb _ _,_=>rfl
theorem closedL_uses {j:Nat}:∀{vs:List SV},closedL vs=true→usesL j vs=false
 | [],_=>rfl
 |x::xs,h=>by
  simp only [closedL,Bool.and_eq_true] at h
  simp only [usesL,Bool.or_eq_false_iff]
  exact ⟨closedV_uses h.1,closedL_uses h.2⟩
end
theorem RoI.mono {e e':Env} (hz:∀n o,e.z n=some o→e'.z n=some o) (hn:e'.n0≤e.n0) {f:Bool} {k:IntKind} {xs:List Int} {v:Value} (h:RoI e f k xs v):RoI e' f k xs v:=by
 rcases h with h|⟨n,o,cap,c,t,fr,h1,h2,h3,h4,h5,h6⟩
 ·exact .inl h
 ·exact .inr ⟨n,o,cap,c,t,fr,h1,hz _ _ h2,fun q=>Nat.le_trans hn (h3 q),h4,h5,h6⟩
theorem RoB.mono {e e':Env} (hz:∀n o,e.z n=some o→e'.z n=some o) (hn:e'.n0≤e.n0) {f:Bool} {xss:List (List Int)} {v:Value} (h:RoB e f xss v):RoB e' f xss v:=by
 rcases h with h|⟨n,o,cap,c,t,fr,h1,h2,h3,h4,h5,h6⟩
 ·exact .inl h
 ·exact .inr ⟨n,o,cap,c,t,fr,h1,hz _ _ h2,fun q=>Nat.le_trans hn (h3 q),fun i xs hi=>(h4 i xs hi).imp fun y ⟨a,b⟩=>⟨a,b.mono hz hn⟩,h5,h6⟩
mutual
theorem VR.mono' {e e':Env} (hz:∀n o,e.z n=some o→e'.z n=some o) (hn:e'.n0≤e.n0):∀(v:SV) (v':Value),(∀j p,uses j v=true→e.r j=some p→e'.r j=some p)→VR e v v'→VR e' v v'
 | .bool _,_,_,h=>h
 | .int _ _,_,_,h=>h
 | .str _,_,_,h=>h
 | .nl _,_,_,h=>h
 | .ints _ _ _,_,_,h=>h
 | .ptr b _ _,_,g,⟨p,h1,h2⟩=>⟨p,g b p (by simp [uses]) h1,h2⟩
 | .sl b _ _ _ _ _ _ _,_,g,h=>by
  rcases h with h|⟨p,c,a,h1,h2⟩
  ·exact .inl h
  ·exact .inr ⟨p,c,a,g b p (by simp [uses]) h1,h2⟩
 | .ro _ _ _,_,_,h=>RoI.mono hz hn h
 | .rob _ _,_,_,h=>RoB.mono hz hn h
 | .rol f z len g,_,_,h=>by
  rcases h with h|⟨n,o,cap,c,t,fr,h1,h2,h3,h4,h5,h6⟩
  ·exact .inl h
  ·exact .inr ⟨n,o,cap,c,t,fr,h1,hz _ _ h2,fun q=>Nat.le_trans hn (h3 q),fun i hi=>PR.mono' (e:=⟨fun _=>none,e.z,e.n0,[],fun _=>none⟩) (e':=⟨fun _=>none,e'.z,e'.n0,[],fun _=>none⟩) hz hn (g i) _ (fun _ _ _ q=>by cases q) (h4 i hi),h5,h6⟩
 | .rpi _ _ _,_,_,⟨n,o,c,t,fr,h1,h2,h3⟩=>⟨n,o,c,t,fr,h1,hz _ _ h2,h3⟩
 | .rpb _ _ _,_,_,⟨n,o,c,t,fr,h1,h2,h3⟩=>⟨n,o,c,t,fr,h1,hz _ _ h2,fun i xs hi=>(h3 i xs hi).imp fun y ⟨a,b⟩=>⟨a,b.mono hz hn⟩⟩
 | .rpl _ z len g el o i,_,_,⟨n,o0,c,t,fr,h1,h2,h3,h4⟩=>
  ⟨n,o0,c,t,fr,h1,hz _ _ h2,fun i hi=>PR.mono' (e:=⟨fun _=>none,e.z,e.n0,[],fun _=>none⟩) (e':=⟨fun _=>none,e'.z,e'.n0,[],fun _=>none⟩) hz hn (g i) _ (fun _ _ _ q=>by cases q) (h3 i hi),h4⟩
 | .agg ps,_,g,⟨ys,h1,h2⟩=>⟨ys,PR.mono' hz hn ps ys (fun j p q=>g j p (by simpa [uses] using q)) h1,h2⟩
 | .tup vs,_,g,⟨ys,h1,h2⟩=>⟨ys,LR.mono' hz hn vs ys (fun j p q=>g j p (by simpa [uses] using q)) h1,h2⟩
 | .iface _ x,_,g,⟨y,h1,h2⟩=>⟨y,VR.mono' hz hn x y (fun j p q=>g j p (by simpa [uses] using q)) h1,h2⟩
 | .fn _ a b,_,g,⟨ys,us,h1,h2,h3⟩=>
  ⟨ys,us,LR.mono' hz hn a ys (fun j p q=>g j p (by simp [uses,q])) h1,LR.mono' hz hn b us (fun j p q=>g j p (by simp [uses,q])) h2,h3⟩
 | .rows _ _ _,_,_,h=>h
 | .rsl b _ _ _ _,_,g,h=>by
  rcases h with h|⟨p,c,a,h1,h2⟩
  ·exact .inl h
  ·exact .inr ⟨p,c,a,g b p (by simp [uses]) h1,h2⟩
 | .rptr b _ _ _ _,_,g,⟨p,h1,h2⟩=>⟨p,g b p (by simp [uses]) h1,h2⟩
 | .mpv b,_,g,⟨p,h1,h2⟩=>⟨p,g b p (by simp [uses]) h1,h2⟩
 | .glb _ _,_,_,h=>h
theorem LR.mono' {e e':Env} (hz:∀n o,e.z n=some o→e'.z n=some o) (hn:e'.n0≤e.n0):∀(vs:List SV) (ys:List Value),(∀j p,usesL j vs=true→e.r j=some p→e'.r j=some p)→LR e vs ys→LR e' vs ys
 | [],_,_,h=>h
 |x::xs,_,g,⟨y,zs,h1,h2,h3⟩=>⟨y,zs,VR.mono' hz hn x y (fun j p q=>g j p (by simp [usesL,q])) h1,LR.mono' hz hn xs zs (fun j p q=>g j p (by simp [usesL,q])) h2,h3⟩
theorem PR.mono' {e e':Env} (hz:∀n o,e.z n=some o→e'.z n=some o) (hn:e'.n0≤e.n0):∀(vs:List SV) (ys:List Value),(∀j p,usesL j vs=true→e.r j=some p→e'.r j=some p)→PR e vs ys→PR e' vs ys
 | [],_,_,h=>h
 |x::xs,ys,g,h=>by
  have ih:=fun zs=>PR.mono' hz hn xs zs (fun j p q=>g j p (by simp [usesL,q]))
  have iv:=fun y=>VR.mono' hz hn x y (fun j p q=>g j p (by simp [usesL,q]))
  cases x<;>first
   |(obtain ⟨zs,h1,h2⟩:=h;exact ⟨zs,ih zs h1,h2⟩)
   |(rename_i z n gg;obtain ⟨us,zs,h0,h1,h2,h3⟩:=h;exact ⟨us,zs,h0,fun i hi=>PR.mono' (e:=⟨fun _=>none,e.z,e.n0,[],fun _=>none⟩) (e':=⟨fun _=>none,e'.z,e'.n0,[],fun _=>none⟩) hz hn (gg i) _ (fun _ _ _ q=>by cases q) (h1 i hi),ih zs h2,h3⟩)
   |(obtain ⟨y,zs,h1,h2,h3⟩:=h;exact ⟨y,zs,iv y h1,ih zs h2,h3⟩)
end
mutual
theorem VR.ren {s:Nat→Nat} {e e':Env} (hz:∀n o,e.z n=some o→e'.z n=some o) (hn:e'.n0≤e.n0):∀(v:SV) (v':Value),(∀j p,uses j v=true→e.r j=some p→e'.r (s j)=some p)→VR e v v'→VR e' (Sy.ren s v) v'
 | .bool _,_,_,h=>h
 | .int _ _,_,_,h=>h
 | .str _,_,_,h=>h
 | .nl _,_,_,h=>h
 | .ints _ _ _,_,_,h=>h
 | .ptr b _ _,_,g,⟨p,h1,h2⟩=>⟨p,g b p (by simp [uses]) h1,h2⟩
 | .sl b _ _ _ _ _ _ _,_,g,h=>by
  rcases h with h|⟨p,c,a,h1,h2⟩
  ·exact .inl h
  ·exact .inr ⟨p,c,a,g b p (by simp [uses]) h1,h2⟩
 | .ro f k xs,v',_,h=>VR.mono' hz hn (.ro f k xs) v' (fun _ _ q=>by cases q) h
 | .rob f xss,v',_,h=>VR.mono' hz hn (.rob f xss) v' (fun _ _ q=>by cases q) h
 | .rol f z len g,v',_,h=>VR.mono' hz hn (.rol f z len g) v' (fun _ _ q=>by cases q) h
 | .rpi k xs i,v',_,h=>VR.mono' hz hn (.rpi k xs i) v' (fun _ _ q=>by cases q) h
 | .rpb f xss i,v',_,h=>VR.mono' hz hn (.rpb f xss i) v' (fun _ _ q=>by cases q) h
 | .rpl f z len g a b c,v',_,h=>VR.mono' hz hn (.rpl f z len g a b c) v' (fun _ _ q=>by cases q) h
 | .agg ps,_,g,⟨ys,h1,h2⟩=>⟨ys,PR.ren hz hn ps ys (fun j p q=>g j p (by simpa [uses] using q)) h1,h2⟩
 | .tup vs,_,g,⟨ys,h1,h2⟩=>⟨ys,LR.ren hz hn vs ys (fun j p q=>g j p (by simpa [uses] using q)) h1,h2⟩
 | .iface _ x,_,g,⟨y,h1,h2⟩=>⟨y,VR.ren hz hn x y (fun j p q=>g j p (by simpa [uses] using q)) h1,h2⟩
 | .fn _ a b,_,g,⟨ys,us,h1,h2,h3⟩=>
  ⟨ys,us,LR.ren hz hn a ys (fun j p q=>g j p (by simp [uses,q])) h1,LR.ren hz hn b us (fun j p q=>g j p (by simp [uses,q])) h2,h3⟩
 | .rows _ _ _,_,_,h=>h
 | .rsl b _ _ _ _,_,g,h=>by
  rcases h with h|⟨p,c,a,h1,h2⟩
  ·exact .inl h
  ·exact .inr ⟨p,c,a,g b p (by simp [uses]) h1,h2⟩
 | .rptr b _ _ _ _,_,g,⟨p,h1,h2⟩=>⟨p,g b p (by simp [uses]) h1,h2⟩
 | .mpv b,_,g,⟨p,h1,h2⟩=>⟨p,g b p (by simp [uses]) h1,h2⟩
 | .glb _ _,_,_,h=>h
theorem LR.ren {s:Nat→Nat} {e e':Env} (hz:∀n o,e.z n=some o→e'.z n=some o) (hn:e'.n0≤e.n0):∀(vs:List SV) (ys:List Value),(∀j p,usesL j vs=true→e.r j=some p→e'.r (s j)=some p)→LR e vs ys→LR e' (renL s vs) ys
 | [],_,_,h=>h
 |x::xs,_,g,⟨y,zs,h1,h2,h3⟩=>⟨y,zs,VR.ren hz hn x y (fun j p q=>g j p (by simp [usesL,q])) h1,LR.ren hz hn xs zs (fun j p q=>g j p (by simp [usesL,q])) h2,h3⟩
theorem PR.ren {s:Nat→Nat} {e e':Env} (hz:∀n o,e.z n=some o→e'.z n=some o) (hn:e'.n0≤e.n0):∀(vs:List SV) (ys:List Value),(∀j p,usesL j vs=true→e.r j=some p→e'.r (s j)=some p)→PR e vs ys→PR e' (renL s vs) ys
 | [],_,_,h=>h
 |x::xs,ys,g,h=>by
  have ih:=fun zs=>PR.ren hz hn xs zs (fun j p q=>g j p (by simp [usesL,q]))
  have iv:=fun y=>VR.ren hz hn x y (fun j p q=>g j p (by simp [usesL,q]))
  cases x<;>first
   |(obtain ⟨zs,h1,h2⟩:=h;exact ⟨zs,ih zs h1,h2⟩)
   |(rename_i z n gg;obtain ⟨us,zs,h0,h1,h2,h3⟩:=h;exact ⟨us,zs,h0,fun i hi=>PR.mono' (e:=⟨fun _=>none,e.z,e.n0,[],fun _=>none⟩) (e':=⟨fun _=>none,e'.z,e'.n0,[],fun _=>none⟩) hz hn (gg i) _ (fun _ _ _ q=>by cases q) (h1 i hi),ih zs h2,h3⟩)
   |(obtain ⟨y,zs,h1,h2,h3⟩:=h;exact ⟨y,zs,iv y h1,ih zs h2,h3⟩)
end
structure Env.Le (e e':Env):Prop where
 r:∀j p,e.r j=some p→e'.r j=some p
 z:∀n o,e.z n=some o→e'.z n=some o
 n0:e'.n0≤e.n0
theorem Env.Le.refl (e:Env):Env.Le e e:=⟨fun _ _ h=>h,fun _ _ h=>h,Nat.le_refl _⟩
theorem Env.Le.trans {a b c:Env} (h:Env.Le a b) (g:Env.Le b c):Env.Le a c:=⟨fun j p q=>g.r j p (h.r j p q),fun n o q=>g.z n o (h.z n o q),Nat.le_trans g.n0 h.n0⟩
theorem VR.mono {e e':Env} (h:Env.Le e e') {v:SV} {v':Value} (g:VR e v v'):VR e' v v':=VR.mono' h.z h.n0 v v' (fun j p _ q=>h.r j p q) g
theorem LR.mono {e e':Env} (h:Env.Le e e') {v:List SV} {v':List Value} (g:LR e v v'):LR e' v v':=LR.mono' h.z h.n0 v v' (fun j p _ q=>h.r j p q) g
theorem PR.mono {e e':Env} (h:Env.Le e e') {v:List SV} {v':List Value} (g:PR e v v'):PR e' v v':=PR.mono' h.z h.n0 v v' (fun j p _ q=>h.r j p q) g
section
variable {e:Env}
theorem LR.length:∀{xs:List SV} {ys:List Value},LR e xs ys→ys.length=xs.length
 | [],_,h=>by rw [LR] at h;subst h;rfl
 |_::xs,_,⟨_,_,_,h,q⟩=>by subst q;simp [LR.length h]
theorem LR.get:∀{xs:List SV} {ys:List Value} {i:Nat} {x:SV},LR e xs ys→xs[i]? =some x→∃y,ys[i]? =some y∧VR e x y
 | [],_,_,_,_,h=>by simp at h
 |a::xs,_,0,x,⟨y,zs,hy,_,q⟩,h=>by subst q;simp at h;subst h;exact ⟨y,rfl,hy⟩
 |a::xs,_,i+1,x,⟨y,zs,_,hz,q⟩,h=>by subst q;simp at h;obtain ⟨u,hu,hv⟩:=LR.get hz h;exact ⟨u,by simpa using hu,hv⟩
theorem LR.append:∀{xs us:List SV} {ys vs:List Value},LR e xs ys→LR e us vs→LR e (xs++us) (ys++vs)
 | [],_,_,_,h,g=>by rw [LR] at h;subst h;exact g
 |_::xs,_,_,_,⟨y,zs,hy,hz,q⟩,h=>by subst q;exact ⟨y,_,hy,LR.append hz h,rfl⟩
theorem LR.one {x:SV} {y:Value} (h:VR e x y):LR e [x] [y]:=⟨y,[],h,rfl,rfl⟩
def psz:SV→Nat
 | .ints _ n _=>n
 | .rows z n _=>n*z
 |_=>1
def psize:List SV→Nat
 | []=>0
 |p::ps=>psz p+psize ps
def isI:SV→Bool
 | .ints _ _ _=>true
 |_=>false
def notInts:SV→Bool
 | .ints _ _ _=>false
 | .rows _ _ _=>false
 |_=>true
theorem PR.cons {x:SV} {xs:List SV} {ys:List Value} (hx:notInts x=true):PR e (x::xs) ys↔∃y zs,VR e x y∧PR e xs zs∧ys=y::zs:=by
 cases x<;>first|rfl|cases hx
theorem PR.consInts {k:IntKind} {n:Nat} {l:List Int} {xs:List SV} {ys:List Value}:PR e (.ints k n l::xs) ys↔∃zs,PR e xs zs∧ys=intsV k (lst n l)++zs:=Iff.rfl
theorem PR.consRows {z n:Nat} {g:Nat→List SV} {xs:List SV} {ys:List Value}:PR e (.rows z n g::xs) ys↔∃us zs,us.length=n*z∧(∀i,i<n→PR ⟨fun _=>none,e.z,e.n0,[],fun _=>none⟩ (g i) ((us.drop (i*z)).take z))∧PR e xs zs∧ys=us++zs:=Iff.rfl
theorem psz_one {x:SV} (hx:notInts x=true):psz x=1:=by cases x<;>first|rfl|cases hx
theorem PR.length:∀{ps:List SV} {ys:List Value},PR e ps ys→ys.length=psize ps
 | [],_,h=>by rw [PR] at h;subst h;rfl
 |x::xs,ys,h=>by
  by_cases hx:notInts x=true
  ·rw [PR.cons hx] at h
   obtain ⟨y,zs,_,h2,rfl⟩:=h
   simp [psize,psz_one hx,PR.length h2];omega
  ·cases x<;>simp [notInts] at hx
   ·obtain ⟨zs,h2,rfl⟩:=h
    simp [psize,psz,PR.length h2,intsV_length,lst_length]
   ·obtain ⟨us,zs,h0,_,h2,rfl⟩:=h
    simp [psize,psz,PR.length h2,h0]
theorem PR.append:∀{ps qs:List SV} {ys zs:List Value},PR e ps ys→PR e qs zs→PR e (ps++qs) (ys++zs)
 | [],_,_,_,h,g=>by rw [PR] at h;subst h;exact g
 |x::xs,qs,ys,zs,h,g=>by
  rw [List.cons_append]
  by_cases hx:notInts x=true
  ·rw [PR.cons hx] at h ⊢
   obtain ⟨y,us,h1,h2,rfl⟩:=h
   exact ⟨y,_,h1,PR.append h2 g,rfl⟩
  ·cases x<;>simp [notInts] at hx
   ·obtain ⟨us,h2,rfl⟩:=h
    exact ⟨_,PR.append h2 g,by rw [List.append_assoc]⟩
   ·obtain ⟨us,vs,h0,h1,h2,rfl⟩:=h
    exact ⟨us,_,h0,h1,PR.append h2 g,by rw [List.append_assoc]⟩
def dropP:List SV→Nat→Option (List SV)
 |ps,0=>some ps
 | [],_+1=>none
 |p::ps,o+1=>match p with
  | .ints k n xs=>match Nat.ble n (o+1) with
   |true=>dropP ps (o+1-n)
   |false=>some (.ints k (n-(o+1)) (xs.drop (o+1))::ps)
  | .rows _ _ _=>none
  |_=>dropP ps o
def takeP:List SV→Nat→Option (List SV)
 |_,0=>some []
 | [],_+1=>none
 |p::ps,n+1=>match p with
  | .ints k m xs=>match Nat.ble m (n+1) with
   |true=>(takeP ps (n+1-m)).map (p:: ·)
   |false=>some [.ints k (n+1) (xs.take (n+1))]
  | .rows _ _ _=>none
  |_=>(takeP ps n).map (p:: ·)
def cellP:List SV→Nat→Nat→Option (SV×Bool)
 | [],_,_=>none
 |p::ps,o,i=>match p with
  | .ints k n xs=>match o with
   |0=>some (.int k (xs.getD i 0),decide (i<n))
   |o+1=>match Nat.ble n (o+1) with
    |true=>cellP ps (o+1-n) i
    |false=>some (.int k (xs.getD (o+1+i) 0),decide (o+1+i<n))
  | .rows _ _ _=>none
  |p=>match o with
   |0=>match i with
    |0=>some (p,true)
    |i+1=>cellP ps 0 i
   |o+1=>cellP ps o i
def nilC:Value→Option Nat
 | .pointer none=>some 0
 | .slice none 0 0=>some 1
 | .map none=>some 2
 | .chan none=>some 3
 | .nilFunc=>some 4
 | .nilIface=>some 5
 |_=>none
def one:SV→Bool
 | .ints _ _ _| .agg _| .tup _| .rows _ _ _=>false
 | .nl v=>(nilC v).isSome
 |_=>true
def setI (k:IntKind) (n:Nat) (xs:List Int) (j:Nat) (ps:List SV):SV→Option (List SV×Bool)
 | .int k' m=>if k=k' then some (.ints k n (xs.set j m)::ps,decide (j<n)&&decide (xs.length=n)) else none
 |_=>none
def setP:List SV→Nat→Nat→SV→Option (List SV×Bool)
 | [],_,_,_=>none
 |p::ps,o,i,v=>match p with
  | .ints k n xs=>match o with
   |0=>setI k n xs i ps v
   |o+1=>match Nat.ble n (o+1) with
    |true=>(setP ps (o+1-n) i v).map fun q=>(p::q.1,q.2)
    |false=>setI k n xs (o+1+i) ps v
  | .rows _ _ _=>none
  |_=>match o with
   |0=>match i with
    |0=>if one v then some (v::ps,true) else none
    |i+1=>(setP ps 0 i v).map fun q=>(p::q.1,q.2)
   |o+1=>(setP ps o i v).map fun q=>(p::q.1,q.2)
theorem dropP_sound:∀{ps qs:List SV} {o:Nat} {ys:List Value},dropP ps o=some qs→PR e ps ys→PR e qs (ys.drop o)∧o≤ys.length
 |ps,qs,0,ys,h,g=>by
  have:dropP ps 0=some ps:=by cases ps<;>rfl
  rw [this] at h;cases h;exact ⟨by simpa using g,Nat.zero_le _⟩
 | [],qs,o+1,ys,h,g=>by simp [dropP] at h
 |x::xs,qs,o+1,ys,h,g=>by
  by_cases hx:notInts x=true
  ·have h':dropP xs o=some qs:=by cases x<;>first|exact h|cases hx
   rw [PR.cons hx] at g
   obtain ⟨y,zs,_,h2,rfl⟩:=g
   obtain ⟨h3,h4⟩:=dropP_sound h' h2
   exact ⟨by simpa using h3,by simp;omega⟩
  ·cases x<;>simp [notInts] at hx
   case rows=>simp [dropP] at h
   rename_i k n l
   obtain ⟨zs,h2,rfl⟩:=g
   simp only [dropP] at h
   split at h
   ·rename_i hb
    have hle:=Nat.le_of_ble_eq_true hb
    obtain ⟨h3,h4⟩:=dropP_sound h h2
    refine ⟨?_,by simp [intsV_length,lst_length];omega⟩
    rw [List.drop_append]
    rw [List.drop_eq_nil_of_le (by rw [intsV_length,lst_length];exact hle),intsV_length,lst_length]
    exact h3
   ·rename_i hb
    cases h
    have hlt:o+1<n:=by
     rcases Nat.lt_or_ge (o+1) n with q|q
     ·exact q
     ·rw [Nat.ble_eq_true_of_le q] at hb;cases hb
    refine ⟨⟨zs,h2,?_⟩,by simp [intsV_length,lst_length];omega⟩
    rw [List.drop_append_of_le_length (by rw [intsV_length,lst_length];omega),lst_drop,intsV_drop]
theorem takeP_sound:∀{ps qs:List SV} {n:Nat} {ys:List Value},takeP ps n=some qs→PR e ps ys→PR e qs (ys.take n)∧n≤ys.length
 |ps,qs,0,ys,h,g=>by
  have:takeP ps 0=some []:=by cases ps<;>rfl
  rw [this] at h;cases h;exact ⟨by simp [PR],Nat.zero_le _⟩
 | [],qs,n+1,ys,h,g=>by simp [takeP] at h
 |x::xs,qs,n+1,ys,h,g=>by
  by_cases hx:notInts x=true
  ·have h':(takeP xs n).map (x:: ·)=some qs:=by cases x<;>first|exact h|cases hx
   obtain ⟨qs',h1,rfl⟩:=Option.map_eq_some_iff.1 h'
   rw [PR.cons hx] at g
   obtain ⟨y,zs,h0,h2,rfl⟩:=g
   obtain ⟨h3,h4⟩:=takeP_sound h1 h2
   exact ⟨by rw [PR.cons hx];exact ⟨y,_,h0,h3,by simp⟩,by simp;omega⟩
  ·cases x<;>simp [notInts] at hx
   case rows=>simp [takeP] at h
   rename_i k m l
   obtain ⟨zs,h2,rfl⟩:=g
   simp only [takeP] at h
   split at h
   ·rename_i hb
    have hle:=Nat.le_of_ble_eq_true hb
    obtain ⟨qs',h1,rfl⟩:=Option.map_eq_some_iff.1 h
    obtain ⟨h3,h4⟩:=takeP_sound h1 h2
    refine ⟨⟨_,h3,?_⟩,by simp [intsV_length,lst_length];omega⟩
    rw [List.take_append,List.take_of_length_le (by rw [intsV_length,lst_length];exact hle),intsV_length,lst_length]
   ·rename_i hb
    cases h
    have hlt:n+1<m:=by
     rcases Nat.lt_or_ge (n+1) m with q|q
     ·exact q
     ·rw [Nat.ble_eq_true_of_le q] at hb;cases hb
    refine ⟨⟨[],rfl,?_⟩,by simp [intsV_length,lst_length];omega⟩
    rw [List.take_append_of_le_length (by rw [intsV_length,lst_length];omega),lst_take (Nat.le_of_lt hlt),intsV_take,List.append_nil]
theorem PR.getInts {k:IntKind} {n j:Nat} {l:List Int} {zs:List Value} (h:j<n):(intsV k (lst n l)++zs)[j]? =some (.int k (l.getD j 0)):=by
 rw [List.getElem?_append_left (by rw [intsV_length,lst_length];exact h)]
 simp [intsV,lst_get l h]
theorem cellP_sound:∀{ps:List SV} {o i:Nat} {ys:List Value} {v:SV},cellP ps o i=some (v,true)→PR e ps ys→∃y,ys[o+i]? =some y∧VR e v y
 | [],o,i,ys,v,h,g=>by simp [cellP] at h
 |x::xs,o,i,ys,v,h,g=>by
  by_cases hx:notInts x=true
  ·rw [PR.cons hx] at g
   obtain ⟨y,zs,h0,h2,rfl⟩:=g
   cases o with
   |zero=>
    cases i with
    |zero=>
     have:v=x:=by cases x<;>simp [cellP,notInts] at h hx<;>exact h.symm
     subst this
     exact ⟨y,by simp,h0⟩
    |succ i=>
     have h':cellP xs 0 i=some (v,true):=by cases x<;>first|exact h|cases hx
     obtain ⟨u,hu,hv⟩:=cellP_sound h' h2
     exact ⟨u,by simpa [Nat.add_comm,Nat.add_left_comm] using hu,hv⟩
   |succ o=>
    have h':cellP xs o i=some (v,true):=by cases x<;>first|exact h|cases hx
    obtain ⟨u,hu,hv⟩:=cellP_sound h' h2
    exact ⟨u,by rw [show o+1+i=o+i+1 by omega];simpa using hu,hv⟩
  ·cases x<;>simp [notInts] at hx
   case rows=>simp [cellP] at h
   rename_i k n l
   obtain ⟨zs,h2,rfl⟩:=g
   simp only [cellP] at h
   split at h
   ·simp only [Option.some.injEq,Prod.mk.injEq,decide_eq_true_eq] at h
    obtain ⟨rfl,h⟩:=h
    exact ⟨_,by rw [Nat.zero_add,PR.getInts h],rfl⟩
   ·rename_i o
    split at h
    ·rename_i hb
     have hle:=Nat.le_of_ble_eq_true hb
     obtain ⟨u,hu,hv⟩:=cellP_sound h h2
     refine ⟨u,?_,hv⟩
     rw [List.getElem?_append_right (by rw [intsV_length,lst_length];omega),intsV_length,lst_length]
     rw [←hu];congr 1;omega
    ·simp only [Option.some.injEq,Prod.mk.injEq,decide_eq_true_eq] at h
     obtain ⟨rfl,h⟩:=h
     exact ⟨_,by rw [PR.getInts h],rfl⟩
theorem nilC_one {v:Value} (h:(nilC v).isSome=true):v.oneCell'=true:=by
 cases v<;>first|rfl|(simp [nilC] at h)
theorem VR.oneCell {v:SV} {v':Value} (h:VR e v v') (ho:one v=true):v'.oneCell'=true:=by
 cases v with
 |nl x=>rw [VR] at h;subst h;exact nilC_one ho
 |ints=>cases ho
 |agg=>cases ho
 |tup=>cases ho
 |bool=>rw [VR] at h;subst h;rfl
 |int=>rw [VR] at h;subst h;rfl
 |str=>obtain ⟨s,rfl,_⟩:=h;rfl
 |ptr=>obtain ⟨p,_,rfl⟩:=h;rfl
 |sl=>
  rcases h with ⟨_,_,a,rfl⟩|⟨p,c,a,_,rfl,_⟩<;>rfl
 |ro=>
  rcases h with ⟨_,a,c,rfl,_⟩|⟨n,o,cap,c,t,fr,rfl,_⟩<;>rfl
 |rob=>
  rcases h with ⟨_,a,c,rfl,_⟩|⟨n,o,cap,c,t,fr,rfl,_⟩<;>rfl
 |rol=>
  rcases h with ⟨_,a,c,rfl,_⟩|⟨n,o,cap,c,t,fr,rfl,_⟩<;>rfl
 |rpi=>obtain ⟨n,o,c,t,fr,rfl,_⟩:=h;rfl
 |rpb=>obtain ⟨n,o,c,t,fr,rfl,_⟩:=h;rfl
 |rpl=>obtain ⟨n,o,c,t,fr,rfl,_⟩:=h;rfl
 |iface=>obtain ⟨y,_,rfl⟩:=h;rfl
 |fn=>obtain ⟨ys,us,_,_,rfl⟩:=h;rfl
 |rows=>cases ho
 |rsl=>
  rcases h with ⟨_,_,a,rfl⟩|⟨p,c,a,_,rfl,_⟩<;>rfl
 |rptr=>obtain ⟨p,_,rfl⟩:=h;rfl
 |mpv=>obtain ⟨p,_,rfl⟩:=h;rfl
 |glb=>rw [VR] at h;subst h;rfl
theorem setI_sound {k:IntKind} {n j:Nat} {l:List Int} {ps qs:List SV} {v:SV} {y:Value} {zs:List Value} (h:setI k n l j ps v=some (qs,true)) (g:PR e ps zs) (hv:VR e v y):
  PR e qs ((intsV k (lst n l)++zs).set j y)∧j<n:=by
 unfold setI at h
 split at h
 ·rename_i k' m
  split at h
  ·rename_i hk
   subst hk
   simp only [Option.some.injEq,Prod.mk.injEq,Bool.and_eq_true,decide_eq_true_eq] at h
   obtain ⟨rfl,h1,h2⟩:=h
   rw [VR] at hv
   subst hv
   refine ⟨⟨zs,g,?_⟩,h1⟩
   rw [List.set_append_left _ _ (by rw [intsV_length,lst_length];exact h1),lst_eq h2,lst_eq (by simp [h2])]
   simp [intsV,List.map_set]
  ·cases h
 ·cases h
theorem setP_sound:∀{ps qs:List SV} {o i:Nat} {ys:List Value} {v:SV} {y:Value},setP ps o i v=some (qs,true)→PR e ps ys→VR e v y→PR e qs (ys.set (o+i) y)∧o+i<ys.length
 | [],qs,o,i,ys,v,y,h,g,hv=>by simp [setP] at h
 |x::xs,qs,o,i,ys,v,y,h,g,hv=>by
  by_cases hx:notInts x=true
  ·rw [PR.cons hx] at g
   obtain ⟨u,zs,h0,h2,rfl⟩:=g
   have hrec:∀{o i:Nat},((setP xs o i v).map fun q=>(x::q.1,q.2))=some (qs,true)→PR e qs (u::zs.set (o+i) y)∧o+i<zs.length:=fun h=>by
    obtain ⟨⟨q1,q2⟩,h1,h'⟩:=Option.map_eq_some_iff.1 h
    simp only [Prod.mk.injEq] at h'
    obtain ⟨rfl,rfl⟩:=h'
    obtain ⟨h3,h4⟩:=setP_sound h1 h2 hv
    exact ⟨by rw [PR.cons hx];exact ⟨u,_,h0,h3,rfl⟩,h4⟩
   cases o with
   |zero=>
    cases i with
    |zero=>
     have h':(if one v then some (v::xs,true) else none)=some (qs,true):=by cases x<;>first|exact h|cases hx
     split at h'
     ·rename_i ho
      cases h'
      have hv2:notInts v=true:=by cases v<;>first|rfl|cases ho
      exact ⟨by rw [PR.cons hv2];exact ⟨y,zs,hv,h2,by simp⟩,by simp⟩
     ·cases h'
    |succ i=>
     have h':((setP xs 0 i v).map fun q=>(x::q.1,q.2))=some (qs,true):=by cases x<;>first|exact h|cases hx
     obtain ⟨h3,h4⟩:=hrec h'
     exact ⟨by rw [Nat.zero_add] at h3 ⊢;simpa using h3,by simp;omega⟩
   |succ o=>
    have h':((setP xs o i v).map fun q=>(x::q.1,q.2))=some (qs,true):=by cases x<;>first|exact h|cases hx
    obtain ⟨h3,h4⟩:=hrec h'
    exact ⟨by rw [show o+1+i=o+i+1 by omega];simpa using h3,by simp;omega⟩
  ·cases x<;>simp [notInts] at hx
   case rows=>simp [setP] at h
   rename_i k n l
   obtain ⟨zs,h2,rfl⟩:=g
   simp only [setP] at h
   split at h
   ·obtain ⟨h3,h4⟩:=setI_sound h h2 hv
    exact ⟨by rw [Nat.zero_add];exact h3,by simp [intsV_length,lst_length];omega⟩
   ·rename_i o
    split at h
    ·rename_i hb
     have hle:=Nat.le_of_ble_eq_true hb
     obtain ⟨⟨q1,q2⟩,h1,h'⟩:=Option.map_eq_some_iff.1 h
     simp only [Prod.mk.injEq] at h'
     obtain ⟨rfl,rfl⟩:=h'
     obtain ⟨h3,h4⟩:=setP_sound h1 h2 hv
     refine ⟨⟨_,h3,?_⟩,by simp [intsV_length,lst_length];omega⟩
     rw [List.set_append_right _ _ (by rw [intsV_length,lst_length];omega),intsV_length,lst_length]
     congr 2;omega
    ·obtain ⟨h3,h4⟩:=setI_sound h h2 hv
     exact ⟨h3,by simp [intsV_length,lst_length];omega⟩
def subP (ps:List SV) (o n:Nat):Option (List SV):=(dropP ps o).bind fun q=>takeP q n
theorem subP_sound {ps qs:List SV} {o n:Nat} {ys:List Value} (h:subP ps o n=some qs) (g:PR e ps ys):PR e qs ((ys.drop o).take n)∧o+n≤ys.length:=by
 obtain ⟨q,h1,h2⟩:=Option.bind_eq_some_iff.1 h
 obtain ⟨h3,h4⟩:=dropP_sound h1 g
 obtain ⟨h5,h6⟩:=takeP_sound h2 h3
 refine ⟨h5,?_⟩
 rw [List.length_drop] at h6;omega
def putP (ps:List SV) (o n:Nat) (new:List SV):Option (List SV):=match takeP ps o,dropP ps (o+n) with
 |some a,some b=>some (a++new++b)
 |_,_=>none
theorem putP_sound {ps qs new:List SV} {o n:Nat} {ys zs:List Value} (h:putP ps o n new=some qs) (g:PR e ps ys) (g':PR e new zs):PR e qs (ys.take o++zs++ys.drop (o+n))∧o+n≤ys.length:=by
 unfold putP at h
 split at h
 ·rename_i a b ha hb
  cases h
  obtain ⟨h1,_⟩:=takeP_sound ha g
  obtain ⟨h2,h3⟩:=dropP_sound hb g
  exact ⟨(h1.append g').append h2,h3⟩
 ·cases h
end
end Go.Sy
namespace Go.Sy
open Go
def gint:Nat→Option (IntKind×List Int):=fun g=>match Nat.beq g 1 with|true=>some (.u8,[0,1,56,2,57,49,28,3,61,58,42,50,38,29,17,4,62,47,59,36,45,43,51,22,53,39,33,30,24,18,12,5,63,55,48,27,60,41,37,16,46,35,44,21,52,32,23,11,54,26,40,15,34,20,31,10,25,14,19,9,13,8,7,6])|false=>none
def TR (e:Env) (t:List (Option SV)) (t':List Value):Prop:=
 t.length=t'.length∧∀(i:Nat) (v:SV) (v':Value),t[i]? =some (some v)→t'[i]? =some v'→VR e v v'
structure Lp where
 l:Nat
 t:List (Option SV)
 ps:Array Tmp
 asg:Code
 body:Code
 st:LoopState
 pend:Option Code
inductive Blk where
 |b (ps:List SV)
 |g (o:Option Lp)
abbrev Blk.gap : Blk := .g none
def gapOK (e:Env) (i:Nat) (g:Option Lp) (w:World):Prop:=match g with
 |none=>True
 |some L=>e.y i=some L.l∧∃r:Loop,w.heap[L.l]? =some (.loop r)∧r.params=L.ps∧r.assign=L.asg∧r.body=L.body∧r.state=L.st∧r.pending=L.pend∧TR e L.t r.tmps.toList
theorem gapOK.keep {e e':Env} {i:Nat} {g:Option Lp} {w w':World} (h:gapOK e i g w) (hk:∀(n:Nat) (r:Loop),w.heap[n]? =some (.loop r)→w'.heap[n]? =some (.loop r)) (hy:e'.y i=e.y i) (ht:∀L,g=some L→∀v v',some v∈L.t→VR e v v'→VR e' v v'):gapOK e' i g w':=by
 cases g with
 |none=>trivial
 |some L=>
  obtain ⟨h1,r,h2,h3,h4,h5,h6,h7,h8,h9⟩:=h
  exact ⟨by rw [hy];exact h1,r,hk _ _ h2,h3,h4,h5,h6,h7,h8,fun j v v' a b=>ht L rfl v v' (List.mem_of_getElem? a) (h9 j v v' a b)⟩
theorem gapOK.le {e e':Env} {i:Nat} {g:Option Lp} {w w':World} (h:gapOK e i g w) (hk:∀(n:Nat) (r:Loop),w.heap[n]? =some (.loop r)→w'.heap[n]? =some (.loop r)) (hy:e'.y i=e.y i) (hle:Env.Le e e'):gapOK e' i g w':=
 h.keep hk hy fun _ _ _ _ _ hv=>hv.mono hle
structure Base where
 w:World
 e:Env
 k:Nat
 l:List Nat
def SameOut (base size:Nat) (o o':Obj):Prop:=
 ∃(c c':Array Value) (t:TypeId) (fr:Nat×Nat),o= .cells c t fr∧o'= .cells c' t fr∧c'.size=c.size∧∀j,j<base∨base+size≤j→c'[j]? =c[j]?
def BR (e:Env) (p:Pl) (ps:List SV) (o:Obj):Prop:=
 ∃c t,o= .cells c t (0,0)∧p.base+p.size≤c.size∧psize ps≤p.size∧PR e ps ((c.toList.drop p.base).take (psize ps))
structure Rel (B:Base) (e:Env) (h:List Blk) (w:World):Prop where
 os:w.os=B.w.os
 tape:w.tape=B.w.tape
 output:w.output=B.w.output
 size:B.w.heap.size≤w.heap.size
 inj:∀(i j:Nat) (p q:Pl),e.r i=some p→e.r j=some q→p.n=q.n→i=j
 dom:∀(i:Nat) (p:Pl),e.r i=some p→i<h.length
 sep:∀(i:Nat) (p:Pl),e.r i=some p→e.z p.n=none
 zok:∀(n:Nat) (c:Array Value) (t:TypeId) (fr:Nat×Nat),e.z n=some (c,t,fr)→w.heap[n]? =some (.cells c t fr)
 zfresh:∀n x,e.z n=some x→B.e.z n=some x∨B.w.heap.size≤n
 glb:∀(g:Nat) (k:IntKind) (xs:List Int),gint g=some (k,xs)→∃c t fr,e.z g=some (c,t,fr)∧intsV k xs=c.toList.take xs.length
 news:∀(i:Nat) (p:Pl),e.r i=some p→B.e.r i=some p∨B.w.heap.size≤p.n
 keepr:∀(i:Nat) (p:Pl),B.e.r i=some p→e.r i=some p
 keepz:∀n x,B.e.z n=some x→e.z n=some x
 n0:e.n0=B.e.n0
 n0le:B.e.n0≤B.w.heap.size
 blk:∀(i:Nat) (ps:List SV),h[i]? =some (.b ps)→(psize ps=0∧e.r i=none)∨∃p o,e.r i=some p∧w.heap[p.n]? =some o∧BR e p ps o
 gap:∀(i:Nat) (g:Option Lp),h[i]? =some (.g g)→e.r i=none∧gapOK e i g w
 yi:∀(i j n:Nat),e.y i=some n→e.y j=some n→i=j
 yb:∀(i n:Nat),e.y i=some n→n∈B.l∨B.w.heap.size≤n
 old:∀n:Nat,n<B.w.heap.size→(∀(i:Nat) (p:Pl),B.e.r i=some p→p.n≠n)→n ∉ B.l→w.heap[n]? =B.w.heap[n]?
 win:∀(i:Nat) (p:Pl),B.e.r i=some p→∃o o',B.w.heap[p.n]? =some o∧w.heap[p.n]? =some o'∧SameOut p.base p.size o o'
 kr:∀(i:Nat) (p:Pl),B.e.r i=some p→i<B.k
 kle:B.k≤h.length
 mks:∀r,r∈e.m→w.heap[r]? =some (.deferred (some []))∧B.w.heap.size≤r
 mnd:e.m.Nodup
structure St where
 t:List (Option SV)
 h:List Blk
 ob:Bool
abbrev CallF:=FuncId→List SV→List Blk→Nat→Option (SV×List Blk×List Blk×Bool)
abbrev CallFn:=Fn→List SV→List Blk→Nat→Option (SV×List Blk×List Blk×Bool)
structure Ctr where
 g:CallF
 inl:FuncId→Option Func
 pf:FuncId→Nat
 nb:FuncId→Nat
 sym:Tmp→Option Bool
 inp:Tmp→Bool
 yc:Nat→List SV→List Blk→Option (SV×List Blk×Bool):=fun _ _ _=>none
def andT (a b:Bool):Bool:=match b with
 |true=>a
 |false=>false
theorem andT_iff {a b:Bool}:andT a b=true↔a=true∧b=true:=by cases a<;>cases b<;>decide
section
variable (P:Program)
def szOf (t:TypeId):Option Nat:=(P.info? t).map (·.size)
def zeroOf (t:TypeId):Option Value:=(P.info? t).bind (·.zero)
def aggB (t:TypeId):Option Bool:=(P.underlying t).map fun| .struct _=>true| .array _ _=>true|_=>false
def isInt (t:TypeId):Option IntKind:=match P.underlying t with
 |some (.int k)=>some k
 |_=>none
mutual
def ofV:Value→Option SV
 | .bool b=>some (.bool b)
 | .int k n=>some (.int k n)
 | .string s=>some (.str (strL s))
 | .pointer none=>some (.nl (.pointer none))
 | .slice none 0 0=>some (.nl (.slice none 0 0))
 | .map none=>some (.nl (.map none))
 | .chan none=>some (.nl (.chan none))
 | .nilFunc=>some (.nl .nilFunc)
 | .nilIface=>some (.nl .nilIface)
 | .tuple ⟨xs⟩=>(ofL xs).map .tup
 | .iface t x=>(ofV x).map (.iface t)
 | .func f ⟨xs⟩ ⟨ys⟩=>match ofL xs,ofL ys with
  |some a,some b=>some (.fn f a b)
  |_,_=>none
 |_=>none
def ofL:List Value→Option (List SV)
 | []=>some []
 |x::xs=>match ofV x,ofL xs with
  |some a,some b=>some (a::b)
  |_,_=>none
end
def ev (t:List (Option SV)):Operand→Option SV
 | .tmp i=>match t[i]? with
  |some (some v)=>some v
  |_=>none
 | .const v=>ofV v
 | .func f=>some (.fn (.func f) [] [])
 | .global g=>match gint g with
  |some _=>some (.glb g 0)
  |none=>none
def evL (t:List (Option SV)):List Operand→Option (List SV)
 | []=>some []
 |x::xs=>match ev t x,evL t xs with
  |some v,some vs=>some (v::vs)
  |_,_=>none
def evO (t:List (Option SV)):Option Operand→Option (Option SV)
 |none=>some none
 |some x=>(ev t x).map some
def zeroFs (g:TypeId→Option (List SV)):List Field→Option (List SV)
 | []=>some []
 |f::fs=>match g f.type,zeroFs g fs with
  |some a,some b=>some (a++b)
  |_,_=>none
def zeroP:Nat→TypeId→Option (List SV)
 |0,_=>none
 |d+1,t=>match P.underlying t with
  |some .bool=>some [.bool false]
  |some (.int k)=>some [.int k 0]
  |some .string=>some [.str []]
  |some (.pointer _)=>some [.nl (.pointer none)]
  |some (.slice _)=>some [.nl (.slice none 0 0)]
  |some (.map _ _)=>some [.nl (.map none)]
  |some (.func _ _ _)=>some [.nl .nilFunc]
  |some (.interface _)=>some [.nl .nilIface]
  |some (.array n e)=>match isInt P e with
   |some k=>some [.ints k n (List.replicate n 0)]
   |none=>(zeroP d e).map fun z=>(List.replicate n z).flatten
  |some (.struct fs)=>zeroFs (fun t=>zeroP d t) fs.toList
  |_=>none
def sameI (k:IntKind):List Int→List Value→Option (List Value)
 | [],ys=>some ys
 |a::as,.int k' b::ys=>if k=k'∧a=b then sameI k as ys else none
 |_::_,_=>none
def sameC:SV→Value→Bool
 | .bool a,.bool b=>a==b
 | .int k a,.int k' b=>decide (k=k')&&a==b
 | .str [],.string s=>s.data.toList.isEmpty
 | .nl v,w=>match nilC v,nilC w with
  |some a,some b=>a==b
  |_,_=>false
 |_,_=>false
def sameP:List SV→List Value→Bool
 | [],ys=>ys.isEmpty
 | .ints k n xs::ps,ys=>match sameI k xs ys with
  |some ys=>decide (xs.length=n)&&sameP ps ys
  |none=>false
 |p::ps,y::ys=>sameC p y&&sameP ps ys
 |_::_,[]=>false
def cellsL:Value→List Value
 | .agg ⟨cs⟩=>cs
 |v=>[v]
def zeroS (t:TypeId):Option (List SV):=match zeroOf P t,zeroP P 12 t with
 |some z,some ps=>if sameP ps (cellsL z) then some ps else none
 |_,_=>none
def partsOf:SV→List SV
 | .agg ps=>ps
 |v=>[v]
def ofParts (t:TypeId) (ps:List SV):Option SV:=match aggB P t with
 |some true=>some (.agg ps)
 |some false=>match ps with
  | [p]=>if one p then some p else none
  |_=>none
 |none=>none
def subI (ps:List SV) (o i n:Nat):Option (List SV×Bool):=match i with
 |0=>(subP ps o n).map fun q=>(q,true)
 |i+1=>match dropP ps o with
  |some (.ints k m xs::_)=>some ([.ints k n ((xs.drop (i+1)).take n)],decide (i+1+n≤m))
  |_=>none
def loadS (t:TypeId) (h:List Blk):SV→Option (SV×Bool)
 | .ptr b o i=>match h[b]? with
  |some (.b ps)=>match aggB P t with
   |some true=>match szOf P t with
    |some n=>(subI ps o i n).map fun q=>(.agg q.1,q.2)
    |none=>none
   |some false=>cellP ps o i
   |none=>none
  |_=>none
 | .rpi k xs i=>match aggB P t with
  |some true=>match szOf P t with
   |some n=>some (.agg [.ints k n ((xs.drop i).take n)],decide (0<n)&&decide (i+n≤xs.length))
   |none=>none
  |some false=>some (.int k (xs.getD i 0),decide (i<xs.length))
  |none=>none
 | .rpb f xss i=>match aggB P t with
  |some false=>some (.ro f .u8 (xss.getD i []),decide (i<xss.length))
  |_=>none
 | .rpl _ z len g e o i=>match aggB P t with
  |some true=>match szOf P t with
   |some n=>(subI (g e) o i n).map fun q=>(.agg q.1,q.2&&(decide (e<len)&&decide (o+i+n≤z)))
   |none=>none
  |some false=>(cellP (g e) o i).map fun q=>(q.1,q.2&&(decide (e<len)&&decide (o+i<z)))
  |none=>none
 | .rptr b z e o i=>match h[b]? with
  |some (.b [.rows z' n g])=>match Nat.beq z' z,aggB P t with
   |true,some true=>match szOf P t with
    |some m=>(subI (g e) o i m).map fun q=>(.agg q.1,q.2&&(decide (e<n)&&decide (o+i+m≤z)))
    |none=>none
   |true,some false=>(cellP (g e) o i).map fun q=>(q.1,q.2&&(decide (e<n)&&decide (o+i<z)))
   |_,_=>none
  |_=>none
 | .glb g i=>match gint g,aggB P t with
  |some (k,xs),some false=>some (.int k (xs.getD i 0),decide (i<xs.length))
  |_,_=>none
 |_=>none
def mergeV (c:Bool):SV→SV→SV
 | .bool x,.bool y=>.bool (bif c then x else y)
 | .int k x,.int k' y=>if k=k' then .int k (bif c then x else y) else bif c then .int k x else .int k' y
 | .ints k n xs,.ints k' m ys=>if k=k'∧n=m then .ints k n (bif c then xs else ys) else bif c then .ints k n xs else .ints k' m ys
 | .ro f k xs,.ro f' k' ys=>if k=k' then .ro (f&&f') k (bif c then xs else ys) else bif c then .ro f k xs else .ro f' k' ys
 | .nl (.slice none 0 0),.ro f k ys=>.ro f k (bif c then [] else ys)
 | .ro f k xs,.nl (.slice none 0 0)=>.ro f k (bif c then xs else [])
 | .rob f xs,.rob f' ys=>.rob (f&&f') (bif c then xs else ys)
 | .nl (.slice none 0 0),.rob f ys=>.rob f (bif c then [] else ys)
 | .rob f xs,.nl (.slice none 0 0)=>.rob f (bif c then xs else [])
 | .nl (.slice none 0 0),.nl (.slice none 0 0)=>.nl (.slice none 0 0)
 | .str x,.str y=>.str (bif c then x else y)
 |a,b=>bif c then a else b
def mergeP (c:Bool):List SV→List SV→List SV
 |x::xs,y::ys=>mergeV c x y::mergeP c xs ys
 |as,bs=>bif c then as else bs
def storeS (t:TypeId) (h:List Blk) (x:SV):SV→Option (List Blk×Bool)
 | .ptr b o i=>match h[b]? with
  |some (.b ps)=>match aggB P t with
   |some true=>match x,szOf P t,i with
    | .agg q,some n,0=>if decide (psize q=n)&&q.all fun p=>one p||isI p then (putP ps o n q).map fun ps'=>(h.set b (.b ps'),true) else none
    |_,_,_=>none
   |some false=>if one x&&szOf P t==some 1 then (setP ps o i x).map fun q=>(h.set b (.b q.1),q.2) else none
   |none=>none
  |_=>none
 | .rptr b z el o i=>match h[b]? with
  |some (.b [.rows z' n g])=>match Nat.beq z' z,aggB P t with
   |true,some true=>match x,szOf P t,i with
    | .agg q,some m,0=>if decide (psize q=m)&&(q.all fun p=>one p||isI p)&&closedL q then (putP (g el) o m q).map fun ps'=>(h.set b (.b [.rows z n fun i=>mergeP (Nat.beq i el) ps' (g i)]),decide (el<n)) else none
    |_,_,_=>none
   |true,some false=>if one x&&szOf P t==some 1&&closedV x then (setP (g el) o i x).map fun q=>(h.set b (.b [.rows z n fun i=>mergeP (Nat.beq i el) q.1 (g i)]),q.2&&decide (el<n)) else none
   |_,_=>none
  |_=>none
 |_=>none
def bitsI (f:∀n,BitVec n→BitVec n→BitVec n) (k:IntKind) (a b:Int):Int:=k.wrap (f k.bits (BitVec.ofInt k.bits a) (BitVec.ofInt k.bits b)).toNat
def andI:=bitsI fun _ a b=>a&&& b
def orI:=bitsI fun _ a b=>a|||b
def xorI:=bitsI fun _ a b=>a^^^b
def andNotI:=bitsI fun _ a b=>a&&& ~~~b
def shlI (k:IntKind) (a:Int) (n:Nat):Int:=k.wrap (a*2^(min n k.bits))
def shrI (k:IntKind) (a:Int) (n:Nat):Int:=a.fdiv (2^(min n k.bits))
def binI (op:BinOp) (k:IntKind) (a:Int) (k':IntKind) (b:Int):Option (SV×Bool):=
 match op with
 | .shl=>some (.int k (shlI k a b.toNat),decide (0≤b))
 | .shr=>some (.int k (shrI k a b.toNat),decide (0≤b))
 |_=>if k≠k' then none else match op with
  | .add=>some (.int k (k.wrap (a+b)),true)
  | .sub=>some (.int k (k.wrap (a-b)),true)
  | .mul=>some (.int k (k.wrap (a*b)),true)
  | .quo=>some (.int k (k.wrap (a.tdiv b)),b != 0)
  | .rem=>some (.int k (a.tmod b),b != 0)
  | .and=>some (.int k (andI k a b),true)
  | .or=>some (.int k (orI k a b),true)
  | .xor=>some (.int k (xorI k a b),true)
  | .andNot=>some (.int k (andNotI k a b),true)
  | .eql=>some (.bool (a==b),true)
  | .neq=>some (.bool (a != b),true)
  | .lss=>some (.bool (decide (a<b)),true)
  | .leq=>some (.bool (decide (a≤b)),true)
  | .gtr=>some (.bool (decide (a>b)),true)
  | .geq=>some (.bool (decide (a≥b)),true)
  |_=>none
def flatFs (g:TypeId→Option (IntKind×Nat)) (k:IntKind) (at_:Nat):List Field→Option (IntKind×Nat)
 | []=>some (k,at_)
 |f::rest=>match g f.type with
  |some (k',m)=>if k'=k∧f.name≠ "_"∧f.offset=at_∧szOf P f.type=some m then flatFs g k (at_+m) rest else none
  |none=>none
def flatK:Nat→TypeId→Option (IntKind×Nat)
 |0,_=>none
 |d+1,t=>match P.underlying t with
  |some (.int k)=>some (k,1)
  |some (.array n e)=>match flatK d e with
   |some (k,m)=>if szOf P e=some m then some (k,n*m) else none
   |none=>none
  |some (.struct fs)=>if P.stoodInHeld t then none else match fs.toList with
   | []=>none
   |f::rest=>match flatK d f.type with
    |some (k,m)=>if f.name≠ "_"∧f.offset=0∧szOf P f.type=some m then flatFs P (fun t=>flatK d t) k m rest else none
    |none=>none
  |_=>none
def flatI (k:IntKind):List SV→Option (List Int×Bool)
 | []=>some ([],true)
 | .ints k' n xs::ps=>if k=k' then match ps.isEmpty with
  |true=>some (xs,decide (xs.length=n))
  |false=>(flatI k ps).map fun q=>(xs++q.1,andT (decide (xs.length=n)) q.2) else none
 | .int k' n::ps=>if k=k' then (flatI k ps).map fun q=>(n::q.1,q.2) else none
 |_=>none
def boolOp (op:BinOp) (b:Bool):Option SV:=match op with
 | .eql=>some (.bool b)
 | .neq=>some (.bool !b)
 |_=>none
def eqS (op:BinOp) (T:TypeId) (x y:Operand):SV→SV→Option (SV×Bool)
 | .agg cs,.agg ds=>if P.eqGuardType P.depth T||aggB P T==some false then none else match flatK P 20 T with
  |some (k,n)=>match flatI k cs,flatI k ds with
   |some (l,p),some (m,q)=>if psize cs=n∧psize ds=n then (boolOp op (decide (l=m))).map fun v=>(v,andT p q) else none
   |_,_=>none
  |none=>none
 | .bool a,.bool b=>match P.underlying T with
  |some .bool=>(boolOp op (a==b)).map fun v=>(v,true)
  |_=>none
 | .str a,.str b=>(boolOp op (decide (a=b))).map fun v=>(v,true)
 | .ptr _ _ _,.nl (.pointer none)=>match P.underlying T with
  |some (.pointer _)=>(boolOp op false).map fun v=>(v,true)
  |_=>none
 | .nl (.pointer none),.nl (.pointer none)=>match P.underlying T with
  |some (.pointer _)=>(boolOp op true).map fun v=>(v,true)
  |_=>none
 | .nl .nilIface,.nl .nilIface=>match P.underlying T,x,y with
  |some (.interface _),.const _,_=>(boolOp op true).map fun v=>(v,true)
  |some (.interface _),_,.const _=>(boolOp op true).map fun v=>(v,true)
  |_,_,_=>none
 | .iface _ _,.nl .nilIface=>match P.underlying T with
  |some (.interface _)=>(boolOp op false).map fun v=>(v,true)
  |_=>none
 | .nl .nilIface,.iface _ _=>match P.underlying T with
  |some (.interface _)=>(boolOp op false).map fun v=>(v,true)
  |_=>none
 | .iface t (.int k a),.iface t' (.int k' b)=>match P.underlying T,P.underlying t with
  |some (.interface _),some (.int _)=>match (P.info? t).map (·.comparable) with
   |some true=>if t=t'∧k=k' then (boolOp op (a==b)).map fun v=>(v,true) else none
   |_=>none
  |_,_=>none
 | .ro _ _ xs,.nl (.slice none 0 0)=>match P.underlying T with
  |some (.slice _)=>(boolOp op false).map fun v=>(v,decide (0<xs.length))
  |_=>none
 | .sl _ _ _ _ len _ _ _,.nl (.slice none 0 0)=>match P.underlying T with
  |some (.slice _)=>(boolOp op false).map fun v=>(v,decide (0<len))
  |_=>none
 | .nl (.slice a 0 _),.nl (.slice none 0 0)=>match P.underlying T with
  |some (.slice _)=>(boolOp op a.isNone).map fun v=>(v,true)
  |_=>none
 | .rol _ _ len _,.nl (.slice none 0 0)=>match P.underlying T with
  |some (.slice _)=>(boolOp op false).map fun v=>(v,decide (0<len))
  |_=>none
 | .rsl _ _ len _ _,.nl (.slice none 0 0)=>match P.underlying T with
  |some (.slice _)=>(boolOp op false).map fun v=>(v,decide (0<len))
  |_=>none
 |_,_=>none
def placesOf (t:TypeId):Option (Nat→Option (Nat×Nat)):=match P.underlying t with
 |some (.array _ e)=>(P.info? e).map fun ie=>fun i=>some (i*ie.size,ie.size)
 |some (.struct fields)=>(fields.toList.mapM fun f=>(P.info? f.type).map fun i=>(f.offset,i.size)).map fun places=>fun i=>places.toArray[i]?
 |_=>none
def placeP (ps:List SV) (o n:Nat) (v:SV):Option (List SV×Bool):=match v with
 | .agg q=>if psize q=n then (putP ps o n q).map fun ps=>(ps,true) else none
 |v=>if n=1&&one v then setP ps o 0 v else none
def fillS (place:Nat→Option (Nat×Nat)):List SV→List (Nat×SV)→Option (List SV×Bool)
 |ps,[]=>some (ps,true)
 |ps,(i,v)::rest=>match place i with
  |some (o,n)=>match placeP ps o n v with
   |some (ps,p)=>(fillS place ps rest).map fun q=>(q.1,andT p q.2)
   |none=>none
  |none=>none
def buildS (t:TypeId) (parts:List (Nat×SV)):Option (SV×Bool):=match zeroS P t,placesOf P t with
 |some z,some place=>(fillS place z parts).map fun q=>(.agg q.1,q.2)
 |_,_=>none
def partS (t:TypeId) (ps:List SV) (o i:Nat):Option (SV×Bool):=
 match aggB P t with
 |some true=>match szOf P t,i with
  |some n,0=>(subP ps o n).map fun q=>(.agg q,true)
  |_,_=>none
 |some false=>cellP ps o i
 |none=>none
def fieldS (t:TypeId) (i:Nat):SV→Option (SV×Bool)
 | .agg ps=>match P.underlying t with
  |some (.struct fs)=>match fs.toList[i]? with
   |some f=>partS P f.type ps f.offset 0
   |none=>none
  |_=>none
 |_=>none
def fieldAddrS (t:TypeId) (i:Nat) (x:SV):Option SV:=
 match P.underlying t with
 |some (.struct fs)=>match fs.toList[i]? with
  |some f=>match szOf P f.type with
   |some (_+1)=>match x with
    | .ptr b o i=>some (.ptr b (o+f.offset) i)
    | .rpl g z len c e o i=>some (.rpl g z len c e (o+f.offset) i)
    | .rptr b z e o i=>some (.rptr b z e (o+f.offset) i)
    |_=>none
   |_=>none
  |none=>none
 |_=>none
def inB (i:Int) (n:Nat):Bool:=decide (0≤i)&&decide (i<n)
def indexAddrS (t:TypeId) (x ix:SV):Option (SV×Bool):=
 match ix with
 | .int _ i=>match P.underlying t,x with
  |some (.array len e),.ptr b o j=>match isInt P e,szOf P e with
   |some _,some 1=>some (.ptr b o (j+i.toNat),inB i len)
   |none,some n=>some (.ptr b (o+i.toNat*n) j,inB i len)
   |_,_=>none
  |some (.array len e),.rpl f z l c el o j=>match isInt P e,szOf P e with
   |some _,some 1=>some (.rpl f z l c el o (j+i.toNat),inB i len)
   |none,some n=>some (.rpl f z l c el (o+i.toNat*n) j,inB i len)
   |_,_=>none
  |some (.array len e),.rptr b z el o j=>match isInt P e,szOf P e with
   |some _,some 1=>some (.rptr b z el o (j+i.toNat),inB i len)
   |none,some n=>some (.rptr b z el (o+i.toNat*n) j,inB i len)
   |_,_=>none
  |some (.array len e),.glb g j=>match szOf P e with
   |some 1=>some (.glb g (j+i.toNat),inB i len)
   |_=>none
  |some (.slice e),.rsl b z len _ _=>match szOf P e with
   |some n=>if n=z then some (.rptr b z i.toNat 0 0,inB i len) else none
   |none=>none
  |some (.slice e),.sl b o j 1 len _ _ _=>match szOf P e with
   |some 1=>match isInt P e with
    |some _=>some (.ptr b o (j+i.toNat),inB i len)
    |none=>some (.ptr b (o+(j+i.toNat)) 0,inB i len)
   |_=>none
  |some (.slice e),.sl b o j z len _ _ _=>match szOf P e with
   |some n=>if n=z then some (.ptr b (o+(j+i.toNat)*z) 0,inB i len) else none
   |none=>none
  |some (.slice e),.ro _ k xs=>match szOf P e with
   |some 1=>some (.rpi k xs i.toNat,inB i xs.length)
   |_=>none
  |some (.slice e),.rob f xss=>match szOf P e with
   |some 1=>some (.rpb f xss i.toNat,inB i xss.length)
   |_=>none
  |some (.slice e),.rol f z len g=>match szOf P e with
   |some n=>if n=z then some (.rpl f z len g i.toNat 0 0,inB i len) else none
   |none=>none
  |_,_=>none
 |_=>none
def indexS (t:TypeId) (x ix:SV):Option (SV×Bool):=
 match ix,x with
 | .int _ i,.agg ps=>match P.underlying t with
  |some (.array len e)=>match isInt P e,szOf P e with
   |some _,some 1=>(cellP ps 0 i.toNat).map fun q=>(q.1,q.2&&inB i len)
   |none,some n=>(partS P e ps (i.toNat*n) 0).map fun q=>(q.1,q.2&&inB i len)
   |_,_=>none
  |_=>none
 | .int _ i,.str xs=>match P.underlying t with
  |some .string=>some (.int .u8 (xs.getD i.toNat 0),inB i xs.length)
  |_=>none
 |_,_=>none
def boundS (d y:Nat):Option SV→Option (Nat×Bool)
 |none=>some (d,true)
 |some (.int _ i)=>some (i.toNat,decide (0≤i)&&decide (i≤y))
 |_=>none
def boundsS (len cap:Nat) (lo hi mx:Option SV):Option (Nat×Nat×Nat×Bool):=
 match boundS cap cap mx with
 |some (m,p)=>match mx,hi with
  |some _,none=>none
  |_,_=>match boundS len (match mx with|some _=>m|none=>cap) hi with
   |some (h,q)=>match boundS 0 h lo with
    |some (l,r)=>some (l,h,m,andT p (andT q r))
    |none=>none
   |none=>none
 |none=>none
def winL (xs:List Int) (lo hi:Option SV) (l h:Nat):List Int:=match lo,hi with
 |none,none=>xs
 |some _,none=>xs.drop l
 |none,some _=>xs.take h
 |some _,some _=>(xs.drop l).take (h-l)
def sliceS (t:TypeId) (h:List Blk) (x:SV) (lo hi mx:Option SV):Option (SV×Bool):=
 match P.underlying t,x with
 |some (.array n e),.ptr b o i=>match h[b]?,szOf P e,boundsS n n lo hi mx with
  |some (.b ps),some 1,some (l,h,m,p)=>some (.sl b o (match lo with|none=>i|some _=>i+l) 1 (match lo with|none=>h|some _=>h-l) (match lo with|none=>m|some _=>m-l) true (lo.isNone&&hi.isNone&&mx.isNone),andT p (decide (o+i+n≤psize ps)))
  |some (.b ps),some z,some (l,h,m,p)=>match i with
   |0=>some (.sl b o l z (h-l) (m-l) true (lo.isNone&&hi.isNone&&mx.isNone),andT p (decide (o+n*z≤psize ps)))
   |_=>none
  |_,_,_=>none
 |some (.slice e),.sl b o i z len cap ex wh=>match szOf P e,boundsS len cap lo hi mx with
  |some n,some (l,h,m,p)=>if n=z then
   some (.sl b o (match lo with|none=>i|some _=>i+l) z (match lo with|none=>h|some _=>h-l) (match lo with|none=>m|some _=>m-l) (ex||mx.isSome) (wh&&lo.isNone&&hi.isNone&&mx.isNone),p) else none
  |_,_=>none
 |some (.slice e),.ro f k xs=>match szOf P e,boundsS xs.length xs.length lo hi mx with
  |some 1,some (l,h,_,p)=>some (.ro f k (winL xs lo hi l h),p)
  |_,_=>none
 |some .string,.str xs=>match mx,boundsS xs.length xs.length lo hi none with
  |none,some (l,h,_,p)=>some (.str (winL xs lo hi l h),p)
  |_,_=>none
 |some (.slice e),.nl (.slice none 0 0)=>match szOf P e,boundsS 0 0 lo hi mx with
  |some _,some (_,_,_,p)=>some (.nl (.slice none 0 0),p)
  |_,_=>none
 |some (.array n el),.rpl _ z len g e o i=>match szOf P el,subI (g e) o i n,lo,hi,mx with
  |some 1,some ([.ints k m xs],p),none,none,none=>some (.ro false k xs,p&&(decide (e<len)&&decide (o+i+n≤z)&&decide (m=n)&&decide (xs.length=n)))
  |_,_,_,_,_=>none
 |_,_=>none
def sliceR (t:TypeId) (h:List Blk) (x:SV) (lo hi mx:Option SV):Option (SV×Bool):=match x with
 | .rsl b z len cap ex=>match lo with
  |none=>match sliceS P t h (.sl b 0 0 z len cap ex false) none hi mx with
   |some (.sl b' 0 0 z' l' c' ex' _,p)=>some (.rsl b' z' l' c' ex',p)
   |_=>none
  |some _=>none
 |x=>sliceS P t h x lo hi mx
def zero3 (lo hi mx:Option Operand):Bool:=match lo,hi,mx with
 |none,some (.const (.int .i64 0)),some (.const (.int .i64 0))=>true
 |_,_,_=>false
def slice0 (t:TypeId) (h:List Blk) (x:SV) (l u m:Option SV):Option (SV×Bool):=match x with
 | .ro _ _ _=>match P.underlying t with
  |some (.slice e)=>match szOf P e with
   |some 1=>some (.sl 0 0 0 1 0 0 true false,true)
   |_=>none
  |_=>none
 | .nl (.slice _ 0 _)=>match P.underlying t with
  |some (.slice e)=>match szOf P e with
   |some 1=>some (.sl 0 0 0 1 0 0 true false,true)
   |_=>none
  |_=>none
 | .rol _ z _ _=>match P.underlying t with
  |some (.slice e)=>match szOf P e with
   |some n=>if n=z then some (.rsl 0 z 0 0 true,true) else none
   |_=>none
  |_=>none
 |x=>sliceR P t h x l u m
def lenV:SV→Option Nat
 | .sl _ _ _ _ n _ _ _=>some n
 | .ro _ _ xs=>some xs.length
 | .rob _ xss=>some xss.length
 | .rol _ _ n _=>some n
 | .rsl _ _ n _ _=>some n
 | .str xs=>some xs.length
 | .nl (.slice _ 0 _)=>some 0
 |_=>none
def lenS (t:TypeId) (x:SV):Option SV:=match P.underlying t,x with
 |some (.array n _),.agg _=>some (.int .i64 n)
 |some (.slice _),x=>match x with
  | .str _=>none
  |x=>(lenV x).map fun (n:Nat)=>SV.int .i64 (n:Int)
 |some .string,.str xs=>some (.int .i64 xs.length)
 |_,_=>none
def capS (t:TypeId) (x:SV):Option SV:=match P.underlying t,x with
 |some (.slice _),.sl _ _ _ _ _ cap true _=>some (.int .i64 cap)
 |some (.slice _),.nl (.slice none 0 0)=>some (.int .i64 0)
 |_,_=>none
def contS (h:List Blk):SV→Option (List SV×Bool)
 | .ro _ k xs=>some ([.ints k xs.length xs],true)
 | .str xs=>some ([.ints .u8 xs.length xs],true)
 | .nl (.slice _ 0 _)=>some ([],true)
 | .sl b o i z len _ _ wh=>match h[b]? with
  |some (.b ps)=>match dropP ps o,z with
   |some (.ints k n xs::_),1=>match wh with
    |true=>some ([.ints k len xs],decide (xs.length=len)&&(decide (len≤n)&&decide (i=0)))
    |false=>some ([.ints k len ((xs.drop i).take len)],decide (i+len≤n)&&decide (i+len≤xs.length))
   |some ps,z=>(subP ps (i*z) (len*z)).map fun q=>(q,true)
   |none,_=>none
  |_=>none
 | .rol _ z n g=>some ([.rows z n g],true)
 | .rsl b z len _ _=>match h[b]? with
  |some (.b [.rows z' n g])=>match Nat.beq z' z with
   |true=>some ([.rows z len g],decide (len≤n))
   |false=>none
  |_=>none
 |_=>none
def joinP:List SV→List SV→List SV
 | [.ints k n xs],[.ints k' m ys]=>if k=k' then [.ints k (n+m) (xs++ys)] else [.ints k n xs,.ints k' m ys]
 | [],b=>b
 |a,[]=>a
 |a,b=>a++b
def isRowOK (z:Nat):SV→Bool
 | .sl _ _ _ z' _ _ _ _=>Nat.beq z' z
 | .rol _ z' _ _=>Nat.beq z' z
 | .rsl _ z' _ _ _=>Nat.beq z' z
 | .nl _=>true
 |_=>Nat.beq z 1
def convS (src dst:TypeId):SV→Option SV
 | .int _ n=>match P.underlying src,P.underlying dst with
  |some _,some (.int k)=>some (.int k (k.wrap n))
  |_,_=>none
 | .str xs=>match P.underlying src,P.underlying dst with
  |some .string,some .string=>some (.str xs)
  |_,_=>none
 |_=>none
def unS:UnOp→SV→Option SV
 | .neg,.int k n=>some (.int k (k.wrap (0-n)))
 | .xor,.int k n=>some (.int k (xorI k (if k.signed then-1 else k.max) n))
 | .not,.bool b=>some (.bool !b)
 |_,_=>none
def minI:IntKind→Int→List SV→Option Int
 |_,a,[]=>some a
 |k,a,.int k' b::vs=>if k=k' then minI k (if b<a then b else a) vs else none
 |_,_,_=>none
def buildSliceS (t:TypeId) (len:Nat) (parts:List (Nat×SV)):Option (List SV×Nat×Bool):=
 match P.underlying t with
 |some (.slice e)=>match szOf P e,zeroS P e with
  |some (z+1),some zs=>if len*(z+1)≤2^24∧psize zs=z+1 then
    (fillS (fun i=>some (i*(z+1),z+1)) (match isInt P e with
     |some k=>[.ints k len (List.replicate len 0)]
     |none=>(List.replicate len zs).flatten) parts).map fun q=>(q.1,z+1,q.2) else none
  |_,_=>none
 |_=>none
def sameOp:Operand→Operand→Bool
 | .tmp a,.tmp b=>a==b
 | .const (.int _ a),.const (.int _ b)=>a==b
 |_,_=>false
def makeSliceS (t:TypeId):SV→SV→Option (List SV×Nat×Nat×Nat×Bool)
 | .int _ l,.int _ c=>match P.underlying t with
  |some (.slice e)=>match P.info? e,szOf P e,zeroS P e with
   |some i,some (z+1),some zs=>if psize zs=z+1 then some (match isInt P e with
    |some k=>[.ints k c.toNat (List.replicate c.toNat 0)]
    |none=>(List.replicate c.toNat zs).flatten,z+1,l.toNat,c.toNat,(IntKind.i64.wrap l==l&&IntKind.i64.wrap c==c)&&(decide (0≤l)&&decide (l≤c)&&decide (i.bytes*c≤2^48))) else none
   |_,_,_=>none
  |_=>none
 |_,_=>none
def assertS (asserted:TypeId) (ok:Bool):SV→Option SV
 | .iface t v=>match P.underlying asserted with
  |some (.interface _)=>none
  |some _=>if t=asserted then some (match ok with|true=>.tup [v,.bool true]|false=>v) else
   match ok,(zeroOf P asserted).bind ofV with
   |true,some z=>some (.tup [z,.bool false])
   |_,_=>none
  |none=>none
 | .nl .nilIface=>match P.underlying asserted,ok,(zeroOf P asserted).bind ofV with
  |some (.interface _),_,_=>none
  |some _,true,some z=>some (.tup [z,.bool false])
  |_,_,_=>none
 |_=>none
def yOK (f:Fn) (capt:List SV):Bool:=match f with
 | .func _=>true
 | .yield _=>capt.isEmpty
 |_=>false
def noUseO (b:Nat):Option SV→Bool
 |some v=>!uses b v
 |none=>true
def noUseB (b:Nat) (h:List Blk):Bool:=h.all fun| .b ps=>!usesL b ps| .g (some L)=>L.t.all (noUseO b)| .g none=>true
structure Res where
 v:SV
 h:List Blk
 new:List Blk
 kill:Option Nat
 p:Bool
def Res.of (h:List Blk) (q:SV×Bool):Res:=⟨q.1,h,[],none,q.2⟩
def u8R (xs:List Int):Bool:=xs.all fun n=>decide (0≤n)&&decide (n<256)
def updP (f:SV→Option SV):List SV→Nat→Option (List SV)
 | [],_=>none
 |p::ps,0=>(f p).map (· ::ps)
 |p::ps,o+1=>match Nat.ble (psz p) (o+1) with
  |true=>(updP f ps (o+1-psz p)).map (p:: ·)
  |false=>none
def spl (xs:List Int) (i:Nat) (ys:List Int) (n:Nat):List Int:=xs.take i++ys.take n++xs.drop (i+n)
def splI (i:Nat) (k':IntKind) (ys:List Int) (n:Nat):SV→Option SV
 | .ints k m xs=>if k=k' then some (.ints k m (spl xs i ys n)) else none
 |_=>none
def lenI:SV→Option (Nat×List Int)
 | .ints _ m xs=>some (m,xs)
 |_=>none
def atP:List SV→Nat→Option SV
 | [],_=>none
 |p::_,0=>some p
 |p::ps,o+1=>match Nat.ble (psz p) (o+1) with
  |true=>atP ps (o+1-psz p)
  |false=>none
def writeI (h:List Blk) (b o i:Nat) (k:IntKind) (ys:List Int) (n:Nat):Option (List Blk×Bool):=match h[b]? with
 |some (.b ps)=>match (atP ps o).bind lenI,updP (splI i k ys n) ps o with
  |some (m,xs),some ps'=>some (h.set b (.b ps'),decide (xs.length=m)&&decide (i+n≤m)&&decide (n≤ys.length))
  |_,_=>none
 |_=>none
def okParts (ps:List SV):Bool:=ps.all fun p=>one p||isI p
def lenOKP:List SV→Bool
 | [.ints _ n xs]=>decide (xs.length=n)
 |_=>true
def elemOK (e:TypeId):Option Nat:=match (P.info? e).map (·.bytes),szOf P e,zeroS P e with
 |some by_,some (z+1),some zs=>if decide (by_≤256)&&decide (psize zs=z+1) then some z else none
 |_,_,_=>none
def appendZ (k:Nat) (h:List Blk) (j:Nat) (e:TypeId) (x y:SV):Option Res:=match x,y,isInt P e,elemOK P e with
 | .nl (.slice none 0 0),.int .i64 n,some ki,some 0=>some ⟨.sl j 0 0 1 n.toNat n.toNat false true,h,[.b [.ints ki n.toNat (List.replicate n.toNat 0)]],none,decide (0≤n)&&decide (n≤2^38)⟩
 | .rsl b z' len _ _,.int .i64 m,none,some z=>match h[b]?,zeroS P e with
  |some (.b [.rows zz n g]),some zs=>
   if Nat.ble k b&&decide (z'=z+1)&&decide (zz=z+1)&&okParts zs&&closedL zs&&noUseB b (h.set b (.b [.rows zz (len+m.toNat) fun i=>mergeP (Nat.ble (i+1) len) (g i) zs])) then
    some ⟨.rsl b z' (len+m.toNat) (len+m.toNat) false,h.set b (.b [.rows zz (len+m.toNat) fun i=>mergeP (Nat.ble (i+1) len) (g i) zs]),[],some b,decide (len≤n)&&decide (0≤m)&&decide (len+m.toNat≤2^38)⟩ else none
  |_,_=>none
 |_,_,_,_=>none
def extI (h:List Blk) (b:Nat) (k:IntKind) (ys:List Int) (ny len:Nat):Option (List Blk×Bool):=match h[b]? with
 |some (.b [.ints k' m xs])=>if k'=k then some (h.set b (.b [.ints k (m+ny) (xs++ys)]),decide (xs.length=m)&&decide (len=m)&&decide (ys.length=ny)) else none
 |_=>none
def emptyX (inp ex wh:Bool) (cap:Nat):Bool:=match inp with
 |true=>false
 |false=>match ex,wh with
  |true,false=>Nat.beq cap 0
  |_,_=>false
def emptyR (ex:Bool) (cap:Nat):Bool:=match ex with
 |true=>Nat.beq cap 0
 |false=>false
def rowV (cy:List SV) (j z ny:Nat):SV:=match cy with
 | [.rows _ _ _]=>.rsl j z ny ny false
 |_=>.sl j 0 0 z ny ny false true
def appendS (k:Nat) (h:List Blk) (j:Nat) (inp:Bool) (sT xT:TypeId) (x y:SV):Option Res:=
 match P.underlying sT,P.underlying xT with
 |some (.slice e),some (.int _)=>appendZ P k h j e x y
 |none,some (.int _)=>none
 |some (.slice e),some _=>match elemOK P e,contS h y,lenV y with
  |some z,some (cy,py),some ny=>match x with
   | .nl (.slice none 0 0)=>some ⟨rowV cy j (z+1) ny,h,[.b cy],none,andT (andT py (isRowOK (z+1) y)) (decide (ny≤2^38))⟩
   | .sl b o i z' len cap ex wh=>match emptyX inp ex wh cap with
    |true=>some ⟨.sl j 0 0 (z+1) ny ny false true,h,[.b cy],none,andT (andT py (isRowOK (z+1) y)) (decide (ny≤2^38))⟩
    |false=>match inp with
     |true=>match cy,z,z',wh with
      | [.ints ki _ ys],0,1,false=>(writeI h b o (i+len) ki ys ny).map fun q=>⟨.sl b o i 1 (len+ny) cap ex false,q.1,[],none,andT (andT (andT py (isRowOK 1 y)) (decide (len+ny≤cap))) q.2⟩
      | [.ints ki _ ys],0,1,true=>match o,i with
       |0,0=>(extI h b ki ys ny len).map fun q=>⟨.sl b 0 0 1 (len+ny) cap ex true,q.1,[],none,andT (andT (andT py (isRowOK 1 y)) (decide (len+ny≤cap))) q.2⟩
       |_,_=>none
      |_,_,_,_=>none
     |false=>match contS h x with
      |some (cx,px)=>if Nat.ble k b&&decide (z'=z+1)&&okParts cy&&noUseB b (h.set b (.b (joinP cx cy))) then
       some ⟨.sl b 0 0 (z+1) (len+ny) (len+ny) false true,h.set b (.b (joinP cx cy)),[],some b,andT (andT (andT (andT py px) (lenOKP cx)) (isRowOK (z+1) y)) (decide (len+ny≤2^38))⟩
       else if ex&&decide (z'=z+1) then some ⟨.sl j 0 0 (z+1) (len+ny) (len+ny) false true,h,[.b (joinP cx cy)],none,andT (andT (andT (andT (andT py px) (lenOKP cx)) (isRowOK (z+1) y)) (decide (len+ny≤2^38))) (decide (cap<len+ny))⟩ else none
      |none=>none
   | .rsl b z' len cap ex=>match emptyR ex cap with
    |true=>some ⟨rowV cy j (z+1) ny,h,[.b cy],none,andT (andT py (isRowOK (z+1) y)) (decide (ny≤2^38))⟩
    |false=>match ny,h[b]? with
     |1,some (.b [.rows zz n g])=>
      if Nat.ble k b&&decide (z'=z+1)&&decide (zz=z+1)&&okParts cy&&closedL cy&&noUseB b (h.set b (.b [.rows zz (len+1) fun i=>mergeP (Nat.ble (i+1) len) (g i) cy])) then
       some ⟨.rsl b z' (len+1) (len+1) false,h.set b (.b [.rows zz (len+1) fun i=>mergeP (Nat.ble (i+1) len) (g i) cy]),[],some b,andT (andT (andT py (decide (len≤n))) (isRowOK (z+1) y)) (decide (len+1≤2^38))⟩ else none
     |_,_=>none
   |_=>none
  |_,_,_=>none
 |_,_=>none
def copyS (h:List Blk) (dT:TypeId) (x y:SV):Option (List Blk×SV×Bool):=
 match P.underlying dT,x,contS h y,lenV y with
 |some (.slice e),.sl b o i 1 len _ _ _,some ([.ints k _ ys],p),some ny=>match szOf P e with
  |some 1=>(writeI h b o i k ys (Nat.min ny len)).map fun q=>(q.1,.int .i64 (Nat.min ny len),andT (andT p (isRowOK 1 y)) q.2)
  |_=>none
 |_,_,_,_=>none
def convR (h:List Blk) (src dst:TypeId):Option SV→Option Res
 |some (.str xs)=>match P.underlying dst with
  |some (.slice e)=>match isInt P e,szOf P e with
   |some .u8,some 1=>match P.underlying src with
    |some _=>some (.of h (.ro true .u8 xs,true))
    |none=>none
   |_,_=>none
  |_=>(convS P src dst (.str xs)).map fun v=>.of h (v,true)
 |some (.int k n)=>(convS P src dst (.int k n)).map fun v=>.of h (v,true)
 |some (.nl (.slice none 0 0))=>match P.underlying src,P.underlying dst with
  |some (.slice e),some .string=>match isInt P e with
   |some .u8=>some (.of h (.str [],true))
   |_=>none
  |_,_=>none
 |some a=>match P.underlying src,P.underlying dst,contS h a,lenV a with
  |some (.slice e),some .string,some ([.ints .u8 m xs],p),some _=>match isInt P e with
   |some .u8=>some (.of h (.str xs,andT (andT p (isRowOK 1 a&&decide (xs.length=m))) (u8R xs)))
   |_=>none
  |_,_,_,_=>none
 |none=>none
def constB (k:Nat) (h:List Blk) (dst:TypeId):Option SV→Option Res
 |some (.sl b 0 0 1 (n+1) m true true)=>match P.underlying dst,h[b]? with
  |some (.slice e),some (.b [.ints .u8 q xs])=>match isInt P e,Nat.ble k b&&Nat.beq m (n+1)&&Nat.beq q (n+1)&&noUseB b (h.set b .gap) with
   |some .u8,true=>some ⟨.ro true .u8 xs,h.set b .gap,[],some b,decide (xs.length=n+1)⟩
   |_,_=>none
  |_,_=>none
 |_=>none
def opS (G:CallFn) (inp:Tmp→Bool) (k:Nat) (t:List (Option SV)) (h:List Blk) (j:Nat) (o:Oper):Option Res:=
 match o.op with
 | .move x| .assign x=>(ev t x).map fun v=>.of h (v,true)
 | .pick c a b=>match ev t c with
  |some (.bool true)=>(ev t a).map fun v=>.of h (v,true)
  |some (.bool false)=>(ev t b).map fun v=>.of h (v,true)
  |_=>none
 | .alloc e=>(zeroS P e).map fun ps=>⟨.ptr j 0 0,h,[.b ps],none,true⟩
 | .box _ x=>(ev t x).map fun v=>⟨.ptr j 0 0,h,[.b (partsOf v)],none,(partsOf v).all fun p=>one p||isI p⟩
 | .build ty ps=>match evL t (ps.toList.map (·.2)) with
  |some vs=>(buildS P ty ((ps.toList.map (·.1)).zip vs)).map (.of h)
  |none=>none
 | .buildSlice ty len ps=>match evL t (ps.toList.map (·.2)) with
  |some vs=>(buildSliceS P ty len ((ps.toList.map (·.1)).zip vs)).map fun q=>⟨.sl j 0 0 q.2.1 len len true true,h,[.b q.1],none,q.2.2⟩
  |none=>none
 | .makeSlice ty l c=>match ev t l,ev t c with
  |some a,some b=>(makeSliceS P ty a b).map fun q=>⟨.sl j 0 0 q.2.1 q.2.2.1 q.2.2.2.1 true (sameOp l c),h,[.b q.1],none,q.2.2.2.2⟩
  |_,_=>none
 | .load ty x=>match ev t x with
  |some a=>(loadS P ty h a).map (.of h)
  |none=>none
 | .store ty x y=>match ev t x,ev t y with
  |some a,some v=>(storeS P ty h v a).map fun q=>⟨.tup [],q.1,[],none,q.2⟩
  |_,_=>none
 | .nilCheck x=>match ev t x with
  |some (.ptr b o i)=>some (.of h (.ptr b o i,true))
  |some (.rpi k xs i)=>some (.of h (.rpi k xs i,true))
  |some (.rpl f z l g e o i)=>some (.of h (.rpl f z l g e o i,true))
  |some (.rptr b z e o i)=>some (.of h (.rptr b z e o i,true))
  |some (.glb g i)=>some (.of h (.glb g i,true))
  |some (.fn (.func f) a b)=>some (.of h (.fn (.func f) a b,true))
  |_=>none
 | .binOp op ty x y _=>match ev t x,ev t y with
  |some (.int k a),some (.int k' b)=>(binI op k a k' b).map (.of h)
  |some a,some b=>(eqS P op ty x y a b).map (.of h)
  |_,_=>none
 | .unOp op _ x=>match ev t x with
  |some a=>(unS op a).map fun v=>.of h (v,true)
  |none=>none
 | .convert src dst x=>match Nat.beq src dst with
  |true=>constB P k h dst (ev t x)
  |false=>convR P h src dst (ev t x)
 | .sliceToArrayPointer arr x=>match P.underlying arr,ev t x with
  |some (.array (n+1) e),some (.sl b o i 1 len _ _ _)=>match isInt P e with
   |some _=>some (.of h (.ptr b o i,decide (n+1≤len)))
   |none=>none
  |some (.array (n+1) e),some (.ro _ k xs)=>match isInt P e with
   |some _=>some (.of h (.rpi k xs 0,decide (n+1≤xs.length)))
   |none=>none
  |_,_=>none
 | .makeInterface ty x=>match P.underlying ty,ev t x with
  |some (.interface _),_=>none
  |some _,some v=>if one v then some (.of h (.iface ty v,true)) else none
  |_,_=>none
 | .makeFunc fn first captured=>match evL t first.toList,evL t captured.toList with
  |some a,some b=>some (.of h (.fn fn a b,true))
  |_,_=>none
 | .fieldAddr ty x i=>match ev t x with
  |some a=>(fieldAddrS P ty i a).map fun v=>.of h (v,true)
  |none=>none
 | .field ty x i=>match ev t x with
  |some a=>(fieldS P ty i a).map (.of h)
  |none=>none
 | .indexAddr ty x i=>match ev t x,ev t i with
  |some a,some b=>(indexAddrS P ty a b).map (.of h)
  |_,_=>none
 | .index ty x i=>match ev t x,ev t i with
  |some a,some b=>(indexS P ty a b).map (.of h)
  |_,_=>none
 | .slice ty x lo hi mx=>match ev t x,evO t lo,evO t hi,evO t mx with
  |some a,some l,some u,some m=>match zero3 lo hi mx with
   |true=>(slice0 P ty h a l u m).map (.of h)
   |false=>(sliceR P ty h a l u m).map (.of h)
  |_,_,_,_=>none
 | .typeAssert x _ asserted ok=>match ev t x with
  |some a=>(assertS P asserted ok a).map fun v=>.of h (v,true)
  |none=>none
 | .extract x i=>match ev t x with
  |some (.tup vs)=>(vs[i]?).map fun v=>.of h (v,true)
  |_=>none
 | .call c=>match c.callee with
  | .value f=>match ev t f,evL t c.args.toList with
   |some (.fn f first capt),some vs=>match yOK f capt with
    |true=>(G f (first++vs++capt) h j).map fun q=>⟨q.1,q.2.1,q.2.2.1,none,q.2.2.2⟩
    |false=>none
   |_,_=>none
  | .builtin .len=>match c.argTypes.toList,evL t c.args.toList with
   | [ty],some [a]=>(lenS P ty a).map fun v=>.of h (v,true)
   |_,_=>none
  | .builtin .cap=>match c.argTypes.toList,evL t c.args.toList with
   | [ty],some [a]=>(capS P ty a).map fun v=>.of h (v,true)
   |_,_=>none
  | .builtin .min=>match evL t c.args.toList with
   |some (.int k a::vs)=>(minI k a vs).map fun n=>.of h (.int k n,true)
   |_=>none
  | .builtin .append=>match c.argTypes.toList,evL t c.args.toList with
   | [ty,xt],some [a,b]=>appendS P k h j ((o.dst.map inp).getD false) ty xt a b
   |_,_=>none
  | .builtin .copy=>match c.argTypes.toList,evL t c.args.toList with
   | [ty,_],some [a,b]=>(copyS P h ty a b).map fun q=>⟨q.2.1,q.1,[],none,q.2.2⟩
   |_,_=>none
  |_=>none
 |_=>none
def putT (t:List (Option SV)) (d:Option Tmp) (v:SV):List (Option SV):=
 match d with
 |some i=>t.set i (some v)
 |none=>t
def killT (b:Option Nat) (t:List (Option SV)):List (Option SV):=match b with
 |none=>t
 |some b=>t.map fun|some v=>if uses b v then none else some v|none=>none
def takeS (sym:Tmp→Option Bool) (d:Option Tmp) (v:SV):SV×Bool:=
 match d with
 |none=>(v,true)
 |some i=>match sym i with
  |none=>(v,true)
  |some b=>match v with
   | .bool x=>(.bool b,match b with|true=>x|false=>!x)
   |_=>(v,true)
def wantS (ops:Array Oper) (t:List (Option SV)) (o:Oper):Option Bool:=
 match o.guard with
 |none=>some true
 |some (j,want)=>match (ops.toList[j]?).bind (·.dst) with
  |none=>some false
  |some i=>match t[i]? with
   |none=>some false
   |some none=>none
   |some (some (.bool b))=>some (b==want)
   |some (some (.nl _))=>none
   |some (some _)=>some false
def fillH (h:List Blk) (j:Nat):List Blk→List Blk
 | []=>h
 |b::bs=>fillH (h.set j b) (j+1) bs
def placeH (h:List Blk) (j:Nat) (new:List Blk):List Blk:=if j=h.length then h++new else fillH h j new
def stepI (G:CallFn) (sym:Tmp→Option Bool) (inp:Tmp→Bool) (k:Nat) (ops:Array Oper) (o:Oper) (s:St):Option St:=
 match wantS ops s.t o with
 |some true=>match opS P G inp k s.t s.h s.h.length o with
  |some r=>some ⟨putT (killT r.kill s.t) o.dst (takeS sym o.dst r.v).1,placeH r.h s.h.length r.new,andT (andT s.ob r.p) (takeS sym o.dst r.v).2⟩
  |none=>none
 |some false=>some ⟨putT s.t o.dst (.tup []),s.h,s.ob⟩
 |none=>none
def runOps (G:CallFn) (sym:Tmp→Option Bool) (inp:Tmp→Bool) (k:Nat) (ops:Array Oper):List Nat→St→Option St
 | [],s=>some s
 |i::is,s=>match ops.toList[i]? with
  |none=>runOps G sym inp k ops is s
  |some o=>match stepI P G sym inp k ops o s with
   |some s'=>runOps G sym inp k ops is s'
   |none=>none
def nmk (nb:FuncId→Nat):Op→Nat
 | .alloc _| .box .. | .buildSlice .. | .makeSlice .. =>1
 | .call c=>match c.callee with
  | .value (.func f)=>nb f
  | .value (.tmp t)=>nb (1000000000+t)
  | .builtin .append=>match c.args.toList with
   | [.tmp t,_]=>nb (2000000000+t)
   |_=>0
  |_=>0
 |_=>0
def makes (nb:FuncId→Nat) (ops:List Oper):Nat:=(ops.map fun o=>nmk nb o.op).sum
def resv (nb:FuncId→Nat) (ops:List Oper) (n i:Nat):Nat:=n+makes nb (ops.take i)
def convC (src dst:TypeId):Bool:=match P.underlying src,P.underlying dst with
 |some (.slice _),some .string=>true
 |_,_=>false
def clsOf (pf:FuncId→Nat):Op→Nat
 | .load .. =>1
 | .store .. =>2
 | .call c=>match c.callee with
  | .value (.func f)=>match pf f with
   |0=>0
   |1=>4
   |_=>5
  | .builtin .len=>0
  | .builtin .cap=>0
  | .builtin .min=>0
  |_=>5
 | .convert src dst _=>match Nat.beq src dst with
  |true=>5
  |false=>match convC P src dst with
   |true=>1
   |false=>0
 | .slice .. =>1
 |_=>0
def addrB (t:List (Option SV)):Op→Option Nat
 | .load _ x| .store _ x _| .slice _ x _ _ _=>match ev t x with
  |some (.ptr b _ _)=>some b
  |some (.rptr b _ _ _ _)=>some b
  |_=>none
 | .convert _ _ x=>match ev t x with
  |some (.sl b _ _ _ _ _ _ _)=>some b
  |some (.rsl b _ _ _ _)=>some b
  |_=>none
 |_=>none
def srcB (t:List (Option SV)):Op→Option Nat
 | .call c=>match c.args.toList with
  | [_,x]=>match ev t x with
   |some (.sl b _ _ _ _ _ _ _)=>some b
   |some (.rsl b _ _ _ _)=>some b
   |_=>none
  |_=>none
 |_=>none
def addrOK (nb:FuncId→Nat) (ops:List Oper) (n:Nat) (m:List Nat) (i:Nat) (t:List (Option SV)) (o:Op):Bool:=match addrB t o with
 |none=>true
 |some b=>Nat.ble (b+1) n||(List.range i).any fun j=>(m.getD i 0).testBit j&&(match ops[j]? with
  |some x=>Nat.ble (resv nb ops n j) b&&Nat.ble (b+1) (resv nb ops n j+nmk nb x.op)
  |none=>false)
def gapsAt (h:List Blk) (j:Nat):Nat→Bool
 |0=>true
 |n+1=>(match h[j]? with|some (.g none)=>true|_=>false)&&gapsAt h (j+1) n
def dinp (Γ:Ctr):Tmp→Bool:=fun d=>match Γ.sym d with
 |some false=>false
 |_=>true
def opD (Γ:Ctr) (G:CallFn) (k:Nat) (ops:List Oper) (n:Nat) (m:List Nat) (i:Nat) (t:List (Option SV)) (h:List Blk) (o:Oper):Option (SV×List Blk×Bool×List Blk):=
 match addrOK Γ.nb ops n m i t o.op,opS P G (dinp Γ) k t h (resv Γ.nb ops n i) o with
 |true,some r=>match r.kill.isNone&&decide (r.new.length=nmk Γ.nb o.op)&&gapsAt h (resv Γ.nb ops n i) (nmk Γ.nb o.op)&&decide (r.h.length=h.length) with
  |true=>some (r.v,fillH r.h (resv Γ.nb ops n i) r.new,r.p,r.new)
  |false=>none
 |_,_=>none
def isApp:Op→Bool
 | .call c=>match c.callee with
  | .builtin .append=>true
  |_=>false
 |_=>false
def growD (Γ:Ctr) (o:Oper):Bool:=match isApp o.op with
 |true=>match o.dst with
  |some d=>match Γ.sym d with
   |some true=>true
   |_=>false
  |none=>false
 |false=>false
structure Fp where
 q:Nat
 a:Option Nat
 c:Option Nat
 sl:List (Option (Option SV))
 v:SV
 new:List Blk
def guardT (ops:Array Oper) (o:Oper):List Tmp:=match o.guard with
 |some (g,_)=>((ops.toList[g]?).bind (·.dst)).toList
 |none=>[]
def stepD (Γ:Ctr) (G:CallFn) (k:Nat) (ops:Array Oper) (n:Nat) (m:List Nat) (i:Nat) (o:Oper) (s:St):Option (St×Fp):=
 match wantS ops s.t o with
 |some true=>match growD Γ o with
  |true=>match opS P G (fun _=>false) k s.t s.h (resv Γ.nb ops.toList n i) o with
   |some r=>match r.new with
    | []=>some (⟨putT (killT r.kill s.t) o.dst r.v,r.h,andT s.ob r.p⟩,⟨2,r.kill,srcB s.t o.op,[],.tup [],[]⟩)
    |_=>none
   |none=>none
  |false=>match opD P Γ G k ops.toList n m i s.t s.h o with
   |some q=>some (⟨putT s.t o.dst (takeS Γ.sym o.dst q.1).1,q.2.1,andT (andT s.ob q.2.2.1) (takeS Γ.sym o.dst q.1).2⟩,⟨1,addrB s.t o.op,none,(o.looksAt ops).map fun i=>s.t[i]?,(takeS Γ.sym o.dst q.1).1,q.2.2.2⟩)
   |none=>none
 |some false=>some (⟨putT s.t o.dst (.tup []),s.h,s.ob⟩,⟨0,none,none,(guardT ops o).map fun i=>s.t[i]?,.tup [],[]⟩)
 |none=>none
def runD (Γ:Ctr) (G:CallFn) (k:Nat) (ops:Array Oper) (n:Nat) (m:List Nat):List Nat→St→Option (St×List Fp)
 | [],s=>some (s,[])
 |i::is,s=>match ops.toList[i]? with
  |none=>none
  |some o=>match stepD P Γ G k ops n m i o s with
   |some (s',f)=>match runD Γ G k ops n m is s' with
    |some (s2,fs)=>some (s2,f::fs)
    |none=>none
   |none=>none
def clsC (a na b nb:Nat):Bool:=
 (a==0&&(b==0||b==1||b==2||na==0))||(b==0&&(a==1||a==2||(a==4&&na==0)||nb==0))||((a==1||a==4)&&(b==1||b==4)&&na==0&&nb==0)
def addrC (a:Nat) (p:Option Nat) (b:Nat) (q:Option Nat):Bool:=((a==2&&(b==1||b==2))||(a==1&&b==2))&&(match p,q with
 |some x,some y=>!Nat.beq x y
 |_,_=>false)
def noUseS (b:Nat):Option (Option SV)→Bool
 |some (some v)=>!uses b v
 |_=>false
def outR (b r n:Nat):Bool:=Nat.ble (b+1) r||Nat.ble (r+n) b
def growC (f:Fp) (cls n r:Nat) (g:Fp):Bool:=match f.a with
 |some b=>(cls==0||(cls==1&&(match g.a with|some d=>!Nat.beq d b|none=>true)))&&g.sl.all (noUseS b)&&!uses b g.v&&noUseB b g.new&&outR b r n&&(match f.c with|some c=>outR c r n|none=>true)
 |none=>false
def pairC (Γ:Ctr) (ops:List Oper) (n:Nat) (i:Nat) (x:Oper) (f:Fp) (j:Nat) (y:Oper) (g:Fp):Bool:=match f.q,g.q with
 |1,1=>clsC (clsOf P Γ.pf x.op) (nmk Γ.nb x.op) (clsOf P Γ.pf y.op) (nmk Γ.nb y.op)||addrC (clsOf P Γ.pf x.op) f.a (clsOf P Γ.pf y.op) g.a
 |2,1=>growC f (clsOf P Γ.pf y.op) (nmk Γ.nb y.op) (resv Γ.nb ops n j) g
 |1,2=>growC g (clsOf P Γ.pf x.op) (nmk Γ.nb x.op) (resv Γ.nb ops n i) f
 |0,0=>true
 |0,1=>true
 |1,0=>true
 |2,0=>(match f.a with|some b=>g.sl.all (noUseS b)|none=>false)
 |0,2=>(match g.a with|some b=>f.sl.all (noUseS b)|none=>false)
 |_,_=>false
def fpAt (fs:List Fp) (i:Nat):Fp:=match fs[i]? with
 |some f=>f
 |none=>⟨3,none,none,[],.tup [],[]⟩
def commB (Γ:Ctr) (n:Nat) (fs:List Fp) (ops:Array Oper) (i:Nat) (x:Oper) (j:Nat) (y:Oper):Bool:=
 x.apart ops y&&pairC P Γ ops.toList n i x (fpAt fs i) j y (fpAt fs j)
def maskOf (acc:List Nat) (o:Oper):Nat:=
 o.after.toList.foldl (fun s e=>if Region.binds .any e then s|||2^e.on|||acc.getD e.on 0 else s) 0
def masks:List Oper→List Nat→List Nat
 | [],acc=>acc
 |o::os,acc=>masks os (acc++[maskOf acc o])
def drawOK (Γ:Ctr) (n:Nat) (fs:List Fp) (ops:Array Oper):Bool:=
 let m:=masks ops.toList []
 ops.toList.zipIdx.all fun (y,j)=>y.after.toList.all (fun e=>!Region.binds .any e||decide (e.on<j))&&
  (ops.toList.zipIdx.take j).all fun (x,i)=>(m.getD j 0).testBit i||commB P Γ n fs ops i x j y
def resS (t:List (Option SV)) (h:List Blk):List ResultVar→Option (List SV×Bool)
 | []=>some ([],true)
 | .tmp i::rs=>match ev t (.tmp i),resS t h rs with
  |some v,some (l,p)=>some (v::l,p)
  |_,_=>none
 | .cell a ty::rs=>match ev t (.tmp a) with
  |some x=>match loadS P ty h x,resS t h rs with
   |some (v,q),some (l,p)=>some (v::l,andT p q)
   |_,_=>none
  |none=>none
def oneOf:List SV→SV
 | [v]=>v
 |vs=>.tup vs
def slots0 (n:Nat) (args:List SV):List (Option SV):=args.map some++List.replicate (n-args.length) none
def callW (ex:Code→St→Option (Exit×St)) (fn:Func) (args:List SV) (h:List Blk):Option (SV×List Blk×Bool):=
 match fn.body with
 |none=>none
 |some c=>match ex c ⟨slots0 fn.ntmps args,h,true⟩ with
  |some (.ret,s)=>(resS P s.t s.h fn.results.toList).map fun q=>(oneOf q.1,s.h,andT s.ob q.2)
  |some (.normal,s)=>(resS P s.t s.h fn.results.toList).map fun q=>(oneOf q.1,s.h,andT s.ob q.2)
  |_=>none
def setTs (t:List (Option SV)):List Tmp→List SV→List (Option SV)
 |i::is,v::vs=>setTs (t.set i (some v)) is vs
 |_,_=>t
def readyL:List Blk→Nat→Option (Nat×Lp)
 | [],_=>none
 |b::bs,i=>match readyL bs (i+1) with
  |some q=>some q
  |none=>match b with
   | .g (some L)=>match L.st with
    | .ready=>some (i,L)
    |_=>none
   |_=>none
def jumpOf:Exit→Option (Option Code)
 | .normal=>some none
 | .ret=>some (some .ret)
 | .exit id=>some (some (.exit id))
 |_=>none
def lpAt (h:List Blk) (i:Nat):Option Lp:=match h[i]? with
 |some (.g (some L))=>some L
 |_=>none
def yieldW (ex:Code→St→Option (Exit×St)) (l:Nat) (vs:List SV) (h:List Blk):Option (SV×List Blk×Bool):=
 match readyL h 0 with
 |none=>none
 |some (i,L)=>match Nat.beq L.ps.size vs.length,ex L.asg ⟨setTs L.t L.ps.toList vs,h,decide (L.l=l)⟩ with
  |true,some (.normal,s1)=>match lpAt s1.h i with
   |none=>none
   |some L1=>match L1.st,ex L.body ⟨s1.t,s1.h.set i (.g (some {L1 with st:=.busy})),andT s1.ob (decide (L1.l=l))⟩ with
    | .ready,some (x,s2)=>match jumpOf x,lpAt s2.h i with
     |some q,some L2=>some (.bool q.isNone,s2.h.set i (.g (some {L2 with st:=if q.isNone then .ready else .done,pend:=q})),andT s2.ob (decide (L2.l=l)))
     |_,_=>none
    |_,_=>none
  |_,_=>none
def callG (Γ:Ctr) (ex:Nat→Code→St→Option (Exit×St)):CallFn:=fun f vs h j=>
 match f with
 | .func f=>match Γ.inl f with
  |some fn=>match callW P (ex h.length) fn vs h with
   |some (v,h',p)=>if Nat.beq (h'.length-h.length) 0||Nat.beq j h.length then some (v,h'.take h.length,h'.drop h.length,p) else none
   |none=>none
  |none=>Γ.g f vs h j
 | .yield l=>match Γ.yc l vs h with
  |some (v,h',p)=>some (v,h',[],p)
  |none=>match yieldW (ex h.length) l vs h with
   |some (v,h',p)=>if Nat.beq (h'.length-h.length) 0||Nat.beq j h.length then some (v,h'.take h.length,h'.drop h.length,p) else none
   |none=>none
 |_=>none
def exec (Γ:Ctr):Nat→Nat→Code→St→Option (Exit×St)
 |0,_,_,_=>none
 |n+1,k,c,s=>match c with
  | .skip=>some (.normal,s)
  | .label _=>some (.normal,s)
  | .seq a b=>match exec Γ n k a s with
   |some (.normal,s')=>exec Γ n k b s'
   |r=>r
  | .cond c x y=>match ev s.t c with
   |some (.bool true)=>exec Γ n k x s
   |some (.bool false)=>exec Γ n k y s
   |_=>none
  | .block id b=>match exec Γ n k b s with
   |some (.exit j,s')=>if j=id then some (.normal,s') else some (.exit j,s')
   |r=>r
  | .loop b=>match exec Γ n k b s with
   |some (.normal,s')=>exec Γ n k (.loop b) s'
   |r=>r
  | .scope b=>match exec Γ n k b s with
   |some (.goto _,_)=>none
   |r=>r
  | .exit id=>some (.exit id,s)
  | .ret=>some (.ret,s)
  | .region _ ops draw=>match draw with
   |true=>match P.follows .mixedOrders,runD P Γ (callG P Γ fun k=>exec Γ n k) k ops s.h.length (masks ops.toList []) (List.range ops.size) ⟨s.t,s.h++List.replicate (makes Γ.nb ops.toList) .gap,s.ob⟩ with
    |true,some (s',fs)=>match drawOK P Γ s.h.length fs ops with
     |true=>some (.normal,s')
     |false=>none
    |_,_=>none
   |false=>(runOps P (callG P Γ fun k=>exec Γ n k) Γ.sym Γ.inp k ops (List.range ops.size) s).map fun s'=>(.normal,s')
  |_=>none
def callS (Γ:Ctr) (n:Nat) (fn:Func) (args:List SV) (h:List Blk):Option (SV×List Blk×Bool):=callW P (exec P Γ n h.length) fn args h
end
end Go.Sy
namespace Go.Sy
open Go
section
variable {P:Program} {e:Env}
theorem VR.empty:VR e (.tup []) undef:=⟨[],rfl,rfl⟩
theorem TR.get {t:List (Option SV)} {t':List Value} (h:TR e t t') {i:Nat} {v:SV} (g:t[i]? =some (some v)):∃v',t'[i]? =some v'∧VR e v v':=by
 have hi:i<t'.length:=by rw [←h.1];exact (List.getElem?_eq_some_iff.1 g).1
 exact ⟨t'[i],List.getElem?_eq_getElem hi,h.2 i v _ g (List.getElem?_eq_getElem hi)⟩
theorem TR.set {t:List (Option SV)} {t':List Value} (h:TR e t t') {v:SV} {v':Value} (g:VR e v v') (i:Nat):TR e (t.set i (some v)) (t'.set i v'):=by
 refine ⟨by simp [h.1],fun j x x' hx hx'=>?_⟩
 by_cases hij:i=j
 ·subst hij
  have h1:i<t.length:=by have:=(List.getElem?_eq_some_iff.1 hx).1;simpa using this
  have h2:i<t'.length:=by rw [←h.1];exact h1
  rw [List.getElem?_set_self h1] at hx
  rw [List.getElem?_set_self h2] at hx'
  cases hx;cases hx'
  exact g
 ·rw [List.getElem?_set_ne hij] at hx hx'
  exact h.2 j x x' hx hx'
theorem TR.mono {e':Env} (h:Env.Le e e') {t:List (Option SV)} {t':List Value} (g:TR e t t'):TR e' t t':=
 ⟨g.1,fun i v v' a b=>VR.mono h (g.2 i v v' a b)⟩
theorem TR.kill {e':Env} (hz:∀n o,e.z n=some o→e'.z n=some o) (hn:e'.n0≤e.n0) {b:Nat} (hr:∀j p,j≠b→e.r j=some p→e'.r j=some p) {t:List (Option SV)} {t':List Value} (g:TR e t t'):TR e' (killT (some b) t) t':=by
 refine ⟨by simp [killT,g.1],fun i v v' a c=>?_⟩
 simp only [killT,List.getElem?_map] at a
 cases hq:t[i]? with
 |none=>simp [hq] at a
 |some x=>
  cases x with
  |none=>simp [hq] at a
  |some x=>
   simp only [hq,Option.map_some,Option.some.injEq] at a
   split at a
   ·cases a
   ·rename_i hu
    cases a
    refine VR.mono' hz hn v v' (fun j p hj hp=>hr j p (fun q=>?_) hp) (g.2 i v v' hq c)
    subst q;exact hu hj
mutual
theorem ofV_sound:∀{v:Value} {s:SV},ofV v=some s→VR e s v
 | .bool b,s,h=>by simp only [ofV,Option.some.injEq] at h;subst h;exact rfl
 | .int k n,s,h=>by simp only [ofV,Option.some.injEq] at h;subst h;exact rfl
 | .string x,s,h=>by simp only [ofV,Option.some.injEq] at h;subst h;exact ⟨x,rfl,rfl⟩
 | .pointer none,s,h=>by simp only [ofV,Option.some.injEq] at h;subst h;exact rfl
 | .pointer (some a),s,h=>by simp [ofV] at h
 | .slice none 0 0,s,h=>by simp only [ofV,Option.some.injEq] at h;subst h;exact rfl
 | .slice none (_+1) _,s,h=>by simp [ofV] at h
 | .slice none 0 (_+1),s,h=>by simp [ofV] at h
 | .slice (some _) _ _,s,h=>by simp [ofV] at h
 | .map none,s,h=>by simp only [ofV,Option.some.injEq] at h;subst h;exact rfl
 | .map (some _),s,h=>by simp [ofV] at h
 | .chan none,s,h=>by simp only [ofV,Option.some.injEq] at h;subst h;exact rfl
 | .chan (some _),s,h=>by simp [ofV] at h
 | .nilFunc,s,h=>by simp only [ofV,Option.some.injEq] at h;subst h;exact rfl
 | .nilIface,s,h=>by simp only [ofV,Option.some.injEq] at h;subst h;exact rfl
 | .float _ _,s,h=>by simp [ofV] at h
 | .complex _ _ _,s,h=>by simp [ofV] at h
 | .agg _,s,h=>by simp [ofV] at h
 | .tuple ⟨xs⟩,s,h=>by
  simp only [ofV] at h
  obtain ⟨a,h1,rfl⟩:=Option.map_eq_some_iff.1 h
  exact ⟨xs,ofL_sound h1,rfl⟩
 | .iface t x,s,h=>by
  simp only [ofV] at h
  obtain ⟨a,h1,rfl⟩:=Option.map_eq_some_iff.1 h
  exact ⟨x,ofV_sound h1,rfl⟩
 | .func f ⟨xs⟩ ⟨ys⟩,s,h=>by
  simp only [ofV] at h
  split at h
  ·rename_i a b h1 h2
   cases h
   exact ⟨xs,ys,ofL_sound h1,ofL_sound h2,rfl⟩
  ·cases h
theorem ofL_sound:∀{v:List Value} {s:List SV},ofL v=some s→LR e s v
 | [],s,h=>by simp only [ofL,Option.some.injEq] at h;subst h;exact rfl
 |x::xs,s,h=>by
  simp only [ofL] at h
  split at h
  ·rename_i a b h1 h2
   cases h
   exact ⟨x,xs,ofV_sound h1,ofL_sound h2,rfl⟩
  ·cases h
end
theorem ev_sound {t:List (Option SV)} {t':List Value} {d:List Deferred} (h:TR e t t') {x:Operand} {v:SV} (g:ev t x=some v):VR e v (Act.eval ⟨⟨t'⟩,d⟩ x):=by
 cases x with
 |tmp i=>
  simp only [ev] at g
  split at g
  ·rename_i u hu
   cases g
   obtain ⟨v',hv',hv⟩:=h.get hu
   have:Act.eval ⟨⟨t'⟩,d⟩ (.tmp i)=v':=by
    show (⟨t'⟩:Array Value).getD i undef=v'
    rw [Array.getD_eq_getD_getElem?]
    simp [hv']
   rw [this]
   exact hv
  ·cases g
 |const c=>exact ofV_sound g
 |func f=>simp only [ev,Option.some.injEq] at g;subst g;exact ⟨[],[],rfl,rfl,rfl⟩
 |global g'=>
  simp only [ev] at g
  split at g
  ·cases g;rfl
  ·cases g
theorem evL_sound {t:List (Option SV)} {t':List Value} {d:List Deferred} (h:TR e t t'):∀{xs:List Operand} {vs:List SV},evL t xs=some vs→LR e vs (xs.map (Act.eval ⟨⟨t'⟩,d⟩))
 | [],vs,g=>by simp [evL] at g;subst g;rfl
 |x::xs,vs,g=>by
  simp only [evL] at g
  split at g
  ·rename_i v vs' hx hxs;cases g
   exact ⟨_,_,ev_sound h hx,evL_sound h hxs,rfl⟩
  ·cases g
def VO (e:Env):Option SV→Option Value→Prop
 |none,y=>y=none
 |some x,y=>∃z,y=some z∧VR e x z
theorem evO_sound {t:List (Option SV)} {t':List Value} {d:List Deferred} (h:TR e t t') {x:Option Operand} {v:Option SV} (g:evO t x=some v):VO e v (x.map (Act.eval ⟨⟨t'⟩,d⟩)):=by
 cases x with
 |none=>simp only [evO,Option.some.injEq] at g;subst g;rfl
 |some x=>
  simp only [evO] at g
  obtain ⟨u,hu,rfl⟩:=Option.map_eq_some_iff.1 g
  exact ⟨_,rfl,ev_sound h hu⟩
theorem szOf_run {t:TypeId} {n:Nat} (h:szOf P t=some n) (w:World):(sizeOf t).run P w= .ok n w:=by
 cases hq:P.info? t with
 |none=>simp [szOf,hq] at h
 |some i=>simp [szOf,hq] at h;subst h;simp [sizeOf,typeInfo,hq]
theorem szOf_info {t:TypeId} {n:Nat} (h:szOf P t=some n):∃i,P.info? t=some i∧i.size=n:=by
 cases hq:P.info? t with
 |none=>simp [szOf,hq] at h
 |some i=>simp [szOf,hq] at h;exact ⟨i,rfl,h⟩
theorem zeroOf_run {t:TypeId} {z:Value} (h:zeroOf P t=some z) (w:World):(zeroValue t).run P w= .ok z w:=by
 cases hq:P.info? t with
 |none=>simp [zeroOf,hq] at h
 |some i=>simp [zeroOf,hq] at h;simp [zeroValue,typeInfo,hq,h]
theorem aggB_run {t:TypeId} {b:Bool} (h:aggB P t=some b) (w:World):(isAgg t).run P w= .ok b w:=by
 cases hq:P.underlying t with
 |none=>simp [aggB,hq] at h
 |some d=>
  simp only [aggB,hq,Option.map_some,Option.some.injEq] at h
  unfold isAgg
  rw [Sem.run_bind,run_underlying hq w]
  cases d<;>simp_all
theorem isInt_eq {t:TypeId} {k:IntKind} (h:isInt P t=some k):P.underlying t=some (.int k):=by
 unfold isInt at h
 split at h
 ·rename_i k' hu;cases h;exact hu
 ·cases h
theorem sameI_sound {k:IntKind}:∀{xs:List Int} {ys zs:List Value},sameI k xs ys=some zs→ys=intsV k xs++zs
 | [],ys,zs,h=>by simp only [sameI,Option.some.injEq] at h;subst h;rfl
 |a::as,ys,zs,h=>by
  unfold sameI at h
  split at h
  ·rename_i h1;cases h1
  ·rename_i a' as' k' b ys' h1
   cases h1
   split at h
   ·rename_i hc
    obtain ⟨rfl,rfl⟩:=hc
    rw [sameI_sound h];rfl
   ·cases h
  ·cases h
theorem nilC_eq {v w:Value} {a:Nat} (h:nilC v=some a) (g:nilC w=some a):w=v:=by
 have key:∀{u:Value} {a:Nat},nilC u=some a→(a=0∧u= .pointer none)∨(a=1∧u= .slice none 0 0)∨(a=2∧u= .map none)∨(a=3∧u= .chan none)∨(a=4∧u= .nilFunc)∨(a=5∧u= .nilIface):=by
  intro u a h
  unfold nilC at h
  split at h<;>simp at h<;>subst h<;>simp
 rcases key h with ⟨h1,rfl⟩|⟨h1,rfl⟩|⟨h1,rfl⟩|⟨h1,rfl⟩|⟨h1,rfl⟩|⟨h1,rfl⟩<;>rcases key g with ⟨h2,rfl⟩|⟨h2,rfl⟩|⟨h2,rfl⟩|⟨h2,rfl⟩|⟨h2,rfl⟩|⟨h2,rfl⟩<;>first|rfl|omega
theorem sameC_sound {x:SV} {y:Value} (h:sameC x y=true):VR e x y∧notInts x=true:=by
 unfold sameC at h
 split at h
 ·simp at h;subst h;exact ⟨rfl,rfl⟩
 ·simp at h;obtain ⟨rfl,rfl⟩:=h;exact ⟨rfl,rfl⟩
 ·rename_i s
  refine ⟨⟨s,rfl,?_⟩,rfl⟩
  have:s.data.toList=[]:=by simpa using h
  simp [strL,this]
 ·rename_i v w
  split at h
  ·rename_i a b ha hb
   simp at h;subst h
   exact ⟨nilC_eq ha hb,rfl⟩
  ·cases h
 ·cases h
theorem sameP_sound:∀{ps:List SV} {ys:List Value},sameP ps ys=true→PR e ps ys
 | [],ys,h=>by simp [sameP] at h;exact h
 |x::xs,ys,h=>by
  unfold sameP at h
  split at h
  ·rename_i h1;cases h1
  ·rename_i k n l ps ys h1
   cases h1
   split at h
   ·rename_i zs hz
    simp only [Bool.and_eq_true,decide_eq_true_eq] at h
    exact ⟨zs,sameP_sound h.2,by rw [lst_eq h.1];exact sameI_sound hz⟩
   ·cases h
  ·rename_i p ps y ys hni h1
   cases h1
   simp only [Bool.and_eq_true] at h
   obtain ⟨hv,hn⟩:=sameC_sound (e:=e) h.1
   exact (PR.cons hn).2 ⟨y,ys,hv,sameP_sound h.2,rfl⟩
  ·cases h
theorem cellsL_eq (v:Value):cellsL v=v.cells.toList:=by cases v<;>rfl
theorem zeroS_sound {t:TypeId} {ps:List SV} (h:zeroS P t=some ps):∃z,zeroOf P t=some z∧PR e ps z.cells.toList:=by
 unfold zeroS at h
 split at h
 ·rename_i z ps' hz hp
  split at h
  ·rename_i hs
   cases h
   exact ⟨z,hz,by rw [←cellsL_eq];exact sameP_sound hs⟩
  ·cases h
 ·cases h
theorem VR.agg_of {ps:List SV} {v':Value} (h:VR e (.agg ps) v'):∃ys,PR e ps ys∧v'= .agg ⟨ys⟩:=h
theorem VR.parts {v:SV} {v':Value} (h:VR e v v') (ho:one v=true∨∃ps,v= .agg ps):PR e (partsOf v) v'.cells.toList:=by
 rcases ho with ho|⟨ps,rfl⟩
 ·have h1:=h.oneCell ho
  have h2:partsOf v=[v]:=by cases v<;>first|rfl|cases ho
  have h3:notInts v=true:=by cases v<;>first|rfl|cases ho
  have h4:v'.cells.toList=[v']:=by cases v'<;>first|rfl|cases h1
  rw [h2,h4]
  exact (PR.cons h3).2 ⟨v',[],h,rfl,rfl⟩
 ·obtain ⟨ys,h1,rfl⟩:=h.agg_of
  exact h1
theorem addr_add (n o j:Nat):(⟨n,o,none⟩:Addr).add j=⟨n,o+j,none⟩:=by unfold Addr.add;split<;>simp_all
variable {B:Base} {h:List Blk} {w:World}
theorem Rel.block (R:Rel B e h w) {b:Nat} {p:Pl} {ps:List SV} (hr:e.r b=some p) (hb:h[b]? =some (.b ps)):
  ∃c t,w.heap[p.n]? =some (.cells c t (0,0))∧p.base+p.size≤c.size∧psize ps≤p.size∧PR e ps ((c.toList.drop p.base).take (psize ps)):=by
 rcases R.blk b ps hb with ⟨_,hn⟩|⟨q,o,hq,ho,hbr⟩
 ·rw [hr] at hn;cases hn
 ·rw [hr] at hq;cases hq
  obtain ⟨c,t,rfl,h1,h2,h3⟩:=hbr
  exact ⟨c,t,ho,h1,h2,h3⟩
theorem Rel.tracked (R:Rel B e h w) {b:Nat} {p:Pl} (hr:e.r b=some p):∃ps,h[b]? =some (.b ps):=by
 have hd:=R.dom b p hr
 cases hq:h[b]? with
 |none=>rw [List.getElem?_eq_none_iff] at hq;omega
 |some x=>
  cases x with
  |b ps=>exact ⟨ps,rfl⟩
  |g _=>rw [(R.gap b _ hq).1] at hr;cases hr
theorem Rel.isCells (R:Rel B e h w) {b:Nat} {p:Pl} (hr:e.r b=some p):∃c t,w.heap[p.n]? =some (.cells c t (0,0))∧p.base+p.size≤c.size:=by
 obtain ⟨ps,hps⟩:=R.tracked hr
 obtain ⟨c,t,h1,h2,_⟩:=R.block hr hps
 exact ⟨c,t,h1,h2⟩
theorem Rel.lt (R:Rel B e h w) {b:Nat} {p:Pl} (hr:e.r b=some p):p.n<w.heap.size:=by
 obtain ⟨c,t,h1,_⟩:=R.isCells hr
 exact (Array.getElem?_eq_some_iff.1 h1).1
theorem Rel.zlt (R:Rel B e h w) {n:Nat} {x} (hz:e.z n=some x):n<w.heap.size:=by
 obtain ⟨c,t,fr⟩:=x
 exact (Array.getElem?_eq_some_iff.1 (R.zok n c t fr hz)).1
theorem cell_of {n:Nat} {c:Array Value} {t:TypeId} {fr:Nat×Nat} (hb:w.heap[n]? =some (.cells c t fr)) {j:Nat} {y:Value} (hy:c.toList[j]? =some y):w.cell? ⟨n,j,none⟩=some y:=by
 simp only [World.cell?,hb]
 simpa using hy
theorem run_loadVar_agg {n o m:Nat} {c:Array Value} {t ty:TypeId} {fr:Nat×Nat} (hb:w.heap[n]? =some (.cells c t fr)) (hagg:aggB P ty=some true) (hs:szOf P ty=some m) (hl:o+m≤c.size):
  (loadVar ty ⟨n,o,none⟩).run P w= .ok (.agg ⟨(c.toList.drop o).take m⟩) w:=by
 have hlen:((c.toList.drop o).take m).length=m:=by simp [List.length_take,List.length_drop];omega
 have hrun:=run_loadCells_list (P:=P) w ⟨n,o,none⟩ ((c.toList.drop o).take m) (fun j v hv=>by
  rw [addr_add]
  apply cell_of hb
  have hj:j<m:=by
   have:=(List.getElem?_eq_some_iff.1 hv).1
   omega
  rwa [List.getElem?_take_of_lt hj,List.getElem?_drop] at hv)
 rw [hlen] at hrun
 simp [loadVar,Sem.run_bind,aggB_run hagg,szOf_run hs,hrun]
theorem run_loadVar_cell {n o:Nat} {y:Value} {ty:TypeId} (hc:w.cell? ⟨n,o,none⟩=some y) (hagg:aggB P ty=some false):(loadVar ty ⟨n,o,none⟩).run P w= .ok y w:=by
 simp [loadVar,Sem.run_bind,aggB_run hagg,run_load,hc]
theorem subI_sound {ps:List SV} {o i n:Nat} {q:List SV} {ys:List Value} (hs:subI ps o i n=some (q,true)) (g:PR e ps ys):PR e q ((ys.drop (o+i)).take n)∧o+i+n≤ys.length:=by
 unfold subI at hs
 split at hs
 ·obtain ⟨q',h1,h2⟩:=Option.map_eq_some_iff.1 hs
  cases h2
  exact subP_sound h1 g
 ·rename_i i
  split at hs
  ·rename_i k m xs ps' hd
   simp only [Option.some.injEq,Prod.mk.injEq,decide_eq_true_eq] at hs
   obtain ⟨rfl,hle⟩:=hs
   obtain ⟨h1,h2⟩:=dropP_sound hd g
   obtain ⟨zs,h3,h4⟩:=h1
   have hlen:ys.length-o=m+zs.length:=by rw [←List.length_drop,h4];simp [intsV_length,lst_length]
   refine ⟨⟨[],rfl,?_⟩,by omega⟩
   rw [←List.drop_drop,h4,List.append_nil,List.drop_append_of_le_length (by rw [intsV_length,lst_length];omega),List.take_append_of_le_length (by rw [List.length_drop,intsV_length,lst_length];omega)]
   rw [←intsV_drop, ←intsV_take, ←lst_drop, ←lst_take (by omega)]
  ·cases hs
theorem intsV_at {k:IntKind} {xs:List Int} {c:List Value} {o i:Nat} (hq:intsV k xs=(c.drop o).take xs.length) (hi:i<xs.length):c[o+i]? =some (.int k (xs.getD i 0)):=by
 have h1:=intsV_get (k:=k) hi
 rw [hq,List.getElem?_take_of_lt hi,List.getElem?_drop] at h1
 exact h1
theorem loadS_sound (R:Rel B e h w) {ty:TypeId} {a v:SV} {a':Value} (g:loadS P ty h a=some (v,true)) (ha:VR e a a'):
  ∃x v',a'= .pointer (some x)∧(loadVar ty x).run P w= .ok v' w∧VR e v v':=by
 unfold loadS at g
 split at g
 ·rename_i b o i
  obtain ⟨p,hp,rfl⟩:=ha
  split at g
  ·rename_i ps hb
   obtain ⟨c,t,hc,hsz,hpsz,hpr⟩:=R.block hp hb
   split at g
   ·rename_i hagg
    split at g
    ·rename_i n hn
     obtain ⟨⟨q,pq⟩,hq,h2⟩:=Option.map_eq_some_iff.1 g
     simp only [Prod.mk.injEq] at h2
     obtain ⟨rfl,rfl⟩:=h2
     obtain ⟨h3,h4⟩:=subI_sound hq hpr
     have hl:((c.toList.drop p.base).take (psize ps)).length=psize ps:=by simp;omega
     rw [hl] at h4
     refine ⟨_,_,rfl,run_loadVar_agg hc hagg hn (by omega),_,?_,rfl⟩
     rw [List.drop_take,List.take_take,List.drop_drop,Nat.min_eq_left (by omega)] at h3
     exact h3
    ·cases g
   ·rename_i hagg
    obtain ⟨y,hy,hv⟩:=cellP_sound g hpr
    refine ⟨_,y,rfl,run_loadVar_cell (cell_of hc ?_) hagg,hv⟩
    have hlt:o+i<psize ps:=by
     have:=(List.getElem?_eq_some_iff.1 hy).1
     simp at this;omega
    rwa [List.getElem?_take_of_lt hlt,List.getElem?_drop] at hy
   ·cases g
  ·cases g
 ·rename_i k xs i
  obtain ⟨n,o,c,t,fr,rfl,hz,hq⟩:=ha
  have hc:=R.zok _ _ _ _ hz
  split at g
  ·rename_i hagg
   split at g
   ·rename_i m hm
    simp only [Option.some.injEq,Prod.mk.injEq,Bool.and_eq_true,decide_eq_true_eq] at g
    obtain ⟨rfl,hpos,hle⟩:=g
    have hlen:xs.length≤c.size-o:=by
     have:=congrArg List.length hq
     simp [intsV_length] at this;omega
    refine ⟨_,_,rfl,run_loadVar_agg hc hagg hm (by omega),_,⟨[],rfl,rfl⟩,?_⟩
    rw [List.append_nil,lst_eq (by simp;omega),intsV_take,intsV_drop,hq,List.drop_take,List.take_take,List.drop_drop,Nat.min_eq_left (by omega)]
   ·cases g
  ·rename_i hagg
   simp only [Option.some.injEq,Prod.mk.injEq,decide_eq_true_eq] at g
   obtain ⟨rfl,hlt⟩:=g
   exact ⟨_,_,rfl,run_loadVar_cell (cell_of hc (intsV_at hq hlt)) hagg,rfl⟩
  ·cases g
 ·rename_i f xss i
  obtain ⟨n,o,c,t,fr,rfl,hz,hq⟩:=ha
  have hc:=R.zok _ _ _ _ hz
  split at g
  ·rename_i hagg
   simp only [Option.some.injEq,Prod.mk.injEq,decide_eq_true_eq] at g
   obtain ⟨rfl,hlt⟩:=g
   obtain ⟨y,hy,hv⟩:=hq i _ (List.getElem?_eq_getElem hlt)
   refine ⟨_,y,rfl,run_loadVar_cell (cell_of hc hy) hagg,?_⟩
   have:xss.getD i []=xss[i]:=by simp [List.getD,List.getElem?_eq_getElem hlt]
   rw [this];exact hv
  ·cases g
 ·rename_i f z len c0 el o i
  obtain ⟨n,o0,c,t,fr,rfl,hz,hq,hsz⟩:=ha
  have hc:=R.zok _ _ _ _ hz
  have up:∀{q:SV} {y:Value},VR ⟨fun _=>none,e.z,e.n0,[],fun _=>none⟩ q y→VR e q y:=fun hv=>VR.mono (e:=⟨fun _=>none,e.z,e.n0,[],fun _=>none⟩) (e':=e) ⟨(fun _ _ x=>by cases x),(fun _ _ x=>x),Nat.le_refl _⟩ hv
  have hrow:el<len→el*z+z≤len*z:=fun hlt=>by
   have:=Nat.mul_le_mul_right z (Nat.succ_le_of_lt hlt)
   rw [Nat.succ_mul] at this;exact this
  split at g
  ·rename_i hagg
   split at g
   ·rename_i m hm
    obtain ⟨⟨q,pq⟩,hq',h2⟩:=Option.map_eq_some_iff.1 g
    simp only [Prod.mk.injEq,Bool.and_eq_true,decide_eq_true_eq] at h2
    obtain ⟨rfl,rfl,hlt,hle⟩:=h2
    have:=hrow hlt
    obtain ⟨h3,h4⟩:=subI_sound hq' (hq el hlt)
    refine ⟨_,_,rfl,run_loadVar_agg hc hagg hm (by omega),up ⟨_,?_,rfl⟩⟩
    rw [List.drop_take,List.take_take,List.drop_drop,Nat.min_eq_left (by omega)] at h3
    exact h3
   ·cases g
  ·rename_i hagg
   obtain ⟨⟨q,pq⟩,hq',h2⟩:=Option.map_eq_some_iff.1 g
   simp only [Prod.mk.injEq,Bool.and_eq_true,decide_eq_true_eq] at h2
   obtain ⟨rfl,rfl,hlt,hle⟩:=h2
   obtain ⟨y,hy,hv⟩:=cellP_sound hq' (hq el hlt)
   refine ⟨_,y,rfl,run_loadVar_cell (cell_of hc ?_) hagg,up hv⟩
   rwa [List.getElem?_take_of_lt hle,List.getElem?_drop] at hy
  ·cases g
 ·rename_i b z el o i
  obtain ⟨p,hp,rfl⟩:=ha
  split at g
  ·rename_i z' n gg hb
   obtain ⟨c,t,hc,hsz,hpsz,us,zs,k1,k2,k3,k4⟩:=R.block hp hb
   rw [PR] at k3;subst k3
   rw [List.append_nil] at k4
   have hps0:psize [SV.rows z' n gg]=n*z':=by simp [psize,psz]
   rw [hps0] at k4 hpsz
   have up:∀{q:SV} {y:Value},VR ⟨fun _=>none,e.z,e.n0,[],fun _=>none⟩ q y→VR e q y:=fun hv=>VR.mono (e:=⟨fun _=>none,e.z,e.n0,[],fun _=>none⟩) (e':=e) ⟨(fun _ _ x=>by cases x),(fun _ _ x=>x),Nat.le_refl _⟩ hv
   have hrow:el<n→el*z'+z'≤n*z':=fun hlt=>by
    have:=Nat.mul_le_mul_right z' (Nat.succ_le_of_lt hlt)
    rw [Nat.succ_mul] at this;exact this
   have hel:el<n→PR ⟨fun _=>none,e.z,e.n0,[],fun _=>none⟩ (gg el) ((c.toList.drop (p.base+el*z')).take z'):=fun hlt=>by
    have k:=k2 el hlt
    have:=hrow hlt
    rw [←k4,List.drop_take,List.take_take,List.drop_drop,Nat.min_eq_left (by omega)] at k
    exact k
   split at g
   ·rename_i hz hagg
    obtain rfl:=Nat.eq_of_beq_eq_true hz
    split at g
    ·rename_i m hm
     obtain ⟨⟨q,pq⟩,hq',h2⟩:=Option.map_eq_some_iff.1 g
     simp only [Prod.mk.injEq,Bool.and_eq_true,decide_eq_true_eq] at h2
     obtain ⟨rfl,rfl,hlt,hle⟩:=h2
     have:=hrow hlt
     obtain ⟨h3,h4⟩:=subI_sound hq' (hel hlt)
     refine ⟨_,_,rfl,run_loadVar_agg hc hagg hm (by omega),up ⟨_,?_,rfl⟩⟩
     rw [List.drop_take,List.take_take,List.drop_drop,Nat.min_eq_left (by omega),Nat.add_assoc] at h3
     exact h3
    ·cases g
   ·rename_i hz hagg
    obtain rfl:=Nat.eq_of_beq_eq_true hz
    obtain ⟨⟨q,pq⟩,hq',h2⟩:=Option.map_eq_some_iff.1 g
    simp only [Prod.mk.injEq,Bool.and_eq_true,decide_eq_true_eq] at h2
    obtain ⟨rfl,rfl,hlt,hle⟩:=h2
    obtain ⟨y,hy,hv⟩:=cellP_sound hq' (hel hlt)
    refine ⟨_,y,rfl,run_loadVar_cell (cell_of hc ?_) hagg,up hv⟩
    rw [List.getElem?_take_of_lt hle,List.getElem?_drop,Nat.add_assoc] at hy
    exact hy
   ·cases g
  ·cases g
 ·rename_i gi i
  rw [VR] at ha
  subst ha
  split at g
  ·rename_i k xs hg hagg
   simp only [Option.some.injEq,Prod.mk.injEq,decide_eq_true_eq] at g
   obtain ⟨rfl,hlt⟩:=g
   obtain ⟨c,t,fr,h1,h2⟩:=R.glb gi k xs hg
   have hc:=R.zok _ _ _ _ h1
   exact ⟨_,_,rfl,run_loadVar_cell (cell_of hc (by have:=intsV_at (o:=0) (c:=c.toList) (by simpa using h2) hlt;simpa using this)) hagg,rfl⟩
  ·cases g
 ·cases g
theorem Rel.setBlock (R:Rel B e h w) {b:Nat} {p:Pl} {ps':List SV} {c c':Array Value} {t:TypeId} (hr:e.r b=some p) (hc:w.heap[p.n]? =some (.cells c t (0,0)))
  (hs:c'.size=c.size) (hout:∀j,j<p.base∨p.base+p.size≤j→c'[j]? =c[j]?) (hps:psize ps'≤p.size) (hpr:PR e ps' ((c'.toList.drop p.base).take (psize ps'))):
  Rel B e (h.set b (.b ps')) (w.setRow p.n c'):=by
 have hb:=R.dom b p hr
 obtain ⟨c0,t0,h1,h2⟩:=R.isCells hr
 rw [hc] at h1;cases h1
 have hself:(w.setRow p.n c').heap[p.n]? =some (.cells c' t (0,0)):=setRow_heap w p.n c c' t (0,0) hc
 have hother:∀n,n≠p.n→(w.setRow p.n c').heap[n]? =w.heap[n]? :=fun n hn=>setRow_other w p.n n c' hn
 exact {
  os:=R.os,tape:=R.tape,output:=R.output
  size:=by have:=R.size;simpa [World.setRow] using this
  inj:=R.inj
  dom:=fun i q hi=>by simpa using R.dom i q hi
  sep:=R.sep
  zok:=fun n cc tt fr hz=>by
   rw [hother n (fun q=>by rw [q,R.sep b p hr] at hz;cases hz)]
   exact R.zok n cc tt fr hz
  zfresh:=R.zfresh,glb:=R.glb,news:=R.news,keepr:=R.keepr,keepz:=R.keepz,n0:=R.n0,n0le:=R.n0le
  blk:=fun i qs hi=>by
   by_cases hbi:b=i
   ·subst hbi
    rw [List.getElem?_set_self hb] at hi
    cases hi
    exact .inr ⟨p,_,hr,hself,c',t,rfl,by rw [hs];exact h2,hps,hpr⟩
   ·rw [List.getElem?_set_ne hbi] at hi
    rcases R.blk i qs hi with g|⟨q,o,hq,ho,hbr⟩
    ·exact .inl g
    ·exact .inr ⟨q,o,hq,by rw [hother q.n (fun x=>hbi (R.inj i b q p hq hr x).symm)];exact ho,hbr⟩
  gap:=fun i g hi=>by
   by_cases hbi:b=i
   ·subst hbi;rw [List.getElem?_set_self hb] at hi;cases hi
   ·rw [List.getElem?_set_ne hbi] at hi
    refine ⟨(R.gap i g hi).1,(R.gap i g hi).2.le (fun n o hn=>?_) rfl (Env.Le.refl e)⟩
    rw [hother n (fun q=>by subst q;rw [hc] at hn;cases hn)];exact hn
  yi:=R.yi,yb:=R.yb
  old:=fun n hn hno hnl=>by
   rw [hother n (fun q=>?_)]
   ·exact R.old n hn hno hnl
   ·subst q
    rcases R.news b p hr with g|g
    ·exact hno b p g rfl
    ·omega
  win:=fun i q hq=>by
   obtain ⟨o,o',ho,ho',hso⟩:=R.win i q hq
   by_cases hqp:q.n=p.n
   ·have hib:=R.inj i b q p (R.keepr i q hq) hr hqp
    subst hib
    have:=R.keepr i q hq
    rw [hr] at this;cases this
    rw [hc] at ho';cases ho'
    obtain ⟨d,d',tt,fr,rfl,q1,q2,q3⟩:=hso
    cases q1
    exact ⟨_,_,ho,hself,d,c',t,(0,0),rfl,rfl,by rw [hs,q2],fun j hj=>by rw [hout j hj,q3 j hj]⟩
   ·exact ⟨o,o',ho,by rw [hother q.n hqp];exact ho',hso⟩
  kr:=R.kr
  kle:=by simpa using R.kle
  mks:=fun r hrm=>by
   refine ⟨?_,(R.mks r hrm).2⟩
   rw [hother r (fun q=>?_)]
   ·exact (R.mks r hrm).1
   ·subst q;have:=(R.mks _ hrm).1;rw [hc] at this;cases this
  mnd:=R.mnd}
theorem cells_oneCell {ps:List SV}:∀{ys:List Value},PR e ps ys→ps.all (fun p=>one p||isI p)=true→∀v∈ys,v.oneCell'=true:=by
 induction ps with
 |nil=>intro ys g _ v hv;rw [PR] at g;subst g;cases hv
 |cons x xs ih=>
  intro ys g ha v hv
  simp only [List.all_cons,Bool.and_eq_true] at ha
  by_cases hx:notInts x=true
  ·obtain ⟨y,zs,h1,h2,rfl⟩:=(PR.cons hx).1 g
   have ho:one x=true:=by
    have:=ha.1
    cases x<;>simp_all [one,isI,notInts]
   rcases List.mem_cons.1 hv with rfl|hv
   ·exact h1.oneCell ho
   ·exact ih h2 ha.2 v hv
  ·cases x<;>simp [notInts] at hx
   case rows=>simp [one,isI] at ha
   obtain ⟨zs,h2,rfl⟩:=g
   rcases List.mem_append.1 hv with hv|hv
   ·simp only [intsV,List.mem_map] at hv
    obtain ⟨n,_,rfl⟩:=hv
    rfl
   ·exact ih h2 ha.2 v hv
end
end Go.Sy
namespace Go.Sy
open Go
section
variable {P:Program} {e:Env} {B:Base} {h:List Blk} {w:World}
theorem Rel.storeAt (R:Rel B e h w) {b:Nat} {p:Pl} {ps:List SV} {c:Array Value} {t:TypeId} (hp:e.r b=some p) (hc:w.heap[p.n]? =some (.cells c t (0,0))) (hsz:p.base+p.size≤c.size) (hpsz:psize ps≤p.size)
  (q:Nat) (vs:List Value) (ps':List SV) (hq:q+vs.length≤psize ps) (hps:psize ps'=psize ps) (hone:∀v∈vs,v.oneCell'=true)
  (hpr':PR e ps' (((c.toList.drop p.base).take (psize ps)).take q++vs++((c.toList.drop p.base).take (psize ps)).drop (q+vs.length))):
  ∃w',(storeCells ⟨p.n,p.base+q,none⟩ vs 0).run P w= .ok () w'∧Rel B e (h.set b (.b ps')) w':=by
 have hst:=run_storeCells_at P p.n (p.base+q) t vs 0 c w hc (by omega) hone
 simp only [Nat.add_zero] at hst
 refine ⟨_,hst,R.setBlock hp hc ?_ ?_ (by omega) ?_⟩
 ·simp;omega
 ·intro j hj
  simp only [List.getElem?_toArray]
  rcases Nat.lt_or_ge j (p.base+q) with h1|h1
  ·rw [List.append_assoc,List.getElem?_append_left (by simp;omega),List.getElem?_take,if_pos h1];simp
  ·have h2:p.base+q+vs.length≤j:=by omega
   rw [List.getElem?_append_right (by simp;omega),List.getElem?_drop]
   have:p.base+q+vs.length+(j-(List.take (p.base+q) c.toList++vs).length)=j:=by simp;omega
   rw [this];simp
 ·rw [hps]
  have:(List.drop p.base (c.toList.take (p.base+q)++vs++c.toList.drop (p.base+q+vs.length))).take (psize ps)=((c.toList.drop p.base).take (psize ps)).take q++vs++((c.toList.drop p.base).take (psize ps)).drop (q+vs.length):=by
   apply List.ext_getElem?
   intro j
   simp only [List.getElem?_take,List.getElem?_drop,List.getElem?_append,List.length_append,List.length_take,List.length_drop,Array.length_toList]
   by_cases h1:j<psize ps
   ·rw [if_pos h1]
    by_cases h2:j<q
    ·simp only [show p.base+j<min (p.base+q) c.size+vs.length from by omega,show p.base+j<min (p.base+q) c.size from by omega,show p.base+j<p.base+q from by omega,show j<min q (min (psize ps) (c.size-p.base))+vs.length from by omega,show j<min q (min (psize ps) (c.size-p.base)) from by omega,h2,h1,if_true]
    ·by_cases h3:j<q+vs.length
     ·simp only [show p.base+j<min (p.base+q) c.size+vs.length from by omega,show ¬p.base+j<min (p.base+q) c.size from by omega,show j<min q (min (psize ps) (c.size-p.base))+vs.length from by omega,show ¬j<min q (min (psize ps) (c.size-p.base)) from by omega,if_true,if_false]
      congr 1;omega
     ·simp only [show ¬p.base+j<min (p.base+q) c.size+vs.length from by omega,show ¬j<min q (min (psize ps) (c.size-p.base))+vs.length from by omega,if_false]
      rw [if_pos (by omega)]
      congr 1;omega
   ·rw [if_neg h1]
    simp only [show ¬j<min q (min (psize ps) (c.size-p.base))+vs.length from by omega,if_false]
    rw [if_neg (by omega)]
  simp only []
  rw [this];exact hpr'
theorem Rel.storeExt (R:Rel B e h w) {b:Nat} {p:Pl} {ps:List SV} {c:Array Value} {t:TypeId} (hp:e.r b=some p) (hc:w.heap[p.n]? =some (.cells c t (0,0))) (hsz:p.base+p.size≤c.size)
  (vs:List Value) (ps':List SV) (hq:psize ps+vs.length≤p.size) (hps:psize ps'=psize ps+vs.length) (hone:∀v∈vs,v.oneCell'=true)
  (hpr':PR e ps' ((c.toList.drop p.base).take (psize ps)++vs)):
  ∃w',(storeCells ⟨p.n,p.base+psize ps,none⟩ vs 0).run P w= .ok () w'∧Rel B e (h.set b (.b ps')) w':=by
 have hst:=run_storeCells_at P p.n (p.base+psize ps) t vs 0 c w hc (by omega) hone
 simp only [Nat.add_zero] at hst
 refine ⟨_,hst,R.setBlock hp hc ?_ ?_ (by omega) ?_⟩
 ·simp;omega
 ·intro j hj
  simp only [List.getElem?_toArray]
  rcases Nat.lt_or_ge j (p.base+psize ps) with h1|h1
  ·rw [List.append_assoc,List.getElem?_append_left (by simp;omega),List.getElem?_take,if_pos h1];simp
  ·have h2:p.base+psize ps+vs.length≤j:=by omega
   rw [List.getElem?_append_right (by simp;omega),List.getElem?_drop]
   have:p.base+psize ps+vs.length+(j-(List.take (p.base+psize ps) c.toList++vs).length)=j:=by simp;omega
   rw [this];simp
 ·rw [hps]
  have:(List.drop p.base (c.toList.take (p.base+psize ps)++vs++c.toList.drop (p.base+psize ps+vs.length))).take (psize ps+vs.length)=(c.toList.drop p.base).take (psize ps)++vs:=by
   have hlen:(c.toList.take (p.base+psize ps)).length=p.base+psize ps:=by rw [List.length_take,Array.length_toList];omega
   rw [List.append_assoc,List.drop_append_of_le_length (by omega),List.drop_take,Nat.add_sub_cancel_left]
   have hl2:((c.toList.drop p.base).take (psize ps)).length=psize ps:=by rw [List.length_take,List.length_drop,Array.length_toList];omega
   rw [←List.append_assoc,List.take_append_of_le_length (by rw [List.length_append,hl2];exact Nat.le_refl _),List.take_of_length_le (by rw [List.length_append,hl2];exact Nat.le_refl _)]
  simp only []
  rw [this];exact hpr'
inductive WeakV:SV→SV→Prop where
 |refl (x:SV):WeakV x x
 |ro (f f':Bool) (k:IntKind) (l:List Int) (h:f'=true→f=true):WeakV (.ro f k l) (.ro f' k l)
 |ro0 (f:Bool) (k:IntKind):WeakV (.nl (.slice none 0 0)) (.ro f k [])
 |rob (f f':Bool) (l:List (List Int)) (h:f'=true→f=true):WeakV (.rob f l) (.rob f' l)
 |rob0 (f:Bool):WeakV (.nl (.slice none 0 0)) (.rob f [])
theorem RoI.less {e:Env} {f f':Bool} {k:IntKind} {xs:List Int} {v:Value} (hf:f'=true→f=true) (g:RoI e f k xs v):RoI e f' k xs v:=by
 rcases g with h|⟨n,o,cap,c,t,fr,h1,h2,h3,h4,h5,h6⟩
 ·exact .inl h
 ·exact .inr ⟨n,o,cap,c,t,fr,h1,h2,fun q=>h3 (hf q),h4,h5,h6⟩
theorem RoB.less {e:Env} {f f':Bool} {xss:List (List Int)} {v:Value} (hf:f'=true→f=true) (g:RoB e f xss v):RoB e f' xss v:=by
 rcases g with h|⟨n,o,cap,c,t,fr,h1,h2,h3,h4,h5,h6⟩
 ·exact .inl h
 ·exact .inr ⟨n,o,cap,c,t,fr,h1,h2,fun q=>h3 (hf q),fun i xs hi=>(h4 i xs hi).imp fun y ⟨a,b⟩=>⟨a,b.less hf⟩,h5,h6⟩
theorem WeakV.PR {e:Env} {x u:SV} {xs xs':List SV} {us:List Value} (q:WeakV x u) (g:PR e (x::xs) us) (ht:∀zs,Sy.PR e xs zs→Sy.PR e xs' zs):Sy.PR e (u::xs') us:=by
 cases q with
 |refl=>
  cases x<;>first
   |(obtain ⟨zs,h1,h2⟩:=g;exact ⟨zs,ht zs h1,h2⟩)
   |(obtain ⟨us,zs,h0,h1,h2,h3⟩:=g;exact ⟨us,zs,h0,h1,ht zs h2,h3⟩)
   |(obtain ⟨y,zs,h1,h2,h3⟩:=g;exact ⟨y,zs,h1,ht zs h2,h3⟩)
 |ro f f' k l h=>obtain ⟨y,zs,h1,h2,h3⟩:=g;exact ⟨y,zs,RoI.less h h1,ht zs h2,h3⟩
 |ro0 f k=>obtain ⟨y,zs,h1,h2,h3⟩:=g;rw [VR] at h1;subst h1;exact ⟨_,zs,.inl ⟨rfl,none,0,rfl,fun _=>rfl⟩,ht zs h2,h3⟩
 |rob f f' l h=>obtain ⟨y,zs,h1,h2,h3⟩:=g;exact ⟨y,zs,RoB.less h h1,ht zs h2,h3⟩
 |rob0 f=>obtain ⟨y,zs,h1,h2,h3⟩:=g;rw [VR] at h1;subst h1;exact ⟨_,zs,.inl ⟨rfl,none,0,rfl,fun _=>rfl⟩,ht zs h2,h3⟩
theorem mergeV_t (a b:SV):WeakV a (mergeV true a b):=by
 unfold mergeV
 split<;>(try simp only [cond_true])
 all_goals (try exact .refl _)
 all_goals (try (split<;>exact .refl _))
 ·split
  ·exact .ro _ _ _ _ fun h=>by simp only [Bool.and_eq_true] at h;exact h.1
  ·exact .refl _
 ·exact .ro0 _ _
 ·exact .rob _ _ _ fun h=>by simp only [Bool.and_eq_true] at h;exact h.1
 ·exact .rob0 _
theorem mergeV_f (a b:SV):WeakV b (mergeV false a b):=by
 unfold mergeV
 split<;>(try simp only [cond_false])
 all_goals (try exact .refl _)
 ·split
  ·rename_i hk;subst hk;exact .refl _
  ·exact .refl _
 ·split
  ·rename_i hk;obtain ⟨rfl,rfl⟩:=hk;exact .refl _
  ·exact .refl _
 ·split
  ·rename_i hk;subst hk;exact .ro _ _ _ _ fun h=>by simp only [Bool.and_eq_true] at h;exact h.2
  ·exact .refl _
 ·exact .ro0 _ _
 ·exact .rob _ _ _ fun h=>by simp only [Bool.and_eq_true] at h;exact h.2
 ·exact .rob0 _
theorem mergeP_t {e:Env}:∀{as bs:List SV} {us:List Value},PR e as us→PR e (mergeP true as bs) us
 | [],bs,us,h=>by cases bs<;>simpa [mergeP] using h
 |x::xs,[],us,h=>by simpa [mergeP] using h
 |x::xs,y::ys,us,h=>by
  simp only [mergeP]
  exact (mergeV_t x y).PR h fun zs hz=>mergeP_t hz
theorem mergeP_f {e:Env}:∀{as bs:List SV} {us:List Value},PR e bs us→PR e (mergeP false as bs) us
 | [],bs,us,h=>by cases bs<;>simpa [mergeP] using h
 |x::xs,[],us,h=>by simpa [mergeP] using h
 |x::xs,y::ys,us,h=>by
  simp only [mergeP]
  exact (mergeV_f x y).PR h fun zs hz=>mergeP_f hz
theorem rows_upd {us vs:List Value} {z n el q:Nat} (hus:us.length=n*z) (hel:el<n) (hq:q+vs.length≤z):
  el*z+q+vs.length≤us.length∧((us.take (el*z+q)++vs++us.drop (el*z+q+vs.length)).drop (el*z)).take z=((us.drop (el*z)).take z).take q++vs++((us.drop (el*z)).take z).drop (q+vs.length)∧
  ∀i,i<n→i≠el→((us.take (el*z+q)++vs++us.drop (el*z+q+vs.length)).drop (i*z)).take z=(us.drop (i*z)).take z:=by
 have hrow:el*z+z≤n*z:=by
  have:=Nat.mul_le_mul_right z (Nat.succ_le_of_lt hel)
  rw [Nat.succ_mul] at this;exact this
 refine ⟨by omega,?_,fun i hi hne=>?_⟩
 ·apply List.ext_getElem?
  intro j
  simp only [List.getElem?_take,List.getElem?_drop,List.getElem?_append,List.length_append,List.length_take,List.length_drop]
  by_cases h1:j<z
  ·rw [if_pos h1]
   by_cases h2:j<q
   ·simp only [show el*z+j<min (el*z+q) us.length+vs.length from by omega,show el*z+j<min (el*z+q) us.length from by omega,show el*z+j<el*z+q from by omega,show j<min q (min z (us.length-el*z))+vs.length from by omega,show j<min q (min z (us.length-el*z)) from by omega,h2,h1,if_true]
   ·by_cases h3:j<q+vs.length
    ·simp only [show el*z+j<min (el*z+q) us.length+vs.length from by omega,show ¬el*z+j<min (el*z+q) us.length from by omega,show j<min q (min z (us.length-el*z))+vs.length from by omega,show ¬j<min q (min z (us.length-el*z)) from by omega,if_true,if_false]
     congr 1;omega
    ·simp only [show ¬el*z+j<min (el*z+q) us.length+vs.length from by omega,show ¬j<min q (min z (us.length-el*z))+vs.length from by omega,if_false]
     rw [if_pos (by omega)]
     congr 1;omega
  ·rw [if_neg h1]
   simp only [show ¬j<min q (min z (us.length-el*z))+vs.length from by omega,if_false]
   rw [if_neg (by omega)]
 ·have hi2:i*z+z≤n*z:=by
   have:=Nat.mul_le_mul_right z (Nat.succ_le_of_lt hi)
   rw [Nat.succ_mul] at this;exact this
  have hcase:i*z+z≤el*z∨el*z+z≤i*z:=by
   rcases Nat.lt_or_gt_of_ne hne with h|h
   ·left
    have:=Nat.mul_le_mul_right z (Nat.succ_le_of_lt h)
    rw [Nat.succ_mul] at this;exact this
   ·right
    have:=Nat.mul_le_mul_right z (Nat.succ_le_of_lt h)
    rw [Nat.succ_mul] at this;exact this
  apply List.ext_getElem?
  intro j
  simp only [List.getElem?_take,List.getElem?_drop,List.getElem?_append,List.length_append,List.length_take]
  by_cases h1:j<z
  ·rw [if_pos h1,if_pos h1]
   rcases hcase with h|h
   ·simp only [show i*z+j<min (el*z+q) us.length+vs.length from by omega,show i*z+j<min (el*z+q) us.length from by omega,show i*z+j<el*z+q from by omega,if_true]
   ·simp only [show ¬i*z+j<min (el*z+q) us.length+vs.length from by omega,if_false]
    congr 1;omega
  ·rw [if_neg h1,if_neg h1]
theorem rows_store {z n el:Nat} {g:Nat→List SV} {us vs:List Value} {q:Nat} {ps':List SV} (hus:us.length=n*z) (hg:∀i,i<n→PR ⟨fun _=>none,e.z,e.n0,[],fun _=>none⟩ (g i) ((us.drop (i*z)).take z)) (hel:el<n) (hq:q+vs.length≤z)
  (hps:PR ⟨fun _=>none,e.z,e.n0,[],fun _=>none⟩ ps' (((us.drop (el*z)).take z).take q++vs++((us.drop (el*z)).take z).drop (q+vs.length))):
  PR e [.rows z n fun i=>mergeP (Nat.beq i el) ps' (g i)] (us.take (el*z+q)++vs++us.drop (el*z+q+vs.length)):=by
 obtain ⟨h1,h2,h3⟩:=rows_upd (vs:=vs) hus hel hq
 refine ⟨_,[],?_,fun i hi=>?_,rfl,(List.append_nil _).symm⟩
 ·simp only [List.length_append,List.length_take,List.length_drop];omega
 ·show PR _ (mergeP (Nat.beq i el) ps' (g i)) _
  by_cases hie:i=el
  ·subst hie
   rw [h2,show Nat.beq i i=true from Nat.beq_refl i]
   exact mergeP_t hps
  ·rw [h3 i hi hie,show Nat.beq i el=false from by
    cases hb:Nat.beq i el with
    |false=>rfl
    |true=>exact absurd (Nat.eq_of_beq_eq_true hb) hie]
   exact mergeP_f (hg i hi)
theorem VR.closed {e:Env} {v:SV} {v':Value} (h:VR e v v') (hr:closedV v=true):VR ⟨fun _=>none,e.z,e.n0,[],fun _=>none⟩ v v':=VR.mono' (e:=e) (e':=⟨fun _=>none,e.z,e.n0,[],fun _=>none⟩) (fun _ _ h=>h) (Nat.le_refl _) v v' (fun j p hu _=>by rw [closedV_uses hr] at hu;cases hu) h
theorem PR.closed {e:Env} {v:List SV} {v':List Value} (h:PR e v v') (hr:closedL v=true):PR ⟨fun _=>none,e.z,e.n0,[],fun _=>none⟩ v v':=PR.mono' (e:=e) (e':=⟨fun _=>none,e.z,e.n0,[],fun _=>none⟩) (fun _ _ h=>h) (Nat.le_refl _) v v' (fun j p hu _=>by rw [closedL_uses hr] at hu;cases hu) h
theorem storeS_sound (R:Rel B e h w) {ty:TypeId} {a x:SV} {a' x':Value} {h':List Blk} (g:storeS P ty h x a=some (h',true)) (ha:VR e a a') (hx:VR e x x'):
  ∃ad w',a'= .pointer (some ad)∧(storeVar ty ad x').run P w= .ok () w'∧Rel B e h' w':=by
 unfold storeS at g
 split at g
 ·rename_i b o i
  obtain ⟨p,hp,rfl⟩:=ha
  split at g
  ·rename_i ps hb
   obtain ⟨c,t,hc,hsz,hpsz,hpr⟩:=R.block hp hb
   have hcl:((c.toList.drop p.base).take (psize ps)).length=psize ps:=by simp;omega
   have key:=fun q vs ps'=>R.storeAt (P:=P) (ps:=ps) hp hc hsz hpsz q vs ps'
   split at g
   ·rename_i hagg
    split at g
    ·rename_i q n hn
     split at g
     ·rename_i hqn
      simp only [Bool.and_eq_true,decide_eq_true_eq] at hqn
      obtain ⟨hqn,hone⟩:=hqn
      obtain ⟨ps',hput,h2⟩:=Option.map_eq_some_iff.1 g
      simp only [Prod.mk.injEq,and_true] at h2
      subst h2
      obtain ⟨ys,hys,rfl⟩:=hx.agg_of
      have hyl:=hys.length
      obtain ⟨h3,h4⟩:=putP_sound hput hpr hys
      rw [hcl] at h4
      have hps':psize ps'=psize ps:=by
       have:=h3.length
       simp at this;omega
      obtain ⟨w',hrun,R'⟩:=key o ys ps' (by omega) hps' (cells_oneCell hys hone) (by rw [hyl,hqn];exact h3)
      refine ⟨_,w',rfl,?_,R'⟩
      have hsz':(Value.agg ⟨ys⟩).cells.size=n:=by show ys.length=n;omega
      unfold storeVar
      rw [Sem.run_bind,szOf_run hn w]
      simp only [Result.andThen,hsz',ne_eq,not_true,if_false]
      exact hrun
     ·cases g
    ·cases g
   ·rename_i hagg
    split at g
    ·rename_i hc1
     simp only [Bool.and_eq_true,beq_iff_eq] at hc1
     obtain ⟨⟨ps',q⟩,hset,h2⟩:=Option.map_eq_some_iff.1 g
     simp only [Prod.mk.injEq] at h2
     obtain ⟨rfl,rfl⟩:=h2
     obtain ⟨h3,h4⟩:=setP_sound hset hpr hx
     rw [hcl] at h4
     have hps':psize ps'=psize ps:=by
      have:=h3.length
      simp at this;omega
     have hcx:x'.cells.toList=[x']:=by
      have:=hx.oneCell hc1.1
      cases x'<;>first|rfl|cases this
     obtain ⟨w',hrun,R'⟩:=key (o+i) [x'] ps' (by simp;omega) hps' (fun v hv=>by simp at hv;subst hv;exact hx.oneCell hc1.1) (by
      rw [List.set_eq_take_append_cons_drop] at h3
      rw [if_pos (by rw [hcl];exact h4)] at h3
      simpa using h3)
     refine ⟨_,w',rfl,?_,R'⟩
     have hsz':x'.cells.size=1:=by rw [←Array.length_toList,hcx];rfl
     unfold storeVar
     rw [Sem.run_bind,szOf_run hc1.2 w]
     simp only [Result.andThen,hsz',ne_eq,not_true,if_false]
     rw [hcx]
     exact hrun
    ·cases g
   ·cases g
  ·cases g
 ·rename_i b z el o i
  obtain ⟨p,hp,rfl⟩:=ha
  split at g
  ·rename_i z' n gg hb
   obtain ⟨c,t,hc,hsz,hpsz,us,zs,k1,k2,k3,k4⟩:=R.block hp hb
   rw [PR] at k3;subst k3
   rw [List.append_nil] at k4
   have hps0:psize [SV.rows z' n gg]=n*z':=by simp [psize,psz]
   have key:=fun q vs ps'=>R.storeAt (P:=P) (ps:=[SV.rows z' n gg]) hp hc hsz hpsz q vs ps'
   rw [hps0] at key
   rw [hps0] at k4 hpsz
   rw [k4] at key
   have hlen:el<n→((us.drop (el*z')).take z').length=z':=fun hel=>by
    have:=Nat.mul_le_mul_right z' (Nat.succ_le_of_lt hel)
    rw [Nat.succ_mul] at this
    rw [List.length_take,List.length_drop,k1];omega
   split at g
   ·rename_i hz hagg
    obtain rfl:=Nat.eq_of_beq_eq_true hz
    split at g
    ·rename_i q m hn
     split at g
     ·rename_i hqn
      simp only [Bool.and_eq_true,decide_eq_true_eq] at hqn
      obtain ⟨⟨hqn,hone⟩,hcl⟩:=hqn
      obtain ⟨ps',hput,h2⟩:=Option.map_eq_some_iff.1 g
      simp only [Prod.mk.injEq,decide_eq_true_eq] at h2
      obtain ⟨rfl,hel⟩:=h2
      obtain ⟨ys,hys,rfl⟩:=hx.agg_of
      have hyl:=hys.length
      obtain ⟨h3,h4⟩:=putP_sound hput (k2 el hel) (hys.closed hcl)
      rw [hlen hel] at h4
      rw [←hqn, ←hyl] at h3
      have hst:=rows_store (e:=e) (q:=o) (vs:=ys) (ps':=ps') k1 k2 hel (by omega) h3
      have hbd:=(rows_upd (vs:=ys) (q:=o) k1 hel (by omega)).1
      rw [k1] at hbd
      obtain ⟨w',hrun,R'⟩:=key (el*z'+o) ys [SV.rows z' n fun i=>mergeP (Nat.beq i el) ps' (gg i)] (by omega) (by simp [psize,psz]) (cells_oneCell hys hone) (by rw [Nat.add_assoc] at hst;simpa [Nat.add_assoc] using hst)
      refine ⟨_,w',rfl,?_,R'⟩
      have hsz':(Value.agg ⟨ys⟩).cells.size=m:=by show ys.length=m;omega
      unfold storeVar
      rw [Sem.run_bind,szOf_run hn w]
      simp only [Result.andThen,hsz',ne_eq,not_true,if_false]
      rw [Nat.add_zero]
      exact hrun
     ·cases g
    ·cases g
   ·rename_i hz hagg
    obtain rfl:=Nat.eq_of_beq_eq_true hz
    split at g
    ·rename_i hc1
     simp only [Bool.and_eq_true,beq_iff_eq] at hc1
     obtain ⟨⟨hc1,hc2⟩,hcl⟩:=hc1
     obtain ⟨⟨ps',q⟩,hset,h2⟩:=Option.map_eq_some_iff.1 g
     simp only [Prod.mk.injEq,Bool.and_eq_true,decide_eq_true_eq] at h2
     obtain ⟨rfl,rfl,hel⟩:=h2
     obtain ⟨h3,h4⟩:=setP_sound hset (k2 el hel) (hx.closed hcl)
     have h4':=h4
     rw [hlen hel] at h4
     have hcx:x'.cells.toList=[x']:=by
      have:=hx.oneCell hc1
      cases x'<;>first|rfl|cases this
     rw [List.set_eq_take_append_cons_drop,if_pos h4'] at h3
     have hst:=rows_store (e:=e) (q:=o+i) (vs:=[x']) (ps':=ps') k1 k2 hel (by simp;omega) (by simpa using h3)
     have hbd:=(rows_upd (vs:=[x']) (q:=o+i) k1 hel (by simp;omega)).1
     rw [k1] at hbd
     obtain ⟨w',hrun,R'⟩:=key (el*z'+(o+i)) [x'] [SV.rows z' n fun j=>mergeP (Nat.beq j el) ps' (gg j)] (by simpa using hbd) (by simp [psize,psz]) (fun v hv=>by simp at hv;subst hv;exact hx.oneCell hc1) hst
     refine ⟨_,w',rfl,?_,R'⟩
     have hsz':x'.cells.size=1:=by rw [←Array.length_toList,hcx];rfl
     unfold storeVar
     rw [Sem.run_bind,szOf_run hc2 w]
     simp only [Result.andThen,hsz',ne_eq,not_true,if_false]
     rw [hcx]
     exact hrun
    ·cases g
   ·cases g
  ·cases g
 ·cases g
def putR (e:Env) (j:Nat) (p:Pl):Env:={e with r:=fun i=>if i=j then some p else e.r i}
theorem putR_le {j:Nat} {p:Pl} (hj:e.r j=none):Env.Le e (putR e j p):=⟨fun i b hi=>by
 show (if i=j then some p else e.r i)=some b
 rw [if_neg (fun q=>by subst q;rw [hj] at hi;cases hi)]
 exact hi,fun _ _ h=>h,Nat.le_refl _⟩
theorem putR_self {j:Nat} {p:Pl}:(putR e j p).r j=some p:=if_pos rfl
theorem putR_cases {j i:Nat} {p b:Pl} (hi:(putR e j p).r i=some b):(i≠j∧e.r i=some b)∨(i=j∧b=p):=by
 simp only [putR] at hi
 split at hi
 ·rename_i h;cases hi;exact .inr ⟨h,rfl⟩
 ·rename_i h;exact .inl ⟨h,hi⟩
def Free (h:List Blk) (j:Nat) (n:Nat):Prop:=j=h.length∨∀i,i<n→h[j+i]? =some .gap
theorem BR.mono {e':Env} (hle:Env.Le e e') {p:Pl} {ps:List SV} {o:Obj} (g:BR e p ps o):BR e' p ps o:=by
 obtain ⟨c,t,h1,h2,h3,h4⟩:=g
 exact ⟨c,t,h1,h2,h3,h4.mono hle⟩
theorem Rel.drawn (R:Rel B e h w) (d:Nat):Rel B e h {w with drawn:=d}:=
 {os:=R.os,tape:=R.tape,output:=R.output,size:=R.size,inj:=R.inj,dom:=R.dom,sep:=R.sep,zok:=R.zok,zfresh:=R.zfresh,glb:=R.glb,news:=R.news,keepr:=R.keepr,keepz:=R.keepz,n0:=R.n0,n0le:=R.n0le,
  blk:=R.blk,gap:=R.gap,yi:=R.yi,yb:=R.yb,old:=R.old,win:=R.win,kr:=R.kr,kle:=R.kle,mks:=R.mks,mnd:=R.mnd}
theorem Rel.free (R:Rel B e h w) {j:Nat} (hj:j=h.length∨h[j]? =some .gap):e.r j=none:=by
 rcases hj with rfl|hj
 ·cases hq:e.r h.length with
  |none=>rfl
  |some p=>have:=R.dom _ p hq;omega
 ·exact (R.gap j _ hj).1
theorem Rel.new (R:Rel B e h w) {h':List Blk} {ps:List SV} {ys:List Value} {t:TypeId} {j:Nat} (hl:PR e ps (ys.take (psize ps))) (hle:psize ps≤ys.length)
  (hj:e.r j=none) (h1:h'[j]? =some (.b ps)) (h2:∀i,i≠j→h'[i]? =h[i]?) (hlen:h.length≤h'.length):
  Rel B (putR e j ⟨w.heap.size,0,ys.length⟩) h' (w.alloc (.cells ⟨ys⟩ t)):=by
 have hold:∀n,n<w.heap.size→(w.alloc (.cells ⟨ys⟩ t)).heap[n]? =w.heap[n]? :=fun n hn=>heap_alloc_old w _ n hn
 exact {
  os:=R.os,tape:=R.tape,output:=R.output
  size:=by have:=R.size;rw [World.size_alloc];omega
  inj:=fun i i' p q hi hi' g=>by
   rcases putR_cases hi with ⟨_,g1⟩|⟨g1,g1'⟩<;>rcases putR_cases hi' with ⟨_,g2⟩|⟨g2,g2'⟩
   ·exact R.inj i i' p q g1 g2 g
   ·have:=R.lt g1;subst g2';simp at g;omega
   ·have:=R.lt g2;subst g1';simp at g;omega
   ·omega
  dom:=fun i p hi=>by
   rcases putR_cases hi with ⟨_,g⟩|⟨g,_⟩
   ·have:=R.dom i p g;omega
   ·subst g;exact (List.getElem?_eq_some_iff.1 h1).1
  sep:=fun i p hi=>by
   rcases putR_cases hi with ⟨_,g⟩|⟨_,g⟩
   ·exact R.sep i p g
   ·subst g
    show e.z w.heap.size=none
    cases hq:e.z w.heap.size with
    |none=>rfl
    |some x=>have:=R.zlt hq;omega
  zok:=fun n c tt fr hz=>by rw [hold n (R.zlt hz)];exact R.zok n c tt fr hz
  zfresh:=R.zfresh,glb:=R.glb
  news:=fun i p hi=>by
   rcases putR_cases hi with ⟨_,g⟩|⟨_,g⟩
   ·exact R.news i p g
   ·subst g;exact .inr R.size
  keepr:=fun i p hi=>(putR_le hj).r i p (R.keepr i p hi)
  keepz:=R.keepz,n0:=R.n0,n0le:=R.n0le
  blk:=fun i qs hi=>by
   by_cases hij:i=j
   ·subst hij
    rw [h1] at hi
    cases hi
    exact .inr ⟨⟨w.heap.size,0,ys.length⟩,_,putR_self,heap_alloc_new w _,⟨ys⟩,t,rfl,by simp,hle,by simpa using hl.mono (putR_le hj)⟩
   ·rw [h2 i hij] at hi
    rcases R.blk i qs hi with ⟨g1,g2⟩|⟨q,o,hq,ho,hbr⟩
    ·exact .inl ⟨g1,by simp only [putR];rw [if_neg hij];exact g2⟩
    ·exact .inr ⟨q,o,(putR_le hj).r i q hq,by rw [hold q.n (R.lt hq)];exact ho,hbr.mono (putR_le hj)⟩
  gap:=fun i g hi=>by
   by_cases hij:i=j
   ·subst hij;rw [h1] at hi;cases hi
   ·rw [h2 i hij] at hi
    refine ⟨by simp only [putR];rw [if_neg hij];exact (R.gap i g hi).1,(R.gap i g hi).2.le (fun n o hn=>?_) rfl (putR_le hj)⟩
    rw [hold n (Array.getElem?_eq_some_iff.1 hn).1];exact hn
  yi:=R.yi,yb:=R.yb
  old:=fun n hn hno hnl=>by rw [hold n (by have:=R.size;omega)];exact R.old n hn hno hnl
  win:=fun i q hq=>by
   obtain ⟨o,o',ho,ho',hso⟩:=R.win i q hq
   exact ⟨o,o',ho,by rw [hold q.n (R.lt (R.keepr i q hq))];exact ho',hso⟩
  kr:=R.kr
  kle:=by have:=R.kle;omega
  mks:=fun r hr=>by
   have:=R.mks r hr
   rw [hold r (Array.getElem?_eq_some_iff.1 this.1).1];exact this
  mnd:=R.mnd}
theorem Rel.make (R:Rel B e h w) {ps:List SV} {ys:List Value} {t:TypeId} {j:Nat} (hf:Free h j 1) (hl:PR e ps (ys.take (psize ps))) (hle:psize ps≤ys.length):
  Rel B (putR e j ⟨w.heap.size,0,ys.length⟩) (placeH h j [.b ps]) (w.alloc (.cells ⟨ys⟩ t)):=by
 have hj:j=h.length∨h[j]? =some .gap:=hf.imp id fun g=>by simpa using g 0 (by omega)
 have hfree:=R.free hj
 unfold placeH
 by_cases hjl:j=h.length
 ·rw [if_pos hjl]
  refine R.new hl hle hfree (by rw [hjl];simp) (fun i hi=>?_) (by simp)
  rcases Nat.lt_or_ge i h.length with h1|h1
  ·rw [List.getElem?_append_left h1]
  ·rw [List.getElem?_append_right h1,List.getElem?_eq_none (l:=h) h1,List.getElem?_eq_none (by simp;omega)]
 ·rw [if_neg hjl]
  have hg:=hj.resolve_left hjl
  have hlt:=(List.getElem?_eq_some_iff.1 hg).1
  exact R.new hl hle hfree (List.getElem?_set_self hlt) (fun i hi=>List.getElem?_set_ne (Ne.symm hi)) (by simp [fillH])
theorem Rel.nothing (R:Rel B e h w) {ps:List SV} {j:Nat} (hf:Free h j 1) (hps:psize ps=0):Rel B e (placeH h j [.b ps]) w:=by
 have hj:j=h.length∨h[j]? =some .gap:=hf.imp id fun g=>by simpa using g 0 (by omega)
 have hfree:=R.free hj
 have key:∀h':List Blk,h'[j]? =some (.b ps)→(∀i,i≠j→h'[i]? =h[i]?)→h.length≤h'.length→Rel B e h' w:=fun h' h1 h2 h3=>
  {os:=R.os,tape:=R.tape,output:=R.output,size:=R.size,inj:=R.inj,dom:=fun i p hi=>by have:=R.dom i p hi;omega,sep:=R.sep,zok:=R.zok,zfresh:=R.zfresh,glb:=R.glb,news:=R.news,keepr:=R.keepr,keepz:=R.keepz,n0:=R.n0,n0le:=R.n0le,
   blk:=fun i qs hi=>by
    by_cases hij:i=j
    ·subst hij;rw [h1] at hi;cases hi;exact .inl ⟨hps,hfree⟩
    ·rw [h2 i hij] at hi;exact R.blk i qs hi
   gap:=fun i g hi=>by
    by_cases hij:i=j
    ·subst hij;rw [h1] at hi;cases hi
    ·rw [h2 i hij] at hi;exact R.gap i g hi
   yi:=R.yi,yb:=R.yb,old:=R.old,win:=R.win,kr:=R.kr,kle:=by have:=R.kle;omega,mks:=R.mks,mnd:=R.mnd}
 unfold placeH
 by_cases hjl:j=h.length
 ·rw [if_pos hjl]
  refine key _ (by rw [hjl];simp) (fun i hi=>?_) (by simp)
  rcases Nat.lt_or_ge i h.length with h1|h1
  ·rw [List.getElem?_append_left h1]
  ·rw [List.getElem?_append_right h1,List.getElem?_eq_none (l:=h) h1,List.getElem?_eq_none (by simp;omega)]
 ·rw [if_neg hjl]
  have hg:=hj.resolve_left hjl
  have hlt:=(List.getElem?_eq_some_iff.1 hg).1
  exact key _ (List.getElem?_set_self hlt) (fun i hi=>List.getElem?_set_ne (Ne.symm hi)) (by simp [fillH])
theorem bits_run (op:BinOp) (k:IntKind) (a b:Int) (w:World) (v:SV) (T:TypeId) (x y:Operand) (h:binI op k a k b=some (v,true)) (ho:op≠.shl) (ho':op≠.shr):
  ∃v',(do eqGuard op T x y (.int k a) (.int k b);binOp op T (.int k a) (.int k b):Sem Value).run P w= .ok v' w∧VR e v v':=by
 have hg:(eqGuard op T x y (.int k a) (.int k b)).run P w= .ok () w:=by
  unfold eqGuard;split<;>simp
 rw [Sem.run_bind,hg]
 simp only [Result.andThen]
 cases op<;>simp [binI] at h<;>first|contradiction|skip
 all_goals (try (obtain ⟨rfl,h⟩:=h))
 all_goals (try subst h)
 all_goals (simp [binOp,Op.intArith,Op.intBits,Op.intCmp,Op.intDiv,andI,orI,xorI,andNotI,bitsI,VR, *,-Sem.run_bind])
theorem binI_sound {op:BinOp} {k k':IntKind} {n m:Int} {v:SV} (h:binI op k n k' m=some (v,true)) (T:TypeId) (x y:Operand) (w:World):
  ∃v',(do eqGuard op T x y (.int k n) (.int k' m);binOp op T (.int k n) (.int k' m):Sem Value).run P w= .ok v' w∧VR e v v':=by
 by_cases h1:op= .shl
 ·subst h1
  simp only [binI,Option.some.injEq,Prod.mk.injEq,decide_eq_true_eq] at h
  obtain ⟨rfl,h⟩:=h
  refine ⟨_,?_,rfl⟩
  have:¬m<0:=by omega
  simp [eqGuard,binOp,Op.shift,this,shlI]
 by_cases h2:op= .shr
 ·subst h2
  simp only [binI,Option.some.injEq,Prod.mk.injEq,decide_eq_true_eq] at h
  obtain ⟨rfl,h⟩:=h
  refine ⟨_,?_,rfl⟩
  have:¬m<0:=by omega
  simp [eqGuard,binOp,Op.shift,this,shrI]
 have hk:k=k':=by
  by_cases hk:k=k'
  ·exact hk
  ·cases op<;>simp [binI,hk] at h<;>contradiction
 subst hk
 exact bits_run op k n m w v T x y h h1 h2
def aggI (k:IntKind) (xs:List Int):Value:=.agg ⟨intsV k xs⟩
def flatV (P:Program) (t:TypeId) (k:IntKind) (l:List Int):Value:=match aggB P t with
 |some false=>.int k (l.getD 0 0)
 |_=>aggI k l
theorem part_flat {e:TypeId} {k:IntKind} {m o:Nat} {l:List Int} (hs:szOf P e=some m) (hk:(P.underlying e).isSome=true) (hm:(aggB P e=some false→m=1)) (h:o+m≤l.length) (w:World):
  (part e ⟨intsV k l⟩ o).run P w= .ok (flatV P e k ((l.drop o).take m)) w:=by
 cases hb:aggB P e with
 |none=>simp [aggB] at hb;simp [hb] at hk
 |some b=>
  cases b with
  |true=>simp [part,aggB_run hb,szOf_run hs,flatV,hb,aggI,intsV,List.extract_eq_take_drop,List.map_take,List.map_drop]
  |false=>
   have:=hm hb
   subst this
   have ho:o<l.length:=by omega
   simp [part,aggB_run hb,flatV,hb,intsV,List.getElem?_eq_getElem ho,List.getD]
def eqParts (d:Nat) (e:TypeId) (n:Nat) (xs ys:Array Value):Nat→Nat→Sem Bool
 |0,_=>pure true
 |c+1,i=>do
  let a ←part e xs (i*n)
  let b ←part e ys (i*n)
  let r ←Op.equalIn d e a b
  if (!r)=true then pure false else eqParts d e n xs ys c (i+1)
theorem run_equalIn_array (w:World) (d:Nat) (t e:TypeId) (len n:Nat) (xs ys:Array Value) (ht:P.underlying t=some (.array len e)) (hs:szOf P e=some n):
  (Op.equalIn (d+1) t (.agg xs) (.agg ys)).run P w=(eqParts d e n xs ys len 0).run P w:=by
 simp only [Op.equalIn,Sem.run_bind,run_underlying ht,Result.andThen_ok,szOf_run hs,Std.Legacy.Range.forIn_eq_forIn_range']
 have hz:Std.Legacy.Range.size [:len]=len:=by simp [Std.Legacy.Range.size]
 rw [hz]
 clear ht hz
 generalize 0=i
 induction len generalizing w i with
 |zero=>simp [eqParts]
 |succ len ih=>
  simp only [List.range'_succ,List.forIn_cons,eqParts,Sem.run_bind,Sem.run_ite]
  generalize (part e xs (i*n)).run P w=r1
  cases r1 with
  |ok a w1=>
   simp only [Result.andThen_ok]
   generalize (part e ys (i*n)).run P w1=r2
   cases r2 with
   |ok b w2=>
    simp only [Result.andThen_ok]
    generalize (Op.equalIn d e a b).run P w2=r3
    cases r3 with
    |ok r w3=>
     cases r
     ·simp only [Result.andThen_ok,Bool.not_false,if_true,Sem.run_pure]
     ·simp only [Result.andThen_ok,Bool.not_true,Bool.false_eq_true,if_false,Sem.run_pure]
      exact ih w3 (i+1)
    |halt x w3=>simp [Result.andThen]
   |halt x w2=>simp [Result.andThen]
  |halt x w1=>simp [Result.andThen]
theorem flatK_agg:∀{d:Nat} {t:TypeId} {k:IntKind} {n:Nat},flatK P d t=some (k,n)→(P.underlying t).isSome=true∧(aggB P t=some false→n=1)
 |0,t,k,n,h=>by simp [flatK] at h
 |d+1,t,k,n,h=>by
  unfold flatK at h
  split at h
  ·rename_i k' hu;cases h;exact ⟨by simp [hu],fun _=>rfl⟩
  ·rename_i hu;exact ⟨by simp [hu],fun hq=>by simp [aggB,hu] at hq⟩
  ·rename_i hu;exact ⟨by simp [hu],fun hq=>by simp [aggB,hu] at hq⟩
  ·cases h
theorem decide_split (l m:List Int) (n:Nat):decide (l=m)=(decide (l.take n=m.take n)&&decide (l.drop n=m.drop n)):=by
 rw [Bool.eq_iff_iff]
 simp only [Bool.and_eq_true,decide_eq_true_eq]
 constructor
 ·rintro rfl;exact ⟨rfl,rfl⟩
 ·rintro ⟨h1,h2⟩;rw [←List.take_append_drop n l, ←List.take_append_drop n m,h1,h2]
def EqAt (P:Program) (d:Nat) (t:TypeId) (k:IntKind) (n:Nat):Prop:=
 ∀(d':Nat),d≤d'→∀(l m:List Int),l.length=n→m.length=n→∀w:World,(Op.equalIn d' t (flatV P t k l) (flatV P t k m)).run P w= .ok (decide (l=m)) w
theorem eqParts_flat {d d':Nat} {e:TypeId} {k:IntKind} {z:Nat} (hd:d≤d') (hs:szOf P e=some z) (hf:flatK P d e=some (k,z)) (ih:EqAt P d e k z) {l m:List Int} (hlm:l.length=m.length) (w:World):∀(c i:Nat),(i+c)*z=l.length→
  (eqParts d' e z ⟨intsV k l⟩ ⟨intsV k m⟩ c i).run P w= .ok (decide (l.drop (i*z)=m.drop (i*z))) w
 |0,i,h=>by
  have h1:l.drop (i*z)=[]:=List.drop_eq_nil_of_le (by simp at h;omega)
  have h2:m.drop (i*z)=[]:=List.drop_eq_nil_of_le (by simp at h;omega)
  simp [eqParts,h1,h2]
 |c+1,i,h=>by
  obtain ⟨hk,hone⟩:=flatK_agg hf
  have hfit:i*z+z≤l.length:=by
   rw [←h,Nat.add_mul,Nat.add_mul];omega
  have hsucc:(i+1)*z=i*z+z:=by rw [Nat.add_mul];omega
  have p1:=part_flat (k:=k) hs hk hone hfit w
  have p2:=part_flat (k:=k) hs hk hone (l:=m) (o:=i*z) (by omega) w
  have q:=ih d' hd ((l.drop (i*z)).take z) ((m.drop (i*z)).take z) (by simp;omega) (by simp;omega) w
  have hrec:=eqParts_flat hd hs hf ih hlm w c (i+1) (by rw [←h];congr 1;omega)
  simp only [eqParts,Sem.run_bind,p1,p2,q,Result.andThen_ok,Sem.run_ite,hrec,hsucc]
  rw [decide_split (l.drop (i*z)) (m.drop (i*z)) z,List.drop_drop,List.drop_drop]
  cases decide ((l.drop (i*z)).take z=(m.drop (i*z)).take z)<;>simp
theorem eqFields_flat {d d':Nat} {k:IntKind} (hd:d≤d') (ih:∀(t:TypeId) (n:Nat),flatK P d t=some (k,n)→EqAt P d t k n) {l m:List Int} (hlm:l.length=m.length) (w:World):∀(fs:List Field) (a:Nat) (k':IntKind),flatFs P (fun t=>flatK P d t) k a fs=some (k',l.length)→
  k'=k∧a≤l.length∧(Op.eqFields d' ⟨intsV k l⟩ ⟨intsV k m⟩ fs).run P w= .ok (decide (l.drop a=m.drop a)) w
 | [],a,k',h=>by
  simp only [flatFs,Option.some.injEq,Prod.mk.injEq] at h
  obtain ⟨rfl,rfl⟩:=h
  refine ⟨rfl,Nat.le_refl _,?_⟩
  have h1:l.drop l.length=[]:=List.drop_eq_nil_of_le (Nat.le_refl _)
  have h2:m.drop l.length=[]:=List.drop_eq_nil_of_le (by omega)
  simp [Op.eqFields,h1,h2]
 |f::fs,a,k',h=>by
  simp only [flatFs] at h
  split at h
  ·rename_i k2 z hf
   split at h
   ·rename_i hc
    obtain ⟨rfl,hname,hoff,hs⟩:=hc
    obtain ⟨hkk,hle,hrec⟩:=eqFields_flat hd ih hlm w fs (a+z) k' h
    obtain ⟨hk,hone⟩:=flatK_agg hf
    have p1:=part_flat hs hk hone (l:=l) (o:=a) (k:=k2) (by omega) w
    have p2:=part_flat hs hk hone (l:=m) (o:=a) (k:=k2) (by omega) w
    have q:=ih f.type z hf d' hd ((l.drop a).take z) ((m.drop a).take z) (by simp;omega) (by simp;omega) w
    refine ⟨hkk,by omega,?_⟩
    simp only [Op.eqFields,hname,ne_eq,not_false_eq_true,if_true,hoff,Sem.run_bind,p1,p2,q,Result.andThen_ok,Sem.run_ite,hrec]
    rw [decide_split (l.drop a) (m.drop a) z,List.drop_drop,List.drop_drop]
    cases decide ((l.drop a).take z=(m.drop a).take z)<;>simp
   ·cases h
  ·cases h
theorem equal_flat:∀(d:Nat) (t:TypeId) (k:IntKind) (n:Nat),flatK P d t=some (k,n)→EqAt P d t k n
 |0,t,k,n,h=>by simp [flatK] at h
 |d+1,t,k,n,h=>by
  intro d' hd l m hl hm w
  obtain ⟨d',rfl⟩:∃e,d'=e+1:=⟨d'-1,by omega⟩
  unfold flatK at h
  split at h
  ·rename_i k' hu
   cases h
   have hb:aggB P t=some false:=by simp [aggB,hu]
   match l,hl,m,hm with
   | [a],_,[b],_=>
    simp only [flatV,hb,List.getD_cons_zero]
    rw [run_equalIn_int w d' t k k a b hu]
    by_cases hab:a=b<;>simp [hab]
  ·rename_i len e hu
   have hb:aggB P t=some true:=by simp [aggB,hu]
   split at h
   ·rename_i k2 z hf
    split at h
    ·rename_i hs
     simp only [Option.some.injEq,Prod.mk.injEq] at h
     obtain ⟨rfl,rfl⟩:=h
     simp only [flatV,hb,aggI]
     rw [run_equalIn_array w d' t e len z _ _ hu hs]
     have:=eqParts_flat (d:=d) (d':=d') (by omega) hs hf (equal_flat d e k2 z hf) (l:=l) (m:=m) (by omega) w len 0 (by simp [hl])
     simpa using this
    ·cases h
   ·cases h
  ·rename_i fs hu
   have hb:aggB P t=some true:=by simp [aggB,hu]
   split at h
   ·cases h
   ·rename_i hst
    split at h
    ·cases h
    ·rename_i f rest hfs
     split at h
     ·rename_i k2 z hf
      split at h
      ·rename_i hc
       obtain ⟨hname,hoff,hs⟩:=hc
       have hfields:P.fieldsOf t=fs:=by simp [Program.fieldsOf,hu]
       have h':flatFs P (fun t=>flatK P d t) k2 0 (f::rest)=some (k,l.length):=by
        simp only [flatFs,hf,hoff,hs,hname,ne_eq,not_false_eq_true,and_self,if_true,Nat.zero_add]
        rw [h,hl]
       obtain ⟨hk,_,hrun⟩:=eqFields_flat (d:=d) (d':=d') (by omega) (fun t n ht=>equal_flat d t k2 n ht) (l:=l) (m:=m) (by omega) w (f::rest) 0 k h'
       subst hk
       simp only [flatV,hb,aggI]
       rw [run_equalIn_struct w d' t _ _ (by rw [hfields];exact hu) (by simpa using hst),hfields,hfs,hrun]
       simp
      ·cases h
     ·cases h
  ·cases h
theorem flatI_sound {k:IntKind}:∀{ps:List SV} {l:List Int} {ys:List Value},flatI k ps=some (l,true)→PR e ps ys→ys=intsV k l∧l.length=psize ps
 | [],l,ys,h,g=>by
  simp only [flatI,Option.some.injEq,Prod.mk.injEq,and_true] at h
  subst h
  rw [PR] at g;subst g
  exact ⟨rfl,rfl⟩
 |x::xs,l,ys,h,g=>by
  unfold flatI at h
  split at h
  ·rename_i h1;cases h1
  ·rename_i k' n zs ps h1
   cases h1
   obtain ⟨us,h2,rfl⟩:=g
   split at h
   ·rename_i hk
    subst hk
    split at h
    ·rename_i hemp
     simp only [Option.some.injEq,Prod.mk.injEq,decide_eq_true_eq] at h
     obtain ⟨rfl,h⟩:=h
     have:xs=[]:=by simpa using hemp
     subst this
     rw [PR] at h2;subst h2
     exact ⟨by rw [lst_eq h,List.append_nil],by simp [psize,psz,h]⟩
    ·obtain ⟨⟨q1,q2⟩,h3,h4⟩:=Option.map_eq_some_iff.1 h
     simp only [Prod.mk.injEq,andT_iff,decide_eq_true_eq] at h4
     obtain ⟨rfl,h5,rfl⟩:=h4
     obtain ⟨h6,h7⟩:=flatI_sound h3 h2
     exact ⟨by rw [h6,lst_eq h5,intsV_append],by simp [psize,psz,h5,h7]⟩
   ·cases h
  ·rename_i k' n ps h1
   cases h1
   obtain ⟨y,us,hy,h2,rfl⟩:=(PR.cons rfl).1 g
   rw [VR] at hy;subst hy
   split at h
   ·rename_i hk
    subst hk
    obtain ⟨⟨q1,q2⟩,h3,h4⟩:=Option.map_eq_some_iff.1 h
    simp only [Prod.mk.injEq] at h4
    obtain ⟨rfl,rfl⟩:=h4
    obtain ⟨h6,h7⟩:=flatI_sound h3 h2
    exact ⟨by rw [h6];rfl,by simp [psize,psz,h7];omega⟩
   ·cases h
  ·cases h
theorem boolOp_cases {op:BinOp} {b:Bool} {v:SV} (h:boolOp op b=some v):(op= .eql∧v= .bool b)∨(op= .neq∧v= .bool !b):=by
 unfold boolOp at h
 split at h
 ·cases h;exact .inl ⟨rfl,rfl⟩
 ·cases h;exact .inr ⟨rfl,rfl⟩
 ·cases h
theorem eq_run {op:BinOp} {T:TypeId} {b:Bool} {v:SV} {a' b':Value} {x y:Operand} (h:boolOp op b=some v) (hg:(eqGuard op T x y a' b').run P w= .ok () w)
  (hq:∀op',op'= .eql∨op'= .neq→binOp op' T a' b'=(match op' with| .eql=>do pure (.bool (←Op.equal T a' b'))|_=>do pure (.bool (!(←Op.equal T a' b'))):Sem Value))
  (hr:(Op.equal T a' b').run P w= .ok b w):∃v',(do eqGuard op T x y a' b';binOp op T a' b':Sem Value).run P w= .ok v' w∧VR e v v':=by
 rcases boolOp_cases h with ⟨rfl,rfl⟩|⟨rfl,rfl⟩
 ·refine ⟨_,?_,rfl⟩
  rw [Sem.run_bind,hg,Result.andThen_ok,hq _ (.inl rfl)]
  simp [hr]
 ·refine ⟨_,?_,rfl⟩
  rw [Sem.run_bind,hg,Result.andThen_ok,hq _ (.inr rfl)]
  simp [hr]
end
end Go.Sy
namespace Go.Sy
open Go
section
variable {P:Program} {e:Env} {w:World}
theorem strL_eq {s t:ByteArray}:(strL s=strL t)↔s=t:=by
 constructor
 ·intro h
  have h1:s.data.toList=t.data.toList:=by
   unfold strL at h
   have key:∀(a b:List UInt8),(a.map fun x=>(x.toNat:Int))=(b.map fun x=>(x.toNat:Int))→a=b:=by
    intro a
    induction a with
    |nil=>intro b hb;cases b<;>simp_all
    |cons x xs ih=>
     intro b hb
     cases b with
     |nil=>simp at hb
     |cons y ys=>
      simp only [List.map_cons,List.cons.injEq] at hb
      have hxy:x=y:=UInt8.toNat.inj (by omega)
      rw [hxy,ih ys hb.2]
   exact key _ _ h
  cases s;cases t
  congr
  exact Array.ext' h1
 ·rintro rfl;rfl
theorem eqIn_bool {d:Nat} {T:TypeId} {a b:Bool} (hu:P.underlying T=some .bool):(Op.equalIn (d+1) T (.bool a) (.bool b)).run P w= .ok (a==b) w:=by simp [Op.equalIn,run_underlying hu]
theorem eqIn_ptr {d:Nat} {T el:TypeId} {a:Addr} (hu:P.underlying T=some (.pointer el)):(Op.equalIn (d+1) T (.pointer (some a)) (.pointer none)).run P w= .ok false w:=by simp [Op.equalIn,run_underlying hu]
theorem eqIn_nilPtr {d:Nat} {T el:TypeId} (hu:P.underlying T=some (.pointer el)):(Op.equalIn (d+1) T (.pointer none) (.pointer none)).run P w= .ok true w:=by simp [Op.equalIn,run_underlying hu]
theorem eqIn_nils {d:Nat} {T:TypeId} {ms} (hu:P.underlying T=some (.interface ms)):(Op.equalIn (d+1) T .nilIface .nilIface).run P w= .ok true w:=by simp [Op.equalIn,run_underlying hu]
theorem eqIn_nilR {d:Nat} {T t:TypeId} {v:Value} {ms} (hu:P.underlying T=some (.interface ms)):(Op.equalIn (d+1) T (.iface t v) .nilIface).run P w= .ok false w:=by simp [Op.equalIn,run_underlying hu]
theorem eqIn_nilL {d:Nat} {T t:TypeId} {v:Value} {ms} (hu:P.underlying T=some (.interface ms)):(Op.equalIn (d+1) T .nilIface (.iface t v)).run P w= .ok false w:=by simp [Op.equalIn,run_underlying hu]
theorem eqIn_errs {d:Nat} {T t:TypeId} {k k0:IntKind} {a b:Int} {ms i} (hu:P.underlying T=some (.interface ms)) (hu2:P.underlying t=some (.int k0)) (hi:P.info? t=some i) (hc:i.comparable=true):
  (Op.equalIn (d+1+1) T (.iface t (.int k a)) (.iface t (.int k b))).run P w= .ok (a==b) w:=by
 have h1:(Op.equalIn (d+1) t (.int k a) (.int k b)).run P w= .ok (a==b) w:=by simp [Op.equalIn,run_underlying hu2]
 rw [Op.equalIn]
 simp [run_underlying hu,typeInfo,hi,hc,h1]
theorem eqIn_slice {d:Nat} {T el:TypeId} {a:Option Addr} {n c:Nat} (hu:P.underlying T=some (.slice el)):(Op.equalIn (d+1) T (.slice a n c) (.slice none 0 0)).run P w= .ok a.isNone w:=by cases a<;>simp [Op.equalIn,run_underlying hu]
theorem eqS_sound {op:BinOp} {T:TypeId} {x y:Operand} {a b v:SV} {a' b':Value} (h:eqS P op T x y a b=some (v,true)) (ha:VR e a a') (hb:VR e b b'):
  ∃v',(do eqGuard op T x y a' b';binOp op T a' b':Sem Value).run P w= .ok v' w∧VR e v v':=by
 unfold eqS at h
 split at h
 ·
  rename_i cs ds
  split at h
  ·cases h
  ·rename_i hg
   split at h
   ·rename_i k n hf
    split at h
    ·rename_i l p m q hl hm
     split at h
     ·rename_i hn
      obtain ⟨u,hu,h2⟩:=Option.map_eq_some_iff.1 h
      simp only [Prod.mk.injEq,andT_iff] at h2
      obtain ⟨rfl,rfl,rfl⟩:=h2
      obtain ⟨ys,hys,rfl⟩:=ha.agg_of
      obtain ⟨zs,hzs,rfl⟩:=hb.agg_of
      obtain ⟨rfl,hln⟩:=flatI_sound hl hys
      obtain ⟨rfl,hmn⟩:=flatI_sound hm hzs
      simp only [Bool.or_eq_true,beq_iff_eq,not_or,Bool.not_eq_true] at hg
      refine eq_run hu (run_eqGuard_agg (P:=P) w op T x y ⟨intsV k l⟩ ⟨intsV k m⟩ hg.1) (fun op' ho=>by rcases ho with rfl|rfl<;>rfl) ?_
      have:=equal_flat 20 T k n hf 10000 (by omega) l m (by omega) (by omega) w
      have hv:∀z:List Int,flatV P T k z=aggI k z:=fun z=>by
       unfold flatV
       split
       ·rename_i h1;exact absurd h1 hg.2
       ·rfl
      rwa [hv,hv] at this
     ·cases h
    ·cases h
   ·cases h
 ·
  rename_i a b
  rw [VR] at ha hb;subst ha hb
  split at h
  ·rename_i hu
   obtain ⟨u,hu',h2⟩:=Option.map_eq_some_iff.1 h
   simp only [Prod.mk.injEq,and_true] at h2;subst h2
   exact eq_run hu' (by unfold eqGuard;split<;>simp) (fun op' ho=>by rcases ho with rfl|rfl<;>rfl) (eqIn_bool (d:=9999) hu)
  ·cases h
 ·
  rename_i a b
  obtain ⟨s,rfl,rfl⟩:=ha
  obtain ⟨t,rfl,rfl⟩:=hb
  obtain ⟨u,hu',h2⟩:=Option.map_eq_some_iff.1 h
  simp only [Prod.mk.injEq,and_true] at h2;subst h2
  have hg:(eqGuard op T x y (.string s) (.string t)).run P w= .ok () w:=by unfold eqGuard;split<;>simp
  have hd:decide (strL s=strL t)=(s.toList==t.toList):=by
   rw [Bool.eq_iff_iff,decide_eq_true_eq,strL_eq,beq_iff_eq]
   constructor
   ·rintro rfl;rfl
   ·intro h
    rw [ByteArray.toList_eq,ByteArray.toList_eq] at h
    cases s;cases t;congr;exact Array.ext' h
  rcases boolOp_cases hu' with ⟨rfl,rfl⟩|⟨rfl,rfl⟩
  ·exact ⟨_,by rw [Sem.run_bind,hg,Result.andThen_ok];rfl,by rw [hd];rfl⟩
  ·exact ⟨_,by rw [Sem.run_bind,hg,Result.andThen_ok];rfl,by rw [hd];rfl⟩
 ·
  obtain ⟨p,_,rfl⟩:=ha
  rw [VR] at hb;subst hb
  split at h
  ·rename_i hu
   obtain ⟨u,hu',h2⟩:=Option.map_eq_some_iff.1 h
   simp only [Prod.mk.injEq,and_true] at h2;subst h2
   exact eq_run hu' (by unfold eqGuard;split<;>simp) (fun op' ho=>by rcases ho with rfl|rfl<;>rfl) (eqIn_ptr (d:=9999) hu)
  ·cases h
 ·rw [VR] at ha hb;subst ha hb
  split at h
  ·rename_i hu
   obtain ⟨u,hu',h2⟩:=Option.map_eq_some_iff.1 h
   simp only [Prod.mk.injEq,and_true] at h2;subst h2
   exact eq_run hu' (by unfold eqGuard;split<;>simp) (fun op' ho=>by rcases ho with rfl|rfl<;>rfl) (eqIn_nilPtr (d:=9999) hu)
  ·cases h
 ·
  rw [VR] at ha hb;subst ha hb
  have hg:∀z:Value,(x= .const z∨y= .const z)→(eqGuard op T x y .nilIface .nilIface).run P w= .ok () w:=fun z hz=>by
   unfold eqGuard
   rcases hz with rfl|rfl<;>split<;>simp
  split at h
  ·rename_i hu
   obtain ⟨u,hu',h2⟩:=Option.map_eq_some_iff.1 h
   simp only [Prod.mk.injEq,and_true] at h2;subst h2
   exact eq_run hu' (hg _ (.inl rfl)) (fun op' ho=>by rcases ho with rfl|rfl<;>rfl) (eqIn_nils (d:=9999) hu)
  ·rename_i hu _
   obtain ⟨u,hu',h2⟩:=Option.map_eq_some_iff.1 h
   simp only [Prod.mk.injEq,and_true] at h2;subst h2
   exact eq_run hu' (hg _ (.inr rfl)) (fun op' ho=>by rcases ho with rfl|rfl<;>rfl) (eqIn_nils (d:=9999) hu)
  ·cases h
 ·obtain ⟨z,_,rfl⟩:=ha
  rw [VR] at hb;subst hb
  split at h
  ·rename_i hu
   obtain ⟨u,hu',h2⟩:=Option.map_eq_some_iff.1 h
   simp only [Prod.mk.injEq,and_true] at h2;subst h2
   exact eq_run hu' (by unfold eqGuard;split<;>simp) (fun op' ho=>by rcases ho with rfl|rfl<;>rfl) (eqIn_nilR (d:=9999) hu)
  ·cases h
 ·obtain ⟨z,_,rfl⟩:=hb
  rw [VR] at ha;subst ha
  split at h
  ·rename_i hu
   obtain ⟨u,hu',h2⟩:=Option.map_eq_some_iff.1 h
   simp only [Prod.mk.injEq,and_true] at h2;subst h2
   exact eq_run hu' (by unfold eqGuard;split<;>simp) (fun op' ho=>by rcases ho with rfl|rfl<;>rfl) (eqIn_nilL (d:=9999) hu)
  ·cases h
 ·rename_i t k a t' k' b
  obtain ⟨z,hz,rfl⟩:=ha
  obtain ⟨z',hz',rfl⟩:=hb
  rw [VR] at hz hz';subst hz hz'
  split at h
  ·rename_i hu hu2
   split at h
   ·rename_i hcmp
    split at h
    ·rename_i htk
     obtain ⟨rfl,rfl⟩:=htk
     obtain ⟨u,hu',h2⟩:=Option.map_eq_some_iff.1 h
     simp only [Prod.mk.injEq,and_true] at h2;subst h2
     obtain ⟨i,hi,hic⟩:=Option.map_eq_some_iff.1 hcmp
     exact eq_run hu' (by unfold eqGuard;split<;>simp) (fun op' ho=>by rcases ho with rfl|rfl<;>rfl) (eqIn_errs (d:=9998) hu hu2 hi hic)
    ·cases h
   ·cases h
  ·cases h
 ·
  rw [VR] at hb;subst hb
  split at h
  ·rename_i hu
   obtain ⟨u,hu',h2⟩:=Option.map_eq_some_iff.1 h
   simp only [Prod.mk.injEq,decide_eq_true_eq] at h2
   obtain ⟨rfl,h0⟩:=h2
   rcases ha with ⟨h1,_⟩|⟨n,o,cap,c,t,fr,rfl,_⟩
   ·rw [h1] at h0;simp at h0
   ·exact eq_run hu' (by unfold eqGuard;split<;>simp) (fun op' ho=>by rcases ho with rfl|rfl<;>rfl) (eqIn_slice (d:=9999) hu)
  ·cases h
 ·rw [VR] at hb;subst hb
  split at h
  ·rename_i hu
   obtain ⟨u,hu',h2⟩:=Option.map_eq_some_iff.1 h
   simp only [Prod.mk.injEq,decide_eq_true_eq] at h2
   obtain ⟨rfl,h0⟩:=h2
   rcases ha with ⟨h1,_⟩|⟨p,cap',a,_,rfl,_⟩
   ·rw [h1] at h0;omega
   ·exact eq_run hu' (by unfold eqGuard;split<;>simp) (fun op' ho=>by rcases ho with rfl|rfl<;>rfl) (eqIn_slice (d:=9999) hu)
  ·cases h
 ·rw [VR] at ha hb;subst ha hb
  split at h
  ·rename_i hu
   obtain ⟨u,hu',h2⟩:=Option.map_eq_some_iff.1 h
   simp only [Prod.mk.injEq,and_true] at h2;subst h2
   exact eq_run hu' (by unfold eqGuard;split<;>simp) (fun op' ho=>by rcases ho with rfl|rfl<;>rfl) (eqIn_slice (d:=9999) hu)
  ·cases h
 ·rw [VR] at hb;subst hb
  split at h
  ·rename_i hu
   obtain ⟨u,hu',h2⟩:=Option.map_eq_some_iff.1 h
   simp only [Prod.mk.injEq,decide_eq_true_eq] at h2
   obtain ⟨rfl,h0⟩:=h2
   rcases ha with ⟨h1,_⟩|⟨n,o,cap,c,t,fr,rfl,_⟩
   ·omega
   ·exact eq_run hu' (by unfold eqGuard;split<;>simp) (fun op' ho=>by rcases ho with rfl|rfl<;>rfl) (eqIn_slice (d:=9999) hu)
  ·cases h
 ·rw [VR] at hb;subst hb
  split at h
  ·rename_i hu
   obtain ⟨u,hu',h2⟩:=Option.map_eq_some_iff.1 h
   simp only [Prod.mk.injEq,decide_eq_true_eq] at h2
   obtain ⟨rfl,h0⟩:=h2
   rcases ha with ⟨h1,_⟩|⟨p,cap',a,_,rfl,_⟩
   ·omega
   ·exact eq_run hu' (by unfold eqGuard;split<;>simp) (fun op' ho=>by rcases ho with rfl|rfl<;>rfl) (eqIn_slice (d:=9999) hu)
  ·cases h
 ·cases h
theorem unS_sound {op:UnOp} {a v:SV} {a':Value} (h:unS op a=some v) (ha:VR e a a'):∃v',(Op.unary op a').run P w= .ok v' w∧VR e v v':=by
 unfold unS at h
 split at h
 ·cases h;rw [VR] at ha;subst ha;exact ⟨_,by simp [Op.unary,Op.intArith],rfl⟩
 ·cases h;rw [VR] at ha;subst ha;exact ⟨_,by simp [Op.unary,Op.intBits,xorI,bitsI],rfl⟩
 ·cases h;rw [VR] at ha;subst ha;exact ⟨_,by simp [Op.unary],rfl⟩
 ·cases h
theorem convS_sound {src dst:TypeId} {a v:SV} {a':Value} (h:convS P src dst a=some v) (ha:VR e a a'):∃v',(convert src dst a').run P w= .ok v' w∧VR e v v':=by
 unfold convS at h
 split at h
 ·rename_i k n
  rw [VR] at ha;subst ha
  split at h
  ·rename_i s k' hs hd
   cases h
   refine ⟨_,?_,rfl⟩
   simp [convert,run_underlying hs,run_underlying hd,Conv.intToInt]
  ·cases h
 ·rename_i xs
  obtain ⟨s,rfl,rfl⟩:=ha
  split at h
  ·rename_i hs hd
   cases h
   exact ⟨_,by simp [convert,run_underlying hs,run_underlying hd],s,rfl,rfl⟩
  ·cases h
 ·cases h
theorem partS_sound {t:TypeId} {ps:List SV} {ys:List Value} {o i:Nat} {v:SV} (h:partS P t ps o i=some (v,true)) (hl:PR e ps ys):
  ∃v',(part t ⟨ys⟩ (o+i)).run P w= .ok v' w∧VR e v v':=by
 unfold partS at h
 split at h
 ·rename_i hagg
  split at h
  ·rename_i n hn
   obtain ⟨q,h1,h2⟩:=Option.map_eq_some_iff.1 h
   simp only [Prod.mk.injEq,and_true] at h2;subst h2
   obtain ⟨h3,h4⟩:=subP_sound h1 hl
   exact ⟨.agg ⟨(ys.drop o).take n⟩,by simp [part,aggB_run hagg,szOf_run hn,List.extract_eq_take_drop],_,h3,rfl⟩
  ·cases h
 ·rename_i hagg
  obtain ⟨y,hy,hv⟩:=cellP_sound h hl
  refine ⟨y,?_,hv⟩
  simp only [part,Sem.run_bind,aggB_run hagg,Result.andThen_ok]
  have hlt:=(List.getElem?_eq_some_iff.1 hy).1
  have:ys[o+i]=y:=(List.getElem?_eq_some_iff.1 hy).2
  simp [hlt,this]
 ·cases h
theorem fieldS_sound {t:TypeId} {i:Nat} {a v:SV} {a':Value} (h:fieldS P t i a=some (v,true)) (ha:VR e a a'):∃v',(Instr.field t a' i).run P w= .ok v' w∧VR e v v':=by
 unfold fieldS at h
 split at h
 ·rename_i ps
  obtain ⟨ys,hys,rfl⟩:=ha.agg_of
  split at h
  ·rename_i fs hu
   split at h
   ·rename_i f hf
    obtain ⟨v',hr,hv⟩:=partS_sound (w:=w) h hys
    refine ⟨v',?_,hv⟩
    have hf':fs[i]? =some f:=by simpa using hf
    simp only [Instr.field,Sem.run_bind,run_underlying hu,Result.andThen_ok,hf']
    simpa [asAgg] using hr
   ·cases h
  ·cases h
 ·cases h
theorem fieldPlace_run {a:Addr} {f:Field} {z:Nat} (hz:szOf P f.type=some (z+1)):(fieldPlace a f).run P w= .ok (a.add f.offset) w:=by
 simp [fieldPlace,szOf_run hz]
theorem fieldAddrS_sound {t:TypeId} {i:Nat} {a v:SV} {a':Value} (h:fieldAddrS P t i a=some v) (ha:VR e a a'):∃v',(Instr.fieldAt t a' i).run P w= .ok v' w∧VR e v v':=by
 unfold fieldAddrS at h
 split at h
 ·rename_i fs hu
  split at h
  ·rename_i f hf
   have hf':fs[i]? =some f:=by simpa using hf
   split at h
   ·rename_i z hz
    split at h
    ·rename_i b o j
     cases h
     obtain ⟨p,hp,rfl⟩:=ha
     refine ⟨.pointer (some ⟨p.n,p.base+(o+f.offset+j),none⟩),?_,p,hp,rfl⟩
     simp only [Instr.fieldAt,Sem.run_bind,run_underlying hu,Result.andThen_ok,hf',Instr.sureAddr,Sem.run_pure,fieldPlace_run hz,addr_add]
     rw [show p.base+(o+j)+f.offset=p.base+(o+f.offset+j) by omega]
    ·rename_i f0 z0 len c el o j
     cases h
     obtain ⟨n,o0,c,t',fr,rfl,h2,h3,h4⟩:=ha
     refine ⟨.pointer (some ⟨n,o0+el*z0+(o+f.offset+j),none⟩),?_,n,o0,c,t',fr,rfl,h2,h3,h4⟩
     simp only [Instr.fieldAt,Sem.run_bind,run_underlying hu,Result.andThen_ok,hf',Instr.sureAddr,Sem.run_pure,fieldPlace_run hz,addr_add]
     rw [show o0+el*z0+(o+j)+f.offset=o0+el*z0+(o+f.offset+j) by omega]
    ·rename_i b z0 el o j
     cases h
     obtain ⟨p,hp,rfl⟩:=ha
     refine ⟨.pointer (some ⟨p.n,p.base+(el*z0+(o+f.offset+j)),none⟩),?_,p,hp,rfl⟩
     simp only [Instr.fieldAt,Sem.run_bind,run_underlying hu,Result.andThen_ok,hf',Instr.sureAddr,Sem.run_pure,fieldPlace_run hz,addr_add]
     rw [show p.base+(el*z0+(o+j))+f.offset=p.base+(el*z0+(o+f.offset+j)) by omega]
    ·cases h
   ·cases h
  ·cases h
 ·cases h
theorem inB_iff {i:Int} {n:Nat}:inB i n=true↔0≤i∧i<n:=by simp [inB]
theorem VR.sl_at {b o i z len cap:Nat} {ex wh:Bool} {a':Value} {ix:Int} (ha:VR e (.sl b o i z len cap ex wh) a') (hb:inB ix len=true):
  ∃p cap',e.r b=some p∧a'= .slice (some ⟨p.n,p.base+(o+i*z),none⟩) len cap':=by
 rw [inB_iff] at hb
 rcases ha with ⟨h1,_⟩|⟨p,cap',a,hp,h1,h2,_,_,h3,_⟩
 ·omega
 ·have:=h2 (by omega)
  subst this
  exact ⟨p,cap',hp,h1⟩
theorem indexAt_slice {t el:TypeId} {n len cap:Nat} {x:Addr} {k:IntKind} {ix:Int} {z:Nat} (hu:P.underlying t=some (.slice el)) (hz:szOf P el=some z) (hb:inB ix len=true) (hx:x=⟨n,x.off,none⟩):
  (Instr.indexAt t (.slice (some x) len cap) (.int k ix)).run P w= .ok (.pointer (some ⟨n,x.off+ix.toNat*z,none⟩)) w:=by
 rw [inB_iff] at hb
 have h1:x.add (ix.toNat*z)=⟨n,x.off+ix.toNat*z,none⟩:=by
  have:=addr_add n x.off (ix.toNat*z)
  rwa [←hx] at this
 simp [Instr.indexAt,asIntOf,run_underlying hu,hb,szOf_run hz,h1]
theorem indexAt_array {t el:TypeId} {n len o:Nat} {k:IntKind} {ix:Int} {z:Nat} (hu:P.underlying t=some (.array len el)) (hz:szOf P el=some z) (hb:inB ix len=true):
  (Instr.indexAt t (.pointer (some ⟨n,o,none⟩)) (.int k ix)).run P w= .ok (.pointer (some ⟨n,o+ix.toNat*z,none⟩)) w:=by
 rw [inB_iff] at hb
 simp [Instr.indexAt,asIntOf,run_underlying hu,hb,szOf_run hz,addr_add,Instr.sureAddr]
theorem indexAddrS_sound {t:TypeId} {a ix v:SV} {a' ix':Value} (h:indexAddrS P t a ix=some (v,true)) (ha:VR e a a') (hi:VR e ix ix'):
  ∃v',(Instr.indexAt t a' ix').run P w= .ok v' w∧VR e v v':=by
 unfold indexAddrS at h
 split at h
 ·rename_i k i
  rw [VR] at hi;subst hi
  split at h
  ·rename_i len el b o j hu
   obtain ⟨p,hp,rfl⟩:=ha
   split at h
   ·rename_i hz
    simp only [Option.some.injEq,Prod.mk.injEq] at h
    obtain ⟨rfl,hb⟩:=h
    exact ⟨_,indexAt_array hu hz hb,p,hp,by congr 3;omega⟩
   ·rename_i n _ hz
    simp only [Option.some.injEq,Prod.mk.injEq] at h
    obtain ⟨rfl,hb⟩:=h
    exact ⟨_,indexAt_array hu hz hb,p,hp,by congr 3;omega⟩
   ·cases h
  ·rename_i len el f z l c e0 o j hu
   obtain ⟨n,o0,c,t',fr,rfl,h2,h3,h4⟩:=ha
   split at h
   ·rename_i hz
    simp only [Option.some.injEq,Prod.mk.injEq] at h
    obtain ⟨rfl,hb⟩:=h
    exact ⟨_,indexAt_array hu hz hb,n,o0,c,t',fr,by congr 3;omega,h2,h3,h4⟩
   ·rename_i m _ hz
    simp only [Option.some.injEq,Prod.mk.injEq] at h
    obtain ⟨rfl,hb⟩:=h
    exact ⟨_,indexAt_array hu hz hb,n,o0,c,t',fr,by congr 3;omega,h2,h3,h4⟩
   ·cases h
  ·rename_i len el b z e0 o j hu
   obtain ⟨p,hp,rfl⟩:=ha
   split at h
   ·rename_i hz
    simp only [Option.some.injEq,Prod.mk.injEq] at h
    obtain ⟨rfl,hb⟩:=h
    exact ⟨_,indexAt_array hu hz hb,p,hp,by congr 3;omega⟩
   ·rename_i m _ hz
    simp only [Option.some.injEq,Prod.mk.injEq] at h
    obtain ⟨rfl,hb⟩:=h
    exact ⟨_,indexAt_array hu hz hb,p,hp,by congr 3;omega⟩
   ·cases h
  ·rename_i len el g j hu
   rw [VR] at ha;subst ha
   split at h
   ·rename_i hz
    simp only [Option.some.injEq,Prod.mk.injEq] at h
    obtain ⟨rfl,hb⟩:=h
    exact ⟨_,indexAt_array hu hz hb,by rw [VR];congr 3;omega⟩
   ·cases h
  ·rename_i el b z len cap ex hu
   split at h
   ·rename_i n0 hz
    split at h
    ·rename_i hnz
     subst hnz
     simp only [Option.some.injEq,Prod.mk.injEq] at h
     obtain ⟨rfl,hb⟩:=h
     have hb':=inB_iff.1 hb
     rcases ha with ⟨h1,_⟩|⟨p,cap',a,hp,rfl,h2,_,_,h3,_⟩
     ·omega
     ·have:=h2 (by omega)
      subst this
      exact ⟨_,indexAt_slice (n:=p.n) hu hz hb rfl,p,hp,by simp⟩
    ·cases h
   ·cases h
  ·rename_i el b o j len cap ex wh hu
   split at h
   ·rename_i hz
    split at h
    ·simp only [Option.some.injEq,Prod.mk.injEq] at h
     obtain ⟨rfl,hb⟩:=h
     obtain ⟨p,cap',hp,rfl⟩:=ha.sl_at hb
     exact ⟨_,indexAt_slice (n:=p.n) hu hz hb rfl,p,hp,by simp only [];congr 3;omega⟩
    ·simp only [Option.some.injEq,Prod.mk.injEq] at h
     obtain ⟨rfl,hb⟩:=h
     obtain ⟨p,cap',hp,rfl⟩:=ha.sl_at hb
     exact ⟨_,indexAt_slice (n:=p.n) hu hz hb rfl,p,hp,by simp only [];congr 3;omega⟩
   ·cases h
  ·rename_i el b o j z len cap ex wh hne hu
   split at h
   ·rename_i n hz
    split at h
    ·rename_i hnz
     subst hnz
     simp only [Option.some.injEq,Prod.mk.injEq] at h
     obtain ⟨rfl,hb⟩:=h
     obtain ⟨p,cap',hp,rfl⟩:=ha.sl_at hb
     refine ⟨_,indexAt_slice (n:=p.n) hu hz hb rfl,p,hp,?_⟩
     simp only [];congr 3;rw [Nat.add_mul];omega
    ·cases h
   ·cases h
  ·rename_i el f k' xs hu
   split at h
   ·rename_i hz
    simp only [Option.some.injEq,Prod.mk.injEq] at h
    obtain ⟨rfl,hb⟩:=h
    have hb':=inB_iff.1 hb
    rcases ha with ⟨h1,_⟩|⟨n,o,cap,c,t',fr,rfl,h2,_,h3,_⟩
    ·subst h1;simp at hb';omega
    ·exact ⟨_,indexAt_slice (n:=n) hu hz hb rfl,n,o,c,t',fr,by simp,h2,h3⟩
   ·cases h
  ·rename_i el f xss hu
   split at h
   ·rename_i hz
    simp only [Option.some.injEq,Prod.mk.injEq] at h
    obtain ⟨rfl,hb⟩:=h
    have hb':=inB_iff.1 hb
    rcases ha with ⟨h1,_⟩|⟨n,o,cap,c,t',fr,rfl,h2,_,h3,_⟩
    ·subst h1;simp at hb';omega
    ·exact ⟨_,indexAt_slice (n:=n) hu hz hb rfl,n,o,c,t',fr,by simp,h2,h3⟩
   ·cases h
  ·rename_i el f z len g hu
   split at h
   ·rename_i n0 hz
    split at h
    ·rename_i hnz
     subst hnz
     simp only [Option.some.injEq,Prod.mk.injEq] at h
     obtain ⟨rfl,hb⟩:=h
     have hb':=inB_iff.1 hb
     rcases ha with ⟨h1,_⟩|⟨n,o,cap,c,t',fr,rfl,h2,_,h3,h4,h5⟩
     ·omega
     ·have hle:=Nat.mul_le_mul_right n0 h4
      exact ⟨_,indexAt_slice (n:=n) hu hz hb rfl,n,o,c,t',fr,by simp,h2,h3,by omega⟩
    ·cases h
   ·cases h
  ·cases h
 ·cases h
theorem indexS_sound {t:TypeId} {a ix v:SV} {a' ix':Value} (h:indexS P t a ix=some (v,true)) (ha:VR e a a') (hi:VR e ix ix'):∃v',(Instr.index t a' ix').run P w= .ok v' w∧VR e v v':=by
 unfold indexS at h
 split at h
 ·rename_i k i ps
  rw [VR] at hi;subst hi
  obtain ⟨ys,hys,rfl⟩:=ha.agg_of
  split at h
  ·rename_i len el hu
   split at h
   ·rename_i k' hk hz
    obtain ⟨⟨q1,q2⟩,h1,h2⟩:=Option.map_eq_some_iff.1 h
    simp only [Prod.mk.injEq,Bool.and_eq_true] at h2
    obtain ⟨rfl,rfl,hb⟩:=h2
    rw [inB_iff] at hb
    have hagg:aggB P el=some false:=by simp [aggB,isInt_eq hk]
    obtain ⟨v',hr,hv⟩:=partS_sound (P:=P) (w:=w) (t:=el) (o:=0) (i:=i.toNat) (v:=q1) (by simp only [partS,hagg];exact h1) hys
    refine ⟨v',?_,hv⟩
    simp [Instr.index,asIntOf,run_underlying hu,hb,szOf_run hz]
    simpa using hr
   ·rename_i n hk hz
    obtain ⟨⟨q1,q2⟩,h1,h2⟩:=Option.map_eq_some_iff.1 h
    simp only [Prod.mk.injEq,Bool.and_eq_true] at h2
    obtain ⟨rfl,rfl,hb⟩:=h2
    rw [inB_iff] at hb
    obtain ⟨v',hr,hv⟩:=partS_sound (w:=w) h1 hys
    refine ⟨v',?_,hv⟩
    simp [Instr.index,asIntOf,run_underlying hu,hb,szOf_run hz]
    simpa using hr
   ·cases h
  ·cases h
 ·rename_i k i xs
  rw [VR] at hi;subst hi
  obtain ⟨s,rfl,rfl⟩:=ha
  split at h
  ·rename_i hu
   simp only [Option.some.injEq,Prod.mk.injEq] at h
   obtain ⟨rfl,hb⟩:=h
   rw [inB_iff] at hb
   have hlen:(strL s).length=s.size:=by unfold strL;rw [List.length_map,Array.length_toList];rfl
   have hlt:i.toNat<s.size:=by omega
   refine ⟨.int .u8 (s[i.toNat]).toNat,?_,?_⟩
   ·have h1:(if 0≤i then s[i.toNat]? else none)=some (s[i.toNat]):=by rw [if_pos hb.1,getElem?_pos s i.toNat hlt]
    unfold Instr.index
    rw [Sem.run_bind,show (asIntOf (.int k i):Sem (IntKind×Int))=pure (k,i) from rfl,Sem.run_pure,Result.andThen_ok]
    simp only []
    rw [Sem.run_bind,run_underlying hu,Result.andThen_ok]
    simp only [h1]
    rfl
   ·have h3:i.toNat<s.data.toList.length:=by simpa using hlt
    have:(strL s).getD i.toNat 0=((s[i.toNat]).toNat:Int):=by
     rw [strL,List.getD,List.getElem?_map,List.getElem?_eq_getElem h3]
     rfl
    rw [this];rfl
  ·cases h
 ·cases h
end
end Go.Sy
namespace Go.Sy
open Go
section
variable {P:Program} {e:Env} {B:Base} {h:List Blk} {w:World}
def VP (e:Env):List (Nat×SV)→List (Nat×Value)→Prop
 | [],ys=>ys=[]
 |(i,x)::xs,ys=>∃y zs,VR e x y∧VP e xs zs∧ys=(i,y)::zs
theorem foldl_set_eq (o:Nat):∀(l:List Value) (i:Nat) (cs:Array Value),o+i+l.length≤cs.size→
  ((l.zipIdx i).foldl (fun cs (x:Value×Nat)=>cs.setIfInBounds (o+x.2) x.1) cs).toList=cs.toList.take (o+i)++l++cs.toList.drop (o+i+l.length)
 | [],i,cs,_=>by simp
 |x::l,i,cs,hle=>by
  simp only [List.length_cons] at hle
  simp only [List.zipIdx_cons,List.foldl_cons]
  rw [foldl_set_eq o l (i+1) _ (by simp;omega)]
  have q:=list_seg_step cs.toList (o+i) x l (by simp;omega)
  simpa [Array.toList_setIfInBounds,Nat.add_assoc] using q
theorem VR.cellsOf {v:SV} {v':Value} (hv:VR e v v') (ho:one v=true):v'.cells= #[v']:=by
 have:=hv.oneCell ho
 cases v'<;>first|rfl|cases this
theorem placeP_sound {ps qs:List SV} {o n:Nat} {v:SV} {v':Value} {cs:Array Value} (hp:placeP ps o n v=some (qs,true)) (g:PR e ps cs.toList) (hv:VR e v v'):
  v'.cells.size=n∧o+n≤cs.size∧PR e qs (cs.toList.take o++v'.cells.toList++cs.toList.drop (o+n)):=by
 unfold placeP at hp
 split at hp
 ·rename_i q
  split at hp
  ·rename_i hq
   obtain ⟨ps',h1,h2⟩:=Option.map_eq_some_iff.1 hp
   simp only [Prod.mk.injEq,and_true] at h2;subst h2
   obtain ⟨ys,hys,rfl⟩:=hv.agg_of
   obtain ⟨h3,h4⟩:=putP_sound h1 g hys
   have:=hys.length
   exact ⟨by show ys.length=n;omega,by simpa using h4,h3⟩
  ·cases hp
 ·split at hp
  ·rename_i hc
   simp only [Bool.and_eq_true,decide_eq_true_eq] at hc
   obtain ⟨rfl,ho⟩:=hc
   obtain ⟨h3,h4⟩:=setP_sound hp g hv
   rw [Nat.add_zero] at h3 h4
   have hc:=hv.cellsOf ho
   refine ⟨by rw [hc];rfl,by simp at h4;omega,?_⟩
   rw [hc]
   rw [List.set_eq_take_append_cons_drop,if_pos h4] at h3
   simpa using h3
  ·cases hp
theorem fillS_sound {place:Nat→Option (Nat×Nat)}:∀{parts:List (Nat×SV)} {parts':List (Nat×Value)} {ps qs:List SV} {cs:Array Value},fillS place ps parts=some (qs,true)→PR e ps cs.toList→VP e parts parts'→
  ∃out,Instr.fill place cs parts'=some out∧PR e qs out.toList∧out.size=cs.size
 | [],parts',ps,qs,cs,hf,g,hv=>by
  rw [VP] at hv;subst hv
  simp only [fillS,Option.some.injEq,Prod.mk.injEq,and_true] at hf;subst hf
  exact ⟨cs,rfl,g,rfl⟩
 |(i,x)::parts,_,ps,qs,cs,hf,g,⟨y,zs,hy,hz,q⟩=>by
  subst q
  simp only [fillS] at hf
  split at hf
  ·rename_i o n hpl
   split at hf
   ·rename_i ps1 p1 hpp
    obtain ⟨⟨q1,q2⟩,h1,h2⟩:=Option.map_eq_some_iff.1 hf
    simp only [Prod.mk.injEq,andT_iff] at h2
    obtain ⟨rfl,rfl,rfl⟩:=h2
    obtain ⟨h3,h4,h5⟩:=placeP_sound hpp g hy
    have e1:(y.cells.zipIdx.foldl (fun cs (x:Value×Nat)=>cs.setIfInBounds (o+x.2) x.1) cs).toList=cs.toList.take o++y.cells.toList++cs.toList.drop (o+n):=by
     rw [←Array.foldl_toList,Array.toList_zipIdx]
     have:=foldl_set_eq o y.cells.toList 0 cs (by simp;omega)
     rw [this]
     simp [h3]
    obtain ⟨out,h6,h7,h8⟩:=fillS_sound h1 (cs:=y.cells.zipIdx.foldl (fun cs (x:Value×Nat)=>cs.setIfInBounds (o+x.2) x.1) cs) (by rw [e1];exact h5) hz
    refine ⟨out,?_,h7,?_⟩
    ·simp only [Instr.fill,hpl]
     rw [if_neg (by rw [h3];simp;omega)]
     exact h6
    ·rw [h8, ←Array.length_toList,e1]
     simp
     omega
   ·cases hf
  ·cases hf
theorem zeroS_len {t:TypeId} {ps:List SV} (hz:zeroS P t=some ps):∃z,zeroOf P t=some z∧z.cells.size=psize ps:=by
 obtain ⟨z,h1,h2⟩:=zeroS_sound (e:=⟨fun _=>none,fun _=>none,0,[],fun _=>none⟩) hz
 exact ⟨z,h1,by simpa using h2.length⟩
theorem buildS_sound {t:TypeId} {parts:List (Nat×SV)} {parts':List (Nat×Value)} {v:SV} (hb:buildS P t parts=some (v,true)) (hp:VP e parts parts'):
  ∃v',(Instr.build t parts'.toArray).run P w= .ok v' w∧VR e v v':=by
 unfold buildS at hb
 split at hb
 ·rename_i z place hz hpl
  obtain ⟨⟨q1,q2⟩,h1,h2⟩:=Option.map_eq_some_iff.1 hb
  simp only [Prod.mk.injEq] at h2
  obtain ⟨rfl,rfl⟩:=h2
  obtain ⟨z',hz',hpr⟩:=zeroS_sound (e:=e) hz
  obtain ⟨out,h3,h4,_⟩:=fillS_sound h1 hpr hp
  obtain ⟨it,hit,hiz⟩:∃it,P.info? t=some it∧it.zero=some z':=by
   unfold zeroOf at hz'
   cases hq:P.info? t with
   |none=>simp [hq] at hz'
   |some it=>simp [hq] at hz';exact ⟨it,rfl,hz'⟩
  refine ⟨.agg out,run_build w t parts'.toArray out ?_,out.toList,h4,rfl⟩
  unfold Program.built
  unfold placesOf at hpl
  split at hpl
  ·rename_i n el hu
   obtain ⟨ie,hie,rfl⟩:=Option.map_eq_some_iff.1 hpl
   simp only [hit,hu,hiz,hie]
   simpa using h3
  ·rename_i fields hu
   obtain ⟨places,hpp,rfl⟩:=Option.map_eq_some_iff.1 hpl
   simp only [hit,hu,hiz,hpp]
   simpa using h3
  ·cases hpl
 ·cases hb
theorem PR.replicate {zs:List SV} {ys:List Value} (g:PR e zs ys):∀n:Nat,PR e (List.replicate n zs).flatten (List.replicate n ys).flatten
 |0=>rfl
 |n+1=>by
  rw [List.replicate_succ,List.flatten_cons,List.replicate_succ,List.flatten_cons]
  exact g.append (PR.replicate g n)
theorem rep_eq (c:Array Value) (hc:0<c.size):∀n:Nat,((Array.range (n*c.size)).map fun i=>c[i%c.size]!).toList=(List.replicate n c.toList).flatten
 |0=>by simp
 |n+1=>by
  rw [List.replicate_succ',List.flatten_append, ←rep_eq c hc n]
  simp only [List.flatten_cons,List.flatten_nil,List.append_nil,Array.toList_map,Array.toList_range]
  rw [Nat.succ_mul,List.range_add,List.map_append]
  congr 1
  apply List.ext_getElem?
  intro j
  simp only [List.map_map,List.getElem?_map]
  by_cases hj:j<c.size
  ·rw [List.getElem?_range hj]
   simp only [Option.map_some,Function.comp]
   rw [Nat.mul_comm n,Nat.mul_add_mod,Nat.mod_eq_of_lt hj,getElem!_pos c j hj]
   simp [hj]
  ·rw [List.getElem?_eq_none (by simpa using hj),List.getElem?_eq_none (by simpa using hj)];rfl
theorem zeroS_int {el:TypeId} {k:IntKind} {zs:List SV} {z:Value} (hk:isInt P el=some k) (hz:zeroS P el=some zs) (hz':zeroOf P el=some z):z.cells.toList=[.int k 0]:=by
 have hu:=isInt_eq hk
 have hp:zeroP P 12 el=some [.int k 0]:=by simp [zeroP,hu]
 obtain ⟨z2,h1,h2⟩:=zeroS_sound (e:=⟨fun _=>none,fun _=>none,0,[],fun _=>none⟩) hz
 rw [hz'] at h1;cases h1
 have:zs=[.int k 0]:=by
  unfold zeroS at hz
  rw [hz',hp] at hz
  simp only [] at hz
  split at hz
  ·cases hz;rfl
  ·cases hz
 subst this
 obtain ⟨y,us,hy,hu2,q⟩:=(PR.cons rfl).1 h2
 rw [PR] at hu2;subst hu2
 rw [VR] at hy;subst hy
 exact q
theorem rep_int (k:IntKind) (n:Nat):(List.replicate n [Value.int k 0]).flatten=intsV k (List.replicate n 0):=by
 induction n with
 |zero=>rfl
 |succ n ih=>rw [List.replicate_succ,List.flatten_cons,ih];rfl
theorem zero_row {el:TypeId} {zs:List SV} {z:Value} {n:Nat} (hz:zeroS P el=some zs) (hz':zeroOf P el=some z) (hpos:0<z.cells.size) {ps:List SV} (hps:ps=match isInt P el with
  |some k=>[.ints k n (List.replicate n 0)]
  |none=>(List.replicate n zs).flatten):PR e ps ((Array.range (n*z.cells.size)).map fun i=>z.cells[i%z.cells.size]!).toList:=by
 rw [rep_eq _ hpos]
 obtain ⟨z2,h1,h2⟩:=zeroS_sound (e:=e) hz
 rw [hz'] at h1;cases h1
 cases hk:isInt P el with
 |none=>rw [hk] at hps;subst hps;exact h2.replicate n
 |some k=>
  rw [hk] at hps;subst hps
  rw [zeroS_int hk hz hz',rep_int]
  exact ⟨[],rfl,by rw [lst_eq (by simp),List.append_nil]⟩
theorem buildSliceS_sound {t:TypeId} {len z:Nat} {parts:List (Nat×SV)} {parts':List (Nat×Value)} {ps:List SV} (hb:buildSliceS P t len parts=some (ps,z,true)) (hp:VP e parts parts'):
  ∃el ys,(Instr.buildSlice t len parts'.toArray).run P w= .ok (.slice (some ⟨w.heap.size,0,none⟩) len len) (w.alloc (.cells ⟨ys⟩ el))∧PR e ps ys∧ys.length=len*z∧0<z:=by
 unfold buildSliceS at hb
 split at hb
 ·rename_i el hu
  split at hb
  ·rename_i z0 zs hs hz
   split at hb
   ·rename_i hc
    obtain ⟨⟨q1,q2⟩,h1,h2⟩:=Option.map_eq_some_iff.1 hb
    simp only [Prod.mk.injEq] at h2
    obtain ⟨rfl,rfl,rfl⟩:=h2
    obtain ⟨zv,hzv,hzs⟩:=zeroS_len hz
    obtain ⟨hc,hsz0⟩:=hc
    have hsz:zv.cells.size=z0+1:=by omega
    ·have hrow:=zero_row (e:=e) (n:=len) hz hzv (by omega) rfl
     obtain ⟨out,h3,h4,h5⟩:=fillS_sound h1 hrow hp
     rw [hsz] at h3 h5
     refine ⟨el,out.toList,?_,h4,by simpa using h5,by omega⟩
     have hle:¬len*(z0+1)>2^24:=by omega
     unfold Instr.buildSlice
     simp only [Sem.run_bind,run_underlying hu,Result.andThen_ok,szOf_run hs,Sem.run_ite,if_neg hle,Sem.run_pure]
     by_cases h0:len*(z0+1)=0
     ·rw [if_pos h0]
      have:((Array.range (len*(z0+1))).map fun i=>zv.cells[i%(z0+1)]!)=((Array.range (len*(z0+1))).map fun i=>(#[]:Array Value)[i%(#[]:Array Value).size]!):=by rw [h0];simp
      rw [this] at h3
      simp only [h3,newRow,newObj,Sem.run_bind,Sem.run_pure]
      rfl
     ·rw [if_neg h0]
      simp only [zeroOf_run hzv,Result.andThen_ok,hsz,h3,newRow,newObj,Sem.run_bind,Sem.run_pure]
      rfl
   ·cases hb
  ·cases hb
 ·cases hb
theorem makeSliceS_sound {t:TypeId} {a b:SV} {a' b':Value} {ps:List SV} {z n m:Nat} (hm:makeSliceS P t a b=some (ps,z,n,m,true)) (ha:VR e a a') (hb:VR e b b'):
  ∃el ys,(Instr.makeSlice t a' b').run P w= .ok (.slice (some ⟨w.heap.size,0,none⟩) n m) (w.alloc (.cells ⟨ys⟩ el))∧PR e ps ys∧ys.length=m*z∧0<z∧n≤m:=by
 unfold makeSliceS at hm
 split at hm
 ·rename_i k1 l k2 c
  rw [VR] at ha hb;subst ha hb
  split at hm
  ·rename_i el hu
   split at hm
   ·rename_i i z0 zs hi hs hz
    split at hm
    ·rename_i hsz0
     simp only [Option.some.injEq,Prod.mk.injEq,Bool.and_eq_true,beq_iff_eq,decide_eq_true_eq] at hm
     obtain ⟨hps,rfl,rfl,rfl,⟨hl,hcc⟩,⟨h0,hlc⟩,hbig⟩:=hm
     obtain ⟨zv,hzv,hzs⟩:=zeroS_len hz
     have hsz:zv.cells.size=z0+1:=by omega
     have t1:(decide (c<0)||decide ((i.bytes:Int)*c>2^48))=false:=by
      rw [Bool.or_eq_false_iff];exact ⟨decide_eq_false (by omega),decide_eq_false (by omega)⟩
     have hrow:=zero_row (e:=e) (n:=c.toNat) hz hzv (by omega) hps.symm
     rw [hsz] at hrow
     refine ⟨el,_,?_,hrow,by simp,by omega,by omega⟩
     unfold Instr.makeSlice
     have hnn:¬l>c:=by omega
     have hn0:¬l<0:=by omega
     simp only [Sem.run_bind,run_underlying hu,Result.andThen_ok,asInt,asIntOf,Sem.run_pure,typeInfo,run_program,hi,hl,hcc,t1,hn0,hnn,decide_false,Bool.or_self,Bool.false_eq_true,if_false]
     have hroom:∀w:World,(askRoom (c.toNat*i.bytes)).run P w= .ok () w:=fun w=>by unfold askRoom;split<;>simp [mark,Sem.run]
     rw [hroom]
     simp only [Result.andThen_ok,szOf_run hs]
     by_cases hc0:c.toNat*(z0+1)=0
     ·rw [if_pos hc0]
      have hr0:Array.range 0= #[]:=by simp
      simp [newRow,newObj,Sem.run,hc0,hr0]
     ·rw [if_neg hc0]
      simp only [Sem.run_bind,zeroOf_run hzv,Sem.run_pure,Result.andThen_ok,newRow,newObj,hsz]
      rfl
    ·cases hm
   ·cases hm
  ·cases hm
 ·cases hm
def boundR (d y:Nat) (code:BoundsCode) (v':Option Value):Sem Nat:=match v' with
 |some x=>Instr.sliceBound x y code
 |none=>pure d
theorem bound_sound {d y y':Nat} {v:Option SV} {v':Option Value} {n:Nat} (hb:boundS d y v=some (n,true)) (hv:VO e v v') (hy:y≤y') (code:BoundsCode):
  (boundR d y' code v').run P w= .ok n w∧(v=none→n=d)∧(v≠none→n≤y):=by
 unfold boundS at hb
 split at hb
 ·simp only [Option.some.injEq,Prod.mk.injEq,and_true] at hb
  subst hb;rw [VO] at hv;subst hv
  exact ⟨rfl,fun _=>rfl,fun h=>absurd rfl h⟩
 ·rename_i k i
  obtain ⟨z,rfl,hz⟩:=hv
  rw [VR] at hz;subst hz
  simp only [Option.some.injEq,Prod.mk.injEq,Bool.and_eq_true,decide_eq_true_eq] at hb
  obtain ⟨rfl,h1,h2⟩:=hb
  have:i≤y':=by omega
  exact ⟨by simp [boundR,Instr.sliceBound,asIntOf,h1,this],(fun h=>by cases h),fun _=>by omega⟩
 ·cases hb
theorem boundsS_sound {len cap cap' l h m:Nat} {lo hi mx:Option SV} {lo' hi' mx':Option Value} (hb:boundsS len cap lo hi mx=some (l,h,m,true)) (hl:VO e lo lo') (hh:VO e hi hi') (hm:VO e mx mx') (hcap:cap≤cap') (b:Bool):
  ∃m',(Instr.sliceBounds b len cap' lo' hi' mx').run P w= .ok (l,h,m') w∧(mx=none→m'=cap'∧m=cap)∧(mx≠none→m'=m∧m≤cap)∧(hi=none→h=len)∧(hi≠none→h≤m∧h≤m')∧(lo=none→l=0)∧(lo≠none→l≤h):=by
 unfold boundsS at hb
 split at hb
 ·rename_i m0 p0 hmx
  split at hb
  ·cases hb
  ·rename_i hne
   split at hb
   ·rename_i h0 q0 hhi
    split at hb
    ·rename_i l0 r0 hlo
     simp only [Option.some.injEq,Prod.mk.injEq,andT_iff] at hb
     obtain ⟨rfl,rfl,rfl,rfl,rfl,rfl⟩:=hb
     cases mx with
     |none=>
      rw [VO] at hm;subst hm
      simp only [boundS,Option.some.injEq,Prod.mk.injEq,and_true] at hmx
      subst hmx
      have a1:=bound_sound (P:=P) (w:=w) hhi hh hcap (if b then .sliceAcap else .sliceAlen)
      have a2:=bound_sound (P:=P) (w:=w) hlo hl (Nat.le_refl _) .sliceB
      refine ⟨cap',?_,fun _=>⟨rfl,rfl⟩,fun h=>absurd rfl h,a1.2.1,fun h=>⟨a1.2.2 h,Nat.le_trans (a1.2.2 h) hcap⟩,a2.2.1,a2.2.2⟩
      have b1:=a1.1;have b2:=a2.1
      unfold boundR at b1 b2
      unfold Instr.sliceBounds
      cases hi'<;>cases lo'<;>simp_all [Sem.run_bind]
     |some mv=>
      have a0:=bound_sound (P:=P) (w:=w) hmx hm hcap (if b then .slice3Acap else .slice3Alen)
      cases hi with
      |none=>exact absurd rfl (hne _ rfl)
      |some hv=>
       have a1:=bound_sound (P:=P) (w:=w) hhi hh (Nat.le_refl _) .slice3B
       have a2:=bound_sound (P:=P) (w:=w) hlo hl (Nat.le_refl _) .slice3C
       refine ⟨m0,?_,(fun h=>by cases h),fun _=>⟨rfl,a0.2.2 (by simp)⟩,(fun h=>by cases h),(fun h=>⟨a1.2.2 h,a1.2.2 h⟩),a2.2.1,a2.2.2⟩
       obtain ⟨mz,rfl,_⟩:=hm
       obtain ⟨hz,rfl,_⟩:=hh
       have b0:=a0.1;have b1:=a1.1;have b2:=a2.1
       unfold boundR at b0 b1 b2
       unfold Instr.sliceBounds
       cases lo'<;>simp_all [Sem.run_bind]
    ·cases hb
   ·cases hb
 ·cases hb
theorem moved (x:Addr) (m l z:Nat) (hx:x=⟨x.block,x.off,none⟩):∃a,(if m=l then x else x.add (l*z))=⟨x.block,a,none⟩∧(m≠l→a=x.off+l*z):=by
 by_cases h:m=l
 ·exact ⟨x.off,by rw [if_pos h];exact hx,fun g=>absurd h g⟩
 ·refine ⟨x.off+l*z,?_,fun _=>rfl⟩
  rw [if_neg h,hx,addr_add]
theorem winL_length {xs:List Int} {lo hi:Option SV} {l h:Nat} (hlo:lo=none→l=0) (hhi:hi=none→h=xs.length) (hle:h≤xs.length) (hlh:l≤h):(winL xs lo hi l h).length=h-l∧∀k,intsV k (winL xs lo hi l h)=((intsV k xs).drop l).take (h-l):=by
 unfold winL
 split
 ·have h1:=hlo rfl;have h2:=hhi rfl
  subst h1 h2
  exact ⟨by simp,fun k=>by rw [List.drop_zero,List.take_of_length_le (by rw [intsV_length];omega)]⟩
 ·have h2:=hhi rfl
  subst h2
  exact ⟨by simp,fun k=>by rw [←intsV_drop,List.take_of_length_le (by rw [intsV_length,List.length_drop];omega)]⟩
 ·have h1:=hlo rfl
  subst h1
  exact ⟨by simp;omega,fun k=>by rw [List.drop_zero,Nat.sub_zero, ←intsV_take]⟩
 ·exact ⟨by simp;omega,fun k=>by rw [←intsV_drop, ←intsV_take]⟩
theorem intsV_inj {k:IntKind}:∀{a b:List Int},intsV k a=intsV k b→a=b
 | [],[],_=>rfl
 | [],_::_,h=>by simp [intsV] at h
 |_::_,[],h=>by simp [intsV] at h
 |x::a,y::b,h=>by
  simp only [intsV,List.map_cons,List.cons.injEq,Value.int.injEq,true_and] at h
  rw [h.1,intsV_inj (k:=k) h.2]
theorem strL_length (s:ByteArray):(strL s).length=s.size:=by unfold strL;rw [List.length_map,Array.length_toList];rfl
theorem sliceS_sound (R:Rel B e h w) {t:TypeId} {x v:SV} {x':Value} {lo hi mx:Option SV} {lo' hi' mx':Option Value} (hs:sliceS P t h x lo hi mx=some (v,true)) (hx:VR e x x') (hl:VO e lo lo') (hh:VO e hi hi') (hm:VO e mx mx'):
  ∃v',(Instr.sliceAt t x' lo' hi' mx').run P w= .ok v' w∧VR e v v':=by
 unfold sliceS at hs
 split at hs
 ·
  rename_i n el b o i hu
  obtain ⟨p,hp,rfl⟩:=hx
  have fin:∀{z l u m:Nat} {ps:List SV},h[b]? =some (.b ps)→szOf P el=some z→boundsS n n lo hi mx=some (l,u,m,true)→o+i+n*z≤psize ps→
    ∃v',(Instr.sliceAt t (.pointer (some ⟨p.n,p.base+(o+i),none⟩)) lo' hi' mx').run P w= .ok v' w∧
     ∃a,v'= .slice (some ⟨p.n,a,none⟩) (u-l) (m-l)∧(m-l≠0→a=p.base+(o+i+l*z))∧u-l≤m-l∧(m-l≠0→o+i+l*z+(m-l)*z≤p.size)∧l≤u∧(lo=none→l=0):=fun {z l u m ps} hb hz hbd hfit=>by
   obtain ⟨c,tt,hc,hsz,hpsz,hpr⟩:=R.block hp hb
   obtain ⟨m',hr,f1,f2,f3,f4,f5,f6⟩:=boundsS_sound (P:=P) (w:=w) hbd hl hh hm (Nat.le_refl n) false
   have hm':m'=m∧m≤n:=by
    cases mx with
    |none=>have:=f1 rfl;omega
    |some _=>exact f2 (by simp)
   obtain ⟨rfl,hmn⟩:=hm'
   have hum:u≤m':=by
    cases hi with
    |none=>
     have:=f3 rfl
     cases mx with
     |none=>have:=f1 rfl;omega
     |some _=>unfold boundsS at hbd;split at hbd<;>simp at hbd
    |some _=>exact (f4 (by simp)).2
   have hlu:l≤u:=by
    cases lo with
    |none=>have:=f5 rfl;omega
    |some _=>exact f6 (by simp)
   obtain ⟨a,ha,ha'⟩:=moved ⟨p.n,p.base+(o+i),none⟩ m' l z rfl
   refine ⟨_,?_,a,rfl,fun hne=>by have:=ha' (by omega);simp only [] at this;omega,by omega,fun hne=>?_,hlu,f5⟩
   ·simp only [Instr.sliceAt,Sem.run_bind,run_underlying hu,Result.andThen_ok,Instr.sureAddr,Sem.run_pure,hr,szOf_run hz,ha]
   ·have h1:l*z+(m'-l)*z=m'*z:=by rw [←Nat.add_mul];congr 1;omega
    have h2:=Nat.mul_le_mul_right z hmn
    omega
  split at hs
  ·rename_i ps l u m pb hb hz hbd
   simp only [Option.some.injEq,Prod.mk.injEq,andT_iff,decide_eq_true_eq] at hs
   obtain ⟨rfl,rfl,hfit⟩:=hs
   obtain ⟨v',hr,a,rfl,h1,h2,h3,h4,h5⟩:=fin hb hz hbd (by omega)
   refine ⟨_,hr,.inr ⟨p,m-l,a,hp,?_,?_,?_,?_,?_,?_⟩⟩
   ·cases lo with
    |none=>have:=h5 rfl;subst this;simp
    |some _=>rfl
   ·intro hne
    have:=h1 hne
    cases lo with
    |none=>have:=h5 rfl;subst this;simp at*;omega
    |some _=>simp only [];omega
   ·cases lo with
    |none=>have:=h5 rfl;subst this;simp
    |some _=>exact Nat.le_refl _
   ·intro _
    cases lo with
    |none=>have:=h5 rfl;subst this;simp
    |some _=>rfl
   ·cases lo with
    |none=>have:=h5 rfl;subst this;simpa using h2
    |some _=>exact h2
   ·intro hne
    have:=h3 hne
    cases lo with
    |none=>have:=h5 rfl;subst this;simp at*;omega
    |some _=>simp only [];omega
  ·rename_i ps z l u m pb hne hb hz hbd
   split at hs
   ·simp only [Option.some.injEq,Prod.mk.injEq,andT_iff,decide_eq_true_eq] at hs
    obtain ⟨rfl,rfl,hfit⟩:=hs
    obtain ⟨v',hr,a,rfl,h1,h2,h3,h4,h5⟩:=fin hb hz hbd (by omega)
    exact ⟨_,hr,.inr ⟨p,m-l,a,hp,rfl,fun hne=>by have:=h1 hne;omega,Nat.le_refl _,fun _=>rfl,h2,fun hne=>by have:=h3 hne;omega⟩⟩
   ·cases hs
  ·cases hs
 ·
  rename_i el b o i z len cap ex wh hu
  split at hs
  ·rename_i n l u m pb hz hbd
   split at hs
   ·rename_i hnz
    subst hnz
    simp only [Option.some.injEq,Prod.mk.injEq] at hs
    obtain ⟨rfl,rfl⟩:=hs
    rcases hx with ⟨rfl,rfl,a,rfl⟩|⟨p,cap',a,hp,rfl,ha,hcap,hex,hlen,hfit⟩
    ·obtain ⟨m',hr,f1,f2,f3,f4,f5,f6⟩:=boundsS_sound (P:=P) (w:=w) hbd hl hh hm (Nat.le_refl 0) true
     have hm0:m'=0∧m=0:=by
      cases mx with
      |none=>have:=f1 rfl;omega
      |some _=>have:=f2 (by simp);omega
     have hu0:u=0:=by
      cases hi with
      |none=>exact f3 rfl
      |some _=>have:=f4 (by simp);omega
     have hl0:l=0:=by
      cases lo with
      |none=>exact f5 rfl
      |some _=>have:=f6 (by simp);omega
     obtain ⟨rfl,rfl⟩:=hm0
     subst hu0 hl0
     refine ⟨.slice a 0 0,?_,.inl ⟨by cases lo<;>rfl,by cases lo<;>rfl,a,rfl⟩⟩
     simp only [Instr.sliceAt,Instr.slice,Sem.run_bind,run_underlying hu,Result.andThen_ok,Sem.run_pure,hr,szOf_run hz,if_true,Nat.sub_self]
    ·obtain ⟨m',hr,f1,f2,f3,f4,f5,f6⟩:=boundsS_sound (P:=P) (w:=w) hbd hl hh hm hcap true
     have hm':m'≤cap'∧m≤m'∧((ex||mx.isSome)=true→m'=m):=by
      cases mx with
      |none=>obtain ⟨rfl,rfl⟩:=f1 rfl;exact ⟨Nat.le_refl _,hcap,fun h=>hex (by simpa using h)⟩
      |some _=>obtain ⟨rfl,g⟩:=f2 (by simp);exact ⟨by omega,Nat.le_refl _,fun _=>rfl⟩
     have hum:u≤m':=by
      cases hi with
      |none=>
       have:=f3 rfl
       cases mx with
       |none=>have:=f1 rfl;omega
       |some _=>unfold boundsS at hbd;split at hbd<;>simp at hbd
      |some _=>exact (f4 (by simp)).2
     have hlu:l≤u:=by
      cases lo with
      |none=>have:=f5 rfl;omega
      |some _=>exact f6 (by simp)
     obtain ⟨a2,ha2,ha3⟩:=moved ⟨p.n,a,none⟩ m' l n rfl
     refine ⟨.slice (some ⟨p.n,a2,none⟩) (u-l) (m'-l),?_,.inr ⟨p,m'-l,a2,hp,?_,?_,?_,?_,?_,?_⟩⟩
     ·simp only [Instr.sliceAt,Instr.slice,Sem.run_bind,run_underlying hu,Result.andThen_ok,Sem.run_pure,hr,szOf_run hz,Option.map_some]
      congr 2
      have:(if m'=l then some (⟨p.n,a,none⟩:Addr) else some ((⟨p.n,a,none⟩:Addr).add (l*n)))=some (if m'=l then ⟨p.n,a,none⟩ else (⟨p.n,a,none⟩:Addr).add (l*n)):=by split<;>rfl
      rw [this,ha2]
     ·cases lo with
      |none=>have:=f5 rfl;subst this;simp
      |some _=>rfl
     ·intro hne
      have h1:=ha3 (by omega)
      have h2:=ha (by omega)
      simp only [] at h1
      cases lo with
      |none=>have:=f5 rfl;subst this;simp at h1;simp only [];omega
      |some _=>simp only [];rw [Nat.add_mul];omega
     ·cases lo with
      |none=>have:=f5 rfl;subst this;simp only [];omega
      |some _=>simp only [];omega
     ·intro g
      have:=hm'.2.2 g
      subst this
      cases lo with
      |none=>have:=f5 rfl;subst this;simp
      |some _=>rfl
     ·cases lo with
      |none=>have:=f5 rfl;subst this;simp only [];omega
      |some _=>simp only [];omega
     ·intro hne
      have h1:=hfit (by omega)
      have h2:l*n+(m'-l)*n=m'*n:=by rw [←Nat.add_mul];congr 1;omega
      have h3:=Nat.mul_le_mul_right n hm'.1
      cases lo with
      |none=>have:=f5 rfl;subst this;simp at h2 ⊢;omega
      |some _=>simp only [];rw [Nat.add_mul];omega
   ·cases hs
  ·cases hs
 ·
  rename_i el f k xs hu
  split at hs
  ·rename_i l u m pb hz hbd
   simp only [Option.some.injEq,Prod.mk.injEq] at hs
   obtain ⟨rfl,rfl⟩:=hs
   have bnd:∀{cap:Nat} {m':Nat},(mx=none→m'=cap∧m=xs.length)∧(mx≠none→m'=m∧m≤xs.length)∧(hi=none→u=xs.length)∧(hi≠none→u≤m∧u≤m')∧(lo=none→l=0)∧(lo≠none→l≤u)→xs.length≤cap→u≤xs.length∧l≤u∧u≤m'∧m'≤cap:=fun {cap m'} ⟨f1,f2,f3,f4,f5,f6⟩ hcap=>by
    have hm':m'≤cap∧m≤xs.length:=by
     cases mx with
     |none=>have:=f1 rfl;omega
     |some _=>have:=f2 (by simp);omega
    have hu':u≤xs.length∧u≤m':=by
     cases hi with
     |none=>
      have:=f3 rfl
      cases mx with
      |none=>have:=f1 rfl;omega
      |some _=>unfold boundsS at hbd;split at hbd<;>simp at hbd
     |some _=>have:=f4 (by simp);omega
    have hlu:l≤u:=by
     cases lo with
     |none=>have:=f5 rfl;omega
     |some _=>exact f6 (by simp)
    omega
   rcases hx with ⟨rfl,a,cap,rfl,ha⟩|⟨n,o,cap,c,tt,fr,rfl,hzz,hfr,hq,hcap,hfit⟩
   ·obtain ⟨m',hr,g⟩:=boundsS_sound (P:=P) (w:=w) hbd hl hh hm (Nat.zero_le cap) true
    simp only [List.length_nil] at hr
    obtain ⟨h1,h2,h3,h4⟩:=bnd (cap:=cap) g (Nat.zero_le _)
    have hu0:u=0:=by simpa using h1
    subst hu0
    have hl0:l=0:=by omega
    subst hl0
    have hw:winL [] lo hi 0 0=[]:=by unfold winL;split<;>rfl
    rw [hw]
    refine ⟨.slice a 0 m',?_,.inl ⟨rfl,a,m',rfl,fun q=>by have:=ha q;omega⟩⟩
    have hmap:(if m'=0 then a else a.map (·.add (0*1)))=a:=by
     split
     ·rfl
     ·cases a with
      |none=>rfl
      |some a=>simp [Addr.add]
    simp only [Instr.sliceAt,Instr.slice,Sem.run_bind,run_underlying hu,Result.andThen_ok,Sem.run_pure,hr,szOf_run hz,hmap,Nat.sub_zero]
   ·obtain ⟨m',hr,g⟩:=boundsS_sound (P:=P) (w:=w) hbd hl hh hm hcap true
    obtain ⟨h1,h2,h3,h4⟩:=bnd (cap:=cap) g hcap
    obtain ⟨hwl,hwi⟩:=winL_length (xs:=xs) (lo:=lo) (hi:=hi) g.2.2.2.2.1 g.2.2.1 h1 h2
    obtain ⟨a2,ha2,ha3⟩:=moved ⟨n,o,none⟩ m' l 1 rfl
    refine ⟨.slice (some ⟨n,a2,none⟩) (u-l) (m'-l),?_,?_⟩
    ·simp only [Instr.sliceAt,Instr.slice,Sem.run_bind,run_underlying hu,Result.andThen_ok,Sem.run_pure,hr,szOf_run hz,Option.map_some]
     congr 2
     have:(if m'=l then some (⟨n,o,none⟩:Addr) else some ((⟨n,o,none⟩:Addr).add (l*1)))=some (if m'=l then ⟨n,o,none⟩ else (⟨n,o,none⟩:Addr).add (l*1)):=by split<;>rfl
     rw [this,ha2]
    ·by_cases hml:m'=l
     ·left
      have:u-l=0:=by omega
      exact ⟨List.length_eq_zero_iff.1 (by omega),_,_,by rw [this],fun q=>by cases q⟩
     ·right
      have h5:=ha3 hml
      simp only [Nat.mul_one] at h5
      subst h5
      refine ⟨n,o+l,m'-l,c,tt,fr,by rw [hwl],hzz,hfr,?_,by omega,by omega⟩
      rw [hwl,hwi k,hq,List.drop_take,List.take_take,List.drop_drop,Nat.min_eq_left (by omega)]
  ·cases hs
 ·
  rename_i xs hu
  obtain ⟨s,rfl,rfl⟩:=hx
  split at hs
  ·rename_i l u m pb hbd
   simp only [Option.some.injEq,Prod.mk.injEq] at hs
   obtain ⟨rfl,rfl⟩:=hs
   rw [VO] at hm;subst hm
   obtain ⟨m',hr,f1,f2,f3,f4,f5,f6⟩:=boundsS_sound (P:=P) (w:=w) hbd hl hh (show VO e none none from rfl) (Nat.le_refl _) false
   have hmm:=f1 rfl
   have hu':u≤(strL s).length:=by
    cases hi with
    |none=>have:=f3 rfl;omega
    |some _=>have:=f4 (by simp);omega
   have hlu:l≤u:=by
    cases lo with
    |none=>have:=f5 rfl;omega
    |some _=>exact f6 (by simp)
   obtain ⟨hwl,hwi⟩:=winL_length (xs:=strL s) (lo:=lo) (hi:=hi) f5 f3 hu' hlu
   refine ⟨.string (s.extract l u),?_,s.extract l u,rfl,?_⟩
   ·rw [strL_length] at hr
    simp only [Instr.sliceAt,Instr.slice,Sem.run_bind,run_underlying hu,Result.andThen_ok,Sem.run_pure,hr,Option.isSome_none,Bool.false_eq_true,if_false]
   ·have h1:=hwi .u8
    have h2:winL (strL s) lo hi l u=((strL s).drop l).take (u-l):=by
     rw [←intsV_drop, ←intsV_take] at h1
     exact intsV_inj h1
    rw [h2]
    simp [strL,List.extract_eq_take_drop,List.map_take,List.map_drop]
  ·cases hs
 ·
  rename_i el hu
  rw [VR] at hx;subst hx
  split at hs
  ·rename_i z l u m pb hz hbd
   simp only [Option.some.injEq,Prod.mk.injEq] at hs
   obtain ⟨rfl,rfl⟩:=hs
   obtain ⟨m',hr,f1,f2,f3,f4,f5,f6⟩:=boundsS_sound (P:=P) (w:=w) hbd hl hh hm (Nat.le_refl 0) true
   have hm0:m'=0:=by
    cases mx with
    |none=>have:=f1 rfl;omega
    |some _=>have:=f2 (by simp);omega
   have hu0:u=0:=by
    cases hi with
    |none=>exact f3 rfl
    |some _=>have:=f4 (by simp);omega
   have hl0:l=0:=by
    cases lo with
    |none=>exact f5 rfl
    |some _=>have:=f6 (by simp);omega
   subst hm0 hu0 hl0
   refine ⟨.slice none 0 0,?_,rfl⟩
   simp only [Instr.sliceAt,Instr.slice,Sem.run_bind,run_underlying hu,Result.andThen_ok,Sem.run_pure,hr,szOf_run hz,if_true,Nat.sub_self]
  ·cases hs
 ·
  rename_i n el f z len g ee o i hu
  split at hs
  ·rename_i k m xs p hz hq
   simp only [Option.some.injEq,Prod.mk.injEq,Bool.and_eq_true,decide_eq_true_eq] at hs
   obtain ⟨rfl,rfl,⟨⟨hlt,hfit⟩,rfl⟩,hxl⟩:=hs
   obtain ⟨b,o0,c,tt,fr,rfl,hzz,hall,hsz⟩:=hx
   obtain ⟨h3,h4⟩:=subI_sound hq (hall ee hlt)
   rw [VO] at hl hh hm
   subst hl hh hm
   obtain ⟨zs,h5,h6⟩:=PR.consInts.1 h3
   rw [PR] at h5;subst h5
   rw [List.append_nil,lst_eq hxl] at h6
   have hbd:boundsS m m none none none=some (0,m,m,true):=rfl
   obtain ⟨m',hr,f1,_⟩:=boundsS_sound (P:=P) (w:=w) hbd (show VO e none none from rfl) (show VO e none none from rfl) (show VO e none none from rfl) (Nat.le_refl m) false
   obtain ⟨rfl,_⟩:=f1 rfl
   obtain ⟨a,ha,ha'⟩:=moved ⟨b,o0+ee*z+(o+i),none⟩ m' 0 1 rfl
   refine ⟨.slice (some ⟨b,a,none⟩) m' m',?_,?_⟩
   ·simp only [Instr.sliceAt,Sem.run_bind,run_underlying hu,Result.andThen_ok,Instr.sureAddr,Sem.run_pure,hr,szOf_run hz,ha,Nat.sub_zero]
   ·by_cases h0:m'=0
    ·exact .inl ⟨List.length_eq_zero_iff.1 (by omega),some ⟨b,a,none⟩,m',by rw [h0],fun q=>by cases q⟩
    ·have hae:=ha' h0
     simp only [Nat.zero_mul,Nat.add_zero] at hae
     subst hae
     refine .inr ⟨b,_,m',c,tt,fr,by rw [hxl],hzz,by simp,?_,by omega,?_⟩
     ·rw [←h6,List.drop_take,List.take_take,List.drop_drop,hxl,Nat.min_eq_left (by omega)]
     ·have:=Nat.mul_le_mul_right z (show ee+1≤len by omega)
      rw [Nat.add_mul,Nat.one_mul] at this
      omega
  ·cases hs
 ·cases hs
theorem VR.rsl_sl {b z len cap:Nat} {ex wh:Bool} {v:Value} (h:VR e (.rsl b z len cap ex) v):VR e (.sl b 0 0 z len cap ex wh) v:=by
 rcases h with h|⟨p,c,a,h1,h2,h3,h4,h5,h6,h7⟩
 ·exact .inl h
 ·exact .inr ⟨p,c,a,h1,h2,fun q=>by rw [h3 q];simp,h4,h5,h6,fun q=>by have:=h7 q;simpa using this⟩
theorem VR.sl_rsl {b z len cap:Nat} {ex wh:Bool} {v:Value} (h:VR e (.sl b 0 0 z len cap ex wh) v):VR e (.rsl b z len cap ex) v:=by
 rcases h with h|⟨p,c,a,h1,h2,h3,h4,h5,h6,h7⟩
 ·exact .inl h
 ·exact .inr ⟨p,c,a,h1,h2,fun q=>by rw [h3 q];simp,h4,h5,h6,fun q=>by have:=h7 q;simpa using this⟩
theorem sliceR_sound (R:Rel B e h w) {t:TypeId} {x v:SV} {x':Value} {lo hi mx:Option SV} {lo' hi' mx':Option Value} (hs:sliceR P t h x lo hi mx=some (v,true)) (hx:VR e x x') (hl:VO e lo lo') (hh:VO e hi hi') (hm:VO e mx mx'):
  ∃v',(Instr.sliceAt t x' lo' hi' mx').run P w= .ok v' w∧VR e v v':=by
 unfold sliceR at hs
 split at hs
 ·split at hs
  ·split at hs
   ·rename_i p hs'
    simp only [Option.some.injEq,Prod.mk.injEq] at hs
    obtain ⟨rfl,rfl⟩:=hs
    obtain ⟨v',h1,h2⟩:=sliceS_sound (P:=P) R hs' (VR.rsl_sl hx) hl hh hm
    exact ⟨v',h1,VR.sl_rsl h2⟩
   ·cases hs
  ·cases hs
 ·exact sliceS_sound (P:=P) R hs hx hl hh hm
theorem zero3_inv {lo hi mx:Option Operand} (h:zero3 lo hi mx=true):lo=none∧hi=some (.const (.int .i64 0))∧mx=some (.const (.int .i64 0)):=by
 unfold zero3 at h
 split at h
 ·exact ⟨rfl,rfl,rfl⟩
 ·cases h
theorem slice0_run {t el:TypeId} {a:Option Addr} {n cap z:Nat} (hu:P.underlying t=some (.slice el)) (hz:szOf P el=some z):
  (Instr.sliceAt t (.slice a n cap) none (some (.int .i64 0)) (some (.int .i64 0))).run P w= .ok (.slice a 0 0) w:=by
 have h0:∀(y:Nat) (code:BoundsCode),(Instr.sliceBound (.int .i64 0) y code).run P w= .ok 0 w:=fun y code=>
  (bound_sound (P:=P) (w:=w) (d:=0) (y:=y) (y':=y) (v:=some (.int .i64 0)) (e:=⟨fun _=>none,fun _=>none,0,[],fun _=>none⟩) (n:=0) (by simp [boundS]) ⟨_,rfl,rfl⟩ (Nat.le_refl _) code).1
 have hb:(Instr.sliceBounds true n cap none (some (.int .i64 0)) (some (.int .i64 0))).run P w= .ok (0,0,0) w:=by
  unfold Instr.sliceBounds
  simp [Sem.run_bind,h0]
 simp only [Instr.sliceAt,Instr.slice,Sem.run_bind,run_underlying hu,Result.andThen_ok,Sem.run_pure,hb,szOf_run hz,if_true,Nat.sub_self]
theorem slice0_sound (R:Rel B e h w) {t:TypeId} {T:List (Option SV)} {lo hi mx:Option Operand} (hz3:zero3 lo hi mx=true) {x v:SV} {x':Value} {l u m:Option SV} {l' u' m':Option Value} (e1:evO T lo=some l) (e2:evO T hi=some u) (e3:evO T mx=some m) (hs:slice0 P t h x l u m=some (v,true)) (hx:VR e x x') (hl:VO e l l') (hh:VO e u u') (hm:VO e m m'):
  ∃v',(Instr.sliceAt t x' l' u' m').run P w= .ok v' w∧VR e v v':=by
 obtain ⟨rfl,rfl,rfl⟩:=zero3_inv hz3
 have go:∀a n cap,x'= .slice a n cap→∀el,P.underlying t=some (.slice el)→szOf P el=some 1→v= .sl 0 0 0 1 0 0 true false→∃v',(Instr.sliceAt t x' l' u' m').run P w= .ok v' w∧VR e v v':=fun a n cap hx' el hu hz hv=>by
  subst hx' hv
  obtain rfl:none=l:=Option.some.inj e1
  obtain rfl:some (SV.int .i64 0)=u:=Option.some.inj e2
  obtain rfl:some (SV.int .i64 0)=m:=Option.some.inj e3
  rw [VO] at hl
  obtain ⟨_,rfl,rfl⟩:=hh
  obtain ⟨_,rfl,rfl⟩:=hm
  subst hl
  exact ⟨_,slice0_run hu hz,.inl ⟨rfl,rfl,a,rfl⟩⟩
 cases x with
 |ro f k xs=>
  simp only [slice0] at hs
  split at hs
  ·rename_i el hu
   split at hs
   ·rename_i hz
    cases hs
    rcases hx with ⟨_,a,cap,rfl,_⟩|⟨_,_,cap,_,_,_,rfl,_⟩
    ·exact go _ _ _ rfl _ hu hz rfl
    ·exact go _ _ _ rfl _ hu hz rfl
   ·cases hs
  ·cases hs
 |nl y=>
  rw [VR] at hx;subst hx
  by_cases hy:∃a c,x'= .slice a 0 c
  ·obtain ⟨a,c,rfl⟩:=hy
   simp only [slice0] at hs
   split at hs
   ·rename_i el hu
    split at hs
    ·rename_i hz
     cases hs
     exact go _ _ _ rfl _ hu hz rfl
    ·cases hs
   ·cases hs
  ·have hs':sliceR P t h (.nl x') l u m=some (v,true):=by
    unfold slice0 at hs
    split at hs
    ·rename_i q;cases q
    ·rename_i q;cases q;exact absurd ⟨_,_,rfl⟩ hy
    ·rename_i q;cases q
    ·exact hs
   exact sliceR_sound (P:=P) R hs' (x:=.nl x') rfl hl hh hm
 |rol f z len g=>
  simp only [slice0] at hs
  split at hs
  ·rename_i el hu
   split at hs
   ·rename_i n hz
    split at hs
    ·cases hs
     obtain rfl:none=l:=Option.some.inj e1
     obtain rfl:some (SV.int .i64 0)=u:=Option.some.inj e2
     obtain rfl:some (SV.int .i64 0)=m:=Option.some.inj e3
     rw [VO] at hl
     obtain ⟨_,rfl,rfl⟩:=hh
     obtain ⟨_,rfl,rfl⟩:=hm
     subst hl
     rcases hx with ⟨_,a,cap,rfl,_⟩|⟨_,_,cap,_,_,_,rfl,_⟩
     ·exact ⟨_,slice0_run hu hz,.inl ⟨rfl,rfl,_,rfl⟩⟩
     ·exact ⟨_,slice0_run hu hz,.inl ⟨rfl,rfl,_,rfl⟩⟩
    ·cases hs
   ·cases hs
  ·cases hs
 |_=>exact sliceR_sound (P:=P) R (by simpa only [slice0] using hs) hx hl hh hm
theorem lenV_sound {x:SV} {x':Value} {n:Nat} (hx:VR e x x') (hn:lenV x=some n):(∃a c,x'= .slice a n c)∨∃s,x'= .string s∧s.size=n∧∃xs,x= .str xs:=by
 unfold lenV at hn
 split at hn
 ·cases hn
  rcases hx with ⟨h1,_,a,rfl⟩|⟨p,c,a,_,rfl,_⟩
  ·subst h1;exact .inl ⟨a,0,rfl⟩
  ·exact .inl ⟨_,_,rfl⟩
 ·cases hn
  rcases hx with ⟨rfl,a,c,rfl,_⟩|⟨n,o,cap,c,t,fr,rfl,_⟩
  ·exact .inl ⟨_,_,rfl⟩
  ·exact .inl ⟨_,_,rfl⟩
 ·cases hn
  rcases hx with ⟨rfl,a,c,rfl,_⟩|⟨n,o,cap,c,t,fr,rfl,_⟩
  ·exact .inl ⟨_,_,rfl⟩
  ·exact .inl ⟨_,_,rfl⟩
 ·cases hn
  rcases hx with ⟨rfl,a,c,rfl,_⟩|⟨n,o,cap,c,t,fr,rfl,_⟩
  ·exact .inl ⟨_,_,rfl⟩
  ·exact .inl ⟨_,_,rfl⟩
 ·cases hn
  rcases hx with ⟨h1,_,a,rfl⟩|⟨p,c,a,_,rfl,_⟩
  ·subst h1;exact .inl ⟨a,0,rfl⟩
  ·exact .inl ⟨_,_,rfl⟩
 ·cases hn
  obtain ⟨s,rfl,rfl⟩:=hx
  exact .inr ⟨s,rfl,by rw [strL_length],_,rfl⟩
 ·cases hn;rw [VR] at hx;subst hx;exact .inl ⟨_,_,rfl⟩
 ·cases hn
theorem lenS_sound {t ty:TypeId} {x v:SV} {x':Value} (hs:lenS P t x=some v) (hx:VR e x x'):∃v',(Builtin.len_ #[t] ty #[x']).run P w= .ok v' w∧VR e v v':=by
 unfold lenS at hs
 split at hs
 ·rename_i n el ps hu
  cases hs
  obtain ⟨ys,_,rfl⟩:=hx.agg_of
  exact ⟨_,by simp [Builtin.len_,run_underlying hu,goInt],rfl⟩
 ·rename_i el hu
  split at hs
  ·cases hs
  ·rename_i hne
   obtain ⟨n,hn,rfl⟩:=Option.map_eq_some_iff.1 hs
   rcases lenV_sound hx hn with ⟨a,c,rfl⟩|⟨s,_,_,xs,rfl⟩
   ·exact ⟨_,by simp [Builtin.len_,run_underlying hu,goInt],rfl⟩
   ·exact absurd rfl (hne xs)
 ·rename_i xs hu
  cases hs
  obtain ⟨s,rfl,rfl⟩:=hx
  exact ⟨.int .i64 s.size,by simp [Builtin.len_,run_underlying hu,goInt],by rw [strL_length];rfl⟩
 ·cases hs
theorem capS_sound {t ty:TypeId} {x v:SV} {x':Value} (hs:capS P t x=some v) (hx:VR e x x'):∃v',(Builtin.cap_ #[t] ty #[x']).run P w= .ok v' w∧VR e v v':=by
 unfold capS at hs
 split at hs
 ·rename_i el b o i z len cap wh hu
  cases hs
  rcases hx with ⟨_,rfl,a,rfl⟩|⟨p,cap',a,_,rfl,_,_,hex,_⟩
  ·exact ⟨_,by simp [Builtin.cap_,run_underlying hu,goInt],rfl⟩
  ·have:=hex rfl;subst this
   exact ⟨_,by simp [Builtin.cap_,run_underlying hu,goInt],rfl⟩
 ·rename_i el hu
  cases hs
  rw [VR] at hx;subst hx
  exact ⟨_,by simp [Builtin.cap_,run_underlying hu,goInt],rfl⟩
 ·cases hs
theorem minI_sound {k:IntKind}:∀{vs:List SV} {ys:List Value} {a n:Int},minI k a vs=some n→LR e vs ys→(ys.foldlM Builtin.min2 (.int k a)).run P w= .ok (.int k n) w
 | [],ys,a,n,h,g=>by
  simp only [minI,Option.some.injEq] at h;subst h
  rw [LR] at g;subst g
  simp
 |x::xs,_,a,n,h,⟨y,zs,hy,hz,q⟩=>by
  subst q
  unfold minI at h
  split at h
  ·rename_i h1;cases h1
  ·rename_i k' b vs h1
   cases h1
   split at h
   ·rename_i hk
    subst hk
    rw [VR] at hy;subst hy
    simp only [List.foldlM_cons,Sem.run_bind,Builtin.min2,Sem.run_pure,Result.andThen_ok]
    exact minI_sound h hz
   ·cases h
  ·cases h
end
end Go.Sy
