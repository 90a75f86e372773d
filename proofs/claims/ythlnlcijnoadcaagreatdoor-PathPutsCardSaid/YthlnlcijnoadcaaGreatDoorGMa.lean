/- This file defines symbolic values ('SV') and what they say of the machine's values. No conditions: definitions and their plain laws. -/
import Derived.Calls
import Derived.LoopN
import Derived.KernelRfl
import Derived.Below
import Derived.OrdersIn
import Derived.Laws.CopyRow
import Derived.Laws.StructEq
import Derived.RangeFuncLeaves
import Derived.LoopNIn
import Derived.Laws.Closers25b
import Derived.Laws.Append
namespace Go
universe u v w z
abbrev Me:=@decide_eq_true
abbrev No:=@Option.some.injEq.{u}
abbrev aaa:=@Int.toNat_natCast
abbrev aab:=@decide_eq_true_eq
abbrev aac:=@Bool.and_eq_true
abbrev aae:=@Prod.mk.injEq.{u,v}
abbrev aaf:=@Nat.le_refl
abbrev aag:=@Option.map_eq_some_iff.{u,v}
abbrev aah:=@List.all_eq_true.{u}
abbrev aai:=@List.getElem?_eq_getElem.{u}
abbrev aak:=@Go.Result.andThen_ok
abbrev aal:=@List.getElem?_eq_some_iff.{u}
abbrev aam:=@decide_eq_false
abbrev aan:=@List.mem_range
abbrev aao:=@List.take_of_length_le.{u}
abbrev aap:=@Nat.zero_le
abbrev aaq:=@Go.Sem.run_bind
abbrev aar:=@List.length_append.{u}
abbrev aas:=@Go.run_underlying
abbrev aau:=@List.getElem?_set_ne.{u}
abbrev aav:=@Array.getElem?_eq_some_iff.{u}
abbrev aaw:=@List.length_eq_zero_iff.{u}
abbrev aax:=@Go.Sem.run_pure
abbrev aay:=@List.getElem?_set_self.{u}
abbrev aaz:=@List.append_nil.{u}
abbrev aaA:=@Nat.eq_of_beq_eq_true
abbrev aaB:=@Int.eq_ofNat_of_zero_le
abbrev aaC:=@if_neg.{u}
abbrev aaD:=@Nat.mul_le_mul_right
abbrev aaE:=@List.append_assoc.{u}
abbrev aaF:=@Option.bind_eq_some_iff.{u,v}
abbrev aaG:=@List.mem_of_getElem?.{u}
abbrev aaH:=@Option.map_some.{u,v}
abbrev aaI:=@List.take_append_of_le_length.{u}
abbrev aaJ:=@List.getElem?_eq_none.{u}
abbrev aaM:=@if_pos.{u}
abbrev aaN:=@List.length_drop.{u}
abbrev aaO:=@List.getElem?_map.{u,v}
abbrev aaP:=@Nat.le_of_ble_eq_true
abbrev aaQ:=@List.getElem?_drop.{u}
abbrev aaR:=@List.getElem?_append_left.{u}
abbrev aaS:=@beq_iff_eq.{u}
abbrev aaT:=@List.any_eq_true.{u}
abbrev aaU:=@List.length_take.{u}
abbrev aaV:=@List.getElem?_append_right.{u}
abbrev aaY:=@Bool.not_eq_true'
abbrev aa2:=@List.getElem?_cons_zero.{u}
abbrev aa4:=@List.drop_drop.{u}
abbrev aa8:=@List.getElem?_take.{u}
abbrev aa9:=@List.getElem?_take_of_lt.{u}
abbrev aba:=@List.getD_eq_getElem?_getD.{u}
abbrev abb:=@Bool.true_and
abbrev abf:=@List.ext_getElem?.{u}
abbrev abh:=@List.drop_append_of_le_length.{u}
abbrev abi:=@Nat.le_trans
abbrev abr:=@List.take_append_drop.{u}
abbrev abB:=@of_decide_eq_true
abbrev abC:=@Nat.zero_add
abbrev abJ:=@Nat.add_mul
abbrev abS:=@Bool.and_eq_true_iff
abbrev ab6:=@Nat.min_eq_left
abbrev acf:=@Nat.lt_or_ge
abbrev acC:=@Bool.and_false
abbrev acD:=@List.getElem?_cons_succ.{u}
abbrev ac7:=@decide_eq_false_iff_not
abbrev adi:=@List.drop_take.{u}
abbrev adv:=@List.getElem?_toArray.{u}
abbrev adw:=@Bool.false_and
abbrev adA:=@List.take_length.{u}
abbrev adB:=@List.drop_eq_nil_of_le.{u}
abbrev adD:=@List.take_take.{u}
abbrev adN:=@List.drop_zero.{u}
abbrev adO:=@Nat.ble_eq_true_of_le
abbrev adP:=@Nat.add_sub_cancel_left
abbrev adQ:=@Bool.false_eq_true
abbrev adR:=@Array.length_toList.{u}
abbrev adS:=@Bool.or_eq_true
abbrev adV:=@Array.ext'.{u}
abbrev adX:=@congrArg.{u,v}
abbrev adY:=@List.length_cons.{u}
abbrev adZ:=@Bool.or_eq_false_iff
abbrev ad2:=@List.mem_cons.{u}
abbrev ad3:=@Nat.mul_one
abbrev ael:=@Option.some.inj.{u}
abbrev aep:=@List.mem_iff_getElem?.{u}
abbrev aeF:=@Bool.not_false
abbrev aeJ:=@and_true
abbrev aeL:=@cond_true.{u}
end Go
noncomputable section
open Go.IntKind (i64 u8 u64 u32)
set_option linter.all false
namespace Go.Sy
open Go
def uQ {α:Type} (v:α):α:=Classical.choose (⟨v,rfl⟩:∃z,z=v)
theorem fh {α:Type} (v:α):uQ v=v:=Classical.choose_spec (⟨v,rfl⟩:∃z,z=v)
structure Pl where
 n:Nat
 base:Nat
 size:Nat
inductive SV where
 |bool (b:Bool)
 |int (k:IntKind) (n:Int)
 |str (s:List Int)
 |nl (v:Value)
 |ints (k:IntKind) (n:Nat) (xs:List Int)
 |ptr (b o i:Nat)
 |sl (b o i z len cap:Nat) (ex wh:Bool)
 |ro (f:Bool) (k:IntKind) (xs:List Int)
 |gf (f:Bool) (xss:List (List Int))
 |aJ (f:Bool) (z len:Nat) (g:Nat->List SV)
 |oF (k:IntKind) (xs:List Int) (i:Nat)
 |rE (f:Bool) (xss:List (List Int)) (i:Nat)
 |lX (f:Bool) (z len:Nat) (g:Nat->List SV) (e o i:Nat)
 |agg (ps:List SV)
 |bC (vs:List SV)
 |iface (t:TypeId) (v:SV)
 |fn (f:Fn) (a b:List SV)
 |rows (z n:Nat) (g:Nat->List SV)
 |bK (b z len cap:Nat) (ex:Bool)
 |dm (b z e o i:Nat)
 |qQ (b:Nat)
 |dU (g i:Nat)
structure Env where
 r:Nat->Option Pl
 z:Nat->Option (Array Value×TypeId×(Nat×Nat))
 n0:Nat
 m:List Nat
 y:Nat->Option Nat
def aU (k:IntKind) (xs:List Int):List Value:=xs.map (Value.int k)
def cG (n:Nat) (l:List Int):List Int:=(List.range n).map λi=>l.getD i 0
def gR (s:ByteArray):List Int:=s.data.toList.map λb=>(b.toNat:Int)
def lV (e:Env) (f:Bool) (k:IntKind) (xs:List Int) (v:Value):Prop:=
 (xs=[]/\∃a cap,v= .slice a 0 cap/\(a=none->cap=0))\/
 ∃n o cap c t fr,v= .slice (some ⟨n,o,none⟩) xs.length cap/\e.z n=some (c,t,fr)/\(f=true->e.n0<=n)/\
  aU k xs=(c.toList.drop o).take xs.length/\xs.length<=cap/\o+cap<=c.size
def BF (e:Env) (f:Bool) (xss:List (List Int)) (v:Value):Prop:=
 (xss=[]/\∃a cap,v= .slice a 0 cap/\(a=none->cap=0))\/
 ∃n o cap c t fr,v= .slice (some ⟨n,o,none⟩) xss.length cap/\e.z n=some (c,t,fr)/\(f=true->e.n0<=n)/\
  (∀(i:Nat) (xs:List Int),xss[i]? =some xs->∃y,c.toList[o+i]? =some y/\lV e f .u8 xs y)/\xss.length<=cap/\o+cap<=c.size
mutual
def VR:Env->SV->Value->Prop
 |_,.bool b,v'=>v'= .bool b
 |_,.int k n,v'=>v'= .int k n
 |_,.str xs,v'=>∃s,v'= .string s/\xs=gR s
 |_,.nl v,v'=>v'=v
 |_,.ints _ _ _,_=>False
 |e,.ptr b o i,v'=>∃p,e.r b=some p/\v'= .pointer (some ⟨p.n,p.base+(o+i),none⟩)
 |e,.sl b o i z len cap ex _,v'=>
  (len=0/\cap=0/\∃a,v'= .slice a 0 0)\/
  ∃p cap' a,e.r b=some p/\v'= .slice (some ⟨p.n,a,none⟩) len cap'/\(cap'≠0->a=p.base+(o+i*z))/\cap<=cap'/\(ex=true->cap'=cap)/\len<=cap'/\(cap'≠0->o+i*z+cap'*z<=p.size)
 |e,.ro f k xs,v'=>lV e f k xs v'
 |e,.gf f xss,v'=>BF e f xss v'
 |e,.aJ f z len g,v'=>
  (len=0/\∃a cap,v'= .slice a 0 cap/\(a=none->cap=0))\/
  ∃n o cap c t fr,v'= .slice (some ⟨n,o,none⟩) len cap/\e.z n=some (c,t,fr)/\(f=true->e.n0<=n)/\
   (∀i,i<len->PR ⟨λ_=>none,e.z,e.n0,[],λ_=>none⟩ (g i) ((c.toList.drop (o+i*z)).take z))/\len<=cap/\o+cap*z<=c.size
 |e,.oF k xs i,v'=>∃n o c t fr,v'= .pointer (some ⟨n,o+i,none⟩)/\e.z n=some (c,t,fr)/\aU k xs=(c.toList.drop o).take xs.length
 |e,.rE f xss i,v'=>∃n o c t fr,v'= .pointer (some ⟨n,o+i,none⟩)/\e.z n=some (c,t,fr)/\
   (∀(i:Nat) (xs:List Int),xss[i]? =some xs->∃y,c.toList[o+i]? =some y/\lV e f .u8 xs y)
 |e,.lX _ z len g el o i,v'=>∃n o0 c t fr,v'= .pointer (some ⟨n,o0+el*z+(o+i),none⟩)/\e.z n=some (c,t,fr)/\
   (∀i,i<len->PR ⟨λ_=>none,e.z,e.n0,[],λ_=>none⟩ (g i) ((c.toList.drop (o0+i*z)).take z))/\o0+len*z<=c.size
 |e,.agg ps,v'=>∃ys,PR e ps ys/\v'= .agg ⟨ys⟩
 |e,.bC vs,v'=>∃ys,LR e vs ys/\v'= .tuple ⟨ys⟩
 |e,.iface t x,v'=>∃y,VR e x y/\v'= .iface t y
 |e,.fn f a b,v'=>∃ys us,LR e a ys/\LR e b us/\v'= .func f ⟨ys⟩ ⟨us⟩
 |_,.rows _ _ _,_=>False
 |e,.bK b z len cap ex,v'=>
  (len=0/\cap=0/\∃a,v'= .slice a 0 0)\/
  ∃p cap' a,e.r b=some p/\v'= .slice (some ⟨p.n,a,none⟩) len cap'/\(cap'≠0->a=p.base)/\cap<=cap'/\(ex=true->cap'=cap)/\len<=cap'/\(cap'≠0->cap'*z<=p.size)
 |e,.dm b z el o i,v'=>∃p,e.r b=some p/\v'= .pointer (some ⟨p.n,p.base+(el*z+(o+i)),none⟩)
 |e,.qQ b,v'=>∃p,e.r b=some p/\v'= .map (some p.n)
 |_,.dU g i,v'=>v'= .pointer (some ⟨g,i,none⟩)
def LR:Env->List SV->List Value->Prop
 |_,[],ys=>ys=[]
 |e,x::xs,ys=>∃y zs,VR e x y/\LR e xs zs/\ys=y::zs
def PR:Env->List SV->List Value->Prop
 |_,[],ys=>ys=[]
 |e,x::xs,ys=>match x with
  | .ints k n l=>∃zs,PR e xs zs/\ys=aU k (cG n l)++zs
  | .rows z n g=>∃us zs,us.length=n*z/\(∀i,i<n->PR ⟨λ_=>none,e.z,e.n0,[],λ_=>none⟩ (g i) ((us.drop (i*z)).take z))/\PR e xs zs/\ys=us++zs
  |x=>∃y zs,VR e x y/\PR e xs zs/\ys=y::zs
end
theorem bN {n:Nat} {l:List Int} (h:l.length=n):cG n l=l:=by
 apply abf
 intro i
 unfold cG
 rw [aaO]
 rcases acf i n with hi|hi
 ·rw [List.getElem?_range hi]
  simp [List.getD,aai (show i<l.length by omega)]
 ·rw [aaJ (by simpa using hi),aaJ (by omega)];rfl
theorem aT (n:Nat) (l:List Int):(cG n l).length=n:=by simp [cG]
theorem iC {n i:Nat} (l:List Int) (h:i<n):(cG n l)[i]? =some (l.getD i 0):=by
 unfold cG;rw [aaO,List.getElem?_range h];rfl
theorem sq (n o:Nat) (l:List Int):cG (n-o) (l.drop o)=(cG n l).drop o:=by
 apply abf
 intro i
 rw [aaQ]
 rcases acf i (n-o) with hi|hi
 ·rw [iC _ hi,iC _ (by omega)]
  simp [List.getD,aaQ]
 ·rw [aaJ (by rw [aT];exact hi),aaJ (by rw [aT];omega)]
theorem lY {n m:Nat} (h:m<=n) (l:List Int):cG m (l.take m)=(cG n l).take m:=by
 apply abf
 intro i
 rw [aa8]
 rcases acf i m with hi|hi
 ·rw [iC _ hi,aaM hi,iC _ (by omega)]
  simp [List.getD,hi]
 ·rw [aaJ (by rw [aT];exact hi),aaC (by omega)]
theorem Fb (n:Nat) (l:List Int):cG n (cG n l)=cG n l:=bN (aT n l)
theorem aF {k:IntKind} {xs:List Int}:(aU k xs).length=xs.length:=by simp [aU]
theorem C9 {k:IntKind} {xs:List Int} {o:Nat} (h:o<xs.length):(aU k xs)[o]? =some (.int k (xs.getD o 0)):=by
 simp [aU,List.getD,aai h]
theorem fL (k:IntKind) (a b:List Int):aU k (a++b)=aU k a++aU k b:=by simp [aU]
theorem cw (k:IntKind) (n:Nat) (a:List Int):aU k (a.take n)=(aU k a).take n:=by simp [aU,List.map_take]
theorem dX (k:IntKind) (n:Nat) (a:List Int):aU k (a.drop n)=(aU k a).drop n:=by simp [aU,List.map_drop]
mutual
def jm (s:Nat->Nat):SV->SV
 | .ptr b o i=>.ptr (s b) o i
 | .sl b o i z len cap ex wh=>.sl (s b) o i z len cap ex wh
 | .agg ps=>.agg (fM s ps)
 | .bC vs=>.bC (fM s vs)
 | .iface t x=>.iface t (jm s x)
 | .fn f a b=>.fn f (fM s a) (fM s b)
 | .bK b z len cap ex=>.bK (s b) z len cap ex
 | .dm b z e o i=>.dm (s b) z e o i
 | .qQ b=>.qQ (s b)
 |v=>v
def fM (s:Nat->Nat):List SV->List SV
 | []=>[]
 |x::xs=>jm s x::fM s xs
end
mutual
def uses (j:Nat):SV->Bool
 | .ptr b _ _=>b==j
 | .sl b _ _ _ _ _ _ _=>b==j
 | .agg ps=>c6 j ps
 | .bC vs=>c6 j vs
 | .iface _ x=>uses j x
 | .fn _ a b=>c6 j a||c6 j b
 | .bK b _ _ _ _=>b==j
 | .dm b _ _ _ _=>b==j
 | .qQ b=>b==j
 |_=>false
def c6 (j:Nat):List SV->Bool
 | []=>false
 |x::xs=>uses j x||c6 j xs
end
mutual
def eu:SV->Bool
 | .ptr _ _ _=>false
 | .sl _ _ _ _ _ _ _ _=>false
 | .bK _ _ _ _ _=>false
 | .dm _ _ _ _ _=>false
 | .qQ _=>false
 | .agg ps=>cO ps
 | .bC vs=>cO vs
 | .iface _ x=>eu x
 | .fn _ a b=>cO a&&cO b
 |_=>true
def cO:List SV->Bool
 | []=>true
 |x::xs=>eu x&&cO xs
end
mutual
theorem kF {j:Nat}:∀{v:SV},eu v=true->uses j v=false
 | .ptr _ _ _,h=>by simp [eu] at h
 | .sl _ _ _ _ _ _ _ _,h=>by simp [eu] at h
 | .bK _ _ _ _ _,h=>by simp [eu] at h
 | .dm _ _ _ _ _,h=>by simp [eu] at h
 | .qQ _,h=>by simp [eu] at h
 | .agg ps,h=>by simpa only [uses] using dG (j:=j) (by simpa only [eu] using h)
 | .bC ps,h=>by simpa only [uses] using dG (j:=j) (by simpa only [eu] using h)
 | .iface _ x,h=>by simpa only [uses] using kF (j:=j) (v:=x) (by simpa only [eu] using h)
 | .fn _ a b,h=>by
  simp only [eu,aac] at h
  simp only [uses,adZ]
  exact ⟨dG h.1,dG h.2⟩
 | .bool _,_=>rfl
 | .int _ _,_=>rfl
 | .str _,_=>rfl
 | .nl _,_=>rfl
 | .ints _ _ _,_=>rfl
 | .ro _ _ _,_=>rfl
 | .gf _ _,_=>rfl
 | .aJ _ _ _ _,_=>rfl
 | .oF _ _ _,_=>rfl
 | .rE _ _ _,_=>rfl
 | .lX _ _ _ _ _ _ _,_=>rfl
 | .rows _ _ _,_=>rfl
 | .dU _ _,_=>rfl
theorem dG {j:Nat}:∀{vs:List SV},cO vs=true->c6 j vs=false
 | [],_=>rfl
 |x::xs,h=>by
  simp only [cO,aac] at h
  simp only [c6,adZ]
  exact ⟨kF h.1,dG h.2⟩
end
theorem lV.mono {e e':Env} (hz:∀n o,e.z n=some o->e'.z n=some o) (hn:e'.n0<=e.n0) {f:Bool} {k:IntKind} {xs:List Int} {v:Value} (h:lV e f k xs v):lV e' f k xs v:=by
 rcases h with h|⟨n,o,cap,c,t,fr,h1,h2,h3,h4,h5,h6⟩
 ·exact .inl h
 ·exact .inr ⟨n,o,cap,c,t,fr,h1,hz _ _ h2,λq=>abi hn (h3 q),h4,h5,h6⟩
theorem BF.mono {e e':Env} (hz:∀n o,e.z n=some o->e'.z n=some o) (hn:e'.n0<=e.n0) {f:Bool} {xss:List (List Int)} {v:Value} (h:BF e f xss v):BF e' f xss v:=by
 rcases h with h|⟨n,o,cap,c,t,fr,h1,h2,h3,h4,h5,h6⟩
 ·exact .inl h
 ·exact .inr ⟨n,o,cap,c,t,fr,h1,hz _ _ h2,λq=>abi hn (h3 q),λi xs hi=>(h4 i xs hi).imp λy ⟨a,b⟩=>⟨a,b.mono hz hn⟩,h5,h6⟩
mutual
theorem VR.mono' {e e':Env} (hz:∀n o,e.z n=some o->e'.z n=some o) (hn:e'.n0<=e.n0):∀(v:SV) (v':Value),(∀j p,uses j v=true->e.r j=some p->e'.r j=some p)->VR e v v'->VR e' v v'
 | .bool _,_,_,h=>h
 | .int _ _,_,_,h=>h
 | .str _,_,_,h=>h
 | .nl _,_,_,h=>h
 | .ints _ _ _,_,_,h=>h
 | .ptr b _ _,_,g,⟨p,h1,h2⟩=>⟨p,g b p (by simp [uses]) h1,h2⟩
 | .sl b _ _ _ _ _ _ _,_,g,h=>by
  rcases h with h|⟨p,c,a,h1,h2⟩
  ·exact .inl h
  ·exact .inr ⟨p,c,a,g b p (by simp [uses]) h1,h2⟩
 | .ro _ _ _,_,_,h=>lV.mono hz hn h
 | .gf _ _,_,_,h=>BF.mono hz hn h
 | .aJ f z len g,_,_,h=>by
  rcases h with h|⟨n,o,cap,c,t,fr,h1,h2,h3,h4,h5,h6⟩
  ·exact .inl h
  ·exact .inr ⟨n,o,cap,c,t,fr,h1,hz _ _ h2,λq=>abi hn (h3 q),λi hi=>PR.mono' (e:=⟨λ_=>none,e.z,e.n0,[],λ_=>none⟩) (e':=⟨λ_=>none,e'.z,e'.n0,[],λ_=>none⟩) hz hn (g i) _ (λ_ _ _ q=>by cases q) (h4 i hi),h5,h6⟩
 | .oF _ _ _,_,_,⟨n,o,c,t,fr,h1,h2,h3⟩=>⟨n,o,c,t,fr,h1,hz _ _ h2,h3⟩
 | .rE _ _ _,_,_,⟨n,o,c,t,fr,h1,h2,h3⟩=>⟨n,o,c,t,fr,h1,hz _ _ h2,λi xs hi=>(h3 i xs hi).imp λy ⟨a,b⟩=>⟨a,b.mono hz hn⟩⟩
 | .lX _ z len g el o i,_,_,⟨n,o0,c,t,fr,h1,h2,h3,h4⟩=>
  ⟨n,o0,c,t,fr,h1,hz _ _ h2,λi hi=>PR.mono' (e:=⟨λ_=>none,e.z,e.n0,[],λ_=>none⟩) (e':=⟨λ_=>none,e'.z,e'.n0,[],λ_=>none⟩) hz hn (g i) _ (λ_ _ _ q=>by cases q) (h3 i hi),h4⟩
 | .agg ps,_,g,⟨ys,h1,h2⟩=>⟨ys,PR.mono' hz hn ps ys (λj p q=>g j p (by simpa [uses] using q)) h1,h2⟩
 | .bC vs,_,g,⟨ys,h1,h2⟩=>⟨ys,LR.mono' hz hn vs ys (λj p q=>g j p (by simpa [uses] using q)) h1,h2⟩
 | .iface _ x,_,g,⟨y,h1,h2⟩=>⟨y,VR.mono' hz hn x y (λj p q=>g j p (by simpa [uses] using q)) h1,h2⟩
 | .fn _ a b,_,g,⟨ys,us,h1,h2,h3⟩=>
  ⟨ys,us,LR.mono' hz hn a ys (λj p q=>g j p (by simp [uses,q])) h1,LR.mono' hz hn b us (λj p q=>g j p (by simp [uses,q])) h2,h3⟩
 | .rows _ _ _,_,_,h=>h
 | .bK b _ _ _ _,_,g,h=>by
  rcases h with h|⟨p,c,a,h1,h2⟩
  ·exact .inl h
  ·exact .inr ⟨p,c,a,g b p (by simp [uses]) h1,h2⟩
 | .dm b _ _ _ _,_,g,⟨p,h1,h2⟩=>⟨p,g b p (by simp [uses]) h1,h2⟩
 | .qQ b,_,g,⟨p,h1,h2⟩=>⟨p,g b p (by simp [uses]) h1,h2⟩
 | .dU _ _,_,_,h=>h
theorem LR.mono' {e e':Env} (hz:∀n o,e.z n=some o->e'.z n=some o) (hn:e'.n0<=e.n0):∀(vs:List SV) (ys:List Value),(∀j p,c6 j vs=true->e.r j=some p->e'.r j=some p)->LR e vs ys->LR e' vs ys
 | [],_,_,h=>h
 |x::xs,_,g,⟨y,zs,h1,h2,h3⟩=>⟨y,zs,VR.mono' hz hn x y (λj p q=>g j p (by simp [c6,q])) h1,LR.mono' hz hn xs zs (λj p q=>g j p (by simp [c6,q])) h2,h3⟩
theorem PR.mono' {e e':Env} (hz:∀n o,e.z n=some o->e'.z n=some o) (hn:e'.n0<=e.n0):∀(vs:List SV) (ys:List Value),(∀j p,c6 j vs=true->e.r j=some p->e'.r j=some p)->PR e vs ys->PR e' vs ys
 | [],_,_,h=>h
 |x::xs,ys,g,h=>by
  have ih:=λzs=>PR.mono' hz hn xs zs (λj p q=>g j p (by simp [c6,q]))
  have iv:=λy=>VR.mono' hz hn x y (λj p q=>g j p (by simp [c6,q]))
  cases x<;>first
   |(obtain ⟨zs,h1,h2⟩:=h;exact ⟨zs,ih zs h1,h2⟩)
   |(rename_i z n gg;obtain ⟨us,zs,h0,h1,h2,h3⟩:=h;exact ⟨us,zs,h0,λi hi=>PR.mono' (e:=⟨λ_=>none,e.z,e.n0,[],λ_=>none⟩) (e':=⟨λ_=>none,e'.z,e'.n0,[],λ_=>none⟩) hz hn (gg i) _ (λ_ _ _ q=>by cases q) (h1 i hi),ih zs h2,h3⟩)
   |(obtain ⟨y,zs,h1,h2,h3⟩:=h;exact ⟨y,zs,iv y h1,ih zs h2,h3⟩)
end
mutual
theorem VR.jm {s:Nat->Nat} {e e':Env} (hz:∀n o,e.z n=some o->e'.z n=some o) (hn:e'.n0<=e.n0):∀(v:SV) (v':Value),(∀j p,uses j v=true->e.r j=some p->e'.r (s j)=some p)->VR e v v'->VR e' (Sy.jm s v) v'
 | .bool _,_,_,h=>h
 | .int _ _,_,_,h=>h
 | .str _,_,_,h=>h
 | .nl _,_,_,h=>h
 | .ints _ _ _,_,_,h=>h
 | .ptr b _ _,_,g,⟨p,h1,h2⟩=>⟨p,g b p (by simp [uses]) h1,h2⟩
 | .sl b _ _ _ _ _ _ _,_,g,h=>by
  rcases h with h|⟨p,c,a,h1,h2⟩
  ·exact .inl h
  ·exact .inr ⟨p,c,a,g b p (by simp [uses]) h1,h2⟩
 | .ro f k xs,v',_,h=>VR.mono' hz hn (.ro f k xs) v' (λ_ _ q=>by cases q) h
 | .gf f xss,v',_,h=>VR.mono' hz hn (.gf f xss) v' (λ_ _ q=>by cases q) h
 | .aJ f z len g,v',_,h=>VR.mono' hz hn (.aJ f z len g) v' (λ_ _ q=>by cases q) h
 | .oF k xs i,v',_,h=>VR.mono' hz hn (.oF k xs i) v' (λ_ _ q=>by cases q) h
 | .rE f xss i,v',_,h=>VR.mono' hz hn (.rE f xss i) v' (λ_ _ q=>by cases q) h
 | .lX f z len g a b c,v',_,h=>VR.mono' hz hn (.lX f z len g a b c) v' (λ_ _ q=>by cases q) h
 | .agg ps,_,g,⟨ys,h1,h2⟩=>⟨ys,PR.jm hz hn ps ys (λj p q=>g j p (by simpa [uses] using q)) h1,h2⟩
 | .bC vs,_,g,⟨ys,h1,h2⟩=>⟨ys,LR.jm hz hn vs ys (λj p q=>g j p (by simpa [uses] using q)) h1,h2⟩
 | .iface _ x,_,g,⟨y,h1,h2⟩=>⟨y,VR.jm hz hn x y (λj p q=>g j p (by simpa [uses] using q)) h1,h2⟩
 | .fn _ a b,_,g,⟨ys,us,h1,h2,h3⟩=>
  ⟨ys,us,LR.jm hz hn a ys (λj p q=>g j p (by simp [uses,q])) h1,LR.jm hz hn b us (λj p q=>g j p (by simp [uses,q])) h2,h3⟩
 | .rows _ _ _,_,_,h=>h
 | .bK b _ _ _ _,_,g,h=>by
  rcases h with h|⟨p,c,a,h1,h2⟩
  ·exact .inl h
  ·exact .inr ⟨p,c,a,g b p (by simp [uses]) h1,h2⟩
 | .dm b _ _ _ _,_,g,⟨p,h1,h2⟩=>⟨p,g b p (by simp [uses]) h1,h2⟩
 | .qQ b,_,g,⟨p,h1,h2⟩=>⟨p,g b p (by simp [uses]) h1,h2⟩
 | .dU _ _,_,_,h=>h
theorem LR.jm {s:Nat->Nat} {e e':Env} (hz:∀n o,e.z n=some o->e'.z n=some o) (hn:e'.n0<=e.n0):∀(vs:List SV) (ys:List Value),(∀j p,c6 j vs=true->e.r j=some p->e'.r (s j)=some p)->LR e vs ys->LR e' (fM s vs) ys
 | [],_,_,h=>h
 |x::xs,_,g,⟨y,zs,h1,h2,h3⟩=>⟨y,zs,VR.jm hz hn x y (λj p q=>g j p (by simp [c6,q])) h1,LR.jm hz hn xs zs (λj p q=>g j p (by simp [c6,q])) h2,h3⟩
theorem PR.jm {s:Nat->Nat} {e e':Env} (hz:∀n o,e.z n=some o->e'.z n=some o) (hn:e'.n0<=e.n0):∀(vs:List SV) (ys:List Value),(∀j p,c6 j vs=true->e.r j=some p->e'.r (s j)=some p)->PR e vs ys->PR e' (fM s vs) ys
 | [],_,_,h=>h
 |x::xs,ys,g,h=>by
  have ih:=λzs=>PR.jm hz hn xs zs (λj p q=>g j p (by simp [c6,q]))
  have iv:=λy=>VR.jm hz hn x y (λj p q=>g j p (by simp [c6,q]))
  cases x<;>first
   |(obtain ⟨zs,h1,h2⟩:=h;exact ⟨zs,ih zs h1,h2⟩)
   |(rename_i z n gg;obtain ⟨us,zs,h0,h1,h2,h3⟩:=h;exact ⟨us,zs,h0,λi hi=>PR.mono' (e:=⟨λ_=>none,e.z,e.n0,[],λ_=>none⟩) (e':=⟨λ_=>none,e'.z,e'.n0,[],λ_=>none⟩) hz hn (gg i) _ (λ_ _ _ q=>by cases q) (h1 i hi),ih zs h2,h3⟩)
   |(obtain ⟨y,zs,h1,h2,h3⟩:=h;exact ⟨y,zs,iv y h1,ih zs h2,h3⟩)
end
structure Env.Le (e e':Env):Prop where
 r:∀j p,e.r j=some p->e'.r j=some p
 z:∀n o,e.z n=some o->e'.z n=some o
 n0:e'.n0<=e.n0
theorem Env.Le.refl (e:Env):Env.Le e e:=⟨λ_ _ h=>h,λ_ _ h=>h,aaf _⟩
theorem Env.Le.trans {a b c:Env} (h:Env.Le a b) (g:Env.Le b c):Env.Le a c:=⟨λj p q=>g.r j p (h.r j p q),λn o q=>g.z n o (h.z n o q),abi g.n0 h.n0⟩
theorem VR.mono {e e':Env} (h:Env.Le e e') {v:SV} {v':Value} (g:VR e v v'):VR e' v v':=VR.mono' h.z h.n0 v v' (λj p _ q=>h.r j p q) g
theorem LR.mono {e e':Env} (h:Env.Le e e') {v:List SV} {v':List Value} (g:LR e v v'):LR e' v v':=LR.mono' h.z h.n0 v v' (λj p _ q=>h.r j p q) g
theorem PR.mono {e e':Env} (h:Env.Le e e') {v:List SV} {v':List Value} (g:PR e v v'):PR e' v v':=PR.mono' h.z h.n0 v v' (λj p _ q=>h.r j p q) g
section
variable {e:Env}
theorem LR.length:∀{xs:List SV} {ys:List Value},LR e xs ys->ys.length=xs.length
 | [],_,h=>by rw [LR] at h;subst h;rfl
 |_::xs,_,⟨_,_,_,h,q⟩=>by subst q;simp [LR.length h]
theorem LR.get:∀{xs:List SV} {ys:List Value} {i:Nat} {x:SV},LR e xs ys->xs[i]? =some x->∃y,ys[i]? =some y/\VR e x y
 | [],_,_,_,_,h=>by simp at h
 |a::xs,_,0,x,⟨y,zs,hy,_,q⟩,h=>by subst q;simp at h;subst h;exact ⟨y,rfl,hy⟩
 |a::xs,_,i+1,x,⟨y,zs,_,hz,q⟩,h=>by subst q;simp at h;obtain ⟨u,hu,hv⟩:=LR.get hz h;exact ⟨u,by simpa using hu,hv⟩
theorem LR.append:∀{xs us:List SV} {ys vs:List Value},LR e xs ys->LR e us vs->LR e (xs++us) (ys++vs)
 | [],_,_,_,h,g=>by rw [LR] at h;subst h;exact g
 |_::xs,_,_,_,⟨y,zs,hy,hz,q⟩,h=>by subst q;exact ⟨y,_,hy,LR.append hz h,rfl⟩
theorem LR.one {x:SV} {y:Value} (h:VR e x y):LR e [x] [y]:=⟨y,[],h,rfl,rfl⟩
def gS:SV->Nat
 | .ints _ n _=>n
 | .rows z n _=>n*z
 |_=>1
def av:List SV->Nat
 | []=>0
 |p::ps=>gS p+av ps
def x6:SV->Bool
 | .ints _ _ _=>true
 |_=>false
def bn:SV->Bool
 | .ints _ _ _=>false
 | .rows _ _ _=>false
 |_=>true
theorem PR.cons {x:SV} {xs:List SV} {ys:List Value} (hx:bn x=true):PR e (x::xs) ys↔∃y zs,VR e x y/\PR e xs zs/\ys=y::zs:=by
 cases x<;>first|rfl|cases hx
theorem PR.Fc {k:IntKind} {n:Nat} {l:List Int} {xs:List SV} {ys:List Value}:PR e (.ints k n l::xs) ys↔∃zs,PR e xs zs/\ys=aU k (cG n l)++zs:=Iff.rfl
theorem PR.fN {z n:Nat} {g:Nat->List SV} {xs:List SV} {ys:List Value}:PR e (.rows z n g::xs) ys↔∃us zs,us.length=n*z/\(∀i,i<n->PR ⟨λ_=>none,e.z,e.n0,[],λ_=>none⟩ (g i) ((us.drop (i*z)).take z))/\PR e xs zs/\ys=us++zs:=Iff.rfl
theorem wk {x:SV} (hx:bn x=true):gS x=1:=by cases x<;>first|rfl|cases hx
theorem PR.length:∀{ps:List SV} {ys:List Value},PR e ps ys->ys.length=av ps
 | [],_,h=>by rw [PR] at h;subst h;rfl
 |x::xs,ys,h=>by
  by_cases hx:bn x=true
  ·rw [PR.cons hx] at h
   obtain ⟨y,zs,_,h2,rfl⟩:=h
   simp [av,wk hx,PR.length h2];omega
  ·cases x<;>simp [bn] at hx
   ·obtain ⟨zs,h2,rfl⟩:=h
    simp [av,gS,PR.length h2,aF,aT]
   ·obtain ⟨us,zs,h0,_,h2,rfl⟩:=h
    simp [av,gS,PR.length h2,h0]
theorem PR.append:∀{ps qs:List SV} {ys zs:List Value},PR e ps ys->PR e qs zs->PR e (ps++qs) (ys++zs)
 | [],_,_,_,h,g=>by rw [PR] at h;subst h;exact g
 |x::xs,qs,ys,zs,h,g=>by
  rw [List.cons_append]
  by_cases hx:bn x=true
  ·rw [PR.cons hx] at h ⊢
   obtain ⟨y,us,h1,h2,rfl⟩:=h
   exact ⟨y,_,h1,PR.append h2 g,rfl⟩
  ·cases x<;>simp [bn] at hx
   ·obtain ⟨us,h2,rfl⟩:=h
    exact ⟨_,PR.append h2 g,by rw [aaE]⟩
   ·obtain ⟨us,vs,h0,h1,h2,rfl⟩:=h
    exact ⟨us,_,h0,h1,PR.append h2 g,by rw [aaE]⟩
def jv:List SV->Nat->Option (List SV)
 |ps,0=>some ps
 | [],_+1=>none
 |p::ps,o+1=>match p with
  | .ints k n xs=>match Nat.ble n (o+1) with
   |true=>jv ps (o+1-n)
   |false=>some (.ints k (n-(o+1)) (xs.drop (o+1))::ps)
  | .rows _ _ _=>none
  |_=>jv ps o
def lZ:List SV->Nat->Option (List SV)
 |_,0=>some []
 | [],_+1=>none
 |p::ps,n+1=>match p with
  | .ints k m xs=>match Nat.ble m (n+1) with
   |true=>(lZ ps (n+1-m)).map (p:: ·)
   |false=>some [.ints k (n+1) (xs.take (n+1))]
  | .rows _ _ _=>none
  |_=>(lZ ps n).map (p:: ·)
def iO:List SV->Nat->Nat->Option (SV×Bool)
 | [],_,_=>none
 |p::ps,o,i=>match p with
  | .ints k n xs=>match o with
   |0=>some (.int k (xs.getD i 0),decide (i<n))
   |o+1=>match Nat.ble n (o+1) with
    |true=>iO ps (o+1-n) i
    |false=>some (.int k (xs.getD (o+1+i) 0),decide (o+1+i<n))
  | .rows _ _ _=>none
  |p=>match o with
   |0=>match i with
    |0=>some (p,true)
    |i+1=>iO ps 0 i
   |o+1=>iO ps o i
def wm:Value->Option Nat
 | .pointer none=>some 0
 | .slice none 0 0=>some 1
 | .map none=>some 2
 | .chan none=>some 3
 | .nilFunc=>some 4
 | .nilIface=>some 5
 |_=>none
def one:SV->Bool
 | .ints _ _ _| .agg _| .bC _| .rows _ _ _=>false
 | .nl v=>(wm v).isSome
 |_=>true
def J8 (k:IntKind) (n:Nat) (xs:List Int) (j:Nat) (ps:List SV):SV->Option (List SV×Bool)
 | .int k' m=>if k=k' then some (.ints k n (xs.set j m)::ps,decide (j<n)&&decide (xs.length=n)) else none
 |_=>none
def qa:List SV->Nat->Nat->SV->Option (List SV×Bool)
 | [],_,_,_=>none
 |p::ps,o,i,v=>match p with
  | .ints k n xs=>match o with
   |0=>J8 k n xs i ps v
   |o+1=>match Nat.ble n (o+1) with
    |true=>(qa ps (o+1-n) i v).map λq=>(p::q.1,q.2)
    |false=>J8 k n xs (o+1+i) ps v
  | .rows _ _ _=>none
  |_=>match o with
   |0=>match i with
    |0=>if one v then some (v::ps,true) else none
    |i+1=>(qa ps 0 i v).map λq=>(p::q.1,q.2)
   |o+1=>(qa ps o i v).map λq=>(p::q.1,q.2)
theorem eF:∀{ps qs:List SV} {o:Nat} {ys:List Value},jv ps o=some qs->PR e ps ys->PR e qs (ys.drop o)/\o<=ys.length
 |ps,qs,0,ys,h,g=>by
  have:jv ps 0=some ps:=by cases ps<;>rfl
  rw [this] at h;cases h;exact ⟨by simpa using g,aap _⟩
 | [],qs,o+1,ys,h,g=>by simp [jv] at h
 |x::xs,qs,o+1,ys,h,g=>by
  by_cases hx:bn x=true
  ·have h':jv xs o=some qs:=by cases x<;>first|exact h|cases hx
   rw [PR.cons hx] at g
   obtain ⟨y,zs,_,h2,rfl⟩:=g
   obtain ⟨h3,h4⟩:=eF h' h2
   exact ⟨by simpa using h3,by simp;omega⟩
  ·cases x<;>simp [bn] at hx
   case rows=>simp [jv] at h
   rename_i k n l
   obtain ⟨zs,h2,rfl⟩:=g
   simp only [jv] at h
   split at h
   ·rename_i hb
    have hle:=aaP hb
    obtain ⟨h3,h4⟩:=eF h h2
    refine ⟨?_,by simp [aF,aT];omega⟩
    rw [List.drop_append]
    rw [adB (by rw [aF,aT];exact hle),aF,aT]
    exact h3
   ·rename_i hb
    cases h
    have hlt:o+1<n:=by
     rcases acf (o+1) n with q|q
     ·exact q
     ·rw [adO q] at hb;cases hb
    refine ⟨⟨zs,h2,?_⟩,by simp [aF,aT];omega⟩
    rw [abh (by rw [aF,aT];omega),sq,dX]
theorem jw:∀{ps qs:List SV} {n:Nat} {ys:List Value},lZ ps n=some qs->PR e ps ys->PR e qs (ys.take n)/\n<=ys.length
 |ps,qs,0,ys,h,g=>by
  have:lZ ps 0=some []:=by cases ps<;>rfl
  rw [this] at h;cases h;exact ⟨by simp [PR],aap _⟩
 | [],qs,n+1,ys,h,g=>by simp [lZ] at h
 |x::xs,qs,n+1,ys,h,g=>by
  by_cases hx:bn x=true
  ·have h':(lZ xs n).map (x:: ·)=some qs:=by cases x<;>first|exact h|cases hx
   obtain ⟨qs',h1,rfl⟩:=aag.1 h'
   rw [PR.cons hx] at g
   obtain ⟨y,zs,h0,h2,rfl⟩:=g
   obtain ⟨h3,h4⟩:=jw h1 h2
   exact ⟨by rw [PR.cons hx];exact ⟨y,_,h0,h3,by simp⟩,by simp;omega⟩
  ·cases x<;>simp [bn] at hx
   case rows=>simp [lZ] at h
   rename_i k m l
   obtain ⟨zs,h2,rfl⟩:=g
   simp only [lZ] at h
   split at h
   ·rename_i hb
    have hle:=aaP hb
    obtain ⟨qs',h1,rfl⟩:=aag.1 h
    obtain ⟨h3,h4⟩:=jw h1 h2
    refine ⟨⟨_,h3,?_⟩,by simp [aF,aT];omega⟩
    rw [List.take_append,aao (by rw [aF,aT];exact hle),aF,aT]
   ·rename_i hb
    cases h
    have hlt:n+1<m:=by
     rcases acf (n+1) m with q|q
     ·exact q
     ·rw [adO q] at hb;cases hb
    refine ⟨⟨[],rfl,?_⟩,by simp [aF,aT];omega⟩
    rw [aaI (by rw [aF,aT];omega),lY (Nat.le_of_lt hlt),cw,aaz]
theorem PR.BG {k:IntKind} {n j:Nat} {l:List Int} {zs:List Value} (h:j<n):(aU k (cG n l)++zs)[j]? =some (.int k (l.getD j 0)):=by
 rw [aaR (by rw [aF,aT];exact h)]
 simp [aU,iC l h]
theorem eG:∀{ps:List SV} {o i:Nat} {ys:List Value} {v:SV},iO ps o i=some (v,true)->PR e ps ys->∃y,ys[o+i]? =some y/\VR e v y
 | [],o,i,ys,v,h,g=>by simp [iO] at h
 |x::xs,o,i,ys,v,h,g=>by
  by_cases hx:bn x=true
  ·rw [PR.cons hx] at g
   obtain ⟨y,zs,h0,h2,rfl⟩:=g
   cases o with
   |zero=>
    cases i with
    |zero=>
     have:v=x:=by cases x<;>simp [iO,bn] at h hx<;>exact h.symm
     subst this
     exact ⟨y,by simp,h0⟩
    |succ i=>
     have h':iO xs 0 i=some (v,true):=by cases x<;>first|exact h|cases hx
     obtain ⟨u,hu,hv⟩:=eG h' h2
     exact ⟨u,by simpa [Nat.add_comm,Nat.add_left_comm] using hu,hv⟩
   |succ o=>
    have h':iO xs o i=some (v,true):=by cases x<;>first|exact h|cases hx
    obtain ⟨u,hu,hv⟩:=eG h' h2
    exact ⟨u,by rw [show o+1+i=o+i+1 by omega];simpa using hu,hv⟩
  ·cases x<;>simp [bn] at hx
   case rows=>simp [iO] at h
   rename_i k n l
   obtain ⟨zs,h2,rfl⟩:=g
   simp only [iO] at h
   split at h
   ·simp only [No,aae,aab] at h
    obtain ⟨rfl,h⟩:=h
    exact ⟨_,by rw [abC,PR.BG h],rfl⟩
   ·rename_i o
    split at h
    ·rename_i hb
     have hle:=aaP hb
     obtain ⟨u,hu,hv⟩:=eG h h2
     refine ⟨u,?_,hv⟩
     rw [aaV (by rw [aF,aT];omega),aF,aT]
     rw [<-hu];congr 1;omega
    ·simp only [No,aae,aab] at h
     obtain ⟨rfl,h⟩:=h
     exact ⟨_,by rw [PR.BG h],rfl⟩
theorem Ff {v:Value} (h:(wm v).isSome=true):v.oneCell'=true:=by
 cases v<;>first|rfl|(simp [wm] at h)
theorem VR.kG {v:SV} {v':Value} (h:VR e v v') (ho:one v=true):v'.oneCell'=true:=by
 cases v with
 |nl x=>rw [VR] at h;subst h;exact Ff ho
 |ints=>cases ho
 |agg=>cases ho
 |bC=>cases ho
 |bool=>rw [VR] at h;subst h;rfl
 |int=>rw [VR] at h;subst h;rfl
 |str=>obtain ⟨s,rfl,_⟩:=h;rfl
 |ptr=>obtain ⟨p,_,rfl⟩:=h;rfl
 |sl=>
  rcases h with ⟨_,_,a,rfl⟩|⟨p,c,a,_,rfl,_⟩<;>rfl
 |ro=>
  rcases h with ⟨_,a,c,rfl,_⟩|⟨n,o,cap,c,t,fr,rfl,_⟩<;>rfl
 |gf=>
  rcases h with ⟨_,a,c,rfl,_⟩|⟨n,o,cap,c,t,fr,rfl,_⟩<;>rfl
 |aJ=>
  rcases h with ⟨_,a,c,rfl,_⟩|⟨n,o,cap,c,t,fr,rfl,_⟩<;>rfl
 |oF=>obtain ⟨n,o,c,t,fr,rfl,_⟩:=h;rfl
 |rE=>obtain ⟨n,o,c,t,fr,rfl,_⟩:=h;rfl
 |lX=>obtain ⟨n,o,c,t,fr,rfl,_⟩:=h;rfl
 |iface=>obtain ⟨y,_,rfl⟩:=h;rfl
 |fn=>obtain ⟨ys,us,_,_,rfl⟩:=h;rfl
 |rows=>cases ho
 |bK=>
  rcases h with ⟨_,_,a,rfl⟩|⟨p,c,a,_,rfl,_⟩<;>rfl
 |dm=>obtain ⟨p,_,rfl⟩:=h;rfl
 |qQ=>obtain ⟨p,_,rfl⟩:=h;rfl
 |dU=>rw [VR] at h;subst h;rfl
theorem sr {k:IntKind} {n j:Nat} {l:List Int} {ps qs:List SV} {v:SV} {y:Value} {zs:List Value} (h:J8 k n l j ps v=some (qs,true)) (g:PR e ps zs) (hv:VR e v y):
  PR e qs ((aU k (cG n l)++zs).set j y)/\j<n:=by
 unfold J8 at h
 split at h
 ·rename_i k' m
  split at h
  ·rename_i hk
   subst hk
   simp only [No,aae,aac,aab] at h
   obtain ⟨rfl,h1,h2⟩:=h
   rw [VR] at hv
   subst hv
   refine ⟨⟨zs,g,?_⟩,h1⟩
   rw [List.set_append_left _ _ (by rw [aF,aT];exact h1),bN h2,bN (by simp [h2])]
   simp [aU,List.map_set]
  ·cases h
 ·cases h
theorem iP:∀{ps qs:List SV} {o i:Nat} {ys:List Value} {v:SV} {y:Value},qa ps o i v=some (qs,true)->PR e ps ys->VR e v y->PR e qs (ys.set (o+i) y)/\o+i<ys.length
 | [],qs,o,i,ys,v,y,h,g,hv=>by simp [qa] at h
 |x::xs,qs,o,i,ys,v,y,h,g,hv=>by
  by_cases hx:bn x=true
  ·rw [PR.cons hx] at g
   obtain ⟨u,zs,h0,h2,rfl⟩:=g
   have x7:∀{o i:Nat},((qa xs o i v).map λq=>(x::q.1,q.2))=some (qs,true)->PR e qs (u::zs.set (o+i) y)/\o+i<zs.length:=λh=>by
    obtain ⟨⟨q1,q2⟩,h1,h'⟩:=aag.1 h
    simp only [aae] at h'
    obtain ⟨rfl,rfl⟩:=h'
    obtain ⟨h3,h4⟩:=iP h1 h2 hv
    exact ⟨by rw [PR.cons hx];exact ⟨u,_,h0,h3,rfl⟩,h4⟩
   cases o with
   |zero=>
    cases i with
    |zero=>
     have h':(if one v then some (v::xs,true) else none)=some (qs,true):=by cases x<;>first|exact h|cases hx
     split at h'
     ·rename_i ho
      cases h'
      have hv2:bn v=true:=by cases v<;>first|rfl|cases ho
      exact ⟨by rw [PR.cons hv2];exact ⟨y,zs,hv,h2,by simp⟩,by simp⟩
     ·cases h'
    |succ i=>
     have h':((qa xs 0 i v).map λq=>(x::q.1,q.2))=some (qs,true):=by cases x<;>first|exact h|cases hx
     obtain ⟨h3,h4⟩:=x7 h'
     exact ⟨by rw [abC] at h3 ⊢;simpa using h3,by simp;omega⟩
   |succ o=>
    have h':((qa xs o i v).map λq=>(x::q.1,q.2))=some (qs,true):=by cases x<;>first|exact h|cases hx
    obtain ⟨h3,h4⟩:=x7 h'
    exact ⟨by rw [show o+1+i=o+i+1 by omega];simpa using h3,by simp;omega⟩
  ·cases x<;>simp [bn] at hx
   case rows=>simp [qa] at h
   rename_i k n l
   obtain ⟨zs,h2,rfl⟩:=g
   simp only [qa] at h
   split at h
   ·obtain ⟨h3,h4⟩:=sr h h2 hv
    exact ⟨by rw [abC];exact h3,by simp [aF,aT];omega⟩
   ·rename_i o
    split at h
    ·rename_i hb
     have hle:=aaP hb
     obtain ⟨⟨q1,q2⟩,h1,h'⟩:=aag.1 h
     simp only [aae] at h'
     obtain ⟨rfl,rfl⟩:=h'
     obtain ⟨h3,h4⟩:=iP h1 h2 hv
     refine ⟨⟨_,h3,?_⟩,by simp [aF,aT];omega⟩
     rw [List.set_append_right _ _ (by rw [aF,aT];omega),aF,aT]
     congr 2;omega
    ·obtain ⟨h3,h4⟩:=sr h h2 hv
     exact ⟨h3,by simp [aF,aT];omega⟩
def Da (ps:List SV) (o n:Nat):Option (List SV):=(jv ps o).bind λq=>lZ q n
theorem nS {ps qs:List SV} {o n:Nat} {ys:List Value} (h:Da ps o n=some qs) (g:PR e ps ys):PR e qs ((ys.drop o).take n)/\o+n<=ys.length:=by
 obtain ⟨q,h1,h2⟩:=aaF.1 h
 obtain ⟨h3,h4⟩:=eF h1 g
 obtain ⟨h5,h6⟩:=jw h2 h3
 refine ⟨h5,?_⟩
 rw [aaN] at h6;omega
def Fg (ps:List SV) (o n:Nat) (new:List SV):Option (List SV):=match lZ ps o,jv ps (o+n) with
 |some a,some b=>some (a++new++b)
 |_,_=>none
theorem nT {ps qs new:List SV} {o n:Nat} {ys zs:List Value} (h:Fg ps o n new=some qs) (g:PR e ps ys) (g':PR e new zs):PR e qs (ys.take o++zs++ys.drop (o+n))/\o+n<=ys.length:=by
 unfold Fg at h
 split at h
 ·rename_i a b ha hb
  cases h
  obtain ⟨h1,_⟩:=jw ha g
  obtain ⟨h2,h3⟩:=eF hb g
  exact ⟨(h1.append g').append h2,h3⟩
 ·cases h
end
end Go.Sy
namespace Go.Sy
open Go
def Fh:Nat->Option (IntKind×List Int):=λg=>match Nat.beq g 1 with|true=>some (.u8,[0,1,56,2,57,49,28,3,61,58,42,50,38,29,17,4,62,47,59,36,45,43,51,22,53,39,33,30,24,18,12,5,63,55,48,27,60,41,37,16,46,35,44,21,52,32,23,11,54,26,40,15,34,20,31,10,25,14,19,9,13,8,7,6])|false=>none
def TR (e:Env) (t:List (Option SV)) (t':List Value):Prop:=
 t.length=t'.length/\∀(i:Nat) (v:SV) (v':Value),t[i]? =some (some v)->t'[i]? =some v'->VR e v v'
structure Lp where
 l:Nat
 t:List (Option SV)
 ps:Array Tmp
 sw:Code
 body:Code
 st:LoopState
 iQ:Option Code
inductive Blk where
 |b (ps:List SV)
 |g (o:Option Lp)
@[match_pattern] abbrev Blk.gap : Blk := .g none
def sx (e:Env) (i:Nat) (g:Option Lp) (w:World):Prop:=match g with
 |none=>True
 |some L=>e.y i=some L.l/\∃r:Loop,w.heap[L.l]? =some (.loop r)/\r.params=L.ps/\r.assign=L.sw/\r.body=L.body/\r.state=L.st/\r.pending=L.iQ/\TR e L.t r.tmps.toList
theorem sx.keep {e e':Env} {i:Nat} {g:Option Lp} {w w':World} (h:sx e i g w) (hk:∀(n:Nat) (r:Loop),w.heap[n]? =some (.loop r)->w'.heap[n]? =some (.loop r)) (hy:e'.y i=e.y i) (ht:∀L,g=some L->∀v v',some v∈L.t->VR e v v'->VR e' v v'):sx e' i g w':=by
 cases g with
 |none=>trivial
 |some L=>
  obtain ⟨h1,r,h2,h3,h4,h5,h6,h7,h8,h9⟩:=h
  exact ⟨by rw [hy];exact h1,r,hk _ _ h2,h3,h4,h5,h6,h7,h8,λj v v' a b=>ht L rfl v v' (aaG a) (h9 j v v' a b)⟩
theorem sx.le {e e':Env} {i:Nat} {g:Option Lp} {w w':World} (h:sx e i g w) (hk:∀(n:Nat) (r:Loop),w.heap[n]? =some (.loop r)->w'.heap[n]? =some (.loop r)) (hy:e'.y i=e.y i) (hle:Env.Le e e'):sx e' i g w':=
 h.keep hk hy λ_ _ _ _ _ hv=>hv.mono hle
structure cP where
 w:World
 e:Env
 k:Nat
 l:List Nat
def oJ (base size:Nat) (o o':Obj):Prop:=
 ∃(c c':Array Value) (t:TypeId) (fr:Nat×Nat),o= .cells c t fr/\o'= .cells c' t fr/\c'.size=c.size/\∀j,j<base\/base+size<=j->c'[j]? =c[j]?
def BR (e:Env) (p:Pl) (ps:List SV) (o:Obj):Prop:=
 ∃c t,o= .cells c t (0,0)/\p.base+p.size<=c.size/\av ps<=p.size/\PR e ps ((c.toList.drop p.base).take (av ps))
structure Rel (B:cP) (e:Env) (h:List Blk) (w:World):Prop where
 os:w.os=B.w.os
 tape:w.tape=B.w.tape
 output:w.output=B.w.output
 size:B.w.heap.size<=w.heap.size
 inj:∀(i j:Nat) (p q:Pl),e.r i=some p->e.r j=some q->p.n=q.n->i=j
 dom:∀(i:Nat) (p:Pl),e.r i=some p->i<h.length
 sep:∀(i:Nat) (p:Pl),e.r i=some p->e.z p.n=none
 eU:∀(n:Nat) (c:Array Value) (t:TypeId) (fr:Nat×Nat),e.z n=some (c,t,fr)->w.heap[n]? =some (.cells c t fr)
 bp:∀n x,e.z n=some x->B.e.z n=some x\/B.w.heap.size<=n
 dU:∀(g:Nat) (k:IntKind) (xs:List Int),Fh g=some (k,xs)->∃c t fr,e.z g=some (c,t,fr)/\aU k xs=c.toList.take xs.length
 news:∀(i:Nat) (p:Pl),e.r i=some p->B.e.r i=some p\/B.w.heap.size<=p.n
 bA:∀(i:Nat) (p:Pl),B.e.r i=some p->e.r i=some p
 bM:∀n x,B.e.z n=some x->e.z n=some x
 n0:e.n0=B.e.n0
 cI:B.e.n0<=B.w.heap.size
 ew:∀(i:Nat) (ps:List SV),h[i]? =some (.b ps)->(av ps=0/\e.r i=none)\/∃p o,e.r i=some p/\w.heap[p.n]? =some o/\BR e p ps o
 gap:∀(i:Nat) (g:Option Lp),h[i]? =some (.g g)->e.r i=none/\sx e i g w
 yi:∀(i j n:Nat),e.y i=some n->e.y j=some n->i=j
 yb:∀(i n:Nat),e.y i=some n->n∈B.l\/B.w.heap.size<=n
 old:∀n:Nat,n<B.w.heap.size->(∀(i:Nat) (p:Pl),B.e.r i=some p->p.n≠n)->n ∉ B.l->w.heap[n]? =B.w.heap[n]?
 win:∀(i:Nat) (p:Pl),B.e.r i=some p->∃o o',B.w.heap[p.n]? =some o/\w.heap[p.n]? =some o'/\oJ p.base p.size o o'
 kr:∀(i:Nat) (p:Pl),B.e.r i=some p->i<B.k
 fO:B.k<=h.length
 fc:∀r,r∈e.m->w.heap[r]? =some (.deferred (some []))/\B.w.heap.size<=r
 gJ:e.m.Nodup
structure St where
 t:List (Option SV)
 h:List Blk
 ob:Bool
abbrev Fi:=FuncId->List SV->List Blk->Nat->Option (SV×List Blk×List Blk×Bool)
abbrev bH:=Fn->List SV->List Blk->Nat->Option (SV×List Blk×List Blk×Bool)
structure bO where
 g:Fi
 inl:FuncId->Option Func
 pf:FuncId->Nat
 nb:FuncId->Nat
 sym:Tmp->Option Bool
 ey:Tmp->Bool
 yc:Nat->List SV->List Blk->Option (SV×List Blk×Bool):=λ_ _ _=>none
def aa (a b:Bool):Bool:=match b with
 |true=>a
 |false=>false
theorem aC {a b:Bool}:aa a b=true↔a=true/\b=true:=by cases a<;>cases b<;>decide
section
variable (P:Program)
def cQ (t:TypeId):Option Nat:=(P.info? t).map (·.size)
def zeroOf (t:TypeId):Option Value:=(P.info? t).bind (·.zero)
def fu (t:TypeId):Option Bool:=(P.underlying t).map λ| .struct _=>true| .array _ _=>true|_=>false
def isInt (t:TypeId):Option IntKind:=match P.underlying t with
 |some (.int k)=>some k
 |_=>none
mutual
def qb:Value->Option SV
 | .bool b=>some (.bool b)
 | .int k n=>some (.int k n)
 | .string s=>some (.str (gR s))
 | .pointer none=>some (.nl (.pointer none))
 | .slice none 0 0=>some (.nl (.slice none 0 0))
 | .map none=>some (.nl (.map none))
 | .chan none=>some (.nl (.chan none))
 | .nilFunc=>some (.nl .nilFunc)
 | .nilIface=>some (.nl .nilIface)
 | .tuple ⟨xs⟩=>(Po xs).map .bC
 | .iface t x=>(qb x).map (.iface t)
 | .func f ⟨xs⟩ ⟨ys⟩=>match Po xs,Po ys with
  |some a,some b=>some (.fn f a b)
  |_,_=>none
 |_=>none
def Po:List Value->Option (List SV)
 | []=>some []
 |x::xs=>match qb x,Po xs with
  |some a,some b=>some (a::b)
  |_,_=>none
end
def ev (t:List (Option SV)):Operand->Option SV
 | .tmp i=>match t[i]? with
  |some (some v)=>some v
  |_=>none
 | .const v=>qb v
 | .func f=>some (.fn (.func f) [] [])
 | .global g=>match Fh g with
  |some _=>some (.dU g 0)
  |none=>none
def rF (t:List (Option SV)):List Operand->Option (List SV)
 | []=>some []
 |x::xs=>match ev t x,rF t xs with
  |some v,some vs=>some (v::vs)
  |_,_=>none
def EU (t:List (Option SV)):Option Operand->Option (Option SV)
 |none=>some none
 |some x=>(ev t x).map some
def Fj (g:TypeId->Option (List SV)):List Field->Option (List SV)
 | []=>some []
 |f::fs=>match g f.type,Fj g fs with
  |some a,some b=>some (a++b)
  |_,_=>none
def x8:Nat->TypeId->Option (List SV)
 |0,_=>none
 |d+1,t=>match P.underlying t with
  |some .bool=>some [.bool false]
  |some (.int k)=>some [.int k 0]
  |some .string=>some [.str []]
  |some (.pointer _)=>some [.nl (.pointer none)]
  |some (.slice _)=>some [.nl (.slice none 0 0)]
  |some (.map _ _)=>some [.nl (.map none)]
  |some (.func _ _ _)=>some [.nl .nilFunc]
  |some (.interface _)=>some [.nl .nilIface]
  |some (.array n e)=>match isInt P e with
   |some k=>some [.ints k n (List.replicate n 0)]
   |none=>(x8 d e).map λz=>(List.replicate n z).flatten
  |some (.struct fs)=>Fj (λt=>x8 d t) fs.toList
  |_=>none
def x9 (k:IntKind):List Int->List Value->Option (List Value)
 | [],ys=>some ys
 |a::as,.int k' b::ys=>if k=k'/\a=b then x9 k as ys else none
 |_::_,_=>none
def Fk:SV->Value->Bool
 | .bool a,.bool b=>a==b
 | .int k a,.int k' b=>decide (k=k')&&a==b
 | .str [],.string s=>s.data.toList.isEmpty
 | .nl v,w=>match wm v,wm w with
  |some a,some b=>a==b
  |_,_=>false
 |_,_=>false
def vq:List SV->List Value->Bool
 | [],ys=>ys.isEmpty
 | .ints k n xs::ps,ys=>match x9 k xs ys with
  |some ys=>decide (xs.length=n)&&vq ps ys
  |none=>false
 |p::ps,y::ys=>Fk p y&&vq ps ys
 |_::_,[]=>false
def Fl:Value->List Value
 | .agg ⟨cs⟩=>cs
 |v=>[v]
def jx (t:TypeId):Option (List SV):=match zeroOf P t,x8 P 12 t with
 |some z,some ps=>if vq ps (Fl z) then some ps else none
 |_,_=>none
def partsOf:SV->List SV
 | .agg ps=>ps
 |v=>[v]
def ofParts (t:TypeId) (ps:List SV):Option SV:=match fu P t with
 |some true=>some (.agg ps)
 |some false=>match ps with
  | [p]=>if one p then some p else none
  |_=>none
 |none=>none
def Db (ps:List SV) (o i n:Nat):Option (List SV×Bool):=match i with
 |0=>(Da ps o n).map λq=>(q,true)
 |i+1=>match jv ps o with
  |some (.ints k m xs::_)=>some ([.ints k n ((xs.drop (i+1)).take n)],decide (i+1+n<=m))
  |_=>none
def qR (t:TypeId) (h:List Blk):SV->Option (SV×Bool)
 | .ptr b o i=>match h[b]? with
  |some (.b ps)=>match fu P t with
   |some true=>match cQ P t with
    |some n=>(Db ps o i n).map λq=>(.agg q.1,q.2)
    |none=>none
   |some false=>iO ps o i
   |none=>none
  |_=>none
 | .oF k xs i=>match fu P t with
  |some true=>match cQ P t with
   |some n=>some (.agg [.ints k n ((xs.drop i).take n)],decide (0<n)&&decide (i+n<=xs.length))
   |none=>none
  |some false=>some (.int k (xs.getD i 0),decide (i<xs.length))
  |none=>none
 | .rE f xss i=>match fu P t with
  |some false=>some (.ro f .u8 (xss.getD i []),decide (i<xss.length))
  |_=>none
 | .lX _ z len g e o i=>match fu P t with
  |some true=>match cQ P t with
   |some n=>(Db (g e) o i n).map λq=>(.agg q.1,q.2&&(decide (e<len)&&decide (o+i+n<=z)))
   |none=>none
  |some false=>(iO (g e) o i).map λq=>(q.1,q.2&&(decide (e<len)&&decide (o+i<z)))
  |none=>none
 | .dm b z e o i=>match h[b]? with
  |some (.b [.rows z' n g])=>match Nat.beq z' z,fu P t with
   |true,some true=>match cQ P t with
    |some m=>(Db (g e) o i m).map λq=>(.agg q.1,q.2&&(decide (e<n)&&decide (o+i+m<=z)))
    |none=>none
   |true,some false=>(iO (g e) o i).map λq=>(q.1,q.2&&(decide (e<n)&&decide (o+i<z)))
   |_,_=>none
  |_=>none
 | .dU g i=>match Fh g,fu P t with
  |some (k,xs),some false=>some (.int k (xs.getD i 0),decide (i<xs.length))
  |_,_=>none
 |_=>none
def sy (c:Bool):SV->SV->SV
 | .bool x,.bool y=>.bool (bif c then x else y)
 | .int k x,.int k' y=>if k=k' then .int k (bif c then x else y) else bif c then .int k x else .int k' y
 | .ints k n xs,.ints k' m ys=>if k=k'/\n=m then .ints k n (bif c then xs else ys) else bif c then .ints k n xs else .ints k' m ys
 | .ro f k xs,.ro f' k' ys=>if k=k' then .ro (f&&f') k (bif c then xs else ys) else bif c then .ro f k xs else .ro f' k' ys
 | .nl (.slice none 0 0),.ro f k ys=>.ro f k (bif c then [] else ys)
 | .ro f k xs,.nl (.slice none 0 0)=>.ro f k (bif c then xs else [])
 | .gf f xs,.gf f' ys=>.gf (f&&f') (bif c then xs else ys)
 | .nl (.slice none 0 0),.gf f ys=>.gf f (bif c then [] else ys)
 | .gf f xs,.nl (.slice none 0 0)=>.gf f (bif c then xs else [])
 | .nl (.slice none 0 0),.nl (.slice none 0 0)=>.nl (.slice none 0 0)
 | .str x,.str y=>.str (bif c then x else y)
 |a,b=>bif c then a else b
def br (c:Bool):List SV->List SV->List SV
 |x::xs,y::ys=>sy c x y::br c xs ys
 |as,bs=>bif c then as else bs
def fP (t:TypeId) (h:List Blk) (x:SV):SV->Option (List Blk×Bool)
 | .ptr b o i=>match h[b]? with
  |some (.b ps)=>match fu P t with
   |some true=>match x,cQ P t,i with
    | .agg q,some n,0=>if decide (av q=n)&&q.all λp=>one p||x6 p then (Fg ps o n q).map λps'=>(h.set b (.b ps'),true) else none
    |_,_,_=>none
   |some false=>if one x&&cQ P t==some 1 then (qa ps o i x).map λq=>(h.set b (.b q.1),q.2) else none
   |none=>none
  |_=>none
 | .dm b z el o i=>match h[b]? with
  |some (.b [.rows z' n g])=>match Nat.beq z' z,fu P t with
   |true,some true=>match x,cQ P t,i with
    | .agg q,some m,0=>if decide (av q=m)&&(q.all λp=>one p||x6 p)&&cO q then (Fg (g el) o m q).map λps'=>(h.set b (.b [.rows z n λi=>br (Nat.beq i el) ps' (g i)]),decide (el<n)) else none
    |_,_,_=>none
   |true,some false=>if one x&&cQ P t==some 1&&eu x then (qa (g el) o i x).map λq=>(h.set b (.b [.rows z n λi=>br (Nat.beq i el) q.1 (g i)]),q.2&&decide (el<n)) else none
   |_,_=>none
  |_=>none
 |_=>none
def sG (f:∀n,BitVec n->BitVec n->BitVec n) (k:IntKind) (a b:Int):Int:=k.wrap (f k.bits (BitVec.ofInt k.bits a) (BitVec.ofInt k.bits b)).toNat
def hD:=sG λ_ a b=>a&&& b
def Dc:=sG λ_ a b=>a|||b
def eZ:=sG λ_ a b=>a^^^b
def BH:=sG λ_ a b=>a&&& ~~~b
def jS (k:IntKind) (a:Int) (n:Nat):Int:=k.wrap (a*2^(min n k.bits))
def e6 (k:IntKind) (a:Int) (n:Nat):Int:=a.fdiv (2^(min n k.bits))
def ya (op:BinOp) (k:IntKind) (a:Int) (k':IntKind) (b:Int):Option (SV×Bool):=
 match op with
 | .shl=>some (.int k (jS k a b.toNat),decide (0<=b))
 | .shr=>some (.int k (e6 k a b.toNat),decide (0<=b))
 |_=>if k≠k' then none else match op with
  | .add=>some (.int k (k.wrap (a+b)),true)
  | .sub=>some (.int k (k.wrap (a-b)),true)
  | .mul=>some (.int k (k.wrap (a*b)),true)
  | .quo=>some (.int k (k.wrap (a.tdiv b)),b != 0)
  | .rem=>some (.int k (a.tmod b),b != 0)
  | .and=>some (.int k (hD k a b),true)
  | .or=>some (.int k (Dc k a b),true)
  | .xor=>some (.int k (eZ k a b),true)
  | .andNot=>some (.int k (BH k a b),true)
  | .eql=>some (.bool (a==b),true)
  | .neq=>some (.bool (a != b),true)
  | .lss=>some (.bool (decide (a<b)),true)
  | .leq=>some (.bool (decide (a<=b)),true)
  | .gtr=>some (.bool (decide (a>b)),true)
  | .geq=>some (.bool (decide (a>=b)),true)
  |_=>none
def nU (g:TypeId->Option (IntKind×Nat)) (k:IntKind) (at_:Nat):List Field->Option (IntKind×Nat)
 | []=>some (k,at_)
 |f::rest=>match g f.type with
  |some (k',m)=>if k'=k/\f.name≠"_"/\f.offset=at_/\cQ P f.type=some m then nU g k (at_+m) rest else none
  |none=>none
def jy:Nat->TypeId->Option (IntKind×Nat)
 |0,_=>none
 |d+1,t=>match P.underlying t with
  |some (.int k)=>some (k,1)
  |some (.array n e)=>match jy d e with
   |some (k,m)=>if cQ P e=some m then some (k,n*m) else none
   |none=>none
  |some (.struct fs)=>if P.stoodInHeld t then none else match fs.toList with
   | []=>none
   |f::rest=>match jy d f.type with
    |some (k,m)=>if f.name≠"_"/\f.offset=0/\cQ P f.type=some m then nU P (λt=>jy d t) k m rest else none
    |none=>none
  |_=>none
def sH (k:IntKind):List SV->Option (List Int×Bool)
 | []=>some ([],true)
 | .ints k' n xs::ps=>if k=k' then match ps.isEmpty with
  |true=>some (xs,decide (xs.length=n))
  |false=>(sH k ps).map λq=>(xs++q.1,aa (decide (xs.length=n)) q.2) else none
 | .int k' n::ps=>if k=k' then (sH k ps).map λq=>(n::q.1,q.2) else none
 |_=>none
def eo (op:BinOp) (b:Bool):Option SV:=match op with
 | .eql=>some (.bool b)
 | .neq=>some (.bool !b)
 |_=>none
def Z3 (op:BinOp) (T:TypeId) (x y:Operand):SV->SV->Option (SV×Bool)
 | .agg cs,.agg ds=>if P.eqGuardType P.depth T||fu P T==some false then none else match jy P 20 T with
  |some (k,n)=>match sH k cs,sH k ds with
   |some (l,p),some (m,q)=>if av cs=n/\av ds=n then (eo op (decide (l=m))).map λv=>(v,aa p q) else none
   |_,_=>none
  |none=>none
 | .bool a,.bool b=>match P.underlying T with
  |some .bool=>(eo op (a==b)).map λv=>(v,true)
  |_=>none
 | .str a,.str b=>(eo op (decide (a=b))).map λv=>(v,true)
 | .ptr _ _ _,.nl (.pointer none)=>match P.underlying T with
  |some (.pointer _)=>(eo op false).map λv=>(v,true)
  |_=>none
 | .nl (.pointer none),.nl (.pointer none)=>match P.underlying T with
  |some (.pointer _)=>(eo op true).map λv=>(v,true)
  |_=>none
 | .nl .nilIface,.nl .nilIface=>match P.underlying T,x,y with
  |some (.interface _),.const _,_=>(eo op true).map λv=>(v,true)
  |some (.interface _),_,.const _=>(eo op true).map λv=>(v,true)
  |_,_,_=>none
 | .iface _ _,.nl .nilIface=>match P.underlying T with
  |some (.interface _)=>(eo op false).map λv=>(v,true)
  |_=>none
 | .nl .nilIface,.iface _ _=>match P.underlying T with
  |some (.interface _)=>(eo op false).map λv=>(v,true)
  |_=>none
 | .iface t (.int k a),.iface t' (.int k' b)=>match P.underlying T,P.underlying t with
  |some (.interface _),some (.int _)=>match (P.info? t).map (·.comparable) with
   |some true=>if t=t'/\k=k' then (eo op (a==b)).map λv=>(v,true) else none
   |_=>none
  |_,_=>none
 | .ro _ _ xs,.nl (.slice none 0 0)=>match P.underlying T with
  |some (.slice _)=>(eo op false).map λv=>(v,decide (0<xs.length))
  |_=>none
 | .sl _ _ _ _ len _ _ _,.nl (.slice none 0 0)=>match P.underlying T with
  |some (.slice _)=>(eo op false).map λv=>(v,decide (0<len))
  |_=>none
 | .nl (.slice a 0 _),.nl (.slice none 0 0)=>match P.underlying T with
  |some (.slice _)=>(eo op a.isNone).map λv=>(v,true)
  |_=>none
 | .aJ _ _ len _,.nl (.slice none 0 0)=>match P.underlying T with
  |some (.slice _)=>(eo op false).map λv=>(v,decide (0<len))
  |_=>none
 | .bK _ _ len _ _,.nl (.slice none 0 0)=>match P.underlying T with
  |some (.slice _)=>(eo op false).map λv=>(v,decide (0<len))
  |_=>none
 |_,_=>none
def placesOf (t:TypeId):Option (Nat->Option (Nat×Nat)):=match P.underlying t with
 |some (.array _ e)=>(P.info? e).map λie=>λi=>some (i*ie.size,ie.size)
 |some (.struct fields)=>(fields.toList.mapM λf=>(P.info? f.type).map λi=>(f.offset,i.size)).map λplaces=>λi=>places.toArray[i]?
 |_=>none
def Ae (ps:List SV) (o n:Nat) (v:SV):Option (List SV×Bool):=match v with
 | .agg q=>if av q=n then (Fg ps o n q).map λps=>(ps,true) else none
 |v=>if n=1&&one v then qa ps o 0 v else none
def vr (place:Nat->Option (Nat×Nat)):List SV->List (Nat×SV)->Option (List SV×Bool)
 |ps,[]=>some (ps,true)
 |ps,(i,v)::rest=>match place i with
  |some (o,n)=>match Ae ps o n v with
   |some (ps,p)=>(vr place ps rest).map λq=>(q.1,aa p q.2)
   |none=>none
  |none=>none
def Af (t:TypeId) (parts:List (Nat×SV)):Option (SV×Bool):=match jx P t,placesOf P t with
 |some z,some place=>(vr place z parts).map λq=>(.agg q.1,q.2)
 |_,_=>none
def yd (t:TypeId) (ps:List SV) (o i:Nat):Option (SV×Bool):=
 match fu P t with
 |some true=>match cQ P t,i with
  |some n,0=>(Da ps o n).map λq=>(.agg q,true)
  |_,_=>none
 |some false=>iO ps o i
 |none=>none
def Ag (t:TypeId) (i:Nat):SV->Option (SV×Bool)
 | .agg ps=>match P.underlying t with
  |some (.struct fs)=>match fs.toList[i]? with
   |some f=>yd P f.type ps f.offset 0
   |none=>none
  |_=>none
 |_=>none
def nV (t:TypeId) (i:Nat) (x:SV):Option SV:=
 match P.underlying t with
 |some (.struct fs)=>match fs.toList[i]? with
  |some f=>match cQ P f.type with
   |some (_+1)=>match x with
    | .ptr b o i=>some (.ptr b (o+f.offset) i)
    | .lX g z len c e o i=>some (.lX g z len c e (o+f.offset) i)
    | .dm b z e o i=>some (.dm b z e (o+f.offset) i)
    |_=>none
   |_=>none
  |none=>none
 |_=>none
def aX (i:Int) (n:Nat):Bool:=decide (0<=i)&&decide (i<n)
def nW (t:TypeId) (x ix:SV):Option (SV×Bool):=
 match ix with
 | .int _ i=>match P.underlying t,x with
  |some (.array len e),.ptr b o j=>match isInt P e,cQ P e with
   |some _,some 1=>some (.ptr b o (j+i.toNat),aX i len)
   |none,some n=>some (.ptr b (o+i.toNat*n) j,aX i len)
   |_,_=>none
  |some (.array len e),.lX f z l c el o j=>match isInt P e,cQ P e with
   |some _,some 1=>some (.lX f z l c el o (j+i.toNat),aX i len)
   |none,some n=>some (.lX f z l c el (o+i.toNat*n) j,aX i len)
   |_,_=>none
  |some (.array len e),.dm b z el o j=>match isInt P e,cQ P e with
   |some _,some 1=>some (.dm b z el o (j+i.toNat),aX i len)
   |none,some n=>some (.dm b z el (o+i.toNat*n) j,aX i len)
   |_,_=>none
  |some (.array len e),.dU g j=>match cQ P e with
   |some 1=>some (.dU g (j+i.toNat),aX i len)
   |_=>none
  |some (.slice e),.bK b z len _ _=>match cQ P e with
   |some n=>if n=z then some (.dm b z i.toNat 0 0,aX i len) else none
   |none=>none
  |some (.slice e),.sl b o j 1 len _ _ _=>match cQ P e with
   |some 1=>match isInt P e with
    |some _=>some (.ptr b o (j+i.toNat),aX i len)
    |none=>some (.ptr b (o+(j+i.toNat)) 0,aX i len)
   |_=>none
  |some (.slice e),.sl b o j z len _ _ _=>match cQ P e with
   |some n=>if n=z then some (.ptr b (o+(j+i.toNat)*z) 0,aX i len) else none
   |none=>none
  |some (.slice e),.ro _ k xs=>match cQ P e with
   |some 1=>some (.oF k xs i.toNat,aX i xs.length)
   |_=>none
  |some (.slice e),.gf f xss=>match cQ P e with
   |some 1=>some (.rE f xss i.toNat,aX i xss.length)
   |_=>none
  |some (.slice e),.aJ f z len g=>match cQ P e with
   |some n=>if n=z then some (.lX f z len g i.toNat 0 0,aX i len) else none
   |none=>none
  |_,_=>none
 |_=>none
def Ah (t:TypeId) (x ix:SV):Option (SV×Bool):=
 match ix,x with
 | .int _ i,.agg ps=>match P.underlying t with
  |some (.array len e)=>match isInt P e,cQ P e with
   |some _,some 1=>(iO ps 0 i.toNat).map λq=>(q.1,q.2&&aX i len)
   |none,some n=>(yd P e ps (i.toNat*n) 0).map λq=>(q.1,q.2&&aX i len)
   |_,_=>none
  |_=>none
 | .int _ i,.str xs=>match P.underlying t with
  |some .string=>some (.int .u8 (xs.getD i.toNat 0),aX i xs.length)
  |_=>none
 |_,_=>none
def nX (d y:Nat):Option SV->Option (Nat×Bool)
 |none=>some (d,true)
 |some (.int _ i)=>some (i.toNat,decide (0<=i)&&decide (i<=y))
 |_=>none
def fj (len cap:Nat) (lo hi mx:Option SV):Option (Nat×Nat×Nat×Bool):=
 match nX cap cap mx with
 |some (m,p)=>match mx,hi with
  |some _,none=>none
  |_,_=>match nX len (match mx with|some _=>m|none=>cap) hi with
   |some (h,q)=>match nX 0 h lo with
    |some (l,r)=>some (l,h,m,aa p (aa q r))
    |none=>none
   |none=>none
 |none=>none
def ye (xs:List Int) (lo hi:Option SV) (l h:Nat):List Int:=match lo,hi with
 |none,none=>xs
 |some _,none=>xs.drop l
 |none,some _=>xs.take h
 |some _,some _=>(xs.drop l).take (h-l)
def jL (t:TypeId) (h:List Blk) (x:SV) (lo hi mx:Option SV):Option (SV×Bool):=
 match P.underlying t,x with
 |some (.array n e),.ptr b o i=>match h[b]?,cQ P e,fj n n lo hi mx with
  |some (.b ps),some 1,some (l,h,m,p)=>some (.sl b o (match lo with|none=>i|some _=>i+l) 1 (match lo with|none=>h|some _=>h-l) (match lo with|none=>m|some _=>m-l) true (lo.isNone&&hi.isNone&&mx.isNone),aa p (decide (o+i+n<=av ps)))
  |some (.b ps),some z,some (l,h,m,p)=>match i with
   |0=>some (.sl b o l z (h-l) (m-l) true (lo.isNone&&hi.isNone&&mx.isNone),aa p (decide (o+n*z<=av ps)))
   |_=>none
  |_,_,_=>none
 |some (.slice e),.sl b o i z len cap ex wh=>match cQ P e,fj len cap lo hi mx with
  |some n,some (l,h,m,p)=>if n=z then
   some (.sl b o (match lo with|none=>i|some _=>i+l) z (match lo with|none=>h|some _=>h-l) (match lo with|none=>m|some _=>m-l) (ex||mx.isSome) (wh&&lo.isNone&&hi.isNone&&mx.isNone),p) else none
  |_,_=>none
 |some (.slice e),.ro f k xs=>match cQ P e,fj xs.length xs.length lo hi mx with
  |some 1,some (l,h,_,p)=>some (.ro f k (ye xs lo hi l h),p)
  |_,_=>none
 |some .string,.str xs=>match mx,fj xs.length xs.length lo hi none with
  |none,some (l,h,_,p)=>some (.str (ye xs lo hi l h),p)
  |_,_=>none
 |some (.slice e),.nl (.slice none 0 0)=>match cQ P e,fj 0 0 lo hi mx with
  |some _,some (_,_,_,p)=>some (.nl (.slice none 0 0),p)
  |_,_=>none
 |some (.array n el),.lX _ z len g e o i=>match cQ P el,Db (g e) o i n,lo,hi,mx with
  |some 1,some ([.ints k m xs],p),none,none,none=>some (.ro false k xs,p&&(decide (e<len)&&decide (o+i+n<=z)&&decide (m=n)&&decide (xs.length=n)))
  |_,_,_,_,_=>none
 |_,_=>none
def l5 (t:TypeId) (h:List Blk) (x:SV) (lo hi mx:Option SV):Option (SV×Bool):=match x with
 | .bK b z len cap ex=>match lo with
  |none=>match jL P t h (.sl b 0 0 z len cap ex false) none hi mx with
   |some (.sl b' 0 0 z' l' c' ex' _,p)=>some (.bK b' z' l' c' ex',p)
   |_=>none
  |some _=>none
 |x=>jL P t h x lo hi mx
def BI (lo hi mx:Option Operand):Bool:=match lo,hi,mx with
 |none,some (.const (.int .i64 0)),some (.const (.int .i64 0))=>true
 |_,_,_=>false
def jM (t:TypeId) (h:List Blk) (x:SV) (l u m:Option SV):Option (SV×Bool):=match x with
 | .ro _ _ _=>match P.underlying t with
  |some (.slice e)=>match cQ P e with
   |some 1=>some (.sl 0 0 0 1 0 0 true false,true)
   |_=>none
  |_=>none
 | .nl (.slice _ 0 _)=>match P.underlying t with
  |some (.slice e)=>match cQ P e with
   |some 1=>some (.sl 0 0 0 1 0 0 true false,true)
   |_=>none
  |_=>none
 | .aJ _ z _ _=>match P.underlying t with
  |some (.slice e)=>match cQ P e with
   |some n=>if n=z then some (.bK 0 z 0 0 true,true) else none
   |_=>none
  |_=>none
 |x=>l5 P t h x l u m
def oK:SV->Option Nat
 | .sl _ _ _ _ n _ _ _=>some n
 | .ro _ _ xs=>some xs.length
 | .gf _ xss=>some xss.length
 | .aJ _ _ n _=>some n
 | .bK _ _ n _ _=>some n
 | .str xs=>some xs.length
 | .nl (.slice _ 0 _)=>some 0
 |_=>none
def Pp (t:TypeId) (x:SV):Option SV:=match P.underlying t,x with
 |some (.array n _),.agg _=>some (.int .i64 n)
 |some (.slice _),x=>match x with
  | .str _=>none
  |x=>(oK x).map λ(n:Nat)=>SV.int .i64 (n:Int)
 |some .string,.str xs=>some (.int .i64 xs.length)
 |_,_=>none
def Fm (t:TypeId) (x:SV):Option SV:=match P.underlying t,x with
 |some (.slice _),.sl _ _ _ _ _ cap true _=>some (.int .i64 cap)
 |some (.slice _),.nl (.slice none 0 0)=>some (.int .i64 0)
 |_,_=>none
def cu (h:List Blk):SV->Option (List SV×Bool)
 | .ro _ k xs=>some ([.ints k xs.length xs],true)
 | .str xs=>some ([.ints .u8 xs.length xs],true)
 | .nl (.slice _ 0 _)=>some ([],true)
 | .sl b o i z len _ _ wh=>match h[b]? with
  |some (.b ps)=>match jv ps o,z with
   |some (.ints k n xs::_),1=>match wh with
    |true=>some ([.ints k len xs],decide (xs.length=len)&&(decide (len<=n)&&decide (i=0)))
    |false=>some ([.ints k len ((xs.drop i).take len)],decide (i+len<=n)&&decide (i+len<=xs.length))
   |some ps,z=>(Da ps (i*z) (len*z)).map λq=>(q,true)
   |none,_=>none
  |_=>none
 | .aJ _ z n g=>some ([.rows z n g],true)
 | .bK b z len _ _=>match h[b]? with
  |some (.b [.rows z' n g])=>match Nat.beq z' z with
   |true=>some ([.rows z len g],decide (len<=n))
   |false=>none
  |_=>none
 |_=>none
def lE:List SV->List SV->List SV
 | [.ints k n xs],[.ints k' m ys]=>if k=k' then [.ints k (n+m) (xs++ys)] else [.ints k n xs,.ints k' m ys]
 | [],b=>b
 |a,[]=>a
 |a,b=>a++b
def cj (z:Nat):SV->Bool
 | .sl _ _ _ z' _ _ _ _=>Nat.beq z' z
 | .aJ _ z' _ _=>Nat.beq z' z
 | .bK _ z' _ _ _=>Nat.beq z' z
 | .nl _=>true
 |_=>Nat.beq z 1
def BJ (src dst:TypeId):SV->Option SV
 | .int _ n=>match P.underlying src,P.underlying dst with
  |some _,some (.int k)=>some (.int k (k.wrap n))
  |_,_=>none
 | .str xs=>match P.underlying src,P.underlying dst with
  |some .string,some .string=>some (.str xs)
  |_,_=>none
 |_=>none
def Ai:UnOp->SV->Option SV
 | .neg,.int k n=>some (.int k (k.wrap (0-n)))
 | .xor,.int k n=>some (.int k (eZ k (if k.signed then-1 else k.max) n))
 | .not,.bool b=>some (.bool !b)
 |_,_=>none
def Fo:IntKind->Int->List SV->Option Int
 |_,a,[]=>some a
 |k,a,.int k' b::vs=>if k=k' then Fo k (if b<a then b else a) vs else none
 |_,_,_=>none
def jz (t:TypeId) (len:Nat) (parts:List (Nat×SV)):Option (List SV×Nat×Bool):=
 match P.underlying t with
 |some (.slice e)=>match cQ P e,jx P e with
  |some (z+1),some zs=>if len*(z+1)<=2^24/\av zs=z+1 then
    (vr (λi=>some (i*(z+1),z+1)) (match isInt P e with
     |some k=>[.ints k len (List.replicate len 0)]
     |none=>(List.replicate len zs).flatten) parts).map λq=>(q.1,z+1,q.2) else none
  |_,_=>none
 |_=>none
def Pq:Operand->Operand->Bool
 | .tmp a,.tmp b=>a==b
 | .const (.int _ a),.const (.int _ b)=>a==b
 |_,_=>false
def kH (t:TypeId):SV->SV->Option (List SV×Nat×Nat×Nat×Bool)
 | .int _ l,.int _ c=>match P.underlying t with
  |some (.slice e)=>match P.info? e,cQ P e,jx P e with
   |some i,some (z+1),some zs=>if av zs=z+1 then some (match isInt P e with
    |some k=>[.ints k c.toNat (List.replicate c.toNat 0)]
    |none=>(List.replicate c.toNat zs).flatten,z+1,l.toNat,c.toNat,(i64.wrap l==l&&i64.wrap c==c)&&(decide (0<=l)&&decide (l<=c)&&decide (i.bytes*c<=2^48))) else none
   |_,_,_=>none
  |_=>none
 |_,_=>none
def wu (asserted:TypeId) (ok:Bool):SV->Option SV
 | .iface t v=>match P.underlying asserted with
  |some (.interface _)=>none
  |some _=>if t=asserted then some (match ok with|true=>.bC [v,.bool true]|false=>v) else
   match ok,(zeroOf P asserted).bind qb with
   |true,some z=>some (.bC [z,.bool false])
   |_,_=>none
  |none=>none
 | .nl .nilIface=>match P.underlying asserted,ok,(zeroOf P asserted).bind qb with
  |some (.interface _),_,_=>none
  |some _,true,some z=>some (.bC [z,.bool false])
  |_,_,_=>none
 |_=>none
def yOK (f:Fn) (lO:List SV):Bool:=match f with
 | .func _=>true
 | .yield _=>lO.isEmpty
 |_=>false
def hJ (b:Nat):Option SV->Bool
 |some v=>!uses b v
 |none=>true
def dA (b:Nat) (h:List Blk):Bool:=h.all λ| .b ps=>!c6 b ps| .g (some L)=>L.t.all (hJ b)| .g none=>true
structure jr where
 v:SV
 h:List Blk
 new:List Blk
 kill:Option Nat
 p:Bool
def jr.of (h:List Blk) (q:SV×Bool):jr:=⟨q.1,h,[],none,q.2⟩
def Pr (xs:List Int):Bool:=xs.all λn=>decide (0<=n)&&decide (n<256)
def Dd (f:SV->Option SV):List SV->Nat->Option (List SV)
 | [],_=>none
 |p::ps,0=>(f p).map (· ::ps)
 |p::ps,o+1=>match Nat.ble (gS p) (o+1) with
  |true=>(Dd f ps (o+1-gS p)).map (p:: ·)
  |false=>none
def De (xs:List Int) (i:Nat) (ys:List Int) (n:Nat):List Int:=xs.take i++ys.take n++xs.drop (i+n)
def U4 (i:Nat) (k':IntKind) (ys:List Int) (n:Nat):SV->Option SV
 | .ints k m xs=>if k=k' then some (.ints k m (De xs i ys n)) else none
 |_=>none
def Pt:SV->Option (Nat×List Int)
 | .ints _ m xs=>some (m,xs)
 |_=>none
def Z4:List SV->Nat->Option SV
 | [],_=>none
 |p::_,0=>some p
 |p::ps,o+1=>match Nat.ble (gS p) (o+1) with
  |true=>Z4 ps (o+1-gS p)
  |false=>none
def qc (h:List Blk) (b o i:Nat) (k:IntKind) (ys:List Int) (n:Nat):Option (List Blk×Bool):=match h[b]? with
 |some (.b ps)=>match (Z4 ps o).bind Pt,Dd (U4 i k ys n) ps o with
  |some (m,xs),some ps'=>some (h.set b (.b ps'),decide (xs.length=m)&&decide (i+n<=m)&&decide (n<=ys.length))
  |_,_=>none
 |_=>none
def kI (ps:List SV):Bool:=ps.all λp=>one p||x6 p
def N3:List SV->Option (Nat×Nat×(Nat->List SV))
 | [.rows z n g]=>some (z,n,g)
 |_=>none
def wv:List SV->Bool
 | [.ints _ n xs]=>decide (xs.length=n)
 |_=>true
def sI (e:TypeId):Option Nat:=match (P.info? e).map (·.bytes),cQ P e,jx P e with
 |some Df,some (z+1),some zs=>if decide (Df<=256)&&decide (av zs=z+1) then some z else none
 |_,_,_=>none
def wz (k:Nat) (h:List Blk) (j:Nat) (e:TypeId) (x y:SV):Option jr:=match x,y,isInt P e,sI P e with
 | .nl (.slice none 0 0),.int .i64 n,some ki,some 0=>some ⟨.sl j 0 0 1 n.toNat n.toNat false true,h,[.b [.ints ki n.toNat (List.replicate n.toNat 0)]],none,decide (0<=n)&&decide (n<=2^38)⟩
 | .bK b z' len _ _,.int .i64 m,none,some z=>match h[b]?,jx P e with
  |some (.b [.rows zz n g]),some zs=>
   if Nat.ble k b&&decide (z'=z+1)&&decide (zz=z+1)&&kI zs&&cO zs&&dA b (h.set b (.b [.rows zz (len+m.toNat) λi=>br (Nat.ble (i+1) len) (g i) zs])) then
    some ⟨.bK b z' (len+m.toNat) (len+m.toNat) false,h.set b (.b [.rows zz (len+m.toNat) λi=>br (Nat.ble (i+1) len) (g i) zs]),[],some b,decide (len<=n)&&decide (0<=m)&&decide (len+m.toNat<=2^38)⟩ else none
  |_,_=>none
 |_,_,_,_=>none
def U5 (h:List Blk) (b:Nat) (k:IntKind) (ys:List Int) (ny len:Nat):Option (List Blk×Bool):=match h[b]? with
 |some (.b [.ints k' m xs])=>if k'=k then some (h.set b (.b [.ints k (m+ny) (xs++ys)]),decide (xs.length=m)&&decide (len=m)&&decide (ys.length=ny)) else none
 |_=>none
def Fq (ey ex wh:Bool) (cap:Nat):Bool:=match ey with
 |true=>false
 |false=>match ex,wh with
  |true,false=>Nat.beq cap 0
  |_,_=>false
def Fs (ex:Bool) (cap:Nat):Bool:=match ex with
 |true=>Nat.beq cap 0
 |false=>false
def J9 (cy:List SV) (j z ny:Nat):SV:=match cy with
 | [.rows _ _ _]=>.bK j z ny ny false
 |_=>.sl j 0 0 z ny ny false true
def rW (k:Nat) (h:List Blk) (j:Nat) (ey:Bool) (sT xT:TypeId) (x y:SV):Option jr:=
 match P.underlying sT,P.underlying xT with
 |some (.slice e),some (.int _)=>wz P k h j e x y
 |none,some (.int _)=>none
 |some (.slice e),some _=>match sI P e,cu h y,oK y with
  |some z,some (cy,py),some ny=>match x with
   | .nl (.slice none 0 0)=>some ⟨J9 cy j (z+1) ny,h,[.b cy],none,aa (aa py (cj (z+1) y)) (decide (ny<=2^38))⟩
   | .sl b o i z' len cap ex wh=>match Fq ey ex wh cap with
    |true=>some ⟨.sl j 0 0 (z+1) ny ny false true,h,[.b cy],none,aa (aa py (cj (z+1) y)) (decide (ny<=2^38))⟩
    |false=>match ey with
     |true=>match cy,z,z',wh with
      | [.ints ki _ ys],0,1,false=>(qc h b o (i+len) ki ys ny).map λq=>⟨.sl b o i 1 (len+ny) cap ex false,q.1,[],none,aa (aa (aa py (cj 1 y)) (decide (len+ny<=cap))) q.2⟩
      | [.ints ki _ ys],0,1,true=>match o,i with
       |0,0=>(U5 h b ki ys ny len).map λq=>⟨.sl b 0 0 1 (len+ny) cap ex true,q.1,[],none,aa (aa (aa py (cj 1 y)) (decide (len+ny<=cap))) q.2⟩
       |_,_=>none
      |_,_,_,_=>none
     |false=>match cu h x with
      |some (cx,px)=>if Nat.ble k b&&decide (z'=z+1)&&kI cy&&dA b (h.set b (.b (lE cx cy))) then
       some ⟨.sl b 0 0 (z+1) (len+ny) (len+ny) false true,h.set b (.b (lE cx cy)),[],some b,aa (aa (aa (aa py px) (wv cx)) (cj (z+1) y)) (decide (len+ny<=2^38))⟩
       else if ex&&decide (z'=z+1) then some ⟨.sl j 0 0 (z+1) (len+ny) (len+ny) false true,h,[.b (lE cx cy)],none,aa (aa (aa (aa (aa py px) (wv cx)) (cj (z+1) y)) (decide (len+ny<=2^38))) (decide (cap<len+ny))⟩ else none
      |none=>none
   | .bK b z' len cap ex=>match Fs ex cap with
    |true=>some ⟨J9 cy j (z+1) ny,h,[.b cy],none,aa (aa py (cj (z+1) y)) (decide (ny<=2^38))⟩
    |false=>match N3 cy with
     |some q=>match h[b]? with
      |some (.b [.rows zz n g])=>
       if Nat.ble k b&&decide (z'=z+1)&&decide (zz=z+1)&&decide (q.1=z+1)&&dA b (h.set b (.b [.rows zz (len+ny) λi=>br (Nat.ble (i+1) len) (g i) (q.2.2 (i-len))])) then
        some ⟨.bK b z' (len+ny) (len+ny) false,h.set b (.b [.rows zz (len+ny) λi=>br (Nat.ble (i+1) len) (g i) (q.2.2 (i-len))]),[],some b,aa (aa (aa py (decide (len<=n))) (cj (z+1) y)) (aa (decide (q.2.1=ny)) (aa ((List.range ny).all λi=>kI (q.2.2 i)) (decide (len+ny<=2^38))))⟩ else none
      |_=>none
     |none=>match ny,h[b]? with
     |1,some (.b [.rows zz n g])=>
      if Nat.ble k b&&decide (z'=z+1)&&decide (zz=z+1)&&kI cy&&cO cy&&dA b (h.set b (.b [.rows zz (len+1) λi=>br (Nat.ble (i+1) len) (g i) cy])) then
       some ⟨.bK b z' (len+1) (len+1) false,h.set b (.b [.rows zz (len+1) λi=>br (Nat.ble (i+1) len) (g i) cy]),[],some b,aa (aa (aa py (decide (len<=n))) (cj (z+1) y)) (decide (len+1<=2^38))⟩
      else if ex&&decide (z'=z+1)&&decide (zz=z+1)&&kI cy&&cO cy then
       match ey with
       |true=>some ⟨.bK b z' (len+1) cap true,h.set b (.b [.rows zz (len+1) λi=>br (Nat.ble (i+1) len) (g i) cy]),[],none,aa (aa (aa py (decide (len<=n))) (cj (z+1) y)) (decide (len+1<=cap))⟩
       |false=>some ⟨.bK j z' (len+1) (len+1) false,h,[.b [.rows zz (len+1) λi=>br (Nat.ble (i+1) len) (g i) cy]],none,aa (aa (aa py (decide (len<=n))) (cj (z+1) y)) (aa (decide (cap<len+1)) (decide (len+1<=2^38)))⟩
      else none
     |_,_=>none
   |_=>none
  |_,_,_=>none
 |_,_=>none
def Ft (h:List Blk) (dT:TypeId) (x y:SV):Option (List Blk×SV×Bool):=
 match P.underlying dT,x,cu h y,oK y with
 |some (.slice e),.sl b o i 1 len _ _ _,some ([.ints k _ ys],p),some ny=>match cQ P e with
  |some 1=>(qc h b o i k ys (Nat.min ny len)).map λq=>(q.1,.int .i64 (Nat.min ny len),aa (aa p (cj 1 y)) q.2)
  |_=>none
 |_,_,_,_=>none
def sJ (h:List Blk) (src dst:TypeId):Option SV->Option jr
 |some (.str xs)=>match P.underlying dst with
  |some (.slice e)=>match isInt P e,cQ P e with
   |some .u8,some 1=>match P.underlying src with
    |some _=>some (.of h (.ro true .u8 xs,true))
    |none=>none
   |_,_=>none
  |_=>(BJ P src dst (.str xs)).map λv=>.of h (v,true)
 |some (.int k n)=>(BJ P src dst (.int k n)).map λv=>.of h (v,true)
 |some (.nl (.slice none 0 0))=>match P.underlying src,P.underlying dst with
  |some (.slice e),some .string=>match isInt P e with
   |some .u8=>some (.of h (.str [],true))
   |_=>none
  |_,_=>none
 |some a=>match P.underlying src,P.underlying dst,cu h a,oK a with
  |some (.slice e),some .string,some ([.ints .u8 m xs],p),some _=>match isInt P e with
   |some .u8=>some (.of h (.str xs,aa (aa p (cj 1 a&&decide (xs.length=m))) (Pr xs)))
   |_=>none
  |_,_,_,_=>none
 |none=>none
def Aj (k:Nat) (h:List Blk) (dst:TypeId):Option SV->Option jr
 |some (.sl b 0 0 1 (n+1) m true true)=>match P.underlying dst,h[b]? with
  |some (.slice e),some (.b [.ints .u8 q xs])=>match isInt P e,Nat.ble k b&&Nat.beq m (n+1)&&Nat.beq q (n+1)&&dA b (h.set b .gap) with
   |some .u8,true=>some ⟨.ro true .u8 xs,h.set b .gap,[],some b,decide (xs.length=n+1)⟩
   |_,_=>none
  |_,_=>none
 |_=>none
def l6 (G:bH) (ey:Tmp->Bool) (k:Nat) (t:List (Option SV)) (h:List Blk) (j:Nat) (o:Oper):Option jr:=
 match o.op with
 | .move x| .assign x=>(ev t x).map λv=>.of h (v,true)
 | .pick c a b=>match ev t c with
  |some (.bool true)=>(ev t a).map λv=>.of h (v,true)
  |some (.bool false)=>(ev t b).map λv=>.of h (v,true)
  |_=>none
 | .alloc e=>(jx P e).map λps=>⟨.ptr j 0 0,h,[.b ps],none,true⟩
 | .box _ x=>(ev t x).map λv=>⟨.ptr j 0 0,h,[.b (partsOf v)],none,(partsOf v).all λp=>one p||x6 p⟩
 | .build ty ps=>match rF t (ps.toList.map (·.2)) with
  |some vs=>(Af P ty ((ps.toList.map (·.1)).zip vs)).map (.of h)
  |none=>none
 | .buildSlice ty len ps=>match rF t (ps.toList.map (·.2)) with
  |some vs=>(jz P ty len ((ps.toList.map (·.1)).zip vs)).map λq=>⟨.sl j 0 0 q.2.1 len len true true,h,[.b q.1],none,q.2.2⟩
  |none=>none
 | .makeSlice ty l c=>match ev t l,ev t c with
  |some a,some b=>(kH P ty a b).map λq=>⟨.sl j 0 0 q.2.1 q.2.2.1 q.2.2.2.1 true (Pq l c),h,[.b q.1],none,q.2.2.2.2⟩
  |_,_=>none
 | .load ty x=>match ev t x with
  |some a=>(qR P ty h a).map (.of h)
  |none=>none
 | .store ty x y=>match ev t x,ev t y with
  |some a,some v=>(fP P ty h v a).map λq=>⟨.bC [],q.1,[],none,q.2⟩
  |_,_=>none
 | .nilCheck x=>match ev t x with
  |some (.ptr b o i)=>some (.of h (.ptr b o i,true))
  |some (.oF k xs i)=>some (.of h (.oF k xs i,true))
  |some (.lX f z l g e o i)=>some (.of h (.lX f z l g e o i,true))
  |some (.dm b z e o i)=>some (.of h (.dm b z e o i,true))
  |some (.dU g i)=>some (.of h (.dU g i,true))
  |some (.fn (.func f) a b)=>some (.of h (.fn (.func f) a b,true))
  |_=>none
 | .binOp op ty x y _=>match ev t x,ev t y with
  |some (.int k a),some (.int k' b)=>(ya op k a k' b).map (.of h)
  |some a,some b=>(Z3 P op ty x y a b).map (.of h)
  |_,_=>none
 | .unOp op _ x=>match ev t x with
  |some a=>(Ai op a).map λv=>.of h (v,true)
  |none=>none
 | .convert src dst x=>match Nat.beq src dst with
  |true=>Aj P k h dst (ev t x)
  |false=>sJ P h src dst (ev t x)
 | .sliceToArrayPointer arr x=>match P.underlying arr,ev t x with
  |some (.array (n+1) e),some (.sl b o i 1 len _ _ _)=>match isInt P e with
   |some _=>some (.of h (.ptr b o i,decide (n+1<=len)))
   |none=>none
  |some (.array (n+1) e),some (.ro _ k xs)=>match isInt P e with
   |some _=>some (.of h (.oF k xs 0,decide (n+1<=xs.length)))
   |none=>none
  |_,_=>none
 | .makeInterface ty x=>match P.underlying ty,ev t x with
  |some (.interface _),_=>none
  |some _,some v=>if one v then some (.of h (.iface ty v,true)) else none
  |_,_=>none
 | .makeFunc fn first captured=>match rF t first.toList,rF t captured.toList with
  |some a,some b=>some (.of h (.fn fn a b,true))
  |_,_=>none
 | .fieldAddr ty x i=>match ev t x with
  |some a=>(nV P ty i a).map λv=>.of h (v,true)
  |none=>none
 | .field ty x i=>match ev t x with
  |some a=>(Ag P ty i a).map (.of h)
  |none=>none
 | .indexAddr ty x i=>match ev t x,ev t i with
  |some a,some b=>(nW P ty a b).map (.of h)
  |_,_=>none
 | .index ty x i=>match ev t x,ev t i with
  |some a,some b=>(Ah P ty a b).map (.of h)
  |_,_=>none
 | .slice ty x lo hi mx=>match ev t x,EU t lo,EU t hi,EU t mx with
  |some a,some l,some u,some m=>match BI lo hi mx with
   |true=>(jM P ty h a l u m).map (.of h)
   |false=>(l5 P ty h a l u m).map (.of h)
  |_,_,_,_=>none
 | .typeAssert x _ asserted ok=>match ev t x with
  |some a=>(wu P asserted ok a).map λv=>.of h (v,true)
  |none=>none
 | .extract x i=>match ev t x with
  |some (.bC vs)=>(vs[i]?).map λv=>.of h (v,true)
  |_=>none
 | .call c=>match c.callee with
  | .value f=>match ev t f,rF t c.args.toList with
   |some (.fn f first lO),some vs=>match yOK f lO with
    |true=>(G f (first++vs++lO) h j).map λq=>⟨q.1,q.2.1,q.2.2.1,none,q.2.2.2⟩
    |false=>none
   |_,_=>none
  | .builtin .len=>match c.argTypes.toList,rF t c.args.toList with
   | [ty],some [a]=>(Pp P ty a).map λv=>.of h (v,true)
   |_,_=>none
  | .builtin .cap=>match c.argTypes.toList,rF t c.args.toList with
   | [ty],some [a]=>(Fm P ty a).map λv=>.of h (v,true)
   |_,_=>none
  | .builtin .min=>match rF t c.args.toList with
   |some (.int k a::vs)=>(Fo k a vs).map λn=>.of h (.int k n,true)
   |_=>none
  | .builtin .append=>match c.argTypes.toList,rF t c.args.toList with
   | [ty,xt],some [a,b]=>rW P k h j ((o.dst.map ey).getD false) ty xt a b
   |_,_=>none
  | .builtin .copy=>match c.argTypes.toList,rF t c.args.toList with
   | [ty,_],some [a,b]=>(Ft P h ty a b).map λq=>⟨q.2.1,q.1,[],none,q.2.2⟩
   |_,_=>none
  |_=>none
 |_=>none
def bw (t:List (Option SV)) (d:Option Tmp) (v:SV):List (Option SV):=
 match d with
 |some i=>t.set i (some v)
 |none=>t
def ez (b:Option Nat) (t:List (Option SV)):List (Option SV):=match b with
 |none=>t
 |some b=>t.map λ|some v=>if uses b v then none else some v|none=>none
def ei (sym:Tmp->Option Bool) (d:Option Tmp) (v:SV):SV×Bool:=
 match d with
 |none=>(v,true)
 |some i=>match sym i with
  |none=>(v,true)
  |some b=>match v with
   | .bool x=>(.bool b,match b with|true=>x|false=>!x)
   |_=>(v,true)
def eV (ops:Array Oper) (t:List (Option SV)) (o:Oper):Option Bool:=
 match o.guard with
 |none=>some true
 |some (j,want)=>match (ops.toList[j]?).bind (·.dst) with
  |none=>some false
  |some i=>match t[i]? with
   |none=>some false
   |some none=>none
   |some (some (.bool b))=>some (b==want)
   |some (some (.nl _))=>none
   |some (some _)=>some false
def bV (h:List Blk) (j:Nat):List Blk->List Blk
 | []=>h
 |b::bs=>bV (h.set j b) (j+1) bs
def bI (h:List Blk) (j:Nat) (new:List Blk):List Blk:=if j=h.length then h++new else bV h j new
def yf (G:bH) (sym:Tmp->Option Bool) (ey:Tmp->Bool) (k:Nat) (ops:Array Oper) (o:Oper) (s:St):Option St:=
 match eV ops s.t o with
 |some true=>match l6 P G ey k s.t s.h s.h.length o with
  |some r=>some ⟨bw (ez r.kill s.t) o.dst (ei sym o.dst r.v).1,bI r.h s.h.length r.new,aa (aa s.ob r.p) (ei sym o.dst r.v).2⟩
  |none=>none
 |some false=>some ⟨bw s.t o.dst (.bC []),s.h,s.ob⟩
 |none=>none
def b7 (G:bH) (sym:Tmp->Option Bool) (ey:Tmp->Bool) (k:Nat) (ops:Array Oper):List Nat->St->Option St
 | [],s=>some s
 |i::is,s=>match ops.toList[i]? with
  |none=>b7 G sym ey k ops is s
  |some o=>match yf P G sym ey k ops o s with
   |some s'=>b7 G sym ey k ops is s'
   |none=>none
def nH (nb:FuncId->Nat):Op->Nat
 | .alloc _| .box .. | .buildSlice .. | .makeSlice .. =>1
 | .call c=>match c.callee with
  | .value (.func f)=>nb f
  | .value (.tmp t)=>nb (1000000000+t)
  | .builtin .append=>match c.args.toList with
   | [.tmp t,_]=>nb (2000000000+t)
   |_=>0
  |_=>0
 |_=>0
def makes (nb:FuncId->Nat) (ops:List Oper):Nat:=(ops.map λo=>nH nb o.op).sum
def cD (nb:FuncId->Nat) (ops:List Oper) (n i:Nat):Nat:=n+makes nb (ops.take i)
def Fu (src dst:TypeId):Bool:=match P.underlying src,P.underlying dst with
 |some (.slice _),some .string=>true
 |_,_=>false
def cv (pf:FuncId->Nat):Op->Nat
 | .load .. =>1
 | .store .. =>2
 | .call c=>match c.callee with
  | .value (.func f)=>match pf f with
   |0=>0
   |1=>4
   |_=>5
  | .builtin .len=>0
  | .builtin .cap=>0
  | .builtin .min=>0
  |_=>5
 | .convert src dst _=>match Nat.beq src dst with
  |true=>5
  |false=>match Fu P src dst with
   |true=>1
   |false=>0
 | .slice .. =>1
 |_=>0
def gu (t:List (Option SV)):Op->Option Nat
 | .load _ x| .store _ x _| .slice _ x _ _ _=>match ev t x with
  |some (.ptr b _ _)=>some b
  |some (.dm b _ _ _ _)=>some b
  |_=>none
 | .convert _ _ x=>match ev t x with
  |some (.sl b _ _ _ _ _ _ _)=>some b
  |some (.bK b _ _ _ _)=>some b
  |_=>none
 |_=>none
def uR (t:List (Option SV)):Op->Option Nat
 | .call c=>match c.args.toList with
  | [_,x]=>match ev t x with
   |some (.sl b _ _ _ _ _ _ _)=>some b
   |some (.bK b _ _ _ _)=>some b
   |_=>none
  |_=>none
 |_=>none
def iR (nb:FuncId->Nat) (ops:List Oper) (n:Nat) (m:List Nat) (i:Nat) (t:List (Option SV)) (o:Op):Bool:=match gu t o with
 |none=>true
 |some b=>Nat.ble (b+1) n||(List.range i).any λj=>(m.getD i 0).testBit j&&(match ops[j]? with
  |some x=>Nat.ble (cD nb ops n j) b&&Nat.ble (b+1) (cD nb ops n j+nH nb x.op)
  |none=>false)
def iT (h:List Blk) (j:Nat):Nat->Bool
 |0=>true
 |n+1=>(match h[j]? with|some .gap=>true|_=>false)&&iT h (j+1) n
def yg (Γ:bO):Tmp->Bool:=λd=>match Γ.sym d with
 |some false=>false
 |_=>true
def BK (Γ:bO) (G:bH) (k:Nat) (ops:List Oper) (n:Nat) (m:List Nat) (i:Nat) (t:List (Option SV)) (h:List Blk) (o:Oper):Option (SV×List Blk×Bool×List Blk):=
 match iR Γ.nb ops n m i t o.op,l6 P G (yg Γ) k t h (cD Γ.nb ops n i) o with
 |true,some r=>match r.kill.isNone&&decide (r.new.length=nH Γ.nb o.op)&&iT h (cD Γ.nb ops n i) (nH Γ.nb o.op)&&decide (r.h.length=h.length) with
  |true=>some (r.v,bV r.h (cD Γ.nb ops n i) r.new,r.p,r.new)
  |false=>none
 |_,_=>none
def isApp:Op->Bool
 | .call c=>match c.callee with
  | .builtin .append=>true
  |_=>false
 |_=>false
def yh (Γ:bO) (o:Oper):Bool:=match isApp o.op with
 |true=>match o.dst with
  |some d=>match Γ.sym d with
   |some true=>true
   |_=>false
  |none=>false
 |false=>false
structure Fp where
 q:Nat
 a:Option Nat
 c:Option Nat
 sl:List (Option (Option SV))
 v:SV
 new:List Blk
def iU (ops:Array Oper) (o:Oper):List Tmp:=match o.guard with
 |some (g,_)=>((ops.toList[g]?).bind (·.dst)).toList
 |none=>[]
def dV (Γ:bO) (G:bH) (k:Nat) (ops:Array Oper) (n:Nat) (m:List Nat) (i:Nat) (o:Oper) (s:St):Option (St×Fp):=
 match eV ops s.t o with
 |some true=>match yh Γ o with
  |true=>match l6 P G (λ_=>false) k s.t s.h (cD Γ.nb ops.toList n i) o with
   |some r=>match r.new with
    | []=>some (⟨bw (ez r.kill s.t) o.dst r.v,r.h,aa s.ob r.p⟩,⟨2,r.kill,uR s.t o.op,[],.bC [],[]⟩)
    |_=>none
   |none=>none
  |false=>match BK P Γ G k ops.toList n m i s.t s.h o with
   |some q=>some (⟨bw s.t o.dst (ei Γ.sym o.dst q.1).1,q.2.1,aa (aa s.ob q.2.2.1) (ei Γ.sym o.dst q.1).2⟩,⟨1,gu s.t o.op,none,(o.looksAt ops).map λi=>s.t[i]?,(ei Γ.sym o.dst q.1).1,q.2.2.2⟩)
   |none=>none
 |some false=>some (⟨bw s.t o.dst (.bC []),s.h,s.ob⟩,⟨0,none,none,(iU ops o).map λi=>s.t[i]?,.bC [],[]⟩)
 |none=>none
def wD (Γ:bO) (G:bH) (k:Nat) (ops:Array Oper) (n:Nat) (m:List Nat):List Nat->St->Option (St×List Fp)
 | [],s=>some (s,[])
 |i::is,s=>match ops.toList[i]? with
  |none=>none
  |some o=>match dV P Γ G k ops n m i o s with
   |some (s',f)=>match wD Γ G k ops n m is s' with
    |some (s2,fs)=>some (s2,f::fs)
    |none=>none
   |none=>none
def Pu (a na b nb:Nat):Bool:=
 (a==0&&(b==0||b==1||b==2||na==0))||(b==0&&(a==1||a==2||(a==4&&na==0)||nb==0))||((a==1||a==4)&&(b==1||b==4)&&na==0&&nb==0)
def Fv (a:Nat) (p:Option Nat) (b:Nat) (q:Option Nat):Bool:=((a==2&&(b==1||b==2))||(a==1&&b==2))&&(match p,q with
 |some x,some y=>!Nat.beq x y
 |_,_=>false)
def kJ (b:Nat):Option (Option SV)->Bool
 |some (some v)=>!uses b v
 |_=>false
def Ka (b r n:Nat):Bool:=Nat.ble (b+1) r||Nat.ble (r+n) b
def vt (f:Fp) (cls n r:Nat) (g:Fp):Bool:=match f.a with
 |some b=>(cls==0||(cls==1&&(match g.a with|some d=>!Nat.beq d b|none=>true)))&&g.sl.all (kJ b)&&!uses b g.v&&dA b g.new&&Ka b r n&&(match f.c with|some c=>Ka c r n|none=>true)
 |none=>false
def yj (Γ:bO) (ops:List Oper) (n:Nat) (i:Nat) (x:Oper) (f:Fp) (j:Nat) (y:Oper) (g:Fp):Bool:=match f.q,g.q with
 |1,1=>Pu (cv P Γ.pf x.op) (nH Γ.nb x.op) (cv P Γ.pf y.op) (nH Γ.nb y.op)||Fv (cv P Γ.pf x.op) f.a (cv P Γ.pf y.op) g.a
 |2,1=>vt f (cv P Γ.pf y.op) (nH Γ.nb y.op) (cD Γ.nb ops n j) g
 |1,2=>vt g (cv P Γ.pf x.op) (nH Γ.nb x.op) (cD Γ.nb ops n i) f
 |0,0=>true
 |0,1=>true
 |1,0=>true
 |2,0=>(match f.a with|some b=>g.sl.all (kJ b)|none=>false)
 |0,2=>(match g.a with|some b=>f.sl.all (kJ b)|none=>false)
 |_,_=>false
def yl (fs:List Fp) (i:Nat):Fp:=match fs[i]? with
 |some f=>f
 |none=>⟨3,none,none,[],.bC [],[]⟩
def Fw (Γ:bO) (n:Nat) (fs:List Fp) (ops:Array Oper) (i:Nat) (x:Oper) (j:Nat) (y:Oper):Bool:=
 x.apart ops y&&yj P Γ ops.toList n i x (yl fs i) j y (yl fs j)
def Fx (acc:List Nat) (o:Oper):Nat:=
 o.after.toList.foldl (λs e=>if Region.binds .any e then s|||2^e.on|||acc.getD e.on 0 else s) 0
def masks:List Oper->List Nat->List Nat
 | [],acc=>acc
 |o::os,acc=>masks os (acc++[Fx acc o])
def wE (Γ:bO) (n:Nat) (fs:List Fp) (ops:Array Oper):Bool:=
 let m:=masks ops.toList []
 ops.toList.zipIdx.all λ(y,j)=>y.after.toList.all (λe=>!Region.binds .any e||decide (e.on<j))&&
  (ops.toList.zipIdx.take j).all λ(x,i)=>(m.getD j 0).testBit i||Fw P Γ n fs ops i x j y
def iD (t:List (Option SV)) (h:List Blk):List ResultVar->Option (List SV×Bool)
 | []=>some ([],true)
 | .tmp i::rs=>match ev t (.tmp i),iD t h rs with
  |some v,some (l,p)=>some (v::l,p)
  |_,_=>none
 | .cell a ty::rs=>match ev t (.tmp a) with
  |some x=>match qR P ty h x,iD t h rs with
   |some (v,q),some (l,p)=>some (v::l,aa p q)
   |_,_=>none
  |none=>none
def oneOf:List SV->SV
 | [v]=>v
 |vs=>.bC vs
def aD (n:Nat) (args:List SV):List (Option SV):=args.map some++List.replicate (n-args.length) none
def BL (ex:Code->St->Option (Exit×St)) (fn:Func) (args:List SV) (h:List Blk):Option (SV×List Blk×Bool):=
 match fn.body with
 |none=>none
 |some c=>match ex c ⟨aD fn.ntmps args,h,true⟩ with
  |some (.ret,s)=>(iD P s.t s.h fn.results.toList).map λq=>(oneOf q.1,s.h,aa s.ob q.2)
  |some (.normal,s)=>(iD P s.t s.h fn.results.toList).map λq=>(oneOf q.1,s.h,aa s.ob q.2)
  |_=>none
def ym (t:List (Option SV)):List Tmp->List SV->List (Option SV)
 |i::is,v::vs=>ym (t.set i (some v)) is vs
 |_,_=>t
def sK:List Blk->Nat->Option (Nat×Lp)
 | [],_=>none
 |b::bs,i=>match sK bs (i+1) with
  |some q=>some q
  |none=>match b with
   | .g (some L)=>match L.st with
    | .ready=>some (i,L)
    |_=>none
   |_=>none
def wH:Exit->Option (Option Code)
 | .normal=>some none
 | .ret=>some (some .ret)
 | .exit id=>some (some (.exit id))
 |_=>none
def oL (h:List Blk) (i:Nat):Option Lp:=match h[i]? with
 |some (.g (some L))=>some L
 |_=>none
def Fy (ex:Code->St->Option (Exit×St)) (l:Nat) (vs:List SV) (h:List Blk):Option (SV×List Blk×Bool):=
 match sK h 0 with
 |none=>none
 |some (i,L)=>match Nat.beq L.ps.size vs.length,ex L.sw ⟨ym L.t L.ps.toList vs,h,decide (L.l=l)⟩ with
  |true,some (.normal,s1)=>match oL s1.h i with
   |none=>none
   |some L1=>match L1.st,ex L.body ⟨s1.t,s1.h.set i (.g (some {L1 with st:=.busy})),aa s1.ob (decide (L1.l=l))⟩ with
    | .ready,some (x,s2)=>match wH x,oL s2.h i with
     |some q,some L2=>some (.bool q.isNone,s2.h.set i (.g (some {L2 with st:=if q.isNone then .ready else .done,iQ:=q})),aa s2.ob (decide (L2.l=l)))
     |_,_=>none
    |_,_=>none
  |_,_=>none
def dH (Γ:bO) (ex:Nat->Code->St->Option (Exit×St)):bH:=λf vs h j=>
 match f with
 | .func f=>match Γ.inl f with
  |some fn=>match BL P (ex h.length) fn vs h with
   |some (v,h',p)=>if Nat.beq (h'.length-h.length) 0||Nat.beq j h.length then some (v,h'.take h.length,h'.drop h.length,p) else none
   |none=>none
  |none=>Γ.g f vs h j
 | .yield l=>match Γ.yc l vs h with
  |some (v,h',p)=>some (v,h',[],p)
  |none=>match Fy (ex h.length) l vs h with
   |some (v,h',p)=>if Nat.beq (h'.length-h.length) 0||Nat.beq j h.length then some (v,h'.take h.length,h'.drop h.length,p) else none
   |none=>none
 |_=>none
def exec (Γ:bO):Nat->Nat->Code->St->Option (Exit×St)
 |0,_,_,_=>none
 |n+1,k,c,s=>match c with
  | .skip=>some (.normal,s)
  | .label _=>some (.normal,s)
  | .seq a b=>match exec Γ n k a s with
   |some (.normal,s')=>exec Γ n k b s'
   |r=>r
  | .cond c x y=>match ev s.t c with
   |some (.bool true)=>exec Γ n k x s
   |some (.bool false)=>exec Γ n k y s
   |_=>none
  | .block id b=>match exec Γ n k b s with
   |some (.exit j,s')=>if j=id then some (.normal,s') else some (.exit j,s')
   |r=>r
  | .loop b=>match exec Γ n k b s with
   |some (.normal,s')=>exec Γ n k (.loop b) s'
   |r=>r
  | .scope b=>match exec Γ n k b s with
   |some (.goto _,_)=>none
   |r=>r
  | .exit id=>some (.exit id,s)
  | .ret=>some (.ret,s)
  | .region _ ops draw=>match draw with
   |true=>match P.follows .mixedOrders,wD P Γ (dH P Γ λk=>exec Γ n k) k ops s.h.length (masks ops.toList []) (List.range ops.size) ⟨s.t,s.h++List.replicate (makes Γ.nb ops.toList) .gap,s.ob⟩ with
    |true,some (s',fs)=>match wE P Γ s.h.length fs ops with
     |true=>some (.normal,s')
     |false=>none
    |_,_=>none
   |false=>(b7 P (dH P Γ λk=>exec Γ n k) Γ.sym Γ.ey k ops (List.range ops.size) s).map λs'=>(.normal,s')
  |_=>none
def aG (Γ:bO) (n:Nat) (fn:Func) (args:List SV) (h:List Blk):Option (SV×List Blk×Bool):=BL P (exec P Γ n h.length) fn args h
end
end Go.Sy
namespace Go.Sy
open Go
section
variable {P:Program} {e:Env}
theorem VR.empty:VR e (.bC []) undef:=⟨[],rfl,rfl⟩
theorem TR.get {t:List (Option SV)} {t':List Value} (h:TR e t t') {i:Nat} {v:SV} (g:t[i]? =some (some v)):∃v',t'[i]? =some v'/\VR e v v':=by
 have hi:i<t'.length:=by rw [<-h.1];exact (aal.1 g).1
 exact ⟨t'[i],aai hi,h.2 i v _ g (aai hi)⟩
theorem TR.set {t:List (Option SV)} {t':List Value} (h:TR e t t') {v:SV} {v':Value} (g:VR e v v') (i:Nat):TR e (t.set i (some v)) (t'.set i v'):=by
 refine ⟨by simp [h.1],λj x x' hx hx'=>?_⟩
 by_cases hij:i=j
 ·subst hij
  have h1:i<t.length:=by have:=(aal.1 hx).1;simpa using this
  have h2:i<t'.length:=by rw [<-h.1];exact h1
  rw [aay h1] at hx
  rw [aay h2] at hx'
  cases hx;cases hx'
  exact g
 ·rw [aau hij] at hx hx'
  exact h.2 j x x' hx hx'
theorem TR.mono {e':Env} (h:Env.Le e e') {t:List (Option SV)} {t':List Value} (g:TR e t t'):TR e' t t':=
 ⟨g.1,λi v v' a b=>VR.mono h (g.2 i v v' a b)⟩
theorem TR.kill {e':Env} (hz:∀n o,e.z n=some o->e'.z n=some o) (hn:e'.n0<=e.n0) {b:Nat} (hr:∀j p,j≠b->e.r j=some p->e'.r j=some p) {t:List (Option SV)} {t':List Value} (g:TR e t t'):TR e' (ez (some b) t) t':=by
 refine ⟨by simp [ez,g.1],λi v v' a c=>?_⟩
 simp only [ez,aaO] at a
 cases hq:t[i]? with
 |none=>simp [hq] at a
 |some x=>
  cases x with
  |none=>simp [hq] at a
  |some x=>
   simp only [hq,aaH,No] at a
   split at a
   ·cases a
   ·rename_i hu
    cases a
    refine VR.mono' hz hn v v' (λj p hj hp=>hr j p (λq=>?_) hp) (g.2 i v v' hq c)
    subst q;exact hu hj
mutual
theorem jT:∀{v:Value} {s:SV},qb v=some s->VR e s v
 | .bool b,s,h=>by simp only [qb,No] at h;subst h;exact rfl
 | .int k n,s,h=>by simp only [qb,No] at h;subst h;exact rfl
 | .string x,s,h=>by simp only [qb,No] at h;subst h;exact ⟨x,rfl,rfl⟩
 | .pointer none,s,h=>by simp only [qb,No] at h;subst h;exact rfl
 | .pointer (some a),s,h=>by simp [qb] at h
 | .slice none 0 0,s,h=>by simp only [qb,No] at h;subst h;exact rfl
 | .slice none (_+1) _,s,h=>by simp [qb] at h
 | .slice none 0 (_+1),s,h=>by simp [qb] at h
 | .slice (some _) _ _,s,h=>by simp [qb] at h
 | .map none,s,h=>by simp only [qb,No] at h;subst h;exact rfl
 | .map (some _),s,h=>by simp [qb] at h
 | .chan none,s,h=>by simp only [qb,No] at h;subst h;exact rfl
 | .chan (some _),s,h=>by simp [qb] at h
 | .nilFunc,s,h=>by simp only [qb,No] at h;subst h;exact rfl
 | .nilIface,s,h=>by simp only [qb,No] at h;subst h;exact rfl
 | .float _ _,s,h=>by simp [qb] at h
 | .complex _ _ _,s,h=>by simp [qb] at h
 | .agg _,s,h=>by simp [qb] at h
 | .tuple ⟨xs⟩,s,h=>by
  simp only [qb] at h
  obtain ⟨a,h1,rfl⟩:=aag.1 h
  exact ⟨xs,mS h1,rfl⟩
 | .iface t x,s,h=>by
  simp only [qb] at h
  obtain ⟨a,h1,rfl⟩:=aag.1 h
  exact ⟨x,jT h1,rfl⟩
 | .func f ⟨xs⟩ ⟨ys⟩,s,h=>by
  simp only [qb] at h
  split at h
  ·rename_i a b h1 h2
   cases h
   exact ⟨xs,ys,mS h1,mS h2,rfl⟩
  ·cases h
theorem mS:∀{v:List Value} {s:List SV},Po v=some s->LR e s v
 | [],s,h=>by simp only [Po,No] at h;subst h;exact rfl
 |x::xs,s,h=>by
  simp only [Po] at h
  split at h
  ·rename_i a b h1 h2
   cases h
   exact ⟨x,xs,jT h1,mS h2,rfl⟩
  ·cases h
end
theorem aK {t:List (Option SV)} {t':List Value} {d:List Deferred} (h:TR e t t') {x:Operand} {v:SV} (g:ev t x=some v):VR e v (Act.eval ⟨⟨t'⟩,d⟩ x):=by
 cases x with
 |tmp i=>
  simp only [ev] at g
  split at g
  ·rename_i u hu
   cases g
   obtain ⟨v',Kb,hv⟩:=h.get hu
   have:Act.eval ⟨⟨t'⟩,d⟩ (.tmp i)=v':=by
    show (⟨t'⟩:Array Value).getD i undef=v'
    rw [Array.getD_eq_getD_getElem?]
    simp [Kb]
   rw [this]
   exact hv
  ·cases g
 |const c=>exact jT g
 |func f=>simp only [ev,No] at g;subst g;exact ⟨[],[],rfl,rfl,rfl⟩
 |global g'=>
  simp only [ev] at g
  split at g
  ·cases g;rfl
  ·cases g
theorem qd {t:List (Option SV)} {t':List Value} {d:List Deferred} (h:TR e t t'):∀{xs:List Operand} {vs:List SV},rF t xs=some vs->LR e vs (xs.map (Act.eval ⟨⟨t'⟩,d⟩))
 | [],vs,g=>by simp [rF] at g;subst g;rfl
 |x::xs,vs,g=>by
  simp only [rF] at g
  split at g
  ·rename_i v vs' hx hxs;cases g
   exact ⟨_,_,aK h hx,qd h hxs,rfl⟩
  ·cases g
def VO (e:Env):Option SV->Option Value->Prop
 |none,y=>y=none
 |some x,y=>∃z,y=some z/\VR e x z
theorem iH {t:List (Option SV)} {t':List Value} {d:List Deferred} (h:TR e t t') {x:Option Operand} {v:Option SV} (g:EU t x=some v):VO e v (x.map (Act.eval ⟨⟨t'⟩,d⟩)):=by
 cases x with
 |none=>simp only [EU,No] at g;subst g;rfl
 |some x=>
  simp only [EU] at g
  obtain ⟨u,hu,rfl⟩:=aag.1 g
  exact ⟨_,rfl,aK h hu⟩
theorem bR {t:TypeId} {n:Nat} (h:cQ P t=some n) (w:World):(sizeOf t).run P w= .ok n w:=by
 cases hq:P.info? t with
 |none=>simp [cQ,hq] at h
 |some i=>simp [cQ,hq] at h;subst h;simp [sizeOf,typeInfo,hq]
theorem vu {t:TypeId} {n:Nat} (h:cQ P t=some n):∃i,P.info? t=some i/\i.size=n:=by
 cases hq:P.info? t with
 |none=>simp [cQ,hq] at h
 |some i=>simp [cQ,hq] at h;exact ⟨i,rfl,h⟩
theorem fy {t:TypeId} {z:Value} (h:zeroOf P t=some z) (w:World):(zeroValue t).run P w= .ok z w:=by
 cases hq:P.info? t with
 |none=>simp [zeroOf,hq] at h
 |some i=>simp [zeroOf,hq] at h;simp [zeroValue,typeInfo,hq,h]
theorem jU {t:TypeId} {b:Bool} (h:fu P t=some b) (w:World):(isAgg t).run P w= .ok b w:=by
 cases hq:P.underlying t with
 |none=>simp [fu,hq] at h
 |some d=>
  simp only [fu,hq,aaH,No] at h
  unfold isAgg
  rw [aaq,aas hq w]
  cases d<;>simp_all
theorem jV {t:TypeId} {k:IntKind} (h:isInt P t=some k):P.underlying t=some (.int k):=by
 unfold isInt at h
 split at h
 ·rename_i k' hu;cases h;exact hu
 ·cases h
theorem qT {k:IntKind}:∀{xs:List Int} {ys zs:List Value},x9 k xs ys=some zs->ys=aU k xs++zs
 | [],ys,zs,h=>by simp only [x9,No] at h;subst h;rfl
 |a::as,ys,zs,h=>by
  unfold x9 at h
  split at h
  ·rename_i h1;cases h1
  ·rename_i a' as' k' b ys' h1
   cases h1
   split at h
   ·rename_i hc
    obtain ⟨rfl,rfl⟩:=hc
    rw [qT h];rfl
   ·cases h
  ·cases h
theorem Kc {v w:Value} {a:Nat} (h:wm v=some a) (g:wm w=some a):w=v:=by
 have key:∀{u:Value} {a:Nat},wm u=some a->(a=0/\u= .pointer none)\/(a=1/\u= .slice none 0 0)\/(a=2/\u= .map none)\/(a=3/\u= .chan none)\/(a=4/\u= .nilFunc)\/(a=5/\u= .nilIface):=by
  intro u a h
  unfold wm at h
  split at h<;>simp at h<;>subst h<;>simp
 rcases key h with ⟨h1,rfl⟩|⟨h1,rfl⟩|⟨h1,rfl⟩|⟨h1,rfl⟩|⟨h1,rfl⟩|⟨h1,rfl⟩<;>rcases key g with ⟨h2,rfl⟩|⟨h2,rfl⟩|⟨h2,rfl⟩|⟨h2,rfl⟩|⟨h2,rfl⟩|⟨h2,rfl⟩<;>first|rfl|omega
theorem yo {x:SV} {y:Value} (h:Fk x y=true):VR e x y/\bn x=true:=by
 unfold Fk at h
 split at h
 ·simp at h;subst h;exact ⟨rfl,rfl⟩
 ·simp at h;obtain ⟨rfl,rfl⟩:=h;exact ⟨rfl,rfl⟩
 ·rename_i s
  refine ⟨⟨s,rfl,?_⟩,rfl⟩
  have:s.data.toList=[]:=by simpa using h
  simp [gR,this]
 ·rename_i v w
  split at h
  ·rename_i a b ha hb
   simp at h;subst h
   exact ⟨Kc ha hb,rfl⟩
  ·cases h
 ·cases h
theorem l7:∀{ps:List SV} {ys:List Value},vq ps ys=true->PR e ps ys
 | [],ys,h=>by simp [vq] at h;exact h
 |x::xs,ys,h=>by
  unfold vq at h
  split at h
  ·rename_i h1;cases h1
  ·rename_i k n l ps ys h1
   cases h1
   split at h
   ·rename_i zs hz
    simp only [aac,aab] at h
    exact ⟨zs,l7 h.2,by rw [bN h.1];exact qT hz⟩
   ·cases h
  ·rename_i p ps y ys hni h1
   cases h1
   simp only [aac] at h
   obtain ⟨hv,hn⟩:=yo (e:=e) h.1
   exact (PR.cons hn).2 ⟨y,ys,hv,l7 h.2,rfl⟩
  ·cases h
theorem Dg (v:Value):Fl v=v.cells.toList:=by cases v<;>rfl
theorem fD {t:TypeId} {ps:List SV} (h:jx P t=some ps):∃z,zeroOf P t=some z/\PR e ps z.cells.toList:=by
 unfold jx at h
 split at h
 ·rename_i z ps' hz hp
  split at h
  ·rename_i hs
   cases h
   exact ⟨z,hz,by rw [<-Dg];exact l7 hs⟩
  ·cases h
 ·cases h
theorem VR.kK {ps:List SV} {v':Value} (h:VR e (.agg ps) v'):∃ys,PR e ps ys/\v'= .agg ⟨ys⟩:=h
theorem VR.parts {v:SV} {v':Value} (h:VR e v v') (ho:one v=true\/∃ps,v= .agg ps):PR e (partsOf v) v'.cells.toList:=by
 rcases ho with ho|⟨ps,rfl⟩
 ·have h1:=h.kG ho
  have h2:partsOf v=[v]:=by cases v<;>first|rfl|cases ho
  have h3:bn v=true:=by cases v<;>first|rfl|cases ho
  have h4:v'.cells.toList=[v']:=by cases v'<;>first|rfl|cases h1
  rw [h2,h4]
  exact (PR.cons h3).2 ⟨v',[],h,rfl,rfl⟩
 ·obtain ⟨ys,h1,rfl⟩:=h.kK
  exact h1
theorem dP (n o j:Nat):(⟨n,o,none⟩:Addr).add j=⟨n,o+j,none⟩:=by unfold Addr.add;split<;>simp_all
variable {B:cP} {h:List Blk} {w:World}
theorem Rel.block (R:Rel B e h w) {b:Nat} {p:Pl} {ps:List SV} (hr:e.r b=some p) (hb:h[b]? =some (.b ps)):
  ∃c t,w.heap[p.n]? =some (.cells c t (0,0))/\p.base+p.size<=c.size/\av ps<=p.size/\PR e ps ((c.toList.drop p.base).take (av ps)):=by
 rcases R.ew b ps hb with ⟨_,hn⟩|⟨q,o,hq,ho,Pv⟩
 ·rw [hr] at hn;cases hn
 ·rw [hr] at hq;cases hq
  obtain ⟨c,t,rfl,h1,h2,h3⟩:=Pv
  exact ⟨c,t,ho,h1,h2,h3⟩
theorem Rel.tracked (R:Rel B e h w) {b:Nat} {p:Pl} (hr:e.r b=some p):∃ps,h[b]? =some (.b ps):=by
 have hd:=R.dom b p hr
 cases hq:h[b]? with
 |none=>rw [List.getElem?_eq_none_iff] at hq;omega
 |some x=>
  cases x with
  |b ps=>exact ⟨ps,rfl⟩
  |g _=>rw [(R.gap b _ hq).1] at hr;cases hr
theorem Rel.eA (R:Rel B e h w) {b:Nat} {p:Pl} (hr:e.r b=some p):∃c t,w.heap[p.n]? =some (.cells c t (0,0))/\p.base+p.size<=c.size:=by
 obtain ⟨ps,hps⟩:=R.tracked hr
 obtain ⟨c,t,h1,h2,_⟩:=R.block hr hps
 exact ⟨c,t,h1,h2⟩
theorem Rel.lt (R:Rel B e h w) {b:Nat} {p:Pl} (hr:e.r b=some p):p.n<w.heap.size:=by
 obtain ⟨c,t,h1,_⟩:=R.eA hr
 exact (aav.1 h1).1
theorem Rel.JQ (R:Rel B e h w) {n:Nat} {x} (hz:e.z n=some x):n<w.heap.size:=by
 obtain ⟨c,t,fr⟩:=x
 exact (aav.1 (R.eU n c t fr hz)).1
theorem cell_of {n:Nat} {c:Array Value} {t:TypeId} {fr:Nat×Nat} (hb:w.heap[n]? =some (.cells c t fr)) {j:Nat} {y:Value} (hy:c.toList[j]? =some y):w.cell? ⟨n,j,none⟩=some y:=by
 simp only [World.cell?,hb]
 simpa using hy
theorem fk {n o m:Nat} {c:Array Value} {t ty:TypeId} {fr:Nat×Nat} (hb:w.heap[n]? =some (.cells c t fr)) (dR:fu P ty=some true) (hs:cQ P ty=some m) (hl:o+m<=c.size):
  (loadVar ty ⟨n,o,none⟩).run P w= .ok (.agg ⟨(c.toList.drop o).take m⟩) w:=by
 have hlen:((c.toList.drop o).take m).length=m:=by simp [aaU,aaN];omega
 have hrun:=run_loadCells_list (P:=P) w ⟨n,o,none⟩ ((c.toList.drop o).take m) (λj v hv=>by
  rw [dP]
  apply cell_of hb
  have hj:j<m:=by
   have:=(aal.1 hv).1
   omega
  rwa [aa9 hj,aaQ] at hv)
 rw [hlen] at hrun
 simp [loadVar,aaq,jU dR,bR hs,hrun]
theorem dh {n o:Nat} {y:Value} {ty:TypeId} (hc:w.cell? ⟨n,o,none⟩=some y) (dR:fu P ty=some false):(loadVar ty ⟨n,o,none⟩).run P w= .ok y w:=by
 simp [loadVar,aaq,jU dR,run_load,hc]
theorem kM {ps:List SV} {o i n:Nat} {q:List SV} {ys:List Value} (hs:Db ps o i n=some (q,true)) (g:PR e ps ys):PR e q ((ys.drop (o+i)).take n)/\o+i+n<=ys.length:=by
 unfold Db at hs
 split at hs
 ·obtain ⟨q',h1,h2⟩:=aag.1 hs
  cases h2
  exact nS h1 g
 ·rename_i i
  split at hs
  ·rename_i k m xs ps' hd
   simp only [No,aae,aab] at hs
   obtain ⟨rfl,hle⟩:=hs
   obtain ⟨h1,h2⟩:=eF hd g
   obtain ⟨zs,h3,h4⟩:=h1
   have hlen:ys.length-o=m+zs.length:=by rw [<-aaN,h4];simp [aF,aT]
   refine ⟨⟨[],rfl,?_⟩,by omega⟩
   rw [<-aa4,h4,aaz,abh (by rw [aF,aT];omega),aaI (by rw [aaN,aF,aT];omega)]
   rw [<-dX, <-cw, <-sq, <-lY (by omega)]
  ·cases hs
theorem yp {k:IntKind} {xs:List Int} {c:List Value} {o i:Nat} (hq:aU k xs=(c.drop o).take xs.length) (hi:i<xs.length):c[o+i]? =some (.int k (xs.getD i 0)):=by
 have h1:=C9 (k:=k) hi
 rw [hq,aa9 hi,aaQ] at h1
 exact h1
theorem qU (R:Rel B e h w) {ty:TypeId} {a v:SV} {a':Value} (g:qR P ty h a=some (v,true)) (ha:VR e a a'):
  ∃x v',a'= .pointer (some x)/\(loadVar ty x).run P w= .ok v' w/\VR e v v':=by
 unfold qR at g
 split at g
 ·rename_i b o i
  obtain ⟨p,hp,rfl⟩:=ha
  split at g
  ·rename_i ps hb
   obtain ⟨c,t,hc,hsz,jN,nt⟩:=R.block hp hb
   split at g
   ·rename_i dR
    split at g
    ·rename_i n hn
     obtain ⟨⟨q,pq⟩,hq,h2⟩:=aag.1 g
     simp only [aae] at h2
     obtain ⟨rfl,rfl⟩:=h2
     obtain ⟨h3,h4⟩:=kM hq nt
     have hl:((c.toList.drop p.base).take (av ps)).length=av ps:=by simp;omega
     rw [hl] at h4
     refine ⟨_,_,rfl,fk hc dR hn (by omega),_,?_,rfl⟩
     rw [adi,adD,aa4,ab6 (by omega)] at h3
     exact h3
    ·cases g
   ·rename_i dR
    obtain ⟨y,hy,hv⟩:=eG g nt
    refine ⟨_,y,rfl,dh (cell_of hc ?_) dR,hv⟩
    have hlt:o+i<av ps:=by
     have:=(aal.1 hy).1
     simp at this;omega
    rwa [aa9 hlt,aaQ] at hy
   ·cases g
  ·cases g
 ·rename_i k xs i
  obtain ⟨n,o,c,t,fr,rfl,hz,hq⟩:=ha
  have hc:=R.eU _ _ _ _ hz
  split at g
  ·rename_i dR
   split at g
   ·rename_i m hm
    simp only [No,aae,aac,aab] at g
    obtain ⟨rfl,hpos,hle⟩:=g
    have hlen:xs.length<=c.size-o:=by
     have:=adX List.length hq
     simp [aF] at this;omega
    refine ⟨_,_,rfl,fk hc dR hm (by omega),_,⟨[],rfl,rfl⟩,?_⟩
    rw [aaz,bN (by simp;omega),cw,dX,hq,adi,adD,aa4,ab6 (by omega)]
   ·cases g
  ·rename_i dR
   simp only [No,aae,aab] at g
   obtain ⟨rfl,hlt⟩:=g
   exact ⟨_,_,rfl,dh (cell_of hc (yp hq hlt)) dR,rfl⟩
  ·cases g
 ·rename_i f xss i
  obtain ⟨n,o,c,t,fr,rfl,hz,hq⟩:=ha
  have hc:=R.eU _ _ _ _ hz
  split at g
  ·rename_i dR
   simp only [No,aae,aab] at g
   obtain ⟨rfl,hlt⟩:=g
   obtain ⟨y,hy,hv⟩:=hq i _ (aai hlt)
   refine ⟨_,y,rfl,dh (cell_of hc hy) dR,?_⟩
   have:xss.getD i []=xss[i]:=by simp [List.getD,aai hlt]
   rw [this];exact hv
  ·cases g
 ·rename_i f z len c0 el o i
  obtain ⟨n,o0,c,t,fr,rfl,hz,hq,hsz⟩:=ha
  have hc:=R.eU _ _ _ _ hz
  have up:∀{q:SV} {y:Value},VR ⟨λ_=>none,e.z,e.n0,[],λ_=>none⟩ q y->VR e q y:=λhv=>VR.mono (e:=⟨λ_=>none,e.z,e.n0,[],λ_=>none⟩) (e':=e) ⟨(λ_ _ x=>by cases x),(λ_ _ x=>x),aaf _⟩ hv
  have hrow:el<len->el*z+z<=len*z:=λhlt=>by
   have:=aaD z (Nat.succ_le_of_lt hlt)
   rw [Nat.succ_mul] at this;exact this
  split at g
  ·rename_i dR
   split at g
   ·rename_i m hm
    obtain ⟨⟨q,pq⟩,Pw,h2⟩:=aag.1 g
    simp only [aae,aac,aab] at h2
    obtain ⟨rfl,rfl,hlt,hle⟩:=h2
    have:=hrow hlt
    obtain ⟨h3,h4⟩:=kM Pw (hq el hlt)
    refine ⟨_,_,rfl,fk hc dR hm (by omega),up ⟨_,?_,rfl⟩⟩
    rw [adi,adD,aa4,ab6 (by omega)] at h3
    exact h3
   ·cases g
  ·rename_i dR
   obtain ⟨⟨q,pq⟩,Pw,h2⟩:=aag.1 g
   simp only [aae,aac,aab] at h2
   obtain ⟨rfl,rfl,hlt,hle⟩:=h2
   obtain ⟨y,hy,hv⟩:=eG Pw (hq el hlt)
   refine ⟨_,y,rfl,dh (cell_of hc ?_) dR,up hv⟩
   rwa [aa9 hle,aaQ] at hy
  ·cases g
 ·rename_i b z el o i
  obtain ⟨p,hp,rfl⟩:=ha
  split at g
  ·rename_i z' n gg hb
   obtain ⟨c,t,hc,hsz,jN,us,zs,k1,k2,k3,k4⟩:=R.block hp hb
   rw [PR] at k3;subst k3
   rw [aaz] at k4
   have yq:av [SV.rows z' n gg]=n*z':=by simp [av,gS]
   rw [yq] at k4 jN
   have up:∀{q:SV} {y:Value},VR ⟨λ_=>none,e.z,e.n0,[],λ_=>none⟩ q y->VR e q y:=λhv=>VR.mono (e:=⟨λ_=>none,e.z,e.n0,[],λ_=>none⟩) (e':=e) ⟨(λ_ _ x=>by cases x),(λ_ _ x=>x),aaf _⟩ hv
   have hrow:el<n->el*z'+z'<=n*z':=λhlt=>by
    have:=aaD z' (Nat.succ_le_of_lt hlt)
    rw [Nat.succ_mul] at this;exact this
   have hel:el<n->PR ⟨λ_=>none,e.z,e.n0,[],λ_=>none⟩ (gg el) ((c.toList.drop (p.base+el*z')).take z'):=λhlt=>by
    have k:=k2 el hlt
    have:=hrow hlt
    rw [<-k4,adi,adD,aa4,ab6 (by omega)] at k
    exact k
   split at g
   ·rename_i hz dR
    obtain rfl:=aaA hz
    split at g
    ·rename_i m hm
     obtain ⟨⟨q,pq⟩,Pw,h2⟩:=aag.1 g
     simp only [aae,aac,aab] at h2
     obtain ⟨rfl,rfl,hlt,hle⟩:=h2
     have:=hrow hlt
     obtain ⟨h3,h4⟩:=kM Pw (hel hlt)
     refine ⟨_,_,rfl,fk hc dR hm (by omega),up ⟨_,?_,rfl⟩⟩
     rw [adi,adD,aa4,ab6 (by omega),Nat.add_assoc] at h3
     exact h3
    ·cases g
   ·rename_i hz dR
    obtain rfl:=aaA hz
    obtain ⟨⟨q,pq⟩,Pw,h2⟩:=aag.1 g
    simp only [aae,aac,aab] at h2
    obtain ⟨rfl,rfl,hlt,hle⟩:=h2
    obtain ⟨y,hy,hv⟩:=eG Pw (hel hlt)
    refine ⟨_,y,rfl,dh (cell_of hc ?_) dR,up hv⟩
    rw [aa9 hle,aaQ,Nat.add_assoc] at hy
    exact hy
   ·cases g
  ·cases g
 ·rename_i gi i
  rw [VR] at ha
  subst ha
  split at g
  ·rename_i k xs hg dR
   simp only [No,aae,aab] at g
   obtain ⟨rfl,hlt⟩:=g
   obtain ⟨c,t,fr,h1,h2⟩:=R.dU gi k xs hg
   have hc:=R.eU _ _ _ _ h1
   exact ⟨_,_,rfl,dh (cell_of hc (by have:=yp (o:=0) (c:=c.toList) (by simpa using h2) hlt;simpa using this)) dR,rfl⟩
  ·cases g
 ·cases g
theorem Rel.setBlock (R:Rel B e h w) {b:Nat} {p:Pl} {ps':List SV} {c c':Array Value} {t:TypeId} (hr:e.r b=some p) (hc:w.heap[p.n]? =some (.cells c t (0,0)))
  (hs:c'.size=c.size) (hout:∀j,j<p.base\/p.base+p.size<=j->c'[j]? =c[j]?) (hps:av ps'<=p.size) (nt:PR e ps' ((c'.toList.drop p.base).take (av ps'))):
  Rel B e (h.set b (.b ps')) (w.setRow p.n c'):=by
 have hb:=R.dom b p hr
 obtain ⟨c0,t0,h1,h2⟩:=R.eA hr
 rw [hc] at h1;cases h1
 have BM:(w.setRow p.n c').heap[p.n]? =some (.cells c' t (0,0)):=setRow_heap w p.n c c' t (0,0) hc
 have cV:∀n,n≠p.n->(w.setRow p.n c').heap[n]? =w.heap[n]? :=λn hn=>setRow_other w p.n n c' hn
 exact {
  os:=R.os,tape:=R.tape,output:=R.output
  size:=by have:=R.size;simpa [World.setRow] using this
  inj:=R.inj
  dom:=λi q hi=>by simpa using R.dom i q hi
  sep:=R.sep
  eU:=λn cc tt fr hz=>by
   rw [cV n (λq=>by rw [q,R.sep b p hr] at hz;cases hz)]
   exact R.eU n cc tt fr hz
  bp:=R.bp,dU:=R.dU,news:=R.news,bA:=R.bA,bM:=R.bM,n0:=R.n0,cI:=R.cI
  ew:=λi qs hi=>by
   by_cases jt:b=i
   ·subst jt
    rw [aay hb] at hi
    cases hi
    exact .inr ⟨p,_,hr,BM,c',t,rfl,by rw [hs];exact h2,hps,nt⟩
   ·rw [aau jt] at hi
    rcases R.ew i qs hi with g|⟨q,o,hq,ho,Pv⟩
    ·exact .inl g
    ·exact .inr ⟨q,o,hq,by rw [cV q.n (λx=>jt (R.inj i b q p hq hr x).symm)];exact ho,Pv⟩
  gap:=λi g hi=>by
   by_cases jt:b=i
   ·subst jt;rw [aay hb] at hi;cases hi
   ·rw [aau jt] at hi
    refine ⟨(R.gap i g hi).1,(R.gap i g hi).2.le (λn o hn=>?_) rfl (Env.Le.refl e)⟩
    rw [cV n (λq=>by subst q;rw [hc] at hn;cases hn)];exact hn
  yi:=R.yi,yb:=R.yb
  old:=λn hn hno nI=>by
   rw [cV n (λq=>?_)]
   ·exact R.old n hn hno nI
   ·subst q
    rcases R.news b p hr with g|g
    ·exact hno b p g rfl
    ·omega
  win:=λi q hq=>by
   obtain ⟨o,o',ho,ho',JR⟩:=R.win i q hq
   by_cases hqp:q.n=p.n
   ·have N4:=R.inj i b q p (R.bA i q hq) hr hqp
    subst N4
    have:=R.bA i q hq
    rw [hr] at this;cases this
    rw [hc] at ho';cases ho'
    obtain ⟨d,d',tt,fr,rfl,q1,q2,q3⟩:=JR
    cases q1
    exact ⟨_,_,ho,BM,d,c',t,(0,0),rfl,rfl,by rw [hs,q2],λj hj=>by rw [hout j hj,q3 j hj]⟩
   ·exact ⟨o,o',ho,by rw [cV q.n hqp];exact ho',JR⟩
  kr:=R.kr
  fO:=by simpa using R.fO
  fc:=λr hrm=>by
   refine ⟨?_,(R.fc r hrm).2⟩
   rw [cV r (λq=>?_)]
   ·exact (R.fc r hrm).1
   ·subst q;have:=(R.fc _ hrm).1;rw [hc] at this;cases this
  gJ:=R.gJ}
theorem gL {ps:List SV}:∀{ys:List Value},PR e ps ys->ps.all (λp=>one p||x6 p)=true->∀v∈ys,v.oneCell'=true:=by
 induction ps with
 |nil=>intro ys g _ v hv;rw [PR] at g;subst g;cases hv
 |cons x xs ih=>
  intro ys g ha v hv
  simp only [List.all_cons,aac] at ha
  by_cases hx:bn x=true
  ·obtain ⟨y,zs,h1,h2,rfl⟩:=(PR.cons hx).1 g
   have ho:one x=true:=by
    have:=ha.1
    cases x<;>simp_all [one,x6,bn]
   rcases ad2.1 hv with rfl|hv
   ·exact h1.kG ho
   ·exact ih h2 ha.2 v hv
  ·cases x<;>simp [bn] at hx
   case rows=>simp [one,x6] at ha
   obtain ⟨zs,h2,rfl⟩:=g
   rcases List.mem_append.1 hv with hv|hv
   ·simp only [aU,List.mem_map] at hv
    obtain ⟨n,_,rfl⟩:=hv
    rfl
   ·exact ih h2 ha.2 v hv
end
end Go.Sy
namespace Go.Sy
open Go
section
variable {P:Program} {e:Env} {B:cP} {h:List Blk} {w:World}
theorem Rel.storeAt (R:Rel B e h w) {b:Nat} {p:Pl} {ps:List SV} {c:Array Value} {t:TypeId} (hp:e.r b=some p) (hc:w.heap[p.n]? =some (.cells c t (0,0))) (hsz:p.base+p.size<=c.size) (jN:av ps<=p.size)
  (q:Nat) (vs:List Value) (ps':List SV) (hq:q+vs.length<=av ps) (hps:av ps'=av ps) (hone:∀v∈vs,v.oneCell'=true)
  (Px:PR e ps' (((c.toList.drop p.base).take (av ps)).take q++vs++((c.toList.drop p.base).take (av ps)).drop (q+vs.length))):
  ∃w',(storeCells ⟨p.n,p.base+q,none⟩ vs 0).run P w= .ok () w'/\Rel B e (h.set b (.b ps')) w':=by
 have hst:=run_storeCells_at P p.n (p.base+q) t vs 0 c w hc (by omega) hone
 simp only [Nat.add_zero] at hst
 refine ⟨_,hst,R.setBlock hp hc ?_ ?_ (by omega) ?_⟩
 ·simp;omega
 ·intro j hj
  simp only [adv]
  rcases acf j (p.base+q) with h1|h1
  ·rw [aaE,aaR (by simp;omega),aa8,aaM h1];simp
  ·have h2:p.base+q+vs.length<=j:=by omega
   rw [aaV (by simp;omega),aaQ]
   have:p.base+q+vs.length+(j-(List.take (p.base+q) c.toList++vs).length)=j:=by simp;omega
   rw [this];simp
 ·rw [hps]
  have:(List.drop p.base (c.toList.take (p.base+q)++vs++c.toList.drop (p.base+q+vs.length))).take (av ps)=((c.toList.drop p.base).take (av ps)).take q++vs++((c.toList.drop p.base).take (av ps)).drop (q+vs.length):=by
   apply abf
   intro j
   simp only [aa8,aaQ,List.getElem?_append,aar,aaU,aaN,adR]
   by_cases h1:j<av ps
   ·rw [aaM h1]
    by_cases h2:j<q
    ·simp only [show p.base+j<min (p.base+q) c.size+vs.length from by omega,show p.base+j<min (p.base+q) c.size from by omega,show p.base+j<p.base+q from by omega,show j<min q (min (av ps) (c.size-p.base))+vs.length from by omega,show j<min q (min (av ps) (c.size-p.base)) from by omega,h2,h1,if_true]
    ·by_cases h3:j<q+vs.length
     ·simp only [show p.base+j<min (p.base+q) c.size+vs.length from by omega,show ¬p.base+j<min (p.base+q) c.size from by omega,show j<min q (min (av ps) (c.size-p.base))+vs.length from by omega,show ¬j<min q (min (av ps) (c.size-p.base)) from by omega,if_true,if_false]
      congr 1;omega
     ·simp only [show ¬p.base+j<min (p.base+q) c.size+vs.length from by omega,show ¬j<min q (min (av ps) (c.size-p.base))+vs.length from by omega,if_false]
      rw [aaM (by omega)]
      congr 1;omega
   ·rw [aaC h1]
    simp only [show ¬j<min q (min (av ps) (c.size-p.base))+vs.length from by omega,if_false]
    rw [aaC (by omega)]
  simp only []
  rw [this];exact Px
theorem Rel.yt (R:Rel B e h w) {b:Nat} {p:Pl} {ps:List SV} {c:Array Value} {t:TypeId} (hp:e.r b=some p) (hc:w.heap[p.n]? =some (.cells c t (0,0))) (hsz:p.base+p.size<=c.size)
  (vs:List Value) (ps':List SV) (hq:av ps+vs.length<=p.size) (hps:av ps'=av ps+vs.length) (hone:∀v∈vs,v.oneCell'=true)
  (Px:PR e ps' ((c.toList.drop p.base).take (av ps)++vs)):
  ∃w',(storeCells ⟨p.n,p.base+av ps,none⟩ vs 0).run P w= .ok () w'/\Rel B e (h.set b (.b ps')) w':=by
 have hst:=run_storeCells_at P p.n (p.base+av ps) t vs 0 c w hc (by omega) hone
 simp only [Nat.add_zero] at hst
 refine ⟨_,hst,R.setBlock hp hc ?_ ?_ (by omega) ?_⟩
 ·simp;omega
 ·intro j hj
  simp only [adv]
  rcases acf j (p.base+av ps) with h1|h1
  ·rw [aaE,aaR (by simp;omega),aa8,aaM h1];simp
  ·have h2:p.base+av ps+vs.length<=j:=by omega
   rw [aaV (by simp;omega),aaQ]
   have:p.base+av ps+vs.length+(j-(List.take (p.base+av ps) c.toList++vs).length)=j:=by simp;omega
   rw [this];simp
 ·rw [hps]
  have:(List.drop p.base (c.toList.take (p.base+av ps)++vs++c.toList.drop (p.base+av ps+vs.length))).take (av ps+vs.length)=(c.toList.drop p.base).take (av ps)++vs:=by
   have hlen:(c.toList.take (p.base+av ps)).length=p.base+av ps:=by rw [aaU,adR];omega
   rw [aaE,abh (by omega),adi,adP]
   have iI:((c.toList.drop p.base).take (av ps)).length=av ps:=by rw [aaU,aaN,adR];omega
   rw [<-aaE,aaI (by rw [aar,iI];exact aaf _),aao (by rw [aar,iI];exact aaf _)]
  simp only []
  rw [this];exact Px
inductive oM:SV->SV->Prop where
 |refl (x:SV):oM x x
 |ro (f f':Bool) (k:IntKind) (l:List Int) (h:f'=true->f=true):oM (.ro f k l) (.ro f' k l)
 |ro0 (f:Bool) (k:IntKind):oM (.nl (.slice none 0 0)) (.ro f k [])
 |gf (f f':Bool) (l:List (List Int)) (h:f'=true->f=true):oM (.gf f l) (.gf f' l)
 |Py (f:Bool):oM (.nl (.slice none 0 0)) (.gf f [])
theorem lV.less {e:Env} {f f':Bool} {k:IntKind} {xs:List Int} {v:Value} (hf:f'=true->f=true) (g:lV e f k xs v):lV e f' k xs v:=by
 rcases g with h|⟨n,o,cap,c,t,fr,h1,h2,h3,h4,h5,h6⟩
 ·exact .inl h
 ·exact .inr ⟨n,o,cap,c,t,fr,h1,h2,λq=>h3 (hf q),h4,h5,h6⟩
theorem BF.less {e:Env} {f f':Bool} {xss:List (List Int)} {v:Value} (hf:f'=true->f=true) (g:BF e f xss v):BF e f' xss v:=by
 rcases g with h|⟨n,o,cap,c,t,fr,h1,h2,h3,h4,h5,h6⟩
 ·exact .inl h
 ·exact .inr ⟨n,o,cap,c,t,fr,h1,h2,λq=>h3 (hf q),λi xs hi=>(h4 i xs hi).imp λy ⟨a,b⟩=>⟨a,b.less hf⟩,h5,h6⟩
theorem oM.PR {e:Env} {x u:SV} {xs xs':List SV} {us:List Value} (q:oM x u) (g:PR e (x::xs) us) (ht:∀zs,Sy.PR e xs zs->Sy.PR e xs' zs):Sy.PR e (u::xs') us:=by
 cases q with
 |refl=>
  cases x<;>first
   |(obtain ⟨zs,h1,h2⟩:=g;exact ⟨zs,ht zs h1,h2⟩)
   |(obtain ⟨us,zs,h0,h1,h2,h3⟩:=g;exact ⟨us,zs,h0,h1,ht zs h2,h3⟩)
   |(obtain ⟨y,zs,h1,h2,h3⟩:=g;exact ⟨y,zs,h1,ht zs h2,h3⟩)
 |ro f f' k l h=>obtain ⟨y,zs,h1,h2,h3⟩:=g;exact ⟨y,zs,lV.less h h1,ht zs h2,h3⟩
 |ro0 f k=>obtain ⟨y,zs,h1,h2,h3⟩:=g;rw [VR] at h1;subst h1;exact ⟨_,zs,.inl ⟨rfl,none,0,rfl,λ_=>rfl⟩,ht zs h2,h3⟩
 |gf f f' l h=>obtain ⟨y,zs,h1,h2,h3⟩:=g;exact ⟨y,zs,BF.less h h1,ht zs h2,h3⟩
 |Py f=>obtain ⟨y,zs,h1,h2,h3⟩:=g;rw [VR] at h1;subst h1;exact ⟨_,zs,.inl ⟨rfl,none,0,rfl,λ_=>rfl⟩,ht zs h2,h3⟩
theorem Fz (a b:SV):oM a (sy true a b):=by
 unfold sy
 split<;>(try simp only [aeL])
 all_goals (try exact .refl _)
 all_goals (try (split<;>exact .refl _))
 ·split
  ·exact .ro _ _ _ _ λh=>by simp only [aac] at h;exact h.1
  ·exact .refl _
 ·exact .ro0 _ _
 ·exact .gf _ _ _ λh=>by simp only [aac] at h;exact h.1
 ·exact .Py _
theorem FA (a b:SV):oM b (sy false a b):=by
 unfold sy
 split<;>(try simp only [cond_false])
 all_goals (try exact .refl _)
 ·split
  ·rename_i hk;subst hk;exact .refl _
  ·exact .refl _
 ·split
  ·rename_i hk;obtain ⟨rfl,rfl⟩:=hk;exact .refl _
  ·exact .refl _
 ·split
  ·rename_i hk;subst hk;exact .ro _ _ _ _ λh=>by simp only [aac] at h;exact h.2
  ·exact .refl _
 ·exact .ro0 _ _
 ·exact .gf _ _ _ λh=>by simp only [aac] at h;exact h.2
 ·exact .Py _
theorem jW {e:Env}:∀{as bs:List SV} {us:List Value},PR e as us->PR e (br true as bs) us
 | [],bs,us,h=>by cases bs<;>simpa [br] using h
 |x::xs,[],us,h=>by simpa [br] using h
 |x::xs,y::ys,us,h=>by
  simp only [br]
  exact (Fz x y).PR h λzs hz=>jW hz
theorem jX {e:Env}:∀{as bs:List SV} {us:List Value},PR e bs us->PR e (br false as bs) us
 | [],bs,us,h=>by cases bs<;>simpa [br] using h
 |x::xs,[],us,h=>by simpa [br] using h
 |x::xs,y::ys,us,h=>by
  simp only [br]
  exact (FA x y).PR h λzs hz=>jX hz
theorem sL {us vs:List Value} {z n el q:Nat} (gj:us.length=n*z) (hel:el<n) (hq:q+vs.length<=z):
  el*z+q+vs.length<=us.length/\((us.take (el*z+q)++vs++us.drop (el*z+q+vs.length)).drop (el*z)).take z=((us.drop (el*z)).take z).take q++vs++((us.drop (el*z)).take z).drop (q+vs.length)/\
  ∀i,i<n->i≠el->((us.take (el*z+q)++vs++us.drop (el*z+q+vs.length)).drop (i*z)).take z=(us.drop (i*z)).take z:=by
 have hrow:el*z+z<=n*z:=by
  have:=aaD z (Nat.succ_le_of_lt hel)
  rw [Nat.succ_mul] at this;exact this
 refine ⟨by omega,?_,λi hi hne=>?_⟩
 ·apply abf
  intro j
  simp only [aa8,aaQ,List.getElem?_append,aar,aaU,aaN]
  by_cases h1:j<z
  ·rw [aaM h1]
   by_cases h2:j<q
   ·simp only [show el*z+j<min (el*z+q) us.length+vs.length from by omega,show el*z+j<min (el*z+q) us.length from by omega,show el*z+j<el*z+q from by omega,show j<min q (min z (us.length-el*z))+vs.length from by omega,show j<min q (min z (us.length-el*z)) from by omega,h2,h1,if_true]
   ·by_cases h3:j<q+vs.length
    ·simp only [show el*z+j<min (el*z+q) us.length+vs.length from by omega,show ¬el*z+j<min (el*z+q) us.length from by omega,show j<min q (min z (us.length-el*z))+vs.length from by omega,show ¬j<min q (min z (us.length-el*z)) from by omega,if_true,if_false]
     congr 1;omega
    ·simp only [show ¬el*z+j<min (el*z+q) us.length+vs.length from by omega,show ¬j<min q (min z (us.length-el*z))+vs.length from by omega,if_false]
     rw [aaM (by omega)]
     congr 1;omega
  ·rw [aaC h1]
   simp only [show ¬j<min q (min z (us.length-el*z))+vs.length from by omega,if_false]
   rw [aaC (by omega)]
 ·have hi2:i*z+z<=n*z:=by
   have:=aaD z (Nat.succ_le_of_lt hi)
   rw [Nat.succ_mul] at this;exact this
  have U6:i*z+z<=el*z\/el*z+z<=i*z:=by
   rcases Nat.lt_or_gt_of_ne hne with h|h
   ·left
    have:=aaD z (Nat.succ_le_of_lt h)
    rw [Nat.succ_mul] at this;exact this
   ·right
    have:=aaD z (Nat.succ_le_of_lt h)
    rw [Nat.succ_mul] at this;exact this
  apply abf
  intro j
  simp only [aa8,aaQ,List.getElem?_append,aar,aaU]
  by_cases h1:j<z
  ·rw [aaM h1,aaM h1]
   rcases U6 with h|h
   ·simp only [show i*z+j<min (el*z+q) us.length+vs.length from by omega,show i*z+j<min (el*z+q) us.length from by omega,show i*z+j<el*z+q from by omega,if_true]
   ·simp only [show ¬i*z+j<min (el*z+q) us.length+vs.length from by omega,if_false]
    congr 1;omega
  ·rw [aaC h1,aaC h1]
theorem sM {z n el:Nat} {g:Nat->List SV} {us vs:List Value} {q:Nat} {ps':List SV} (gj:us.length=n*z) (hg:∀i,i<n->PR ⟨λ_=>none,e.z,e.n0,[],λ_=>none⟩ (g i) ((us.drop (i*z)).take z)) (hel:el<n) (hq:q+vs.length<=z)
  (hps:PR ⟨λ_=>none,e.z,e.n0,[],λ_=>none⟩ ps' (((us.drop (el*z)).take z).take q++vs++((us.drop (el*z)).take z).drop (q+vs.length))):
  PR e [.rows z n λi=>br (Nat.beq i el) ps' (g i)] (us.take (el*z+q)++vs++us.drop (el*z+q+vs.length)):=by
 obtain ⟨h1,h2,h3⟩:=sL (vs:=vs) gj hel hq
 refine ⟨_,[],?_,λi hi=>?_,rfl,(aaz _).symm⟩
 ·simp only [aar,aaU,aaN];omega
 ·show PR _ (br (Nat.beq i el) ps' (g i)) _
  by_cases U7:i=el
  ·subst U7
   rw [h2,show Nat.beq i i=true from Nat.beq_refl i]
   exact jW hps
  ·rw [h3 i hi U7,show Nat.beq i el=false from by
    cases hb:Nat.beq i el with
    |false=>rfl
    |true=>exact absurd (aaA hb) U7]
   exact jX (hg i hi)
theorem VR.closed {e:Env} {v:SV} {v':Value} (h:VR e v v') (hr:eu v=true):VR ⟨λ_=>none,e.z,e.n0,[],λ_=>none⟩ v v':=VR.mono' (e:=e) (e':=⟨λ_=>none,e.z,e.n0,[],λ_=>none⟩) (λ_ _ h=>h) (aaf _) v v' (λj p hu _=>by rw [kF hr] at hu;cases hu) h
theorem PR.closed {e:Env} {v:List SV} {v':List Value} (h:PR e v v') (hr:cO v=true):PR ⟨λ_=>none,e.z,e.n0,[],λ_=>none⟩ v v':=PR.mono' (e:=e) (e':=⟨λ_=>none,e.z,e.n0,[],λ_=>none⟩) (λ_ _ h=>h) (aaf _) v v' (λj p hu _=>by rw [dG hr] at hu;cases hu) h
theorem wI (R:Rel B e h w) {ty:TypeId} {a x:SV} {a' x':Value} {h':List Blk} (g:fP P ty h x a=some (h',true)) (ha:VR e a a') (hx:VR e x x'):
  ∃ad w',a'= .pointer (some ad)/\(storeVar ty ad x').run P w= .ok () w'/\Rel B e h' w':=by
 unfold fP at g
 split at g
 ·rename_i b o i
  obtain ⟨p,hp,rfl⟩:=ha
  split at g
  ·rename_i ps hb
   obtain ⟨c,t,hc,hsz,jN,nt⟩:=R.block hp hb
   have lF:((c.toList.drop p.base).take (av ps)).length=av ps:=by simp;omega
   have key:=λq vs ps'=>R.storeAt (P:=P) (ps:=ps) hp hc hsz jN q vs ps'
   split at g
   ·rename_i dR
    split at g
    ·rename_i q n hn
     split at g
     ·rename_i Dh
      simp only [aac,aab] at Dh
      obtain ⟨Dh,hone⟩:=Dh
      obtain ⟨ps',hput,h2⟩:=aag.1 g
      simp only [aae,aeJ] at h2
      subst h2
      obtain ⟨ys,hys,rfl⟩:=hx.kK
      have gk:=hys.length
      obtain ⟨h3,h4⟩:=nT hput nt hys
      rw [lF] at h4
      have Di:av ps'=av ps:=by
       have:=h3.length
       simp at this;omega
      obtain ⟨w',hrun,R'⟩:=key o ys ps' (by omega) Di (gL hys hone) (by rw [gk,Dh];exact h3)
      refine ⟨_,w',rfl,?_,R'⟩
      have Ak:(Value.agg ⟨ys⟩).cells.size=n:=by show ys.length=n;omega
      unfold storeVar
      rw [aaq,bR hn w]
      simp only [Result.andThen,Ak,ne_eq,not_true,if_false]
      exact hrun
     ·cases g
    ·cases g
   ·rename_i dR
    split at g
    ·rename_i EV
     simp only [aac,aaS] at EV
     obtain ⟨⟨ps',q⟩,rG,h2⟩:=aag.1 g
     simp only [aae] at h2
     obtain ⟨rfl,rfl⟩:=h2
     obtain ⟨h3,h4⟩:=iP rG nt hx
     rw [lF] at h4
     have Di:av ps'=av ps:=by
      have:=h3.length
      simp at this;omega
     have rH:x'.cells.toList=[x']:=by
      have:=hx.kG EV.1
      cases x'<;>first|rfl|cases this
     obtain ⟨w',hrun,R'⟩:=key (o+i) [x'] ps' (by simp;omega) Di (λv hv=>by simp at hv;subst hv;exact hx.kG EV.1) (by
      rw [List.set_eq_take_append_cons_drop] at h3
      rw [aaM (by rw [lF];exact h4)] at h3
      simpa using h3)
     refine ⟨_,w',rfl,?_,R'⟩
     have Ak:x'.cells.size=1:=by rw [<-adR,rH];rfl
     unfold storeVar
     rw [aaq,bR EV.2 w]
     simp only [Result.andThen,Ak,ne_eq,not_true,if_false]
     rw [rH]
     exact hrun
    ·cases g
   ·cases g
  ·cases g
 ·rename_i b z el o i
  obtain ⟨p,hp,rfl⟩:=ha
  split at g
  ·rename_i z' n gg hb
   obtain ⟨c,t,hc,hsz,jN,us,zs,k1,k2,k3,k4⟩:=R.block hp hb
   rw [PR] at k3;subst k3
   rw [aaz] at k4
   have yq:av [SV.rows z' n gg]=n*z':=by simp [av,gS]
   have key:=λq vs ps'=>R.storeAt (P:=P) (ps:=[SV.rows z' n gg]) hp hc hsz jN q vs ps'
   rw [yq] at key
   rw [yq] at k4 jN
   rw [k4] at key
   have hlen:el<n->((us.drop (el*z')).take z').length=z':=λhel=>by
    have:=aaD z' (Nat.succ_le_of_lt hel)
    rw [Nat.succ_mul] at this
    rw [aaU,aaN,k1];omega
   split at g
   ·rename_i hz dR
    obtain rfl:=aaA hz
    split at g
    ·rename_i q m hn
     split at g
     ·rename_i Dh
      simp only [aac,aab] at Dh
      obtain ⟨⟨Dh,hone⟩,lF⟩:=Dh
      obtain ⟨ps',hput,h2⟩:=aag.1 g
      simp only [aae,aab] at h2
      obtain ⟨rfl,hel⟩:=h2
      obtain ⟨ys,hys,rfl⟩:=hx.kK
      have gk:=hys.length
      obtain ⟨h3,h4⟩:=nT hput (k2 el hel) (hys.closed lF)
      rw [hlen hel] at h4
      rw [<-Dh, <-gk] at h3
      have hst:=sM (e:=e) (q:=o) (vs:=ys) (ps':=ps') k1 k2 hel (by omega) h3
      have hbd:=(sL (vs:=ys) (q:=o) k1 hel (by omega)).1
      rw [k1] at hbd
      obtain ⟨w',hrun,R'⟩:=key (el*z'+o) ys [SV.rows z' n λi=>br (Nat.beq i el) ps' (gg i)] (by omega) (by simp [av,gS]) (gL hys hone) (by rw [Nat.add_assoc] at hst;simpa [Nat.add_assoc] using hst)
      refine ⟨_,w',rfl,?_,R'⟩
      have Ak:(Value.agg ⟨ys⟩).cells.size=m:=by show ys.length=m;omega
      unfold storeVar
      rw [aaq,bR hn w]
      simp only [Result.andThen,Ak,ne_eq,not_true,if_false]
      rw [Nat.add_zero]
      exact hrun
     ·cases g
    ·cases g
   ·rename_i hz dR
    obtain rfl:=aaA hz
    split at g
    ·rename_i EV
     simp only [aac,aaS] at EV
     obtain ⟨⟨EV,Kd⟩,lF⟩:=EV
     obtain ⟨⟨ps',q⟩,rG,h2⟩:=aag.1 g
     simp only [aae,aac,aab] at h2
     obtain ⟨rfl,rfl,hel⟩:=h2
     obtain ⟨h3,h4⟩:=iP rG (k2 el hel) (hx.closed lF)
     have h4':=h4
     rw [hlen hel] at h4
     have rH:x'.cells.toList=[x']:=by
      have:=hx.kG EV
      cases x'<;>first|rfl|cases this
     rw [List.set_eq_take_append_cons_drop,aaM h4'] at h3
     have hst:=sM (e:=e) (q:=o+i) (vs:=[x']) (ps':=ps') k1 k2 hel (by simp;omega) (by simpa using h3)
     have hbd:=(sL (vs:=[x']) (q:=o+i) k1 hel (by simp;omega)).1
     rw [k1] at hbd
     obtain ⟨w',hrun,R'⟩:=key (el*z'+(o+i)) [x'] [SV.rows z' n λj=>br (Nat.beq j el) ps' (gg j)] (by simpa using hbd) (by simp [av,gS]) (λv hv=>by simp at hv;subst hv;exact hx.kG EV) hst
     refine ⟨_,w',rfl,?_,R'⟩
     have Ak:x'.cells.size=1:=by rw [<-adR,rH];rfl
     unfold storeVar
     rw [aaq,bR Kd w]
     simp only [Result.andThen,Ak,ne_eq,not_true,if_false]
     rw [rH]
     exact hrun
    ·cases g
   ·cases g
  ·cases g
 ·cases g
def kN (e:Env) (j:Nat) (p:Pl):Env:={e with r:=λi=>if i=j then some p else e.r i}
theorem gM {j:Nat} {p:Pl} (hj:e.r j=none):Env.Le e (kN e j p):=⟨λi b hi=>by
 show (if i=j then some p else e.r i)=some b
 rw [aaC (λq=>by subst q;rw [hj] at hi;cases hi)]
 exact hi,λ_ _ h=>h,aaf _⟩
theorem di {j:Nat} {p:Pl}:(kN e j p).r j=some p:=aaM rfl
theorem dK {j i:Nat} {p b:Pl} (hi:(kN e j p).r i=some b):(i≠j/\e.r i=some b)\/(i=j/\b=p):=by
 simp only [kN] at hi
 split at hi
 ·rename_i h;cases hi;exact .inr ⟨h,rfl⟩
 ·rename_i h;exact .inl ⟨h,hi⟩
def jO (h:List Blk) (j:Nat) (n:Nat):Prop:=j=h.length\/∀i,i<n->h[j+i]? =some .gap
theorem BR.mono {e':Env} (hle:Env.Le e e') {p:Pl} {ps:List SV} {o:Obj} (g:BR e p ps o):BR e' p ps o:=by
 obtain ⟨c,t,h1,h2,h3,h4⟩:=g
 exact ⟨c,t,h1,h2,h3,h4.mono hle⟩
theorem Rel.drawn (R:Rel B e h w) (d:Nat):Rel B e h {w with drawn:=d}:=
 {os:=R.os,tape:=R.tape,output:=R.output,size:=R.size,inj:=R.inj,dom:=R.dom,sep:=R.sep,eU:=R.eU,bp:=R.bp,dU:=R.dU,news:=R.news,bA:=R.bA,bM:=R.bM,n0:=R.n0,cI:=R.cI,
  ew:=R.ew,gap:=R.gap,yi:=R.yi,yb:=R.yb,old:=R.old,win:=R.win,kr:=R.kr,fO:=R.fO,fc:=R.fc,gJ:=R.gJ}
theorem Rel.free (R:Rel B e h w) {j:Nat} (hj:j=h.length\/h[j]? =some .gap):e.r j=none:=by
 rcases hj with rfl|hj
 ·cases hq:e.r h.length with
  |none=>rfl
  |some p=>have:=R.dom _ p hq;omega
 ·exact (R.gap j _ hj).1
theorem Rel.new (R:Rel B e h w) {h':List Blk} {ps:List SV} {ys:List Value} {t:TypeId} {j:Nat} (hl:PR e ps (ys.take (av ps))) (hle:av ps<=ys.length)
  (hj:e.r j=none) (h1:h'[j]? =some (.b ps)) (h2:∀i,i≠j->h'[i]? =h[i]?) (hlen:h.length<=h'.length):
  Rel B (kN e j ⟨w.heap.size,0,ys.length⟩) h' (w.alloc (.cells ⟨ys⟩ t)):=by
 have hold:∀n,n<w.heap.size->(w.alloc (.cells ⟨ys⟩ t)).heap[n]? =w.heap[n]? :=λn hn=>heap_alloc_old w _ n hn
 exact {
  os:=R.os,tape:=R.tape,output:=R.output
  size:=by have:=R.size;rw [World.size_alloc];omega
  inj:=λi i' p q hi hi' g=>by
   rcases dK hi with ⟨_,g1⟩|⟨g1,UG⟩<;>rcases dK hi' with ⟨_,g2⟩|⟨g2,g2'⟩
   ·exact R.inj i i' p q g1 g2 g
   ·have:=R.lt g1;subst g2';simp at g;omega
   ·have:=R.lt g2;subst UG;simp at g;omega
   ·omega
  dom:=λi p hi=>by
   rcases dK hi with ⟨_,g⟩|⟨g,_⟩
   ·have:=R.dom i p g;omega
   ·subst g;exact (aal.1 h1).1
  sep:=λi p hi=>by
   rcases dK hi with ⟨_,g⟩|⟨_,g⟩
   ·exact R.sep i p g
   ·subst g
    show e.z w.heap.size=none
    cases hq:e.z w.heap.size with
    |none=>rfl
    |some x=>have:=R.JQ hq;omega
  eU:=λn c tt fr hz=>by rw [hold n (R.JQ hz)];exact R.eU n c tt fr hz
  bp:=R.bp,dU:=R.dU
  news:=λi p hi=>by
   rcases dK hi with ⟨_,g⟩|⟨_,g⟩
   ·exact R.news i p g
   ·subst g;exact .inr R.size
  bA:=λi p hi=>(gM hj).r i p (R.bA i p hi)
  bM:=R.bM,n0:=R.n0,cI:=R.cI
  ew:=λi qs hi=>by
   by_cases hij:i=j
   ·subst hij
    rw [h1] at hi
    cases hi
    exact .inr ⟨⟨w.heap.size,0,ys.length⟩,_,di,heap_alloc_new w _,⟨ys⟩,t,rfl,by simp,hle,by simpa using hl.mono (gM hj)⟩
   ·rw [h2 i hij] at hi
    rcases R.ew i qs hi with ⟨g1,g2⟩|⟨q,o,hq,ho,Pv⟩
    ·exact .inl ⟨g1,by simp only [kN];rw [aaC hij];exact g2⟩
    ·exact .inr ⟨q,o,(gM hj).r i q hq,by rw [hold q.n (R.lt hq)];exact ho,Pv.mono (gM hj)⟩
  gap:=λi g hi=>by
   by_cases hij:i=j
   ·subst hij;rw [h1] at hi;cases hi
   ·rw [h2 i hij] at hi
    refine ⟨by simp only [kN];rw [aaC hij];exact (R.gap i g hi).1,(R.gap i g hi).2.le (λn o hn=>?_) rfl (gM hj)⟩
    rw [hold n (aav.1 hn).1];exact hn
  yi:=R.yi,yb:=R.yb
  old:=λn hn hno nI=>by rw [hold n (by have:=R.size;omega)];exact R.old n hn hno nI
  win:=λi q hq=>by
   obtain ⟨o,o',ho,ho',JR⟩:=R.win i q hq
   exact ⟨o,o',ho,by rw [hold q.n (R.lt (R.bA i q hq))];exact ho',JR⟩
  kr:=R.kr
  fO:=by have:=R.fO;omega
  fc:=λr hr=>by
   have:=R.fc r hr
   rw [hold r (aav.1 this.1).1];exact this
  gJ:=R.gJ}
theorem Rel.make (R:Rel B e h w) {ps:List SV} {ys:List Value} {t:TypeId} {j:Nat} (hf:jO h j 1) (hl:PR e ps (ys.take (av ps))) (hle:av ps<=ys.length):
  Rel B (kN e j ⟨w.heap.size,0,ys.length⟩) (bI h j [.b ps]) (w.alloc (.cells ⟨ys⟩ t)):=by
 have hj:j=h.length\/h[j]? =some .gap:=hf.imp id λg=>by simpa using g 0 (by omega)
 have hfree:=R.free hj
 unfold bI
 by_cases hjl:j=h.length
 ·rw [aaM hjl]
  refine R.new hl hle hfree (by rw [hjl];simp) (λi hi=>?_) (by simp)
  rcases acf i h.length with h1|h1
  ·rw [aaR h1]
  ·rw [aaV h1,aaJ (l:=h) h1,aaJ (by simp;omega)]
 ·rw [aaC hjl]
  have hg:=hj.resolve_left hjl
  have hlt:=(aal.1 hg).1
  exact R.new hl hle hfree (aay hlt) (λi hi=>aau (Ne.symm hi)) (by simp [bV])
theorem Rel.nothing (R:Rel B e h w) {ps:List SV} {j:Nat} (hf:jO h j 1) (hps:av ps=0):Rel B e (bI h j [.b ps]) w:=by
 have hj:j=h.length\/h[j]? =some .gap:=hf.imp id λg=>by simpa using g 0 (by omega)
 have hfree:=R.free hj
 have key:∀h':List Blk,h'[j]? =some (.b ps)->(∀i,i≠j->h'[i]? =h[i]?)->h.length<=h'.length->Rel B e h' w:=λh' h1 h2 h3=>
  {os:=R.os,tape:=R.tape,output:=R.output,size:=R.size,inj:=R.inj,dom:=λi p hi=>by have:=R.dom i p hi;omega,sep:=R.sep,eU:=R.eU,bp:=R.bp,dU:=R.dU,news:=R.news,bA:=R.bA,bM:=R.bM,n0:=R.n0,cI:=R.cI,
   ew:=λi qs hi=>by
    by_cases hij:i=j
    ·subst hij;rw [h1] at hi;cases hi;exact .inl ⟨hps,hfree⟩
    ·rw [h2 i hij] at hi;exact R.ew i qs hi
   gap:=λi g hi=>by
    by_cases hij:i=j
    ·subst hij;rw [h1] at hi;cases hi
    ·rw [h2 i hij] at hi;exact R.gap i g hi
   yi:=R.yi,yb:=R.yb,old:=R.old,win:=R.win,kr:=R.kr,fO:=by have:=R.fO;omega,fc:=R.fc,gJ:=R.gJ}
 unfold bI
 by_cases hjl:j=h.length
 ·rw [aaM hjl]
  refine key _ (by rw [hjl];simp) (λi hi=>?_) (by simp)
  rcases acf i h.length with h1|h1
  ·rw [aaR h1]
  ·rw [aaV h1,aaJ (l:=h) h1,aaJ (by simp;omega)]
 ·rw [aaC hjl]
  have hg:=hj.resolve_left hjl
  have hlt:=(aal.1 hg).1
  exact key _ (aay hlt) (λi hi=>aau (Ne.symm hi)) (by simp [bV])
theorem FB (op:BinOp) (k:IntKind) (a b:Int) (w:World) (v:SV) (T:TypeId) (x y:Operand) (h:ya op k a k b=some (v,true)) (ho:op≠.shl) (ho':op≠.shr):
  ∃v',(do eqGuard op T x y (.int k a) (.int k b);binOp op T (.int k a) (.int k b):Sem Value).run P w= .ok v' w/\VR e v v':=by
 have hg:(eqGuard op T x y (.int k a) (.int k b)).run P w= .ok () w:=by
  unfold eqGuard;split<;>simp
 rw [aaq,hg]
 simp only [Result.andThen]
 cases op<;>simp [ya] at h<;>first|contradiction|skip
 all_goals (try (obtain ⟨rfl,h⟩:=h))
 all_goals (try subst h)
 all_goals (simp [binOp,Op.intArith,Op.intBits,Op.intCmp,Op.intDiv,hD,Dc,eZ,BH,sG,VR, *,-Sem.run_bind])
theorem Al {op:BinOp} {k k':IntKind} {n m:Int} {v:SV} (h:ya op k n k' m=some (v,true)) (T:TypeId) (x y:Operand) (w:World):
  ∃v',(do eqGuard op T x y (.int k n) (.int k' m);binOp op T (.int k n) (.int k' m):Sem Value).run P w= .ok v' w/\VR e v v':=by
 by_cases h1:op= .shl
 ·subst h1
  simp only [ya,No,aae,aab] at h
  obtain ⟨rfl,h⟩:=h
  refine ⟨_,?_,rfl⟩
  have:¬m<0:=by omega
  simp [eqGuard,binOp,Op.shift,this,jS]
 by_cases h2:op= .shr
 ·subst h2
  simp only [ya,No,aae,aab] at h
  obtain ⟨rfl,h⟩:=h
  refine ⟨_,?_,rfl⟩
  have:¬m<0:=by omega
  simp [eqGuard,binOp,Op.shift,this,e6]
 have hk:k=k':=by
  by_cases hk:k=k'
  ·exact hk
  ·cases op<;>simp [ya,hk] at h<;>contradiction
 subst hk
 exact FB op k n m w v T x y h h1 h2
def FC (k:IntKind) (xs:List Int):Value:=.agg ⟨aU k xs⟩
def nJ (P:Program) (t:TypeId) (k:IntKind) (l:List Int):Value:=match fu P t with
 |some false=>.int k (l.getD 0 0)
 |_=>FC k l
theorem mT {e:TypeId} {k:IntKind} {m o:Nat} {l:List Int} (hs:cQ P e=some m) (hk:(P.underlying e).isSome=true) (hm:(fu P e=some false->m=1)) (h:o+m<=l.length) (w:World):
  (part e ⟨aU k l⟩ o).run P w= .ok (nJ P e k ((l.drop o).take m)) w:=by
 cases hb:fu P e with
 |none=>simp [fu] at hb;simp [hb] at hk
 |some b=>
  cases b with
  |true=>simp [part,jU hb,bR hs,nJ,hb,FC,aU,List.extract_eq_take_drop,List.map_take,List.map_drop]
  |false=>
   have:=hm hb
   subst this
   have ho:o<l.length:=by omega
   simp [part,jU hb,nJ,hb,aU,aai ho,List.getD]
def kO (d:Nat) (e:TypeId) (n:Nat) (xs ys:Array Value):Nat->Nat->Sem Bool
 |0,_=>pure true
 |c+1,i=>do
  let a <-part e xs (i*n)
  let b <-part e ys (i*n)
  let r <-Op.equalIn d e a b
  if (!r)=true then pure false else kO d e n xs ys c (i+1)
theorem run_equalIn_array (w:World) (d:Nat) (t e:TypeId) (len n:Nat) (xs ys:Array Value) (ht:P.underlying t=some (.array len e)) (hs:cQ P e=some n):
  (Op.equalIn (d+1) t (.agg xs) (.agg ys)).run P w=(kO d e n xs ys len 0).run P w:=by
 simp only [Op.equalIn,aaq,aas ht,aak,bR hs,Std.Legacy.Range.forIn_eq_forIn_range']
 have hz:Std.Legacy.Range.size [:len]=len:=by simp [Std.Legacy.Range.size]
 rw [hz]
 clear ht hz
 generalize 0=i
 induction len generalizing w i with
 |zero=>simp [kO]
 |succ len ih=>
  simp only [List.range'_succ,List.forIn_cons,kO,aaq,Sem.run_ite]
  generalize (part e xs (i*n)).run P w=r1
  cases r1 with
  |ok a w1=>
   simp only [aak]
   generalize (part e ys (i*n)).run P w1=r2
   cases r2 with
   |ok b w2=>
    simp only [aak]
    generalize (Op.equalIn d e a b).run P w2=r3
    cases r3 with
    |ok r w3=>
     cases r
     ·simp only [aak,aeF,if_true,aax]
     ·simp only [aak,Bool.not_true,adQ,if_false,aax]
      exact ih w3 (i+1)
    |halt x w3=>simp [Result.andThen]
   |halt x w2=>simp [Result.andThen]
  |halt x w1=>simp [Result.andThen]
theorem vv:∀{d:Nat} {t:TypeId} {k:IntKind} {n:Nat},jy P d t=some (k,n)->(P.underlying t).isSome=true/\(fu P t=some false->n=1)
 |0,t,k,n,h=>by simp [jy] at h
 |d+1,t,k,n,h=>by
  unfold jy at h
  split at h
  ·rename_i k' hu;cases h;exact ⟨by simp [hu],λ_=>rfl⟩
  ·rename_i hu;exact ⟨by simp [hu],λhq=>by simp [fu,hu] at hq⟩
  ·rename_i hu;exact ⟨by simp [hu],λhq=>by simp [fu,hu] at hq⟩
  ·cases h
theorem oN (l m:List Int) (n:Nat):decide (l=m)=(decide (l.take n=m.take n)&&decide (l.drop n=m.drop n)):=by
 rw [Bool.eq_iff_iff]
 simp only [aac,aab]
 constructor
 ·rintro rfl;exact ⟨rfl,rfl⟩
 ·rintro ⟨h1,h2⟩;rw [<-abr n l, <-abr n m,h1,h2]
def EqAt (P:Program) (d:Nat) (t:TypeId) (k:IntKind) (n:Nat):Prop:=
 ∀(d':Nat),d<=d'->∀(l m:List Int),l.length=n->m.length=n->∀w:World,(Op.equalIn d' t (nJ P t k l) (nJ P t k m)).run P w= .ok (decide (l=m)) w
theorem oO {d d':Nat} {e:TypeId} {k:IntKind} {z:Nat} (hd:d<=d') (hs:cQ P e=some z) (hf:jy P d e=some (k,z)) (ih:EqAt P d e k z) {l m:List Int} (N5:l.length=m.length) (w:World):∀(c i:Nat),(i+c)*z=l.length->
  (kO d' e z ⟨aU k l⟩ ⟨aU k m⟩ c i).run P w= .ok (decide (l.drop (i*z)=m.drop (i*z))) w
 |0,i,h=>by
  have h1:l.drop (i*z)=[]:=adB (by simp at h;omega)
  have h2:m.drop (i*z)=[]:=adB (by simp at h;omega)
  simp [kO,h1,h2]
 |c+1,i,h=>by
  obtain ⟨hk,hone⟩:=vv hf
  have hfit:i*z+z<=l.length:=by
   rw [<-h,abJ,abJ];omega
  have U8:(i+1)*z=i*z+z:=by rw [abJ];omega
  have p1:=mT (k:=k) hs hk hone hfit w
  have p2:=mT (k:=k) hs hk hone (l:=m) (o:=i*z) (by omega) w
  have q:=ih d' hd ((l.drop (i*z)).take z) ((m.drop (i*z)).take z) (by simp;omega) (by simp;omega) w
  have x7:=oO hd hs hf ih N5 w c (i+1) (by rw [<-h];congr 1;omega)
  simp only [kO,aaq,p1,p2,q,aak,Sem.run_ite,x7,U8]
  rw [oN (l.drop (i*z)) (m.drop (i*z)) z,aa4,aa4]
  cases decide ((l.drop (i*z)).take z=(m.drop (i*z)).take z)<;>simp
theorem nK {d d':Nat} {k:IntKind} (hd:d<=d') (ih:∀(t:TypeId) (n:Nat),jy P d t=some (k,n)->EqAt P d t k n) {l m:List Int} (N5:l.length=m.length) (w:World):∀(fs:List Field) (a:Nat) (k':IntKind),nU P (λt=>jy P d t) k a fs=some (k',l.length)->
  k'=k/\a<=l.length/\(Op.eqFields d' ⟨aU k l⟩ ⟨aU k m⟩ fs).run P w= .ok (decide (l.drop a=m.drop a)) w
 | [],a,k',h=>by
  simp only [nU,No,aae] at h
  obtain ⟨rfl,rfl⟩:=h
  refine ⟨rfl,aaf _,?_⟩
  have h1:l.drop l.length=[]:=adB (aaf _)
  have h2:m.drop l.length=[]:=adB (by omega)
  simp [Op.eqFields,h1,h2]
 |f::fs,a,k',h=>by
  simp only [nU] at h
  split at h
  ·rename_i k2 z hf
   split at h
   ·rename_i hc
    obtain ⟨rfl,hname,hoff,hs⟩:=hc
    obtain ⟨hkk,hle,x7⟩:=nK hd ih N5 w fs (a+z) k' h
    obtain ⟨hk,hone⟩:=vv hf
    have p1:=mT hs hk hone (l:=l) (o:=a) (k:=k2) (by omega) w
    have p2:=mT hs hk hone (l:=m) (o:=a) (k:=k2) (by omega) w
    have q:=ih f.type z hf d' hd ((l.drop a).take z) ((m.drop a).take z) (by simp;omega) (by simp;omega) w
    refine ⟨hkk,by omega,?_⟩
    simp only [Op.eqFields,hname,ne_eq,not_false_eq_true,if_true,hoff,aaq,p1,p2,q,aak,Sem.run_ite,x7]
    rw [oN (l.drop a) (m.drop a) z,aa4,aa4]
    cases decide ((l.drop a).take z=(m.drop a).take z)<;>simp
   ·cases h
  ·cases h
theorem nY:∀(d:Nat) (t:TypeId) (k:IntKind) (n:Nat),jy P d t=some (k,n)->EqAt P d t k n
 |0,t,k,n,h=>by simp [jy] at h
 |d+1,t,k,n,h=>by
  intro d' hd l m hl hm w
  obtain ⟨d',rfl⟩:∃e,d'=e+1:=⟨d'-1,by omega⟩
  unfold jy at h
  split at h
  ·rename_i k' hu
   cases h
   have hb:fu P t=some false:=by simp [fu,hu]
   match l,hl,m,hm with
   | [a],_,[b],_=>
    simp only [nJ,hb,List.getD_cons_zero]
    rw [run_equalIn_int w d' t k k a b hu]
    by_cases hab:a=b<;>simp [hab]
  ·rename_i len e hu
   have hb:fu P t=some true:=by simp [fu,hu]
   split at h
   ·rename_i k2 z hf
    split at h
    ·rename_i hs
     simp only [No,aae] at h
     obtain ⟨rfl,rfl⟩:=h
     simp only [nJ,hb,FC]
     rw [run_equalIn_array w d' t e len z _ _ hu hs]
     have:=oO (d:=d) (d':=d') (by omega) hs hf (nY d e k2 z hf) (l:=l) (m:=m) (by omega) w len 0 (by simp [hl])
     simpa using this
    ·cases h
   ·cases h
  ·rename_i fs hu
   have hb:fu P t=some true:=by simp [fu,hu]
   split at h
   ·cases h
   ·rename_i hst
    split at h
    ·cases h
    ·rename_i f rest Pz
     split at h
     ·rename_i k2 z hf
      split at h
      ·rename_i hc
       obtain ⟨hname,hoff,hs⟩:=hc
       have BN:P.fieldsOf t=fs:=by simp [Program.fieldsOf,hu]
       have h':nU P (λt=>jy P d t) k2 0 (f::rest)=some (k,l.length):=by
        simp only [nU,hf,hoff,hs,hname,ne_eq,not_false_eq_true,and_self,if_true,abC]
        rw [h,hl]
       obtain ⟨hk,_,hrun⟩:=nK (d:=d) (d':=d') (by omega) (λt n ht=>nY d t k2 n ht) (l:=l) (m:=m) (by omega) w (f::rest) 0 k h'
       subst hk
       simp only [nJ,hb,FC]
       rw [run_equalIn_struct w d' t _ _ (by rw [BN];exact hu) (by simpa using hst),BN,Pz,hrun]
       simp
      ·cases h
     ·cases h
  ·cases h
theorem jA {k:IntKind}:∀{ps:List SV} {l:List Int} {ys:List Value},sH k ps=some (l,true)->PR e ps ys->ys=aU k l/\l.length=av ps
 | [],l,ys,h,g=>by
  simp only [sH,No,aae,aeJ] at h
  subst h
  rw [PR] at g;subst g
  exact ⟨rfl,rfl⟩
 |x::xs,l,ys,h,g=>by
  unfold sH at h
  split at h
  ·rename_i h1;cases h1
  ·rename_i k' n zs ps h1
   cases h1
   obtain ⟨us,h2,rfl⟩:=g
   split at h
   ·rename_i hk
    subst hk
    split at h
    ·rename_i aaK
     simp only [No,aae,aab] at h
     obtain ⟨rfl,h⟩:=h
     have:xs=[]:=by simpa using aaK
     subst this
     rw [PR] at h2;subst h2
     exact ⟨by rw [bN h,aaz],by simp [av,gS,h]⟩
    ·obtain ⟨⟨q1,q2⟩,h3,h4⟩:=aag.1 h
     simp only [aae,aC,aab] at h4
     obtain ⟨rfl,h5,rfl⟩:=h4
     obtain ⟨h6,h7⟩:=jA h3 h2
     exact ⟨by rw [h6,bN h5,fL],by simp [av,gS,h5,h7]⟩
   ·cases h
  ·rename_i k' n ps h1
   cases h1
   obtain ⟨y,us,hy,h2,rfl⟩:=(PR.cons rfl).1 g
   rw [VR] at hy;subst hy
   split at h
   ·rename_i hk
    subst hk
    obtain ⟨⟨q1,q2⟩,h3,h4⟩:=aag.1 h
    simp only [aae] at h4
    obtain ⟨rfl,rfl⟩:=h4
    obtain ⟨h6,h7⟩:=jA h3 h2
    exact ⟨by rw [h6];rfl,by simp [av,gS,h7];omega⟩
   ·cases h
  ·cases h
theorem oP {op:BinOp} {b:Bool} {v:SV} (h:eo op b=some v):(op= .eql/\v= .bool b)\/(op= .neq/\v= .bool !b):=by
 unfold eo at h
 split at h
 ·cases h;exact .inl ⟨rfl,rfl⟩
 ·cases h;exact .inr ⟨rfl,rfl⟩
 ·cases h
theorem fQ {op:BinOp} {T:TypeId} {b:Bool} {v:SV} {a' b':Value} {x y:Operand} (h:eo op b=some v) (hg:(eqGuard op T x y a' b').run P w= .ok () w)
  (hq:∀op',op'= .eql\/op'= .neq->binOp op' T a' b'=(match op' with| .eql=>do pure (.bool (<-Op.equal T a' b'))|_=>do pure (.bool (!(<-Op.equal T a' b'))):Sem Value))
  (hr:(Op.equal T a' b').run P w= .ok b w):∃v',(do eqGuard op T x y a' b';binOp op T a' b':Sem Value).run P w= .ok v' w/\VR e v v':=by
 rcases oP h with ⟨rfl,rfl⟩|⟨rfl,rfl⟩
 ·refine ⟨_,?_,rfl⟩
  rw [aaq,hg,aak,hq _ (.inl rfl)]
  simp [hr]
 ·refine ⟨_,?_,rfl⟩
  rw [aaq,hg,aak,hq _ (.inr rfl)]
  simp [hr]
end
end Go.Sy
namespace Go.Sy
open Go
section
variable {P:Program} {e:Env} {w:World}
theorem Ke {s t:ByteArray}:(gR s=gR t)↔s=t:=by
 constructor
 ·intro h
  have h1:s.data.toList=t.data.toList:=by
   unfold gR at h
   have key:∀(a b:List UInt8),(a.map λx=>(x.toNat:Int))=(b.map λx=>(x.toNat:Int))->a=b:=by
    intro a
    induction a with
    |nil=>intro b hb;cases b<;>simp_all
    |cons x xs ih=>
     intro b hb
     cases b with
     |nil=>simp at hb
     |cons y ys=>
      simp only [List.map_cons,List.cons.injEq] at hb
      have hxy:x=y:=UInt8.toNat.inj (by omega)
      rw [hxy,ih ys hb.2]
   exact key _ _ h
  cases s;cases t
  congr
  exact adV h1
 ·rintro rfl;rfl
theorem Dj {d:Nat} {T:TypeId} {a b:Bool} (hu:P.underlying T=some .bool):(Op.equalIn (d+1) T (.bool a) (.bool b)).run P w= .ok (a==b) w:=by simp [Op.equalIn,aas hu]
theorem FD {d:Nat} {T el:TypeId} {a:Addr} (hu:P.underlying T=some (.pointer el)):(Op.equalIn (d+1) T (.pointer (some a)) (.pointer none)).run P w= .ok false w:=by simp [Op.equalIn,aas hu]
theorem yu {d:Nat} {T el:TypeId} (hu:P.underlying T=some (.pointer el)):(Op.equalIn (d+1) T (.pointer none) (.pointer none)).run P w= .ok true w:=by simp [Op.equalIn,aas hu]
theorem vw {d:Nat} {T:TypeId} {ms} (hu:P.underlying T=some (.interface ms)):(Op.equalIn (d+1) T .nilIface .nilIface).run P w= .ok true w:=by simp [Op.equalIn,aas hu]
theorem Dk {d:Nat} {T t:TypeId} {v:Value} {ms} (hu:P.underlying T=some (.interface ms)):(Op.equalIn (d+1) T (.iface t v) .nilIface).run P w= .ok false w:=by simp [Op.equalIn,aas hu]
theorem Dl {d:Nat} {T t:TypeId} {v:Value} {ms} (hu:P.underlying T=some (.interface ms)):(Op.equalIn (d+1) T .nilIface (.iface t v)).run P w= .ok false w:=by simp [Op.equalIn,aas hu]
theorem Dm {d:Nat} {T t:TypeId} {k k0:IntKind} {a b:Int} {ms i} (hu:P.underlying T=some (.interface ms)) (N6:P.underlying t=some (.int k0)) (hi:P.info? t=some i) (hc:i.comparable=true):
  (Op.equalIn (d+1+1) T (.iface t (.int k a)) (.iface t (.int k b))).run P w= .ok (a==b) w:=by
 have h1:(Op.equalIn (d+1) t (.int k a) (.int k b)).run P w= .ok (a==b) w:=by simp [Op.equalIn,aas N6]
 rw [Op.equalIn]
 simp [aas hu,typeInfo,hi,hc,h1]
theorem iV {d:Nat} {T el:TypeId} {a:Option Addr} {n c:Nat} (hu:P.underlying T=some (.slice el)):(Op.equalIn (d+1) T (.slice a n c) (.slice none 0 0)).run P w= .ok a.isNone w:=by cases a<;>simp [Op.equalIn,aas hu]
theorem Dn {op:BinOp} {T:TypeId} {x y:Operand} {a b v:SV} {a' b':Value} (h:Z3 P op T x y a b=some (v,true)) (ha:VR e a a') (hb:VR e b b'):
  ∃v',(do eqGuard op T x y a' b';binOp op T a' b':Sem Value).run P w= .ok v' w/\VR e v v':=by
 unfold Z3 at h
 split at h
 ·-- PA
  rename_i cs ds
  split at h
  ·cases h
  ·rename_i hg
   split at h
   ·rename_i k n hf
    split at h
    ·rename_i l p m q hl hm
     split at h
     ·rename_i hn
      obtain ⟨u,hu,h2⟩:=aag.1 h
      simp only [aae,aC] at h2
      obtain ⟨rfl,rfl,rfl⟩:=h2
      obtain ⟨ys,hys,rfl⟩:=ha.kK
      obtain ⟨zs,hzs,rfl⟩:=hb.kK
      obtain ⟨rfl,uU⟩:=jA hl hys
      obtain ⟨rfl,hmn⟩:=jA hm hzs
      simp only [adS,aaS,not_or,Bool.not_eq_true] at hg
      refine fQ hu (run_eqGuard_agg (P:=P) w op T x y ⟨aU k l⟩ ⟨aU k m⟩ hg.1) (λop' ho=>by rcases ho with rfl|rfl<;>rfl) ?_
      have:=nY 20 T k n hf 10000 (by omega) l m (by omega) (by omega) w
      have hv:∀z:List Int,nJ P T k z=FC k z:=λz=>by
       unfold nJ
       split
       ·rename_i h1;exact absurd h1 hg.2
       ·rfl
      rwa [hv,hv] at this
     ·cases h
    ·cases h
   ·cases h
 ·-- afe
  rename_i a b
  rw [VR] at ha hb;subst ha hb
  split at h
  ·rename_i hu
   obtain ⟨u,lG,h2⟩:=aag.1 h
   simp only [aae,aeJ] at h2;subst h2
   exact fQ lG (by unfold eqGuard;split<;>simp) (λop' ho=>by rcases ho with rfl|rfl<;>rfl) (Dj (d:=9999) hu)
  ·cases h
 ·-- strings
  rename_i a b
  obtain ⟨s,rfl,rfl⟩:=ha
  obtain ⟨t,rfl,rfl⟩:=hb
  obtain ⟨u,lG,h2⟩:=aag.1 h
  simp only [aae,aeJ] at h2;subst h2
  have hg:(eqGuard op T x y (.string s) (.string t)).run P w= .ok () w:=by unfold eqGuard;split<;>simp
  have hd:decide (gR s=gR t)=(s.toList==t.toList):=by
   rw [Bool.eq_iff_iff,aab,Ke,aaS]
   constructor
   ·rintro rfl;rfl
   ·intro h
    rw [ByteArray.toList_eq,ByteArray.toList_eq] at h
    cases s;cases t;congr;exact adV h
  rcases oP lG with ⟨rfl,rfl⟩|⟨rfl,rfl⟩
  ·exact ⟨_,by rw [aaq,hg,aak];rfl,by rw [hd];rfl⟩
  ·exact ⟨_,by rw [aaq,hg,aak];rfl,by rw [hd];rfl⟩
 ·-- an address, nil
  obtain ⟨p,_,rfl⟩:=ha
  rw [VR] at hb;subst hb
  split at h
  ·rename_i hu
   obtain ⟨u,lG,h2⟩:=aag.1 h
   simp only [aae,aeJ] at h2;subst h2
   exact fQ lG (by unfold eqGuard;split<;>simp) (λop' ho=>by rcases ho with rfl|rfl<;>rfl) (FD (d:=9999) hu)
  ·cases h
 ·rw [VR] at ha hb;subst ha hb
  split at h
  ·rename_i hu
   obtain ⟨u,lG,h2⟩:=aag.1 h
   simp only [aae,aeJ] at h2;subst h2
   exact fQ lG (by unfold eqGuard;split<;>simp) (λop' ho=>by rcases ho with rfl|rfl<;>rfl) (yu (d:=9999) hu)
  ·cases h
 ·-- two agv
  rw [VR] at ha hb;subst ha hb
  have hg:∀z:Value,(x= .const z\/y= .const z)->(eqGuard op T x y .nilIface .nilIface).run P w= .ok () w:=λz hz=>by
   unfold eqGuard
   rcases hz with rfl|rfl<;>split<;>simp
  split at h
  ·rename_i hu
   obtain ⟨u,lG,h2⟩:=aag.1 h
   simp only [aae,aeJ] at h2;subst h2
   exact fQ lG (hg _ (.inl rfl)) (λop' ho=>by rcases ho with rfl|rfl<;>rfl) (vw (d:=9999) hu)
  ·rename_i hu _
   obtain ⟨u,lG,h2⟩:=aag.1 h
   simp only [aae,aeJ] at h2;subst h2
   exact fQ lG (hg _ (.inr rfl)) (λop' ho=>by rcases ho with rfl|rfl<;>rfl) (vw (d:=9999) hu)
  ·cases h
 ·obtain ⟨z,_,rfl⟩:=ha
  rw [VR] at hb;subst hb
  split at h
  ·rename_i hu
   obtain ⟨u,lG,h2⟩:=aag.1 h
   simp only [aae,aeJ] at h2;subst h2
   exact fQ lG (by unfold eqGuard;split<;>simp) (λop' ho=>by rcases ho with rfl|rfl<;>rfl) (Dk (d:=9999) hu)
  ·cases h
 ·obtain ⟨z,_,rfl⟩:=hb
  rw [VR] at ha;subst ha
  split at h
  ·rename_i hu
   obtain ⟨u,lG,h2⟩:=aag.1 h
   simp only [aae,aeJ] at h2;subst h2
   exact fQ lG (by unfold eqGuard;split<;>simp) (λop' ho=>by rcases ho with rfl|rfl<;>rfl) (Dl (d:=9999) hu)
  ·cases h
 ·rename_i t k a t' k' b
  obtain ⟨z,hz,rfl⟩:=ha
  obtain ⟨z',oQ,rfl⟩:=hb
  rw [VR] at hz oQ;subst hz oQ
  split at h
  ·rename_i hu N6
   split at h
   ·rename_i hcmp
    split at h
    ·rename_i htk
     obtain ⟨rfl,rfl⟩:=htk
     obtain ⟨u,lG,h2⟩:=aag.1 h
     simp only [aae,aeJ] at h2;subst h2
     obtain ⟨i,hi,hic⟩:=aag.1 hcmp
     exact fQ lG (by unfold eqGuard;split<;>simp) (λop' ho=>by rcases ho with rfl|rfl<;>rfl) (Dm (d:=9998) hu N6 hi hic)
    ·cases h
   ·cases h
  ·cases h
 ·-- a slice, nil
  rw [VR] at hb;subst hb
  split at h
  ·rename_i hu
   obtain ⟨u,lG,h2⟩:=aag.1 h
   simp only [aae,aab] at h2
   obtain ⟨rfl,h0⟩:=h2
   rcases ha with ⟨h1,_⟩|⟨n,o,cap,c,t,fr,rfl,_⟩
   ·rw [h1] at h0;simp at h0
   ·exact fQ lG (by unfold eqGuard;split<;>simp) (λop' ho=>by rcases ho with rfl|rfl<;>rfl) (iV (d:=9999) hu)
  ·cases h
 ·rw [VR] at hb;subst hb
  split at h
  ·rename_i hu
   obtain ⟨u,lG,h2⟩:=aag.1 h
   simp only [aae,aab] at h2
   obtain ⟨rfl,h0⟩:=h2
   rcases ha with ⟨h1,_⟩|⟨p,cap',a,_,rfl,_⟩
   ·rw [h1] at h0;omega
   ·exact fQ lG (by unfold eqGuard;split<;>simp) (λop' ho=>by rcases ho with rfl|rfl<;>rfl) (iV (d:=9999) hu)
  ·cases h
 ·rw [VR] at ha hb;subst ha hb
  split at h
  ·rename_i hu
   obtain ⟨u,lG,h2⟩:=aag.1 h
   simp only [aae,aeJ] at h2;subst h2
   exact fQ lG (by unfold eqGuard;split<;>simp) (λop' ho=>by rcases ho with rfl|rfl<;>rfl) (iV (d:=9999) hu)
  ·cases h
 ·rw [VR] at hb;subst hb
  split at h
  ·rename_i hu
   obtain ⟨u,lG,h2⟩:=aag.1 h
   simp only [aae,aab] at h2
   obtain ⟨rfl,h0⟩:=h2
   rcases ha with ⟨h1,_⟩|⟨n,o,cap,c,t,fr,rfl,_⟩
   ·omega
   ·exact fQ lG (by unfold eqGuard;split<;>simp) (λop' ho=>by rcases ho with rfl|rfl<;>rfl) (iV (d:=9999) hu)
  ·cases h
 ·rw [VR] at hb;subst hb
  split at h
  ·rename_i hu
   obtain ⟨u,lG,h2⟩:=aag.1 h
   simp only [aae,aab] at h2
   obtain ⟨rfl,h0⟩:=h2
   rcases ha with ⟨h1,_⟩|⟨p,cap',a,_,rfl,_⟩
   ·omega
   ·exact fQ lG (by unfold eqGuard;split<;>simp) (λop' ho=>by rcases ho with rfl|rfl<;>rfl) (iV (d:=9999) hu)
  ·cases h
 ·cases h
theorem Dp {op:UnOp} {a v:SV} {a':Value} (h:Ai op a=some v) (ha:VR e a a'):∃v',(Op.unary op a').run P w= .ok v' w/\VR e v v':=by
 unfold Ai at h
 split at h
 ·cases h;rw [VR] at ha;subst ha;exact ⟨_,by simp [Op.unary,Op.intArith],rfl⟩
 ·cases h;rw [VR] at ha;subst ha;exact ⟨_,by simp [Op.unary,Op.intBits,eZ,sG],rfl⟩
 ·cases h;rw [VR] at ha;subst ha;exact ⟨_,by simp [Op.unary],rfl⟩
 ·cases h
theorem qV {src dst:TypeId} {a v:SV} {a':Value} (h:BJ P src dst a=some v) (ha:VR e a a'):∃v',(convert src dst a').run P w= .ok v' w/\VR e v v':=by
 unfold BJ at h
 split at h
 ·rename_i k n
  rw [VR] at ha;subst ha
  split at h
  ·rename_i s k' hs hd
   cases h
   refine ⟨_,?_,rfl⟩
   simp [convert,aas hs,aas hd,Conv.intToInt]
  ·cases h
 ·rename_i xs
  obtain ⟨s,rfl,rfl⟩:=ha
  split at h
  ·rename_i hs hd
   cases h
   exact ⟨_,by simp [convert,aas hs,aas hd],s,rfl,rfl⟩
  ·cases h
 ·cases h
theorem l8 {t:TypeId} {ps:List SV} {ys:List Value} {o i:Nat} {v:SV} (h:yd P t ps o i=some (v,true)) (hl:PR e ps ys):
  ∃v',(part t ⟨ys⟩ (o+i)).run P w= .ok v' w/\VR e v v':=by
 unfold yd at h
 split at h
 ·rename_i dR
  split at h
  ·rename_i n hn
   obtain ⟨q,h1,h2⟩:=aag.1 h
   simp only [aae,aeJ] at h2;subst h2
   obtain ⟨h3,h4⟩:=nS h1 hl
   exact ⟨.agg ⟨(ys.drop o).take n⟩,by simp [part,jU dR,bR hn,List.extract_eq_take_drop],_,h3,rfl⟩
  ·cases h
 ·rename_i dR
  obtain ⟨y,hy,hv⟩:=eG h hl
  refine ⟨y,?_,hv⟩
  simp only [part,aaq,jU dR,aak]
  have hlt:=(aal.1 hy).1
  have:ys[o+i]=y:=(aal.1 hy).2
  simp [hlt,this]
 ·cases h
theorem wJ {t:TypeId} {i:Nat} {a v:SV} {a':Value} (h:Ag P t i a=some (v,true)) (ha:VR e a a'):∃v',(Instr.field t a' i).run P w= .ok v' w/\VR e v v':=by
 unfold Ag at h
 split at h
 ·rename_i ps
  obtain ⟨ys,hys,rfl⟩:=ha.kK
  split at h
  ·rename_i fs hu
   split at h
   ·rename_i f hf
    obtain ⟨v',hr,hv⟩:=l8 (w:=w) h hys
    refine ⟨v',?_,hv⟩
    have hf':fs[i]? =some f:=by simpa using hf
    simp only [Instr.field,aaq,aas hu,aak,hf']
    simpa [asAgg] using hr
   ·cases h
  ·cases h
 ·cases h
theorem iW {a:Addr} {f:Field} {z:Nat} (hz:cQ P f.type=some (z+1)):(fieldPlace a f).run P w= .ok (a.add f.offset) w:=by
 simp [fieldPlace,bR hz]
theorem qe {t:TypeId} {i:Nat} {a v:SV} {a':Value} (h:nV P t i a=some v) (ha:VR e a a'):∃v',(Instr.fieldAt t a' i).run P w= .ok v' w/\VR e v v':=by
 unfold nV at h
 split at h
 ·rename_i fs hu
  split at h
  ·rename_i f hf
   have hf':fs[i]? =some f:=by simpa using hf
   split at h
   ·rename_i z hz
    split at h
    ·rename_i b o j
     cases h
     obtain ⟨p,hp,rfl⟩:=ha
     refine ⟨.pointer (some ⟨p.n,p.base+(o+f.offset+j),none⟩),?_,p,hp,rfl⟩
     simp only [Instr.fieldAt,aaq,aas hu,aak,hf',Instr.sureAddr,aax,iW hz,dP]
     rw [show p.base+(o+j)+f.offset=p.base+(o+f.offset+j) by omega]
    ·rename_i f0 z0 len c el o j
     cases h
     obtain ⟨n,o0,c,t',fr,rfl,h2,h3,h4⟩:=ha
     refine ⟨.pointer (some ⟨n,o0+el*z0+(o+f.offset+j),none⟩),?_,n,o0,c,t',fr,rfl,h2,h3,h4⟩
     simp only [Instr.fieldAt,aaq,aas hu,aak,hf',Instr.sureAddr,aax,iW hz,dP]
     rw [show o0+el*z0+(o+j)+f.offset=o0+el*z0+(o+f.offset+j) by omega]
    ·rename_i b z0 el o j
     cases h
     obtain ⟨p,hp,rfl⟩:=ha
     refine ⟨.pointer (some ⟨p.n,p.base+(el*z0+(o+f.offset+j)),none⟩),?_,p,hp,rfl⟩
     simp only [Instr.fieldAt,aaq,aas hu,aak,hf',Instr.sureAddr,aax,iW hz,dP]
     rw [show p.base+(el*z0+(o+j))+f.offset=p.base+(el*z0+(o+f.offset+j)) by omega]
    ·cases h
   ·cases h
  ·cases h
 ·cases h
theorem gN {i:Int} {n:Nat}:aX i n=true↔0<=i/\i<n:=by simp [aX]
theorem VR.FE {b o i z len cap:Nat} {ex wh:Bool} {a':Value} {ix:Int} (ha:VR e (.sl b o i z len cap ex wh) a') (hb:aX ix len=true):
  ∃p cap',e.r b=some p/\a'= .slice (some ⟨p.n,p.base+(o+i*z),none⟩) len cap':=by
 rw [gN] at hb
 rcases ha with ⟨h1,_⟩|⟨p,cap',a,hp,h1,h2,_,_,h3,_⟩
 ·omega
 ·have:=h2 (by omega)
  subst this
  exact ⟨p,cap',hp,h1⟩
theorem dL {t el:TypeId} {n len cap:Nat} {x:Addr} {k:IntKind} {ix:Int} {z:Nat} (hu:P.underlying t=some (.slice el)) (hz:cQ P el=some z) (hb:aX ix len=true) (hx:x=⟨n,x.off,none⟩):
  (Instr.indexAt t (.slice (some x) len cap) (.int k ix)).run P w= .ok (.pointer (some ⟨n,x.off+ix.toNat*z,none⟩)) w:=by
 rw [gN] at hb
 have h1:x.add (ix.toNat*z)=⟨n,x.off+ix.toNat*z,none⟩:=by
  have:=dP n x.off (ix.toNat*z)
  rwa [<-hx] at this
 simp [Instr.indexAt,asIntOf,aas hu,hb,bR hz,h1]
theorem dM {t el:TypeId} {n len o:Nat} {k:IntKind} {ix:Int} {z:Nat} (hu:P.underlying t=some (.array len el)) (hz:cQ P el=some z) (hb:aX ix len=true):
  (Instr.indexAt t (.pointer (some ⟨n,o,none⟩)) (.int k ix)).run P w= .ok (.pointer (some ⟨n,o+ix.toNat*z,none⟩)) w:=by
 rw [gN] at hb
 simp [Instr.indexAt,asIntOf,aas hu,hb,bR hz,dP,Instr.sureAddr]
theorem qf {t:TypeId} {a ix v:SV} {a' U9:Value} (h:nW P t a ix=some (v,true)) (ha:VR e a a') (hi:VR e ix U9):
  ∃v',(Instr.indexAt t a' U9).run P w= .ok v' w/\VR e v v':=by
 unfold nW at h
 split at h
 ·rename_i k i
  rw [VR] at hi;subst hi
  split at h
  ·rename_i len el b o j hu
   obtain ⟨p,hp,rfl⟩:=ha
   split at h
   ·rename_i hz
    simp only [No,aae] at h
    obtain ⟨rfl,hb⟩:=h
    exact ⟨_,dM hu hz hb,p,hp,by congr 3;omega⟩
   ·rename_i n _ hz
    simp only [No,aae] at h
    obtain ⟨rfl,hb⟩:=h
    exact ⟨_,dM hu hz hb,p,hp,by congr 3;omega⟩
   ·cases h
  ·rename_i len el f z l c e0 o j hu
   obtain ⟨n,o0,c,t',fr,rfl,h2,h3,h4⟩:=ha
   split at h
   ·rename_i hz
    simp only [No,aae] at h
    obtain ⟨rfl,hb⟩:=h
    exact ⟨_,dM hu hz hb,n,o0,c,t',fr,by congr 3;omega,h2,h3,h4⟩
   ·rename_i m _ hz
    simp only [No,aae] at h
    obtain ⟨rfl,hb⟩:=h
    exact ⟨_,dM hu hz hb,n,o0,c,t',fr,by congr 3;omega,h2,h3,h4⟩
   ·cases h
  ·rename_i len el b z e0 o j hu
   obtain ⟨p,hp,rfl⟩:=ha
   split at h
   ·rename_i hz
    simp only [No,aae] at h
    obtain ⟨rfl,hb⟩:=h
    exact ⟨_,dM hu hz hb,p,hp,by congr 3;omega⟩
   ·rename_i m _ hz
    simp only [No,aae] at h
    obtain ⟨rfl,hb⟩:=h
    exact ⟨_,dM hu hz hb,p,hp,by congr 3;omega⟩
   ·cases h
  ·rename_i len el g j hu
   rw [VR] at ha;subst ha
   split at h
   ·rename_i hz
    simp only [No,aae] at h
    obtain ⟨rfl,hb⟩:=h
    exact ⟨_,dM hu hz hb,by rw [VR];congr 3;omega⟩
   ·cases h
  ·rename_i el b z len cap ex hu
   split at h
   ·rename_i n0 hz
    split at h
    ·rename_i hnz
     subst hnz
     simp only [No,aae] at h
     obtain ⟨rfl,hb⟩:=h
     have hb':=gN.1 hb
     rcases ha with ⟨h1,_⟩|⟨p,cap',a,hp,rfl,h2,_,_,h3,_⟩
     ·omega
     ·have:=h2 (by omega)
      subst this
      exact ⟨_,dL (n:=p.n) hu hz hb rfl,p,hp,by simp⟩
    ·cases h
   ·cases h
  ·rename_i el b o j len cap ex wh hu
   split at h
   ·rename_i hz
    split at h
    ·simp only [No,aae] at h
     obtain ⟨rfl,hb⟩:=h
     obtain ⟨p,cap',hp,rfl⟩:=ha.FE hb
     exact ⟨_,dL (n:=p.n) hu hz hb rfl,p,hp,by simp only [];congr 3;omega⟩
    ·simp only [No,aae] at h
     obtain ⟨rfl,hb⟩:=h
     obtain ⟨p,cap',hp,rfl⟩:=ha.FE hb
     exact ⟨_,dL (n:=p.n) hu hz hb rfl,p,hp,by simp only [];congr 3;omega⟩
   ·cases h
  ·rename_i el b o j z len cap ex wh hne hu
   split at h
   ·rename_i n hz
    split at h
    ·rename_i hnz
     subst hnz
     simp only [No,aae] at h
     obtain ⟨rfl,hb⟩:=h
     obtain ⟨p,cap',hp,rfl⟩:=ha.FE hb
     refine ⟨_,dL (n:=p.n) hu hz hb rfl,p,hp,?_⟩
     simp only [];congr 3;rw [abJ];omega
    ·cases h
   ·cases h
  ·rename_i el f k' xs hu
   split at h
   ·rename_i hz
    simp only [No,aae] at h
    obtain ⟨rfl,hb⟩:=h
    have hb':=gN.1 hb
    rcases ha with ⟨h1,_⟩|⟨n,o,cap,c,t',fr,rfl,h2,_,h3,_⟩
    ·subst h1;simp at hb';omega
    ·exact ⟨_,dL (n:=n) hu hz hb rfl,n,o,c,t',fr,by simp,h2,h3⟩
   ·cases h
  ·rename_i el f xss hu
   split at h
   ·rename_i hz
    simp only [No,aae] at h
    obtain ⟨rfl,hb⟩:=h
    have hb':=gN.1 hb
    rcases ha with ⟨h1,_⟩|⟨n,o,cap,c,t',fr,rfl,h2,_,h3,_⟩
    ·subst h1;simp at hb';omega
    ·exact ⟨_,dL (n:=n) hu hz hb rfl,n,o,c,t',fr,by simp,h2,h3⟩
   ·cases h
  ·rename_i el f z len g hu
   split at h
   ·rename_i n0 hz
    split at h
    ·rename_i hnz
     subst hnz
     simp only [No,aae] at h
     obtain ⟨rfl,hb⟩:=h
     have hb':=gN.1 hb
     rcases ha with ⟨h1,_⟩|⟨n,o,cap,c,t',fr,rfl,h2,_,h3,h4,h5⟩
     ·omega
     ·have hle:=aaD n0 h4
      exact ⟨_,dL (n:=n) hu hz hb rfl,n,o,c,t',fr,by simp,h2,h3,by omega⟩
    ·cases h
   ·cases h
  ·cases h
 ·cases h
theorem wK {t:TypeId} {a ix v:SV} {a' U9:Value} (h:Ah P t a ix=some (v,true)) (ha:VR e a a') (hi:VR e ix U9):∃v',(Instr.index t a' U9).run P w= .ok v' w/\VR e v v':=by
 unfold Ah at h
 split at h
 ·rename_i k i ps
  rw [VR] at hi;subst hi
  obtain ⟨ys,hys,rfl⟩:=ha.kK
  split at h
  ·rename_i len el hu
   split at h
   ·rename_i k' hk hz
    obtain ⟨⟨q1,q2⟩,h1,h2⟩:=aag.1 h
    simp only [aae,aac] at h2
    obtain ⟨rfl,rfl,hb⟩:=h2
    rw [gN] at hb
    have dR:fu P el=some false:=by simp [fu,jV hk]
    obtain ⟨v',hr,hv⟩:=l8 (P:=P) (w:=w) (t:=el) (o:=0) (i:=i.toNat) (v:=q1) (by simp only [yd,dR];exact h1) hys
    refine ⟨v',?_,hv⟩
    simp [Instr.index,asIntOf,aas hu,hb,bR hz]
    simpa using hr
   ·rename_i n hk hz
    obtain ⟨⟨q1,q2⟩,h1,h2⟩:=aag.1 h
    simp only [aae,aac] at h2
    obtain ⟨rfl,rfl,hb⟩:=h2
    rw [gN] at hb
    obtain ⟨v',hr,hv⟩:=l8 (w:=w) h1 hys
    refine ⟨v',?_,hv⟩
    simp [Instr.index,asIntOf,aas hu,hb,bR hz]
    simpa using hr
   ·cases h
  ·cases h
 ·rename_i k i xs
  rw [VR] at hi;subst hi
  obtain ⟨s,rfl,rfl⟩:=ha
  split at h
  ·rename_i hu
   simp only [No,aae] at h
   obtain ⟨rfl,hb⟩:=h
   rw [gN] at hb
   have hlen:(gR s).length=s.size:=by unfold gR;rw [List.length_map,adR];rfl
   have hlt:i.toNat<s.size:=by omega
   refine ⟨.int .u8 (s[i.toNat]).toNat,?_,?_⟩
   ·have h1:(if 0<=i then s[i.toNat]? else none)=some (s[i.toNat]):=by rw [aaM hb.1,getElem?_pos s i.toNat hlt]
    unfold Instr.index
    rw [aaq,show (asIntOf (.int k i):Sem (IntKind×Int))=pure (k,i) from rfl,aax,aak]
    simp only []
    rw [aaq,aas hu,aak]
    simp only [h1]
    rfl
   ·have h3:i.toNat<s.data.toList.length:=by simpa using hlt
    have:(gR s).getD i.toNat 0=((s[i.toNat]).toNat:Int):=by
     rw [gR,List.getD,aaO,aai h3]
     rfl
    rw [this];rfl
  ·cases h
 ·cases h
end
end Go.Sy
namespace Go.Sy
open Go
section
variable {P:Program} {e:Env} {B:cP} {h:List Blk} {w:World}
def VP (e:Env):List (Nat×SV)->List (Nat×Value)->Prop
 | [],ys=>ys=[]
 |(i,x)::xs,ys=>∃y zs,VR e x y/\VP e xs zs/\ys=(i,y)::zs
theorem oR (o:Nat):∀(l:List Value) (i:Nat) (cs:Array Value),o+i+l.length<=cs.size->
  ((l.zipIdx i).foldl (λcs (x:Value×Nat)=>cs.setIfInBounds (o+x.2) x.1) cs).toList=cs.toList.take (o+i)++l++cs.toList.drop (o+i+l.length)
 | [],i,cs,_=>by simp
 |x::l,i,cs,hle=>by
  simp only [adY] at hle
  simp only [List.zipIdx_cons,List.foldl_cons]
  rw [oR o l (i+1) _ (by simp;omega)]
  have q:=list_seg_step cs.toList (o+i) x l (by simp;omega)
  simpa [Array.toList_setIfInBounds,Nat.add_assoc] using q
theorem VR.cellsOf {v:SV} {v':Value} (hv:VR e v v') (ho:one v=true):v'.cells= #[v']:=by
 have:=hv.kG ho
 cases v'<;>first|rfl|cases this
theorem wL {ps qs:List SV} {o n:Nat} {v:SV} {v':Value} {cs:Array Value} (hp:Ae ps o n v=some (qs,true)) (g:PR e ps cs.toList) (hv:VR e v v'):
  v'.cells.size=n/\o+n<=cs.size/\PR e qs (cs.toList.take o++v'.cells.toList++cs.toList.drop (o+n)):=by
 unfold Ae at hp
 split at hp
 ·rename_i q
  split at hp
  ·rename_i hq
   obtain ⟨ps',h1,h2⟩:=aag.1 hp
   simp only [aae,aeJ] at h2;subst h2
   obtain ⟨ys,hys,rfl⟩:=hv.kK
   obtain ⟨h3,h4⟩:=nT h1 g hys
   have:=hys.length
   exact ⟨by show ys.length=n;omega,by simpa using h4,h3⟩
  ·cases hp
 ·split at hp
  ·rename_i hc
   simp only [aac,aab] at hc
   obtain ⟨rfl,ho⟩:=hc
   obtain ⟨h3,h4⟩:=iP hp g hv
   rw [Nat.add_zero] at h3 h4
   have hc:=hv.cellsOf ho
   refine ⟨by rw [hc];rfl,by simp at h4;omega,?_⟩
   rw [hc]
   rw [List.set_eq_take_append_cons_drop,aaM h4] at h3
   simpa using h3
  ·cases hp
theorem l9 {place:Nat->Option (Nat×Nat)}:∀{parts:List (Nat×SV)} {parts':List (Nat×Value)} {ps qs:List SV} {cs:Array Value},vr place ps parts=some (qs,true)->PR e ps cs.toList->VP e parts parts'->
  ∃out,Instr.fill place cs parts'=some out/\PR e qs out.toList/\out.size=cs.size
 | [],parts',ps,qs,cs,hf,g,hv=>by
  rw [VP] at hv;subst hv
  simp only [vr,No,aae,aeJ] at hf;subst hf
  exact ⟨cs,rfl,g,rfl⟩
 |(i,x)::parts,_,ps,qs,cs,hf,g,⟨y,zs,hy,hz,q⟩=>by
  subst q
  simp only [vr] at hf
  split at hf
  ·rename_i o n Kf
   split at hf
   ·rename_i ps1 p1 qg
    obtain ⟨⟨q1,q2⟩,h1,h2⟩:=aag.1 hf
    simp only [aae,aC] at h2
    obtain ⟨rfl,rfl,rfl⟩:=h2
    obtain ⟨h3,h4,h5⟩:=wL qg g hy
    have e1:(y.cells.zipIdx.foldl (λcs (x:Value×Nat)=>cs.setIfInBounds (o+x.2) x.1) cs).toList=cs.toList.take o++y.cells.toList++cs.toList.drop (o+n):=by
     rw [<-Array.foldl_toList,Array.toList_zipIdx]
     have:=oR o y.cells.toList 0 cs (by simp;omega)
     rw [this]
     simp [h3]
    obtain ⟨out,h6,h7,h8⟩:=l9 h1 (cs:=y.cells.zipIdx.foldl (λcs (x:Value×Nat)=>cs.setIfInBounds (o+x.2) x.1) cs) (by rw [e1];exact h5) hz
    refine ⟨out,?_,h7,?_⟩
    ·simp only [Instr.fill,Kf]
     rw [aaC (by rw [h3];simp;omega)]
     exact h6
    ·rw [h8, <-adR,e1]
     simp
     omega
   ·cases hf
  ·cases hf
theorem qh {t:TypeId} {ps:List SV} (hz:jx P t=some ps):∃z,zeroOf P t=some z/\z.cells.size=av ps:=by
 obtain ⟨z,h1,h2⟩:=fD (e:=⟨λ_=>none,λ_=>none,0,[],λ_=>none⟩) hz
 exact ⟨z,h1,by simpa using h2.length⟩
theorem wM {t:TypeId} {parts:List (Nat×SV)} {parts':List (Nat×Value)} {v:SV} (hb:Af P t parts=some (v,true)) (hp:VP e parts parts'):
  ∃v',(Instr.build t parts'.toArray).run P w= .ok v' w/\VR e v v':=by
 unfold Af at hb
 split at hb
 ·rename_i z place hz Kf
  obtain ⟨⟨q1,q2⟩,h1,h2⟩:=aag.1 hb
  simp only [aae] at h2
  obtain ⟨rfl,rfl⟩:=h2
  obtain ⟨z',oQ,nt⟩:=fD (e:=e) hz
  obtain ⟨out,h3,h4,_⟩:=l9 h1 nt hp
  obtain ⟨it,hit,hiz⟩:∃it,P.info? t=some it/\it.zero=some z':=by
   unfold zeroOf at oQ
   cases hq:P.info? t with
   |none=>simp [hq] at oQ
   |some it=>simp [hq] at oQ;exact ⟨it,rfl,oQ⟩
  refine ⟨.agg out,run_build w t parts'.toArray out ?_,out.toList,h4,rfl⟩
  unfold Program.built
  unfold placesOf at Kf
  split at Kf
  ·rename_i n el hu
   obtain ⟨ie,U7,rfl⟩:=aag.1 Kf
   simp only [hit,hu,hiz,U7]
   simpa using h3
  ·rename_i fields hu
   obtain ⟨places,qg,rfl⟩:=aag.1 Kf
   simp only [hit,hu,hiz,qg]
   simpa using h3
  ·cases Kf
 ·cases hb
theorem PR.replicate {zs:List SV} {ys:List Value} (g:PR e zs ys):∀n:Nat,PR e (List.replicate n zs).flatten (List.replicate n ys).flatten
 |0=>rfl
 |n+1=>by
  rw [List.replicate_succ,List.flatten_cons,List.replicate_succ,List.flatten_cons]
  exact g.append (PR.replicate g n)
theorem Am (c:Array Value) (hc:0<c.size):∀n:Nat,((Array.range (n*c.size)).map λi=>c[i%c.size]!).toList=(List.replicate n c.toList).flatten
 |0=>by simp
 |n+1=>by
  rw [List.replicate_succ',List.flatten_append, <-Am c hc n]
  simp only [List.flatten_cons,List.flatten_nil,aaz,Array.toList_map,Array.toList_range]
  rw [Nat.succ_mul,List.range_add,List.map_append]
  congr 1
  apply abf
  intro j
  simp only [List.map_map,aaO]
  by_cases hj:j<c.size
  ·rw [List.getElem?_range hj]
   simp only [aaH,Function.comp]
   rw [Nat.mul_comm n,Nat.mul_add_mod,Nat.mod_eq_of_lt hj,getElem!_pos c j hj]
   simp [hj]
  ·rw [aaJ (by simpa using hj),aaJ (by simpa using hj)];rfl
theorem Dq {el:TypeId} {k:IntKind} {zs:List SV} {z:Value} (hk:isInt P el=some k) (hz:jx P el=some zs) (oQ:zeroOf P el=some z):z.cells.toList=[.int k 0]:=by
 have hu:=jV hk
 have hp:x8 P 12 el=some [.int k 0]:=by simp [x8,hu]
 obtain ⟨z2,h1,h2⟩:=fD (e:=⟨λ_=>none,λ_=>none,0,[],λ_=>none⟩) hz
 rw [oQ] at h1;cases h1
 have:zs=[.int k 0]:=by
  unfold jx at hz
  rw [oQ,hp] at hz
  simp only [] at hz
  split at hz
  ·cases hz;rfl
  ·cases hz
 subst this
 obtain ⟨y,us,hy,N6,q⟩:=(PR.cons rfl).1 h2
 rw [PR] at N6;subst N6
 rw [VR] at hy;subst hy
 exact q
theorem Kg (k:IntKind) (n:Nat):(List.replicate n [Value.int k 0]).flatten=aU k (List.replicate n 0):=by
 induction n with
 |zero=>rfl
 |succ n ih=>rw [List.replicate_succ,List.flatten_cons,ih];rfl
theorem sP {el:TypeId} {zs:List SV} {z:Value} {n:Nat} (hz:jx P el=some zs) (oQ:zeroOf P el=some z) (hpos:0<z.cells.size) {ps:List SV} (hps:ps=match isInt P el with
  |some k=>[.ints k n (List.replicate n 0)]
  |none=>(List.replicate n zs).flatten):PR e ps ((Array.range (n*z.cells.size)).map λi=>z.cells[i%z.cells.size]!).toList:=by
 rw [Am _ hpos]
 obtain ⟨z2,h1,h2⟩:=fD (e:=e) hz
 rw [oQ] at h1;cases h1
 cases hk:isInt P el with
 |none=>rw [hk] at hps;subst hps;exact h2.replicate n
 |some k=>
  rw [hk] at hps;subst hps
  rw [Dq hk hz oQ,Kg]
  exact ⟨[],rfl,by rw [bN (by simp),aaz]⟩
theorem oS {t:TypeId} {len z:Nat} {parts:List (Nat×SV)} {parts':List (Nat×Value)} {ps:List SV} (hb:jz P t len parts=some (ps,z,true)) (hp:VP e parts parts'):
  ∃el ys,(Instr.buildSlice t len parts'.toArray).run P w= .ok (.slice (some ⟨w.heap.size,0,none⟩) len len) (w.alloc (.cells ⟨ys⟩ el))/\PR e ps ys/\ys.length=len*z/\0<z:=by
 unfold jz at hb
 split at hb
 ·rename_i el hu
  split at hb
  ·rename_i z0 zs hs hz
   split at hb
   ·rename_i hc
    obtain ⟨⟨q1,q2⟩,h1,h2⟩:=aag.1 hb
    simp only [aae] at h2
    obtain ⟨rfl,rfl,rfl⟩:=h2
    obtain ⟨zv,N7,hzs⟩:=qh hz
    obtain ⟨hc,aaL⟩:=hc
    have hsz:zv.cells.size=z0+1:=by omega
    ·have hrow:=sP (e:=e) (n:=len) hz N7 (by omega) rfl
     obtain ⟨out,h3,h4,h5⟩:=l9 h1 hrow hp
     rw [hsz] at h3 h5
     refine ⟨el,out.toList,?_,h4,by simpa using h5,by omega⟩
     have hle:¬len*(z0+1)>2^24:=by omega
     unfold Instr.buildSlice
     simp only [aaq,aas hu,aak,bR hs,Sem.run_ite,aaC hle,aax]
     by_cases h0:len*(z0+1)=0
     ·rw [aaM h0]
      have:((Array.range (len*(z0+1))).map λi=>zv.cells[i%(z0+1)]!)=((Array.range (len*(z0+1))).map λi=>(#[]:Array Value)[i%(#[]:Array Value).size]!):=by rw [h0];simp
      rw [this] at h3
      simp only [h3,newRow,newObj,aaq,aax]
      rfl
     ·rw [aaC h0]
      simp only [fy N7,aak,hsz,h3,newRow,newObj,aaq,aax]
      rfl
   ·cases hb
  ·cases hb
 ·cases hb
theorem qi {t:TypeId} {a b:SV} {a' b':Value} {ps:List SV} {z n m:Nat} (hm:kH P t a b=some (ps,z,n,m,true)) (ha:VR e a a') (hb:VR e b b'):
  ∃el ys,(Instr.makeSlice t a' b').run P w= .ok (.slice (some ⟨w.heap.size,0,none⟩) n m) (w.alloc (.cells ⟨ys⟩ el))/\PR e ps ys/\ys.length=m*z/\0<z/\n<=m:=by
 unfold kH at hm
 split at hm
 ·rename_i k1 l k2 c
  rw [VR] at ha hb;subst ha hb
  split at hm
  ·rename_i el hu
   split at hm
   ·rename_i i z0 zs hi hs hz
    split at hm
    ·rename_i aaL
     simp only [No,aae,aac,aaS,aab] at hm
     obtain ⟨hps,rfl,rfl,rfl,⟨hl,rX⟩,⟨h0,hlc⟩,gU⟩:=hm
     obtain ⟨zv,N7,hzs⟩:=qh hz
     have hsz:zv.cells.size=z0+1:=by omega
     have t1:(decide (c<0)||decide ((i.bytes:Int)*c>2^48))=false:=by
      rw [adZ];exact ⟨aam (by omega),aam (by omega)⟩
     have hrow:=sP (e:=e) (n:=c.toNat) hz N7 (by omega) hps.symm
     rw [hsz] at hrow
     refine ⟨el,_,?_,hrow,by simp,by omega,by omega⟩
     unfold Instr.makeSlice
     have hnn:¬l>c:=by omega
     have hn0:¬l<0:=by omega
     simp only [aaq,aas hu,aak,asInt,asIntOf,aax,typeInfo,run_program,hi,hl,rX,t1,hn0,hnn,decide_false,Bool.or_self,adQ,if_false]
     have hroom:∀w:World,(askRoom (c.toNat*i.bytes)).run P w= .ok () w:=λw=>by unfold askRoom;split<;>simp [mark,Sem.run]
     rw [hroom]
     simp only [aak,bR hs]
     by_cases hc0:c.toNat*(z0+1)=0
     ·rw [aaM hc0]
      have Kh:Array.range 0= #[]:=by simp
      simp [newRow,newObj,Sem.run,hc0,Kh]
     ·rw [aaC hc0]
      simp only [aaq,fy N7,aax,aak,newRow,newObj,hsz]
      rfl
    ·cases hm
   ·cases hm
  ·cases hm
 ·cases hm
def wN (d y:Nat) (code:BoundsCode) (v':Option Value):Sem Nat:=match v' with
 |some x=>Instr.sliceBound x y code
 |none=>pure d
theorem fE {d y y':Nat} {v:Option SV} {v':Option Value} {n:Nat} (hb:nX d y v=some (n,true)) (hv:VO e v v') (hy:y<=y') (code:BoundsCode):
  (wN d y' code v').run P w= .ok n w/\(v=none->n=d)/\(v≠none->n<=y):=by
 unfold nX at hb
 split at hb
 ·simp only [No,aae,aeJ] at hb
  subst hb;rw [VO] at hv;subst hv
  exact ⟨rfl,λ_=>rfl,λh=>absurd rfl h⟩
 ·rename_i k i
  obtain ⟨z,rfl,hz⟩:=hv
  rw [VR] at hz;subst hz
  simp only [No,aae,aac,aab] at hb
  obtain ⟨rfl,h1,h2⟩:=hb
  have:i<=y':=by omega
  exact ⟨by simp [wN,Instr.sliceBound,asIntOf,h1,this],(λh=>by cases h),λ_=>by omega⟩
 ·cases hb
theorem dc {len cap cap' l h m:Nat} {lo hi mx:Option SV} {lo' hi' Ki:Option Value} (hb:fj len cap lo hi mx=some (l,h,m,true)) (hl:VO e lo lo') (hh:VO e hi hi') (hm:VO e mx Ki) (hcap:cap<=cap') (b:Bool):
  ∃m',(Instr.sliceBounds b len cap' lo' hi' Ki).run P w= .ok (l,h,m') w/\(mx=none->m'=cap'/\m=cap)/\(mx≠none->m'=m/\m<=cap)/\(hi=none->h=len)/\(hi≠none->h<=m/\h<=m')/\(lo=none->l=0)/\(lo≠none->l<=h):=by
 unfold fj at hb
 split at hb
 ·rename_i m0 p0 N8
  split at hb
  ·cases hb
  ·rename_i hne
   split at hb
   ·rename_i h0 q0 hhi
    split at hb
    ·rename_i l0 r0 hlo
     simp only [No,aae,aC] at hb
     obtain ⟨rfl,rfl,rfl,rfl,rfl,rfl⟩:=hb
     cases mx with
     |none=>
      rw [VO] at hm;subst hm
      simp only [nX,No,aae,aeJ] at N8
      subst N8
      have a1:=fE (P:=P) (w:=w) hhi hh hcap (if b then .sliceAcap else .sliceAlen)
      have a2:=fE (P:=P) (w:=w) hlo hl (aaf _) .sliceB
      refine ⟨cap',?_,λ_=>⟨rfl,rfl⟩,λh=>absurd rfl h,a1.2.1,λh=>⟨a1.2.2 h,abi (a1.2.2 h) hcap⟩,a2.2.1,a2.2.2⟩
      have b1:=a1.1;have b2:=a2.1
      unfold wN at b1 b2
      unfold Instr.sliceBounds
      cases hi'<;>cases lo'<;>simp_all [aaq]
     |some mv=>
      have a0:=fE (P:=P) (w:=w) N8 hm hcap (if b then .slice3Acap else .slice3Alen)
      cases hi with
      |none=>exact absurd rfl (hne _ rfl)
      |some hv=>
       have a1:=fE (P:=P) (w:=w) hhi hh (aaf _) .slice3B
       have a2:=fE (P:=P) (w:=w) hlo hl (aaf _) .slice3C
       refine ⟨m0,?_,(λh=>by cases h),λ_=>⟨rfl,a0.2.2 (by simp)⟩,(λh=>by cases h),(λh=>⟨a1.2.2 h,a1.2.2 h⟩),a2.2.1,a2.2.2⟩
       obtain ⟨mz,rfl,_⟩:=hm
       obtain ⟨hz,rfl,_⟩:=hh
       have b0:=a0.1;have b1:=a1.1;have b2:=a2.1
       unfold wN at b0 b1 b2
       unfold Instr.sliceBounds
       cases lo'<;>simp_all [aaq]
    ·cases hb
   ·cases hb
 ·cases hb
theorem BO (x:Addr) (m l z:Nat) (hx:x=⟨x.block,x.off,none⟩):∃a,(if m=l then x else x.add (l*z))=⟨x.block,a,none⟩/\(m≠l->a=x.off+l*z):=by
 by_cases h:m=l
 ·exact ⟨x.off,by rw [aaM h];exact hx,λg=>absurd h g⟩
 ·refine ⟨x.off+l*z,?_,λ_=>rfl⟩
  rw [aaC h,hx,dP]
theorem qW {xs:List Int} {lo hi:Option SV} {l h:Nat} (hlo:lo=none->l=0) (hhi:hi=none->h=xs.length) (hle:h<=xs.length) (hlh:l<=h):(ye xs lo hi l h).length=h-l/\∀k,aU k (ye xs lo hi l h)=((aU k xs).drop l).take (h-l):=by
 unfold ye
 split
 ·have h1:=hlo rfl;have h2:=hhi rfl
  subst h1 h2
  exact ⟨by simp,λk=>by rw [adN,aao (by rw [aF];omega)]⟩
 ·have h2:=hhi rfl
  subst h2
  exact ⟨by simp,λk=>by rw [<-dX,aao (by rw [aF,aaN];omega)]⟩
 ·have h1:=hlo rfl
  subst h1
  exact ⟨by simp;omega,λk=>by rw [adN,Nat.sub_zero, <-cw]⟩
 ·exact ⟨by simp;omega,λk=>by rw [<-dX, <-cw]⟩
theorem vz {k:IntKind}:∀{a b:List Int},aU k a=aU k b->a=b
 | [],[],_=>rfl
 | [],_::_,h=>by simp [aU] at h
 |_::_,[],h=>by simp [aU] at h
 |x::a,y::b,h=>by
  simp only [aU,List.map_cons,List.cons.injEq,Value.int.injEq,true_and] at h
  rw [h.1,vz (k:=k) h.2]
theorem eH (s:ByteArray):(gR s).length=s.size:=by unfold gR;rw [List.length_map,adR];rfl
theorem oT (R:Rel B e h w) {t:TypeId} {x v:SV} {x':Value} {lo hi mx:Option SV} {lo' hi' Ki:Option Value} (hs:jL P t h x lo hi mx=some (v,true)) (hx:VR e x x') (hl:VO e lo lo') (hh:VO e hi hi') (hm:VO e mx Ki):
  ∃v',(Instr.sliceAt t x' lo' hi' Ki).run P w= .ok v' w/\VR e v v':=by
 unfold jL at hs
 split at hs
 ·-- an Z5 address
  rename_i n el b o i hu
  obtain ⟨p,hp,rfl⟩:=hx
  have fin:∀{z l u m:Nat} {ps:List SV},h[b]? =some (.b ps)->cQ P el=some z->fj n n lo hi mx=some (l,u,m,true)->o+i+n*z<=av ps->
    ∃v',(Instr.sliceAt t (.pointer (some ⟨p.n,p.base+(o+i),none⟩)) lo' hi' Ki).run P w= .ok v' w/\
     ∃a,v'= .slice (some ⟨p.n,a,none⟩) (u-l) (m-l)/\(m-l≠0->a=p.base+(o+i+l*z))/\u-l<=m-l/\(m-l≠0->o+i+l*z+(m-l)*z<=p.size)/\l<=u/\(lo=none->l=0):=λ{z l u m ps} hb hz hbd hfit=>by
   obtain ⟨c,tt,hc,hsz,jN,nt⟩:=R.block hp hb
   obtain ⟨m',hr,f1,f2,f3,f4,f5,f6⟩:=dc (P:=P) (w:=w) hbd hl hh hm (aaf n) false
   have hm':m'=m/\m<=n:=by
    cases mx with
    |none=>have:=f1 rfl;omega
    |some _=>exact f2 (by simp)
   obtain ⟨rfl,hmn⟩:=hm'
   have hum:u<=m':=by
    cases hi with
    |none=>
     have:=f3 rfl
     cases mx with
     |none=>have:=f1 rfl;omega
     |some _=>unfold fj at hbd;split at hbd<;>simp at hbd
    |some _=>exact (f4 (by simp)).2
   have Va:l<=u:=by
    cases lo with
    |none=>have:=f5 rfl;omega
    |some _=>exact f6 (by simp)
   obtain ⟨a,ha,N9⟩:=BO ⟨p.n,p.base+(o+i),none⟩ m' l z rfl
   refine ⟨_,?_,a,rfl,λhne=>by have:=N9 (by omega);simp only [] at this;omega,by omega,λhne=>?_,Va,f5⟩
   ·simp only [Instr.sliceAt,aaq,aas hu,aak,Instr.sureAddr,aax,hr,bR hz,ha]
   ·have h1:l*z+(m'-l)*z=m'*z:=by rw [<-abJ];congr 1;omega
    have h2:=aaD z hmn
    omega
  split at hs
  ·rename_i ps l u m pb hb hz hbd
   simp only [No,aae,aC,aab] at hs
   obtain ⟨rfl,rfl,hfit⟩:=hs
   obtain ⟨v',hr,a,rfl,h1,h2,h3,h4,h5⟩:=fin hb hz hbd (by omega)
   refine ⟨_,hr,.inr ⟨p,m-l,a,hp,?_,?_,?_,?_,?_,?_⟩⟩
   ·cases lo with
    |none=>have:=h5 rfl;subst this;simp
    |some _=>rfl
   ·intro hne
    have:=h1 hne
    cases lo with
    |none=>have:=h5 rfl;subst this;simp at*;omega
    |some _=>simp only [];omega
   ·cases lo with
    |none=>have:=h5 rfl;subst this;simp
    |some _=>exact aaf _
   ·intro _
    cases lo with
    |none=>have:=h5 rfl;subst this;simp
    |some _=>rfl
   ·cases lo with
    |none=>have:=h5 rfl;subst this;simpa using h2
    |some _=>exact h2
   ·intro hne
    have:=h3 hne
    cases lo with
    |none=>have:=h5 rfl;subst this;simp at*;omega
    |some _=>simp only [];omega
  ·rename_i ps z l u m pb hne hb hz hbd
   split at hs
   ·simp only [No,aae,aC,aab] at hs
    obtain ⟨rfl,rfl,hfit⟩:=hs
    obtain ⟨v',hr,a,rfl,h1,h2,h3,h4,h5⟩:=fin hb hz hbd (by omega)
    exact ⟨_,hr,.inr ⟨p,m-l,a,hp,rfl,λhne=>by have:=h1 hne;omega,aaf _,λ_=>rfl,h2,λhne=>by have:=h3 hne;omega⟩⟩
   ·cases hs
  ·cases hs
 ·-- a slice of a tracked block
  rename_i el b o i z len cap ex wh hu
  split at hs
  ·rename_i n l u m pb hz hbd
   split at hs
   ·rename_i hnz
    subst hnz
    simp only [No,aae] at hs
    obtain ⟨rfl,rfl⟩:=hs
    rcases hx with ⟨rfl,rfl,a,rfl⟩|⟨p,cap',a,hp,rfl,ha,hcap,hex,hlen,hfit⟩
    ·obtain ⟨m',hr,f1,f2,f3,f4,f5,f6⟩:=dc (P:=P) (w:=w) hbd hl hh hm (aaf 0) true
     have hm0:m'=0/\m=0:=by
      cases mx with
      |none=>have:=f1 rfl;omega
      |some _=>have:=f2 (by simp);omega
     have Vb:u=0:=by
      cases hi with
      |none=>exact f3 rfl
      |some _=>have:=f4 (by simp);omega
     have An:l=0:=by
      cases lo with
      |none=>exact f5 rfl
      |some _=>have:=f6 (by simp);omega
     obtain ⟨rfl,rfl⟩:=hm0
     subst Vb An
     refine ⟨.slice a 0 0,?_,.inl ⟨by cases lo<;>rfl,by cases lo<;>rfl,a,rfl⟩⟩
     simp only [Instr.sliceAt,Instr.slice,aaq,aas hu,aak,aax,hr,bR hz,if_true,Nat.sub_self]
    ·obtain ⟨m',hr,f1,f2,f3,f4,f5,f6⟩:=dc (P:=P) (w:=w) hbd hl hh hm hcap true
     have hm':m'<=cap'/\m<=m'/\((ex||mx.isSome)=true->m'=m):=by
      cases mx with
      |none=>obtain ⟨rfl,rfl⟩:=f1 rfl;exact ⟨aaf _,hcap,λh=>hex (by simpa using h)⟩
      |some _=>obtain ⟨rfl,g⟩:=f2 (by simp);exact ⟨by omega,aaf _,λ_=>rfl⟩
     have hum:u<=m':=by
      cases hi with
      |none=>
       have:=f3 rfl
       cases mx with
       |none=>have:=f1 rfl;omega
       |some _=>unfold fj at hbd;split at hbd<;>simp at hbd
      |some _=>exact (f4 (by simp)).2
     have Va:l<=u:=by
      cases lo with
      |none=>have:=f5 rfl;omega
      |some _=>exact f6 (by simp)
     obtain ⟨a2,uJ,ha3⟩:=BO ⟨p.n,a,none⟩ m' l n rfl
     refine ⟨.slice (some ⟨p.n,a2,none⟩) (u-l) (m'-l),?_,.inr ⟨p,m'-l,a2,hp,?_,?_,?_,?_,?_,?_⟩⟩
     ·simp only [Instr.sliceAt,Instr.slice,aaq,aas hu,aak,aax,hr,bR hz,aaH]
      congr 2
      have:(if m'=l then some (⟨p.n,a,none⟩:Addr) else some ((⟨p.n,a,none⟩:Addr).add (l*n)))=some (if m'=l then ⟨p.n,a,none⟩ else (⟨p.n,a,none⟩:Addr).add (l*n)):=by split<;>rfl
      rw [this,uJ]
     ·cases lo with
      |none=>have:=f5 rfl;subst this;simp
      |some _=>rfl
     ·intro hne
      have h1:=ha3 (by omega)
      have h2:=ha (by omega)
      simp only [] at h1
      cases lo with
      |none=>have:=f5 rfl;subst this;simp at h1;simp only [];omega
      |some _=>simp only [];rw [abJ];omega
     ·cases lo with
      |none=>have:=f5 rfl;subst this;simp only [];omega
      |some _=>simp only [];omega
     ·intro g
      have:=hm'.2.2 g
      subst this
      cases lo with
      |none=>have:=f5 rfl;subst this;simp
      |some _=>rfl
     ·cases lo with
      |none=>have:=f5 rfl;subst this;simp only [];omega
      |some _=>simp only [];omega
     ·intro hne
      have h1:=hfit (by omega)
      have h2:l*n+(m'-l)*n=m'*n:=by rw [<-abJ];congr 1;omega
      have h3:=aaD n hm'.1
      cases lo with
      |none=>have:=f5 rfl;subst this;simp at h2 ⊢;omega
      |some _=>simp only [];rw [abJ];omega
   ·cases hs
  ·cases hs
 ·-- a slice that nobody writes
  rename_i el f k xs hu
  split at hs
  ·rename_i l u m pb hz hbd
   simp only [No,aae] at hs
   obtain ⟨rfl,rfl⟩:=hs
   have bnd:∀{cap:Nat} {m':Nat},(mx=none->m'=cap/\m=xs.length)/\(mx≠none->m'=m/\m<=xs.length)/\(hi=none->u=xs.length)/\(hi≠none->u<=m/\u<=m')/\(lo=none->l=0)/\(lo≠none->l<=u)->xs.length<=cap->u<=xs.length/\l<=u/\u<=m'/\m'<=cap:=λ{cap m'} ⟨f1,f2,f3,f4,f5,f6⟩ hcap=>by
    have hm':m'<=cap/\m<=xs.length:=by
     cases mx with
     |none=>have:=f1 rfl;omega
     |some _=>have:=f2 (by simp);omega
    have lG:u<=xs.length/\u<=m':=by
     cases hi with
     |none=>
      have:=f3 rfl
      cases mx with
      |none=>have:=f1 rfl;omega
      |some _=>unfold fj at hbd;split at hbd<;>simp at hbd
     |some _=>have:=f4 (by simp);omega
    have Va:l<=u:=by
     cases lo with
     |none=>have:=f5 rfl;omega
     |some _=>exact f6 (by simp)
    omega
   rcases hx with ⟨rfl,a,cap,rfl,ha⟩|⟨n,o,cap,c,tt,fr,rfl,fR,hfr,hq,hcap,hfit⟩
   ·obtain ⟨m',hr,g⟩:=dc (P:=P) (w:=w) hbd hl hh hm (aap cap) true
    simp only [List.length_nil] at hr
    obtain ⟨h1,h2,h3,h4⟩:=bnd (cap:=cap) g (aap _)
    have Vb:u=0:=by simpa using h1
    subst Vb
    have An:l=0:=by omega
    subst An
    have hw:ye [] lo hi 0 0=[]:=by unfold ye;split<;>rfl
    rw [hw]
    refine ⟨.slice a 0 m',?_,.inl ⟨rfl,a,m',rfl,λq=>by have:=ha q;omega⟩⟩
    have hmap:(if m'=0 then a else a.map (·.add (0*1)))=a:=by
     split
     ·rfl
     ·cases a with
      |none=>rfl
      |some a=>simp [Addr.add]
    simp only [Instr.sliceAt,Instr.slice,aaq,aas hu,aak,aax,hr,bR hz,hmap,Nat.sub_zero]
   ·obtain ⟨m',hr,g⟩:=dc (P:=P) (w:=w) hbd hl hh hm hcap true
    obtain ⟨h1,h2,h3,h4⟩:=bnd (cap:=cap) g hcap
    obtain ⟨hwl,hwi⟩:=qW (xs:=xs) (lo:=lo) (hi:=hi) g.2.2.2.2.1 g.2.2.1 h1 h2
    obtain ⟨a2,uJ,ha3⟩:=BO ⟨n,o,none⟩ m' l 1 rfl
    refine ⟨.slice (some ⟨n,a2,none⟩) (u-l) (m'-l),?_,?_⟩
    ·simp only [Instr.sliceAt,Instr.slice,aaq,aas hu,aak,aax,hr,bR hz,aaH]
     congr 2
     have:(if m'=l then some (⟨n,o,none⟩:Addr) else some ((⟨n,o,none⟩:Addr).add (l*1)))=some (if m'=l then ⟨n,o,none⟩ else (⟨n,o,none⟩:Addr).add (l*1)):=by split<;>rfl
     rw [this,uJ]
    ·by_cases hml:m'=l
     ·left
      have:u-l=0:=by omega
      exact ⟨aaw.1 (by omega),_,_,by rw [this],λq=>by cases q⟩
     ·right
      have h5:=ha3 hml
      simp only [ad3] at h5
      subst h5
      refine ⟨n,o+l,m'-l,c,tt,fr,by rw [hwl],fR,hfr,?_,by omega,by omega⟩
      rw [hwl,hwi k,hq,adi,adD,aa4,ab6 (by omega)]
  ·cases hs
 ·-- a string
  rename_i xs hu
  obtain ⟨s,rfl,rfl⟩:=hx
  split at hs
  ·rename_i l u m pb hbd
   simp only [No,aae] at hs
   obtain ⟨rfl,rfl⟩:=hs
   rw [VO] at hm;subst hm
   obtain ⟨m',hr,f1,f2,f3,f4,f5,f6⟩:=dc (P:=P) (w:=w) hbd hl hh (show VO e none none from rfl) (aaf _) false
   have Vc:=f1 rfl
   have lG:u<=(gR s).length:=by
    cases hi with
    |none=>have:=f3 rfl;omega
    |some _=>have:=f4 (by simp);omega
   have Va:l<=u:=by
    cases lo with
    |none=>have:=f5 rfl;omega
    |some _=>exact f6 (by simp)
   obtain ⟨hwl,hwi⟩:=qW (xs:=gR s) (lo:=lo) (hi:=hi) f5 f3 lG Va
   refine ⟨.string (s.extract l u),?_,s.extract l u,rfl,?_⟩
   ·rw [eH] at hr
    simp only [Instr.sliceAt,Instr.slice,aaq,aas hu,aak,aax,hr,Option.isSome_none,adQ,if_false]
   ·have h1:=hwi .u8
    have h2:ye (gR s) lo hi l u=((gR s).drop l).take (u-l):=by
     rw [<-dX, <-cw] at h1
     exact vz h1
    rw [h2]
    simp [gR,List.extract_eq_take_drop,List.map_take,List.map_drop]
  ·cases hs
 ·-- no slice
  rename_i el hu
  rw [VR] at hx;subst hx
  split at hs
  ·rename_i z l u m pb hz hbd
   simp only [No,aae] at hs
   obtain ⟨rfl,rfl⟩:=hs
   obtain ⟨m',hr,f1,f2,f3,f4,f5,f6⟩:=dc (P:=P) (w:=w) hbd hl hh hm (aaf 0) true
   have hm0:m'=0:=by
    cases mx with
    |none=>have:=f1 rfl;omega
    |some _=>have:=f2 (by simp);omega
   have Vb:u=0:=by
    cases hi with
    |none=>exact f3 rfl
    |some _=>have:=f4 (by simp);omega
   have An:l=0:=by
    cases lo with
    |none=>exact f5 rfl
    |some _=>have:=f6 (by simp);omega
   subst hm0 Vb An
   refine ⟨.slice none 0 0,?_,rfl⟩
   simp only [Instr.sliceAt,Instr.slice,aaq,aas hu,aak,aax,hr,bR hz,if_true,Nat.sub_self]
  ·cases hs
 ·-- an array in a row that nobody writes
  rename_i n el f z len g ee o i hu
  split at hs
  ·rename_i k m xs p hz hq
   simp only [No,aae,aac,aab] at hs
   obtain ⟨rfl,rfl,⟨⟨hlt,hfit⟩,rfl⟩,gl⟩:=hs
   obtain ⟨b,o0,c,tt,fr,rfl,fR,hall,hsz⟩:=hx
   obtain ⟨h3,h4⟩:=kM hq (hall ee hlt)
   rw [VO] at hl hh hm
   subst hl hh hm
   obtain ⟨zs,h5,h6⟩:=PR.Fc.1 h3
   rw [PR] at h5;subst h5
   rw [aaz,bN gl] at h6
   have hbd:fj m m none none none=some (0,m,m,true):=rfl
   obtain ⟨m',hr,f1,_⟩:=dc (P:=P) (w:=w) hbd (show VO e none none from rfl) (show VO e none none from rfl) (show VO e none none from rfl) (aaf m) false
   obtain ⟨rfl,_⟩:=f1 rfl
   obtain ⟨a,ha,N9⟩:=BO ⟨b,o0+ee*z+(o+i),none⟩ m' 0 1 rfl
   refine ⟨.slice (some ⟨b,a,none⟩) m' m',?_,?_⟩
   ·simp only [Instr.sliceAt,aaq,aas hu,aak,Instr.sureAddr,aax,hr,bR hz,ha,Nat.sub_zero]
   ·by_cases h0:m'=0
    ·exact .inl ⟨aaw.1 (by omega),some ⟨b,a,none⟩,m',by rw [h0],λq=>by cases q⟩
    ·have hae:=N9 h0
     simp only [Nat.zero_mul,Nat.add_zero] at hae
     subst hae
     refine .inr ⟨b,_,m',c,tt,fr,by rw [gl],fR,by simp,?_,by omega,?_⟩
     ·rw [<-h6,adi,adD,aa4,gl,ab6 (by omega)]
     ·have:=aaD z (show ee+1<=len by omega)
      rw [abJ,Nat.one_mul] at this
      omega
  ·cases hs
 ·cases hs
theorem VR.PB {b z len cap:Nat} {ex wh:Bool} {v:Value} (h:VR e (.bK b z len cap ex) v):VR e (.sl b 0 0 z len cap ex wh) v:=by
 rcases h with h|⟨p,c,a,h1,h2,h3,h4,h5,h6,h7⟩
 ·exact .inl h
 ·exact .inr ⟨p,c,a,h1,h2,λq=>by rw [h3 q];simp,h4,h5,h6,λq=>by have:=h7 q;simpa using this⟩
theorem VR.mb {b z len cap:Nat} {ex wh:Bool} {v:Value} (h:VR e (.sl b 0 0 z len cap ex wh) v):VR e (.bK b z len cap ex) v:=by
 rcases h with h|⟨p,c,a,h1,h2,h3,h4,h5,h6,h7⟩
 ·exact .inl h
 ·exact .inr ⟨p,c,a,h1,h2,λq=>by rw [h3 q];simp,h4,h5,h6,λq=>by have:=h7 q;simpa using this⟩
theorem kP (R:Rel B e h w) {t:TypeId} {x v:SV} {x':Value} {lo hi mx:Option SV} {lo' hi' Ki:Option Value} (hs:l5 P t h x lo hi mx=some (v,true)) (hx:VR e x x') (hl:VO e lo lo') (hh:VO e hi hi') (hm:VO e mx Ki):
  ∃v',(Instr.sliceAt t x' lo' hi' Ki).run P w= .ok v' w/\VR e v v':=by
 unfold l5 at hs
 split at hs
 ·split at hs
  ·split at hs
   ·rename_i p hs'
    simp only [No,aae] at hs
    obtain ⟨rfl,rfl⟩:=hs
    obtain ⟨v',h1,h2⟩:=oT (P:=P) R hs' (VR.PB hx) hl hh hm
    exact ⟨v',h1,VR.mb h2⟩
   ·cases hs
  ·cases hs
 ·exact oT (P:=P) R hs hx hl hh hm
theorem Dr {lo hi mx:Option Operand} (h:BI lo hi mx=true):lo=none/\hi=some (.const (.int .i64 0))/\mx=some (.const (.int .i64 0)):=by
 unfold BI at h
 split at h
 ·exact ⟨rfl,rfl,rfl⟩
 ·cases h
theorem nZ {t el:TypeId} {a:Option Addr} {n cap z:Nat} (hu:P.underlying t=some (.slice el)) (hz:cQ P el=some z):
  (Instr.sliceAt t (.slice a n cap) none (some (.int .i64 0)) (some (.int .i64 0))).run P w= .ok (.slice a 0 0) w:=by
 have h0:∀(y:Nat) (code:BoundsCode),(Instr.sliceBound (.int .i64 0) y code).run P w= .ok 0 w:=λy code=>
  (fE (P:=P) (w:=w) (d:=0) (y:=y) (y':=y) (v:=some (.int .i64 0)) (e:=⟨λ_=>none,λ_=>none,0,[],λ_=>none⟩) (n:=0) (by simp [nX]) ⟨_,rfl,rfl⟩ (aaf _) code).1
 have hb:(Instr.sliceBounds true n cap none (some (.int .i64 0)) (some (.int .i64 0))).run P w= .ok (0,0,0) w:=by
  unfold Instr.sliceBounds
  simp [aaq,h0]
 simp only [Instr.sliceAt,Instr.slice,aaq,aas hu,aak,aax,hb,bR hz,if_true,Nat.sub_self]
theorem wO (R:Rel B e h w) {t:TypeId} {T:List (Option SV)} {lo hi mx:Option Operand} (hz3:BI lo hi mx=true) {x v:SV} {x':Value} {l u m:Option SV} {l' u' m':Option Value} (e1:EU T lo=some l) (e2:EU T hi=some u) (e3:EU T mx=some m) (hs:jM P t h x l u m=some (v,true)) (hx:VR e x x') (hl:VO e l l') (hh:VO e u u') (hm:VO e m m'):
  ∃v',(Instr.sliceAt t x' l' u' m').run P w= .ok v' w/\VR e v v':=by
 obtain ⟨rfl,rfl,rfl⟩:=Dr hz3
 have go:∀a n cap,x'= .slice a n cap->∀el,P.underlying t=some (.slice el)->cQ P el=some 1->v= .sl 0 0 0 1 0 0 true false->∃v',(Instr.sliceAt t x' l' u' m').run P w= .ok v' w/\VR e v v':=λa n cap hx' el hu hz hv=>by
  subst hx' hv
  obtain rfl:none=l:=ael e1
  obtain rfl:some (SV.int .i64 0)=u:=ael e2
  obtain rfl:some (SV.int .i64 0)=m:=ael e3
  rw [VO] at hl
  obtain ⟨_,rfl,rfl⟩:=hh
  obtain ⟨_,rfl,rfl⟩:=hm
  subst hl
  exact ⟨_,nZ hu hz,.inl ⟨rfl,rfl,a,rfl⟩⟩
 cases x with
 |ro f k xs=>
  simp only [jM] at hs
  split at hs
  ·rename_i el hu
   split at hs
   ·rename_i hz
    cases hs
    rcases hx with ⟨_,a,cap,rfl,_⟩|⟨_,_,cap,_,_,_,rfl,_⟩
    ·exact go _ _ _ rfl _ hu hz rfl
    ·exact go _ _ _ rfl _ hu hz rfl
   ·cases hs
  ·cases hs
 |nl y=>
  rw [VR] at hx;subst hx
  by_cases hy:∃a c,x'= .slice a 0 c
  ·obtain ⟨a,c,rfl⟩:=hy
   simp only [jM] at hs
   split at hs
   ·rename_i el hu
    split at hs
    ·rename_i hz
     cases hs
     exact go _ _ _ rfl _ hu hz rfl
    ·cases hs
   ·cases hs
  ·have hs':l5 P t h (.nl x') l u m=some (v,true):=by
    unfold jM at hs
    split at hs
    ·rename_i q;cases q
    ·rename_i q;cases q;exact absurd ⟨_,_,rfl⟩ hy
    ·rename_i q;cases q
    ·exact hs
   exact kP (P:=P) R hs' (x:=.nl x') rfl hl hh hm
 |aJ f z len g=>
  simp only [jM] at hs
  split at hs
  ·rename_i el hu
   split at hs
   ·rename_i n hz
    split at hs
    ·cases hs
     obtain rfl:none=l:=ael e1
     obtain rfl:some (SV.int .i64 0)=u:=ael e2
     obtain rfl:some (SV.int .i64 0)=m:=ael e3
     rw [VO] at hl
     obtain ⟨_,rfl,rfl⟩:=hh
     obtain ⟨_,rfl,rfl⟩:=hm
     subst hl
     rcases hx with ⟨_,a,cap,rfl,_⟩|⟨_,_,cap,_,_,_,rfl,_⟩
     ·exact ⟨_,nZ hu hz,.inl ⟨rfl,rfl,_,rfl⟩⟩
     ·exact ⟨_,nZ hu hz,.inl ⟨rfl,rfl,_,rfl⟩⟩
    ·cases hs
   ·cases hs
  ·cases hs
 |_=>exact kP (P:=P) R (by simpa only [jM] using hs) hx hl hh hm
theorem sQ {x:SV} {x':Value} {n:Nat} (hx:VR e x x') (hn:oK x=some n):(∃a c,x'= .slice a n c)\/∃s,x'= .string s/\s.size=n/\∃xs,x= .str xs:=by
 unfold oK at hn
 split at hn
 ·cases hn
  rcases hx with ⟨h1,_,a,rfl⟩|⟨p,c,a,_,rfl,_⟩
  ·subst h1;exact .inl ⟨a,0,rfl⟩
  ·exact .inl ⟨_,_,rfl⟩
 ·cases hn
  rcases hx with ⟨rfl,a,c,rfl,_⟩|⟨n,o,cap,c,t,fr,rfl,_⟩
  ·exact .inl ⟨_,_,rfl⟩
  ·exact .inl ⟨_,_,rfl⟩
 ·cases hn
  rcases hx with ⟨rfl,a,c,rfl,_⟩|⟨n,o,cap,c,t,fr,rfl,_⟩
  ·exact .inl ⟨_,_,rfl⟩
  ·exact .inl ⟨_,_,rfl⟩
 ·cases hn
  rcases hx with ⟨rfl,a,c,rfl,_⟩|⟨n,o,cap,c,t,fr,rfl,_⟩
  ·exact .inl ⟨_,_,rfl⟩
  ·exact .inl ⟨_,_,rfl⟩
 ·cases hn
  rcases hx with ⟨h1,_,a,rfl⟩|⟨p,c,a,_,rfl,_⟩
  ·subst h1;exact .inl ⟨a,0,rfl⟩
  ·exact .inl ⟨_,_,rfl⟩
 ·cases hn
  obtain ⟨s,rfl,rfl⟩:=hx
  exact .inr ⟨s,rfl,by rw [eH],_,rfl⟩
 ·cases hn;rw [VR] at hx;subst hx;exact .inl ⟨_,_,rfl⟩
 ·cases hn
theorem Ao {t ty:TypeId} {x v:SV} {x':Value} (hs:Pp P t x=some v) (hx:VR e x x'):∃v',(Builtin.len_ #[t] ty #[x']).run P w= .ok v' w/\VR e v v':=by
 unfold Pp at hs
 split at hs
 ·rename_i n el ps hu
  cases hs
  obtain ⟨ys,_,rfl⟩:=hx.kK
  exact ⟨_,by simp [Builtin.len_,aas hu,goInt],rfl⟩
 ·rename_i el hu
  split at hs
  ·cases hs
  ·rename_i hne
   obtain ⟨n,hn,rfl⟩:=aag.1 hs
   rcases sQ hx hn with ⟨a,c,rfl⟩|⟨s,_,_,xs,rfl⟩
   ·exact ⟨_,by simp [Builtin.len_,aas hu,goInt],rfl⟩
   ·exact absurd rfl (hne xs)
 ·rename_i xs hu
  cases hs
  obtain ⟨s,rfl,rfl⟩:=hx
  exact ⟨.int .i64 s.size,by simp [Builtin.len_,aas hu,goInt],by rw [eH];rfl⟩
 ·cases hs
theorem Ap {t ty:TypeId} {x v:SV} {x':Value} (hs:Fm P t x=some v) (hx:VR e x x'):∃v',(Builtin.cap_ #[t] ty #[x']).run P w= .ok v' w/\VR e v v':=by
 unfold Fm at hs
 split at hs
 ·rename_i el b o i z len cap wh hu
  cases hs
  rcases hx with ⟨_,rfl,a,rfl⟩|⟨p,cap',a,_,rfl,_,_,hex,_⟩
  ·exact ⟨_,by simp [Builtin.cap_,aas hu,goInt],rfl⟩
  ·have:=hex rfl;subst this
   exact ⟨_,by simp [Builtin.cap_,aas hu,goInt],rfl⟩
 ·rename_i el hu
  cases hs
  rw [VR] at hx;subst hx
  exact ⟨_,by simp [Builtin.cap_,aas hu,goInt],rfl⟩
 ·cases hs
theorem sR {k:IntKind}:∀{vs:List SV} {ys:List Value} {a n:Int},Fo k a vs=some n->LR e vs ys->(ys.foldlM Builtin.min2 (.int k a)).run P w= .ok (.int k n) w
 | [],ys,a,n,h,g=>by
  simp only [Fo,No] at h;subst h
  rw [LR] at g;subst g
  simp
 |x::xs,_,a,n,h,⟨y,zs,hy,hz,q⟩=>by
  subst q
  unfold Fo at h
  split at h
  ·rename_i h1;cases h1
  ·rename_i k' b vs h1
   cases h1
   split at h
   ·rename_i hk
    subst hk
    rw [VR] at hy;subst hy
    simp only [List.foldlM_cons,aaq,Builtin.min2,aax,aak]
    exact sR h hz
   ·cases h
  ·cases h
end
end Go.Sy
