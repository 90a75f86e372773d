/- This file proves lemmas for the last one. Conditions: those in them. -/
import Derived.LoopN
import Derived.Below
import Derived.OrdersIn
import Derived.Laws.StructEq
import Derived.RangeFuncLeaves
import Derived.LoopNIn
import Derived.Laws.Closers25b
open Bool renaming true->Z,false->I
open Option renaming some->E,none->Y
open Decidable renaming decide->C
open List renaming length->A,getD->X,replicate->t9,range->t8
open Int renaming toNat->O
namespace Go
universe u v w z
abbrev Me:=@decide_eq_true
abbrev Mf:=@Option.some.injEq.{u}
abbrev No:=@Bool.and_eq_true
abbrev aac:=@decide_eq_true_eq
abbrev aad:=@Prod.mk.injEq.{u,v}
abbrev aaq:=@Int.toNat_natCast
abbrev aar:=@Nat.le_refl
abbrev aaB:=@List.all_eq_true.{u}
abbrev aaC:=@Option.map_eq_some_iff.{u,v}
abbrev aaH:=@Nat.zero_le
abbrev aaI:=@List.mem_range
abbrev aaJ:=@Go.Result.andThen_ok
abbrev aaQ:=@List.getElem?_eq_getElem.{u}
abbrev aaR:=@List.getElem?_eq_some_iff.{u}
abbrev aaS:=@decide_eq_false
abbrev aaT:=@List.take_of_length_le.{u}
abbrev abe:=@Go.Sem.run_bind
abbrev abA:=@List.length_append.{u}
abbrev abE:=@Array.getElem?_eq_some_iff.{u}
abbrev abF:=@Go.run_underlying
abbrev abI:=@List.getElem?_set_ne.{u}
abbrev abJ:=@List.length_eq_zero_iff.{u}
abbrev abQ:=@List.getD_eq_getElem?_getD.{u}
abbrev acg:=@List.getElem?_set_self.{u}
abbrev ach:=@Go.Sem.run_pure
abbrev acj:=@List.append_nil.{u}
abbrev acr:=@Nat.eq_of_beq_eq_true
abbrev acs:=@Option.map_some.{u,v}
abbrev acB:=@if_neg.{u}
abbrev acU:=@Option.bind_eq_some_iff.{u,v}
abbrev ac7:=@Int.eq_ofNat_of_zero_le
abbrev aeH:=@List.append_assoc.{u}
abbrev aeK:=@Nat.mul_le_mul_right
abbrev aeN:=@Nat.le_of_ble_eq_true
abbrev ae8:=@if_pos.{u}
abbrev ae9:=@List.mem_of_getElem?.{u}
abbrev afj:=@List.length_drop.{u}
abbrev afk:=@List.take_append_of_le_length.{u}
abbrev afr:=@List.getElem?_map.{u,v}
abbrev afs:=@List.getElem?_eq_none.{u}
abbrev afu:=@List.drop_drop.{u}
abbrev afy:=@List.getElem?_append_left.{u}
abbrev afA:=@List.take_append_drop.{u}
abbrev afE:=@List.getElem?_append_right.{u}
abbrev afJ:=@List.any_eq_true.{u}
abbrev afN:=@List.length_take.{u}
abbrev afO:=@List.getElem?_drop.{u}
abbrev afP:=@beq_iff_eq.{u}
abbrev afS:=@Int.tmod_eq_emod_of_nonneg
abbrev afY:=@List.getElem?_take_of_lt.{u}
abbrev afZ:=@List.getElem?_cons_zero.{u}
abbrev af0:=@Bool.true_and
abbrev af1:=@List.getElem?_take.{u}
abbrev af2:=@List.getD_cons_zero.{u}
abbrev af3:=@Nat.le_trans
abbrev af6:=@Int.tdiv_eq_ediv_of_nonneg
abbrev af7:=@List.mem_cons.{u}
abbrev af8:=@Nat.zero_add
abbrev af9:=@Bool.not_eq_true'
abbrev agh:=@List.ext_getElem?.{u}
abbrev agj:=@List.drop_append_of_le_length.{u}
abbrev agk:=@List.getD_cons_succ.{u}
abbrev agl:=@List.mem_append.{u}
abbrev agm:=@of_decide_eq_true
abbrev agr:=@List.map_cons.{u,v}
abbrev ags:=@Nat.add_mul
abbrev agE:=@List.drop_zero.{u}
abbrev agK:=@Nat.min_eq_left
abbrev agM:=@List.length_cons.{u}
abbrev agO:=@Nat.ble_eq_true_of_le
abbrev agP:=@Nat.lt_or_ge
abbrev agQ:=@Bool.and_eq_true_iff
abbrev agV:=@Bool.or_eq_true
abbrev agW:=@List.take_length.{u}
abbrev agX:=@decide_eq_false_iff_not
abbrev ag0:=@List.getElem?_cons_succ.{u}
abbrev ag8:=@Bool.and_false
abbrev ahm:=@Bool.false_and
abbrev ahy:=@List.take_take.{u}
abbrev ahB:=@List.drop_take.{u}
abbrev ahF:=@List.getElem?_toArray.{u}
abbrev ahG:=@Int.emod_eq_of_lt
abbrev ahR:=@beq_eq_false_iff_ne.{u}
abbrev ahV:=@congrArg.{u,v}
abbrev ahW:=@List.drop_eq_nil_of_le.{u}
abbrev ah7:=@Nat.mod_eq_of_lt
abbrev aic:=@Nat.add_sub_cancel_left
abbrev aii:=@Bool.false_eq_true
abbrev aiv:=@Array.length_toList.{u}
abbrev aiw:=@List.map_congr_left.{u,v}
abbrev aiD:=@Array.ext'.{u}
abbrev aiH:=@Bool.or_eq_false_iff
abbrev aiR:=@Go.World.size_alloc
abbrev aiT:=@List.cons.injEq.{u}
abbrev aiW:=@Bool.not_false
abbrev aja:=@cond_true.{u}
abbrev ajf:=@Nat.add_zero
abbrev ajj:=@List.mem_map.{u,v}
abbrev ajl:=@List.mem_iff_getElem?.{u}
abbrev ajn:=@Int.ediv_ediv_of_nonneg
abbrev ajq:=@List.getElem?_range
abbrev ajt:=@Option.some.inj.{u}
abbrev ajy:=@List.not_mem_nil.{u}
abbrev ajB:=@cond_false.{u}
abbrev ajC:=@Nat.mul_one
abbrev ajH:=@List.nodup_cons.{u}
abbrev ajR:=@List.filter_eq_self.{u}
abbrev ajT:=@List.length_set.{u}
abbrev ajZ:=@Option.bind_some.{u,v}
abbrev aj2:=@Bool.not_eq_true
abbrev aj7:=@and_true
abbrev akk:=@if_true.{u}
end Go
noncomputable section
open Go.IntKind (i64)
set_option linter.all false
abbrev Go.Value.t6(x:Int):Value:=.int .i64 x
abbrev Go.pD:=List Int
namespace Go.Sy
def lQ{α:Type}(v:α):α:=Classical.choose (⟨v,rfl⟩:∃z,z=v)
def bD{α}(v:α):lQ v=v:=Classical.choose_spec (⟨v,rfl⟩:∃z,z=v)
structure Pl where
 n:Nat
 base:Nat
 size:Nat
inductive SV where
 |bool (b:Bool)
 |int (k:IntKind) (n:Int)
 |str (s:pD)
 |nl (v:Value)
 |af (k:IntKind) (n:Nat) (xs:pD)
 |aG (b o i:Nat)
 |sl (b o i z len cap:Nat) (ex wh:Bool)
 |ro (f:Bool) (k:IntKind) (xs:pD)
 |iX (f:Bool) (xss:List pD)
 |aO (f:Bool) (z len:Nat) (g:Nat->List SV)
 |uG (k:IntKind) (xs:pD) (i:Nat)
 |ye (f:Bool) (xss:List pD) (i:Nat)
 |qI (f:Bool) (z len:Nat) (g:Nat->List SV) (e o i:Nat)
 |agg (ps:List SV)
 |bP (vs:List SV)
 |iface (t:TypeId) (v:SV)
 |fn (f:Fn) (a b:List SV)
 |aF (z n:Nat) (g:Nat->List SV)
 |b9 (b z len cap:Nat) (ex:Bool)
 |fk (b z e o i:Nat)
 |xD (b:Nat)
 |fU (g i:Nat)
abbrev SV.t6(x:Int):SV:=.int .i64 x
abbrev SV.t5(x:List Int):SV:=.af .u8 32 x
abbrev SV.sM(x:List Int):SV:=.agg [.af .u8 32 x]
abbrev SV.r5(b:Nat):SV:=.aG b 0 0
structure cw where
 r:Nat->Option Pl
 z:Nat->Option (Array Value×TypeId×(Nat×Nat))
 n0:Nat
 m:List Nat
 y:Nat->Option Nat
def bB(k:IntKind)(xs:pD):List Value:=xs.map (Value.int k)
def cD(n:Nat)(l:pD):pD:=(t8 n).map λi=>X l i 0
def kQ(s:ByteArray):pD:=s.data.toList.map λb=>(b.toNat:Int)
def qf(e:cw)(f:Bool)(k:IntKind)(xs:pD)(v:Value):Prop:=
 (xs=[]/\∃a cap,v=.slice a 0 cap/\(a=Y->cap=0))\/
 ∃n o cap c t b,v=.slice (E ⟨n,o,Y⟩) (A xs) cap/\e.z n=E (c,t,b)/\(f=Z->e.n0<=n)/\
  bB k xs=(c.toList.drop o).take (A xs)/\A xs<=cap/\o+cap<=c.size
def Ld(e:cw)(f:Bool)(b:List pD)(v:Value):Prop:=
 (b=[]/\∃a cap,v=.slice a 0 cap/\(a=Y->cap=0))\/
 ∃n o cap c t g,v=.slice (E ⟨n,o,Y⟩) (A b) cap/\e.z n=E (c,t,g)/\(f=Z->e.n0<=n)/\
  (∀(i:Nat)(d:pD),b[i]?=E d->∃y,c.toList[o+i]?=E y/\qf e f .u8 d y)/\A b<=cap/\o+cap<=c.size
mutual
def VR:cw->SV->Value->Prop
 |_,.bool b,v'=>v'=.bool b
 |_,.int k n,v'=>v'=.int k n
 |_,.str xs,v'=>∃s,v'=.string s/\xs=kQ s
 |_,.nl v,v'=>v'=v
 |_,.af _ _ _,_=>False
 |e,.aG b o i,v'=>∃p,e.r b=some p/\v'=.pointer (some ⟨p.n,p.base+(o+i),none⟩)
 |e,.sl b o i z len cap ex _,v'=>
  (len=0/\cap=0/\∃a,v'=.slice a 0 0)\/
  ∃p cap' a,e.r b=some p/\v'=.slice (some ⟨p.n,a,none⟩) len cap'/\(cap'≠0->a=p.base+(o+i*z))/\cap<=cap'/\(ex=true->cap'=cap)/\len<=cap'/\(cap'≠0->o+i*z+cap'*z<=p.size)
 |e,.ro f k xs,v'=>qf e f k xs v'
 |e,.iX f xss,v'=>Ld e f xss v'
 |e,.aO f z len g,v'=>
  (len=0/\∃a cap,v'=.slice a 0 cap/\(a=none->cap=0))\/
  ∃n o cap c t fr,v'=.slice (some ⟨n,o,none⟩) len cap/\e.z n=some (c,t,fr)/\(f=true->e.n0<=n)/\
   (∀i,i<len->PR ⟨λ_=>none,e.z,e.n0,[],λ_=>none⟩ (g i) ((c.toList.drop (o+i*z)).take z))/\len<=cap/\o+cap*z<=c.size
 |e,.uG k xs i,v'=>∃n o c t fr,v'=.pointer (some ⟨n,o+i,none⟩)/\e.z n=some (c,t,fr)/\bB k xs=(c.toList.drop o).take xs.length
 |e,.ye f xss i,v'=>∃n o c t fr,v'=.pointer (some ⟨n,o+i,none⟩)/\e.z n=some (c,t,fr)/\
   (∀(i:Nat)(xs:pD),xss[i]?=some xs->∃y,c.toList[o+i]?=some y/\qf e f .u8 xs y)
 |e,.qI _ z len g el o i,v'=>∃n o0 c t fr,v'=.pointer (some ⟨n,o0+el*z+(o+i),none⟩)/\e.z n=some (c,t,fr)/\
   (∀i,i<len->PR ⟨λ_=>none,e.z,e.n0,[],λ_=>none⟩ (g i) ((c.toList.drop (o0+i*z)).take z))/\o0+len*z<=c.size
 |e,.agg ps,v'=>∃ys,PR e ps ys/\v'=.agg ⟨ys⟩
 |e,.bP vs,v'=>∃ys,LR e vs ys/\v'=.tuple ⟨ys⟩
 |e,.iface t x,v'=>∃y,VR e x y/\v'=.iface t y
 |e,.fn f a b,v'=>∃ys us,LR e a ys/\LR e b us/\v'=.func f ⟨ys⟩ ⟨us⟩
 |_,.aF _ _ _,_=>False
 |e,.b9 b z len cap ex,v'=>
  (len=0/\cap=0/\∃a,v'=.slice a 0 0)\/
  ∃p cap' a,e.r b=some p/\v'=.slice (some ⟨p.n,a,none⟩) len cap'/\(cap'≠0->a=p.base)/\cap<=cap'/\(ex=true->cap'=cap)/\len<=cap'/\(cap'≠0->cap'*z<=p.size)
 |e,.fk b z el o i,v'=>∃p,e.r b=some p/\v'=.pointer (some ⟨p.n,p.base+(el*z+(o+i)),none⟩)
 |e,.xD b,v'=>∃p,e.r b=some p/\v'=.map (some p.n)
 |_,.fU g i,v'=>v'=.pointer (some ⟨g,i,none⟩)
def LR:cw->List SV->List Value->Prop
 |_,[],ys=>ys=[]
 |e,x::xs,ys=>∃y zs,VR e x y/\LR e xs zs/\ys=y::zs
def PR:cw->List SV->List Value->Prop
 |_,[],ys=>ys=[]
 |e,x::xs,ys=>match x with
  | .af k n l=>∃zs,PR e xs zs/\ys=bB k (cD n l)++zs
  | .aF z n g=>∃us zs,us.length=n*z/\(∀i,i<n->PR ⟨λ_=>none,e.z,e.n0,[],λ_=>none⟩ (g i) ((us.drop (i*z)).take z))/\PR e xs zs/\ys=us++zs
  |x=>∃y zs,VR e x y/\PR e xs zs/\ys=y::zs
end
def bV{n l}(h:A l=n):cD n l=l:=by
 apply agh;intro i;unfold cD;rw[afr];rcases agP i n with hi|hi
 ·rw[ajq hi];simp[List.getD,aaQ (show i<A l by omega)]
 ·rw[afs (by simpa using hi),afs (by omega)];rfl
def bp n l:A (cD n l)=n:=by simp[cD]
def lS{n i} l(h:i<n):(cD n l)[i]?=E (X l i 0):=by unfold cD;rw[afr,ajq h];rfl
def zm n o l:cD (n-o) (l.drop o)=(cD n l).drop o:=by
 apply agh;intro i;rw[afO];rcases agP .. with hi|hi
 ·rw[lS _ hi,lS _ (by omega)];simp[List.getD,afO]
 ·rw[afs (by rw[bp];exact hi),afs (by rw[bp];omega)]
def qJ{n m}(h:m<=n) l:cD m (l.take m)=(cD n l).take m:=by
 apply agh;intro i;rw[af1];rcases agP i m with hi|hi
 ·rw[lS _ hi,ae8 hi,lS _ (by omega)];simp[List.getD,hi]
 ·rw[afs (by rw[bp];exact hi),acB (by omega)]
def UB n l:cD n (cD n l)=cD n l:=bV (bp n l)
def aQ{k:IntKind}{xs}:A (bB k xs)=A xs:=by simp[bB]
def OZ{k:IntKind}{xs o}(h:o<A xs):(bB k xs)[o]?=E (.int k (X xs o 0)):=by simp[bB,List.getD,aaQ h]
def jC(k:IntKind) a b:bB k (a++b)=bB k a++bB k b:=by simp[bB]
def dW(k:IntKind) n a:bB k (a.take n)=(bB k a).take n:=by simp[bB,List.map_take]
def gz(k:IntKind) n a:bB k (a.drop n)=(bB k a).drop n:=by simp[bB,List.map_drop]
mutual
def mU(s:Nat->Nat):SV->SV
 | .aG b o i=>.aG (s b) o i
 | .sl b o i z len cap ex wh=>.sl (s b) o i z len cap ex wh
 | .agg ps=>.agg (jN s ps)
 | .bP vs=>.bP (jN s vs)
 | .iface t x=>.iface t (mU s x)
 | .fn f a b=>.fn f (jN s a) (jN s b)
 | .b9 b z len cap ex=>.b9 (s b) z len cap ex
 | .fk b z e o i=>.fk (s b) z e o i
 | .xD b=>.xD (s b)
 |v=>v
def jN(s:Nat->Nat):List SV->List SV
 | []=>[]
 |x::xs=>mU s x::jN s xs
end
mutual
def uses(j:Nat):SV->Bool
 | .aG b _ _=>b==j
 | .sl b _ _ _ _ _ _ _=>b==j
 | .agg ps=>eY j ps
 | .bP vs=>eY j vs
 | .iface _ x=>uses j x
 | .fn _ a b=>eY j a||eY j b
 | .b9 b _ _ _ _=>b==j
 | .fk b _ _ _ _=>b==j
 | .xD b=>b==j
 |_=>false
def eY(j:Nat):List SV->Bool
 | []=>false
 |x::xs=>uses j x||eY j xs
end
mutual
def gQ:SV->Bool
 | .aG _ _ _=>false
 | .sl _ _ _ _ _ _ _ _=>false
 | .b9 _ _ _ _ _=>false
 | .fk _ _ _ _ _=>false
 | .xD _=>false
 | .agg ps=>dI ps
 | .bP vs=>dI vs
 | .iface _ x=>gQ x
 | .fn _ a b=>dI a&&dI b
 |_=>true
def dI:List SV->Bool
 | []=>true
 |x::xs=>gQ x&&dI xs
end
mutual
theorem oN{j:Nat}:∀{v:SV},gQ v=true->uses j v=false
 | .aG _ _ _,h=>by simp[gQ] at h
 | .sl _ _ _ _ _ _ _ _,h=>by simp[gQ] at h
 | .b9 _ _ _ _ _,h=>by simp[gQ] at h
 | .fk _ _ _ _ _,h=>by simp[gQ] at h
 | .xD _,h=>by simp[gQ] at h
 | .agg ps,h=>by simpa only[uses] using e6 (j:=j) (by simpa only[gQ] using h)
 | .bP ps,h=>by simpa only[uses] using e6 (j:=j) (by simpa only[gQ] using h)
 | .iface _ x,h=>by simpa only[uses] using oN (j:=j) (v:=x) (by simpa only[gQ] using h)
 | .fn _ a b,h=>by
  simp only[gQ,No] at h
  simp only[uses,aiH]
  exact⟨e6 h.1,e6 h.2⟩
 | .bool _,_=>rfl
 | .int _ _,_=>rfl
 | .str _,_=>rfl
 | .nl _,_=>rfl
 | .af _ _ _,_=>rfl
 | .ro _ _ _,_=>rfl
 | .iX _ _,_=>rfl
 | .aO _ _ _ _,_=>rfl
 | .uG _ _ _,_=>rfl
 | .ye _ _ _,_=>rfl
 | .qI _ _ _ _ _ _ _,_=>rfl
 | .aF _ _ _,_=>rfl
 | .fU _ _,_=>rfl
theorem e6{j:Nat}:∀{vs:List SV},dI vs=true->eY j vs=false
 | [],_=>rfl
 |x::xs,h=>by
  simp only[dI,No] at h
  simp only[eY,aiH]
  exact⟨oN h.1,e6 h.2⟩
end
def qf.mono{e e':cw}(j:∀n o,e.z n=E o->e'.z n=E o)(l:e'.n0<=e.n0){f:Bool}{k:IntKind}{xs v}(h:qf e f k xs v):qf e' f k xs v:=by
 rcases h with h|⟨n,o,cap,c,t,m,a,b,p,i,g,d⟩
 ·exact .inl h
 ·exact .inr ⟨n,o,cap,c,t,m,a,j _ _ b,λq=>af3 l (p q),i,g,d⟩
def Ld.mono{e e':cw}(d:∀n o,e.z n=E o->e'.z n=E o)(g:e'.n0<=e.n0){f:Bool}{xss v}(h:Ld e f xss v):Ld e' f xss v:=by
 rcases h with h|⟨n,o,cap,c,t,u,j,k,w,s,r,p⟩
 ·exact .inl h
 ·exact .inr ⟨n,o,cap,c,t,u,j,d _ _ k,λq=>af3 g (w q),λi m l=>(s i m l).imp λy ⟨a,b⟩=>⟨a,b.mono d g⟩,r,p⟩
mutual
theorem VR.cN{e e':cw}(hz:∀n o,e.z n=some o->e'.z n=some o)(hn:e'.n0<=e.n0):∀(v:SV)(v':Value),(∀j p,uses j v=true->e.r j=some p->e'.r j=some p)->VR e v v'->VR e' v v'
 | .bool _,_,_,h=>h
 | .int _ _,_,_,h=>h
 | .str _,_,_,h=>h
 | .nl _,_,_,h=>h
 | .af _ _ _,_,_,h=>h
 | .aG b _ _,_,g,⟨p,h1,h2⟩=>⟨p,g b p (by simp[uses]) h1,h2⟩
 | .sl b _ _ _ _ _ _ _,_,g,h=>by
  rcases h with h|⟨p,c,a,h1,h2⟩
  ·exact .inl h
  ·exact .inr ⟨p,c,a,g b p (by simp[uses]) h1,h2⟩
 | .ro _ _ _,_,_,h=>qf.mono hz hn h
 | .iX _ _,_,_,h=>Ld.mono hz hn h
 | .aO f z len g,_,_,h=>by
  rcases h with h|⟨n,o,cap,c,t,fr,h1,h2,h3,h4,h5,h6⟩
  ·exact .inl h
  ·exact .inr ⟨n,o,cap,c,t,fr,h1,hz _ _ h2,λq=>af3 hn (h3 q),λi hi=>PR.cN (e:=⟨λ_=>none,e.z,e.n0,[],λ_=>none⟩) (e':=⟨λ_=>none,e'.z,e'.n0,[],λ_=>none⟩) hz hn (g i) _ (λ_ _ _ q=>by cases q) (h4 i hi),h5,h6⟩
 | .uG _ _ _,_,_,⟨n,o,c,t,fr,h1,h2,h3⟩=>⟨n,o,c,t,fr,h1,hz _ _ h2,h3⟩
 | .ye _ _ _,_,_,⟨n,o,c,t,fr,h1,h2,h3⟩=>⟨n,o,c,t,fr,h1,hz _ _ h2,λi xs hi=>(h3 i xs hi).imp λy ⟨a,b⟩=>⟨a,b.mono hz hn⟩⟩
 | .qI _ z len g el o i,_,_,⟨n,o0,c,t,fr,h1,h2,h3,h4⟩=>
  ⟨n,o0,c,t,fr,h1,hz _ _ h2,λi hi=>PR.cN (e:=⟨λ_=>none,e.z,e.n0,[],λ_=>none⟩) (e':=⟨λ_=>none,e'.z,e'.n0,[],λ_=>none⟩) hz hn (g i) _ (λ_ _ _ q=>by cases q) (h3 i hi),h4⟩
 | .agg ps,_,g,⟨ys,h1,h2⟩=>⟨ys,PR.cN hz hn ps ys (λj p q=>g j p (by simpa[uses] using q)) h1,h2⟩
 | .bP vs,_,g,⟨ys,h1,h2⟩=>⟨ys,LR.cN hz hn vs ys (λj p q=>g j p (by simpa[uses] using q)) h1,h2⟩
 | .iface _ x,_,g,⟨y,h1,h2⟩=>⟨y,VR.cN hz hn x y (λj p q=>g j p (by simpa[uses] using q)) h1,h2⟩
 | .fn _ a b,_,g,⟨ys,us,h1,h2,h3⟩=>
  ⟨ys,us,LR.cN hz hn a ys (λj p q=>g j p (by simp[uses,q])) h1,LR.cN hz hn b us (λj p q=>g j p (by simp[uses,q])) h2,h3⟩
 | .aF _ _ _,_,_,h=>h
 | .b9 b _ _ _ _,_,g,h=>by
  rcases h with h|⟨p,c,a,h1,h2⟩
  ·exact .inl h
  ·exact .inr ⟨p,c,a,g b p (by simp[uses]) h1,h2⟩
 | .fk b _ _ _ _,_,g,⟨p,h1,h2⟩=>⟨p,g b p (by simp[uses]) h1,h2⟩
 | .xD b,_,g,⟨p,h1,h2⟩=>⟨p,g b p (by simp[uses]) h1,h2⟩
 | .fU _ _,_,_,h=>h
theorem LR.cN{e e':cw}(hz:∀n o,e.z n=some o->e'.z n=some o)(hn:e'.n0<=e.n0):∀(vs:List SV)(ys:List Value),(∀j p,eY j vs=true->e.r j=some p->e'.r j=some p)->LR e vs ys->LR e' vs ys
 | [],_,_,h=>h
 |x::xs,_,g,⟨y,zs,h1,h2,h3⟩=>⟨y,zs,VR.cN hz hn x y (λj p q=>g j p (by simp[eY,q])) h1,LR.cN hz hn xs zs (λj p q=>g j p (by simp[eY,q])) h2,h3⟩
theorem PR.cN{e e':cw}(hz:∀n o,e.z n=some o->e'.z n=some o)(hn:e'.n0<=e.n0):∀(vs:List SV)(ys:List Value),(∀j p,eY j vs=true->e.r j=some p->e'.r j=some p)->PR e vs ys->PR e' vs ys
 | [],_,_,h=>h
 |x::xs,ys,g,h=>by
  have ih:=λzs=>PR.cN hz hn xs zs (λj p q=>g j p (by simp[eY,q]))
  have iv:=λy=>VR.cN hz hn x y (λj p q=>g j p (by simp[eY,q]))
  cases x<;>first
   |(obtain⟨zs,h1,h2⟩:=h;exact⟨zs,ih zs h1,h2⟩)
   |(rename_i z n gg;obtain⟨us,zs,h0,h1,h2,h3⟩:=h;exact⟨us,zs,h0,λi hi=>PR.cN (e:=⟨λ_=>none,e.z,e.n0,[],λ_=>none⟩) (e':=⟨λ_=>none,e'.z,e'.n0,[],λ_=>none⟩) hz hn (gg i) _ (λ_ _ _ q=>by cases q) (h1 i hi),ih zs h2,h3⟩)
   |(obtain⟨y,zs,h1,h2,h3⟩:=h;exact⟨y,zs,iv y h1,ih zs h2,h3⟩)
end
mutual
theorem VR.mU{s:Nat->Nat}{e e':cw}(hz:∀n o,e.z n=some o->e'.z n=some o)(hn:e'.n0<=e.n0):∀(v:SV)(v':Value),(∀j p,uses j v=true->e.r j=some p->e'.r (s j)=some p)->VR e v v'->VR e' (Sy.mU s v) v'
 | .bool _,_,_,h=>h
 | .int _ _,_,_,h=>h
 | .str _,_,_,h=>h
 | .nl _,_,_,h=>h
 | .af _ _ _,_,_,h=>h
 | .aG b _ _,_,g,⟨p,h1,h2⟩=>⟨p,g b p (by simp[uses]) h1,h2⟩
 | .sl b _ _ _ _ _ _ _,_,g,h=>by
  rcases h with h|⟨p,c,a,h1,h2⟩
  ·exact .inl h
  ·exact .inr ⟨p,c,a,g b p (by simp[uses]) h1,h2⟩
 | .ro f k xs,v',_,h=>VR.cN hz hn (.ro f k xs) v' (λ_ _ q=>by cases q) h
 | .iX f xss,v',_,h=>VR.cN hz hn (.iX f xss) v' (λ_ _ q=>by cases q) h
 | .aO f z len g,v',_,h=>VR.cN hz hn (.aO f z len g) v' (λ_ _ q=>by cases q) h
 | .uG k xs i,v',_,h=>VR.cN hz hn (.uG k xs i) v' (λ_ _ q=>by cases q) h
 | .ye f xss i,v',_,h=>VR.cN hz hn (.ye f xss i) v' (λ_ _ q=>by cases q) h
 | .qI f z len g a b c,v',_,h=>VR.cN hz hn (.qI f z len g a b c) v' (λ_ _ q=>by cases q) h
 | .agg ps,_,g,⟨ys,h1,h2⟩=>⟨ys,PR.mU hz hn ps ys (λj p q=>g j p (by simpa[uses] using q)) h1,h2⟩
 | .bP vs,_,g,⟨ys,h1,h2⟩=>⟨ys,LR.mU hz hn vs ys (λj p q=>g j p (by simpa[uses] using q)) h1,h2⟩
 | .iface _ x,_,g,⟨y,h1,h2⟩=>⟨y,VR.mU hz hn x y (λj p q=>g j p (by simpa[uses] using q)) h1,h2⟩
 | .fn _ a b,_,g,⟨ys,us,h1,h2,h3⟩=>
  ⟨ys,us,LR.mU hz hn a ys (λj p q=>g j p (by simp[uses,q])) h1,LR.mU hz hn b us (λj p q=>g j p (by simp[uses,q])) h2,h3⟩
 | .aF _ _ _,_,_,h=>h
 | .b9 b _ _ _ _,_,g,h=>by
  rcases h with h|⟨p,c,a,h1,h2⟩
  ·exact .inl h
  ·exact .inr ⟨p,c,a,g b p (by simp[uses]) h1,h2⟩
 | .fk b _ _ _ _,_,g,⟨p,h1,h2⟩=>⟨p,g b p (by simp[uses]) h1,h2⟩
 | .xD b,_,g,⟨p,h1,h2⟩=>⟨p,g b p (by simp[uses]) h1,h2⟩
 | .fU _ _,_,_,h=>h
theorem LR.mU{s:Nat->Nat}{e e':cw}(hz:∀n o,e.z n=some o->e'.z n=some o)(hn:e'.n0<=e.n0):∀(vs:List SV)(ys:List Value),(∀j p,eY j vs=true->e.r j=some p->e'.r (s j)=some p)->LR e vs ys->LR e' (jN s vs) ys
 | [],_,_,h=>h
 |x::xs,_,g,⟨y,zs,h1,h2,h3⟩=>⟨y,zs,VR.mU hz hn x y (λj p q=>g j p (by simp[eY,q])) h1,LR.mU hz hn xs zs (λj p q=>g j p (by simp[eY,q])) h2,h3⟩
theorem PR.mU{s:Nat->Nat}{e e':cw}(hz:∀n o,e.z n=some o->e'.z n=some o)(hn:e'.n0<=e.n0):∀(vs:List SV)(ys:List Value),(∀j p,eY j vs=true->e.r j=some p->e'.r (s j)=some p)->PR e vs ys->PR e' (jN s vs) ys
 | [],_,_,h=>h
 |x::xs,ys,g,h=>by
  have ih:=λzs=>PR.mU hz hn xs zs (λj p q=>g j p (by simp[eY,q]))
  have iv:=λy=>VR.mU hz hn x y (λj p q=>g j p (by simp[eY,q]))
  cases x<;>first
   |(obtain⟨zs,h1,h2⟩:=h;exact⟨zs,ih zs h1,h2⟩)
   |(rename_i z n gg;obtain⟨us,zs,h0,h1,h2,h3⟩:=h;exact⟨us,zs,h0,λi hi=>PR.cN (e:=⟨λ_=>none,e.z,e.n0,[],λ_=>none⟩) (e':=⟨λ_=>none,e'.z,e'.n0,[],λ_=>none⟩) hz hn (gg i) _ (λ_ _ _ q=>by cases q) (h1 i hi),ih zs h2,h3⟩)
   |(obtain⟨y,zs,h1,h2,h3⟩:=h;exact⟨y,zs,iv y h1,ih zs h2,h3⟩)
end
structure cw.Le(e e':cw):Prop where
 r:∀j p,e.r j=some p->e'.r j=some p
 z:∀n o,e.z n=some o->e'.z n=some o
 n0:e'.n0<=e.n0
def cw.Le.refl(e:cw):cw.Le e e:=⟨λ_ _ h=>h,λ_ _ h=>h,aar _⟩
def VR.mono{e e':cw}(h:cw.Le e e'){v v'}(g:VR e v v'):VR e' v v':=VR.cN h.z h.n0 v v' (λj p _ q=>h.r j p q) g
def LR.mono{e e':cw}(h:cw.Le e e'){v v'}(g:LR e v v'):LR e' v v':=LR.cN h.z h.n0 v v' (λj p _ q=>h.r j p q) g
def PR.mono{e e':cw}(h:cw.Le e e'){v v'}(g:PR e v v'):PR e' v v':=PR.cN h.z h.n0 v v' (λj p _ q=>h.r j p q) g
section
variable {e:cw}
def LR.length:∀{xs}{ys},LR e xs ys->A ys=A xs
 | [],_,h=>by rw[LR] at h;subst h;rfl
 |_::xs,_,⟨_,_,_,h,q⟩=>by subst q;simp[LR.length h]
def LR.get:∀{xs}{ys}{i:Nat}{x},LR e xs ys->xs[i]?=E x->∃y,ys[i]?=E y/\VR e x y
 | [],_,_,_,_,h=>by simp at h
 |a::xs,_,0,x,⟨y,d,b,_,q⟩,h=>by subst q;simp at h;subst h;exact⟨y,rfl,b⟩
 |a::xs,_,i+1,x,⟨y,d,_,f,q⟩,h=>by subst q;simp at h;have⟨u,c,g⟩:=LR.get f h;exact⟨u,by simpa using c,g⟩
def LR.append:∀{xs us}{ys vs},LR e xs ys->LR e us vs->LR e (xs++us) (ys++vs)
 | [],_,_,_,h,g=>by rw[LR] at h;subst h;exact g
 |_::xs,_,_,_,⟨y,c,a,b,q⟩,h=>by subst q;exact⟨y,_,a,LR.append b h,rfl⟩
def LR.one{x y}(h:VR e x y):LR e [x] [y]:=⟨y,[],h,rfl,rfl⟩
def kf:SV->Nat
 | .af _ n _=>n
 | .aF z n _=>n*z
 |_=>1
def aC:List SV->Nat
 | []=>0
 |p::a=>kf p+aC a
def E9:SV->Bool
 | .af _ _ _=>Z
 |_=>I
def bQ:SV->Bool
 | .af _ _ _=>I
 | .aF _ _ _=>I
 |_=>Z
def PR.cons{x xs ys}(a:bQ x=Z):PR e (x::xs) ys↔∃y zs,VR e x y/\PR e xs zs/\ys=y::zs:=by cases x<;>first|rfl|cases a
def PR.UC{k:IntKind}{n l xs ys}:PR e (.af k n l::xs) ys↔∃zs,PR e xs zs/\ys=bB k (cD n l)++zs:=Iff.rfl
def PR.jO{z n g xs ys}:PR e (.aF z n g::xs) ys↔∃us zs,A us=n*z/\(∀i,i<n->PR ⟨λ_=>Y,e.z,e.n0,[],λ_=>Y⟩ (g i) ((us.drop (i*z)).take z))/\PR e xs zs/\ys=us++zs:=Iff.rfl
def C8{x}(a:bQ x=Z):kf x=1:=by cases x<;>first|rfl|cases a
def PR.length:∀{ps}{ys},PR e ps ys->A ys=aC ps
 | [],_,h=>by rw[PR] at h;subst h;rfl
 |x::f,ys,h=>by
  by_cases b:bQ x=Z
  ·rw[PR.cons b] at h;obtain⟨y,c,_,a,rfl⟩:=h;simp[aC,C8 b,PR.length a];omega
  ·cases x<;>simp[bQ] at b
   ·obtain⟨c,a,rfl⟩:=h;simp[aC,kf,PR.length a,aQ,bp]
   ·obtain⟨g,c,d,_,a,rfl⟩:=h;simp[aC,kf,PR.length a,d]
def PR.append:∀{ps c}{ys zs},PR e ps ys->PR e c zs->PR e (ps++c) (ys++zs)
 | [],_,_,_,h,g=>by rw[PR] at h;subst h;exact g
 |x::k,c,ys,zs,h,g=>by
  rw[List.cons_append];by_cases f:bQ x=Z
  ·rw[PR.cons f] at h ⊢;obtain⟨y,d,b,a,rfl⟩:=h;exact⟨y,_,b,PR.append a g,rfl⟩
  ·cases x<;>simp[bQ] at f
   ·obtain⟨d,a,rfl⟩:=h;exact⟨_,PR.append a g,by rw[aeH]⟩
   ·obtain⟨d,j,i,b,a,rfl⟩:=h;exact⟨d,_,i,b,PR.append a g,by rw[aeH]⟩
def ni:List SV->Nat->Option (List SV)
 |a,0=>E a
 | [],_+1=>Y
 |p::a,o+1=>match p with
  | .af k n b=>match Nat.ble n (o+1) with
   |true=>ni a (o+1-n)
   |false=>E (.af k (n-(o+1)) (b.drop (o+1))::a)
  | .aF _ _ _=>Y
  |_=>ni a o
def qK:List SV->Nat->Option (List SV)
 |_,0=>E []
 | [],_+1=>Y
 |p::a,n+1=>match p with
  | .af k m b=>match Nat.ble m (n+1) with
   |true=>(qK a (n+1-m)).map (p:: ·)
   |false=>E [.af k (n+1) (b.take (n+1))]
  | .aF _ _ _=>Y
  |_=>(qK a n).map (p:: ·)
def mA:List SV->Nat->Nat->Option (SV×Bool)
 | [],_,_=>Y
 |p::a,o,i=>match p with
  | .af k n b=>match o with
   |0=>E (.int k (X b i 0),C (i<n))
   |o+1=>match Nat.ble n (o+1) with
    |true=>mA a (o+1-n) i
    |false=>E (.int k (X b (o+1+i) 0),C (o+1+i<n))
  | .aF _ _ _=>Y
  |p=>match o with
   |0=>match i with
    |0=>E (p,Z)
    |i+1=>mA a 0 i
   |o+1=>mA a o i
def C9:Value->Option Nat
 | .pointer Y=>E 0
 | .slice Y 0 0=>E 1
 | .map Y=>E 2
 | .chan Y=>E 3
 | .nilFunc=>E 4
 | .nilIface=>E 5
 |_=>Y
def one:SV->Bool
 | .af _ _ _| .agg _| .bP _| .aF _ _ _=>I
 | .nl v=>(C9 v).isSome
 |_=>Z
def abt(k:IntKind)(n:Nat)(xs:pD)(j:Nat)(ps:List SV):SV->Option (List SV×Bool)
 | .int a m=>if k=a then E (.af k n (xs.set j m)::ps,C (j<n)&&C (A xs=n)) else Y
 |_=>Y
def wK:List SV->Nat->Nat->SV->Option (List SV×Bool)
 | [],_,_,_=>Y
 |p::a,o,i,v=>match p with
  | .af k n b=>match o with
   |0=>abt k n b i a v
   |o+1=>match Nat.ble n (o+1) with
    |true=>(wK a (o+1-n) i v).map λq=>(p::q.1,q.2)
    |false=>abt k n b (o+1+i) a v
  | .aF _ _ _=>Y
  |_=>match o with
   |0=>match i with
    |0=>if one v then E (v::a,Z) else Y
    |i+1=>(wK a 0 i v).map λq=>(p::q.1,q.2)
   |o+1=>(wK a o i v).map λq=>(p::q.1,q.2)
def hY:∀{ps a}{o}{ys},ni ps o=E a->PR e ps ys->PR e a (ys.drop o)/\o<=A ys
 |ps,a,0,ys,h,g=>by
  have:ni ps 0=E ps:=by cases ps<;>rfl
  rw[this] at h;cases h;exact⟨by simpa using g,aaH _⟩
 | [],a,o+1,ys,h,g=>by simp[ni] at h
 |x::s,a,o+1,ys,h,g=>by
  by_cases i:bQ x=Z
  ·have p:ni s o=E a:=by cases x<;>first|exact h|cases i
   rw[PR.cons i] at g;obtain⟨y,j,_,c,rfl⟩:=g;have⟨f,r⟩:=hY p c;exact⟨by simpa using f,by simp;omega⟩
  ·cases x<;>simp[bQ] at i;case aF=>simp[ni] at h
   rename_i k n l;obtain⟨j,c,rfl⟩:=g;simp[ni] at h;split at h
   ·rename_i b;have d:=aeN b;have⟨f,r⟩:=hY h c;refine⟨?_,by simp[aQ,bp];omega⟩;rw[List.drop_append];rw[ahW (by rw[aQ,bp];exact d),aQ,bp]
    exact f
   ·rename_i b
    cases h
    have m:o+1<n:=by
     rcases agP .. with q|q
     ·exact q
     ·rw[agO q] at b;cases b
    refine⟨⟨j,c,?_⟩,by simp[aQ,bp];omega⟩
    rw[agj (by rw[aQ,bp];omega),zm,gz]
def nj:∀{ps a}{n}{ys},qK ps n=E a->PR e ps ys->PR e a (ys.take n)/\n<=A ys
 |ps,a,0,ys,h,g=>by
  have:qK ps 0=E []:=by cases ps<;>rfl
  rw[this] at h;cases h;exact⟨by simp[PR],aaH _⟩
 | [],a,n+1,ys,h,g=>by simp[qK] at h
 |x::v,a,n+1,ys,h,g=>by
  by_cases c:bQ x=Z
  ·have r:(qK v n).map (x:: ·)=E a:=by cases x<;>first|exact h|cases c
   obtain⟨i,o,rfl⟩:=aaC.1 r;rw[PR.cons c] at g;obtain⟨y,t,u,p,rfl⟩:=g;have⟨j,s⟩:=nj o p;exact⟨by rw[PR.cons c];exact⟨y,_,u,j,by simp⟩,by simp;omega⟩
  ·cases x<;>simp[bQ] at c;case aF=>simp[qK] at h
   rename_i k m l;obtain⟨t,p,rfl⟩:=g;simp[qK] at h;split at h
   ·rename_i b;have f:=aeN b;obtain⟨i,o,rfl⟩:=aaC.1 h;obtain⟨j,s⟩:=nj o p;refine⟨⟨_,j,?_⟩,by simp[aQ,bp];omega⟩
    rw[List.take_append,aaT (by rw[aQ,bp];exact f),aQ,bp]
   ·rename_i b
    cases h
    have d:n+1<m:=by
     rcases agP .. with q|q
     ·exact q
     ·rw[agO q] at b;cases b
    refine⟨⟨[],rfl,?_⟩,by simp[aQ,bp];omega⟩
    rw[afk (by rw[aQ,bp];omega),qJ (Nat.le_of_lt d),dW,acj]
def PR.Lf{k:IntKind}{n j l zs}(h:j<n):(bB k (cD n l)++zs)[j]?=E (.int k (X l j 0)):=by rw[afy (by rw[aQ,bp];exact h)];simp[bB,lS l h]
def ia:∀{ps}{o i}{ys}{v},mA ps o i=E (v,Z)->PR e ps ys->∃y,ys[o+i]?=E y/\VR e v y
 | [],o,i,ys,v,h,g=>by simp[mA] at h
 |x::m,o,i,ys,v,h,g=>by
  by_cases a:bQ x=Z
  ·rw[PR.cons a] at g;obtain⟨y,r,s,f,rfl⟩:=g;cases o with
   |zero=>cases i with
    |zero=>
     have:v=x:=by cases x<;>simp[mA,bQ] at h a<;>exact h.symm
     subst this;exact⟨y,by simp,s⟩
    |succ i=>
     have j:mA m 0 i=E (v,Z):=by cases x<;>first|exact h|cases a
     have⟨u,b,d⟩:=ia j f
     exact⟨u,by simpa[Nat.add_comm,Nat.add_left_comm] using b,d⟩
   |succ o=>
    have j:mA m o i=E (v,Z):=by cases x<;>first|exact h|cases a
    have⟨u,b,d⟩:=ia j f
    exact⟨u,by rw[show o+1+i=o+i+1 by omega];simpa using b,d⟩
  ·cases x<;>simp[bQ] at a
   case aF=>simp[mA] at h
   rename_i k n l
   obtain⟨r,f,rfl⟩:=g
   simp only[mA] at h
   split at h
   ·simp only[Mf,aad,aac] at h
    have⟨rfl,h⟩:=h
    exact⟨_,by rw[af8,PR.Lf h],rfl⟩
   ·rename_i o
    split at h
    ·rename_i p
     have q:=aeN p
     obtain⟨u,b,d⟩:=ia h f
     refine⟨u,?_,d⟩
     rw[afE (by rw[aQ,bp];omega),aQ,bp]
     rw[<-b];congr 1;omega
    ·simp only[Mf,aad,aac] at h
     obtain⟨rfl,h⟩:=h
     exact⟨_,by rw[PR.Lf h],rfl⟩
def UD{v}(h:(C9 v).isSome=Z):v.oneCell'=Z:=by cases v<;>first|rfl|(simp[C9] at h)
def VR.oO{v v'}(h:VR e v v')(b:one v=Z):v'.oneCell'=Z:=by cases v with
 |nl x=>rw[VR] at h;subst h;exact UD b
 |af=>cases b
 |agg=>cases b
 |bP=>cases b
 |bool=>rw[VR] at h;subst h;rfl
 |int=>rw[VR] at h;subst h;rfl
 |str=>obtain⟨s,rfl,_⟩:=h;rfl
 |aG=>obtain⟨p,_,rfl⟩:=h;rfl
 |sl=>rcases h with⟨_,_,a,rfl⟩|⟨p,c,a,_,rfl,_⟩<;>rfl
 |ro=>rcases h with⟨_,a,c,rfl,_⟩|⟨n,o,cap,c,t,d,rfl,_⟩<;>rfl
 |iX=>rcases h with⟨_,a,c,rfl,_⟩|⟨n,o,cap,c,t,d,rfl,_⟩<;>rfl
 |aO=>rcases h with⟨_,a,c,rfl,_⟩|⟨n,o,cap,c,t,d,rfl,_⟩<;>rfl
 |uG=>obtain⟨n,o,c,t,d,rfl,_⟩:=h;rfl
 |ye=>obtain⟨n,o,c,t,d,rfl,_⟩:=h;rfl
 |qI=>obtain⟨n,o,c,t,d,rfl,_⟩:=h;rfl
 |iface=>obtain⟨y,_,rfl⟩:=h;rfl
 |fn=>obtain⟨ys,us,_,_,rfl⟩:=h;rfl
 |aF=>cases b
 |b9=>rcases h with⟨_,_,a,rfl⟩|⟨p,c,a,_,rfl,_⟩<;>rfl
 |fk=>obtain⟨p,_,rfl⟩:=h;rfl
 |xD=>obtain⟨p,_,rfl⟩:=h;rfl
 |fU=>rw[VR] at h;subst h;rfl
def zn{k:IntKind}{n j l ps qs v y zs}(h:abt k n l j ps v=E (qs,Z))(g:PR e ps zs)(c:VR e v y):
  PR e qs ((bB k (cD n l)++zs).set j y)/\j<n:=by
 unfold abt at h;split at h
 ·rename_i f m;split at h
  ·rename_i d;subst d;simp[Mf,aad,No,aac] at h;have⟨rfl,a,b⟩:=h;rw[VR] at c;subst c;refine⟨⟨zs,g,?_⟩,a⟩;rw[List.set_append_left _ _ (by rw[aQ,bp];exact a),bV b,bV (by simp[b])];simp[bB,List.map_set]
  ·cases h
 ·cases h
def mB:∀{ps c}{o i}{ys}{v}{y},wK ps o i v=E (c,Z)->PR e ps ys->VR e v y->PR e c (ys.set (o+i) y)/\o+i<A ys
 | [],c,o,i,ys,v,y,h,g,d=>by simp[wK] at h
 |x::r,c,o,i,ys,v,y,h,g,d=>by
  by_cases f:bQ x=Z
  ·rw[PR.cons f] at g;obtain⟨u,s,J,m,rfl⟩:=g;have z:∀{o i},((wK r o i v).map λq=>(x::q.1,q.2))=E (c,Z)->PR e c (u::s.set (o+i) y)/\o+i<A s:=λh=>by
    have⟨⟨H,D⟩,t,a⟩:=aaC.1 h;simp[aad] at a;obtain⟨rfl,rfl⟩:=a;have⟨b,j⟩:=mB t m d;exact⟨by rw[PR.cons f];exact⟨u,_,J,b,rfl⟩,j⟩
   cases o with
   |zero=>cases i with
    |zero=>
     have a:(if one v then E (v::r,Z) else Y)=E (c,Z):=by cases x<;>first|exact h|cases f
     split at a
     ·rename_i F;cases a;have w:bQ v=Z:=by cases v<;>first|rfl|cases F
      exact⟨by rw[PR.cons w];exact⟨y,s,d,m,by simp⟩,by simp⟩
     ·cases a
    |succ i=>
     have a:((wK r 0 i v).map λq=>(x::q.1,q.2))=E (c,Z):=by cases x<;>first|exact h|cases f
     have⟨b,j⟩:=z a
     exact⟨by rw[af8] at b ⊢;simpa using b,by simp;omega⟩
   |succ o=>
    have a:((wK r o i v).map λq=>(x::q.1,q.2))=E (c,Z):=by cases x<;>first|exact h|cases f
    have⟨b,j⟩:=z a
    exact⟨by rw[show o+1+i=o+i+1 by omega];simpa using b,by simp;omega⟩
  ·cases x<;>simp[bQ] at f
   case aF=>simp[wK] at h
   rename_i k n l
   obtain⟨s,m,rfl⟩:=g
   simp[wK] at h
   split at h
   ·obtain⟨b,j⟩:=zn h m d
    exact⟨by rw[af8];exact b,by simp[aQ,bp];omega⟩
   ·rename_i o
    split at h
    ·rename_i B
     have G:=aeN B
     obtain⟨⟨H,D⟩,t,a⟩:=aaC.1 h
     simp[aad] at a
     obtain⟨rfl,rfl⟩:=a
     obtain⟨b,j⟩:=mB t m d
     refine⟨⟨_,b,?_⟩,by simp[aQ,bp];omega⟩
     rw[List.set_append_right _ _ (by rw[aQ,bp];omega),aQ,bp]
     congr 2;omega
    ·obtain⟨b,j⟩:=zn h m d
     exact⟨b,by simp[aQ,bp];omega⟩
def O5(ps:List SV)(o n:Nat):Option (List SV):=(ni ps o).bind λq=>qK q n
def tM{ps qs o n ys}(h:O5 ps o n=E qs)(g:PR e ps ys):PR e qs ((ys.drop o).take n)/\o+n<=A ys:=by have⟨q,a,d⟩:=acU.1 h;have⟨f,i⟩:=hY a g;have⟨b,c⟩:=nj d f;refine⟨b,?_⟩;rw[afj] at c;omega
def UE(ps:List SV)(o n:Nat)(new:List SV):Option (List SV):=match qK ps o,ni ps (o+n) with
 |some a,E b=>E (a++new++b)
 |_,_=>Y
def tN{ps qs new o n ys zs}(h:UE ps o n new=E qs)(g:PR e ps ys)(j:PR e new zs):PR e qs (ys.take o++zs++ys.drop (o+n))/\o+n<=A ys:=by
 unfold UE at h;split at h
 ·rename_i a b f c;cases h;have⟨d,_⟩:=nj f g;have⟨i,k⟩:=hY c g;exact⟨(d.append j).append i,k⟩
 ·cases h
end
def RI:Nat->Option (IntKind×pD):=λg=>match Nat.beq g 1 with|true=>E (.u8,[0,1,56,2,57,49,28,3,61,58,42,50,38,29,17,4,62,47,59,36,45,43,51,22,53,39,33,30,24,18,12,5,63,55,48,27,60,41,37,16,46,35,44,21,52,32,23,11,54,26,40,15,34,20,31,10,25,14,19,9,13,8,7,6])|false=>Y
def TR(e:cw)(t:List (Option SV))(t':List Value):Prop:=
 A t=A t'/\∀(i:Nat)(v:SV)(a:Value),t[i]?=E (E v)->t'[i]?=E a->VR e v a
structure Lp where
 l:Nat
 t:List (Option SV)
 ps:Array Tmp
 zo:Code
 body:Code
 st:LoopState
 lR:Option Code
inductive Blk where
 |b (ps:List SV)
 |g (o:Option Lp)
abbrev Blk.gap : Blk := .g Y
def zp(e:cw)(i:Nat)(g:Option Lp)(w:World):Prop:=match g with
 |none=>True
 |some L=>e.y i=E L.l/\∃r:Loop,w.heap[L.l]?=E (.loop r)/\r.params=L.ps/\r.assign=L.zo/\r.body=L.body/\r.state=L.st/\r.pending=L.lR/\TR e L.t r.tmps.toList
def zp.jy{e e':cw}{i g w w'}(h:zp e i g w)(l:∀(n:Nat)(r:Loop),w.heap[n]?=E (.loop r)->w'.heap[n]?=E (.loop r))(c:e'.y i=e.y i)(m:∀L,g=E L->∀v v',E v∈L.t->VR e v v'->VR e' v v'):zp e' i g w':=by cases g with
 |none=>trivial
 |some L=>have⟨d,r,f,x,u,s,q,k,p,o⟩:=h;exact⟨by rw[c];exact d,r,l _ _ f,x,u,s,q,k,p,λj v v' a b=>m L rfl v v' (ae9 a) (o j v v' a b)⟩
def zp.le{e e':cw}{i g w w'}(h:zp e i g w)(c:∀(n:Nat)(r:Loop),w.heap[n]?=E (.loop r)->w'.heap[n]?=E (.loop r))(b:e'.y i=e.y i)(a:cw.Le e e'):zp e' i g w':=
 h.jy c b λ_ _ _ _ _ d=>d.mono a
structure dj where
 w:World
 e:cw
 k:Nat
 l:List Nat
def va(base a:Nat)(o o':Obj):Prop:=
 ∃(c b:Array Value)(t:TypeId)(d:Nat×Nat),o=.cells c t d/\o'=.cells b t d/\b.size=c.size/\∀j,j<base\/base+a<=j->b[j]?=c[j]?
def BR(e:cw)(p:Pl)(ps:List SV)(o:Obj):Prop:=
 ∃c t,o=.cells c t (0,0)/\p.base+p.size<=c.size/\aC ps<=p.size/\PR e ps ((c.toList.drop p.base).take (aC ps))
structure bM(B:dj)(e:cw)(h:List Blk)(w:World):Prop where
 os:w.os=B.w.os
 tape:w.tape=B.w.tape
 output:w.output=B.w.output
 size:B.w.heap.size<=w.heap.size
 inj:∀(i j:Nat)(p q:Pl),e.r i=some p->e.r j=some q->p.n=q.n->i=j
 dom:∀(i:Nat)(p:Pl),e.r i=some p->i<h.length
 gM:∀(i:Nat)(p:Pl),e.r i=some p->e.z p.n=none
 gN:∀(n:Nat)(c:Array Value)(t:TypeId)(fr:Nat×Nat),e.z n=some (c,t,fr)->w.heap[n]?=some (.cells c t fr)
 bN:∀n x,e.z n=some x->B.e.z n=some x\/B.w.heap.size<=n
 fU:∀(g:Nat)(k:IntKind)(xs:pD),RI g=some (k,xs)->∃c t fr,e.z g=some (c,t,fr)/\bB k xs=c.toList.take xs.length
 cM:∀(i:Nat)(p:Pl),e.r i=some p->B.e.r i=some p\/B.w.heap.size<=p.n
 b6:∀(i:Nat)(p:Pl),B.e.r i=some p->e.r i=some p
 cE:∀n x,B.e.z n=some x->e.z n=some x
 n0:e.n0=B.e.n0
 dK:B.e.n0<=B.w.heap.size
 gr:∀(i:Nat)(ps:List SV),h[i]?=some (.b ps)->(aC ps=0/\e.r i=none)\/∃p o,e.r i=some p/\w.heap[p.n]?=some o/\BR e p ps o
 gap:∀(i:Nat)(g:Option Lp),h[i]?=some (.g g)->e.r i=none/\zp e i g w
 yi:∀(i j n:Nat),e.y i=some n->e.y j=some n->i=j
 yb:∀(i n:Nat),e.y i=some n->n∈B.l\/B.w.heap.size<=n
 old:∀n:Nat,n<B.w.heap.size->(∀(i:Nat)(p:Pl),B.e.r i=some p->p.n≠n)->n ∉ B.l->w.heap[n]?=B.w.heap[n]?
 lz:∀(i:Nat)(p:Pl),B.e.r i=some p->∃o o',B.w.heap[p.n]?=some o/\w.heap[p.n]?=some o'/\va p.base p.size o o'
 kr:∀(i:Nat)(p:Pl),B.e.r i=some p->i<B.k
 iT:B.k<=h.length
 g7:∀r,r∈e.m->w.heap[r]?=some (.deferred (some []))/\B.w.heap.size<=r
 jG:e.m.Nodup
structure St where
 t:List (Option SV)
 h:List Blk
 ob:Bool
abbrev _root_.Option.x3(o:Option St):=o.map λs=>(Exit.normal,s)
abbrev _root_.Option.v3{α β γ}(o:Option (α×β×γ)):=o.map λx=>(x.1,x.2.2)
abbrev UF:=FuncId->List SV->List Blk->Nat->Option (SV×List Blk×List Blk×Bool)
abbrev ct:=Fn->List SV->List Blk->Nat->Option (SV×List Blk×List Blk×Bool)
structure cu where
 g:UF
 inl:FuncId->Option Func
 pf:FuncId->Nat
 nb:FuncId->Nat
 sym:Tmp->Option Bool
 eZ:Tmp->Bool
 yc:Nat->List SV->List Blk->Option (SV×List Blk×Bool):=λ_ _ _=>none
def aa(a b:Bool):Bool:=match b with
 |true=>a
 |false=>I
def av{a b:Bool}:aa a b=Z↔a=Z/\b=Z:=by cases a<;>cases b<;>decide
section
variable (P:Program)
def eG(t:TypeId):Option Nat:=(P.info? t).map (·.size)
def gw(t:TypeId):Option Value:=(P.info? t).bind (·.zero)
def jf(t:TypeId):Option Bool:=(P.underlying t).map λ| .struct _=>Z| .array _ _=>Z|_=>I
def gl(t:TypeId):Option IntKind:=match P.underlying t with
 |some (.int k)=>E k
 |_=>Y
mutual
def wL:Value->Option SV
 | .bool b=>some (.bool b)
 | .int k n=>some (.int k n)
 | .string s=>some (.str (kQ s))
 | .pointer none=>some (.nl (.pointer none))
 | .slice none 0 0=>some (.nl (.slice none 0 0))
 | .map none=>some (.nl (.map none))
 | .chan none=>some (.nl (.chan none))
 | .nilFunc=>some (.nl .nilFunc)
 | .nilIface=>some (.nl .nilIface)
 | .tuple ⟨xs⟩=>(ofL xs).map .bP
 | .iface t x=>(wL x).map (.iface t)
 | .func f ⟨xs⟩ ⟨ys⟩=>match ofL xs,ofL ys with
  |some a,some b=>some (.fn f a b)
  |_,_=>none
 |_=>none
def ofL:List Value->Option (List SV)
 | []=>some []
 |x::xs=>match wL x,ofL xs with
  |some a,some b=>some (a::b)
  |_,_=>none
end
def ev(t:List (Option SV)):Operand->Option SV
 | .tmp i=>match t[i]? with
  |some (E v)=>E v
  |_=>Y
 | .const v=>wL v
 | .func f=>E (.fn (.func f) [] [])
 | .global g=>match RI g with
  |some _=>E (.fU g 0)
  |none=>Y
def uP(t:List (Option SV)):List Operand->Option (List SV)
 | []=>E []
 |x::a=>match ev t x,uP t a with
  |some v,E b=>E (v::b)
  |_,_=>Y
def Q1(t:List (Option SV)):Option Operand->Option (Option SV)
 |none=>E Y
 |some x=>(ev t x).map E
def UG(g:TypeId->Option (List SV)):List Field->Option (List SV)
 | []=>E []
 |f::c=>match g f.type,UG g c with
  |some a,E b=>E (a++b)
  |_,_=>Y
def Fb:Nat->TypeId->Option (List SV)
 |0,_=>Y
 |d+1,t=>match P.underlying t with
  |some .bool=>E [.bool I]
  |some (.int k)=>E [.int k 0]
  |some .string=>E [.str []]
  |some (.pointer _)=>E [.nl (.pointer Y)]
  |some (.slice _)=>E [.nl (.slice Y 0 0)]
  |some (.map _ _)=>E [.nl (.map Y)]
  |some (.func _ _ _)=>E [.nl .nilFunc]
  |some (.interface _)=>E [.nl .nilIface]
  |some (.array n e)=>match gl P e with
   |some k=>E [.af k n (t9 n 0)]
   |none=>(Fb d e).map λz=>(t9 n z).flatten
  |some (.struct a)=>UG (λt=>Fb d t) a.toList
  |_=>Y
def Fc(k:IntKind):pD->List Value->Option (List Value)
 | [],c=>E c
 |a::f,.int d b::c=>if k=d/\a=b then Fc k f c else Y
 |_::_,_=>Y
def UH:SV->Value->Bool
 | .bool a,.bool b=>a==b
 | .int k a,.int c b=>C (k=c)&&a==b
 | .str [],.string s=>s.data.toList.isEmpty
 | .nl v,w=>match C9 v,C9 w with
  |some a,E b=>a==b
  |_,_=>I
 |_,_=>I
def BH:List SV->List Value->Bool
 | [],a=>a.isEmpty
 | .af k n c::b,a=>match Fc k c a with
  |some a=>C (A c=n)&&BH b a
  |none=>I
 |p::b,y::a=>UH p y&&BH b a
 |_::_,[]=>I
def UI:Value->List Value
 | .agg ⟨a⟩=>a
 |v=>[v]
def nk(t:TypeId):Option (List SV):=match gw P t,Fb P 12 t with
 |some z,E a=>if BH a (UI z) then E a else Y
 |_,_=>Y
def lT:SV->List SV
 | .agg a=>a
 |v=>[v]
def awN(t:TypeId)(ps:List SV):Option SV:=match jf P t with
 |some Z=>E (.agg ps)
 |some I=>match ps with
  | [p]=>if one p then E p else Y
  |_=>Y
 |none=>Y
def O6(ps:List SV)(o i n:Nat):Option (List SV×Bool):=match i with
 |0=>(O5 ps o n).map λq=>(q,Z)
 |i+1=>match ni ps o with
  |some (.af k m a::_)=>E ([.af k n ((a.drop (i+1)).take n)],C (i+1+n<=m))
  |_=>Y
def xF(t:TypeId)(h:List Blk):SV->Option (SV×Bool)
 | .aG b o i=>match h[b]? with
  |some (.b j)=>match jf P t with
   |some Z=>match eG P t with
    |some n=>(O6 j o i n).map λq=>(.agg q.1,q.2)
    |none=>Y
   |some I=>mA j o i
   |none=>Y
  |_=>Y
 | .uG k a i=>match jf P t with
  |some Z=>match eG P t with
   |some n=>E (.agg [.af k n ((a.drop i).take n)],C (0<n)&&C (i+n<=A a))
   |none=>Y
  |some I=>E (.int k (X a i 0),C (i<A a))
  |none=>Y
 | .ye f c i=>match jf P t with
  |some I=>E (.ro f .u8 (X c i []),C (i<A c))
  |_=>Y
 | .qI _ z d g e o i=>match jf P t with
  |some Z=>match eG P t with
   |some n=>(O6 (g e) o i n).map λq=>(.agg q.1,q.2&&(C (e<d)&&C (o+i+n<=z)))
   |none=>Y
  |some I=>(mA (g e) o i).map λq=>(q.1,q.2&&(C (e<d)&&C (o+i<z)))
  |none=>Y
 | .fk b z e o i=>match h[b]? with
  |some (.b [.aF l n g])=>match Nat.beq l z,jf P t with
   |true,E Z=>match eG P t with
    |some m=>(O6 (g e) o i m).map λq=>(.agg q.1,q.2&&(C (e<n)&&C (o+i+m<=z)))
    |none=>Y
   |true,E I=>(mA (g e) o i).map λq=>(q.1,q.2&&(C (e<n)&&C (o+i<z)))
   |_,_=>Y
  |_=>Y
 | .fU g i=>match RI g,jf P t with
  |some (k,a),E I=>E (.int k (X a i 0),C (i<A a))
  |_,_=>Y
 |_=>Y
def zq(c:Bool):SV->SV->SV
 | .bool x,.bool y=>.bool (bif c then x else y)
 | .int k x,.int h y=>if k=h then .int k (bif c then x else y) else bif c then .int k x else .int h y
 | .af k n g,.af h m d=>if k=h/\n=m then .af k n (bif c then g else d) else bif c then .af k n g else .af h m d
 | .ro f k g,.ro i h d=>if k=h then .ro (f&&i) k (bif c then g else d) else bif c then .ro f k g else .ro i h d
 | .nl (.slice Y 0 0),.ro f k d=>.ro f k (bif c then[] else d)
 | .ro f k g,.nl (.slice Y 0 0)=>.ro f k (bif c then g else[])
 | .iX f g,.iX i d=>.iX (f&&i) (bif c then g else d)
 | .nl (.slice Y 0 0),.iX f d=>.iX f (bif c then[] else d)
 | .iX f g,.nl (.slice Y 0 0)=>.iX f (bif c then g else[])
 | .nl (.slice Y 0 0),.nl (.slice Y 0 0)=>.nl (.slice Y 0 0)
 | .str x,.str y=>.str (bif c then x else y)
 |a,b=>bif c then a else b
def bF(c:Bool):List SV->List SV->List SV
 |x::d,y::b=>zq c x y::bF c d b
 |f,a=>bif c then f else a
def jP(t:TypeId)(h:List Blk)(x:SV):SV->Option (List Blk×Bool)
 | .aG b o i=>match h[b]? with
  |some (.b f)=>match jf P t with
   |some Z=>match x,eG P t,i with
    | .agg q,E n,0=>if C (aC q=n)&&q.all λp=>one p||E9 p then(UE f o n q).map λps'=>(h.set b (.b ps'),Z) else Y
    |_,_,_=>Y
   |some I=>if one x&&eG P t==E 1 then(wK f o i x).map λq=>(h.set b (.b q.1),q.2) else Y
   |none=>Y
  |_=>Y
 | .fk b z a o i=>match h[b]? with
  |some (.b [.aF z' n g])=>match Nat.beq z' z,jf P t with
   |true,E Z=>match x,eG P t,i with
    | .agg q,E m,0=>if C (aC q=m)&&(q.all λp=>one p||E9 p)&&dI q then(UE (g a) o m q).map λps'=>(h.set b (.b [.aF z n λi=>bF (Nat.beq i a) ps' (g i)]),C (a<n)) else Y
    |_,_,_=>Y
   |true,E I=>if one x&&eG P t==E 1&&gQ x then(wK (g a) o i x).map λq=>(h.set b (.b [.aF z n λi=>bF (Nat.beq i a) q.1 (g i)]),q.2&&C (a<n)) else Y
   |_,_=>Y
  |_=>Y
 |_=>Y
def vb(f:∀n,BitVec n->BitVec n->BitVec n)(k:IntKind)(a b:Int):Int:=k.wrap (f k.bits (BitVec.ofInt k.bits a) (BitVec.ofInt k.bits b)).toNat
def fj:=vb λ_ a b=>a&&& b
def qn:=vb λ_ a b=>a|||b
def gJ:=vb λ_ a b=>a^^^b
def Lg:=vb λ_ a b=>a&&& ~~~b
def jz(k:IntKind)(a:Int)(n:Nat):Int:=k.wrap (a*2^(min n k.bits))
def eF(k:IntKind)(a:Int)(n:Nat):Int:=a.fdiv (2^(min n k.bits))
def Ff(op:BinOp)(k:IntKind)(a:Int)(k':IntKind)(b:Int):Option (SV×Bool):=
 match op with
 | .shl=>E (.int k (jz k a (O b)),C (0<=b))
 | .shr=>E (.int k (eF k a (O b)),C (0<=b))
 |_=>if k≠k' then Y else match op with
  | .add=>E (.int k (k.wrap (a+b)),Z)
  | .sub=>E (.int k (k.wrap (a-b)),Z)
  | .mul=>E (.int k (k.wrap (a*b)),Z)
  | .quo=>E (.int k (k.wrap (a.tdiv b)),b != 0)
  | .rem=>E (.int k (a.tmod b),b != 0)
  | .and=>E (.int k (fj k a b),Z)
  | .or=>E (.int k (qn k a b),Z)
  | .xor=>E (.int k (gJ k a b),Z)
  | .andNot=>E (.int k (Lg k a b),Z)
  | .eql=>E (.bool (a==b),Z)
  | .neq=>E (.bool (a != b),Z)
  | .lss=>E (.bool (C (a<b)),Z)
  | .leq=>E (.bool (C (a<=b)),Z)
  | .gtr=>E (.bool (C (a>b)),Z)
  | .geq=>E (.bool (C (a>=b)),Z)
  |_=>Y
def tO(g:TypeId->Option (IntKind×Nat))(k:IntKind)(a:Nat):List Field->Option (IntKind×Nat)
 | []=>E (k,a)
 |f::rest=>match g f.type with
  |some (b,m)=>if b=k/\f.name≠ "_"/\f.offset=a/\eG P f.type=E m then tO g k (a+m) rest else Y
  |none=>Y
def nq:Nat->TypeId->Option (IntKind×Nat)
 |0,_=>Y
 |d+1,t=>match P.underlying t with
  |some (.int k)=>E (k,1)
  |some (.array n e)=>match nq d e with
   |some (k,m)=>if eG P e=E m then E (k,n*m) else Y
   |none=>Y
  |some (.struct a)=>if P.stoodInHeld t then Y else match a.toList with
   | []=>Y
   |f::rest=>match nq d f.type with
    |some (k,m)=>if f.name≠ "_"/\f.offset=0/\eG P f.type=E m then tO P (λt=>nq d t) k m rest else Y
    |none=>Y
  |_=>Y
def zu(k:IntKind):List SV->Option (pD×Bool)
 | []=>E ([],Z)
 | .af c n a::b=>if k=c then match b.isEmpty with
  |true=>E (a,C (A a=n))
  |false=>(zu k b).map λq=>(a++q.1,aa (C (A a=n)) q.2) else Y
 | .int c n::b=>if k=c then(zu k b).map λq=>(n::q.1,q.2) else Y
 |_=>Y
def gL(op:BinOp)(b:Bool):Option SV:=match op with
 | .eql=>E (.bool b)
 | .neq=>E (.bool !b)
 |_=>Y
def eqS(op:BinOp)(T:TypeId)(x y:Operand):SV->SV->Option (SV×Bool)
 | .agg d,.agg f=>if P.eqGuardType P.depth T||jf P T==E I then Y else match nq P 20 T with
  |some (k,n)=>match zu k d,zu k f with
   |some (l,p),E (m,q)=>if aC d=n/\aC f=n then(gL op (C (l=m))).map λv=>(v,aa p q) else Y
   |_,_=>Y
  |none=>Y
 | .bool a,.bool b=>match P.underlying T with
  |some .bool=>(gL op (a==b)).map λv=>(v,Z)
  |_=>Y
 | .str a,.str b=>(gL op (C (a=b))).map λv=>(v,Z)
 | .aG _ _ _,.nl (.pointer Y)=>match P.underlying T with
  |some (.pointer _)=>(gL op I).map λv=>(v,Z)
  |_=>Y
 | .nl (.pointer Y),.nl (.pointer Y)=>match P.underlying T with
  |some (.pointer _)=>(gL op Z).map λv=>(v,Z)
  |_=>Y
 | .nl .nilIface,.nl .nilIface=>match P.underlying T,x,y with
  |some (.interface _),.const _,_=>(gL op Z).map λv=>(v,Z)
  |some (.interface _),_,.const _=>(gL op Z).map λv=>(v,Z)
  |_,_,_=>Y
 | .iface _ _,.nl .nilIface=>match P.underlying T with
  |some (.interface _)=>(gL op I).map λv=>(v,Z)
  |_=>Y
 | .nl .nilIface,.iface _ _=>match P.underlying T with
  |some (.interface _)=>(gL op I).map λv=>(v,Z)
  |_=>Y
 | .iface t (.int k a),.iface g (.int h b)=>match P.underlying T,P.underlying t with
  |some (.interface _),E (.int _)=>match(P.info? t).map (·.comparable) with
   |some Z=>if t=g/\k=h then(gL op (a==b)).map λv=>(v,Z) else Y
   |_=>Y
  |_,_=>Y
 | .ro _ _ i,.nl (.slice Y 0 0)=>match P.underlying T with
  |some (.slice _)=>(gL op I).map λv=>(v,C (0<A i))
  |_=>Y
 | .sl _ _ _ _ c _ _ _,.nl (.slice Y 0 0)=>match P.underlying T with
  |some (.slice _)=>(gL op I).map λv=>(v,C (0<c))
  |_=>Y
 | .nl (.slice a 0 _),.nl (.slice Y 0 0)=>match P.underlying T with
  |some (.slice _)=>(gL op a.isNone).map λv=>(v,Z)
  |_=>Y
 | .aO _ _ c _,.nl (.slice Y 0 0)=>match P.underlying T with
  |some (.slice _)=>(gL op I).map λv=>(v,C (0<c))
  |_=>Y
 | .b9 _ _ c _ _,.nl (.slice Y 0 0)=>match P.underlying T with
  |some (.slice _)=>(gL op I).map λv=>(v,C (0<c))
  |_=>Y
 |_,_=>Y
def Fg(t:TypeId):Option (Nat->Option (Nat×Nat)):=match P.underlying t with
 |some (.array _ e)=>(P.info? e).map λie=>λi=>E (i*ie.size,ie.size)
 |some (.struct a)=>(a.toList.mapM λf=>(P.info? f.type).map λi=>(f.offset,i.size)).map λplaces=>λi=>places.toArray[i]?
 |_=>Y
def IK(ps:List SV)(o n:Nat)(v:SV):Option (List SV×Bool):=match v with
 | .agg q=>if aC q=n then(UE ps o n q).map λps=>(ps,Z) else Y
 |v=>if n=1&&one v then wK ps o 0 v else Y
def BI(a:Nat->Option (Nat×Nat)):List SV->List (Nat×SV)->Option (List SV×Bool)
 |b,[]=>E (b,Z)
 |b,(i,v)::rest=>match a i with
  |some (o,n)=>match IK b o n v with
   |some (b,p)=>(BI a b rest).map λq=>(q.1,aa p q.2)
   |none=>Y
  |none=>Y
def IL(t:TypeId)(parts:List (Nat×SV)):Option (SV×Bool):=match nk P t,Fg P t with
 |some z,E a=>(BI a z parts).map λq=>(.agg q.1,q.2)
 |_,_=>Y
def Fh(t:TypeId)(ps:List SV)(o i:Nat):Option (SV×Bool):=
 match jf P t with
 |some Z=>match eG P t,i with
  |some n,0=>(O5 ps o n).map λq=>(.agg q,Z)
  |_,_=>Y
 |some I=>mA ps o i
 |none=>Y
def IM(t:TypeId)(i:Nat):SV->Option (SV×Bool)
 | .agg b=>match P.underlying t with
  |some (.struct a)=>match a.toList[i]? with
   |some f=>Fh P f.type b f.offset 0
   |none=>Y
  |_=>Y
 |_=>Y
def tP(t:TypeId)(i:Nat)(x:SV):Option SV:=
 match P.underlying t with
 |some (.struct d)=>match d.toList[i]? with
  |some f=>match eG P f.type with
   |some (_+1)=>match x with
    | .aG b o i=>E (.aG b (o+f.offset) i)
    | .qI g z a c e o i=>E (.qI g z a c e (o+f.offset) i)
    | .fk b z e o i=>E (.fk b z e (o+f.offset) i)
    |_=>Y
   |_=>Y
  |none=>Y
 |_=>Y
def bC(i:Int)(n:Nat):Bool:=C (0<=i)&&C (i<n)
def tQ(t:TypeId)(x ix:SV):Option (SV×Bool):=
 match ix with
 | .int _ i=>match P.underlying t,x with
  |some (.array a e),.aG b o j=>match gl P e,eG P e with
   |some _,E 1=>E (.aG b o (j+O i),bC i a)
   |none,E n=>E (.aG b (o+O i*n) j,bC i a)
   |_,_=>Y
  |some (.array a e),.qI f z l c h o j=>match gl P e,eG P e with
   |some _,E 1=>E (.qI f z l c h o (j+O i),bC i a)
   |none,E n=>E (.qI f z l c h (o+O i*n) j,bC i a)
   |_,_=>Y
  |some (.array a e),.fk b z h o j=>match gl P e,eG P e with
   |some _,E 1=>E (.fk b z h o (j+O i),bC i a)
   |none,E n=>E (.fk b z h (o+O i*n) j,bC i a)
   |_,_=>Y
  |some (.array a e),.fU g j=>match eG P e with
   |some 1=>E (.fU g (j+O i),bC i a)
   |_=>Y
  |some (.slice e),.b9 b z a _ _=>match eG P e with
   |some n=>if n=z then E (.fk b z (O i) 0 0,bC i a) else Y
   |none=>Y
  |some (.slice e),.sl b o j 1 a _ _ _=>match eG P e with
   |some 1=>match gl P e with
    |some _=>E (.aG b o (j+O i),bC i a)
    |none=>E (.aG b (o+(j+O i)) 0,bC i a)
   |_=>Y
  |some (.slice e),.sl b o j z a _ _ _=>match eG P e with
   |some n=>if n=z then E (.aG b (o+(j+O i)*z) 0,bC i a) else Y
   |none=>Y
  |some (.slice e),.ro _ k m=>match eG P e with
   |some 1=>E (.uG k m (O i),bC i (A m))
   |_=>Y
  |some (.slice e),.iX f d=>match eG P e with
   |some 1=>E (.ye f d (O i),bC i (A d))
   |_=>Y
  |some (.slice e),.aO f z a g=>match eG P e with
   |some n=>if n=z then E (.qI f z a g (O i) 0 0,bC i a) else Y
   |none=>Y
  |_,_=>Y
 |_=>Y
def IN(t:TypeId)(x ix:SV):Option (SV×Bool):=
 match ix,x with
 | .int _ i,.agg c=>match P.underlying t with
  |some (.array a e)=>match gl P e,eG P e with
   |some _,E 1=>(mA c 0 (O i)).map λq=>(q.1,q.2&&bC i a)
   |none,E n=>(Fh P e c (O i*n) 0).map λq=>(q.1,q.2&&bC i a)
   |_,_=>Y
  |_=>Y
 | .int _ i,.str b=>match P.underlying t with
  |some .string=>E (.int .u8 (X b (O i) 0),bC i (A b))
  |_=>Y
 |_,_=>Y
def tR(d y:Nat):Option SV->Option (Nat×Bool)
 |none=>E (d,Z)
 |some (.int _ i)=>E (O i,C (0<=i)&&C (i<=y))
 |_=>Y
def gR(len cap:Nat)(lo hi a:Option SV):Option (Nat×Nat×Nat×Bool):=
 match tR cap cap a with
 |some (m,p)=>match a,hi with
  |some _,Y=>Y
  |_,_=>match tR len (match a with|some _=>m|none=>cap) hi with
   |some (h,q)=>match tR 0 h lo with
    |some (l,r)=>E (l,h,m,aa p (aa q r))
    |none=>Y
   |none=>Y
 |none=>Y
def qE(xs:pD)(lo hi:Option SV)(l h:Nat):pD:=match lo,hi with
 |none,Y=>xs
 |some _,Y=>xs.drop l
 |none,E _=>xs.take h
 |some _,E _=>(xs.drop l).take (h-l)
def nP(t:TypeId)(h:List Blk)(x:SV)(lo hi c:Option SV):Option (SV×Bool):=
 match P.underlying t,x with
 |some (.array n e),.aG b o i=>match h[b]?,eG P e,gR n n lo hi c with
  |some (.b j),E 1,E (l,h,m,p)=>E (.sl b o (match lo with|none=>i|some _=>i+l) 1 (match lo with|none=>h|some _=>h-l) (match lo with|none=>m|some _=>m-l) Z (lo.isNone&&hi.isNone&&c.isNone),aa p (C (o+i+n<=aC j)))
  |some (.b j),E z,E (l,h,m,p)=>match i with
   |0=>E (.sl b o l z (h-l) (m-l) Z (lo.isNone&&hi.isNone&&c.isNone),aa p (C (o+n*z<=aC j)))
   |_=>Y
  |_,_,_=>Y
 |some (.slice e),.sl b o i z a cap s r=>match eG P e,gR a cap lo hi c with
  |some n,E (l,h,m,p)=>if n=z then
   E (.sl b o (match lo with|none=>i|some _=>i+l) z (match lo with|none=>h|some _=>h-l) (match lo with|none=>m|some _=>m-l) (s||c.isSome) (r&&lo.isNone&&hi.isNone&&c.isNone),p) else Y
  |_,_=>Y
 |some (.slice e),.ro f k d=>match eG P e,gR (A d) (A d) lo hi c with
  |some 1,E (l,h,_,p)=>E (.ro f k (qE d lo hi l h),p)
  |_,_=>Y
 |some (.slice e),.aO f z a g=>match eG P e,gR a a lo hi c with
  |some n,E (l,h,_,p)=>if n=z then E (.aO f z (match lo with|none=>h|some _=>h-l) (match lo with|none=>g|some _=>λi=>g (i+l)),p) else Y
  |_,_=>Y
 |some .string,.str d=>match c,gR (A d) (A d) lo hi Y with
  |none,E (l,h,_,p)=>E (.str (qE d lo hi l h),p)
  |_,_=>Y
 |some (.slice e),.nl (.slice Y 0 0)=>match eG P e,gR 0 0 lo hi c with
  |some _,E (_,_,_,p)=>E (.nl (.slice Y 0 0),p)
  |_,_=>Y
 |some (.array n q),.qI _ z a g e o i=>match eG P q,O6 (g e) o i n,lo,hi,c with
  |some 1,E ([.af k m d],p),Y,Y,Y=>E (.ro I k d,p&&(C (e<a)&&C (o+i+n<=z)&&C (m=n)&&C (A d=n)))
  |_,_,_,_,_=>Y
 |_,_=>Y
def qM(t:TypeId)(h:List Blk)(x:SV)(lo hi d:Option SV):Option (SV×Bool):=match x with
 | .b9 b z c cap k=>match lo with
  |none=>match nP P t h (.sl b 0 0 z c cap k I) Y hi d with
   |some (.sl i 0 0 j g f a _,p)=>E (.b9 i j g f a,p)
   |_=>Y
  |some _=>Y
 |x=>nP P t h x lo hi d
def Lh(lo hi a:Option Operand):Bool:=match lo,hi,a with
 |none,E (.const (.int .i64 0)),E (.const (.int .i64 0))=>Z
 |_,_,_=>I
def nQ(t:TypeId)(h:List Blk)(x:SV)(l u m:Option SV):Option (SV×Bool):=match x with
 | .ro _ _ _=>match P.underlying t with
  |some (.slice e)=>match eG P e with
   |some 1=>E (.sl 0 0 0 1 0 0 Z I,Z)
   |_=>Y
  |_=>Y
 | .nl (.slice _ 0 _)=>match P.underlying t with
  |some (.slice e)=>match eG P e with
   |some 1=>E (.sl 0 0 0 1 0 0 Z I,Z)
   |_=>Y
  |_=>Y
 | .aO _ z _ _=>match P.underlying t with
  |some (.slice e)=>match eG P e with
   |some n=>if n=z then E (.b9 0 z 0 0 Z,Z) else Y
   |_=>Y
  |_=>Y
 |x=>qM P t h x l u m
def qw:SV->Option Nat
 | .sl _ _ _ _ n _ _ _=>E n
 | .ro _ _ b=>E (A b)
 | .iX _ a=>E (A a)
 | .aO _ _ n _=>E n
 | .b9 _ _ n _ _=>E n
 | .str b=>E (A b)
 | .nl (.slice _ 0 _)=>E 0
 |_=>Y
def ajb(t:TypeId)(x:SV):Option SV:=match P.underlying t,x with
 |some (.array n _),.agg _=>E (.int .i64 n)
 |some (.slice _),x=>match x with
  | .str _=>Y
  |x=>(qw x).map λ(n:Nat)=>SV.int .i64 (n:Int)
 |some .string,.str a=>E (.int .i64 (A a))
 |_,_=>Y
def UJ(t:TypeId)(x:SV):Option SV:=match P.underlying t,x with
 |some (.slice _),.sl _ _ _ _ _ cap Z _=>E (.int .i64 cap)
 |some (.slice _),.nl (.slice Y 0 0)=>E (.int .i64 0)
 |_,_=>Y
def dN(h:List Blk):SV->Option (List SV×Bool)
 | .ro _ k c=>E ([.af k (A c) c],Z)
 | .str c=>E ([.af .u8 (A c) c],Z)
 | .nl (.slice _ 0 _)=>E ([],Z)
 | .sl b o i z a _ _ f=>match h[b]? with
  |some (.b d)=>match ni d o,z with
   |some (.af k n c::_),1=>match f with
    |true=>E ([.af k a c],C (A c=a)&&(C (a<=n)&&C (i=0)))
    |false=>E ([.af k a ((c.drop i).take a)],C (i+a<=n)&&C (i+a<=A c))
   |some d,z=>(O5 d (i*z) (a*z)).map λq=>(q,Z)
   |none,_=>Y
  |_=>Y
 | .aO _ z n g=>E ([.aF z n g],Z)
 | .b9 b z a _ _=>match h[b]? with
  |some (.b [.aF j n g])=>match Nat.beq j z with
   |true=>E ([.aF z a g],C (a<=n))
   |false=>Y
  |_=>Y
 |_=>Y
def p8:List SV->List SV->List SV
 | [.af k n f],[.af c m d]=>if k=c then[.af k (n+m) (f++d)] else[.af k n f,.af c m d]
 | [],b=>b
 |a,[]=>a
 |a,b=>a++b
def dF(z:Nat):SV->Bool
 | .sl _ _ _ a _ _ _ _=>Nat.beq a z
 | .aO _ a _ _=>Nat.beq a z
 | .b9 _ a _ _ _=>Nat.beq a z
 | .nl _=>Z
 |_=>Nat.beq z 1
def Li(src dst:TypeId):SV->Option SV
 | .int _ n=>match P.underlying src,P.underlying dst with
  |some _,E (.int k)=>E (.int k (k.wrap n))
  |_,_=>Y
 | .str a=>match P.underlying src,P.underlying dst with
  |some .string,E .string=>E (.str a)
  |_,_=>Y
 |_=>Y
def unS:UnOp->SV->Option SV
 | .neg,.int k n=>E (.int k (k.wrap (0-n)))
 | .xor,.int k n=>E (.int k (gJ k (if k.signed then-1 else k.max) n))
 | .not,.bool b=>E (.bool !b)
 |_,_=>Y
def UK:IntKind->Int->List SV->Option Int
 |_,a,[]=>E a
 |k,a,.int c b::d=>if k=c then UK k (if b<a then b else a) d else Y
 |_,_,_=>Y
def nr(t:TypeId)(len:Nat)(parts:List (Nat×SV)):Option (List SV×Nat×Bool):=
 match P.underlying t with
 |some (.slice e)=>match eG P e,nk P e with
  |some (z+1),E a=>if len*(z+1)<=2^24/\aC a=z+1 then
    (BI (λi=>E (i*(z+1),z+1)) (match gl P e with
     |some k=>[.af k len (t9 len 0)]
     |none=>(t9 len a).flatten) parts).map λq=>(q.1,z+1,q.2) else Y
  |_,_=>Y
 |_=>Y
def ajc:Operand->Operand->Bool
 | .tmp a,.tmp b=>a==b
 | .const (.int _ a),.const (.int _ b)=>a==b
 |_,_=>I
def oP(t:TypeId):SV->SV->Option (List SV×Nat×Nat×Nat×Bool)
 | .int _ l,.int _ c=>match P.underlying t with
  |some (.slice e)=>match P.info? e,eG P e,nk P e with
   |some i,E (z+1),E a=>if aC a=z+1 then E (match gl P e with
    |some k=>[.af k (O c) (t9 (O c) 0)]
    |none=>(t9 (O c) a).flatten,z+1,O l,O c,(i64.wrap l==l&&i64.wrap c==c)&&(C (0<=l)&&C (l<=c)&&C (i.bytes*c<=2^48))) else Y
   |_,_,_=>Y
  |_=>Y
 |_,_=>Y
def Da(a:TypeId)(b:Bool):SV->Option SV
 | .iface t v=>match P.underlying a with
  |some (.interface _)=>Y
  |some _=>if t=a then E (match b with|true=>.bP [v,.bool Z]|false=>v) else
   match b,(gw P a).bind wL with
   |true,E z=>E (.bP [z,.bool I])
   |_,_=>Y
  |none=>Y
 | .nl .nilIface=>match P.underlying a,b,(gw P a).bind wL with
  |some (.interface _),_,_=>Y
  |some _,Z,E z=>E (.bP [z,.bool I])
  |_,_,_=>Y
 |_=>Y
def yOK(f:Fn)(nM:List SV):Bool:=match f with
 | .func _=>Z
 | .yield _=>nM.isEmpty
 |_=>I
def lA(b:Nat):Option SV->Bool
 |some v=>!uses b v
 |none=>Z
def fD(b:Nat)(h:List Blk):Bool:=h.all λ| .b a=>!eY b a| .g (E L)=>L.t.all (lA b)| .g Y=>Z
structure m6 where
 v:SV
 h:List Blk
 new:List Blk
 lU:Option Nat
 p:Bool
def m6.of(h:List Blk)(q:SV×Bool):m6:=⟨q.1,h,[],Y,q.2⟩
def HM(xs:pD):Bool:=xs.all λn=>C (0<=n)&&C (n<256)
def O7(f:SV->Option SV):List SV->Nat->Option (List SV)
 | [],_=>Y
 |p::a,0=>(f p).map (· ::a)
 |p::a,o+1=>match Nat.ble (kf p) (o+1) with
  |true=>(O7 f a (o+1-kf p)).map (p:: ·)
  |false=>Y
def CX(xs:pD)(i:Nat)(ys:pD)(n:Nat):pD:=xs.take i++ys.take n++xs.drop (i+n)
def arU(i:Nat)(k':IntKind)(ys:pD)(n:Nat):SV->Option SV
 | .af k m a=>if k=k' then E (.af k m (CX a i ys n)) else Y
 |_=>Y
def ajd:SV->Option (Nat×pD)
 | .af _ m a=>E (m,a)
 |_=>Y
def atP:List SV->Nat->Option SV
 | [],_=>Y
 |p::_,0=>E p
 |p::a,o+1=>match Nat.ble (kf p) (o+1) with
  |true=>atP a (o+1-kf p)
  |false=>Y
def wM(h:List Blk)(b o i:Nat)(k:IntKind)(ys:pD)(n:Nat):Option (List Blk×Bool):=match h[b]? with
 |some (.b c)=>match(atP c o).bind ajd,O7 (arU i k ys n) c o with
  |some (m,d),E a=>E (h.set b (.b a),C (A d=m)&&C (i+n<=m)&&C (n<=A ys))
  |_,_=>Y
 |_=>Y
def oQ(ps:List SV):Bool:=ps.all λp=>one p||E9 p
def afX:List SV->Option (Nat×Nat×(Nat->List SV))
 | [.aF z n g]=>E (z,n,g)
 |_=>Y
def Db:List SV->Bool
 | [.af _ n a]=>C (A a=n)
 |_=>Z
def zw(e:TypeId):Option Nat:=match(P.info? e).map (·.bytes),eG P e,nk P e with
 |some a,E (z+1),E b=>if C (a<=256)&&C (aC b=z+1) then E z else Y
 |_,_,_=>Y
def Dc(k:Nat)(h:List Blk)(j:Nat)(e:TypeId)(x y:SV):Option m6:=match x,y,gl P e,zw P e with
 | .nl (.slice Y 0 0),.int .i64 n,E o,E 0=>E ⟨.sl j 0 0 1 (O n) (O n) I Z,h,[.b [.af o (O n) (t9 (O n) 0)]],Y,C (0<=n)&&C (n<=2^38)⟩
 | .b9 b f a _ _,.int .i64 m,Y,E z=>match h[b]?,nk P e with
  |some (.b [.aF d n g]),E c=>
   if Nat.ble k b&&C (f=z+1)&&C (d=z+1)&&oQ c&&dI c&&fD b (h.set b (.b [.aF d (a+O m) λi=>bF (Nat.ble (i+1) a) (g i) c])) then
    E ⟨.b9 b f (a+O m) (a+O m) I,h.set b (.b [.aF d (a+O m) λi=>bF (Nat.ble (i+1) a) (g i) c]),[],E b,C (a<=n)&&C (0<=m)&&C (a+O m<=2^38)⟩ else Y
  |_,_=>Y
 |_,_,_,_=>Y
def arV(h:List Blk)(b:Nat)(k:IntKind)(ys:pD)(c len:Nat):Option (List Blk×Bool):=match h[b]? with
 |some (.b [.af d m a])=>if d=k then E (h.set b (.b [.af k (m+c) (a++ys)]),C (A a=m)&&C (len=m)&&C (A ys=c)) else Y
 |_=>Y
def UL(eZ ex wh:Bool)(cap:Nat):Bool:=match eZ with
 |true=>I
 |false=>match ex,wh with
  |true,I=>Nat.beq cap 0
  |_,_=>I
def UM(ex:Bool)(cap:Nat):Bool:=match ex with
 |true=>Nat.beq cap 0
 |false=>I
def abu(b:List SV)(j z a:Nat):SV:=match b with
 | [.aF _ _ _]=>.b9 j z a a I
 |_=>.sl j 0 0 z a a I Z
def yC(k:Nat)(h:List Blk)(j:Nat)(eZ:Bool)(sT xT:TypeId)(x y:SV):Option m6:=
 match P.underlying sT,P.underlying xT with
 |some (.slice e),E (.int _)=>Dc P k h j e x y
 |none,E (.int _)=>Y
 |some (.slice e),E _=>match zw P e,dN h y,qw y with
  |some z,E (d,l),E c=>match x with
   | .nl (.slice Y 0 0)=>E ⟨abu d j (z+1) c,h,[.b d],Y,aa (aa l (dF (z+1) y)) (C (c<=2^38))⟩
   | .sl b o i f a cap p v=>match UL eZ p v cap with
    |true=>E ⟨.sl j 0 0 (z+1) c c I Z,h,[.b d],Y,aa (aa l (dF (z+1) y)) (C (c<=2^38))⟩
    |false=>match eZ with
     |true=>match d,z,f,v with
      | [.af u _ t],0,1,I=>(wM h b o (i+a) u t c).map λq=>⟨.sl b o i 1 (a+c) cap p I,q.1,[],Y,aa (aa (aa l (dF 1 y)) (C (a+c<=cap))) q.2⟩
      | [.af u _ t],0,1,Z=>match o,i with
       |0,0=>(arV h b u t c a).map λq=>⟨.sl b 0 0 1 (a+c) cap p Z,q.1,[],Y,aa (aa (aa l (dF 1 y)) (C (a+c<=cap))) q.2⟩
       |_,_=>Y
      |_,_,_,_=>Y
     |false=>match dN h x with
      |some (s,w)=>if Nat.ble k b&&C (f=z+1)&&oQ d&&fD b (h.set b (.b (p8 s d))) then
       E ⟨.sl b 0 0 (z+1) (a+c) (a+c) I Z,h.set b (.b (p8 s d)),[],E b,aa (aa (aa (aa l w) (Db s)) (dF (z+1) y)) (C (a+c<=2^38))⟩
       else if p&&C (f=z+1) then E ⟨.sl j 0 0 (z+1) (a+c) (a+c) I Z,h,[.b (p8 s d)],Y,aa (aa (aa (aa (aa l w) (Db s)) (dF (z+1) y)) (C (a+c<=2^38))) (C (cap<a+c))⟩ else Y
      |none=>Y
   | .b9 b f a cap p=>match UM p cap with
    |true=>E ⟨abu d j (z+1) c,h,[.b d],Y,aa (aa l (dF (z+1) y)) (C (c<=2^38))⟩
    |false=>match afX d with
     |some q=>match h[b]? with
      |some (.b [.aF m n g])=>
       if Nat.ble k b&&C (f=z+1)&&C (m=z+1)&&C (q.1=z+1)&&fD b (h.set b (.b [.aF m (a+c) λi=>bF (Nat.ble (i+1) a) (g i) (q.2.2 (i-a))])) then
        E ⟨.b9 b f (a+c) (a+c) I,h.set b (.b [.aF m (a+c) λi=>bF (Nat.ble (i+1) a) (g i) (q.2.2 (i-a))]),[],E b,aa (aa (aa l (C (a<=n))) (dF (z+1) y)) (aa (C (q.2.1=c)) (aa ((t8 c).all λi=>oQ (q.2.2 i)) (C (a+c<=2^38))))⟩ else Y
      |_=>Y
     |none=>match c,h[b]? with
     |1,E (.b [.aF m n g])=>
      if Nat.ble k b&&C (f=z+1)&&C (m=z+1)&&oQ d&&dI d&&fD b (h.set b (.b [.aF m (a+1) λi=>bF (Nat.ble (i+1) a) (g i) d])) then
       E ⟨.b9 b f (a+1) (a+1) I,h.set b (.b [.aF m (a+1) λi=>bF (Nat.ble (i+1) a) (g i) d]),[],E b,aa (aa (aa l (C (a<=n))) (dF (z+1) y)) (C (a+1<=2^38))⟩
      else if p&&C (f=z+1)&&C (m=z+1)&&oQ d&&dI d then
       match eZ with
       |true=>E ⟨.b9 b f (a+1) cap Z,h.set b (.b [.aF m (a+1) λi=>bF (Nat.ble (i+1) a) (g i) d]),[],Y,aa (aa (aa l (C (a<=n))) (dF (z+1) y)) (C (a+1<=cap))⟩
       |false=>E ⟨.b9 j f (a+1) (a+1) I,h,[.b [.aF m (a+1) λi=>bF (Nat.ble (i+1) a) (g i) d]],Y,aa (aa (aa l (C (a<=n))) (dF (z+1) y)) (aa (C (cap<a+1)) (C (a+1<=2^38)))⟩
      else Y
     |_,_=>Y
   |_=>Y
  |_,_,_=>Y
 |_,_=>Y
def UN(h:List Blk)(d:TypeId)(x y:SV):Option (List Blk×SV×Bool):=
 match P.underlying d,x,dN h y,qw y with
 |some (.slice e),.sl b o i 1 a _ _ _,E ([.af k _ f],p),E c=>match eG P e with
  |some 1=>(wM h b o i k f (Nat.min c a)).map λq=>(q.1,.int .i64 (Nat.min c a),aa (aa p (dF 1 y)) q.2)
  |_=>Y
 |_,_,_,_=>Y
def zx(h:List Blk)(src dst:TypeId):Option SV->Option m6
 |some (.str b)=>match P.underlying dst with
  |some (.slice e)=>match gl P e,eG P e with
   |some .u8,E 1=>match P.underlying src with
    |some _=>E (.of h (.ro Z .u8 b,Z))
    |none=>Y
   |_,_=>Y
  |_=>(Li P src dst (.str b)).map λv=>.of h (v,Z)
 |some (.int k n)=>(Li P src dst (.int k n)).map λv=>.of h (v,Z)
 |some (.nl (.slice Y 0 0))=>match P.underlying src,P.underlying dst with
  |some (.slice e),E .string=>match gl P e with
   |some .u8=>E (.of h (.str [],Z))
   |_=>Y
  |_,_=>Y
 |some a=>match P.underlying src,P.underlying dst,dN h a,qw a with
  |some (.slice e),E .string,E ([.af .u8 m b],p),E _=>match gl P e with
   |some .u8=>E (.of h (.str b,aa (aa p (dF 1 a&&C (A b=m))) (HM b)))
   |_=>Y
  |_,_,_,_=>Y
 |none=>Y
def IP(k:Nat)(h:List Blk)(dst:TypeId):Option SV->Option m6
 |some (.sl b 0 0 1 (n+1) m Z Z)=>match P.underlying dst,h[b]? with
  |some (.slice e),E (.b [.af .u8 q a])=>match gl P e,Nat.ble k b&&Nat.beq m (n+1)&&Nat.beq q (n+1)&&fD b (h.set b .gap) with
   |some .u8,Z=>E ⟨.ro Z .u8 a,h.set b .gap,[],E b,C (A a=n+1)⟩
   |_,_=>Y
  |_,_=>Y
 |_=>Y
def oL(G:ct)(eZ:Tmp->Bool)(k:Nat)(t:List (Option SV))(h:List Blk)(j:Nat)(o:Oper):Option m6:=
 match o.op with
 | .move x| .assign x=>(ev t x).map λv=>.of h (v,Z)
 | .pick c a b=>match ev t c with
  |some (.bool Z)=>(ev t a).map λv=>.of h (v,Z)
  |some (.bool I)=>(ev t b).map λv=>.of h (v,Z)
  |_=>Y
 | .alloc e=>(nk P e).map λps=>⟨.aG j 0 0,h,[.b ps],Y,Z⟩
 | .box _ x=>(ev t x).map λv=>⟨.aG j 0 0,h,[.b (lT v)],Y,(lT v).all λp=>one p||E9 p⟩
 | .build d ps=>match uP t (ps.toList.map (·.2)) with
  |some B=>(IL P d ((ps.toList.map (·.1)).zip B)).map (.of h)
  |none=>Y
 | .buildSlice d w ps=>match uP t (ps.toList.map (·.2)) with
  |some B=>(nr P d w ((ps.toList.map (·.1)).zip B)).map λq=>⟨.sl j 0 0 q.2.1 w w Z Z,h,[.b q.1],Y,q.2.2⟩
  |none=>Y
 | .makeSlice d l c=>match ev t l,ev t c with
  |some a,E b=>(oP P d a b).map λq=>⟨.sl j 0 0 q.2.1 q.2.2.1 q.2.2.2.1 Z (ajc l c),h,[.b q.1],Y,q.2.2.2.2⟩
  |_,_=>Y
 | .load d x=>match ev t x with
  |some a=>(xF P d h a).map (.of h)
  |none=>Y
 | .store d x y=>match ev t x,ev t y with
  |some a,E v=>(jP P d h v a).map λq=>⟨.bP [],q.1,[],Y,q.2⟩
  |_,_=>Y
 | .nilCheck x=>match ev t x with
  |some (.aG b o i)=>E (.of h (.aG b o i,Z))
  |some (.uG k J i)=>E (.of h (.uG k J i,Z))
  |some (.qI f z l g e o i)=>E (.of h (.qI f z l g e o i,Z))
  |some (.fk b z e o i)=>E (.of h (.fk b z e o i,Z))
  |some (.fU g i)=>E (.of h (.fU g i,Z))
  |some (.fn (.func f) a b)=>E (.of h (.fn (.func f) a b,Z))
  |_=>Y
 | .binOp op d x y _=>match ev t x,ev t y with
  |some (.int k a),E (.int S b)=>(Ff op k a S b).map (.of h)
  |some a,E b=>(eqS P op d x y a b).map (.of h)
  |_,_=>Y
 | .unOp op _ x=>match ev t x with
  |some a=>(unS op a).map λv=>.of h (v,Z)
  |none=>Y
 | .convert H D x=>match Nat.beq H D with
  |true=>IP P k h D (ev t x)
  |false=>zx P h H D (ev t x)
 | .sliceToArrayPointer K x=>match P.underlying K,ev t x with
  |some (.array (n+1) e),E (.sl b o i 1 w _ _ _)=>match gl P e with
   |some _=>E (.of h (.aG b o i,C (n+1<=w)))
   |none=>Y
  |some (.array (n+1) e),E (.ro _ k J)=>match gl P e with
   |some _=>E (.of h (.uG k J 0,C (n+1<=A J)))
   |none=>Y
  |_,_=>Y
 | .makeInterface d x=>match P.underlying d,ev t x with
  |some (.interface _),_=>Y
  |some _,E v=>if one v then E (.of h (.iface d v,Z)) else Y
  |_,_=>Y
 | .makeFunc R first r=>match uP t first.toList,uP t r.toList with
  |some a,E b=>E (.of h (.fn R a b,Z))
  |_,_=>Y
 | .fieldAddr d x i=>match ev t x with
  |some a=>(tP P d i a).map λv=>.of h (v,Z)
  |none=>Y
 | .field d x i=>match ev t x with
  |some a=>(IM P d i a).map (.of h)
  |none=>Y
 | .indexAddr d x i=>match ev t x,ev t i with
  |some a,E b=>(tQ P d a b).map (.of h)
  |_,_=>Y
 | .index d x i=>match ev t x,ev t i with
  |some a,E b=>(IN P d a b).map (.of h)
  |_,_=>Y
 | .slice d x N Q M=>match ev t x,Q1 t N,Q1 t Q,Q1 t M with
  |some a,E l,E u,E m=>match Lh N Q M with
   |true=>(nQ P d h a l u m).map (.of h)
   |false=>(qM P d h a l u m).map (.of h)
  |_,_,_,_=>Y
 | .typeAssert x _ s U=>match ev t x with
  |some a=>(Da P s U a).map λv=>.of h (v,Z)
  |none=>Y
 | .extract x i=>match ev t x with
  |some (.bP B)=>(B[i]?).map λv=>.of h (v,Z)
  |_=>Y
 | .call c=>match c.callee with
  | .value f=>match ev t f,uP t c.args.toList with
   |some (.fn f first L),E B=>match yOK f L with
    |true=>(G f (first++B++L) h j).map λq=>⟨q.1,q.2.1,q.2.2.1,Y,q.2.2.2⟩
    |false=>Y
   |_,_=>Y
  | .builtin .len=>match c.argTypes.toList,uP t c.args.toList with
   | [d],E [a]=>(ajb P d a).map λv=>.of h (v,Z)
   |_,_=>Y
  | .builtin .cap=>match c.argTypes.toList,uP t c.args.toList with
   | [d],E [a]=>(UJ P d a).map λv=>.of h (v,Z)
   |_,_=>Y
  | .builtin .min=>match uP t c.args.toList with
   |some (.int k a::B)=>(UK k a B).map λn=>.of h (.int k n,Z)
   |_=>Y
  | .builtin .append=>match c.argTypes.toList,uP t c.args.toList with
   | [d,T],E [a,b]=>yC P k h j ((o.dst.map eZ).getD I) d T a b
   |_,_=>Y
  | .builtin .copy=>match c.argTypes.toList,uP t c.args.toList with
   | [d,_],E [a,b]=>(UN P h d a b).map λq=>⟨q.2.1,q.1,[],Y,q.2.2⟩
   |_,_=>Y
  |_=>Y
 |_=>Y
def bK(t:List (Option SV))(d:Option Tmp)(v:SV):List (Option SV):=
 match d with
 |some i=>t.set i (E v)
 |none=>t
def gS(b:Option Nat)(t:List (Option SV)):List (Option SV):=match b with
 |none=>t
 |some b=>t.map λ|some v=>if uses b v then Y else E v|none=>Y
def gk(a:Tmp->Option Bool)(d:Option Tmp)(v:SV):SV×Bool:=
 match d with
 |none=>(v,Z)
 |some i=>match a i with
  |none=>(v,Z)
  |some b=>match v with
   | .bool x=>(.bool b,match b with|true=>x|false=>!x)
   |_=>(v,Z)
def eC(ops:Array Oper)(t:List (Option SV))(o:Oper):Option Bool:=
 match o.guard with
 |none=>E Z
 |some (j,a)=>match(ops.toList[j]?).bind (·.dst) with
  |none=>E I
  |some i=>match t[i]? with
   |none=>E I
   |some Y=>Y
   |some (E (.bool b))=>E (b==a)
   |some (E (.nl _))=>Y
   |some (E _)=>E I
def c8(h:List Blk)(j:Nat):List Blk->List Blk
 | []=>h
 |b::a=>c8 (h.set j b) (j+1) a
def cO(h:List Blk)(j:Nat)(new:List Blk):List Blk:=if j=A h then h++new else c8 h j new
def Fi(G:ct)(a:Tmp->Option Bool)(eZ:Tmp->Bool)(k:Nat)(ops:Array Oper)(o:Oper)(s:St):Option St:=
 match eC ops s.t o with
 |some Z=>match oL P G eZ k s.t s.h (A s.h) o with
  |some r=>E ⟨bK (gS r.lU s.t) o.dst (gk a o.dst r.v).1,cO r.h (A s.h) r.new,aa (aa s.ob r.p) (gk a o.dst r.v).2⟩
  |none=>Y
 |some I=>E ⟨bK s.t o.dst (.bP []),s.h,s.ob⟩
 |none=>Y
def cg(G:ct)(a:Tmp->Option Bool)(eZ:Tmp->Bool)(k:Nat)(ops:Array Oper):List Nat->St->Option St
 | [],s=>E s
 |i::b,s=>match ops.toList[i]? with
  |none=>cg G a eZ k ops b s
  |some o=>match Fi P G a eZ k ops o s with
   |some c=>cg G a eZ k ops b c
   |none=>Y
def sZ(nb:FuncId->Nat):Op->Nat
 | .alloc _| .box .. | .buildSlice .. | .makeSlice .. =>1
 | .call c=>match c.callee with
  | .value (.func f)=>nb f
  | .value (.tmp t)=>nb (1000000000+t)
  | .builtin .append=>match c.args.toList with
   | [.tmp t,_]=>nb (2000000000+t)
   |_=>0
  |_=>0
 |_=>0
def kN(nb:FuncId->Nat)(ops:List Oper):Nat:=(ops.map λo=>sZ nb o.op).sum
def ei(nb:FuncId->Nat)(ops:List Oper)(n i:Nat):Nat:=n+kN nb (ops.take i)
def UO(src dst:TypeId):Bool:=match P.underlying src,P.underlying dst with
 |some (.slice _),E .string=>Z
 |_,_=>I
def dO(d:FuncId->Nat):Op->Nat
 | .load .. =>1
 | .store .. =>2
 | .call c=>match c.callee with
  | .value (.func f)=>match d f with
   |0=>0
   |1=>4
   |_=>5
  | .builtin .len=>0
  | .builtin .cap=>0
  | .builtin .min=>0
  |_=>5
 | .convert a b _=>match Nat.beq a b with
  |true=>5
  |false=>match UO P a b with
   |true=>1
   |false=>0
 | .slice .. =>1
 |_=>0
def j5(t:List (Option SV)):Op->Option Nat
 | .load _ x| .store _ x _| .slice _ x _ _ _=>match ev t x with
  |some (.aG b _ _)=>E b
  |some (.fk b _ _ _ _)=>E b
  |_=>Y
 | .convert _ _ x=>match ev t x with
  |some (.sl b _ _ _ _ _ _ _)=>E b
  |some (.b9 b _ _ _ _)=>E b
  |_=>Y
 |_=>Y
def Bg(t:List (Option SV)):Op->Option Nat
 | .call c=>match c.args.toList with
  | [_,x]=>match ev t x with
   |some (.sl b _ _ _ _ _ _ _)=>E b
   |some (.b9 b _ _ _ _)=>E b
   |_=>Y
  |_=>Y
 |_=>Y
def mD(nb:FuncId->Nat)(ops:List Oper)(n:Nat)(m:List Nat)(i:Nat)(t:List (Option SV))(o:Op):Bool:=match j5 t o with
 |none=>Z
 |some b=>Nat.ble (b+1) n||(t8 i).any λj=>(X m i 0).testBit j&&(match ops[j]? with
  |some x=>Nat.ble (ei nb ops n j) b&&Nat.ble (b+1) (ei nb ops n j+sZ nb x.op)
  |none=>I)
def mE(h:List Blk)(j:Nat):Nat->Bool
 |0=>Z
 |n+1=>(match h[j]? with|some (.g none)=>Z|_=>I)&&mE h (j+1) n
def Fj(Γ:cu):Tmp->Bool:=λd=>match Γ.sym d with
 |some I=>I
 |_=>Z
def IQ(Γ:cu)(G:ct)(k:Nat)(ops:List Oper)(n:Nat)(m:List Nat)(i:Nat)(t:List (Option SV))(h:List Blk)(o:Oper):Option (SV×List Blk×Bool×List Blk):=
 match mD Γ.nb ops n m i t o.op,oL P G (Fj Γ) k t h (ei Γ.nb ops n i) o with
 |true,E r=>match r.lU.isNone&&C (A r.new=sZ Γ.nb o.op)&&mE h (ei Γ.nb ops n i) (sZ Γ.nb o.op)&&C (A r.h=A h) with
  |true=>E (r.v,c8 r.h (ei Γ.nb ops n i) r.new,r.p,r.new)
  |false=>Y
 |_,_=>Y
def BA:Op->Bool
 | .call c=>match c.callee with
  | .builtin .append=>Z
  |_=>I
 |_=>I
def uX(Γ:cu)(o:Oper):Bool:=match BA o.op with
 |true=>match o.dst with
  |some d=>match Γ.sym d with
   |some Z=>Z
   |_=>I
  |none=>I
 |false=>I
structure Fp where
 q:Nat
 a:Option Nat
 c:Option Nat
 sl:List (Option (Option SV))
 v:SV
 new:List Blk
def mF(ops:Array Oper)(o:Oper):List Tmp:=match o.guard with
 |some (g,_)=>((ops.toList[g]?).bind (·.dst)).toList
 |none=>[]
def eW(Γ:cu)(G:ct)(k:Nat)(ops:Array Oper)(n:Nat)(m:List Nat)(i:Nat)(o:Oper)(s:St):Option (St×Fp):=
 match eC ops s.t o with
 |some Z=>match uX Γ o with
  |true=>match oL P G (λ_=>I) k s.t s.h (ei Γ.nb ops.toList n i) o with
   |some r=>match r.new with
    | []=>E (⟨bK (gS r.lU s.t) o.dst r.v,r.h,aa s.ob r.p⟩,⟨2,r.lU,Bg s.t o.op,[],.bP [],[]⟩)
    |_=>Y
   |none=>Y
  |false=>match IQ P Γ G k ops.toList n m i s.t s.h o with
   |some q=>E (⟨bK s.t o.dst (gk Γ.sym o.dst q.1).1,q.2.1,aa (aa s.ob q.2.2.1) (gk Γ.sym o.dst q.1).2⟩,⟨1,j5 s.t o.op,Y,(o.looksAt ops).map λi=>s.t[i]?,(gk Γ.sym o.dst q.1).1,q.2.2.2⟩)
   |none=>Y
 |some I=>E (⟨bK s.t o.dst (.bP []),s.h,s.ob⟩,⟨0,Y,Y,(mF ops o).map λi=>s.t[i]?,.bP [],[]⟩)
 |none=>Y
def y7(Γ:cu)(G:ct)(k:Nat)(ops:Array Oper)(n:Nat)(m:List Nat):List Nat->St->Option (St×List Fp)
 | [],s=>E (s,[])
 |i::d,s=>match ops.toList[i]? with
  |none=>Y
  |some o=>match eW P Γ G k ops n m i o s with
   |some (b,f)=>match y7 Γ G k ops n m d b with
    |some (c,a)=>E (c,f::a)
    |none=>Y
   |none=>Y
def aje(a c b nb:Nat):Bool:=
 (a==0&&(b==0||b==1||b==2||c==0))||(b==0&&(a==1||a==2||(a==4&&c==0)||nb==0))||((a==1||a==4)&&(b==1||b==4)&&c==0&&nb==0)
def UP(a:Nat)(p:Option Nat)(b:Nat)(q:Option Nat):Bool:=((a==2&&(b==1||b==2))||(a==1&&b==2))&&(match p,q with
 |some x,E y=>!Nat.beq x y
 |_,_=>I)
def oR(b:Nat):Option (Option SV)->Bool
 |some (E v)=>!uses b v
 |_=>I
def abv(b r n:Nat):Bool:=Nat.ble (b+1) r||Nat.ble (r+n) b
def BJ(f:Fp)(h n r:Nat)(g:Fp):Bool:=match f.a with
 |some b=>(h==0||(h==1&&(match g.a with|some d=>!Nat.beq d b|none=>Z)))&&g.sl.all (oR b)&&!uses b g.v&&fD b g.new&&abv b r n&&(match f.c with|some c=>abv c r n|none=>Z)
 |none=>I
def uQ(Γ:cu)(ops:List Oper)(n:Nat)(i:Nat)(x:Oper)(f:Fp)(j:Nat)(y:Oper)(g:Fp):Bool:=match f.q,g.q with
 |1,1=>aje (dO P Γ.pf x.op) (sZ Γ.nb x.op) (dO P Γ.pf y.op) (sZ Γ.nb y.op)||UP (dO P Γ.pf x.op) f.a (dO P Γ.pf y.op) g.a
 |2,1=>BJ f (dO P Γ.pf y.op) (sZ Γ.nb y.op) (ei Γ.nb ops n j) g
 |1,2=>BJ g (dO P Γ.pf x.op) (sZ Γ.nb x.op) (ei Γ.nb ops n i) f
 |0,0=>Z
 |0,1=>Z
 |1,0=>Z
 |2,0=>(match f.a with|some b=>g.sl.all (oR b)|none=>I)
 |0,2=>(match g.a with|some b=>f.sl.all (oR b)|none=>I)
 |_,_=>I
def mZ(fs:List Fp)(i:Nat):Fp:=match fs[i]? with
 |some f=>f
 |none=>⟨3,Y,Y,[],.bP [],[]⟩
def Fk(Γ:cu)(n:Nat)(fs:List Fp)(ops:Array Oper)(i:Nat)(x:Oper)(j:Nat)(y:Oper):Bool:=
 x.apart ops y&&uQ P Γ ops.toList n i x (mZ fs i) j y (mZ fs j)
def UQ(a:List Nat)(o:Oper):Nat:=
 o.after.toList.foldl (λs e=>if Region.binds .any e then s|||2^e.on|||X a e.on 0 else s) 0
def fA:List Oper->List Nat->List Nat
 | [],a=>a
 |o::b,a=>fA b (a++[UQ a o])
def oM(Γ:cu)(n:Nat)(fs:List Fp)(ops:Array Oper):Bool:=
 let m:=fA ops.toList [];ops.toList.zipIdx.all λ(y,j)=>y.after.toList.all (λe=>!Region.binds .any e||C (e.on<j))&&
  (ops.toList.zipIdx.take j).all λ(x,i)=>(X m j 0).testBit i||Fk P Γ n fs ops i x j y
def ke(t:List (Option SV))(h:List Blk):List ResultVar->Option (List SV×Bool)
 | []=>E ([],Z)
 | .tmp i::b=>match ev t (.tmp i),ke t h b with
  |some v,E (l,p)=>E (v::l,p)
  |_,_=>Y
 | .cell a c::b=>match ev t (.tmp a) with
  |some x=>match xF P c h x,ke t h b with
   |some (v,q),E (l,p)=>E (v::l,aa p q)
   |_,_=>Y
  |none=>Y
def fK:List SV->SV
 | [v]=>v
 |a=>.bP a
def aU(n:Nat)(args:List SV):List (Option SV):=args.map E++t9 (n-A args) Y
def Lj(ex:Code->St->Option (Exit×St))(fn:Func)(args:List SV)(h:List Blk):Option (SV×List Blk×Bool):=
 match fn.body with
 |none=>Y
 |some c=>match ex c ⟨aU fn.ntmps args,h,Z⟩ with
  |some (.ret,s)=>(ke P s.t s.h fn.results.toList).map λq=>(fK q.1,s.h,aa s.ob q.2)
  |some (.normal,s)=>(ke P s.t s.h fn.results.toList).map λq=>(fK q.1,s.h,aa s.ob q.2)
  |_=>Y
def Fl(t:List (Option SV)):List Tmp->List SV->List (Option SV)
 |i::a,v::b=>Fl (t.set i (E v)) a b
 |_,_=>t
def zy:List Blk->Nat->Option (Nat×Lp)
 | [],_=>Y
 |b::a,i=>match zy a (i+1) with
  |some q=>E q
  |none=>match b with
   | .g (E L)=>match L.st with
    | .ready=>E (i,L)
    |_=>Y
   |_=>Y
def Dd:Exit->Option (Option Code)
 | .normal=>E Y
 | .ret=>E (E .ret)
 | .exit a=>E (E (.exit a))
 |_=>Y
def vc(h:List Blk)(i:Nat):Option Lp:=match h[i]? with
 |some (.g (E L))=>E L
 |_=>Y
def UR(ex:Code->St->Option (Exit×St))(l:Nat)(vs:List SV)(h:List Blk):Option (SV×List Blk×Bool):=
 match zy h 0 with
 |none=>Y
 |some (i,L)=>match Nat.beq L.ps.size (A vs),ex L.zo ⟨Fl L.t L.ps.toList vs,h,C (L.l=l)⟩ with
  |true,E (.normal,a)=>match vc a.h i with
   |none=>Y
   |some c=>match c.st,ex L.body ⟨a.t,a.h.set i (.g (E {c with st:=.busy})),aa a.ob (C (c.l=l))⟩ with
    | .ready,E (x,b)=>match Dd x,vc b.h i with
     |some q,E d=>E (.bool q.isNone,b.h.set i (.g (E {d with st:=if q.isNone then .ready else .done,lR:=q})),aa b.ob (C (d.l=l)))
     |_,_=>Y
    |_,_=>Y
  |_,_=>Y
def c7(Γ:cu)(ex:Nat->Code->St->Option (Exit×St)):ct:=λf b h j=>
 match f with
 | .func f=>match Γ.inl f with
  |some c=>match Lj P (ex (A h)) c b h with
   |some (v,a,p)=>if Nat.beq (A a-A h) 0||Nat.beq j (A h) then E (v,a.take (A h),a.drop (A h),p) else Y
   |none=>Y
  |none=>Γ.g f b h j
 | .yield l=>match Γ.yc l b h with
  |some (v,a,p)=>E (v,a,[],p)
  |none=>match UR (ex (A h)) l b h with
   |some (v,a,p)=>if Nat.beq (A a-A h) 0||Nat.beq j (A h) then E (v,a.take (A h),a.drop (A h),p) else Y
   |none=>Y
 |_=>Y
def exec(Γ:cu):Nat->Nat->Code->St->Option (Exit×St)
 |0,_,_,_=>Y
 |n+1,k,c,s=>match c with
  | .skip=>E (.normal,s)
  | .label _=>E (.normal,s)
  | .seq a b=>match exec Γ n k a s with
   |some (.normal,s')=>exec Γ n k b s'
   |r=>r
  | .cond c x y=>match ev s.t c with
   |some (.bool Z)=>exec Γ n k x s
   |some (.bool I)=>exec Γ n k y s
   |_=>Y
  | .block i b=>match exec Γ n k b s with
   |some (.exit j,s')=>if j=i then E (.normal,s') else E (.exit j,s')
   |r=>r
  | .loop b=>match exec Γ n k b s with
   |some (.normal,s')=>exec Γ n k (.loop b) s'
   |r=>r
  | .scope b=>match exec Γ n k b s with
   |some (.goto _,_)=>Y
   |r=>r
  | .exit i=>E (.exit i,s)
  | .ret=>E (.ret,s)
  | .region _ d g=>match g with
   |true=>match P.follows .mixedOrders,y7 P Γ (c7 P Γ λk=>exec Γ n k) k d (A s.h) (fA d.toList []) (t8 d.size) ⟨s.t,s.h++t9 (kN Γ.nb d.toList) .gap,s.ob⟩ with
    |true,E (s',l)=>match oM P Γ (A s.h) l d with
     |true=>E (.normal,s')
     |false=>Y
    |_,_=>Y
   |false=>(cg P (c7 P Γ λk=>exec Γ n k) Γ.sym Γ.eZ k d (t8 d.size) s).map λs'=>(.normal,s')
  |_=>Y
def aV(Γ:cu)(n:Nat)(fn:Func)(args:List SV)(h:List Blk):Option (SV×List Blk×Bool):=Lj P (exec P Γ n (A h)) fn args h
end
section
variable {P:Program} {e:cw}
def VR.empty:VR e (.bP []) undef:=⟨[],rfl,rfl⟩
def TR.get{t:List (Option SV)}{t'}(h:TR e t t'){i:Nat}{v:SV}(g:t[i]?=E (E v)):∃v',t'[i]?=E v'/\VR e v v':=by
 have a:i<A t':=by rw[<-h.1];exact(aaR.1 g).1
 exact⟨t'[i],aaQ a,h.2 i v _ g (aaQ a)⟩
def TR.set{t:List (Option SV)}{t'}(h:TR e t t'){v:SV}{v'}(g:VR e v v')(i:Nat):TR e (t.set i (E v)) (t'.set i v'):=by
 refine⟨by simp[h.1],λj x f b a=>?_⟩;by_cases c:i=j
 ·subst c;have d:i<A t:=by have:=(aaR.1 b).1;simpa using this
  have k:i<A t':=by rw[<-h.1];exact d
  rw[acg d] at b;rw[acg k] at a;cases b;cases a;exact g
 ·rw[abI c] at b a;exact h.2 j x f b a
def TR.mono{e':cw}(h:cw.Le e e'){t:List (Option SV)}{t'}(g:TR e t t'):TR e' t t':=
 ⟨g.1,λi v c a b=>VR.mono h (g.2 i v c a b)⟩
def TR.lU{e':cw}(l:∀n o,e.z n=E o->e'.z n=E o)(m:e'.n0<=e.n0){b:Nat}(u:∀j p,j≠b->e.r j=E p->e'.r j=E p){t:List (Option SV)}{t'}(g:TR e t t'):TR e' (gS (E b) t) t':=by
 refine⟨by simp[gS,g.1],λi v f a c=>?_⟩;simp only[gS,afr] at a;cases d:t[i]? with
 |none=>simp[d] at a
 |some x=>
  cases x with
  |none=>simp[d] at a
  |some x=>
   simp only[d,acs,Mf] at a
   split at a
   ·cases a
   ·rename_i k
    cases a
    refine VR.cN l m v f (λj p h s=>u j p (λq=>?_) s) (g.2 i v f d c)
    subst q;exact k h
mutual
theorem n8:∀{v:Value}{s:SV},wL v=some s->VR e s v
 | .bool b,s,h=>by simp only[wL,Mf] at h;subst h;exact rfl
 | .int k n,s,h=>by simp only[wL,Mf] at h;subst h;exact rfl
 | .string x,s,h=>by simp only[wL,Mf] at h;subst h;exact⟨x,rfl,rfl⟩
 | .pointer none,s,h=>by simp only[wL,Mf] at h;subst h;exact rfl
 | .pointer (some a),s,h=>by simp[wL] at h
 | .slice none 0 0,s,h=>by simp only[wL,Mf] at h;subst h;exact rfl
 | .slice none (_+1) _,s,h=>by simp[wL] at h
 | .slice none 0 (_+1),s,h=>by simp[wL] at h
 | .slice (some _) _ _,s,h=>by simp[wL] at h
 | .map none,s,h=>by simp only[wL,Mf] at h;subst h;exact rfl
 | .map (some _),s,h=>by simp[wL] at h
 | .chan none,s,h=>by simp only[wL,Mf] at h;subst h;exact rfl
 | .chan (some _),s,h=>by simp[wL] at h
 | .nilFunc,s,h=>by simp only[wL,Mf] at h;subst h;exact rfl
 | .nilIface,s,h=>by simp only[wL,Mf] at h;subst h;exact rfl
 | .float _ _,s,h=>by simp[wL] at h
 | .complex _ _ _,s,h=>by simp[wL] at h
 | .agg _,s,h=>by simp[wL] at h
 | .tuple ⟨xs⟩,s,h=>by
  simp only[wL] at h
  obtain⟨a,h1,rfl⟩:=aaC.1 h
  exact⟨xs,rZ h1,rfl⟩
 | .iface t x,s,h=>by
  simp only[wL] at h
  obtain⟨a,h1,rfl⟩:=aaC.1 h
  exact⟨x,n8 h1,rfl⟩
 | .func f ⟨xs⟩ ⟨ys⟩,s,h=>by
  simp only[wL] at h
  split at h
  ·rename_i a b h1 h2
   cases h
   exact⟨xs,ys,rZ h1,rZ h2,rfl⟩
  ·cases h
theorem rZ:∀{v:List Value}{s:List SV},ofL v=some s->LR e s v
 | [],s,h=>by simp only[ofL,Mf] at h;subst h;exact rfl
 |x::xs,s,h=>by
  simp only[ofL] at h
  split at h
  ·rename_i a b h1 h2
   cases h
   exact⟨x,xs,n8 h1,rZ h2,rfl⟩
  ·cases h
end
def aT{t:List (Option SV)}{t' d}(h:TR e t t'){x}{v:SV}(g:ev t x=E v):VR e v (Act.eval ⟨⟨t'⟩,d⟩ x):=by cases x with
 |tmp i=>
  simp[ev] at g;split at g
  ·rename_i u hu;cases g;have⟨k,US,hv⟩:=h.get hu
   have:Act.eval ⟨⟨t'⟩,d⟩ (.tmp i)=k:=by
    show(⟨t'⟩:Array Value).getD i undef=k
    rw[Array.getD_eq_getD_getElem?]
    simp[US]
   rw[this]
   exact hv
  ·cases g
 |const c=>exact n8 g
 |func f=>simp[ev,Mf] at g;subst g;exact⟨[],[],rfl,rfl,rfl⟩
 |global g'=>
  simp[ev] at g
  split at g
  ·cases g;rfl
  ·cases g
def rR{t:List (Option SV)}{t' d}(h:TR e t t'):∀{xs}{vs},uP t xs=E vs->LR e vs (xs.map (Act.eval ⟨⟨t'⟩,d⟩))
 | [],vs,g=>by simp[uP] at g;subst g;rfl
 |x::xs,vs,g=>by
  simp[uP] at g;split at g
  ·rename_i v c b a;cases g;exact⟨_,_,aT h b,rR h a,rfl⟩
  ·cases g
def VO(e:cw):Option SV->Option Value->Prop
 |none,y=>y=Y
 |some x,y=>∃z,y=E z/\VR e x z
def lZ{t:List (Option SV)}{t' d}(h:TR e t t'){x}{v:Option SV}(g:Q1 t x=E v):VO e v (x.map (Act.eval ⟨⟨t'⟩,d⟩)):=by cases x with
 |none=>simp[Q1,Mf] at g;subst g;rfl
 |some x=>simp only[Q1] at g;obtain⟨u,a,rfl⟩:=aaC.1 g;exact⟨_,rfl,aT h a⟩
def cU{t:TypeId}{n:Nat}(h:eG P t=E n) w:(sizeOf t).run P w=.ok n w:=by cases a:P.info? t with
 |none=>simp[eG,a] at h
 |some i=>simp[eG,a] at h;subst h;simp[sizeOf,typeInfo,a]
def BK{t:TypeId}{n:Nat}(h:eG P t=E n):∃i,P.info? t=E i/\i.size=n:=by cases a:P.info? t with
 |none=>simp[eG,a] at h
 |some i=>simp[eG,a] at h;exact⟨i,rfl,h⟩
def g9{t:TypeId}{z}(h:gw P t=E z) w:(zeroValue t).run P w=.ok z w:=by cases a:P.info? t with
 |none=>simp[gw,a] at h
 |some i=>simp[gw,a] at h;simp[zeroValue,typeInfo,a,h]
def n9{t:TypeId}{b:Bool}(h:jf P t=E b) w:(isAgg t).run P w=.ok b w:=by cases a:P.underlying t with
 |none=>simp[jf,a] at h
 |some d=>
  simp[jf,a,acs,Mf] at h;unfold isAgg;rw[abe,abF a w];cases d<;>simp_all
def oa{t:TypeId}{k:IntKind}(h:gl P t=E k):P.underlying t=E (.int k):=by
 unfold gl at h;split at h
 ·rename_i b a;cases h;exact a
 ·cases h
def xG{k:IntKind}:∀{xs:pD}{ys zs},Fc k xs ys=E zs->ys=bB k xs++zs
 | [],ys,zs,h=>by simp[Fc,Mf] at h;subst h;rfl
 |a::l,ys,zs,h=>by
  unfold Fc at h;split at h
  ·rename_i c;cases c
  ·rename_i j f i b g c;cases c;split at h
   ·rename_i d;have⟨rfl,rfl⟩:=d;rw[xG h];rfl
   ·cases h
  ·cases h
def abw{v w}{a:Nat}(h:C9 v=E a)(g:C9 w=E a):w=v:=by
 have d:∀{u}{a:Nat},C9 u=E a->(a=0/\u=.pointer Y)\/(a=1/\u=.slice Y 0 0)\/(a=2/\u=.map Y)\/(a=3/\u=.chan Y)\/(a=4/\u=.nilFunc)\/(a=5/\u=.nilIface):=by intro u a h;unfold C9 at h;split at h<;>simp at h<;>subst h<;>simp
 rcases d h with⟨c,rfl⟩|⟨c,rfl⟩|⟨c,rfl⟩|⟨c,rfl⟩|⟨c,rfl⟩|⟨c,rfl⟩<;>rcases d g with⟨b,rfl⟩|⟨b,rfl⟩|⟨b,rfl⟩|⟨b,rfl⟩|⟨b,rfl⟩|⟨b,rfl⟩<;>first|rfl|omega
def Fm{x:SV}{y}(h:UH x y=Z):VR e x y/\bQ x=Z:=by
 unfold UH at h;split at h
 ·simp at h;subst h;exact⟨rfl,rfl⟩
 ·simp at h;have⟨rfl,rfl⟩:=h;exact⟨rfl,rfl⟩
 ·rename_i s;refine⟨⟨s,rfl,?_⟩,rfl⟩;have:s.data.toList=[]:=by simpa using h
  simp[kQ,this]
 ·rename_i v w;split at h
  ·rename_i a b d c;simp at h;subst h;exact⟨abw d c,rfl⟩
  ·cases h
 ·cases h
def qP:∀{ps}{ys},BH ps ys=Z->PR e ps ys
 | [],ys,h=>by simp[BH] at h;exact h
 |x::i,ys,h=>by
  unfold BH at h;split at h
  ·rename_i a;cases a
  ·rename_i k n l ps ys a;cases a;split at h
   ·rename_i c d;simp[No,aac] at h;exact⟨c,qP h.2,by rw[bV h.1];exact xG d⟩
   ·cases h
  ·rename_i p ps y ys b a;cases a;simp[No] at h;have⟨g,f⟩:=Fm (e:=e) h.1;exact(PR.cons f).2 ⟨y,ys,g,qP h.2,rfl⟩
  ·cases h
def O9 v:UI v=v.cells.toList:=by cases v<;>rfl
def jo{t:TypeId}{ps}(h:nk P t=E ps):∃z,gw P t=E z/\PR e ps z.cells.toList:=by
 unfold nk at h;split at h
 ·rename_i z a c d;split at h
  ·rename_i b;cases h;exact⟨z,c,by rw[<-O9];exact qP b⟩
  ·cases h
 ·cases h
def VR.oS{ps v'}(h:VR e (.agg ps) v'):∃ys,PR e ps ys/\v'=.agg ⟨ys⟩:=h
def VR.parts{v v'}(h:VR e v v')(a:one v=Z\/∃ps,v=.agg ps):PR e (lT v) v'.cells.toList:=by
 rcases a with a|⟨ps,rfl⟩
 ·have b:=h.oO a;have d:lT v=[v]:=by cases v<;>first|rfl|cases a
  have f:bQ v=Z:=by cases v<;>first|rfl|cases a
  have c:v'.cells.toList=[v']:=by cases v'<;>first|rfl|cases b
  rw[d,c];exact(PR.cons f).2 ⟨v',[],h,rfl,rfl⟩
 ·obtain⟨g,b,rfl⟩:=h.oS;exact b
def fX(n o j:Nat):(⟨n,o,Y⟩:Addr).add j=⟨n,o+j,Y⟩:=by unfold Addr.add;split<;>simp_all
variable {B:dj} {h:List Blk} {w:World}
def bM.block(R:bM B e h w){b:Nat}{p ps}(g:e.r b=E p)(i:h[b]?=E (.b ps)):
  ∃c t,w.heap[p.n]?=E (.cells c t (0,0))/\p.base+p.size<=c.size/\aC ps<=p.size/\PR e ps ((c.toList.drop p.base).take (aC ps)):=by
 rcases R.gr b ps i with⟨_,f⟩|⟨q,o,d,k,a⟩
 ·rw[g] at f;cases f
 ·rw[g] at d;cases d;obtain⟨c,t,rfl,j,l,m⟩:=a;exact⟨c,t,k,j,l,m⟩
def bM.ve(R:bM B e h w){b:Nat}{p}(a:e.r b=E p):∃ps,h[b]?=E (.b ps):=by have d:=R.dom b p a;cases c:h[b]? with
 |none=>rw[List.getElem?_eq_none_iff] at c;omega
 |some x=>cases x with
  |b ps=>exact⟨ps,rfl⟩
  |g _=>rw[(R.gap b _ c).1] at a;cases a
def bM.gu(R:bM B e h w){b:Nat}{p}(d:e.r b=E p):∃c t,w.heap[p.n]?=E (.cells c t (0,0))/\p.base+p.size<=c.size:=by have⟨i,a⟩:=R.ve d;have⟨c,t,f,g,_⟩:=R.block d a;exact⟨c,t,f,g⟩
def bM.lt(R:bM B e h w){b:Nat}{p}(d:e.r b=E p):p.n<w.heap.size:=by have⟨c,t,a,_⟩:=R.gu d;exact(abE.1 a).1
def bM.ZP(R:bM B e h w){n:Nat}{x}(a:e.z n=E x):n<w.heap.size:=by have⟨c,t,b⟩:=x;exact(abE.1 (R.gN n c t b a)).1
def nt{n:Nat}{c}{t:TypeId}{fr}(a:w.heap[n]?=E (.cells c t fr)){j:Nat}{y}(b:c.toList[j]?=E y):w.cell? ⟨n,j,Y⟩=E y:=by simp[World.cell?,a];simpa using b
def iY{n o m:Nat}{c}{t ty:TypeId}{fr}(g:w.heap[n]?=E (.cells c t fr))(k:jf P ty=E Z)(i:eG P ty=E m)(l:o+m<=c.size):
  (loadVar ty ⟨n,o,Y⟩).run P w=.ok (.agg ⟨(c.toList.drop o).take m⟩) w:=by
 have b:A ((c.toList.drop o).take m)=m:=by simp[afN,afj];omega
 have a:=run_loadCells_list (P:=P) w ⟨n,o,Y⟩ ((c.toList.drop o).take m) (λj v d=>by
  rw[fX];apply nt g;have f:j<m:=by have:=(aaR.1 d).1;omega
  rwa [afY f,afO] at d)
 rw[b] at a;simp[loadVar,abe,n9 k,cU i,a]
def e9{n o:Nat}{y}{ty:TypeId}(a:w.cell? ⟨n,o,Y⟩=E y)(b:jf P ty=E I):(loadVar ty ⟨n,o,Y⟩).run P w=.ok y w:=by simp[loadVar,abe,n9 b,run_load,a]
def oT{ps}{o i n:Nat}{q ys}(a:O6 ps o i n=E (q,Z))(g:PR e ps ys):PR e q ((ys.drop (o+i)).take n)/\o+i+n<=A ys:=by
 unfold O6 at a;split at a
 ·have⟨s,b,d⟩:=aaC.1 a;cases d;exact tM b g
 ·rename_i i;split at a
  ·rename_i k m t l r;simp[Mf,aad,aac] at a;have⟨rfl,j⟩:=a;have⟨b,d⟩:=hY r g;have⟨p,u,f⟩:=b;have c:A ys-o=m+A p:=by rw[<-afj,f];simp[aQ,bp]
   refine⟨⟨[],rfl,?_⟩,by omega⟩;rw[<-afu,f,acj,agj (by rw[aQ,bp];omega),afk (by rw[afj,aQ,bp];omega)];rw[<-gz, <-dW, <-zm, <-qJ (by omega)]
  ·cases a
def Fq{k:IntKind}{xs}{c:List Value}{o i:Nat}(b:bB k xs=(c.drop o).take (A xs))(hi:i<A xs):c[o+i]?=E (.int k (X xs i 0)):=by have a:=OZ (k:=k) hi;rw[b,afY hi,afO] at a;exact a
def xH(R:bM B e h w){ty:TypeId}{a v a'}(g:xF P ty h a=E (v,Z))(N:VR e a a'):
  ∃x v',a'=.pointer (E x)/\(loadVar ty x).run P w=.ok v' w/\VR e v v':=by
 unfold xF at g;split at g
 ·rename_i b o i;obtain⟨p,hp,rfl⟩:=N;split at g
  ·rename_i ps hb;have⟨c,t,s,U,nR,qh⟩:=R.block hp hb;split at g
   ·rename_i j;split at g
    ·rename_i n hn;have⟨⟨q,pq⟩,G,l⟩:=aaC.1 g;simp[aad] at l;obtain⟨rfl,rfl⟩:=l;have⟨M,h4⟩:=oT G qh;have hl:A ((c.toList.drop p.base).take (aC ps))=aC ps:=by simp;omega
     rw[hl] at h4;refine⟨_,_,rfl,iY s j hn (by omega),_,?_,rfl⟩;rw[ahB,ahy,afu,agK (by omega)] at M;exact M
    ·cases g
   ·rename_i j;have⟨y,J,hv⟩:=ia g qh;refine⟨_,y,rfl,e9 (nt s ?_) j,hv⟩;have hlt:o+i<aC ps:=by have:=(aaR.1 J).1;simp at this;omega
    rwa [afY hlt,afO] at J
   ·cases g
  ·cases g
 ·rename_i k xs i;obtain⟨n,o,c,t,fr,rfl,K,G⟩:=N;have s:=R.gN _ _ _ _ K;split at g
  ·rename_i j;split at g
   ·rename_i m S;simp[Mf,aad,No,aac] at g;have⟨rfl,ac,D⟩:=g;have ab:A xs<=c.size-o:=by have:=ahV List.length G;simp[aQ] at this;omega
    refine⟨_,_,rfl,iY s j S (by omega),_,⟨[],rfl,rfl⟩,?_⟩;rw[acj,bV (by simp;omega),dW,gz,G,ahB,ahy,afu,agK (by omega)]
   ·cases g
  ·rename_i j;simp[Mf,aad,aac] at g;have⟨rfl,hlt⟩:=g;exact⟨_,_,rfl,e9 (nt s (Fq G hlt)) j,rfl⟩
  ·cases g
 ·rename_i f Q i;obtain⟨n,o,c,t,fr,rfl,K,G⟩:=N;have s:=R.gN _ _ _ _ K;split at g
  ·rename_i j;simp only[Mf,aad,aac] at g;obtain⟨rfl,hlt⟩:=g;obtain⟨y,J,hv⟩:=G i _ (aaQ hlt);refine⟨_,y,rfl,e9 (nt s J) j,?_⟩;have:X Q i []=Q[i]:=by simp[List.getD,aaQ hlt]
   rw[this];exact hv
  ·cases g
 ·rename_i f z W c0 F o i;obtain⟨n,o0,c,t,fr,rfl,K,G,U⟩:=N;have s:=R.gN _ _ _ _ K;have T:∀{q}{y},VR ⟨λ_=>Y,e.z,e.n0,[],λ_=>Y⟩ q y->VR e q y:=λhv=>VR.mono (e:=⟨λ_=>Y,e.z,e.n0,[],λ_=>Y⟩) (e':=e) ⟨(λ_ _ x=>by cases x),(λ_ _ x=>x),aar _⟩ hv;have u:F<W->F*z+z<=W*z:=λhlt=>by have:=aeK z (Nat.succ_le_of_lt hlt);rw[Nat.succ_mul] at this;exact this
  split at g
  ·rename_i j;split at g
   ·rename_i m S;obtain⟨⟨q,pq⟩,r,l⟩:=aaC.1 g;simp[aad,No,aac] at l;obtain⟨rfl,rfl,hlt,D⟩:=l;have:=u hlt;obtain⟨M,h4⟩:=oT r (G F hlt);refine⟨_,_,rfl,iY s j S (by omega),T ⟨_,?_,rfl⟩⟩;rw[ahB,ahy,afu,agK (by omega)] at M;exact M
   ·cases g
  ·rename_i j;obtain⟨⟨q,pq⟩,r,l⟩:=aaC.1 g;simp[aad,No,aac] at l;obtain⟨rfl,rfl,hlt,D⟩:=l;obtain⟨y,J,hv⟩:=ia r (G F hlt);refine⟨_,y,rfl,e9 (nt s ?_) j,T hv⟩;rwa [afY D,afO] at J
  ·cases g
 ·rename_i b z F o i;obtain⟨p,hp,rfl⟩:=N;split at g
  ·rename_i L n gg hb;obtain⟨c,t,s,U,nR,us,zs,k1,k2,k3,k4⟩:=R.block hp hb;rw[PR] at k3;subst k3;rw[acj] at k4;have Fs:aC [SV.aF L n gg]=n*L:=by simp[aC,kf]
   rw[Fs] at k4 nR;have T:∀{q}{y},VR ⟨λ_=>Y,e.z,e.n0,[],λ_=>Y⟩ q y->VR e q y:=λhv=>VR.mono (e:=⟨λ_=>Y,e.z,e.n0,[],λ_=>Y⟩) (e':=e) ⟨(λ_ _ x=>by cases x),(λ_ _ x=>x),aar _⟩ hv;have u:F<n->F*L+L<=n*L:=λhlt=>by have:=aeK L (Nat.succ_le_of_lt hlt);rw[Nat.succ_mul] at this;exact this
   have V:F<n->PR ⟨λ_=>Y,e.z,e.n0,[],λ_=>Y⟩ (gg F) ((c.toList.drop (p.base+F*L)).take L):=λhlt=>by have k:=k2 F hlt;have:=u hlt;rw[<-k4,ahB,ahy,afu,agK (by omega)] at k;exact k
   split at g
   ·rename_i K j;obtain rfl:=acr K;split at g
    ·rename_i m S;obtain⟨⟨q,pq⟩,r,l⟩:=aaC.1 g;simp[aad,No,aac] at l;obtain⟨rfl,rfl,hlt,D⟩:=l;have:=u hlt;obtain⟨M,h4⟩:=oT r (V hlt);refine⟨_,_,rfl,iY s j S (by omega),T ⟨_,?_,rfl⟩⟩;rw[ahB,ahy,afu,agK (by omega),Nat.add_assoc] at M;exact M
    ·cases g
   ·rename_i K j;obtain rfl:=acr K;obtain⟨⟨q,pq⟩,r,l⟩:=aaC.1 g;simp[aad,No,aac] at l;obtain⟨rfl,rfl,hlt,D⟩:=l;obtain⟨y,J,hv⟩:=ia r (V hlt);refine⟨_,y,rfl,e9 (nt s ?_) j,T hv⟩;rw[afY D,afO,Nat.add_assoc] at J;exact J
   ·cases g
  ·cases g
 ·rename_i gi i;rw[VR] at N;subst N;split at g
  ·rename_i k xs hg j;simp[Mf,aad,aac] at g;obtain⟨rfl,hlt⟩:=g;obtain⟨c,t,fr,h1,l⟩:=R.fU gi k xs hg;have s:=R.gN _ _ _ _ h1;exact⟨_,_,rfl,e9 (nt s (by have:=Fq (o:=0) (c:=c.toList) (by simpa using l) hlt;simpa using this)) j,rfl⟩
  ·cases g
 ·cases g
def bM.setBlock(R:bM B e h w){b:Nat}{p ps' c c'}{t:TypeId}(f:e.r b=E p)(D:w.heap[p.n]?=E (.cells c t (0,0)))
  (W:c'.size=c.size)(y:∀j,j<p.base\/p.base+p.size<=j->c'[j]?=c[j]?)(J:aC ps'<=p.size)(qh:PR e ps' ((c'.toList.drop p.base).take (aC ps'))):
  bM B e (h.set b (.b ps')) (w.setRow p.n c'):=by
 have M:=R.dom b p f;have⟨c0,t0,V,h2⟩:=R.gu f;rw[D] at V;cases V;have U:=setRow_heap w p.n c c' t (0,0) D;have u:=λn l=>setRow_other w p.n n c' l;exact{
  os:=R.os,tape:=R.tape,output:=R.output
  size:=by have:=R.size;simpa[World.setRow] using this
  inj:=R.inj
  dom:=λi q a=>by simpa using R.dom i q a
  gM:=R.gM
  gN:=λn cc N Q L=>by
   rw[u n (λq=>by rw[q,R.gM b p f] at L;cases L)];exact R.gN n cc N Q L
  bN:=R.bN,fU:=R.fU,cM:=R.cM,b6:=R.b6,cE:=R.cE,n0:=R.n0,dK:=R.dK
  gr:=λi qs a=>by
   by_cases v:b=i
   ·subst v
    rw[acg M] at a
    cases a
    exact .inr ⟨p,_,f,U,c',t,rfl,by rw[W];exact h2,J,qh⟩
   ·rw[abI v] at a
    rcases R.gr i qs a with g|⟨q,o,s,G,K⟩
    ·exact .inl g
    ·exact .inr ⟨q,o,s,by rw[u q.n (λx=>v (R.inj i b q p s f x).symm)];exact G,K⟩
  gap:=λi g a=>by
   by_cases v:b=i
   ·subst v;rw[acg M] at a;cases a
   ·rw[abI v] at a
    refine⟨(R.gap i g a).1,(R.gap i g a).2.le (λn o l=>?_) rfl (cw.Le.refl e)⟩
    rw[u n (λq=>by subst q;rw[D] at l;cases l)];exact l
  yi:=R.yi,yb:=R.yb
  old:=λn l z qm=>by
   rw[u n (λq=>?_)]
   ·exact R.old n l z qm
   ·subst q
    rcases R.cM b p f with g|g
    ·exact z b p g rfl
    ·omega
  lz:=λi q s=>by
   have⟨o,o',G,m,T⟩:=R.lz i q s
   by_cases F:q.n=p.n
   ·have H:=R.inj i b q p (R.b6 i q s) f F
    subst H
    have:=R.b6 i q s
    rw[f] at this;cases this
    rw[D] at m;cases m
    obtain⟨d,d',N,Q,rfl,q1,q2,q3⟩:=T
    cases q1
    exact⟨_,_,G,U,d,c',t,(0,0),rfl,rfl,by rw[W,q2],λj S=>by rw[y j S,q3 j S]⟩
   ·exact⟨o,o',G,by rw[u q.n F];exact m,T⟩
  kr:=R.kr
  iT:=by simpa using R.iT
  g7:=λr k=>by
   refine⟨?_,(R.g7 r k).2⟩
   rw[u r (λq=>?_)]
   ·exact(R.g7 r k).1
   ·subst q;have:=(R.g7 _ k).1;rw[D] at this;cases this
  jG:=R.jG}
def kF{ps}:∀{ys},PR e ps ys->ps.all (λp=>one p||E9 p)=Z->∀v∈ys,v.oneCell'=Z:=by induction ps with
 |nil=>intro ys g _ v a;rw[PR] at g;subst g;cases a
 |cons x l d=>
  intro ys g b v a;simp only[List.all_cons,No] at b;by_cases f:bQ x=Z
  ·obtain⟨y,k,i,c,rfl⟩:=(PR.cons f).1 g;have j:one x=Z:=by
    have:=b.1
    cases x<;>simp_all[one,E9,bQ]
   rcases af7.1 a with rfl|a
   ·exact i.oO j
   ·exact d c b.2 v a
  ·cases x<;>simp[bQ] at f
   case aF=>simp[one,E9] at b
   obtain⟨k,c,rfl⟩:=g
   rcases agl.1 a with a|a
   ·simp[bB,ajj] at a
    obtain⟨n,_,rfl⟩:=a
    rfl
   ·exact d c b.2 v a
end
section
variable {P:Program} {e:cw} {B:dj} {h:List Blk} {w:World}
def bM.storeAt(R:bM B e h w){b:Nat}{p ps c}{t:TypeId}(o:e.r b=E p)(k:w.heap[p.n]?=E (.cells c t (0,0)))(m:p.base+p.size<=c.size)(x:aC ps<=p.size)
  (q:Nat) vs ps'(u:q+A vs<=aC ps)(g:aC ps'=aC ps)(f:∀v∈vs,v.oneCell'=Z)
  (i:PR e ps' (((c.toList.drop p.base).take (aC ps)).take q++vs++((c.toList.drop p.base).take (aC ps)).drop (q+A vs))):
  ∃w',(storeCells ⟨p.n,p.base+q,Y⟩ vs 0).run P w=.ok () w'/\bM B e (h.set b (.b ps')) w':=by
 have d:=run_storeCells_at P p.n (p.base+q) t vs 0 c w k (by omega) f;simp only[ajf] at d;refine⟨_,d,R.setBlock o k ?_ ?_ (by omega) ?_⟩
 ·simp;omega
 ·intro j s;simp only[ahF];rcases agP j (p.base+q) with a|a
  ·rw[aeH,afy (by simp;omega),af1,ae8 a];simp
  ·have l:p.base+q+A vs<=j:=by omega
   rw[afE (by simp;omega),afO];have:p.base+q+A vs+(j-A (List.take (p.base+q) c.toList++vs))=j:=by simp;omega
   rw[this];simp
 ·rw[g];have:(List.drop p.base (c.toList.take (p.base+q)++vs++c.toList.drop (p.base+q+A vs))).take (aC ps)=((c.toList.drop p.base).take (aC ps)).take q++vs++((c.toList.drop p.base).take (aC ps)).drop (q+A vs):=by
   apply agh
   intro j
   simp only[af1,afO,List.getElem?_append,abA,afN,afj,aiv]
   by_cases a:j<aC ps
   ·rw[ae8 a]
    by_cases l:j<q
    ·simp[show p.base+j<min (p.base+q) c.size+A vs from by omega,show p.base+j<min (p.base+q) c.size from by omega,show p.base+j<p.base+q from by omega,show j<min q (min (aC ps) (c.size-p.base))+A vs from by omega,show j<min q (min (aC ps) (c.size-p.base)) from by omega,l,a,akk]
    ·by_cases y:j<q+A vs
     ·simp only[show p.base+j<min (p.base+q) c.size+A vs from by omega,show¬p.base+j<min (p.base+q) c.size from by omega,show j<min q (min (aC ps) (c.size-p.base))+A vs from by omega,show¬j<min q (min (aC ps) (c.size-p.base)) from by omega,akk,if_false]
      congr 1;omega
     ·simp only[show¬p.base+j<min (p.base+q) c.size+A vs from by omega,show¬j<min q (min (aC ps) (c.size-p.base))+A vs from by omega,if_false]
      rw[ae8 (by omega)]
      congr 1;omega
   ·rw[acB a]
    simp only[show¬j<min q (min (aC ps) (c.size-p.base))+A vs from by omega,if_false]
    rw[acB (by omega)]
  simp only[]
  rw[this];exact i
def bM.Ft(R:bM B e h w){b:Nat}{p ps c}{t:TypeId}(o:e.r b=E p)(k:w.heap[p.n]?=E (.cells c t (0,0)))(m:p.base+p.size<=c.size)
  vs ps'(s:aC ps+A vs<=p.size)(g:aC ps'=aC ps+A vs)(d:∀v∈vs,v.oneCell'=Z)
  (f:PR e ps' ((c.toList.drop p.base).take (aC ps)++vs)):
  ∃w',(storeCells ⟨p.n,p.base+aC ps,Y⟩ vs 0).run P w=.ok () w'/\bM B e (h.set b (.b ps')) w':=by
 have a:=run_storeCells_at P p.n (p.base+aC ps) t vs 0 c w k (by omega) d;simp only[ajf] at a;refine⟨_,a,R.setBlock o k ?_ ?_ (by omega) ?_⟩
 ·simp;omega
 ·intro j q;simp only[ahF];rcases agP j (p.base+aC ps) with h1|h1
  ·rw[aeH,afy (by simp;omega),af1,ae8 h1];simp
  ·have u:p.base+aC ps+A vs<=j:=by omega
   rw[afE (by simp;omega),afO];have:p.base+aC ps+A vs+(j-A (List.take (p.base+aC ps) c.toList++vs))=j:=by simp;omega
   rw[this];simp
 ·rw[g];have:(List.drop p.base (c.toList.take (p.base+aC ps)++vs++c.toList.drop (p.base+aC ps+A vs))).take (aC ps+A vs)=(c.toList.drop p.base).take (aC ps)++vs:=by
   have i:A (c.toList.take (p.base+aC ps))=p.base+aC ps:=by rw[afN,aiv];omega
   rw[aeH,agj (by omega),ahB,aic]
   have l:A ((c.toList.drop p.base).take (aC ps))=aC ps:=by rw[afN,afj,aiv];omega
   rw[<-aeH,afk (by rw[abA,l];exact aar _),aaT (by rw[abA,l];exact aar _)]
  simp only[]
  rw[this];exact f
inductive vf:SV->SV->Prop where
 |refl (x:SV):vf x x
 |ro (f f':Bool) (k:IntKind) (l:pD) (h:f'=true->f=true):vf (.ro f k l) (.ro f' k l)
 |ro0 (f:Bool) (k:IntKind):vf (.nl (.slice none 0 0)) (.ro f k [])
 |iX (f f':Bool) (l:List pD) (h:f'=true->f=true):vf (.iX f l) (.iX f' l)
 |ajh (f:Bool):vf (.nl (.slice none 0 0)) (.iX f [])
def qf.abx{e:cw}{f a:Bool}{k:IntKind}{xs v}(l:a=Z->f=Z)(g:qf e f k xs v):qf e a k xs v:=by
 rcases g with h|⟨n,o,cap,c,t,p,b,d,r,i,j,m⟩
 ·exact .inl h
 ·exact .inr ⟨n,o,cap,c,t,p,b,d,λq=>r (l q),i,j,m⟩
def Ld.abx{e:cw}{f d:Bool}{xss v}(j:d=Z->f=Z)(g:Ld e f xss v):Ld e d xss v:=by
 rcases g with h|⟨n,o,cap,c,t,x,k,l,y,s,r,p⟩
 ·exact .inl h
 ·exact .inr ⟨n,o,cap,c,t,x,k,l,λq=>y (j q),λi u m=>(s i u m).imp λy ⟨a,b⟩=>⟨a,b.abx j⟩,r,p⟩
def vf.PR{e:cw}{x u xs xs' us}(q:vf x u)(g:PR e (x::xs) us)(d:∀zs,Sy.PR e xs zs->Sy.PR e xs' zs):Sy.PR e (u::xs') us:=by cases q with
 |refl=>
  cases x<;>first
   |(have⟨zs,a,b⟩:=g;exact⟨zs,d zs a,b⟩)
   |(have⟨us,zs,h0,a,b,c⟩:=g;exact⟨us,zs,h0,a,d zs b,c⟩)
   |(have⟨y,zs,a,b,c⟩:=g;exact⟨y,zs,a,d zs b,c⟩)
 |ro f f' k l h=>have⟨y,zs,a,b,c⟩:=g;exact⟨y,zs,qf.abx h a,d zs b,c⟩
 |ro0 f k=>have⟨y,zs,a,b,c⟩:=g;rw[VR] at a;subst a;exact⟨_,zs,.inl ⟨rfl,Y,0,rfl,λ_=>rfl⟩,d zs b,c⟩
 |iX f f' l h=>have⟨y,zs,a,b,c⟩:=g;exact⟨y,zs,Ld.abx h a,d zs b,c⟩
 |ajh f=>have⟨y,zs,a,b,c⟩:=g;rw[VR] at a;subst a;exact⟨_,zs,.inl ⟨rfl,Y,0,rfl,λ_=>rfl⟩,d zs b,c⟩
def UT a b:vf a (zq Z a b):=by
 unfold zq;split<;>(try simp[aja]);all_goals(try exact .refl _);all_goals(try(split<;>exact .refl _))
 ·split
  ·exact .ro _ _ _ _ λh=>by simp[No] at h;exact h.1
  ·exact .refl _
 ·exact .ro0 _ _
 ·exact .iX _ _ _ λh=>by simp[No] at h;exact h.1
 ·exact .ajh _
def UU a b:vf b (zq I a b):=by
 unfold zq;split<;>(try simp[ajB]);all_goals(try exact .refl _)
 ·split
  ·rename_i c;subst c;exact .refl _
  ·exact .refl _
 ·split
  ·rename_i c;have⟨rfl,rfl⟩:=c;exact .refl _
  ·exact .refl _
 ·split
  ·rename_i c;subst c;exact .ro _ _ _ _ λh=>by simp[No] at h;exact h.2
  ·exact .refl _
 ·exact .ro0 _ _
 ·exact .iX _ _ _ λh=>by simp[No] at h;exact h.2
 ·exact .ajh _
def oc{e:cw}:∀{t7 bs}{us},PR e t7 us->PR e (bF Z t7 bs) us
 | [],bs,us,h=>by cases bs<;>simpa[bF] using h
 |x::b,[],us,h=>by simpa[bF] using h
 |x::b,y::c,us,h=>by simp[bF];exact(UT x y).PR h λzs a=>oc a
def oe{e:cw}:∀{t7 bs}{us},PR e bs us->PR e (bF I t7 bs) us
 | [],bs,us,h=>by cases bs<;>simpa[bF] using h
 |x::b,[],us,h=>by simpa[bF] using h
 |x::b,y::c,us,h=>by simp[bF];exact(UU x y).PR h λzs a=>oe a
def zA{us vs:List Value}{z n el q:Nat}(o:A us=n*z)(c:el<n)(m:q+A vs<=z):
  el*z+q+A vs<=A us/\((us.take (el*z+q)++vs++us.drop (el*z+q+A vs)).drop (el*z)).take z=((us.drop (el*z)).take z).take q++vs++((us.drop (el*z)).take z).drop (q+A vs)/\
  ∀i,i<n->i≠el->((us.take (el*z+q)++vs++us.drop (el*z+q+A vs)).drop (i*z)).take z=(us.drop (i*z)).take z:=by
 have d:el*z+z<=n*z:=by have:=aeK z (Nat.succ_le_of_lt c);rw[Nat.succ_mul] at this;exact this
 refine⟨by omega,?_,λi l b=>?_⟩
 ·apply agh;intro j;simp only[af1,afO,List.getElem?_append,abA,afN,afj];by_cases a:j<z
  ·rw[ae8 a];by_cases k:j<q
   ·simp[show el*z+j<min (el*z+q) (A us)+A vs from by omega,show el*z+j<min (el*z+q) (A us) from by omega,show el*z+j<el*z+q from by omega,show j<min q (min z (A us-el*z))+A vs from by omega,show j<min q (min z (A us-el*z)) from by omega,k,a,akk]
   ·by_cases p:j<q+A vs
    ·simp[show el*z+j<min (el*z+q) (A us)+A vs from by omega,show¬el*z+j<min (el*z+q) (A us) from by omega,show j<min q (min z (A us-el*z))+A vs from by omega,show¬j<min q (min z (A us-el*z)) from by omega,akk,if_false];congr 1;omega
    ·simp[show¬el*z+j<min (el*z+q) (A us)+A vs from by omega,show¬j<min q (min z (A us-el*z))+A vs from by omega,if_false];rw[ae8 (by omega)];congr 1;omega
  ·rw[acB a];simp only[show¬j<min q (min z (A us-el*z))+A vs from by omega,if_false];rw[acB (by omega)]
 ·have f:i*z+z<=n*z:=by
   have:=aeK z (Nat.succ_le_of_lt l);rw[Nat.succ_mul] at this;exact this
  have g:i*z+z<=el*z\/el*z+z<=i*z:=by
   rcases Nat.lt_or_gt_of_ne b with h|h
   ·left;have:=aeK z (Nat.succ_le_of_lt h);rw[Nat.succ_mul] at this;exact this
   ·right;have:=aeK z (Nat.succ_le_of_lt h)
    rw[Nat.succ_mul] at this;exact this
  apply agh
  intro j
  simp only[af1,afO,List.getElem?_append,abA,afN]
  by_cases a:j<z
  ·rw[ae8 a,ae8 a]
   rcases g with h|h
   ·simp only[show i*z+j<min (el*z+q) (A us)+A vs from by omega,show i*z+j<min (el*z+q) (A us) from by omega,show i*z+j<el*z+q from by omega,akk]
   ·simp only[show¬i*z+j<min (el*z+q) (A us)+A vs from by omega,if_false]
    congr 1;omega
  ·rw[acB a,acB a]
def zB{z n el:Nat}{g:Nat->List SV}{us vs:List Value}{q:Nat}{ps'}(o:A us=n*z)(l:∀i,i<n->PR ⟨λ_=>Y,e.z,e.n0,[],λ_=>Y⟩ (g i) ((us.drop (i*z)).take z))(c:el<n)(j:q+A vs<=z)
  (b:PR ⟨λ_=>Y,e.z,e.n0,[],λ_=>Y⟩ ps' (((us.drop (el*z)).take z).take q++vs++((us.drop (el*z)).take z).drop (q+A vs))):
  PR e [.aF z n λi=>bF (Nat.beq i el) ps' (g i)] (us.take (el*z+q)++vs++us.drop (el*z+q+A vs)):=by
 have⟨p,k,m⟩:=zA o c j;refine⟨_,[],?_,λi d=>?_,rfl,(acj _).symm⟩
 ·simp[abA,afN,afj];omega
 ·show PR _ (bF ..) _;by_cases a:i=el
  ·subst a;rw[k,show Nat.beq i i=Z from Nat.beq_refl i];exact oc b
  ·rw[m i d a,show Nat.beq i el=I from by cases f:Nat.beq i el with
    |false=>rfl
    |true=>exact absurd (acr f) a]
   exact oe (l i d)
def VR.closed{e:cw}{v v'}(h:VR e v v')(b:gQ v=Z):VR ⟨λ_=>Y,e.z,e.n0,[],λ_=>Y⟩ v v':=VR.cN (e:=e) (e':=⟨λ_=>Y,e.z,e.n0,[],λ_=>Y⟩) (λ_ _ h=>h) (aar _) v v' (λj p a _=>by rw[oN b] at a;cases a) h
def PR.closed{e:cw}{v v'}(h:PR e v v')(b:dI v=Z):PR ⟨λ_=>Y,e.z,e.n0,[],λ_=>Y⟩ v v':=PR.cN (e:=e) (e':=⟨λ_=>Y,e.z,e.n0,[],λ_=>Y⟩) (λ_ _ h=>h) (aar _) v v' (λj p a _=>by rw[e6 b] at a;cases a) h
def De(R:bM B e h w){ty:TypeId}{a x a' s}{h':List Blk}(g:jP P ty h x a=E (h',Z))(ha:VR e a a')(S:VR e x s):
  ∃ad w',a'=.pointer (E ad)/\(storeVar ty ad s).run P w=.ok () w'/\bM B e h' w':=by
 unfold jP at g;split at g
 ·rename_i b o i;obtain⟨p,hp,rfl⟩:=ha;split at g
  ·rename_i ps hb;have⟨c,t,hc,U,nR,qh⟩:=R.block hp hb;have mX:A ((c.toList.drop p.base).take (aC ps))=aC ps:=by simp;omega
   have r:=λq vs ps'=>R.storeAt (P:=P) hp hc U nR q vs ps';split at g
   ·rename_i fY;split at g
    ·rename_i q n hn;split at g
     ·rename_i M;simp only[No,aac] at M;have⟨M,y⟩:=M;have⟨ps',v,F⟩:=aaC.1 g;simp[aad,aj7] at F;subst F;obtain⟨H,l,rfl⟩:=S.oS;have jY:=l.length;have⟨u,L⟩:=tN v qh l;rw[mX] at L;have Pc:aC ps'=aC ps:=by have:=u.length;simp at this;omega
      have⟨w',f,T⟩:=r o H ps' (by omega) Pc (kF l y) (by rw[jY,M];exact u);refine⟨_,w',rfl,?_,T⟩;have W:(Value.agg ⟨H⟩).cells.size=n:=by show A H=n;omega
      unfold storeVar;rw[abe,cU hn w];simp[Result.andThen,W,ne_eq,not_true,if_false];exact f
     ·cases g
    ·cases g
   ·rename_i fY;split at g
    ·rename_i G;simp[No,afP] at G;have⟨⟨ps',q⟩,tC,F⟩:=aaC.1 g;simp[aad] at F;obtain⟨rfl,rfl⟩:=F;obtain⟨u,L⟩:=mB tC qh S;rw[mX] at L;have Pc:aC ps'=aC ps:=by have:=u.length;simp at this;omega
     have yf:s.cells.toList=[s]:=by have:=S.oO G.1;cases s<;>first|rfl|cases this
     obtain⟨w',f,T⟩:=r (o+i) [s] ps' (by simp;omega) Pc (λv hv=>by simp at hv;subst hv;exact S.oO G.1) (by rw[List.set_eq_take_append_cons_drop] at u;rw[ae8 (by rw[mX];exact L)] at u;simpa using u)
     refine⟨_,w',rfl,?_,T⟩;have W:s.cells.size=1:=by rw[<-aiv,yf];rfl
     unfold storeVar;rw[abe,cU G.2 w];simp[Result.andThen,W,ne_eq,not_true,if_false];rw[yf];exact f
    ·cases g
   ·cases g
  ·cases g
 ·rename_i b z Q o i;obtain⟨p,hp,rfl⟩:=ha;split at g
  ·rename_i D n gg hb;obtain⟨c,t,hc,U,nR,us,zs,V,k2,k3,k4⟩:=R.block hp hb;rw[PR] at k3;subst k3;rw[acj] at k4;have Fs:aC [SV.aF D n gg]=n*D:=by simp[aC,kf]
   have r:=λq vs ps'=>R.storeAt (P:=P) hp hc U nR q vs ps';rw[Fs] at r;rw[Fs] at k4 nR;rw[k4] at r;have N:Q<n->((us.drop (Q*D)).take D).length=D:=λhel=>by have:=aeK D (Nat.succ_le_of_lt hel);rw[Nat.succ_mul] at this;rw[afN,afj,V];omega
   split at g
   ·rename_i hz fY;obtain rfl:=acr hz;split at g
    ·rename_i q m hn;split at g
     ·rename_i M;simp only[No,aac] at M;obtain⟨⟨M,y⟩,mX⟩:=M;obtain⟨ps',v,F⟩:=aaC.1 g;simp only[aad,aac] at F;obtain⟨rfl,hel⟩:=F;obtain⟨H,l,rfl⟩:=S.oS;have jY:=l.length;obtain⟨u,L⟩:=tN v (k2 Q hel) (l.closed mX);rw[N hel] at L;rw[<-M, <-jY] at u;have K:=zB V k2 hel (by omega) u;have J:=(zA (vs:=H) (q:=o) V hel (by omega)).1;rw[V] at J;obtain⟨w',f,T⟩:=r (Q*D+o) H [SV.aF D n λi=>bF (Nat.beq i Q) ps' (gg i)] (by omega) (by simp[aC,kf]) (kF l y) (by rw[Nat.add_assoc] at K;simpa[Nat.add_assoc] using K);refine⟨_,w',rfl,?_,T⟩;have W:(Value.agg ⟨H⟩).cells.size=m:=by show H.length=m;omega
      unfold storeVar;rw[abe,cU hn w];simp only[Result.andThen,W,ne_eq,not_true,if_false];rw[ajf];exact f
     ·cases g
    ·cases g
   ·rename_i hz fY;obtain rfl:=acr hz;split at g
    ·rename_i G;simp only[No,afP] at G;obtain⟨⟨G,OC⟩,mX⟩:=G;obtain⟨⟨ps',q⟩,tC,F⟩:=aaC.1 g;simp only[aad,No,aac] at F;obtain⟨rfl,rfl,hel⟩:=F;obtain⟨u,L⟩:=mB tC (k2 Q hel) (S.closed mX);have ab:=L;rw[N hel] at L;have yf:s.cells.toList=[s]:=by have:=S.oO G;cases s<;>first|rfl|cases this
     rw[List.set_eq_take_append_cons_drop,ae8 ab] at u;have K:=zB (e:=e) (q:=o+i) (vs:=[s]) (ps':=ps') V k2 hel (by simp;omega) (by simpa using u);have J:=(zA (vs:=[s]) (q:=o+i) V hel (by simp;omega)).1;rw[V] at J;obtain⟨w',f,T⟩:=r (Q*D+(o+i)) [s] [SV.aF D n λj=>bF (Nat.beq j Q) ps' (gg j)] (by simpa using J) (by simp[aC,kf]) (λv hv=>by simp at hv;subst hv;exact S.oO G) K;refine⟨_,w',rfl,?_,T⟩;have W:s.cells.size=1:=by rw[<-aiv,yf];rfl
     unfold storeVar;rw[abe,cU OC w];simp only[Result.andThen,W,ne_eq,not_true,if_false];rw[yf];exact f
    ·cases g
   ·cases g
  ·cases g
 ·cases g
def oU(e:cw)(j:Nat)(p:Pl):cw:={e with r:=λi=>if i=j then E p else e.r i}
def kG{j:Nat}{p}(c:e.r j=Y):cw.Le e (oU e j p):=⟨λi b a=>by show(if i=j then E p else e.r i)=E b;rw[acB (λq=>by subst q;rw[c] at a;cases a)];exact a,λ_ _ h=>h,aar _⟩
def fc{j:Nat}{p}:(oU e j p).r j=E p:=ae8 rfl
def fP{j i:Nat}{p b}(hi:(oU e j p).r i=E b):(i≠j/\e.r i=E b)\/(i=j/\b=p):=by
 simp[oU] at hi;split at hi
 ·rename_i h;cases hi;exact .inr ⟨h,rfl⟩
 ·rename_i h;exact .inl ⟨h,hi⟩
def nS(h:List Blk)(j:Nat)(n:Nat):Prop:=j=A h\/∀i,i<n->h[j+i]?=E .gap
def BR.mono{e':cw}(a:cw.Le e e'){p ps}{o:Obj}(g:BR e p ps o):BR e' p ps o:=by have⟨c,t,b,f,i,d⟩:=g;exact⟨c,t,b,f,i,d.mono a⟩
def bM.drawn(R:bM B e h w)(d:Nat):bM B e h {w with drawn:=d}:=
 {os:=R.os,tape:=R.tape,output:=R.output,size:=R.size,inj:=R.inj,dom:=R.dom,gM:=R.gM,gN:=R.gN,bN:=R.bN,fU:=R.fU,cM:=R.cM,b6:=R.b6,cE:=R.cE,n0:=R.n0,dK:=R.dK,
  gr:=R.gr,gap:=R.gap,yi:=R.yi,yb:=R.yb,old:=R.old,lz:=R.lz,kr:=R.kr,iT:=R.iT,g7:=R.g7,jG:=R.jG}
def bM.cj(R:bM B e h w){j:Nat}(a:j=A h\/h[j]?=E .gap):e.r j=Y:=by
 rcases a with rfl|a
 ·cases b:e.r (A h) with
  |none=>rfl
  |some p=>have:=R.dom _ p b;omega
 ·exact(R.gap j _ a).1
def bM.new(R:bM B e h w){h':List Blk}{ps ys}{t:TypeId}{j:Nat}(S:PR e ps (ys.take (aC ps)))(D:aC ps<=A ys)
  (s:e.r j=Y)(h1:h'[j]?=E (.b ps))(h2:∀i,i≠j->h'[i]?=h[i]?)(L:A h<=A h'):
  bM B (oU e j ⟨w.heap.size,0,A ys⟩) h' (w.alloc (.cells ⟨ys⟩ t)):=by
 have a:∀n,n<w.heap.size->(w.alloc (.cells ⟨ys⟩ t)).heap[n]?=w.heap[n]? :=λn l=>heap_alloc_old w _ n l;exact{
  os:=R.os,tape:=R.tape,output:=R.output
  size:=by have:=R.size;rw[aiR];omega
  inj:=λi i' p q d H g=>by
   rcases fP d with⟨_,m⟩|⟨m,v⟩<;>rcases fP H with⟨_,u⟩|⟨u,G⟩
   ·exact R.inj i i' p q m u g
   ·have:=R.lt m;subst G;simp at g;omega
   ·have:=R.lt u;subst v;simp at g;omega
   ·omega
  dom:=λi p d=>by
   rcases fP d with⟨_,g⟩|⟨g,_⟩
   ·have:=R.dom i p g;omega
   ·subst g;exact(aaR.1 h1).1
  gM:=λi p d=>by
   rcases fP d with⟨_,g⟩|⟨_,g⟩
   ·exact R.gM i p g
   ·subst g;show e.z w.heap.size=Y;cases k:e.z w.heap.size with
    |none=>rfl
    |some x=>have:=R.ZP k;omega
  gN:=λn c N T M=>by rw[a n (R.ZP M)];exact R.gN n c N T M
  bN:=R.bN,fU:=R.fU
  cM:=λi p d=>by
   rcases fP d with⟨_,g⟩|⟨_,g⟩
   ·exact R.cM i p g
   ·subst g;exact .inr R.size
  b6:=λi p d=>(kG s).r i p (R.b6 i p d)
  cE:=R.cE,n0:=R.n0,dK:=R.dK
  gr:=λi qs d=>by
   by_cases f:i=j
   ·subst f
    rw[h1] at d
    cases d
    exact .inr ⟨⟨w.heap.size,0,A ys⟩,_,fc,heap_alloc_new w _,⟨ys⟩,t,rfl,by simp,D,by simpa using S.mono (kG s)⟩
   ·rw[h2 i f] at d
    rcases R.gr i qs d with⟨m,u⟩|⟨q,o,k,y,F⟩
    ·exact .inl ⟨m,by simp[oU];rw[acB f];exact u⟩
    ·exact .inr ⟨q,o,(kG s).r i q k,by rw[a q.n (R.lt k)];exact y,F.mono (kG s)⟩
  gap:=λi g d=>by
   by_cases f:i=j
   ·subst f;rw[h1] at d;cases d
   ·rw[h2 i f] at d
    refine⟨by simp[oU];rw[acB f];exact(R.gap i g d).1,(R.gap i g d).2.le (λn o l=>?_) rfl (kG s)⟩
    rw[a n (abE.1 l).1];exact l
  yi:=R.yi,yb:=R.yb
  old:=λn l K Q=>by rw[a n (by have:=R.size;omega)];exact R.old n l K Q
  lz:=λi q k=>by
   have⟨o,V,y,J,W⟩:=R.lz i q k
   exact⟨o,V,y,by rw[a q.n (R.lt (R.b6 i q k))];exact J,W⟩
  kr:=R.kr
  iT:=by have:=R.iT;omega
  g7:=λr U=>by
   have:=R.g7 r U
   rw[a r (abE.1 this.1).1];exact this
  jG:=R.jG}
def bM.make(R:bM B e h w){ps ys}{t:TypeId}{j:Nat}(n:nS h j 1)(m:PR e ps (ys.take (aC ps)))(d:aC ps<=A ys):
  bM B (oU e j ⟨w.heap.size,0,A ys⟩) (cO h j [.b ps]) (w.alloc (.cells ⟨ys⟩ t)):=by
 have k:=n.imp id λg=>by simpa using g 0 (by omega)
 have a:=R.cj k;unfold cO;by_cases c:j=A h
 ·rw[ae8 c];refine R.new m d a (by rw[c];simp) (λi l=>?_) (by simp);rcases agP .. with h1|h1
  ·rw[afy h1]
  ·rw[afE h1,afs h1,afs (by simp;omega)]
 ·rw[acB c];have o:=k.resolve_left c;have f:=(aaR.1 o).1;exact R.new m d a (acg f) (λi l=>abI (Ne.symm l)) (by simp[c8])
def bM.nothing(R:bM B e h w){ps}{j:Nat}(t:nS h j 1)(q:aC ps=0):bM B e (cO h j [.b ps]) w:=by
 have r:=t.imp id λg=>by simpa using g 0 (by omega)
 have k:=R.cj r;have m:∀n:List Blk,n[j]?=E (.b ps)->(∀i,i≠j->n[i]?=h[i]?)->A h<=A n->bM B e n w:=λh' f s x=>
  {os:=R.os,tape:=R.tape,output:=R.output,size:=R.size,inj:=R.inj,dom:=λi p a=>by have:=R.dom i p a;omega,gM:=R.gM,gN:=R.gN,bN:=R.bN,fU:=R.fU,cM:=R.cM,b6:=R.b6,cE:=R.cE,n0:=R.n0,dK:=R.dK,
   gr:=λi v a=>by
    by_cases c:i=j
    ·subst c;rw[f] at a;cases a;exact .inl ⟨q,k⟩
    ·rw[s i c] at a;exact R.gr i v a
   gap:=λi g a=>by
    by_cases c:i=j
    ·subst c;rw[f] at a;cases a
    ·rw[s i c] at a;exact R.gap i g a
   yi:=R.yi,yb:=R.yb,old:=R.old,lz:=R.lz,kr:=R.kr,iT:=by have:=R.iT;omega,g7:=R.g7,jG:=R.jG}
 unfold cO
 by_cases d:j=A h
 ·rw[ae8 d]
  refine m _ (by rw[d];simp) (λi a=>?_) (by simp)
  rcases agP .. with f|f
  ·rw[afy f]
  ·rw[afE f,afs f,afs (by simp;omega)]
 ·rw[acB d]
  have u:=r.resolve_left d
  have o:=(aaR.1 u).1
  exact m _ (acg o) (λi a=>abI (Ne.symm a)) (by simp[c8])
def UX(op:BinOp)(k:IntKind)(a b:Int) w v(T:TypeId) x y(h:Ff op k a k b=E (v,Z))(f:op≠.shl)(d:op≠.shr):
  ∃v',(do eqGuard op T x y (.int k a) (.int k b);binOp op T (.int k a) (.int k b):Sem Value).run P w=.ok v' w/\VR e v v':=by
 have c:(eqGuard op T x y (.int k a) (.int k b)).run P w=.ok () w:=by unfold eqGuard;split<;>simp
 rw[abe,c];simp[Result.andThen];cases op<;>simp[Ff] at h<;>first|contradiction|skip;all_goals(try(have⟨rfl,h⟩:=h));all_goals(try subst h);all_goals(simp[binOp,Op.intArith,Op.intBits,Op.intCmp,Op.intDiv,fj,qn,gJ,Lg,vb,VR, *,-Sem.run_bind])
def IT{op:BinOp}{k k':IntKind}{n m:Int}{v}(h:Ff op k n k' m=E (v,Z))(T:TypeId) x y w:
  ∃v',(do eqGuard op T x y (.int k n) (.int k' m);binOp op T (.int k n) (.int k' m):Sem Value).run P w=.ok v' w/\VR e v v':=by
 by_cases b:op=.shl
 ·subst b;simp[Ff,Mf,aad,aac] at h;have⟨rfl,h⟩:=h;refine⟨_,?_,rfl⟩;have:¬m<0:=by omega
  simp[eqGuard,binOp,Op.shift,this,jz]
 by_cases c:op=.shr
 ·subst c;simp[Ff,Mf,aad,aac] at h;have⟨rfl,h⟩:=h;refine⟨_,?_,rfl⟩
  have:¬m<0:=by omega
  simp[eqGuard,binOp,Op.shift,this,eF]
 have a:k=k':=by
  by_cases a:k=k'
  ·exact a
  ·cases op<;>simp[Ff,a] at h<;>contradiction
 subst a
 exact UX op k n m w v T x y h b c
def jb(k:IntKind)(xs:pD):Value:=.agg ⟨bB k xs⟩
def s5(P:Program)(t:TypeId)(k:IntKind)(l:pD):Value:=match jf P t with
 |some I=>.int k (X l 0 0)
 |_=>jb k l
def r6{e:TypeId}{k:IntKind}{m o:Nat}{l}(f:eG P e=E m)(c:(P.underlying e).isSome=Z)(g:(jf P e=E I->m=1))(h:o+m<=A l) w:
  (part e ⟨bB k l⟩ o).run P w=.ok (s5 P e k ((l.drop o).take m)) w:=by cases a:jf P e with
 |none=>simp[jf] at a;simp[a] at c
 |some b=>cases b with
  |true=>simp[part,n9 a,cU f,s5,a,jb,bB,List.extract_eq_take_drop,List.map_take,List.map_drop]
  |false=>
   have:=g a
   subst this
   have d:o<A l:=by omega
   simp[part,n9 a,s5,a,bB,aaQ d,List.getD]
def oV(d:Nat)(e:TypeId)(n:Nat)(xs ys:Array Value):Nat->Nat->Sem Bool
 |0,_=>pure Z
 |c+1,i=>do
  let a <-part e xs (i*n);let b <-part e ys (i*n);let r <-Op.equalIn d e a b;if(!r)=Z then pure I else oV d e n xs ys c (i+1)
def vg w(d:Nat)(t e:TypeId)(len n:Nat) xs ys(ht:P.underlying t=E (.array len e))(hs:eG P e=E n):
  (Op.equalIn (d+1) t (.agg xs) (.agg ys)).run P w=(oV d e n xs ys len 0).run P w:=by
 simp only[Op.equalIn,abe,abF ht,aaJ,cU hs,Std.Legacy.Range.forIn_eq_forIn_range'];have hz:Std.Legacy.Range.size [:len]=len:=by simp[Std.Legacy.Range.size]
 rw[hz];clear ht hz;generalize 0=i;induction len generalizing w i with
 |zero=>simp[oV]
 |succ len ih=>
  simp only[List.range'_succ,List.forIn_cons,oV,abe,Sem.run_ite];generalize (part ..).run P w=r1
  cases r1 with
  |ok a g=>
   simp only[aaJ]
   generalize (part ..).run P g=r2
   cases r2 with
   |ok b w2=>
    simp only[aaJ]
    generalize (Op.equalIn d e a b).run P w2=r3
    cases r3 with
    |ok r f=>
     cases r
     ·simp only[aaJ,aiW,akk,ach]
     ·simp only[aaJ,Bool.not_true,aii,if_false,ach]
      exact ih f (i+1)
    |halt x f=>simp[Result.andThen]
   |halt x w2=>simp[Result.andThen]
  |halt x g=>simp[Result.andThen]
def BL:∀{d:Nat}{t:TypeId}{k:IntKind}{n:Nat},nq P d t=E (k,n)->(P.underlying t).isSome=Z/\(jf P t=E I->n=1)
 |0,t,k,n,h=>by simp[nq] at h
 |d+1,t,k,n,h=>by
  unfold nq at h;split at h
  ·rename_i c a;cases h;exact⟨by simp[a],λ_=>rfl⟩
  ·rename_i a;exact⟨by simp[a],λhq=>by simp[jf,a] at hq⟩
  ·rename_i a;exact⟨by simp[a],λhq=>by simp[jf,a] at hq⟩
  ·cases h
def vh(l m:pD)(n:Nat):C (l=m)=(C (l.take n=m.take n)&&C (l.drop n=m.drop n)):=by
 rw[Bool.eq_iff_iff];simp[No,aac];constructor
 ·rintro rfl;exact⟨rfl,rfl⟩
 ·rintro⟨b,a⟩;rw[<-afA n l, <-afA n m,b,a]
def aji(P:Program)(d:Nat)(t:TypeId)(k:IntKind)(n:Nat):Prop:=
 ∀a,d<=a->∀l m,A l=n->A m=n->∀w,(Op.equalIn a t (s5 P t k l) (s5 P t k m)).run P w=.ok (C (l=m)) w
def vi{d d':Nat}{e:TypeId}{k:IntKind}{z:Nat}(s:d<=d')(j:eG P e=E z)(r:nq P d e=E (k,z))(n:aji P d e k z){l m}(g:A l=A m) w:∀c i,(i+c)*z=A l->
  (oV d' e z ⟨bB k l⟩ ⟨bB k m⟩ c i).run P w=.ok (C (l.drop (i*z)=m.drop (i*z))) w
 |0,i,h=>by have v:l.drop (i*z)=[]:=ahW (by simp at h;omega);have y:m.drop (i*z)=[]:=ahW (by simp at h;omega);simp[oV,v,y]
 |c+1,i,h=>by
  have⟨p,a⟩:=BL r;have b:i*z+z<=A l:=by rw[<-h,ags,ags];omega
  have f:(i+1)*z=i*z+z:=by rw[ags];omega
  have x:=r6 (k:=k) j p a b w;have t:=r6 (k:=k) j p a (l:=m) (o:=i*z) (by omega) w;have q:=n d' s ((l.drop (i*z)).take z) ((m.drop (i*z)).take z) (by simp;omega) (by simp;omega) w;have u:=vi s j r n g w c (i+1) (by rw[<-h];congr 1;omega);simp only[oV,abe,x,t,q,aaJ,Sem.run_ite,u,f];rw[vh (l.drop (i*z)) (m.drop (i*z)) z,afu,afu];cases C ((l.drop (i*z)).take z=(m.drop (i*z)).take z)<;>simp
def s6{d d':Nat}{k:IntKind}(s:d<=d')(v:∀(t:TypeId)(n:Nat),nq P d t=E (k,n)->aji P d t k n){l m}(j:A l=A m) w:∀fs(a:Nat)k',tO P (λt=>nq P d t) k a fs=E (k',A l)->
  k'=k/\a<=A l/\(Op.eqFields d' ⟨bB k l⟩ ⟨bB k m⟩ fs).run P w=.ok (C (l.drop a=m.drop a)) w
 | [],a,k',h=>by
  simp[tO,Mf,aad] at h;obtain⟨rfl,rfl⟩:=h;refine⟨rfl,aar _,?_⟩;have G:l.drop (A l)=[]:=ahW (aar _);have K:m.drop (A l)=[]:=ahW (by omega);simp[Op.eqFields,G,K]
 |f::fs,a,k',h=>by
  simp[tO] at h;split at h
  ·rename_i r z x;split at h
   ·rename_i J;have⟨rfl,c,g,u⟩:=J;have⟨i,D,H⟩:=s6 s v j w fs (a+z) k' h;have⟨p,b⟩:=BL x;have F:=r6 u p b (k:=r) (by omega) w;have y:=r6 u p b (l:=m) (o:=a) (k:=r) (by omega) w;have q:=v f.type z x d' s ((l.drop a).take z) ((m.drop a).take z) (by simp;omega) (by simp;omega) w;refine⟨i,by omega,?_⟩;simp only[Op.eqFields,c,ne_eq,not_false_eq_true,akk,g,abe,F,y,q,aaJ,Sem.run_ite,H];rw[vh (l.drop a) (m.drop a) z,afu,afu];cases C ((l.drop a).take z=(m.drop a).take z)<;>simp
   ·cases h
  ·cases h
def tS:∀d(t:TypeId)k(n:Nat),nq P d t=E (k,n)->aji P d t k n
 |0,t,k,n,h=>by simp[nq] at h
 |d+1,t,k,n,h=>by
  intro d' Q l m x G w;obtain⟨d',rfl⟩:∃e,d'=e+1:=⟨d'-1,by omega⟩;unfold nq at h;split at h
  ·rename_i N g;cases h;have j:jf P t=E I:=by simp[jf,g]
   match l,x,m,G with
   | [a],_,[b],_=>simp[s5,j,af2];rw[run_equalIn_int w d' t k k a b g];by_cases v:a=b<;>simp[v]
  ·rename_i p e g;have j:jf P t=E Z:=by simp[jf,g]
   split at h
   ·rename_i r z u;split at h
    ·rename_i s;simp[Mf,aad] at h;have⟨rfl,rfl⟩:=h;simp[s5,j,jb];rw[vg w d' t e p z _ _ g s];have:=vi (d':=d') (by omega) s u (tS d e r z u) (l:=l) (m:=m) (by omega) w p 0 (by simp[x]);simpa using this
    ·cases h
   ·cases h
  ·rename_i K g;have j:jf P t=E Z:=by simp[jf,g]
   split at h
   ·cases h
   ·rename_i D;split at h
    ·cases h
    ·rename_i f rest y;split at h
     ·rename_i r z u;split at h
      ·rename_i L;have⟨i,o,s⟩:=L;have F:P.fieldsOf t=K:=by simp[Program.fieldsOf,g]
       have J:tO P (λt=>nq P d t) r 0 (f::rest)=E (k,A l):=by simp[tO,u,o,s,i,ne_eq,not_false_eq_true,and_self,akk,af8];rw[h,x]
       have⟨H,_,q⟩:=s6 (d:=d) (d':=d') (by omega) (λt n M=>tS d t r n M) (l:=l) (m:=m) (by omega) w (f::rest) 0 k J;subst H;simp[s5,j,jb];rw[run_equalIn_struct w d' t _ _ (by rw[F];exact g) (by simpa using D),F,y,q];simp
      ·cases h
     ·cases h
  ·cases h
def nu{k:IntKind}:∀{ps}{l}{ys},zu k ps=E (l,Z)->PR e ps ys->ys=bB k l/\A l=aC ps
 | [],l,ys,h,g=>by
  simp[zu,Mf,aad,aj7] at h;subst h;rw[PR] at g;subst g;exact⟨rfl,rfl⟩
 |x::u,l,ys,h,g=>by
  unfold zu at h;split at h
  ·rename_i a;cases a
  ·rename_i s n v ps a;cases a;obtain⟨t,c,rfl⟩:=g;split at h
   ·rename_i f;subst f;split at h
    ·rename_i d;simp[Mf,aad,aac] at h;have⟨rfl,h⟩:=h;have:u=[]:=by simpa using d
     subst this;rw[PR] at c;subst c;exact⟨by rw[bV h,acj],by simp[aC,kf,h]⟩
    ·have⟨⟨r,q⟩,m,b⟩:=aaC.1 h;simp[aad,av,aac] at b;obtain⟨rfl,o,rfl⟩:=b;obtain⟨i,j⟩:=nu m c;exact⟨by rw[i,bV o,jC],by simp[aC,kf,o,j]⟩
   ·cases h
  ·rename_i s n ps a;cases a;obtain⟨y,t,p,c,rfl⟩:=(PR.cons rfl).1 g;rw[VR] at p;subst p;split at h
   ·rename_i f;subst f;obtain⟨⟨r,q⟩,m,b⟩:=aaC.1 h;simp[aad] at b;obtain⟨rfl,rfl⟩:=b;obtain⟨i,j⟩:=nu m c;exact⟨by rw[i];rfl,by simp[aC,kf,j];omega⟩
   ·cases h
  ·cases h
def vj{op:BinOp}{b:Bool}{v}(h:gL op b=E v):(op=.eql/\v=.bool b)\/(op=.neq/\v=.bool !b):=by
 unfold gL at h;split at h
 ·cases h;exact .inl ⟨rfl,rfl⟩
 ·cases h;exact .inr ⟨rfl,rfl⟩
 ·cases h
def jQ{op:BinOp}{T:TypeId}{b:Bool}{v a' b' x y}(h:gL op b=E v)(d:(eqGuard op T x y a' b').run P w=.ok () w)
  (c:∀a,a=.eql\/a=.neq->binOp a T a' b'=(match a with| .eql=>do pure (.bool (<-Op.equal T a' b'))|_=>do pure (.bool (!(<-Op.equal T a' b'))):Sem Value))
  (f:(Op.equal T a' b').run P w=.ok b w):∃v',(do eqGuard op T x y a' b';binOp op T a' b':Sem Value).run P w=.ok v' w/\VR e v v':=by
 rcases vj h with⟨rfl,rfl⟩|⟨rfl,rfl⟩
 ·refine⟨_,?_,rfl⟩;rw[abe,d,aaJ,c _ (.inl rfl)];simp[f]
 ·refine⟨_,?_,rfl⟩;rw[abe,d,aaJ,c _ (.inr rfl)];simp[f]
end
section
variable {P:Program} {e:cw} {w:World}
def aby{s t}:(kQ s=kQ t)↔s=t:=by
 constructor
 ·intro h;have j:s.data.toList=t.data.toList:=by
   unfold kQ at h;have f:∀(a b:List UInt8),(a.map λx=>(x.toNat:Int))=(b.map λx=>(x.toNat:Int))->a=b:=by
    intro a
    induction a with
    |nil=>intro b d;cases b<;>simp_all
    |cons x l i=>
     intro b d
     cases b with
     |nil=>simp at d
     |cons y k=>
      simp[agr,aiT] at d
      have g:x=y:=UInt8.toNat.inj (by omega)
      rw[g,i k d.2]
   exact f _ _ h
  cases s;cases t
  congr
  exact aiD j
 ·rintro rfl;rfl
def Pd{d:Nat}{T:TypeId}{a b:Bool}(c:P.underlying T=E .bool):(Op.equalIn (d+1) T (.bool a) (.bool b)).run P w=.ok (a==b) w:=by simp[Op.equalIn,abF c]
def UY{d:Nat}{T el:TypeId}{a}(b:P.underlying T=E (.pointer el)):(Op.equalIn (d+1) T (.pointer (E a)) (.pointer Y)).run P w=.ok I w:=by simp[Op.equalIn,abF b]
def Fu{d:Nat}{T el:TypeId}(a:P.underlying T=E (.pointer el)):(Op.equalIn (d+1) T (.pointer Y) (.pointer Y)).run P w=.ok Z w:=by simp[Op.equalIn,abF a]
def BM{d:Nat}{T:TypeId}{ms}(a:P.underlying T=E (.interface ms)):(Op.equalIn (d+1) T .nilIface .nilIface).run P w=.ok Z w:=by simp[Op.equalIn,abF a]
def Pe{d:Nat}{T t:TypeId}{v ms}(a:P.underlying T=E (.interface ms)):(Op.equalIn (d+1) T (.iface t v) .nilIface).run P w=.ok I w:=by simp[Op.equalIn,abF a]
def Pf{d:Nat}{T t:TypeId}{v ms}(a:P.underlying T=E (.interface ms)):(Op.equalIn (d+1) T .nilIface (.iface t v)).run P w=.ok I w:=by simp[Op.equalIn,abF a]
def Pg{d:Nat}{T t:TypeId}{k k0:IntKind}{a b:Int}{ms i}(g:P.underlying T=E (.interface ms))(j:P.underlying t=E (.int k0))(hi:P.info? t=E i)(c:i.comparable=Z):
  (Op.equalIn (d+1+1) T (.iface t (.int k a)) (.iface t (.int k b))).run P w=.ok (a==b) w:=by
 have f:(Op.equalIn (d+1) t (.int k a) (.int k b)).run P w=.ok (a==b) w:=by simp[Op.equalIn,abF j]
 rw[Op.equalIn];simp[abF g,typeInfo,hi,c,f]
def mG{d:Nat}{T el:TypeId}{a}{n c:Nat}(b:P.underlying T=E (.slice el)):(Op.equalIn (d+1) T (.slice a n c) (.slice Y 0 0)).run P w=.ok a.isNone w:=by cases a<;>simp[Op.equalIn,abF b]
def Ph{op}{T:TypeId}{x y a b v S b'}(h:eqS P op T x y a b=E (v,Z))(F:VR e a S)(D:VR e b b'):
  ∃v',(do eqGuard op T x y S b';binOp op T S b':Sem Value).run P w=.ok v' w/\VR e v v':=by
 unfold eqS at h;split at h
 ·
  split at h
  ·cases h
  ·rename_i G;split at h
   ·rename_i k n hf;split at h
    ·rename_i l p m q hl hm;split at h
     ·rename_i hn;have⟨u,r,f⟩:=aaC.1 h;simp[aad,av] at f;obtain⟨rfl,rfl,rfl⟩:=f;obtain⟨ys,R,rfl⟩:=F.oS;obtain⟨zs,V,rfl⟩:=D.oS;obtain⟨rfl,Bh⟩:=nu hl R;obtain⟨rfl,ab⟩:=nu hm V;simp[agV,afP,not_or,aj2] at G;refine jQ r (run_eqGuard_agg w op T x y ⟨bB k l⟩ ⟨bB k m⟩ G.1) (λop' g=>by rcases g with rfl|rfl<;>rfl) ?_;have:=tS 20 T k n hf 10000 (by omega) l m (by omega) (by omega) w;have W:∀z,s5 ..=jb k z:=λz=>by
       unfold s5;split
       ·rename_i H;exact absurd H G.2
       ·rfl
      rwa [W,W] at this
     ·cases h
    ·cases h
   ·cases h
 ·
  rw[VR] at F D;subst F D;split at h
  ·rename_i r;have⟨u,j,f⟩:=aaC.1 h;simp[aad,aj7] at f;subst f;exact jQ j (by unfold eqGuard;split<;>simp) (λop' g=>by rcases g with rfl|rfl<;>rfl) (Pd r)
  ·cases h
 ·
  obtain⟨s,rfl,rfl⟩:=F;obtain⟨t,rfl,rfl⟩:=D;have⟨u,j,f⟩:=aaC.1 h;simp[aad,aj7] at f;subst f;have G:(eqGuard op T x y (.string s) (.string t)).run P w=.ok () w:=by unfold eqGuard;split<;>simp
  have hd:C (kQ s=kQ t)=(s.toList==t.toList):=by
   rw[Bool.eq_iff_iff,aac,aby,afP];constructor
   ·rintro rfl;rfl
   ·intro h;rw[ByteArray.toList_eq,ByteArray.toList_eq] at h;cases s;cases t;congr;exact aiD h
  rcases vj j with⟨rfl,rfl⟩|⟨rfl,rfl⟩
  ·exact⟨_,by rw[abe,G,aaJ];rfl,by rw[hd];rfl⟩
  ·exact⟨_,by rw[abe,G,aaJ];rfl,by rw[hd];rfl⟩
 ·
  obtain⟨p,_,rfl⟩:=F;rw[VR] at D;subst D;split at h
  ·rename_i r;obtain⟨u,j,f⟩:=aaC.1 h;simp[aad,aj7] at f;subst f;exact jQ j (by unfold eqGuard;split<;>simp) (λop' g=>by rcases g with rfl|rfl<;>rfl) (UY r)
  ·cases h
 ·rw[VR] at F D;subst F D;split at h
  ·rename_i r;obtain⟨u,j,f⟩:=aaC.1 h;simp[aad,aj7] at f;subst f;exact jQ j (by unfold eqGuard;split<;>simp) (λop' g=>by rcases g with rfl|rfl<;>rfl) (Fu r)
  ·cases h
 ·
  rw[VR] at F D;subst F D;have G:∀z,(x=.const z\/y=.const z)->(eqGuard op T x y .nilIface .nilIface).run P w=.ok () w:=λz M=>by unfold eqGuard;rcases M with rfl|rfl<;>split<;>simp
  split at h
  ·rename_i r;obtain⟨u,j,f⟩:=aaC.1 h;simp[aad,aj7] at f;subst f;exact jQ j (G _ (.inl rfl)) (λop' g=>by rcases g with rfl|rfl<;>rfl) (BM r)
  ·rename_i r _;obtain⟨u,j,f⟩:=aaC.1 h;simp[aad,aj7] at f;subst f;exact jQ j (G _ (.inr rfl)) (λop' g=>by rcases g with rfl|rfl<;>rfl) (BM r)
  ·cases h
 ·obtain⟨z,_,rfl⟩:=F;rw[VR] at D;subst D;split at h
  ·rename_i r;obtain⟨u,j,f⟩:=aaC.1 h;simp[aad,aj7] at f;subst f;exact jQ j (by unfold eqGuard;split<;>simp) (λop' g=>by rcases g with rfl|rfl<;>rfl) (Pe r)
  ·cases h
 ·obtain⟨z,_,rfl⟩:=D;rw[VR] at F;subst F;split at h
  ·rename_i r;obtain⟨u,j,f⟩:=aaC.1 h;simp[aad,aj7] at f;subst f;exact jQ j (by unfold eqGuard;split<;>simp) (λop' g=>by rcases g with rfl|rfl<;>rfl) (Pf r)
  ·cases h
 ·rename_i t k a t' k' b;obtain⟨z,M,rfl⟩:=F;obtain⟨z',nI,rfl⟩:=D;rw[VR] at M nI;subst M nI;split at h
  ·rename_i r QW;split at h
   ·rename_i L;split at h
    ·rename_i Q;obtain⟨rfl,rfl⟩:=Q;obtain⟨u,j,f⟩:=aaC.1 h;simp[aad,aj7] at f;subst f;obtain⟨i,hi,U⟩:=aaC.1 L;exact jQ j (by unfold eqGuard;split<;>simp) (λop' g=>by rcases g with rfl|rfl<;>rfl) (Pg r QW hi U)
    ·cases h
   ·cases h
  ·cases h
 ·
  rw[VR] at D;subst D;split at h
  ·rename_i r;obtain⟨u,j,f⟩:=aaC.1 h;simp[aad,aac] at f;obtain⟨rfl,J⟩:=f;rcases F with⟨H,_⟩|⟨n,o,cap,c,t,fr,rfl,_⟩
   ·rw[H] at J;simp at J
   ·exact jQ j (by unfold eqGuard;split<;>simp) (λop' g=>by rcases g with rfl|rfl<;>rfl) (mG r)
  ·cases h
 ·rw[VR] at D;subst D;split at h
  ·rename_i r;obtain⟨u,j,f⟩:=aaC.1 h;simp[aad,aac] at f;obtain⟨rfl,J⟩:=f;rcases F with⟨H,_⟩|⟨p,K,a,_,rfl,_⟩
   ·rw[H] at J;omega
   ·exact jQ j (by unfold eqGuard;split<;>simp) (λop' g=>by rcases g with rfl|rfl<;>rfl) (mG r)
  ·cases h
 ·rw[VR] at F D;subst F D;split at h
  ·rename_i r;obtain⟨u,j,f⟩:=aaC.1 h;simp[aad,aj7] at f;subst f;exact jQ j (by unfold eqGuard;split<;>simp) (λop' g=>by rcases g with rfl|rfl<;>rfl) (mG r)
  ·cases h
 ·rw[VR] at D;subst D;split at h
  ·rename_i r;obtain⟨u,j,f⟩:=aaC.1 h;simp[aad,aac] at f;obtain⟨rfl,J⟩:=f;rcases F with⟨H,_⟩|⟨n,o,cap,c,t,fr,rfl,_⟩
   ·omega
   ·exact jQ j (by unfold eqGuard;split<;>simp) (λop' g=>by rcases g with rfl|rfl<;>rfl) (mG r)
  ·cases h
 ·rw[VR] at D;subst D;split at h
  ·rename_i r;obtain⟨u,j,f⟩:=aaC.1 h;simp[aad,aac] at f;obtain⟨rfl,J⟩:=f;rcases F with⟨H,_⟩|⟨p,K,a,_,rfl,_⟩
   ·omega
   ·exact jQ j (by unfold eqGuard;split<;>simp) (λop' g=>by rcases g with rfl|rfl<;>rfl) (mG r)
  ·cases h
 ·cases h
def Pj{op a v a'}(h:unS op a=E v)(b:VR e a a'):∃v',(Op.unary op a').run P w=.ok v' w/\VR e v v':=by
 unfold unS at h;split at h
 ·cases h;rw[VR] at b;subst b;exact⟨_,by simp[Op.unary,Op.intArith],rfl⟩
 ·cases h;rw[VR] at b;subst b;exact⟨_,by simp[Op.unary,Op.intBits,gJ,vb],rfl⟩
 ·cases h;rw[VR] at b;subst b;exact⟨_,by simp[Op.unary],rfl⟩
 ·cases h
def xI{src dst:TypeId}{a v f}(h:Li P src dst a=E v)(c:VR e a f):∃v',(convert src dst f).run P w=.ok v' w/\VR e v v':=by
 unfold Li at h;split at h
 ·rename_i k n;rw[VR] at c;subst c;split at h
  ·rename_i s g b d;cases h;refine⟨_,?_,rfl⟩;simp[convert,abF b,abF d,Conv.intToInt]
  ·cases h
 ·rename_i i;obtain⟨s,rfl,rfl⟩:=c;split at h
  ·rename_i b d;cases h;exact⟨_,by simp[convert,abF b,abF d],s,rfl,rfl⟩
  ·cases h
 ·cases h
def qQ{t:TypeId}{ps ys}{o i:Nat}{v}(h:Fh P t ps o i=E (v,Z))(d:PR e ps ys):
  ∃v',(part t ⟨ys⟩ (o+i)).run P w=.ok v' w/\VR e v v':=by
 unfold Fh at h;split at h
 ·rename_i b;split at h
  ·rename_i n j;have⟨q,g,f⟩:=aaC.1 h;simp[aad,aj7] at f;subst f;have⟨l,m⟩:=tM g d;exact⟨.agg ⟨(ys.drop o).take n⟩,by simp[part,n9 b,cU j,List.extract_eq_take_drop],_,l,rfl⟩
  ·cases h
 ·rename_i b;have⟨y,c,k⟩:=ia h d;refine⟨y,?_,k⟩;simp[part,abe,n9 b,aaJ];have a:=(aaR.1 c).1;have:=(aaR.1 c).2;simp[a,this]
 ·cases h
def Df{t:TypeId}{i:Nat}{a v d}(h:IM P t i a=E (v,Z))(k:VR e a d):∃v',(Instr.field t d i).run P w=.ok v' w/\VR e v v':=by
 unfold IM at h;split at h
 ·rename_i p;obtain⟨o,c,rfl⟩:=k.oS;split at h
  ·rename_i g j;split at h
   ·rename_i f l;have⟨v',n,m⟩:=qQ (w:=w) h c;refine⟨v',?_,m⟩;have b:g[i]?=E f:=by simpa using l
    simp[Instr.field,abe,abF j,aaJ,b];simpa[asAgg] using n
   ·cases h
  ·cases h
 ·cases h
def mH{a f}{z:Nat}(b:eG P f.type=E (z+1)):(fieldPlace a f).run P w=.ok (a.add f.offset) w:=by simp[fieldPlace,cU b]
def wO{t:TypeId}{i:Nat}{a v u}(h:tP P t i a=E v)(r:VR e a u):∃v',(Instr.fieldAt t u i).run P w=.ok v' w/\VR e v v':=by
 unfold tP at h;split at h
 ·rename_i F q;split at h
  ·rename_i f H;have g:F[i]?=E f:=by simpa using H
   split at h
   ·rename_i z s;split at h
    ·rename_i b o j;cases h;obtain⟨p,m,rfl⟩:=r;refine⟨.pointer (E ⟨p.n,p.base+(o+f.offset+j),Y⟩),?_,p,m,rfl⟩;simp[Instr.fieldAt,abe,abF q,aaJ,g,Instr.sureAddr,ach,mH s,fX];rw[show p.base+(o+j)+f.offset=p.base+(o+f.offset+j) by omega]
    ·rename_i L k D c d o j;cases h;obtain⟨n,l,c,y,x,rfl,J,K,G⟩:=r;refine⟨.pointer (E ⟨n,l+d*k+(o+f.offset+j),Y⟩),?_,n,l,c,y,x,rfl,J,K,G⟩;simp[Instr.fieldAt,abe,abF q,aaJ,g,Instr.sureAddr,ach,mH s,fX];rw[show l+d*k+(o+j)+f.offset=l+d*k+(o+f.offset+j) by omega]
    ·rename_i b k d o j;cases h;obtain⟨p,m,rfl⟩:=r;refine⟨.pointer (E ⟨p.n,p.base+(d*k+(o+f.offset+j)),Y⟩),?_,p,m,rfl⟩;simp[Instr.fieldAt,abe,abF q,aaJ,g,Instr.sureAddr,ach,mH s,fX];rw[show p.base+(d*k+(o+j))+f.offset=p.base+(d*k+(o+f.offset+j)) by omega]
    ·cases h
   ·cases h
  ·cases h
 ·cases h
def kH{i:Int}{n:Nat}:bC i n=Z↔0<=i/\i<n:=by simp[bC]
def VR.UZ{b o i z len cap:Nat}{ex wh:Bool}{a'}{ix:Int}(g:VR e (.sl b o i z len cap ex wh) a')(f:bC ix len=Z):
  ∃p c,e.r b=E p/\a'=.slice (E ⟨p.n,p.base+(o+i*z),Y⟩) len c:=by
 rw[kH] at f;rcases g with⟨d,_⟩|⟨p,c,a,k,d,j,_,_,l,_⟩
 ·omega
 ·have:=j (by omega);subst this;exact⟨p,c,k,d⟩
def fQ{t el:TypeId}{n len cap:Nat}{x}{k:IntKind}{ix:Int}{z:Nat}(d:P.underlying t=E (.slice el))(f:eG P el=E z)(a:bC ix len=Z)(b:x=⟨n,x.off,Y⟩):
  (Instr.indexAt t (.slice (E x) len cap) (.int k ix)).run P w=.ok (.pointer (E ⟨n,x.off+O ix*z,Y⟩)) w:=by
 rw[kH] at a;have c:x.add (O ix*z)=⟨n,x.off+O ix*z,Y⟩:=by have:=fX n x.off (O ix*z);rwa [<-b] at this
 simp[Instr.indexAt,asIntOf,abF d,a,cU f,c]
def fR{t el:TypeId}{n len o:Nat}{k:IntKind}{ix:Int}{z:Nat}(b:P.underlying t=E (.array len el))(c:eG P el=E z)(a:bC ix len=Z):
  (Instr.indexAt t (.pointer (E ⟨n,o,Y⟩)) (.int k ix)).run P w=.ok (.pointer (E ⟨n,o+O ix*z,Y⟩)) w:=by rw[kH] at a;simp[Instr.indexAt,asIntOf,abF b,a,cU c,fX,Instr.sureAddr]
def wP{t:TypeId}{a ix v R N}(h:tQ P t a ix=E (v,Z))(x:VR e a R)(hi:VR e ix N):
  ∃v',(Instr.indexAt t R N).run P w=.ok v' w/\VR e v v':=by
 unfold tQ at h;split at h
 ·rename_i k i;rw[VR] at hi;subst hi;split at h
  ·rename_i s H b o j r;obtain⟨p,u,rfl⟩:=x;split at h
   ·rename_i q;simp[Mf,aad] at h;have⟨rfl,d⟩:=h;exact⟨_,fR r q d,p,u,by congr 3;omega⟩
   ·rename_i n _ q;simp[Mf,aad] at h;have⟨rfl,d⟩:=h;exact⟨_,fR r q d,p,u,by congr 3;omega⟩
   ·cases h
  ·rename_i s H f z l c e0 o j r;obtain⟨n,U,c,L,K,rfl,G,J,Q⟩:=x;split at h
   ·rename_i q;simp[Mf,aad] at h;have⟨rfl,d⟩:=h;exact⟨_,fR r q d,n,U,c,L,K,by congr 3;omega,G,J,Q⟩
   ·rename_i m _ q;simp[Mf,aad] at h;have⟨rfl,d⟩:=h;exact⟨_,fR r q d,n,U,c,L,K,by congr 3;omega,G,J,Q⟩
   ·cases h
  ·rename_i s H b z e0 o j r;obtain⟨p,u,rfl⟩:=x;split at h
   ·rename_i q;simp[Mf,aad] at h;obtain⟨rfl,d⟩:=h;exact⟨_,fR r q d,p,u,by congr 3;omega⟩
   ·rename_i m _ q;simp[Mf,aad] at h;obtain⟨rfl,d⟩:=h;exact⟨_,fR r q d,p,u,by congr 3;omega⟩
   ·cases h
  ·rename_i s H g j r;rw[VR] at x;subst x;split at h
   ·rename_i q;simp[Mf,aad] at h;obtain⟨rfl,d⟩:=h;exact⟨_,fR r q d,by rw[VR];congr 3;omega⟩
   ·cases h
  ·rename_i H b z s cap S r;split at h
   ·rename_i T q;split at h
    ·rename_i D;subst D;simp[Mf,aad] at h;obtain⟨rfl,d⟩:=h;have y:=kH.1 d;rcases x with⟨M,_⟩|⟨p,F,a,u,rfl,G,_,_,J,_⟩
     ·omega
     ·have:=G (by omega);subst this;exact⟨_,fQ r q d rfl,p,u,by simp⟩
    ·cases h
   ·cases h
  ·rename_i H b o j s cap S wh r;split at h
   ·rename_i q;split at h
    ·simp[Mf,aad] at h;obtain⟨rfl,d⟩:=h;obtain⟨p,F,u,rfl⟩:=x.UZ d;exact⟨_,fQ r q d rfl,p,u,by simp only[];congr 3;omega⟩
    ·simp[Mf,aad] at h;obtain⟨rfl,d⟩:=h;obtain⟨p,F,u,rfl⟩:=x.UZ d;exact⟨_,fQ r q d rfl,p,u,by simp only[];congr 3;omega⟩
   ·cases h
  ·rename_i H b o j z s cap S wh ab r;split at h
   ·rename_i n q;split at h
    ·rename_i D;subst D;simp only[Mf,aad] at h;obtain⟨rfl,d⟩:=h;obtain⟨p,F,u,rfl⟩:=x.UZ d;refine⟨_,fQ r q d rfl,p,u,?_⟩;simp only[];congr 3;rw[ags];omega
    ·cases h
   ·cases h
  ·rename_i H f k' xs r;split at h
   ·rename_i q;simp only[Mf,aad] at h;obtain⟨rfl,d⟩:=h;have y:=kH.1 d;rcases x with⟨M,_⟩|⟨n,o,cap,c,L,K,rfl,G,_,J,_⟩
    ·subst M;simp at y;omega
    ·exact⟨_,fQ r q d rfl,n,o,c,L,K,by simp,G,J⟩
   ·cases h
  ·rename_i H f V r;split at h
   ·rename_i q;simp only[Mf,aad] at h;obtain⟨rfl,d⟩:=h;have y:=kH.1 d;rcases x with⟨M,_⟩|⟨n,o,cap,c,L,K,rfl,G,_,J,_⟩
    ·subst M;simp at y;omega
    ·exact⟨_,fQ r q d rfl,n,o,c,L,K,by simp,G,J⟩
   ·cases h
  ·rename_i H f z s g r;split at h
   ·rename_i T q;split at h
    ·rename_i D;subst D;simp only[Mf,aad] at h;obtain⟨rfl,d⟩:=h;have y:=kH.1 d;rcases x with⟨M,_⟩|⟨n,o,cap,c,L,K,rfl,G,_,J,Q,h5⟩
     ·omega
     ·have W:=aeK T Q;exact⟨_,fQ r q d rfl,n,o,c,L,K,by simp,G,J,by omega⟩
    ·cases h
   ·cases h
  ·cases h
 ·cases h
def Dg{t:TypeId}{a ix v x j}(h:IN P t a ix=E (v,Z))(D:VR e a x)(hi:VR e ix j):∃v',(Instr.index t x j).run P w=.ok v' w/\VR e v v':=by
 unfold IN at h;split at h
 ·rename_i k i N;rw[VR] at hi;subst hi;obtain⟨K,c,rfl⟩:=D.oS;split at h
  ·rename_i H u l;split at h
   ·rename_i L z q;have⟨⟨y,F⟩,f,g⟩:=aaC.1 h;simp[aad,No] at g;obtain⟨rfl,rfl,b⟩:=g;rw[kH] at b;have G:jf P u=E I:=by simp[jf,oa z]
    have⟨v',p,m⟩:=qQ (P:=P) (w:=w) (t:=u) (o:=0) (i:=O i) (v:=y) (by simp[Fh,G];exact f) c;refine⟨v',?_,m⟩;simp[Instr.index,asIntOf,abF l,b,cU q];simpa using p
   ·rename_i n z q;obtain⟨⟨y,F⟩,f,g⟩:=aaC.1 h;simp[aad,No] at g;obtain⟨rfl,rfl,b⟩:=g;rw[kH] at b;obtain⟨v',p,m⟩:=qQ (w:=w) f c;refine⟨v',?_,m⟩;simp[Instr.index,asIntOf,abF l,b,cU q];simpa using p
   ·cases h
  ·cases h
 ·rename_i k i M;rw[VR] at hi;subst hi;obtain⟨s,rfl,rfl⟩:=D;split at h
  ·rename_i l;simp only[Mf,aad] at h;obtain⟨rfl,b⟩:=h;rw[kH] at b;have r:A (kQ s)=s.size:=by unfold kQ;rw[List.length_map,aiv];rfl
   have d:O i<s.size:=by omega
   refine⟨.int .u8 (s[O i]).toNat,?_,?_⟩
   ·have f:(if 0<=i then s[O i]? else Y)=E (s[i.toNat]):=by rw[ae8 b.1,getElem?_pos s i.toNat d]
    unfold Instr.index;rw[abe,show(asIntOf (.int k i):Sem (IntKind×Int))=pure (k,i) from rfl,ach,aaJ];simp only[];rw[abe,abF l,aaJ];simp only[f];rfl
   ·have J:i.toNat<A s.data.toList:=by simpa using d
    have:X (kQ s) i.toNat 0=((s[i.toNat]).toNat:Int):=by rw[kQ,List.getD,afr,aaQ J];rfl
    rw[this];rfl
  ·cases h
 ·cases h
end
section
variable {P:Program} {e:cw} {B:dj} {h:List Blk} {w:World}
def VP(e:cw):List (Nat×SV)->List (Nat×Value)->Prop
 | [],a=>a=[]
 |(i,x)::c,a=>∃y b,VR e x y/\VP e c b/\a=(i,y)::b
def vk(o:Nat):∀l(i:Nat)(cs:Array Value),o+i+A l<=cs.size->
  ((l.zipIdx i).foldl (λcs (x:Value×Nat)=>cs.setIfInBounds (o+x.2) x.1) cs).toList=cs.toList.take (o+i)++l++cs.toList.drop (o+i+A l)
 | [],i,cs,_=>by simp
 |x::l,i,cs,a=>by simp[agM] at a;simp[List.zipIdx_cons,List.foldl_cons];rw[vk o l (i+1) _ (by simp;omega)];have q:=list_seg_step cs.toList (o+i) x l (by simp;omega);simpa[Array.toList_setIfInBounds,Nat.add_assoc] using q
def VR.cellsOf{v v'}(b:VR e v v')(a:one v=Z):v'.cells= #[v']:=by have:=b.oO a;cases v'<;>first|rfl|cases this
def Dh{ps j}{o n:Nat}{v v'}{cs:Array Value}(a:IK ps o n v=E (j,Z))(g:PR e ps cs.toList)(i:VR e v v'):
  v'.cells.size=n/\o+n<=cs.size/\PR e j (cs.toList.take o++v'.cells.toList++cs.toList.drop (o+n)):=by
 unfold IK at a;split at a
 ·rename_i q;split at a
  ·rename_i s;have⟨m,l,k⟩:=aaC.1 a;simp[aad,aj7] at k;subst k;obtain⟨r,f,rfl⟩:=i.oS;have⟨b,d⟩:=tN l g f;have:=f.length;exact⟨by show A r=n;omega,by simpa using d,b⟩
  ·cases a
 ·split at a
  ·rename_i c;simp[No,aac] at c;obtain⟨rfl,p⟩:=c;obtain⟨b,d⟩:=mB a g i;rw[ajf] at b d;have c:=i.cellsOf p;refine⟨by rw[c];rfl,by simp at d;omega,?_⟩;rw[c];rw[List.set_eq_take_append_cons_drop,ae8 d] at b;simpa using b
  ·cases a
def qR{c}:∀{parts}{a}{ps f}{cs},BI c ps parts=E (f,Z)->PR e ps cs.toList->VP e parts a->
  ∃b,Instr.fill c cs a=E b/\PR e f b.toList/\b.size=cs.size
 | [],a,ps,f,cs,d,g,j=>by
  rw[VP] at j;subst j;simp[BI,Mf,aad,aj7] at d;subst d;exact⟨cs,rfl,g,rfl⟩
 |(i,x)::parts,_,ps,f,cs,d,g,⟨y,K,u,D,q⟩=>by
  subst q;simp[BI] at d;split at d
  ·rename_i o n v;split at d
   ·rename_i r J m;have⟨⟨H,G⟩,z,k⟩:=aaC.1 d;simp[aad,av] at k;obtain⟨rfl,rfl,rfl⟩:=k;have⟨l,L,p⟩:=Dh m g u;have e1:(y.cells.zipIdx.foldl (λcs (x:Value×Nat)=>cs.setIfInBounds (o+x.2) x.1) cs).toList=cs.toList.take o++y.cells.toList++cs.toList.drop (o+n):=by rw[<-Array.foldl_toList,Array.toList_zipIdx];have:=vk o y.cells.toList 0 cs (by simp;omega);rw[this];simp[l]
    have⟨b,t,F,s⟩:=qR z (cs:=y.cells.zipIdx.foldl (λcs (x:Value×Nat)=>cs.setIfInBounds (o+x.2) x.1) cs) (by rw[e1];exact p) D;refine⟨b,?_,F,?_⟩
    ·simp only[Instr.fill,v];rw[acB (by rw[l];simp;omega)];exact t
    ·rw[s, <-aiv,e1];simp;omega
   ·cases d
  ·cases d
def wT{t ps}(a:nk P t=E ps):∃z,gw P t=E z/\z.cells.size=aC ps:=by have⟨z,c,b⟩:=jo (e:=⟨λ_=>Y,λ_=>Y,0,[],λ_=>Y⟩) a;exact⟨z,c,by simpa using b.length⟩
def Di{t parts a v}(l:IL P t parts=E (v,Z))(F:VP e parts a):
  ∃v',(Instr.build t a.toArray).run P w=.ok v' w/\VR e v v':=by
 unfold IL at l;split at l
 ·rename_i z m G c;have⟨⟨L,M⟩,x,s⟩:=aaC.1 l;simp[aad] at s;obtain⟨rfl,rfl⟩:=s;have⟨y,k,D⟩:=jo (e:=e) G;have⟨b,r,H,_⟩:=qR x D F;have⟨f,g,d⟩:∃f,P.info? t=E f/\f.zero=E y:=by unfold gw at k;cases q:P.info? t with
   |none=>simp[q] at k
   |some f=>simp[q] at k;exact⟨f,rfl,k⟩
  refine⟨.agg b,run_build w t a.toArray b ?_,b.toList,H,rfl⟩
  unfold Program.built
  unfold Fg at c
  split at c
  ·rename_i n K o
   obtain⟨J,p,rfl⟩:=aaC.1 c
   simp[g,o,d,p]
   simpa using r
  ·rename_i i o
   obtain⟨j,u,rfl⟩:=aaC.1 c
   simp[g,o,d,u]
   simpa using r
  ·cases c
 ·cases l
def PR.replicate{zs ys}(g:PR e zs ys):∀n,PR e (t9 n zs).flatten (t9 n ys).flatten
 |0=>rfl
 |n+1=>by rw[List.replicate_succ,List.flatten_cons,List.replicate_succ,List.flatten_cons];exact g.append (PR.replicate g n)
def IU(c:Array Value)(b:0<c.size):∀n,((Array.range (n*c.size)).map λi=>c[i%c.size]!).toList=(t9 n c.toList).flatten
 |0=>by simp
 |n+1=>by
  rw[List.replicate_succ',List.flatten_append, <-IU c b n];simp[List.flatten_cons,List.flatten_nil,acj,Array.toList_map,Array.toList_range];rw[Nat.succ_mul,List.range_add,List.map_append];congr 1;apply agh;intro j;simp only[List.map_map,afr];by_cases a:j<c.size
  ·rw[ajq a];simp only[acs,Function.comp];rw[Nat.mul_comm n,Nat.mul_add_mod,ah7 a,getElem!_pos c j a];simp[a]
  ·rw[afs (by simpa using a),afs (by simpa using a)];rfl
def Pk{el k zs z}(g:gl P el=E k)(a:nk P el=E zs)(f:gw P el=E z):z.cells.toList=[.int k 0]:=by
 have l:=oa g;have j:Fb P 12 el=E [.int k 0]:=by simp[Fb,l]
 have⟨m,d,i⟩:=jo (e:=⟨λ_=>Y,λ_=>Y,0,[],λ_=>Y⟩) a;rw[f] at d;cases d;have:zs=[.int k 0]:=by
  unfold nk at a
  rw[f,j] at a
  simp only[] at a
  split at a
  ·cases a;rfl
  ·cases a
 subst this
 have⟨y,n,b,c,q⟩:=(PR.cons rfl).1 i
 rw[PR] at c;subst c
 rw[VR] at b;subst b
 exact q
def abz k n:(t9 n [Value.int k 0]).flatten=bB k (t9 n 0):=by induction n with
 |zero=>rfl
 |succ n b=>rw[List.replicate_succ,List.flatten_cons,b];rfl
def zD{el zs z n}(g:nk P el=E zs)(f:gw P el=E z)(b:0<z.cells.size){ps}(a:ps=match gl P el with
  |some k=>[.af k n (t9 n 0)]
  |none=>(t9 n zs).flatten):PR e ps ((Array.range (n*z.cells.size)).map λi=>z.cells[i%z.cells.size]!).toList:=by rw[IU _ b];have⟨l,d,j⟩:=jo (e:=e) g;rw[f] at d;cases d;cases c:gl .. with
 |none=>rw[c] at a;subst a;exact j.replicate n
 |some k=>
  rw[c] at a;subst a;rw[Pk c g f,abz];exact⟨[],rfl,by rw[bV (by simp),acj]⟩
def vl{t len z parts a ps}(b:nr P t len parts=E (ps,z,Z))(D:VP e parts a):
  ∃el ys,(Instr.buildSlice t len a.toArray).run P w=.ok (.slice (E ⟨w.heap.size,0,Y⟩) len len) (w.alloc (.cells ⟨ys⟩ el))/\PR e ps ys/\A ys=len*z/\0<z:=by
 unfold nr at b;split at b
 ·rename_i el x;split at b
  ·rename_i c H u q;split at b
   ·rename_i o;have⟨⟨J,K⟩,v,r⟩:=aaC.1 b;simp[aad] at r;obtain⟨rfl,rfl,rfl⟩:=r;have⟨s,g,y⟩:=wT q;have⟨o,G⟩:=o;have d:s.cells.size=c+1:=by omega
    ·have f:=zD (e:=e) (n:=len) q g (by omega) rfl;have⟨m,j,F,p⟩:=qR v f D;rw[d] at j p;refine⟨el,m.toList,?_,F,by simpa using p,by omega⟩;have l:¬len*(c+1)>2^24:=by omega
     unfold Instr.buildSlice;simp only[abe,abF x,aaJ,cU u,Sem.run_ite,acB l,ach];by_cases k:len*(c+1)=0
     ·rw[ae8 k];have:((Array.range (len*(c+1))).map λi=>s.cells[i%(c+1)]!)=((Array.range (len*(c+1))).map λi=>(#[]:Array Value)[i%(#[]:Array Value).size]!):=by rw[k];simp
      rw[this] at j;simp only[j,newRow,newObj,abe,ach];rfl
     ·rw[acB k];simp[g9 g,aaJ,d,j,newRow,newObj,abe,ach];rfl
   ·cases b
  ·cases b
 ·cases b
def wU{t a b u b' ps z n m}(d:oP P t a b=E (ps,z,n,m,Z))(y:VR e a u)(v:VR e b b'):
  ∃el ys,(Instr.makeSlice t u b').run P w=.ok (.slice (E ⟨w.heap.size,0,Y⟩) n m) (w.alloc (.cells ⟨ys⟩ el))/\PR e ps ys/\A ys=m*z/\0<z/\n<=m:=by
 unfold oP at d;split at d
 ·rename_i V l R c;rw[VR] at y v;subst y v;split at d
  ·rename_i el J;split at d
   ·rename_i i s T G D x;split at d
    ·rename_i N;simp[Mf,aad,No,afP,aac] at d;have⟨q,rfl,rfl,rfl,⟨K,L⟩,⟨U,F⟩,S⟩:=d;have⟨Q,o,M⟩:=wT x;have k:Q.cells.size=s+1:=by omega
     have t1:(C (c<0)||C ((i.bytes:Int)*c>2^48))=I:=by rw[aiH];exact⟨aaS (by omega),aaS (by omega)⟩
     have f:=zD (e:=e) x o (by omega) q.symm;rw[k] at f;refine⟨el,_,?_,f,by simp,by omega,by omega⟩;unfold Instr.makeSlice;have p:¬l>c:=by omega
     have r:¬l<0:=by omega
     simp only[abe,abF J,aaJ,asInt,asIntOf,ach,typeInfo,run_program,G,K,L,t1,r,p,decide_false,Bool.or_self,aii,if_false];have j:∀w,(askRoom (O c*i.bytes)).run P w=.ok () w:=λw=>by unfold askRoom;split<;>simp[mark,Sem.run]
     rw[j];simp only[aaJ,cU D];by_cases g:O c*(s+1)=0
     ·rw[ae8 g];have H:Array.range 0= #[]:=by simp
      simp[newRow,newObj,Sem.run,g,H]
     ·rw[acB g];simp only[abe,g9 o,ach,aaJ,newRow,newObj,k];rfl
    ·cases d
   ·cases d
  ·cases d
 ·cases d
def Dj(d y:Nat)(a:BoundsCode)(v':Option Value):Sem Nat:=match v' with
 |some x=>Instr.sliceBound x y a
 |none=>pure d
def jq{d y y' v v' n}(a:tR d y v=E (n,Z))(f:VO e v v')(l:y<=y') c:
  (Dj d y' c v').run P w=.ok n w/\(v=Y->n=d)/\(v≠Y->n<=y):=by
 unfold tR at a;split at a
 ·simp[Mf,aad,aj7] at a;subst a;rw[VO] at f;subst f;exact⟨rfl,λ_=>rfl,λh=>absurd rfl h⟩
 ·rename_i k i;obtain⟨z,rfl,g⟩:=f;rw[VR] at g;subst g;simp[Mf,aad,No,aac] at a;have⟨rfl,j,m⟩:=a;have:i<=y':=by omega
  exact⟨by simp[Dj,Instr.sliceBound,asIntOf,j,this],(λh=>by cases h),λ_=>by omega⟩
 ·cases a
def dP{len cap a l h m lo hi n f k q}(d:gR len cap lo hi n=E (l,h,m,Z))(y:VO e lo f)(u:VO e hi k)(r:VO e n q)(c:cap<=a) b:
  ∃s,(Instr.sliceBounds b len a f k q).run P w=.ok (l,h,s) w/\(n=Y->s=a/\m=cap)/\(n≠Y->s=m/\m<=cap)/\(hi=Y->h=len)/\(hi≠Y->h<=m/\h<=s)/\(lo=Y->l=0)/\(lo≠Y->l<=h):=by
 unfold gR at d;split at d
 ·rename_i F L i;split at d
  ·cases d
  ·rename_i t;split at d
   ·rename_i J Q p;split at d
    ·rename_i l0 K o;simp[Mf,aad,av] at d;obtain⟨rfl,rfl,rfl,rfl,rfl,rfl⟩:=d
     cases n with
     |none=>
      rw[VO] at r;subst r
      simp[tR,Mf,aad,aj7] at i
      subst i
      have g:=jq (P:=P) (w:=w) p u c (if b then .sliceAcap else .sliceAlen)
      have j:=jq (P:=P) (w:=w) o y (aar _) .sliceB
      refine⟨a,?_,λ_=>⟨rfl,rfl⟩,λh=>absurd rfl h,g.2.1,λh=>⟨g.2.2 h,af3 (g.2.2 h) c⟩,j.2.1,j.2.2⟩
      have x:=g.1;have v:=j.1
      unfold Dj at x v
      unfold Instr.sliceBounds
      cases k<;>cases f<;>simp_all[abe]
     |some N=>
      have z:=jq (P:=P) (w:=w) i r c (if b then .slice3Acap else .slice3Alen)
      cases hi with
      |none=>exact absurd rfl (t _ rfl)
      |some G=>
       have g:=jq (P:=P) (w:=w) p u (aar _) .slice3B
       have j:=jq (P:=P) (w:=w) o y (aar _) .slice3C
       refine⟨F,?_,(λh=>by cases h),λ_=>⟨rfl,z.2.2 (by simp)⟩,(λh=>by cases h),(λh=>⟨g.2.2 h,g.2.2 h⟩),j.2.1,j.2.2⟩
       obtain⟨H,rfl,_⟩:=r
       obtain⟨M,rfl,_⟩:=u
       have D:=z.1;have x:=g.1;have v:=j.1
       unfold Dj at D x v
       unfold Instr.sliceBounds
       cases f<;>simp_all[abe]
    ·cases d
   ·cases d
 ·cases d
def Fv(x:Addr) m l z(b:x=⟨x.block,x.off,Y⟩):∃a,(if m=l then x else x.add (l*z))=⟨x.block,a,Y⟩/\(m≠l->a=x.off+l*z):=by
 by_cases h:m=l
 ·exact⟨x.off,by rw[ae8 h];exact b,λg=>absurd h g⟩
 ·refine⟨x.off+l*z,?_,λ_=>rfl⟩;rw[acB h,b,fX]
def xJ{xs lo hi l h}(a:lo=Y->l=0)(b:hi=Y->h=A xs)(g:h<=A xs)(f:l<=h):A (qE xs lo hi l h)=h-l/\∀k,bB k (qE xs lo hi l h)=((bB k xs).drop l).take (h-l):=by
 unfold qE;split
 ·have c:=a rfl;have d:=b rfl;subst c d;exact⟨by simp,λk=>by rw[agE,aaT (by rw[aQ];omega)]⟩
 ·have d:=b rfl;subst d;exact⟨by simp,λk=>by rw[<-gz,aaT (by rw[aQ,afj];omega)]⟩
 ·have c:=a rfl;subst c;exact⟨by simp;omega,λk=>by rw[agE,Nat.sub_zero, <-dW]⟩
 ·exact⟨by simp;omega,λk=>by rw[<-gz, <-dW]⟩
def BN{k}:∀{a b},bB k a=bB k b->a=b
 | [],[],_=>rfl
 | [],_::_,h=>by simp[bB] at h
 |_::_,[],h=>by simp[bB] at h
 |x::a,y::b,h=>by simp[bB,agr,aiT,Value.int.injEq,true_and] at h;rw[h.1,BN h.2]
def ic s:A (kQ s)=s.size:=by unfold kQ;rw[List.length_map,aiv];rfl
theorem vm(R:bM B e h w){t x v x' lo hi L ap ad aw}(r:nP P t h x lo hi L=E (v,Z))(hx:VR e x x')(hl:VO e lo ap)(hh:VO e hi ad)(hm:VO e L aw):
  ∃v',(Instr.sliceAt t x' ap ad aw).run P w=.ok v' w/\VR e v v':=by
 unfold nP at r
 split at r
 ·
  rename_i n el b o i Q
  obtain⟨p,hp,rfl⟩:=hx
  have mT:∀{z l u m}{ps},h[b]?=E (.b ps)->eG P el=E z->gR n n lo hi L=E (l,u,m,Z)->o+i+n*z<=aC ps->
    ∃v',(Instr.sliceAt t (.pointer (E ⟨p.n,p.base+(o+i),Y⟩)) ap ad aw).run P w=.ok v' w/\
     ∃a,v'=.slice (E ⟨p.n,a,Y⟩) (u-l) (m-l)/\(m-l≠0->a=p.base+(o+i+l*z))/\u-l<=m-l/\(m-l≠0->o+i+l*z+(m-l)*z<=p.size)/\l<=u/\(lo=Y->l=0):=λ{z l u m ps} hb K j F=>by
   obtain⟨c,tt,hc,aO,nR,qh⟩:=R.block hp hb
   obtain⟨d,D,J,f2,V,f4,H,W⟩:=dP (P:=P) (w:=w) j hl hh hm (aar n) I
   have ab:d=m/\m<=n:=by
    cases L with
    |none=>have:=J rfl;omega
    |some _=>exact f2 (by simp)
   obtain⟨rfl,a6⟩:=ab
   have a5:u<=d:=by
    cases hi with
    |none=>
     have:=V rfl
     cases L with
     |none=>have:=J rfl;omega
     |some _=>unfold gR at j;split at j<;>simp at j
    |some _=>exact(f4 (by simp)).2
   have ac:l<=u:=by
    cases lo with
    |none=>have:=H rfl;omega
    |some _=>exact W (by simp)
   obtain⟨a,ha,RH⟩:=Fv ⟨p.n,p.base+(o+i),Y⟩ d l z rfl
   refine⟨_,?_,a,rfl,λhne=>by have:=RH (by omega);simp only[] at this;omega,by omega,λhne=>?_,ac,H⟩
   ·simp only[Instr.sliceAt,abe,abF Q,aaJ,Instr.sureAddr,ach,D,cU K,ha]
   ·have M:l*z+(d-l)*z=d*z:=by rw[<-ags];congr 1;omega
    have T:=aeK z a6
    omega
  split at r
  ·rename_i ps l u m pb hb K j
   simp only[Mf,aad,av,aac] at r
   obtain⟨rfl,rfl,F⟩:=r
   obtain⟨v',D,a,rfl,M,T,h3,h4,S⟩:=mT hb K j (by omega)
   refine⟨_,D,.inr ⟨p,m-l,a,hp,?_,?_,?_,?_,?_,?_⟩⟩
   ·cases lo with
    |none=>have:=S rfl;subst this;simp
    |some _=>rfl
   ·intro hne
    have:=M hne
    cases lo with
    |none=>have:=S rfl;subst this;simp at*;omega
    |some _=>simp only[];omega
   ·cases lo with
    |none=>have:=S rfl;subst this;simp
    |some _=>exact aar _
   ·intro _
    cases lo with
    |none=>have:=S rfl;subst this;simp
    |some _=>rfl
   ·cases lo with
    |none=>have:=S rfl;subst this;simpa using T
    |some _=>exact T
   ·intro hne
    have:=h3 hne
    cases lo with
    |none=>have:=S rfl;subst this;simp at*;omega
    |some _=>simp only[];omega
  ·rename_i ps z l u m pb hne hb K j
   split at r
   ·simp only[Mf,aad,av,aac] at r
    obtain⟨rfl,rfl,F⟩:=r
    obtain⟨v',D,a,rfl,M,T,h3,h4,S⟩:=mT hb K j (by omega)
    exact⟨_,D,.inr ⟨p,m-l,a,hp,rfl,λhne=>by have:=M hne;omega,aar _,λ_=>rfl,T,λhne=>by have:=h3 hne;omega⟩⟩
   ·cases r
  ·cases r
 ·
  rename_i el b o i z G cap ex wh Q
  split at r
  ·rename_i n l u m pb K j
   split at r
   ·rename_i ay
    subst ay
    simp only[Mf,aad] at r
    obtain⟨rfl,rfl⟩:=r
    rcases hx with⟨rfl,rfl,a,rfl⟩|⟨p,a3,a,hp,rfl,ha,y,a4,a0,F⟩
    ·obtain⟨d,D,J,f2,V,f4,H,W⟩:=dP (P:=P) (w:=w) j hl hh hm (aar 0) Z
     have ar:d=0/\m=0:=by
      cases L with
      |none=>have:=J rfl;omega
      |some _=>have:=f2 (by simp);omega
     have U:u=0:=by
      cases hi with
      |none=>exact V rfl
      |some _=>have:=f4 (by simp);omega
     have Bc:l=0:=by
      cases lo with
      |none=>exact H rfl
      |some _=>have:=W (by simp);omega
     obtain⟨rfl,rfl⟩:=ar
     subst U Bc
     refine⟨.slice a 0 0,?_,.inl ⟨by cases lo<;>rfl,by cases lo<;>rfl,a,rfl⟩⟩
     simp only[Instr.sliceAt,Instr.slice,abe,abF Q,aaJ,ach,D,cU K,akk,Nat.sub_self]
    ·obtain⟨d,D,J,f2,V,f4,H,W⟩:=dP (P:=P) (w:=w) j hl hh hm y Z
     have ab:d<=a3/\m<=d/\((ex||L.isSome)=Z->d=m):=by
      cases L with
      |none=>obtain⟨rfl,rfl⟩:=J rfl;exact⟨aar _,y,λh=>a4 (by simpa using h)⟩
      |some _=>obtain⟨rfl,g⟩:=f2 (by simp);exact⟨by omega,aar _,λ_=>rfl⟩
     have a5:u<=d:=by
      cases hi with
      |none=>
       have:=V rfl
       cases L with
       |none=>have:=J rfl;omega
       |some _=>unfold gR at j;split at j<;>simp at j
      |some _=>exact(f4 (by simp)).2
     have ac:l<=u:=by
      cases lo with
      |none=>have:=H rfl;omega
      |some _=>exact W (by simp)
     obtain⟨a2,yE,af⟩:=Fv ⟨p.n,a,Y⟩ d l n rfl
     refine⟨.slice (E ⟨p.n,a2,Y⟩) (u-l) (d-l),?_,.inr ⟨p,d-l,a2,hp,?_,?_,?_,?_,?_,?_⟩⟩
     ·simp only[Instr.sliceAt,Instr.slice,abe,abF Q,aaJ,ach,D,cU K,acs]
      congr 2
      have:(if d=l then E (⟨p.n,a,Y⟩:Addr) else E ((⟨p.n,a,Y⟩:Addr).add (l*n)))=E (if d=l then⟨p.n,a,Y⟩ else(⟨p.n,a,Y⟩:Addr).add (l*n)):=by split<;>rfl
      rw[this,yE]
     ·cases lo with
      |none=>have:=H rfl;subst this;simp
      |some _=>rfl
     ·intro hne
      have M:=af (by omega)
      have T:=ha (by omega)
      simp only[] at M
      cases lo with
      |none=>have:=H rfl;subst this;simp at M;simp only[];omega
      |some _=>simp only[];rw[ags];omega
     ·cases lo with
      |none=>have:=H rfl;subst this;simp only[];omega
      |some _=>simp only[];omega
     ·intro g
      have:=ab.2.2 g
      subst this
      cases lo with
      |none=>have:=H rfl;subst this;simp
      |some _=>rfl
     ·cases lo with
      |none=>have:=H rfl;subst this;simp only[];omega
      |some _=>simp only[];omega
     ·intro hne
      have M:=F (by omega)
      have T:l*n+(d-l)*n=d*n:=by rw[<-ags];congr 1;omega
      have h3:=aeK n ab.1
      cases lo with
      |none=>have:=H rfl;subst this;simp at T ⊢;omega
      |some _=>simp only[];rw[ags];omega
   ·cases r
  ·cases r
 ·
  rename_i el f k xs Q
  split at r
  ·rename_i l u m pb K j
   simp only[Mf,aad] at r
   obtain⟨rfl,rfl⟩:=r
   have al:∀{cap}{d},(L=Y->d=cap/\m=A xs)/\(L≠Y->d=m/\m<=A xs)/\(hi=Y->u=A xs)/\(hi≠Y->u<=m/\u<=d)/\(lo=Y->l=0)/\(lo≠Y->l<=u)->A xs<=cap->u<=A xs/\l<=u/\u<=d/\d<=cap:=λ{cap d} ⟨J,f2,V,f4,H,W⟩ y=>by
    have ab:d<=cap/\m<=A xs:=by
     cases L with
     |none=>have:=J rfl;omega
     |some _=>have:=f2 (by simp);omega
    have oW:u<=A xs/\u<=d:=by
     cases hi with
     |none=>
      have:=V rfl
      cases L with
      |none=>have:=J rfl;omega
      |some _=>unfold gR at j;split at j<;>simp at j
     |some _=>have:=f4 (by simp);omega
    have ac:l<=u:=by
     cases lo with
     |none=>have:=H rfl;omega
     |some _=>exact W (by simp)
    omega
   rcases hx with⟨rfl,a,cap,rfl,ha⟩|⟨n,o,cap,c,tt,fr,rfl,jA,am,hq,y,F⟩
   ·obtain⟨d,D,g⟩:=dP (P:=P) (w:=w) j hl hh hm (aaH cap) Z
    simp only[List.length_nil] at D
    obtain⟨M,T,h3,h4⟩:=al (cap:=cap) g (aaH _)
    have U:u=0:=by simpa using M
    subst U
    have Bc:l=0:=by omega
    subst Bc
    have hw:qE [] lo hi 0 0=[]:=by unfold qE;split<;>rfl
    rw[hw]
    refine⟨.slice a 0 d,?_,.inl ⟨rfl,a,d,rfl,λq=>by have:=ha q;omega⟩⟩
    have ae:(if d=0 then a else a.map (·.add (0*1)))=a:=by
     split
     ·rfl
     ·cases a with
      |none=>rfl
      |some a=>simp[Addr.add]
    simp only[Instr.sliceAt,Instr.slice,abe,abF Q,aaJ,ach,D,cU K,ae,Nat.sub_zero]
   ·obtain⟨d,D,g⟩:=dP (P:=P) (w:=w) j hl hh hm y Z
    obtain⟨M,T,h3,h4⟩:=al (cap:=cap) g y
    obtain⟨ao,ax⟩:=xJ (xs:=xs) (lo:=lo) (hi:=hi) g.2.2.2.2.1 g.2.2.1 M T
    obtain⟨a2,yE,af⟩:=Fv ⟨n,o,Y⟩ d l 1 rfl
    refine⟨.slice (E ⟨n,a2,Y⟩) (u-l) (d-l),?_,?_⟩
    ·simp only[Instr.sliceAt,Instr.slice,abe,abF Q,aaJ,ach,D,cU K,acs]
     congr 2
     have:(if d=l then E (⟨n,o,Y⟩:Addr) else E ((⟨n,o,Y⟩:Addr).add (l*1)))=E (if d=l then⟨n,o,Y⟩ else(⟨n,o,Y⟩:Addr).add (l*1)):=by split<;>rfl
     rw[this,yE]
    ·by_cases t7:d=l
     ·left
      have:u-l=0:=by omega
      exact⟨abJ.1 (by omega),_,_,by rw[this],λq=>by cases q⟩
     ·right
      have S:=af t7
      simp only[ajC] at S
      subst S
      refine⟨n,o+l,d-l,c,tt,fr,by rw[ao],jA,am,?_,by omega,by omega⟩
      rw[ao,ax k,hq,ahB,ahy,afu,agK (by omega)]
  ·cases r
 ·
  rename_i el f z G g Q
  split at r
  ·rename_i n0 l u m pb K j
   split at r
   ·rename_i ay
    subst ay
    simp only[Mf,aad] at r
    obtain⟨rfl,rfl⟩:=r
    have al:∀{cap}{d},(L=Y->d=cap/\m=G)/\(L≠Y->d=m/\m<=G)/\(hi=Y->u=G)/\(hi≠Y->u<=m/\u<=d)/\(lo=Y->l=0)/\(lo≠Y->l<=u)->G<=cap->u<=G/\l<=u/\u<=d/\d<=cap:=λ{cap d} ⟨J,f2,V,f4,H,W⟩ y=>by
     have ab:d<=cap/\m<=G:=by
      cases L with
      |none=>have:=J rfl;omega
      |some _=>have:=f2 (by simp);omega
     have oW:u<=G/\u<=d:=by
      cases hi with
      |none=>
       have:=V rfl
       cases L with
       |none=>have:=J rfl;omega
       |some _=>unfold gR at j;split at j<;>simp at j
      |some _=>have:=f4 (by simp);omega
     have ac:l<=u:=by
      cases lo with
      |none=>have:=H rfl;omega
      |some _=>exact W (by simp)
     omega
    have a0:(match lo with|none=>u|some _=>u-l)=u-l\/lo=Y:=by cases lo<;>simp
    rcases hx with⟨rfl,a,cap,rfl,ha⟩|⟨n,o,cap,c,tt,fr,rfl,jA,am,hq,y,F⟩
    ·obtain⟨d,D,g0⟩:=dP (P:=P) (w:=w) j hl hh hm (aaH cap) Z
     obtain⟨M,T,h3,h4⟩:=al (cap:=cap) g0 (aaH _)
     have U:u=0:=by omega
     subst U
     have Bc:l=0:=by omega
     subst Bc
     refine⟨.slice a 0 d,?_,.inl ⟨by cases lo<;>rfl,a,d,rfl,λq=>by have:=ha q;omega⟩⟩
     have ae:(if d=0 then a else a.map (·.add (0*n0)))=a:=by
      split
      ·rfl
      ·cases a with
       |none=>rfl
       |some a=>simp[Addr.add]
     simp only[Instr.sliceAt,Instr.slice,abe,abF Q,aaJ,ach,D,cU K,ae,Nat.sub_zero]
    ·obtain⟨d,D,g0⟩:=dP (P:=P) (w:=w) j hl hh hm y Z
     obtain⟨M,T,h3,h4⟩:=al (cap:=cap) g0 y
     obtain⟨a2,yE,af⟩:=Fv ⟨n,o,Y⟩ d l n0 rfl
     refine⟨.slice (E ⟨n,a2,Y⟩) (u-l) (d-l),?_,?_⟩
     ·simp only[Instr.sliceAt,Instr.slice,abe,abF Q,aaJ,ach,D,cU K,acs]
      congr 2
      have:(if d=l then E (⟨n,o,Y⟩:Addr) else E ((⟨n,o,Y⟩:Addr).add (l*n0)))=E (if d=l then⟨n,o,Y⟩ else(⟨n,o,Y⟩:Addr).add (l*n0)):=by split<;>rfl
      rw[this,yE]
     ·by_cases t7:d=l
      ·left
       have:u-l=0:=by omega
       refine⟨?_,_,_,by rw[this],λq=>by cases q⟩
       cases lo with
       |none=>have:=g0.2.2.2.2.1 rfl;simp only[];omega
       |some _=>exact this
      ·right
       have S:=af t7
       simp only[] at S
       subst S
       have aO:l*n0+(d-l)*n0=d*n0:=by rw[<-ags];congr 1;omega
       have Pn:=aeK n0 h4
       have h6:=g0.2.2.2.2.1
       refine⟨n,o+l*n0,d-l,c,tt,fr,?_,jA,am,λi ad=>?_,?_,by omega⟩
       ·cases lo with
        |none=>have:=h6 rfl;subst this;simp
        |some _=>rfl
       ·cases lo with
        |none=>have:=h6 rfl;subst this;simp only[Nat.zero_mul,ajf] at ad ⊢;exact hq i (by omega)
        |some _=>
         simp only[] at ad ⊢
         have:=hq (i+l) (by omega)
         rwa [show o+(i+l)*n0=o+l*n0+i*n0 by rw[ags];omega] at this
       ·cases lo with
        |none=>have:=h6 rfl;subst this;simp only[];omega
        |some _=>simp only[];omega
   ·cases r
  ·cases r
 ·
  rename_i xs Q
  obtain⟨s,rfl,rfl⟩:=hx
  split at r
  ·rename_i l u m pb j
   simp only[Mf,aad] at r
   obtain⟨rfl,rfl⟩:=r
   rw[VO] at hm;subst hm
   obtain⟨d,D,J,f2,V,f4,H,W⟩:=dP (P:=P) (w:=w) j hl hh (show VO e Y Y from rfl) (aar _) I
   have a8:=J rfl
   have oW:u<=A (kQ s):=by
    cases hi with
    |none=>have:=V rfl;omega
    |some _=>have:=f4 (by simp);omega
   have ac:l<=u:=by
    cases lo with
    |none=>have:=H rfl;omega
    |some _=>exact W (by simp)
   obtain⟨ao,ax⟩:=xJ (xs:=kQ s) (lo:=lo) (hi:=hi) H V oW ac
   refine⟨.string (s.extract l u),?_,s.extract l u,rfl,?_⟩
   ·rw[ic] at D
    simp only[Instr.sliceAt,Instr.slice,abe,abF Q,aaJ,ach,D,Option.isSome_none,aii,if_false]
   ·have M:=ax .u8
    have T:qE (kQ s) lo hi l u=((kQ s).drop l).take (u-l):=by
     rw[<-gz, <-dW] at M
     exact BN M
    rw[T]
    simp[kQ,List.extract_eq_take_drop,List.map_take,List.map_drop]
  ·cases r
 ·
  rename_i el Q
  rw[VR] at hx;subst hx
  split at r
  ·rename_i z l u m pb K j
   simp only[Mf,aad] at r
   obtain⟨rfl,rfl⟩:=r
   obtain⟨d,D,J,f2,V,f4,H,W⟩:=dP (P:=P) (w:=w) j hl hh hm (aar 0) Z
   have ar:d=0:=by
    cases L with
    |none=>have:=J rfl;omega
    |some _=>have:=f2 (by simp);omega
   have U:u=0:=by
    cases hi with
    |none=>exact V rfl
    |some _=>have:=f4 (by simp);omega
   have Bc:l=0:=by
    cases lo with
    |none=>exact H rfl
    |some _=>have:=W (by simp);omega
   subst ar U Bc
   refine⟨.slice Y 0 0,?_,rfl⟩
   simp only[Instr.sliceAt,Instr.slice,abe,abF Q,aaJ,ach,D,cU K,akk,Nat.sub_self]
  ·cases r
 ·
  rename_i n el f z G g ee o i Q
  split at r
  ·rename_i k m xs p K hq
   simp only[Mf,aad,No,aac] at r
   obtain⟨rfl,rfl,⟨⟨a7,F⟩,rfl⟩,jD⟩:=r
   obtain⟨b,o0,c,tt,fr,rfl,jA,a1,aO⟩:=hx
   obtain⟨h3,h4⟩:=oT hq (a1 ee a7)
   rw[VO] at hl hh hm
   subst hl hh hm
   obtain⟨zs,S,h6⟩:=PR.UC.1 h3
   rw[PR] at S;subst S
   rw[acj,bV jD] at h6
   have j:gR m m Y Y Y=E (0,m,m,Z):=rfl
   obtain⟨d,D,J,_⟩:=dP (P:=P) (w:=w) j (show VO e Y Y from rfl) (show VO e Y Y from rfl) (show VO e Y Y from rfl) (aar m) I
   obtain⟨rfl,_⟩:=J rfl
   obtain⟨a,ha,RH⟩:=Fv ⟨b,o0+ee*z+(o+i),Y⟩ d 0 1 rfl
   refine⟨.slice (E ⟨b,a,Y⟩) d d,?_,?_⟩
   ·simp only[Instr.sliceAt,abe,abF Q,aaJ,Instr.sureAddr,ach,D,cU K,ha,Nat.sub_zero]
   ·by_cases h0:d=0
    ·exact .inl ⟨abJ.1 (by omega),E ⟨b,a,Y⟩,d,by rw[h0],λq=>by cases q⟩
    ·have aG:=RH h0
     simp only[Nat.zero_mul,ajf] at aG
     subst aG
     refine .inr ⟨b,_,d,c,tt,fr,by rw[jD],jA,by simp,?_,by omega,?_⟩
     ·rw[<-h6,ahB,ahy,afu,jD,agK (by omega)]
     ·have:=aeK z (show ee+1<=G by omega)
      rw[ags,Nat.one_mul] at this
      omega
  ·cases r
 ·cases r
def VR.ajm{b z len cap ex wh v}(h:VR e (.b9 b z len cap ex) v):VR e (.sl b 0 0 z len cap ex wh) v:=by
 rcases h with h|⟨p,c,a,k,l,g,d,i,j,f⟩
 ·exact .inl h
 ·exact .inr ⟨p,c,a,k,l,λq=>by rw[g q];simp,d,i,j,λq=>by have:=f q;simpa using this⟩
def VR.wV{b z len cap ex wh v}(h:VR e (.sl b 0 0 z len cap ex wh) v):VR e (.b9 b z len cap ex) v:=by
 rcases h with h|⟨p,c,a,k,l,g,d,i,j,f⟩
 ·exact .inl h
 ·exact .inr ⟨p,c,a,k,l,λq=>by rw[g q];simp,d,i,j,λq=>by have:=f q;simpa using this⟩
def oX(R:bM B e h w){t x v j lo hi g b d c}(a:qM P t h x lo hi g=E (v,Z))(k:VR e x j)(m:VO e lo b)(i:VO e hi d)(l:VO e g c):
  ∃v',(Instr.sliceAt t j b d c).run P w=.ok v' w/\VR e v v':=by
 unfold qM at a;split at a
 ·split at a
  ·split at a
   ·rename_i p f;simp[Mf,aad] at a;obtain⟨rfl,rfl⟩:=a;have⟨v',n,o⟩:=vm R f (VR.ajm k) m i l;exact⟨v',n,VR.wV o⟩
   ·cases a
  ·cases a
 ·exact vm R a k m i l
def Po{lo hi mx}(h:Lh lo hi mx=Z):lo=Y/\hi=E (.const (.int .i64 0))/\mx=E (.const (.int .i64 0)):=by
 unfold Lh at h;split at h
 ·exact⟨rfl,rfl,rfl⟩
 ·cases h
def tU{t el a n cap z}(i:P.underlying t=E (.slice el))(g:eG P el=E z):
  (Instr.sliceAt t (.slice a n cap) Y (E (.int .i64 0)) (E (.int .i64 0))).run P w=.ok (.slice a 0 0) w:=by
 have f:∀y(b:BoundsCode),(Instr.sliceBound (.int .i64 0) y b).run P w=.ok 0 w:=λy b=>(jq (d:=0) (y':=y) (v:=E (.int .i64 0)) (e:=⟨λ_=>Y,λ_=>Y,0,[],λ_=>Y⟩) (n:=0) (by simp[tR]) ⟨_,rfl,rfl⟩ (aar _) b).1
 have c:(Instr.sliceBounds Z n cap Y (E (.int .i64 0)) (E (.int .i64 0))).run P w=.ok (0,0,0) w:=by unfold Instr.sliceBounds;simp[abe,f]
 simp[Instr.sliceAt,Instr.slice,abe,abF i,aaJ,ach,c,cU g,akk,Nat.sub_self]
def Dk(R:bM B e h w){t T lo hi Q}(J:Lh lo hi Q=Z){x v j l u m N K M}(e1:Q1 T lo=E l)(e2:Q1 T hi=E u)(e3:Q1 T Q=E m)(b:nQ P t h x l u m=E (v,Z))(r:VR e x j)(o:VO e l N)(s:VO e u K)(D:VO e m M):
  ∃v',(Instr.sliceAt t j N K M).run P w=.ok v' w/\VR e v v':=by
 obtain⟨rfl,rfl,rfl⟩:=Po J;have L:∀a n cap,j=.slice a n cap->∀p,P.underlying t=E (.slice p)->eG P p=E 1->v=.sl 0 0 0 1 0 0 Z I->∃v',(Instr.sliceAt t j N K M).run P w=.ok v' w/\VR e v v':=λa n cap H p d i hv=>by
  subst H hv
  obtain rfl:Y=l:=ajt e1
  obtain rfl:E (SV.int .i64 0)=u:=ajt e2
  obtain rfl:E (SV.int .i64 0)=m:=ajt e3
  rw[VO] at o
  obtain⟨_,rfl,rfl⟩:=s
  obtain⟨_,rfl,rfl⟩:=D
  subst o
  exact⟨_,tU d i,.inl ⟨rfl,rfl,a,rfl⟩⟩
 cases x with
 |ro f k xs=>
  simp[nQ] at b
  split at b
  ·rename_i p d
   split at b
   ·rename_i i
    cases b
    rcases r with⟨_,a,cap,rfl,_⟩|⟨_,_,cap,_,_,_,rfl,_⟩
    ·exact L _ _ _ rfl _ d i rfl
    ·exact L _ _ _ rfl _ d i rfl
   ·cases b
  ·cases b
 |nl y=>
  rw[VR] at r;subst r
  by_cases S:∃a c,j=.slice a 0 c
  ·obtain⟨a,c,rfl⟩:=S
   simp[nQ] at b
   split at b
   ·rename_i p d
    split at b
    ·rename_i i
     cases b
     exact L _ _ _ rfl _ d i rfl
    ·cases b
   ·cases b
  ·have G:qM P t h (.nl j) l u m=E (v,Z):=by
    unfold nQ at b
    split at b
    ·rename_i q;cases q
    ·rename_i q;cases q;exact absurd ⟨_,_,rfl⟩ S
    ·rename_i q;cases q
    ·exact b
   exact oX R G rfl o s D
 |aO f z len g=>
  simp[nQ] at b
  split at b
  ·rename_i p d
   split at b
   ·rename_i n i
    split at b
    ·cases b
     obtain rfl:Y=l:=ajt e1
     obtain rfl:E (SV.int .i64 0)=u:=ajt e2
     obtain rfl:E (SV.int .i64 0)=m:=ajt e3
     rw[VO] at o
     obtain⟨_,rfl,rfl⟩:=s
     obtain⟨_,rfl,rfl⟩:=D
     subst o
     rcases r with⟨_,a,cap,rfl,_⟩|⟨_,_,cap,_,_,_,rfl,_⟩
     ·exact⟨_,tU d i,.inl ⟨rfl,rfl,_,rfl⟩⟩
     ·exact⟨_,tU d i,.inl ⟨rfl,rfl,_,rfl⟩⟩
    ·cases b
   ·cases b
  ·cases b
 |_=>exact oX R (by simpa only[nQ] using b) r o s D
def zE{x f n}(d:VR e x f)(b:qw x=E n):(∃a c,f=.slice a n c)\/∃s,f=.string s/\s.size=n/\∃xs,x=.str xs:=by
 unfold qw at b;split at b
 ·cases b;rcases d with⟨g,_,a,rfl⟩|⟨p,c,a,_,rfl,_⟩
  ·subst g;exact .inl ⟨a,0,rfl⟩
  ·exact .inl ⟨_,_,rfl⟩
 ·cases b;rcases d with⟨rfl,a,c,rfl,_⟩|⟨n,o,cap,c,t,i,rfl,_⟩
  ·exact .inl ⟨_,_,rfl⟩
  ·exact .inl ⟨_,_,rfl⟩
 ·cases b;rcases d with⟨rfl,a,c,rfl,_⟩|⟨n,o,cap,c,t,i,rfl,_⟩
  ·exact .inl ⟨_,_,rfl⟩
  ·exact .inl ⟨_,_,rfl⟩
 ·cases b;rcases d with⟨rfl,a,c,rfl,_⟩|⟨n,o,cap,c,t,i,rfl,_⟩
  ·exact .inl ⟨_,_,rfl⟩
  ·exact .inl ⟨_,_,rfl⟩
 ·cases b;rcases d with⟨g,_,a,rfl⟩|⟨p,c,a,_,rfl,_⟩
  ·subst g;exact .inl ⟨a,0,rfl⟩
  ·exact .inl ⟨_,_,rfl⟩
 ·cases b;obtain⟨s,rfl,rfl⟩:=d;exact .inr ⟨s,rfl,by rw[ic],_,rfl⟩
 ·cases b;rw[VR] at d;subst d;exact .inl ⟨_,_,rfl⟩
 ·cases b
def IW{t ty x v j}(b:ajb P t x=E v)(g:VR e x j):∃v',(Builtin.len_ #[t] ty #[j]).run P w=.ok v' w/\VR e v v':=by
 unfold ajb at b;split at b
 ·rename_i n k m d;cases b;obtain⟨o,_,rfl⟩:=g.oS;exact⟨_,by simp[Builtin.len_,abF d,goInt],rfl⟩
 ·rename_i k d;split at b
  ·cases b
  ·rename_i f;obtain⟨n,l,rfl⟩:=aaC.1 b;rcases zE g l with⟨a,c,rfl⟩|⟨s,_,_,i,rfl⟩
   ·exact⟨_,by simp[Builtin.len_,abF d,goInt],rfl⟩
   ·exact absurd rfl (f i)
 ·rename_i i d;cases b;obtain⟨s,rfl,rfl⟩:=g;exact⟨.int .i64 s.size,by simp[Builtin.len_,abF d,goInt],by rw[ic];rfl⟩
 ·cases b
def IX{t ty x v x'}(c:UJ P t x=E v)(f:VR e x x'):∃v',(Builtin.cap_ #[t] ty #[x']).run P w=.ok v' w/\VR e v v':=by
 unfold UJ at c;split at c
 ·rename_i l b o i z k cap m d;cases c;rcases f with⟨_,rfl,a,rfl⟩|⟨p,j,a,_,rfl,_,_,g,_⟩
  ·exact⟨_,by simp[Builtin.cap_,abF d,goInt],rfl⟩
  ·have:=g rfl;subst this;exact⟨_,by simp[Builtin.cap_,abF d,goInt],rfl⟩
 ·rename_i l d;cases c;rw[VR] at f;subst f;exact⟨_,by simp[Builtin.cap_,abF d,goInt],rfl⟩
 ·cases c
def zF{k}:∀{vs}{ys}{a n},UK k a vs=E n->LR e vs ys->(ys.foldlM Builtin.min2 (.int k a)).run P w=.ok (.int k n) w
 | [],ys,a,n,h,g=>by simp[UK,Mf] at h;subst h;rw[LR] at g;subst g;simp
 |x::xs,_,a,n,h,⟨y,l,d,i,q⟩=>by
  subst q;unfold UK at h;split at h
  ·rename_i c;cases c
  ·rename_i j b vs c;cases c;split at h
   ·rename_i f;subst f;rw[VR] at d;subst d;simp[List.foldlM_cons,abe,Builtin.min2,ach,aaJ];exact zF h i
   ·cases h
  ·cases h
