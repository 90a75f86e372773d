/- This file proves lemmas for the last one. Conditions: those in them. -/
import Derived.Test.YthlnlcijnoadcaaGreatDoorVMc
import Derived.Test.YthlnlcijnoadcaaGreatDoorRows
noncomputable section
open Bool renaming true->Z,false->I
open Option renaming some->E,none->Y
open Decidable renaming decide->C
open List renaming length->A,getD->X,replicate->t9,range->t8
open Int renaming toNat->O
set_option linter.all false
open Go.Proofs.Tryz
open Go.Proofs.Tryz renaming prog->Q
open Go.IntKind (i64)
set_option maxRecDepth 100000
namespace Go.Sy
def Glb(w:World):Prop:=∀g(k:IntKind)a,RI g=E (k,a)->∃c t b,w.heap[g]?=E (.cells c t b)/\bB k a=c.toList.take (A a)
def bM.start w(m:Glb w:=by intro _ _ _ h;cases h):bM ⟨w,mb (lM w) w.heap.size,0,[]⟩ (mb (lM w) w.heap.size) [] w where
 os:=rfl;tape:=rfl;output:=rfl;size:=aar _;inj:=λi j p q a=>by cases a
 dom:=λi p a=>by cases a
 gM:=λi p a=>by cases a
 gN:=λn c o d b=>w5 b;bN:=λ_ _ b=>.inl b;fU:=λg k l h=>(m g k l h).imp λc ⟨t,d,e,f⟩=>⟨t,d,pG e,f⟩;cM:=λ_ _ a=>.inl a;b6:=λ_ _ a=>a;cE:=λ_ _ b=>b;n0:=rfl;dK:=aar _;gr:=λi r a=>by simp at a
 gap:=λi g a=>by simp at a
 yi:=λi j n a=>by cases a
 yb:=λi n a=>by cases a
 old:=λ_ _ _ _=>rfl;lz:=λi p a=>by cases a
 kr:=λi p a=>by cases a
 iT:=aar _;g7:=λr i=>by cases i
 jG:=List.nodup_nil
section
variable {P:Program}
def ak.below{f args a h' b}(g:ak P f args [] (.bool b) h'){w}(i:LR (mb (lM w) w.heap.size) args a)(l:Glb w:=by intro _ _ _ h;cases h):
  Calls P f ⟨a⟩ w λe w'=>e=.returned (.bool b)/\Go.RowKit.Below w.heap.size w w':=by refine(g _ _ w a (aar _) i (bM.start w l)).mono ?_;rintro x w' ⟨m,rfl,o,_,d,c⟩;rw[VR] at d;subst d;exact⟨rfl,c.os,c.tape,c.output,c.size,λn j=>c.old n j (λi p k=>by cases k) (by simp)⟩
def aso{w r base t v k n}(g:(P.underlying t).map (λ| .struct _=>Z| .array _ _=>Z|_=>I)=E Z)
  (o:(P.cellTypes P.depth t).map (λts=>ts.all λu=>gl P u==E k)=E Z)(L:P.cellsOf t=n)(h:Value.okWide P w r base t v):
  ∃zs,v=.agg ⟨bB k zs⟩/\A zs=n/\∀z∈zs,k.has z:=by
 have H:∃d,v=.agg d/\d.size=P.cellsOf t/\Row.okWide P w r base t d:=by
  unfold Value.okWide at h;cases j:P.underlying t with
  |none=>rw[j] at g;cases g
  |some u=>rw[j] at g h;cases u<;>first|exact h|(cases g;done)
 obtain⟨d,rfl,M,ts,p,_,e⟩:=H;rw[p] at o;simp[acs,Mf,aaB,afP] at o;have f:∀i(v:Value),d[i]?=E v->∃z,v=Value.int k z/\k.has z:=λi v D=>by
  have⟨u,j,s⟩:=e i v D
  have c:=o u (ae9 j)
  have q:P.underlying u=E (.int k):=by
   unfold gl at c
   split at c
   ·rename_i J;cases c;exact J
   ·cases c
  simp[Cell.okWide,q,Cell.ok] at s
  cases v<;>simp_all
 have m:∀l,(∀v∈l,∃z,v=Value.int k z/\k.has z)->∃zs,l=bB k zs/\∀z∈zs,k.has z:=by
  intro l
  induction l with
  |nil=>intro _;exact⟨[],rfl,by simp⟩
  |cons a l K=>
   intro F
   obtain⟨z,rfl,G⟩:=F a (by simp)
   obtain⟨zs,rfl,b⟩:=K λv B=>F v (by simp[B])
   refine⟨z::zs,rfl,λy x=>?_⟩
   rcases af7.1 x with rfl|x
   ·exact G
   ·exact b y x
 obtain⟨zs,b,c⟩:=m d.toList λv B=>by
  obtain⟨i,D⟩:=ajl.1 B
  exact f i v (by simpa using D)
 refine⟨zs,by rw[<-b],?_,c⟩
 have:=ahV List.length b
 rw[aQ] at this
 simp at this
 omega
def Dx{w:World}{a:Addr}{c t fr k zs}(f:w.heap[a.block]?=E (.cells c t fr))(m:a.spot=Y)
  (n:∀i,i<A zs->w.cell? (a.add i)=E (.int k (X zs i 0))):bB k zs=(c.toList.drop a.off).take (A zs):=by
 have e:∀i,i<A zs->c.toList[a.off+i]?=E (.int k (X zs i 0)):=λi d=>by
  have h:=n i d;unfold World.cell? Addr.add at h;split at h
  ·rename_i p o j b;split at b
   ·rename_i g;subst g;rw[f] at b;cases b;simp[akk,m] at h;simpa using h
   ·simp[f,Mf,Obj.cells.injEq] at b;have⟨rfl,rfl,rfl⟩:=b;rename_i l;rw[acB l] at h;simpa using h
  ·cases h
 apply agh;intro i;simp only[bB,afr,af1,afO];by_cases d:i<A zs
 ·rw[ae8 d,e i d];simp[List.getD,aaQ d]
 ·rw[acB d,afs (by omega)];rfl
def qf.Rn{w a c t fr k zs len cap m}(l:w.heap[a.block]?=E (.cells c t fr))(h:a.spot=Y)(d:A zs=cap)(e:len<=cap)
  (n:∀i,i<A zs->w.cell? (a.add i)=E (.int k (X zs i 0))):qf (mb (lM w) m) I k (zs.take len) (.slice (E a) len cap):=by
 have g:A (zs.take len)=len:=by rw[afN];omega
 by_cases r:cap=0
 ·exact .inl ⟨abJ.1 (by omega),_,cap,by rw[show len=0 by omega],λq=>by cases q⟩
 ·have⟨b,o,p⟩:=a;simp only at h;subst h;have j:=Dx l rfl n;have f:o+cap<=c.size:=by have:=ahV List.length j;rw[aQ,afN,afj] at this;simp[aiv] at this;omega
  refine .inr ⟨b,o,cap,c,t,fr,by rw[g],pG l,(λq=>by cases q),?_,by omega,f⟩;rw[dW,j,g,ahy,d,agK e]
end
mutual
def vD:SV->Bool
 | .ro _ _ _=>false
 | .iX _ _=>false
 | .aO _ _ _ _=>false
 | .uG _ _ _=>false
 | .ye _ _ _=>false
 | .qI _ _ _ _ _ _ _=>false
 | .aF _ _ _=>false
 | .agg ps=>oz ps
 | .bP vs=>oz vs
 | .iface _ x=>vD x
 | .fn _ a b=>oz a&&oz b
 |_=>true
def oz:List SV->Bool
 | []=>true
 |x::xs=>vD x&&oz xs
end
section
variable {e e':cw} {s:Nat->Nat}
mutual
theorem VR.qb:∀{v:SV}{v':Value},vD v=true->(∀j p,uses j v=true->e.r j=some p->e'.r (s j)=some p)->VR e v v'->VR e' (mU s v) v'
 | .bool _,_,_,_,h=>h
 | .int _ _,_,_,_,h=>h
 | .str _,_,_,_,h=>h
 | .nl _,_,_,_,h=>h
 | .af _ _ _,_,_,_,h=>h
 | .aG b _ _,_,_,g,⟨p,h1,h2⟩=>⟨p,g b p (by simp[uses]) h1,h2⟩
 | .sl b _ _ _ _ _ _ _,_,_,g,h=>by
  rcases h with h|⟨p,c,a,h1,h2⟩
  ·exact .inl h
  ·exact .inr ⟨p,c,a,g b p (by simp[uses]) h1,h2⟩
 | .ro _ _ _,_,n,_,_=>by simp[vD] at n
 | .iX _ _,_,n,_,_=>by simp[vD] at n
 | .aO _ _ _ _,_,n,_,_=>by simp[vD] at n
 | .uG _ _ _,_,n,_,_=>by simp[vD] at n
 | .ye _ _ _,_,n,_,_=>by simp[vD] at n
 | .qI _ _ _ _ _ _ _,_,n,_,_=>by simp[vD] at n
 | .agg ps,_,n,g,⟨ys,h1,h2⟩=>⟨ys,PR.qb (by simpa[vD] using n) (λj p q=>g j p (by simpa[uses] using q)) h1,h2⟩
 | .bP vs,_,n,g,⟨ys,h1,h2⟩=>⟨ys,LR.qb (by simpa[vD] using n) (λj p q=>g j p (by simpa[uses] using q)) h1,h2⟩
 | .iface _ x,_,n,g,⟨y,h1,h2⟩=>⟨y,VR.qb (v:=x) (by simpa[vD] using n) (λj p q=>g j p (by simpa[uses] using q)) h1,h2⟩
 | .fn _ a b,_,n,g,⟨ys,us,h1,h2,h3⟩=>by
  simp only[vD,No] at n
  exact⟨ys,us,LR.qb n.1 (λj p q=>g j p (by simp[uses,q])) h1,LR.qb n.2 (λj p q=>g j p (by simp[uses,q])) h2,h3⟩
 | .aF _ _ _,_,_,_,h=>h.elim
 | .b9 b _ _ _ _,_,_,g,h=>by
  rcases h with h|⟨p,c,a,h1,h2⟩
  ·exact .inl h
  ·exact .inr ⟨p,c,a,g b p (by simp[uses]) h1,h2⟩
 | .fk b _ _ _ _,_,_,g,⟨p,h1,h2⟩=>⟨p,g b p (by simp[uses]) h1,h2⟩
 | .xD b,_,_,g,⟨p,h1,h2⟩=>⟨p,g b p (by simp[uses]) h1,h2⟩
 | .fU _ _,_,_,_,h=>h
theorem LR.qb:∀{vs:List SV}{ys:List Value},oz vs=true->(∀j p,eY j vs=true->e.r j=some p->e'.r (s j)=some p)->LR e vs ys->LR e' (jN s vs) ys
 | [],_,_,_,h=>h
 |x::xs,_,n,g,⟨y,zs,h1,h2,h3⟩=>by
  simp only[oz,No] at n
  exact⟨y,zs,VR.qb n.1 (λj p q=>g j p (by simp[eY,q])) h1,LR.qb n.2 (λj p q=>g j p (by simp[eY,q])) h2,h3⟩
theorem PR.qb:∀{vs:List SV}{ys:List Value},oz vs=true->(∀j p,eY j vs=true->e.r j=some p->e'.r (s j)=some p)->PR e vs ys->PR e' (jN s vs) ys
 | [],_,_,_,h=>h
 |x::xs,ys,n,g,h=>by
  simp only[oz,No] at n
  have ih:=λzs=>PR.qb (vs:=xs) (ys:=zs) n.2 (λj p q=>g j p (by simp[eY,q]))
  have iv:=λy=>VR.qb (v:=x) (v':=y) n.1 (λj p q=>g j p (by simp[eY,q]))
  cases x<;>first
   |(simp[vD] at n;done)
   |(obtain⟨zs,h1,h2⟩:=h;exact⟨zs,ih zs h1,h2⟩)
   |(obtain⟨y,zs,h1,h2,h3⟩:=h;exact⟨y,zs,iv y h1,ih zs h2,h3⟩)
end
end
def sP(is:List Nat)(h:List Blk):List Blk:=h.zipIdx.map λ(b,i)=>match is.contains i,b with
 |true,.b _=>.b []
 |_,b=>b
mutual
def eK(is:List Nat)(hg:List Blk):SV->Option (SV×Bool×Bool)
 | .aG b o i=>if is.contains b then some (.aG (is.idxOf b) o i,true,false) else none
 | .sl b o i z len cap ex wh=>if is.contains b then some (.sl (is.idxOf b) o i z len cap ex wh,true,false) else cA hg (.sl b o i z len cap ex wh)
 | .fn f a b=>match q9 is hg a,q9 is hg b with
  |some (x,p,s),some (y,q,t)=>some (.fn f x y,aa p q,s||t)
  |_,_=>none
 | .agg ps=>match q9 is hg ps with
  |some (l,p,t)=>some (.agg l,p,t)
  |none=>none
 | .iface ty x=>match eK is hg x with
  |some (y,p,t)=>some (.iface ty y,p,t)
  |none=>none
 | .bool b=>cA hg (.bool b)
 | .int k n=>cA hg (.int k n)
 | .str s=>cA hg (.str s)
 | .nl v=>cA hg (.nl v)
 | .af k n xs=>cA hg (.af k n xs)
 | .ro f k xs=>cA hg (.ro f k xs)
 | .iX f xss=>cA hg (.iX f xss)
 | .aO f z len g=>cA hg (.aO f z len g)
 | .b9 b z len cap ex=>if is.contains b then some (.b9 (is.idxOf b) z len cap ex,true,false) else cA hg (.b9 b z len cap ex)
 | .fk b z e o i=>if is.contains b then some (.fk (is.idxOf b) z e o i,true,false) else none
 | .xD b=>if is.contains b then some (.xD (is.idxOf b),true,false) else none
 |_=>none
def q9(is:List Nat)(hg:List Blk):List SV->Option (List SV×Bool×Bool)
 | []=>some ([],true,false)
 |x::xs=>match eK is hg x,q9 is hg xs with
  |some (y,p,a),some (l,q,b)=>some (y::l,aa p q,a||b)
  |_,_=>none
end
def FO{is hg v u p t}(g:eK is hg v=E (u,p,t))(a:bQ v=Z):bQ u=Z:=by
 cases v<;>simp only[eK] at g;case aG=>split at g<;>cases g;rfl
 case sl=>
  split at g
  ·cases g;rfl
  ·exact nB g rfl
 case fn=>split at g<;>cases g;rfl
 case agg=>split at g<;>cases g;rfl
 case iface=>split at g<;>cases g;rfl
 case b9=>
  split at g
  ·cases g;rfl
  ·exact nB g rfl
 case fk=>split at g<;>cases g;rfl
 case xD=>split at g<;>cases g;rfl
 case af=>cases a
 all_goals first|exact nB g rfl|cases g
def ij(h:List Blk):List Nat->List Blk->List Blk
 |i::c,b::a=>ij (h.set i b) c a
 |_,_=>h
def PC(s:Nat->Nat):Blk->Blk
 | .b a=>.b (jN s a)
 | .g _=>.gap
def s8:∀{h:List Blk}{is}{bs:List Blk},A (ij h is bs)=A h
 |_,[],_=>by simp[ij]
 |_,_::_,[]=>by simp[ij]
 |h,i::is,b::bs=>by simp[ij];rw[s8,ajT]
def sk:∀{h:List Blk}{is}{bs:List Blk}{i},i ∉ is->(ij h is bs)[i]?=h[i]?
 |_,[],_,_,_=>by simp[ij]
 |_,_::_,[],_,_=>by simp[ij]
 |h,a::is,b::bs,i,c=>by simp[af7,not_or] at c;simp[ij];rw[sk c.2,abI (λq=>c.1 q.symm)]
def z9:∀{h}{is}{bs}{q i},is.Nodup->is[q]?=E i->i<A h->q<A bs->(ij h is bs)[i]?=bs[q]?
 |_,[],_,_,_,_,c,_,_=>by simp at c
 |_,_::_,[],_,_,_,_,_,g=>by simp at g
 |h,a::is,b::bs,0,i,f,c,d,_=>by simp at c;subst c;simp[ij];rw[sk (ajH.1 f).1];simp[d]
 |h,a::is,b::bs,q+1,i,f,c,d,g=>by simp[ij];have:=z9 (h:=h.set a b) (ajH.1 f).2 (by simpa using c) (by simpa using d) (by simpa using g);simpa using this
def xP{is h}:A (sP is h)=A h:=by simp[sP]
def vG{is h i}:(sP is h)[i]?=(h[i]?).map λb=>match is.contains i,b with
  |true,.b _=>.b []
  |_,b=>b:=by unfold sP;rw[afr,List.getElem?_zipIdx];cases h[i]? <;>simp
section
variable {P:Program} {B:dj} {e:cw} {h:List Blk} {w:World}
def bM.sP(R:bM B e h w) is:bM B e (sP is h) w:={R with
 dom:=λi p a=>by rw[xP];exact R.dom i p a
 gr:=λi k a=>by
  rw[vG] at a;cases d:h[i]? with
  |none=>simp[d] at a
  |some b=>
   simp only[d,acs,Mf] at a
   cases f:is.contains i with
   |false=>
    rw[f] at a
    simp only at a
    subst a
    exact R.gr i k d
   |true=>
    rw[f] at a
    cases b with
    |g _=>cases a
    |b q=>
     simp[Blk.b.injEq] at a
     subst a
     rcases R.gr i q d with⟨l,j⟩|⟨p,o,l,j,c,t,rfl,m,u,r⟩
     ·exact .inl ⟨rfl,j⟩
     ·exact .inr ⟨p,_,l,j,c,t,rfl,m,aaH _,by simp[aC,PR]⟩
 gap:=λi g a=>by
  rw[vG] at a
  cases d:h[i]? with
  |none=>simp[d] at a
  |some b=>
   cases b with
   |g n=>
    simp only[d,acs,Mf] at a
    have:n=g:=by cases f:is.contains i<;>rw[f] at a<;>cases a<;>rfl
    subst this
    exact R.gap i _ d
   |b k=>
    simp only[d,acs,Mf] at a
    cases f:is.contains i<;>rw[f] at a<;>cases a
 iT:=by rw[xP];exact R.iT}
end
def vH(e:cw)(is:List Nat)(z:Nat->Option (Array Value×TypeId×(Nat×Nat)))(n:Nat):cw:=⟨λq=>(is[q]?).bind e.r,z,n,[],λ_=>Y⟩
def Dy(e:cw)(is:List Nat)(n:Nat):Bool:=is.any λi=>match e.r i with
 |some p=>p.n==n
 |none=>I
def Jg(e:cw)(w:World)(t:Bool):Nat:=match t with
 |true=>w.heap.size
 |false=>e.n0
def zC(e:cw)(w:World)(is:List Nat)(t:Bool):Nat->Option (Array Value×TypeId×(Nat×Nat)):=λn=>match t with
 |true=>match Dy e is n with
  |true=>Y
  |false=>lM w n
 |false=>e.z n
section
variable {P:Program} {B:dj} {e:cw} {h:List Blk} {w:World}
def vI{is n}:Dy e is n=Z↔∃i p,i∈is/\e.r i=E p/\p.n=n:=by
 unfold Dy;rw[afJ];constructor
 ·rintro⟨i,b,c⟩;cases a:e.r i with
  |none=>simp[a] at c
  |some p=>simp[a] at c;exact⟨i,p,b,a,c⟩
 ·rintro⟨i,p,b,a,d⟩
  exact⟨i,b,by simp[a,d]⟩
def Dz{is:List Nat}{b}(c:is.contains b=Z):is[is.idxOf b]?=E b:=by
 have a:b∈is:=by simpa using c
 rw[aaQ (List.idxOf_lt_length_of_mem a)];simp
def asp(R:bM B e h w){is T n x}(a:e.z n=E x):zC e w is T n=E x:=by cases T with
 |false=>exact a
 |true=>
  have b:Dy e is n=I:=by cases b:Dy .. with
   |false=>rfl
   |true=>
    obtain⟨i,p,_,g,rfl⟩:=vI.1 b
    rw[R.gM i p g] at a;cases a
  simp[zC,b]
  have⟨c,d,f⟩:=x
  exact pG (R.gN n c d f a)
def kJ(R:bM B e h w){is T} m{v u t v'}(g:cA (Sy.sP is h) v=E (u,Z,t))(L:t=Z->T=Z)(J:VR e v v'):VR (vH e is (zC e w is T) m) u v':=by
 have K:∀n x,e.z n=E x->zC e w is T n=E x:=λn x j=>by cases T with
  |false=>exact j
  |true=>
   have a:Dy e is n=I:=by cases a:Dy .. with
    |false=>rfl
    |true=>
     obtain⟨i,p,_,d,rfl⟩:=vI.1 a
     rw[R.gM i p d] at j;cases j
   simp[zC,a]
   have⟨c,q,H⟩:=x
   exact pG (R.gN n c q H j)
 have:=pH (R.sP is) K (λhT i p c q l d F=>by
  subst hT
  have a:Dy e is p.n=I:=by
   cases a:Dy e is p.n with
   |false=>rfl
   |true=>
    exfalso
    have⟨f,y,k,o,D⟩:=vI.1 a
    have:=R.inj f i y p o d D
    subst this
    have r:=R.dom f p d
    refine l ?_
    rw[vG,aaQ r,acs,show is.contains f=Z by simpa using k]
    cases G:h[f] with
    |b M=>rfl
    |g _=>
     have:=(R.gap f _ (by rw[aaQ r,G])).1
     rw[d] at this;cases this
  show zC e w is Z p.n=_
  simp[zC,a]
  exact pG F) m g L J
 exact VR.mono (e:=mb (zC e w is T) m) (e':=vH e is (zC e w is T) m) ⟨(λ_ _ h=>by cases h),λ_ _ h=>h,aar _⟩ this
def Aa{is z m}:∀b p,is.contains b=Z->e.r b=E p->(vH e is z m).r (is.idxOf b)=E p:=λb p c a=>by show(is[is.idxOf b]?).bind e.r=E p;rw[Dz c];exact a
mutual
theorem ue(R:bM B e h w){is:List Nat}{T:Bool}(m:Nat):∀{v u:SV}{t:Bool}{v':Value},eK is (sP is h) v=some (u,true,t)->(t=true->T=true)->VR e v v'->VR (vH e is (zC e w is T) m) u v'
 | .aG b o i,u,t,v',g,ht,hv=>by
  simp only[eK] at g
  split at g
  ·rename_i hb
   cases g
   obtain⟨p,h1,h2⟩:=hv
   exact⟨p,Aa b p hb h1,h2⟩
  ·cases g
 | .sl b o i z len cap ex wh,u,t,v',g,ht,hv=>by
  simp only[eK] at g
  split at g
  ·rename_i hb
   cases g
   rcases hv with hv|⟨p,c,a,h1,h2⟩
   ·exact .inl hv
   ·exact .inr ⟨p,c,a,Aa b p hb h1,h2⟩
  ·exact kJ R m g ht hv
 | .fn f a b,u,t,v',g,ht,hv=>by
  simp only[eK] at g
  split at g
  ·rename_i x p s y q t' ha hb
   simp only[Mf,aad,av] at g
   obtain⟨rfl,⟨rfl,rfl⟩,rfl⟩:=g
   obtain⟨ys,us,h1,h2,rfl⟩:=hv
   exact⟨ys,us,pK R m ha (λh=>ht (by rw[h];rfl)) h1,pK R m hb (λh=>ht (by rw[h];exact Bool.or_true _)) h2,rfl⟩
  ·cases g
 | .agg ps,u,t,v',g,ht,hv=>by
  simp only[eK] at g
  split at g
  ·rename_i l p t' hl
   simp only[Mf,aad] at g
   obtain⟨rfl,rfl,rfl⟩:=g
   obtain⟨ys,h1,rfl⟩:=hv
   exact⟨ys,uf R m hl ht h1,rfl⟩
  ·cases g
 | .iface ty x,u,t,v',g,ht,hv=>by
  simp only[eK] at g
  split at g
  ·rename_i y p t' hl
   simp only[Mf,aad] at g
   obtain⟨rfl,rfl,rfl⟩:=g
   obtain⟨y',h1,rfl⟩:=hv
   exact⟨y',ue R m hl ht h1,rfl⟩
  ·cases g
 | .bool b,u,t,v',g,ht,hv=>by simp only[eK] at g;exact kJ R m g ht hv
 | .int k n,u,t,v',g,ht,hv=>by simp only[eK] at g;exact kJ R m g ht hv
 | .str k,u,t,v',g,ht,hv=>by simp only[eK] at g;exact kJ R m g ht hv
 | .nl k,u,t,v',g,ht,hv=>by simp only[eK] at g;exact kJ R m g ht hv
 | .af k n xs,u,t,v',g,ht,hv=>by simp only[eK] at g;exact kJ R m g ht hv
 | .ro f k xs,u,t,v',g,ht,hv=>by simp only[eK] at g;exact kJ R m g ht hv
 | .iX f xs,u,t,v',g,ht,hv=>by simp only[eK] at g;exact kJ R m g ht hv
 | .aO f z len gg,u,t,v',g,ht,hv=>by simp only[eK] at g;exact kJ R m g ht hv
 | .uG _ _ _,u,t,v',g,_,_=>by simp[eK] at g
 | .ye _ _ _,u,t,v',g,_,_=>by simp[eK] at g
 | .qI _ _ _ _ _ _ _,u,t,v',g,_,_=>by simp[eK] at g
 | .bP _,u,t,v',g,_,_=>by simp[eK] at g
 | .fU _ _,u,t,v',g,_,_=>by simp[eK] at g
 | .aF _ _ _,u,t,v',g,_,_=>by simp[eK] at g
 | .b9 b z len cap ex,u,t,v',g,ht,hv=>by
  simp only[eK] at g
  split at g
  ·rename_i hb
   cases g
   rcases hv with hv|⟨p,c,a,h1,h2⟩
   ·exact .inl hv
   ·exact .inr ⟨p,c,a,Aa b p hb h1,h2⟩
  ·exact kJ R m g ht hv
 | .fk b z e o i,u,t,v',g,ht,hv=>by
  simp only[eK] at g
  split at g
  ·rename_i hb
   cases g
   obtain⟨p,h1,h2⟩:=hv
   exact⟨p,Aa b p hb h1,h2⟩
  ·cases g
 | .xD b,u,t,v',g,ht,hv=>by
  simp only[eK] at g
  split at g
  ·rename_i hb
   cases g
   obtain⟨p,h1,h2⟩:=hv
   exact⟨p,Aa b p hb h1,h2⟩
  ·cases g
theorem pK(R:bM B e h w){is:List Nat}{T:Bool}(m:Nat):∀{vs us:List SV}{t:Bool}{ys:List Value},q9 is (sP is h) vs=some (us,true,t)->(t=true->T=true)->LR e vs ys->LR (vH e is (zC e w is T) m) us ys
 | [],us,t,ys,g,_,hv=>by simp only[q9,Mf,aad] at g;obtain⟨rfl,_⟩:=g;exact hv
 |x::xs,us,t,ys,g,ht,hv=>by
  simp only[q9] at g
  split at g
  ·rename_i y p a l q b hx hl
   simp only[Mf,aad,av] at g
   obtain⟨rfl,⟨rfl,rfl⟩,rfl⟩:=g
   obtain⟨y',zs,h1,h2,rfl⟩:=hv
   exact⟨y',zs,ue R m hx (λh=>ht (by rw[h];rfl)) h1,pK R m hl (λh=>ht (by rw[h];exact Bool.or_true _)) h2,rfl⟩
  ·cases g
theorem uf(R:bM B e h w){is:List Nat}{T:Bool}(m:Nat):∀{vs us:List SV}{t:Bool}{ys:List Value},q9 is (sP is h) vs=some (us,true,t)->(t=true->T=true)->PR e vs ys->PR (vH e is (zC e w is T) m) us ys
 | [],us,t,ys,g,_,hv=>by simp only[q9,Mf,aad] at g;obtain⟨rfl,_⟩:=g;exact hv
 |x::xs,us,t,ys,g,ht,hv=>by
  simp only[q9] at g
  split at g
  ·rename_i y p a l q b hx hl
   simp only[Mf,aad,av] at g
   obtain⟨rfl,⟨rfl,rfl⟩,rfl⟩:=g
   have ha:a=true->T=true:=λh=>ht (by rw[h];rfl)
   have hb:b=true->T=true:=λh=>ht (by rw[h];exact Bool.or_true _)
   by_cases hn:bQ x=true
   ·obtain⟨y',zs,h1,h2,rfl⟩:=(PR.cons hn).1 hv
    exact(PR.cons (FO hx hn)).2 ⟨y',zs,ue R m hx ha h1,uf R m hl hb h2,rfl⟩
   ·cases x<;>simp[bQ] at hn
    case aF=>simp[eK] at hx
    simp only[eK,cA,Mf,aad] at hx
    obtain⟨rfl,_⟩:=hx
    obtain⟨zs,h2,rfl⟩:=hv
    exact⟨zs,uf R m hl hb h2,rfl⟩
  ·cases g
end
def lG(is:List Nat)(j:Nat)(q:Nat):Nat:=match is[q]? with
 |some i=>i
 |none=>j+(q-A is)
def PD(R:bM B e h w){is l}(V:is.Nodup)(hl:qa h is=E l)(FP:∀ps∈l,gA is ps=Z){t}(Vr:t=Z->∀ps∈l,oz ps=Z):
  bM ⟨w,vH e is (zC e w is t) (Jg e w t),A is,[]⟩ (vH e is (zC e w is t) (Jg e w t)) (l.map λps=>.b (jN (λb=>is.idxOf b) ps)) w:=by
 have⟨D,zZ⟩:=ov hl;have z:∀q p,(vH e is (zC e w is t) (Jg e w t)).r q=E p->∃i,is[q]?=E i/\e.r i=E p:=λq p F=>acU.1 F;have ZE:e.n0<=w.heap.size:=by have:=R.n0;have:=R.dK;have:=R.size;omega
 exact{
  os:=rfl,tape:=rfl,output:=rfl,size:=aar _
  inj:=λi j p q f hj M=>by
   have⟨a,d,m⟩:=z i p f
   have⟨b,J,N⟩:=z j q hj
   have:=R.inj a b p q m N M
   subst this
   exact(List.getElem?_inj (aaR.1 d).1 V).1 (d.trans J.symm)
  dom:=λi p f=>by
   have⟨a,d,_⟩:=z i p f
   have:=(aaR.1 d).1
   simpa[D] using this
  gM:=λi p f=>by
   have⟨a,d,m⟩:=z i p f
   show zC e w is t p.n=Y
   cases t with
   |false=>exact R.gM a p m
   |true=>simp[zC,vI.2 ⟨a,p,ae9 d,m,rfl⟩]
  gN:=λn c x K H=>by
   have v:zC e w is t n=E (c,x,K):=H
   cases t with
   |false=>exact R.gN n c x K v
   |true=>
    simp[zC] at v
    split at v
    ·cases v
    ·exact w5 v
  bN:=λ_ _ H=>.inl H,fU:=λg k xs hg=>(R.fU g k xs hg).imp λc ⟨x,K,d,m⟩=>⟨x,K,asp R d,m⟩,cM:=λ_ _ f=>.inl f,b6:=λ_ _ f=>f,cE:=λ_ _ H=>H,n0:=rfl
  dK:=by show Jg e w t<=w.heap.size;cases t<;>simp[Jg,ZE]
  gr:=λq ps F=>by
   rw[afr] at F
   have⟨u,d,m⟩:=aaC.1 F
   cases m
   have G:q<A is:=by have:=(aaR.1 d).1;omega
   have⟨ab,J,N⟩:=zZ q _ (aaQ G)
   rw[d] at J;cases J
   have U:(vH e is (zC e w is t) (Jg e w t)).r q=e.r is[q]:=by
    show(is[q]?).bind e.r=_;rw[aaQ G];rfl
   have y:=ae9 d
   rcases R.gr _ u N with⟨Q,L⟩|⟨p,o,Q,L,c,x,rfl,g3,g4,S⟩
   ·exact .inl ⟨by rw[dy];exact Q,by rw[U];exact L⟩
   ·refine .inr ⟨p,_,by rw[U];exact Q,L,c,x,rfl,g3,by rw[dy];exact g4,?_⟩
    rw[dy]
    have T:=λb p hu W=>by
     show(is[is.idxOf b]?).bind e.r=E p
     rw[Dz (by simpa using fN (FP u y) hu)];exact W
    cases t with
    |false=>exact PR.mU (e:=e) (e':=vH e is (zC e w is I) (Jg e w I)) (λ_ _ h=>h) (aar _) u _ T S
    |true=>exact PR.qb (Vr rfl u y) T S
  gap:=λq g F=>by
   rw[afr] at F
   have⟨_,_,m⟩:=aaC.1 F
   cases m
  yi:=(λi j n f=>by cases f),yb:=(λi n f=>by cases f)
  old:=λ_ _ _ _=>rfl
  lz:=λi p f=>by
   have⟨a,d,m⟩:=z i p f
   have⟨c,x,d,_⟩:=R.gu m
   exact⟨_,_,d,d,c,c,x,(0,0),rfl,rfl,rfl,λ_ _=>rfl⟩
  kr:=λi p f=>by
   have⟨a,d,_⟩:=z i p f
   exact(aaR.1 d).1
  iT:=by simp[D]
  g7:=λr z=>by cases z
  jG:=List.nodup_nil}
def FQ{is j q i}(h:is[q]?=E i):lG is j q=i:=by unfold lG;rw[h]
def Vs{is j q}(h:A is<=q):lG is j q=j+(q-A is):=by unfold lG;rw[afs h]
end
def ri(is:List Nat)(j:Nat)(h h1:List Blk):List Blk:=ij h is ((h1.take (A is)).map (PC (lG is j)))
def jT(is:List Nat)(j:Nat)(h1:List Blk):List Blk:=(h1.drop (A is)).map (PC (lG is j))
section
variable {P:Program}
theorem FR{f us v is l h1}(g:ak P f us (l.map λps=>.b (jN (λb=>is.idxOf b) ps)) v h1){h vs t}
  (tj:is.Nodup)(hl:qa h is=E l)(FP:∀ps∈l,gA is ps=Z)(Vr:t=Z->∀ps∈l,oz ps=Z)(aw:q9 is (sP is h) vs=E (us,Z,t))
  (aG:t=Z->gU v=I/\∀b∈h1,lC b=I)
  {B}{e:cw}{w args j}(a4:LR e vs args)(R:bM B e h w)(hj:nS h j (A h1-A is)):
  Calls P f ⟨args⟩ w λen w'=>∃v',en=.returned v'/\∃e2,VR e2 (mU (lG is j) v) v'/\bM B e2 (cO (ri is j h h1) j (jT is j h1)) w'/\c9 e e2 Y:=by
 have⟨ax,zZ⟩:=ov hl
 have a9:=pK R (Jg e w t) aw id a4
 have R0:=PD R tj hl FP Vr
 refine(g _ _ w args (by simp[ax]) a9 R0).mono ?_
 rintro en w' ⟨v',rfl,e',_,hv,S⟩
 have an:∀{q i},is[q]?=E i->i<A h:=λ{q i} d=>by
  have⟨ps,_,h4⟩:=zZ q i d
  exact(aaR.1 h4).1
 have ba:A is<=A h1:=S.iT
 have r0:∀q,(vH e is (zC e w is t) (Jg e w t)).r q=(is[q]?).bind e.r:=λ_=>rfl
 have FL:∀q p,e'.r q=E p->(∃i,is[q]?=E i/\e.r i=E p)\/w.heap.size<=p.n:=λq p d=>by
  rcases S.cM q p d with h|h
  ·exact .inl (acU.1 h)
  ·exact .inr h
 have a2:∀{q i p},is[q]?=E i->e.r i=E p->e'.r q=E p:=λ{q i p} d G=>S.b6 q p (by show(is[q]?).bind e.r=E p;rw[d];exact G)
 have oK:∀n,n<w.heap.size->(∀i p,i∈is->e.r i=E p->p.n≠n)->w'.heap[n]?=w.heap[n]? :=λn J af=>S.old n J (λq p d=>by
  have⟨i,h1,F⟩:=acU.1 (show(is[q]?).bind e.r=E p from d)
  exact af i p (ae9 h1) F) (by simp)
 have LC:∀{q i p p'},e'.r q=E p->e.r i=E p'->i ∉ is->p.n≠p'.n:=λ{q i p p'} d D ab a8=>by
  rcases FL q p d with⟨a,h1,F⟩|h
  ·have:=R.inj a i p p' F D a8
   subst this
   exact ab (ae9 h1)
  ·have:=R.lt D;omega
 have ZE:e.n0<=w.heap.size:=by have:=R.n0;have:=R.dK;have:=R.size;omega
 have a6:e'.n0=Jg e w t:=S.n0
 have bc:e.n0<=Jg e w t:=by cases t<;>simp[Jg,ZE]
 let W:=A h1-A is
 let z2:Nat->Option (Array Value×TypeId×(Nat×Nat)):=λn=>if n<w.heap.size then e.z n else e'.z n
 let r2:Nat->Option Pl:=λi=>if is.contains i=Z then e'.r (is.idxOf i) else if j<=i/\i<j+W then e'.r (A is+(i-j)) else e.r i
 let e2:cw:=⟨r2,z2,e.n0,e.m,e.y⟩
 have a5:∀{q i},is[q]?=E i->is.contains i=Z/\is.idxOf i=q:=λ{q i} d=>by
  have hm:=ae9 d
  refine⟨by simpa using hm,?_⟩
  have h1:=List.idxOf_lt_length_of_mem hm
  have F:is[is.idxOf i]?=E i:=by rw[aaQ h1];simp
  exact(List.getElem?_inj h1 tj).1 (F.trans d.symm)
 have Vt:∀i,j<=i/\i<j+W->is.contains i=Z->False:=λi D hc=>by
  have hm:i∈is:=by simpa using hc
  have⟨q,d⟩:=ajl.1 hm
  have⟨ps,_,h4⟩:=zZ q i d
  rcases hj with rfl|hg
  ·have:=an d;omega
  ·have:=hg (i-j) (by show i-j<A h1-A is;omega)
   rw[show j+(i-j)=i by omega,h4] at this;cases this
 have ae:∀{q i},is[q]?=E i->r2 i=e'.r q:=λ{q i} d=>by
  have⟨h1,F⟩:=a5 d
  show(if is.contains i=Z then e'.r (is.idxOf i) else _)=_
  rw[ae8 h1,F]
 have Vu:∀{i},j<=i/\i<j+W->r2 i=e'.r (A is+(i-j)):=λ{i} D=>by
  show(if is.contains i=Z then e'.r (is.idxOf i) else _)=_
  rw[acB (λhc=>Vt i D hc),ae8 D]
 have LD:∀{i},is.contains i≠Z->¬(j<=i/\i<j+W)->r2 i=e.r i:=λ{i} h1 F=>by
  show(if is.contains i=Z then e'.r (is.idxOf i) else _)=_
  rw[acB h1,acB F]
 have a1:∀{i p},e.r i=E p->¬(j<=i/\i<j+W):=λ{i p} G D=>by
  rcases hj with rfl|hg
  ·have:=R.dom i p G;omega
  ·have:=(R.gap i _ (by have:=hg (i-j) (by show i-j<A h1-A is;omega);rwa [show j+(i-j)=i by omega] at this)).1
   rw[G] at this;cases this
 have Ab:∀i p,r2 i=E p->(∃q,is[q]?=E i/\e'.r q=E p)\/((j<=i/\i<j+W)/\e'.r (A is+(i-j))=E p)\/(i ∉ is/\¬(j<=i/\i<j+W)/\e.r i=E p):=λi p G=>by
  by_cases hc:is.contains i=Z
  ·have⟨q,d⟩:=ajl.1 (show i∈is by simpa using hc)
   rw[ae d] at G
   exact .inl ⟨q,d,G⟩
  ·by_cases J:j<=i/\i<j+W
   ·rw[Vu J] at G;exact .inr (.inl ⟨J,G⟩)
   ·rw[LD hc J] at G;exact .inr (.inr ⟨by simpa using hc,J,G⟩)
 have up:∀i p,e.r i=E p->r2 i=E p:=λi p G=>by
  by_cases hc:is.contains i=Z
  ·have⟨q,d⟩:=ajl.1 (show i∈is by simpa using hc)
   rw[ae d];exact a2 d G
  ·rw[LD hc (a1 G)];exact G
 have al:∀q p,e'.r q=E p->e2.r (lG is j q)=E p:=λq p d=>by
  rcases agP q (A is) with hlq|hlq
  ·have D:is[q]?=E is[q]:=aaQ hlq
   rw[FQ D]
   show r2 is[q]=E p
   rw[ae D];exact d
  ·rw[Vs hlq]
   have hd:=S.dom q p d
   show r2 (j+(q-A is))=E p
   rw[Vu ⟨by omega,by show _<j+(A h1-A is);omega⟩,show A is+(j+(q-A is)-j)=q by omega]
   exact d
 have ad:cw.Le e e2:=⟨λi p G=>up i p G,λn x V=>by
  show(if n<w.heap.size then e.z n else e'.z n)=E x
  rw[ae8 (R.ZP V)];exact V,aar _⟩
 let e1:cw:={e' with z:=z2}
 have zt:t=Z->∀n x,e'.n0<=n->e'.z n=E x->z2 n=E x:=λht n x J V=>by
  show(if n<w.heap.size then e.z n else e'.z n)=E x
  rw[acB (by rw[a6,ht] at J;simp only[Jg] at J;omega)];exact V
 have zf:t=I->∀n x,e'.z n=E x->z2 n=E x:=λht n x V=>by
  show(if n<w.heap.size then e.z n else e'.z n)=E x
  by_cases J:n<w.heap.size
  ·rw[ae8 J]
   rcases S.bN n x V with q|q
   ·have q':zC e w is t n=E x:=q
    rw[ht] at q';exact q'
   ·exact absurd q (by show¬w.heap.size<=n;omega)
  ·rw[acB J];exact V
 have Vm:∀{u}{u'},(t=Z->gU u=I)->VR e' u u'->VR e1 u u':=λ{u u'} hs hu=>by
  by_cases ht:t=Z
  ·exact VR.fresh (e:=e') (e':=e1) rfl (zt ht) (aar _) (hs ht) hu
  ·exact VR.cN (e':=e1) (zf (by simpa using ht)) (aar _) u u' (λ_ _ _ h=>h) hu
 have Vn:∀{u}{u'},(t=Z->lB u=I)->PR e' u u'->PR e1 u u':=λ{u u'} hs hu=>by
  by_cases ht:t=Z
  ·exact PR.fresh (e:=e') (e':=e1) rfl (zt ht) (aar _) (hs ht) hu
  ·exact PR.cN (e:=e') (e':=e1) (zf (by simpa using ht)) (aar _) u u' (λ_ _ _ h=>h) hu
 have FN:e2.n0<=e1.n0:=by show e.n0<=e'.n0;omega
 refine⟨v',rfl,e2,VR.mU (e:=e1) (e':=e2) (λ_ _ h=>h) FN v v' (λq p _ G=>al q p G) (Vm (λht=>(aG ht).1) hv),?_,c9.xK ad rfl _⟩
 have ap:A (ri is j h h1)=A h:=s8
 have qm:A (jT is j h1)=W:=by simp[jT,W]
 have Lq:nS (ri is j h h1) j (A (jT is j h1)):=by
  rw[qm]
  rcases hj with hj|hg
  ·exact .inl (by rw[ap];exact hj)
  ·refine .inr λi D=>?_
   unfold ri
   rw[sk (λhm=>Vt (j+i) ⟨by omega,by omega⟩ (by simpa using hm))]
   exact hg i D
 have ar:∀q i,(is[q]?=E i\/(A is<=q/\(j<=i/\i<j+W)/\q=A is+(i-j)))->e2.r i=e'.r q/\(∀qs,h1[q]?=E (.b qs)->(aC (jN (lG is j) qs)=0/\e2.r i=Y)\/∃p o,e2.r i=E p/\w'.heap[p.n]?=E o/\BR e2 p (jN (lG is j) qs) o)/\(∀g,h1[q]?=E (.g g)->e2.r i=Y):=λq i a7=>by
  have Dv:e2.r i=e'.r q:=by
   rcases a7 with d|⟨_,d,rfl⟩
   ·exact ae d
   ·exact Vu d
  refine⟨Dv,λqs d=>?_,λg d=>by rw[Dv];exact(S.gap q g d).1⟩
  rcases S.gr q qs d with⟨g1,N⟩|⟨p,o,g1,N,c,ty,rfl,M,g4,g5⟩
  ·exact .inl ⟨by rw[dy];exact g1,by rw[Dv];exact N⟩
  ·refine .inr ⟨p,_,by rw[Dv];exact g1,N,c,ty,rfl,M,by rw[dy];exact g4,?_⟩
   rw[dy]
   exact PR.mU (e:=e1) (e':=e2) (λ_ _ h=>h) FN qs _ (λb p _ G=>al b p G) (Vn (λht=>(aG ht).2 _ (ae9 d)) g5)
 have t7:∀i(b:Blk),(cO (ri is j h h1) j (jT is j h1))[i]?=E b->(∃q c,(is[q]?=E i\/(A is<=q/\(j<=i/\i<j+W)/\q=A is+(i-j)))/\h1[q]?=E c/\b=PC (lG is j) c)\/(i ∉ is/\¬(j<=i/\i<j+W)/\h[i]?=E b):=λi b D=>by
  rw[pI Lq,qm] at D
  split at D
  ·rename_i hc
   simp only[jT,afr,afO] at D
   have⟨c,F,H⟩:=aaC.1 D
   exact .inl ⟨A is+(i-j),c,.inr ⟨by omega,hc,rfl⟩,F,H.symm⟩
  ·rename_i hc
   by_cases hm:i∈is
   ·have⟨q,d⟩:=ajl.1 hm
    have a0:=(aaR.1 d).1
    unfold ri at D
    rw[z9 tj d (an d) (by simp;omega),afr,afY a0] at D
    have⟨c,F,H⟩:=aaC.1 D
    exact .inl ⟨q,c,.inl d,F,H.symm⟩
   ·unfold ri at D
    rw[sk hm] at D
    exact .inr ⟨hm,hc,D⟩
 exact{
  os:=S.os.trans R.os,tape:=S.tape.trans R.tape,output:=S.output.trans R.output,size:=af3 R.size S.size
  inj:=λi i' p q D a3 L=>by
   rcases Ab i p D with⟨a,F,H⟩|⟨F,H⟩|⟨F,h4,H⟩<;>rcases Ab i' q a3 with⟨b,N,M⟩|⟨N,M⟩|⟨N,g4,M⟩
   ·have:=S.inj _ _ p q H M L
    subst this
    rw[F] at N;cases N;rfl
   ·have:=S.inj _ _ p q H M L
    have:=(aaR.1 F).1
    omega
   ·exact absurd L (LC H M N)
   ·have:=S.inj _ _ p q H M L
    have:=(aaR.1 N).1
    omega
   ·have:=S.inj _ _ p q H M L
    omega
   ·exact absurd L (LC H M N)
   ·exact absurd L.symm (LC M H F)
   ·exact absurd L.symm (LC M H F)
   ·exact R.inj _ _ p q H M L
  dom:=λi p D=>by
   rcases Ab i p D with⟨a,F,H⟩|⟨F,H⟩|⟨F,h4,H⟩
   ·exact Nat.lt_of_lt_of_le (by rw[ap];exact an F) iV
   ·have:=BS Lq (i:=i-j) (by rw[qm];omega)
    rwa [show j+(i-j)=i by omega] at this
   ·exact Nat.lt_of_lt_of_le (by rw[ap];exact R.dom i p H) iV
  gM:=λi p D=>by
   have ac:∀q,e'.r q=E p->z2 p.n=Y:=λq d=>by
    show(if p.n<w.heap.size then e.z p.n else e'.z p.n)=Y
    split
    ·rename_i bb
     rcases FL q p d with⟨a,_,F⟩|h
     ·exact R.gM a p F
     ·omega
    ·exact S.gM q p d
   rcases Ab i p D with⟨a,F,H⟩|⟨F,H⟩|⟨F,h4,H⟩
   ·exact ac _ H
   ·exact ac _ H
   ·show(if p.n<w.heap.size then e.z p.n else e'.z p.n)=Y
    rw[ae8 (R.lt H)];exact R.gM i p H
  gN:=λn c ty fr V=>by
   have T:(if n<w.heap.size then e.z n else e'.z n)=E (c,ty,fr):=V
   split at T
   ·rename_i J
    rw[oK n J (λi p D G Vv=>by subst Vv;rw[R.gM i p G] at T;cases T)]
    exact R.gN n c ty fr T
   ·exact S.gN n c ty fr T
  bN:=λn x V=>by
   have T:(if n<w.heap.size then e.z n else e'.z n)=E x:=V
   split at T
   ·exact R.bN n x T
   ·exact .inr (by have:=R.size;omega)
  fU:=λg k xs hg=>(R.fU g k xs hg).imp λc ⟨ty,fr,h1,F⟩=>⟨ty,fr,ad.z _ _ h1,F⟩
  cM:=λi p D=>by
   have ac:∀q,e'.r q=E p->(∀a,is[q]?=E a->a=i)->B.e.r i=E p\/B.w.heap.size<=p.n:=λq d ha=>by
    rcases FL q p d with⟨a,h1,F⟩|h
    ·have:=ha a h1;subst this;exact R.cM _ p F
    ·exact .inr (af3 R.size h)
   rcases Ab i p D with⟨a,F,H⟩|⟨F,H⟩|⟨F,h4,H⟩
   ·exact ac a H λb Q=>by rw[F] at Q;cases Q;rfl
   ·exact ac _ H λb Q=>by have:=(aaR.1 Q).1;omega
   ·exact R.cM i p H
  b6:=λi p D=>up i p (R.b6 i p D)
  cE:=λn x V=>ad.z n x (R.cE n x V)
  n0:=R.n0,dK:=R.dK
  gr:=λi ps D=>by
   rcases t7 i _ D with⟨q,c,d,hc,Q⟩|⟨ab,am,Q⟩
   ·cases c with
    |g _=>cases Q
    |b qs=>
     simp only[PC,Blk.b.injEq] at Q
     subst Q
     exact(ar q i d).2.1 qs hc
   ·have Dv:e2.r i=e.r i:=LD (by simpa using ab) am
    rcases R.gr i ps Q with⟨g1,N⟩|⟨p,o,g1,N,M⟩
    ·exact .inl ⟨g1,by rw[Dv];exact N⟩
    ·refine .inr ⟨p,o,by rw[Dv];exact g1,?_,M.mono ad⟩
     rw[oK p.n (R.lt g1) (λa p' ha ao Vv=>ab (by have:=R.inj a i p' p ao g1 Vv;subst this;exact ha))]
     exact N
  gap:=λi g D=>by
   rcases t7 i _ D with⟨q,c,d,hc,Q⟩|⟨ab,am,Q⟩
   ·cases c with
    |b qs=>cases Q
    |g g'=>
     simp only[PC,Blk.g.injEq] at Q
     subst Q
     exact⟨(ar q i d).2.2 _ hc,trivial⟩
   ·refine⟨?_,(R.gap i g Q).2.le (λn o J=>?_) rfl ad⟩
    ·show r2 i=Y
     rw[LD (by simpa using ab) am];exact(R.gap i g Q).1
    ·rw[oK n (abE.1 J).1 (λi p _ G Vv=>by
      subst Vv
      have⟨c,ty,hc,_⟩:=R.gu G
      rw[hc] at J;cases J)]
     exact J
  yi:=R.yi,yb:=R.yb
  old:=λn J af qm=>by
   rw[oK n (by have:=R.size;omega) (λi p D G Vv=>by
    rcases R.cM i p G with q|q
    ·exact af i p q Vv
    ·omega)]
   exact R.old n J af qm
  lz:=λi p D=>by
   have⟨o,o',g1,N,M⟩:=R.lz i p D
   have G:=R.b6 i p D
   by_cases hm:i∈is
   ·have⟨q,d⟩:=ajl.1 hm
    have⟨x,x',k1,k2,k3⟩:=S.lz q p (by show(is[q]?).bind e.r=E p;rw[d];exact G)
    have aO:w.heap[p.n]?=E x:=k1
    rw[N] at aO;cases aO
    exact⟨o,x',g1,k2,M.trans k3⟩
   ·exact⟨o,o',g1,by rw[oK p.n (R.lt G) (λa p' ha ao Vv=>hm (by have:=R.inj a i p' p ao G Vv;subst this;exact ha))];exact N,M⟩
  kr:=R.kr
  iT:=by have:=R.iT;have:=iV (h:=ri is j h h1) (j:=j) (new:=jT is j h1);omega
  g7:=λr hr=>by
   have hm:=R.g7 r hr
   rw[oK r (abE.1 hm.1).1 (λi p _ G Vv=>by
    subst Vv
    have⟨c,ty,hc,_⟩:=R.gu G
    have h9:=hm.1
    rw[hc] at h9;cases h9)]
   exact hm
  jG:=R.jG}
def aK.mut f fn(hf:P.funcs[f]?=E fn)(hn:(fn.name != "runtime.NumGoroutine")=Z)(i:fn.body.isSome=Z)(a:List SV->List Blk->List Nat)(nb:Nat)(F:List SV->List Blk->Option (SV×List Blk×Bool))
  (ok:∀us h0 v h1,F us h0=E (v,h1,Z)->ak P f us h0 v h1):aK P where
 f:=f;g:=λvs h j=>match qa h (a vs h),q9 (a vs h) (sP (a vs h) h) vs with
  |some l,E (us,p,t)=>match C (a vs h).Nodup&&l.all (gA (a vs h))&&(!t||l.all oz) with
   |true=>match F us (l.map λps=>.b (jN (λb=>(a vs h).idxOf b) ps)) with
    |some (v,h1,q)=>match t&&(gU v||h1.any lC) with
     |true=>Y
     |false=>E (mU (lG (a vs h) j) v,ri (a vs h) j h h1,jT (a vs h) j h1,aa p q)
    |none=>Y
   |false=>Y
  |_,_=>Y
 pf:=2;nb:=nb
 ok:=by
  intro vs h j v h' new g B e w args m R hj
  generalize hpk:a vs h=is at g
  split at g
  ·rename_i l us p t hl d
   split at g
   ·rename_i hc
    simp[No,aac,aaB] at hc
    have⟨⟨tj,FP⟩,o⟩:=hc
    split at g
    ·rename_i u h1 q hF
     split at g
     ·cases g
     ·rename_i k
      simp[Mf,aad,av] at g
      obtain⟨rfl,rfl,rfl,rfl,rfl⟩:=g
      have ZS:fn.body≠Y:=λq=>by rw[q] at i;cases i
      refine .inr ⟨fV hf (by simpa using hn) ZS _ w,?_⟩
      refine FR (ok us _ u h1 hF) tj hl FP (λht ps n=>?_) d (λht=>?_) m R (by simpa[jT] using hj)
      ·rw[ht] at o
       simp[Bool.not_true,Bool.false_or,aaB] at o
       exact o ps n
      ·rw[ht,af0,aiH] at k
       refine⟨k.1,λb i=>?_⟩
       cases hq:lC b with
       |false=>rfl
       |true=>
        have:=afJ.2 ⟨b,i,hq⟩
        rw[this] at k;cases k.2
    ·cases g
   ·cases g
  ·cases g
 pu:=⟨(λh=>by cases h),(λh=>by cases h)⟩
def rj{is j}:∀{b},is.contains b=Z->lG is j (is.idxOf b)=b:=λhb=>FQ (Dz hb)
mutual
theorem BU{is:List Nat}{j:Nat}:∀{v:SV},dL is v=true->mU (lG is j) (mU (λb=>is.idxOf b) v)=v
 | .aG b o i,h=>by simp only[dL] at h;simp only[mU,rj h]
 | .sl b o i z len cap ex wh,h=>by simp only[dL] at h;simp only[mU,rj h]
 | .agg ps,h=>by simp only[dL] at h;simp only[mU,kq h]
 | .bP ps,h=>by simp only[dL] at h;simp only[mU,kq h]
 | .iface t x,h=>by simp only[dL] at h;simp only[mU,BU h]
 | .fn f a b,h=>by simp only[dL,No] at h;simp only[mU,kq h.1,kq h.2]
 | .bool _,_=>rfl
 | .int _ _,_=>rfl
 | .str _,_=>rfl
 | .nl _,_=>rfl
 | .af _ _ _,_=>rfl
 | .ro _ _ _,_=>rfl
 | .iX _ _,_=>rfl
 | .aO _ _ _ _,_=>rfl
 | .uG _ _ _,_=>rfl
 | .ye _ _ _,_=>rfl
 | .qI _ _ _ _ _ _ _,_=>rfl
 | .aF _ _ _,_=>rfl
 | .b9 b _ _ _ _,h=>by simp only[dL] at h;simp only[mU,rj h]
 | .fk b _ _ _ _,h=>by simp only[dL] at h;simp only[mU,rj h]
 | .xD b,h=>by simp only[dL] at h;simp only[mU,rj h]
 | .fU _ _,_=>rfl
theorem kq{is:List Nat}{j:Nat}:∀{vs:List SV},gA is vs=true->jN (lG is j) (jN (λb=>is.idxOf b) vs)=vs
 | [],_=>rfl
 |x::xs,h=>by
  simp only[gA,No] at h
  simp only[jN,BU h.1,kq h.2]
end
def xQ:∀{h}{is}{bs},(∀(q i:Nat),is[q]?=E i->bs[q]?=h[i]?)->is.Nodup->ij h is bs=h
 |_,[],_,_,_=>by simp[ij]
 |_,_::_,[],_,_=>by simp[ij]
 |h,a::is,b::bs,f,j=>by
  simp[ij];have c:h[a]?=E b:=(f 0 a rfl).symm;have k:h.set a b=h:=by
   apply agh;intro x
   by_cases d:a=x
   ·subst d;rw[acg (aaR.1 c).1,c]
   ·rw[abI d]
  rw[k]
  exact xQ (λq i g=>by simpa using f (q+1) i (by simpa using g)) (ajH.1 j).2
def abL{is h h2}(d:Pw h h2):Pw (sP is h) (sP is h2):=λi k a=>by
 rw[vG] at a ⊢;cases c:h[i]? with
 |none=>rw[c] at a;simp at a
 |some b=>
  rw[c] at a
  cases b with
  |g o=>cases f:is.contains i<;>rw[f] at a<;>simp at a
  |b j=>rw[d i j c];exact a
mutual
theorem LF{is:List Nat}{h h2:List Blk}(hle:Pw h h2):∀{v:SV}{q:SV×Bool×Bool},eK is h v=some q->eK is h2 v=some q
 | .aG _ _ _,q,g=>by simp only[eK] at g ⊢;exact g
 | .sl b o i z len cap ex wh,q,g=>by
  simp only[eK] at g ⊢
  split
  ·rename_i hc;rw[ae8 hc] at g;exact g
  ·rename_i hc;rw[acB hc] at g;exact iZ hle g
 | .fn f a b,q,g=>by
  simp only[eK] at g ⊢
  split at g
  ·rename_i x p s y q' t ha hb;rw[vJ hle ha,vJ hle hb];exact g
  ·cases g
 | .agg ps,q,g=>by
  simp only[eK] at g ⊢
  split at g
  ·rename_i l p t hl;rw[vJ hle hl];exact g
  ·cases g
 | .iface ty x,q,g=>by
  simp only[eK] at g ⊢
  split at g
  ·rename_i y p t hl;rw[LF hle hl];exact g
  ·cases g
 | .bool _,q,g=>by simp only[eK] at g ⊢;exact iZ hle g
 | .int _ _,q,g=>by simp only[eK] at g ⊢;exact iZ hle g
 | .str _,q,g=>by simp only[eK] at g ⊢;exact iZ hle g
 | .nl _,q,g=>by simp only[eK] at g ⊢;exact iZ hle g
 | .af _ _ _,q,g=>by simp only[eK] at g ⊢;exact iZ hle g
 | .ro _ _ _,q,g=>by simp only[eK] at g ⊢;exact iZ hle g
 | .iX _ _,q,g=>by simp only[eK] at g ⊢;exact iZ hle g
 | .aO _ _ _ _,q,g=>by simp only[eK] at g ⊢;exact iZ hle g
 | .uG _ _ _,q,g=>by simp[eK] at g
 | .ye _ _ _,q,g=>by simp[eK] at g
 | .qI _ _ _ _ _ _ _,q,g=>by simp[eK] at g
 | .bP _,q,g=>by simp[eK] at g
 | .aF _ _ _,q,g=>by simp[eK] at g
 | .b9 b z len cap ex,q,g=>by
  simp only[eK] at g ⊢
  split
  ·rename_i hc;rw[ae8 hc] at g;exact g
  ·rename_i hc;rw[acB hc] at g;exact iZ hle g
 | .fk b z e o i,q,g=>by simp only[eK] at g ⊢;exact g
 | .xD b,q,g=>by simp only[eK] at g ⊢;exact g
 | .fU _ _,q,g=>by simp[eK] at g
theorem vJ{is:List Nat}{h h2:List Blk}(hle:Pw h h2):∀{v:List SV}{q:List SV×Bool×Bool},q9 is h v=some q->q9 is h2 v=some q
 | [],q,g=>by simp only[q9] at g ⊢;exact g
 |x::xs,q,g=>by
  simp only[q9] at g ⊢
  split at g
  ·rename_i y p a l q' b hx hl
   rw[LF hle hx,vJ hle hl];exact g
  ·cases g
end
def FT{h h2}(a:Pw h h2):∀{is}{l},qa h is=E l->qa h2 is=E l
 | [],l,g=>g
 |i::is,l,g=>by
  simp[qa] at g ⊢;split at g
  ·rename_i c f d b;rw[a i c d,FT a b];exact g
  ·cases g
def aK.rdm f fn(hf:P.funcs[f]?=E fn)(hn:(fn.name != "runtime.NumGoroutine")=Z)(x:fn.body.isSome=Z)(a:List SV->List Nat)(F:List SV->List Blk->Option (SV×Bool))
  (ok:∀us Q v,F us Q=E (v,Z)->ak P f us Q v Q):aK P where
 f:=f;g:=λvs h j=>match qa h (a vs),q9 (a vs) (sP (a vs) h) vs with
  |some l,E (us,p,t)=>match C (a vs).Nodup&&l.all (gA (a vs))&&(!t||l.all oz) with
   |true=>match F us (l.map λps=>.b (jN (λb=>(a vs).idxOf b) ps)) with
    |some (v,q)=>match t&&(gU v||(l.map λps=>Blk.b (jN (λb=>(a vs).idxOf b) ps)).any lC) with
     |true=>Y
     |false=>E (mU (lG (a vs) j) v,h,[],aa p q)
    |none=>Y
   |false=>Y
  |_,_=>Y
 pf:=1;nb:=0
 ok:=by
  intro vs h j v h' new g B e w args J R hj
  generalize hpk:a vs=is at g
  split at g
  ·rename_i l us p t D d
   split at g
   ·rename_i y
    simp[No,aac,aaB] at y
    have⟨⟨tj,FP⟩,N⟩:=y
    split at g
    ·rename_i u q H
     split at g
     ·cases g
     ·rename_i o
      simp[Mf,aad,av] at g
      obtain⟨rfl,rfl,rfl,rfl,rfl⟩:=g
      have ZS:fn.body≠Y:=λq=>by rw[q] at x;cases x
      have⟨n,zZ⟩:=ov D
      refine .inr ⟨fV hf (by simpa using hn) ZS _ w,?_⟩
      have K:jT is j (l.map λps=>.b (jN (λb=>is.idxOf b) ps))=[]:=by
       unfold jT
       rw[ahW (by simp[n])];rfl
      have L:ri is j h (l.map λps=>.b (jN (λb=>is.idxOf b) ps))=h:=by
       unfold ri
       refine xQ (λq i T=>?_) tj
       have⟨ps,G,z⟩:=zZ q i T
       have S:=(aaR.1 T).1
       rw[afr,afY S,afr,G,z]
       simp[acs,PC,Mf,Blk.b.injEq]
       exact kq (FP ps (ae9 G))
      refine(FR (j:=j) (ok us _ u H) tj D FP (λht ps M=>?_) d (λht=>?_) J R ?_).mono ?_
      ·rw[ht] at N
       simp[Bool.not_true,Bool.false_or,aaB] at N
       exact N ps M
      ·rw[ht,af0,aiH] at o
       refine⟨o.1,λb x=>?_⟩
       cases S:lC b with
       |false=>rfl
       |true=>
        have:=afJ.2 ⟨b,x,S⟩
        rw[this] at o;cases o.2
      ·simpa[n] using hj
      ·rintro en w' ⟨v',rfl,e2,G,z,h3⟩
       rw[L,K] at z
       exact⟨v',rfl,e2,G,z,h3⟩
    ·cases g
   ·cases g
  ·cases g
 pu:=by
  refine⟨(λh=>by cases h),λ_ vs h j v h' new p g=>?_⟩
  split at g
  ·rename_i l us p1 t D d
   split at g
   ·rename_i y
    split at g
    ·rename_i u q H
     split at g
     ·cases g
     ·rename_i o
      simp[Mf,aad] at g
      have⟨rfl,rfl,rfl,rfl⟩:=g
      refine⟨rfl,λh2 r=>?_⟩
      rw[FT r D,vJ (abL r) d]
      simp only
      rw[y];simp only;rw[H];simp only;rw[o]
    ·cases g
   ·cases g
  ·cases g
end
def PE.cD k n l:PE [.af k n l] [.af k n (cD n l)]:=⟨rfl,λe d ⟨c,b,a⟩=>⟨c,b,by rw[a,UB]⟩⟩
def VE.agg{ps qs}(h:PE ps qs):VE (.agg ps) (.agg qs):=λe _ ⟨a,c,b⟩=>⟨a,h.2 e a c,b⟩
def VE.refl v:VE v v:=λ_ _ h=>h
def PE.refl ps:PE ps ps:=⟨rfl,λ_ _ h=>h⟩
def SA:List SV->List SV->Prop
 | [],[]=>True
 |x::b,y::a=>VE x y/\SA b a
 |_,_=>False
def SA.get:∀{xs ys},SA xs ys->A xs=A ys/\∀(i:Nat)y,ys[i]?=E y->∃x,xs[i]?=E x/\VE x y
 | [],[],_=>⟨rfl,λi y h=>by simp at h⟩
 | [],_::_,h=>h.elim
 |_::_,[],h=>h.elim
 |x::xs,y::ys,⟨k,f⟩=>by
  have⟨j,g⟩:=SA.get f;refine⟨by simp[j],λi z a=>?_⟩;cases i with
  |zero=>simp at a;subst a;exact⟨x,rfl,k⟩
  |succ i=>simp at a;have⟨u,d,c⟩:=g i z a;exact⟨u,by simpa using d,c⟩
def Ef:List Blk->List Blk->Prop
 | [],[]=>True
 | .b f::d,.b i::c=>PE f i/\Ef d c
 | .g a::d,.g b::c=>a=b/\Ef d c
 |_,_=>False
def Ef.get:∀{xs ys},Ef xs ys->A xs=A ys/\(∀(i:Nat)o,ys[i]?=E (.b o)->∃ps,xs[i]?=E (.b ps)/\PE ps o)/\(∀(i:Nat)(g:Option Lp),ys[i]?=E (.g g)->xs[i]?=E (.g g))
 | [],[],_=>⟨rfl,(λi y h=>by simp at h),λi g h=>by simp at h⟩
 | .b ps::xs,.b o::ys,⟨n,k⟩=>by
  have⟨m,l,f⟩:=Ef.get k;refine⟨by simp[m],λi z c=>?_,λi g c=>?_⟩
  ·cases i with
   |zero=>simp at c;subst c;exact⟨ps,rfl,n⟩
   |succ i=>simp at c;have⟨u,f,j⟩:=l i z c;exact⟨u,by simpa using f,j⟩
  ·cases i with
   |zero=>simp at c
   |succ i=>simp at c;simpa using f i g c
 | .g a::xs,.g b::ys,⟨n,k⟩=>by
  subst n
  have⟨m,l,f⟩:=Ef.get k
  refine⟨by simp[m],λi z c=>?_,λi g c=>?_⟩
  ·cases i with
   |zero=>simp at c
   |succ i=>simp at c;have⟨u,f,j⟩:=l i z c;exact⟨u,by simpa using f,j⟩
  ·cases i with
   |zero=>simp at c ⊢;exact c
   |succ i=>simp at c;simpa using f i g c
 | [],_::_,h=>by simp[Ef] at h
 |_::_,[],h=>by simp[Ef] at h
 | .b _::_,.g _::_,h=>by simp[Ef] at h
 | .g _::_,.b _::_,h=>by simp[Ef] at h
def bG.tD{k t h h' o o'}(g:Ef h h'):bG k ⟨t,h,o⟩ ⟨t,h',o'⟩:=by have⟨f,d,c⟩:=g.get;exact bG.mono rfl (λi b a=>⟨b,a,VE.refl _⟩) f.symm d c
def bG.all{k t7 bs h h' o o'}(f:SA t7 bs)(g:Ef h h'):bG k ⟨t7.map E,h,o⟩ ⟨bs.map E,h',o'⟩:=by have⟨p,l,m⟩:=g.get;have⟨b,d⟩:=f.get;refine bG.mono (by simp[b]) (λi j a=>?_) p.symm l m;rw[afr] at a;have⟨y,n,q⟩:=aaC.1 a;cases q;have⟨x,c,r⟩:=d i j n;exact⟨x,by simp[c],r⟩
section
variable {P:Program}
def aP{Γ}(a:aq P Γ) n{f fn}(g:P.funcs[f]?=E fn){args v p}(e:(aV P Γ n fn args []).v3=E (v,p))(i:p=Z)(d:dL [] v=Z):ak P f args [] v []:=by
 have⟨⟨u,l,q⟩,c,e⟩:=aaC.1 e;simp[aad] at e;have⟨rfl,rfl⟩:=e;subst i;have j:∀u,mU (λb=>([]:List Nat).idxOf b) u=u\/True:=λ_=>.inr trivial;refine(ak.bZ a g c).post (bG.trans (bG.dS (n:=0) (aar _) ?_) (bG.refl _ _));unfold St.dS;rw[ae8]
 ·rfl
 ·simp[List.range_zero,List.all_cons,List.all_nil,Bool.and_true,List.take_zero,d]
def qA{Γ}(b:aq P Γ) n{f fn}(i:P.funcs[f]?=E fn){args h h1 v p} m(c:A h<=m)
  (e:(aV P Γ n fn args h).map (λx=>(x.1,x.2.1.take m,x.2.2))=E (v,h1,p))(j:p=Z)(g:dL (t8 m) v=Z)(a:h1.all (Vq m)=Z):ak P f args h v h1:=by have⟨⟨u,k,q⟩,d,e⟩:=aaC.1 e;simp[aad] at e;have⟨rfl,rfl,rfl⟩:=e;subst j;refine(ak.bZ b i d).post (bG.dS c ?_);unfold St.dS;rw[ae8];simp[List.all_cons,List.all_nil,Bool.and_true,g,a]
def ak.conv{f t7 bs h h2 h1 d v u}(g:ak P f bs h2 v h1)(k:SA t7 bs)(i:Ef h h2)(j:VE v u)(c:Ef h1 d):ak P f t7 h u d:=by have a:=i.get.1;refine(ak.pre g a (bG.all k i)).post ?_;exact bG.all (t7:=[v]) (bs:=[u]) ⟨j,trivial⟩ c
def ak.iH{Γ}(g:aq P Γ) n m j{f fn}(u:P.funcs[f]?=E fn){args h h' s v p}(l:A h<=j)(d:fn.body.isSome=Z)
  (i:∀s' x,TrL P Y (A h) ((aH (aI fn)).drop m) s x s'->TrL P Y (A h) (aH (aI fn)) ⟨aU fn.ntmps args,h,Z⟩ x s')
  (e:((eM P Γ n (A h) ((aH (aI fn)).drop m) s).bind λr=>match r.1 with
   | .ret| .normal=>(ke P r.2.t r.2.h fn.results.toList).map λq=>(fK q.1,r.2.h.take j,aa r.2.ob q.2)
   |_=>Y)=E (v,h',p))(k:p=Z)(y:dL (t8 j) v=Z)(c:h'.all (Vq j)=Z):ak P f args h v h':=by
 have⟨⟨x,s'⟩,z,e⟩:=acU.1 e;subst k;have b:∀_,((ke P s'.t s'.h fn.results.toList).map λq=>(fK q.1,s'.h.take j,aa s'.ob q.2))=E (v,h',Z)->ak P f args h v h':=λhx e=>by
  have⟨⟨F,q⟩,a,e⟩:=aaC.1 e
  simp[aad,av] at e
  obtain⟨rfl,rfl,o,rfl⟩:=e
  refine(ak.mk u d (i s' x (TrL.rest g n z o)) hx a).post (bG.dS l ?_)
  unfold St.dS
  rw[ae8]
  simp[List.all_cons,List.all_nil,Bool.and_true,y,c]
 cases x<;>simp only at e<;>first|exact b (by simp) e|cases e
end
section
variable {P:Program} {B:dj} {e:cw} {h:List Blk} {w:World}
def cw.enter(e:cw)(h:List Blk)(n:Nat):cw:={e with m:=n::e.m,y:=λi=>if i=A h then E (n+1) else match vc h i with|some _=>e.y i|none=>Y}
def Ac e h n:cw.Le e (e.enter h n):=⟨λ_ _ h=>h,λ_ _ h=>h,aar _⟩
def abM{i n L}(g:h[i]?=E (.g (E L))):(e.enter h n).y i=e.y i:=by show(if i=A h then E (n+1) else match vc h i with|some _=>e.y i|none=>Y)=e.y i;rw[acB (by have:=(aaR.1 g).1;omega),LB g]
def Ad(R:bM B e h w){i n m}(g:(e.enter h n).y i=E m):(i=A h/\m=n+1)\/(i<A h/\e.y i=E m/\m<w.heap.size):=by
 have a:(if i=A h then E (n+1) else match vc h i with|some _=>e.y i|none=>Y)=E m:=g;split at a
 ·rename_i d;cases a;exact .inl ⟨d,rfl⟩
 ·split at a
  ·rename_i L b;have b:=vw b;have⟨_,c,r,f,_⟩:=R.gap i _ b;rw[a] at c;cases c;exact .inr ⟨(aaR.1 b).1,a,(abE.1 f).1⟩
  ·cases a
def bM.enter(R:bM B e h w){t t'}(U:TR e t t') fn ps v body:
  bM B (e.enter h w.heap.size) (h++[.g (E ⟨w.heap.size+1,t,ps,v,body,.ready,Y⟩)]) ((w.alloc (.deferred (E []))).alloc (.loop {state:=.ready,pending:=Y,fn,tmps:=⟨t'⟩,params:=ps,assign:=v,body,defers:=w.heap.size})):=by
 generalize N:Obj.loop {state:=.ready,pending:=Y,fn,tmps:=⟨t'⟩,params:=ps,assign:=v,body,defers:=w.heap.size}=ob;have a:∀n,n<w.heap.size->((w.alloc (.deferred (E []))).alloc ob).heap[n]?=w.heap[n]? :=λn u=>(heap_alloc_old _ _ n (by rw[aiR];omega)).trans (heap_alloc_old w _ n u);have hd:((w.alloc (.deferred (E []))).alloc ob).heap[w.heap.size]?=E (.deferred (E [])):=(heap_alloc_old _ _ _ (by rw[aiR];omega)).trans (heap_alloc_new w _);have z:((w.alloc (.deferred (E []))).alloc ob).heap[w.heap.size+1]?=E ob:=by have:=heap_alloc_new (w.alloc (.deferred (E []))) ob;rwa [aiR] at this
 have le:=Ac e h w.heap.size;have get:∀(i:Nat)(b:Blk),(h++[.g (E ⟨w.heap.size+1,t,ps,v,body,.ready,Y⟩)])[i]?=E b->(i<A h/\h[i]?=E b)\/(i=A h/\b=.g (E ⟨w.heap.size+1,t,ps,v,body,.ready,Y⟩)):=λi b d=>by
  rcases agP .. with l|l
  ·rw[afy l] at d;exact .inl ⟨l,d⟩
  ·rw[afE l] at d
   have:=(aaR.1 d).1
   simp at this
   have q:i=A h:=by omega
   subst q
   simp at d
   exact .inr ⟨rfl,d.symm⟩
 exact{
  os:=R.os,tape:=R.tape,output:=R.output
  size:=by have:=R.size;rw[aiR,aiR];omega
  inj:=R.inj,dom:=λi p d=>by have:=R.dom i p d;simp;omega
  gM:=R.gM
  gN:=λn c V W G=>by rw[a n (R.ZP G)];exact R.gN n c V W G
  bN:=R.bN,fU:=R.fU,cM:=R.cM,b6:=R.b6,cE:=R.cE,n0:=R.n0,dK:=R.dK
  gr:=λi Q d=>by
   rcases get i _ d with⟨l,f⟩|⟨_,f⟩
   ·rcases R.gr i Q f with g|⟨p,o,q,M,D⟩
    ·exact .inl g
    ·exact .inr ⟨p,o,q,by rw[a p.n (R.lt q)];exact M,D.mono le⟩
   ·cases f
  gap:=λi g d=>by
   rcases get i _ d with⟨l,f⟩|⟨l,f⟩
   ·refine⟨(R.gap i g f).1,?_⟩
    have K:=(R.gap i g f).2
    cases g with
    |none=>trivial
    |some L=>exact K.le (λn o u=>by rw[a n (abE.1 u).1];exact u) (abM f) le
   ·cases f
    refine⟨?_,?_,_,by rw[z, <-N],rfl,rfl,rfl,rfl,rfl,U.mono le⟩
    ·cases q:e.r i with
     |none=>exact q
     |some p=>have:=R.dom _ p q;omega
    ·show(if i=A h then _ else _)=_
     rw[ae8 l]
  yi:=λi j n d hj=>by
   rcases Ad R d with⟨l,f⟩|⟨l,f,y⟩<;>rcases Ad R hj with⟨J,H⟩|⟨J,H,g3⟩
   ·omega
   ·omega
   ·omega
   ·exact R.yi i j n f H
  yb:=λi n d=>by
   rcases Ad R d with⟨l,f⟩|⟨l,f,y⟩
   ·exact .inr (by have:=R.size;omega)
   ·exact R.yb i n f
  old:=λn u x S=>by rw[a n (by have:=R.size;omega)];exact R.old n u x S
  lz:=λi p d=>by
   have⟨o,T,l,f,y⟩:=R.lz i p d
   exact⟨o,T,l,by rw[a p.n (R.lt (R.b6 i p d))];exact f,y⟩
  kr:=R.kr
  iT:=by have:=R.iT;simp;omega
  g7:=λr F=>by
   rcases af7.1 F with rfl|F
   ·exact⟨hd,R.size⟩
   ·have:=R.g7 r F
    exact⟨by rw[a r (abE.1 this.1).1];exact this.1,this.2⟩
  jG:=ajH.2 ⟨λhm=>by have:=(abE.1 (R.g7 _ hm).1).1;omega,R.jG⟩}
def bM.Vw(R:bM B e h w){i g}(hi:h[i]?=E (.g g)):bM B e (h.set i .gap) w:={R with
 dom:=λj p b=>by simpa using R.dom j p b
 gr:=λj d b=>by
  by_cases a:i=j
  ·subst a;rw[acg (aaR.1 hi).1] at b;cases b
  ·rw[abI a] at b;exact R.gr j d b
 gap:=λj f b=>by
  by_cases a:i=j
  ·subst a;rw[acg (aaR.1 hi).1] at b;cases b;exact⟨(R.gap i g hi).1,trivial⟩
  ·rw[abI a] at b;exact R.gap j f b
 iT:=by simpa using R.iT}
end
section
variable {P:Program}
theorem Tr.range{k g ps H body f fn first nM s v}{h1:Nat->List Blk}{hf q x} ob
  (hfn:P.funcs[f]?=E fn)(hn:(fn.name != "runtime.NumGoroutine")=Z)(hb:fn.body.isSome=Z)(hg:ev s.t g=E (.fn (.func f) first nM))
  (ou:∀l,ak P f (first++[.fn (.yield l) [] []]++nM) (s.h++[.g (E ⟨l,s.t,ps,H,body,.ready,Y⟩)]) v (h1 l))
  (hL:∀l,∃L,vc (h1 l) (A s.h)=E L/\L.l=l/\L.st≠.busy/\L.lR=q)(hh:∀l,(h1 l).set (A s.h) .gap=hf)(hx:Dd x=E q):
  Tr P Y k (.rangeFunc g ps H body) s x ⟨s.t,hf,ob⟩:=by
 intro B e w t' d Q nn hB hl R hQ
 refine wpIn_rangeFunc λasu _=>?_
 have R1:=R.enter hl asu ps H body
 generalize hW:(w.alloc (.deferred (E []))).alloc (.loop {state:=.ready,pending:=Y,fn:=asu,tmps:=⟨t'⟩,params:=ps,assign:=H,body,defers:=w.heap.size})=y at R1
 have⟨G,F,hy,hu,J⟩:=aT (d:=n6 e.m++d) hl hg
 have u:=
  ((hy.mono (Ac ..)).append (LR.one (show VR (e.enter s.h w.heap.size) (.fn (.yield (w.heap.size+1)) [] []) (.func (.yield (w.heap.size+1)) #[] #[]) from⟨[],[],rfl,rfl,rfl⟩))).append (hu.mono (Ac e _ _))
 have ZS:fn.body≠Y:=λq=>by rw[q] at hb;cases hb
 have ajM:=fV hfn (by simpa using hn) ZS ⟨G++[.func (.yield (w.heap.size+1)) #[] #[]]++F⟩ y
 refine⟨w.heap.size+1,[{target:=.collected w.heap.size,args:=#[]}],y,{target:=.fn (.func f) ⟨F⟩,args:=⟨G++[.func (.yield (w.heap.size+1)) #[] #[]]⟩},y,f,⟨G++[.func (.yield (w.heap.size+1)) #[] #[]]++F⟩,y,?_,?_,λ_ _=>trivial,?_,λh=>by simp[wF,Fence.wide] at h,mc.2 ?_⟩
 ·rw[<-hW];exact run_enterLoop_outer _ _ _ _ _
 ·simp only[resolve,J,Deferred.ofValue,ach]
  congr 2
  apply aiD
  simp[Act.eval]
 ·simp only[invoke]
  rw[<-ajM]
  congr 2
  apply aiD
  simp
 ·refine(ou (w.heap.size+1) _ _ y _ (aar _) (u.mono (jH _ _)) R1.self).mono ?_
  rintro en w' ⟨v',rfl,e',_,hv,S⟩
  have T:=R1.trans S
  have⟨L,aAv,z,aAw,D⟩:=hL (w.heap.size+1)
  have j:=vw aAv
  have⟨_,_,r,K,_,_,_,hst,hpd,_⟩:=T.gap _ _ j
  have T2:=T.Du j K .exhausted L.lR
  have T3:=T2.Vw (acg (aaR.1 j).1)
  rw[List.set_set,hh] at T3
  rw[z] at K
  refine⟨r.pending,_,run_endLoop K (by rw[hst];exact aAw),?_⟩
  have b:=hpd.trans D
  have le:cw.Le e {e' with m:=(e.enter s.h w.heap.size).m}:=⟨λi p hp=>S.b6 i p hp,λn o ho=>S.cE n o ho,by show e'.n0<=e.n0;rw[S.n0];exact aar _⟩
  have mT:=hQ {e' with m:=(e.enter s.h w.heap.size).m} _ t' (hl.mono le) T3
  have hpe:L.lR=r.pending:=D.trans b.symm
  rw[hpe,z] at mT
  rw[b]
  rw[b] at mT
  cases x<;>simp[Dd,Mf,reduceCtorEq] at hx<;>subst hx
  ·rw[<-b];rw[b];exact mT
  ·exact wpIn_exit mT
  ·exact wpIn_ret mT
def asv(a:Nat):Code->Bool
 | .block j (.rangeFunc _ _ _ _)=>j==a
 |_=>I
def rfG:Code->Operand
 | .rangeFunc g _ _ _=>g
 |_=>.const .nilFunc
def rfP:Code->Array Tmp
 | .rangeFunc _ a _ _=>a
 |_=>#[]
def rfA:Code->Code
 | .rangeFunc _ _ a _=>a
 |_=>.skip
def SE:Code->Code
 | .rangeFunc _ _ _ b=>b
 |_=>.skip
def IA(c:Code)(t:List (Option SV))(l:Nat):Lp:=⟨l,t,rfP (aj c),rfA (aj c),SE (aj c),.ready,Y⟩
def Tr.zi r{k c}(i:asv r c=Z){f fn first nM s v}{h1:Nat->List Blk}{m} d
  (a:P.funcs[f]?=E fn)(u:(fn.name != "runtime.NumGoroutine")=Z)(n:fn.body.isSome=Z)(o:ev s.t (rfG (aj c))=E (.fn (.func f) first nM))
  (p:∀l,ak P f (first++[.fn (.yield l) [] []]++nM) (s.h++[.g (E (IA c s.t l))]) v (h1 l))
  (q:∀l,∃L,vc (h1 l) (A s.h)=E L/\L.l=l/\L.st≠.busy/\L.lR=Y)(x:∀l,(h1 l).set (A s.h) .gap=m):
  Tr P Y k c s .normal ⟨s.t,m,d⟩:=by cases c<;>simp[asv,aii] at i;rename_i j b;cases b<;>simp[aii] at i;exact Tr.cz (Tr.range d a u n o p q x rfl) (by simp)
end
mutual
def fz(b:Nat)(k:IntKind)(l:pD):SV->SV
 | .sl b' o i z len cap ex wh=>match Nat.beq b' b with
  |true=>match wh with
   |true=>.ro true k l
   |false=>.ro true k ((l.drop i).take len)
  |false=>.sl b' o i z len cap ex wh
 | .agg ps=>.agg (X6 b k l ps)
 | .bP vs=>.bP (X6 b k l vs)
 | .iface t x=>.iface t (fz b k l x)
 | .fn f u v=>.fn f (X6 b k l u) (X6 b k l v)
 |v=>v
def X6(b:Nat)(k:IntKind)(l:pD):List SV->List SV
 | []=>[]
 |x::xs=>fz b k l x::X6 b k l xs
end
mutual
def qp(b n:Nat):SV->Bool
 | .aG b' _ _=>!Nat.beq b' b
 | .sl b' o i z len _ _ wh=>match Nat.beq b' b with
  |true=>Nat.beq o 0&&Nat.beq z 1&&(match wh with
   |true=>Nat.beq i 0&&decide (len=n)
   |false=>decide (i+len<=n))
  |false=>true
 | .agg ps=>qk b n ps
 | .bP vs=>qk b n vs
 | .iface _ x=>qp b n x
 | .fn _ u v=>aa (qk b n u) (qk b n v)
 | .b9 b' _ _ _ _=>!Nat.beq b' b
 | .fk b' _ _ _ _=>!Nat.beq b' b
 | .xD b'=>!Nat.beq b' b
 |_=>true
def qk(b n:Nat):List SV->Bool
 | []=>true
 |x::xs=>aa (qp b n x) (qk b n xs)
end
def fzB(b:Nat)(k:IntKind)(l:pD):Blk->Blk
 | .b a=>.b (X6 b k l a)
 | .g g=>.g g
def DP(b n:Nat):Blk->Bool
 | .b a=>qk b n a
 | .g (E L)=>L.t.all (lA b)
 | .g Y=>Z
def qj(b n:Nat):List Blk->Nat->Bool
 | [],_=>Z
 |x::a,i=>aa (match Nat.beq i b with|true=>Z|false=>DP b n x) (qj b n a (i+1))
def sy(b:Nat) k l:∀ps,aC (X6 b k l ps)=aC ps
 | []=>rfl
 |x::a=>by
  have d:=sy b k l a
  have c:kf (fz b k l x)=kf x:=by
   cases x<;>simp only[fz]<;>try rfl
   split
   ·split<;>rfl
   ·rfl
  simp only[X6,aC,c,d]
def JZ(b:Nat) k l{x}(h:bQ x=Z):bQ (fz b k l x)=Z:=by
 cases x<;>simp only[fz]<;>try exact h
 split
 ·split<;>rfl
 ·rfl
section
variable {e e':cw} {b:Nat} {k:IntKind} {l:pD}
mutual
theorem MD(hz:∀n o,e.z n=some o->e'.z n=some o)(hn:e'.n0<=e.n0)(hr:∀j q,j≠b->e.r j=some q->e'.r j=some q)
  (H:∀i len cap ex v' xs,(xs=l/\i=0/\len=l.length\/xs=(l.drop i).take len/\i+len<=l.length)->VR e (.sl b 0 i 1 len cap ex false) v'->qf e' true k xs v'):
  ∀(v:SV)(v':Value),qp b l.length v=true->VR e v v'->VR e' (fz b k l v) v'
 | .bool _,_,_,h=>h
 | .int _ _,_,_,h=>h
 | .str _,_,_,h=>h
 | .nl _,_,_,h=>h
 | .af _ _ _,_,_,h=>h
 | .aG b' o i,_,g,⟨p,h1,h2⟩=>⟨p,hr b' p (λq=>by subst q;simp[qp] at g) h1,h2⟩
 | .sl b' o i z len cap ex wh,v',g,h=>by
  simp only[fz,qp] at g ⊢
  cases hb:Nat.beq b' b with
  |true=>
   obtain rfl:=acr hb
   simp only[hb,No] at g ⊢
   obtain⟨⟨h1,h2⟩,h3⟩:=g
   obtain rfl:=acr h1
   obtain rfl:=acr h2
   have h':VR e (.sl b' 0 i 1 len cap ex false) v':=h
   cases wh with
   |true=>
    simp only[No,aac] at h3 ⊢
    exact H i len cap ex v' l (.inl ⟨rfl,acr h3.1,h3.2⟩) h'
   |false=>
    simp only[aac] at h3 ⊢
    exact H i len cap ex v' _ (.inr ⟨rfl,h3⟩) h'
  |false=>
   have hne:b'≠b:=λq=>by subst q;simp at hb
   show VR e' (.sl b' o i z len cap ex wh) v'
   rcases h with h|⟨p,c,a,h1,h2⟩
   ·exact .inl h
   ·exact .inr ⟨p,c,a,hr b' p hne h1,h2⟩
 | .ro f k xs,v',_,h=>VR.cN hz hn (.ro f k xs) v' (λ_ _ q=>by cases q) h
 | .iX f xss,v',_,h=>VR.cN hz hn (.iX f xss) v' (λ_ _ q=>by cases q) h
 | .aO f z len g,v',_,h=>VR.cN hz hn (.aO f z len g) v' (λ_ _ q=>by cases q) h
 | .uG k xs i,v',_,h=>VR.cN hz hn (.uG k xs i) v' (λ_ _ q=>by cases q) h
 | .ye f xss i,v',_,h=>VR.cN hz hn (.ye f xss i) v' (λ_ _ q=>by cases q) h
 | .qI f z len g a b c,v',_,h=>VR.cN hz hn (.qI f z len g a b c) v' (λ_ _ q=>by cases q) h
 | .agg ps,_,g,⟨ys,h1,h2⟩=>⟨ys,X7 hz hn hr H ps ys (by simpa only[qp] using g) h1,h2⟩
 | .bP vs,_,g,⟨ys,h1,h2⟩=>⟨ys,ME hz hn hr H vs ys (by simpa only[qp] using g) h1,h2⟩
 | .iface _ x,_,g,⟨y,h1,h2⟩=>⟨y,MD hz hn hr H x y (by simpa only[qp] using g) h1,h2⟩
 | .fn _ a c,_,g,⟨ys,us,h1,h2,h3⟩=>by
  simp only[qp,av] at g
  exact⟨ys,us,ME hz hn hr H a ys g.1 h1,ME hz hn hr H c us g.2 h2,h3⟩
 | .aF _ _ _,_,_,h=>h
 | .b9 b' _ _ _ _,_,g,h=>by
  rcases h with h|⟨p,c,a,h1,h2⟩
  ·exact .inl h
  ·exact .inr ⟨p,c,a,hr b' p (λq=>by subst q;simp[qp] at g) h1,h2⟩
 | .fk b' _ _ _ _,_,g,⟨p,h1,h2⟩=>⟨p,hr b' p (λq=>by subst q;simp[qp] at g) h1,h2⟩
 | .xD b',_,g,⟨p,h1,h2⟩=>⟨p,hr b' p (λq=>by subst q;simp[qp] at g) h1,h2⟩
 | .fU _ _,_,_,h=>h
theorem ME(hz:∀n o,e.z n=some o->e'.z n=some o)(hn:e'.n0<=e.n0)(hr:∀j q,j≠b->e.r j=some q->e'.r j=some q)
  (H:∀i len cap ex v' xs,(xs=l/\i=0/\len=l.length\/xs=(l.drop i).take len/\i+len<=l.length)->VR e (.sl b 0 i 1 len cap ex false) v'->qf e' true k xs v'):
  ∀(vs:List SV)(ys:List Value),qk b l.length vs=true->LR e vs ys->LR e' (X6 b k l vs) ys
 | [],_,_,h=>h
 |x::xs,_,g,⟨y,zs,h1,h2,h3⟩=>by
  simp only[qk,av] at g
  exact⟨y,zs,MD hz hn hr H x y g.1 h1,ME hz hn hr H xs zs g.2 h2,h3⟩
theorem X7(hz:∀n o,e.z n=some o->e'.z n=some o)(hn:e'.n0<=e.n0)(hr:∀j q,j≠b->e.r j=some q->e'.r j=some q)
  (H:∀i len cap ex v' xs,(xs=l/\i=0/\len=l.length\/xs=(l.drop i).take len/\i+len<=l.length)->VR e (.sl b 0 i 1 len cap ex false) v'->qf e' true k xs v'):
  ∀(vs:List SV)(ys:List Value),qk b l.length vs=true->PR e vs ys->PR e' (X6 b k l vs) ys
 | [],_,_,h=>h
 |x::xs,ys,g,h=>by
  simp only[qk,av] at g
  have ih:=λzs=>X7 hz hn hr H xs zs g.2
  have iv:=λy=>MD hz hn hr H x y g.1
  by_cases hx:bQ x=true
  ·rw[PR.cons hx] at h
   obtain⟨y,zs,h1,h2,h3⟩:=h
   rw[X6,PR.cons (JZ b k l hx)]
   exact⟨y,zs,iv y h1,ih zs h2,h3⟩
  ·cases x<;>simp[bQ] at hx
   ·obtain⟨zs,h1,h2⟩:=h
    exact⟨zs,ih zs h1,h2⟩
   ·obtain⟨us,zs,h0,h1,h2,h3⟩:=h
    exact⟨us,zs,h0,λi hi=>PR.mono (e:=⟨λ_=>none,e.z,e.n0,[],λ_=>none⟩) (e':=⟨λ_=>none,e'.z,e'.n0,[],λ_=>none⟩) ⟨(λ_ _ h=>by cases h),hz,hn⟩ (h1 i hi),ih zs h2,h3⟩
end
end
def St.fz(b:Nat)(s:St):Option (St×Bool):=match s.h[b]? with
 |some (.b [.af k n l])=>E (⟨s.t.map (λo=>o.map (Sy.fz b k l)),(s.h.map (fzB b k l)).set b (.b []),s.ob⟩,
   aa (C (A l=n)) (aa (s.t.all λo=>match o with|some v=>qp b n v|none=>Z) (qj b n s.h 0)))
 |_=>Y
def GI{b n:Nat}:∀{h}{j i:Nat}{x},qj b n h j=Z->h[i]?=E x->j+i≠b->DP b n x=Z
 | [],_,_,_,_,h,_=>by simp at h
 |y::h,j,0,x,g,e,a=>by
  simp only[afZ,Mf] at e
  subst e
  simp only[qj,av] at g
  have:=g.1
  cases c:Nat.beq j b with
  |true=>exact absurd (acr c) a
  |false=>simpa only[c] using this
 |y::h,j,i+1,x,g,e,a=>by
  simp only[qj,av] at g
  exact GI g.2 (by simpa using e) (by omega)
def bG.freeze{k b s s'}(hb:k<=b)(h:s.fz b=E (s',Z)):bG k s s':=by
 unfold St.fz at h
 split at h
 case h_2=>cases h
 rename_i K n l WJ
 simp only[Mf,aad,av,aac] at h
 have⟨rfl,rfl,h1,h2⟩:=h
 rw[aaB] at h1
 intro B e w t' hB hl R
 have am:=(aaR.1 WJ).1
 have ab:∃e',e'.m=e.m/\e'.n0=e.n0/\e'.y=e.y/\(∀j,e'.r j=if j=b then Y else e.r j)/\(∀n o,e.z n=E o->e'.z n=E o)/\
   (∀n c t fr,e'.z n=E (c,t,fr)->w.heap[n]?=E (.cells c t fr))/\(∀n x,e'.z n=E x->e.z n=E x\/B.w.heap.size<=n)/\(∀i p,i≠b->e.r i=E p->e'.z p.n=Y)/\
   (∀i d cap ex G D,(D=l/\i=0/\d=A l\/D=(l.drop i).take d/\i+d<=A l)->VR e (.sl b 0 i 1 d cap ex I) G->qf e' Z K D G):=by
  have empty:∀e'(i d:Nat)a(D:pD),d=0->(D=l/\i=0/\d=A l\/D=(l.drop i).take d/\i+d<=A l)->qf e' Z K D (.slice a 0 0):=λe' i d a D h0 Q=>by
   refine .inl ⟨?_,a,0,rfl,λ_=>rfl⟩
   rcases Q with⟨rfl,_,h⟩|⟨rfl,_⟩
   ·exact abJ.1 (by omega)
   ·rw[h0];rfl
  rcases R.gr b _ WJ with⟨S,U⟩|⟨p,o,S,U,c,t,rfl,g3,g4,g5⟩
  ·refine⟨e,rfl,rfl,rfl,λj=>?_,λ_ _ h=>h,R.gN,λ_ _ h=>.inl h,λi p _ f=>R.gM i p f,λi d cap ex G D Q hv=>?_⟩
   ·split
    ·rename_i q;rw[q,U]
    ·rfl
   ·rcases hv with⟨N,q2,a,rfl⟩|⟨p,_,_,N,_⟩
    ·exact empty e i d a D N Q
    ·rw[U] at N;cases N
  ·have ad:=R.gM b p S
   have al:B.w.heap.size<=p.n:=by
    rcases R.cM b p S with q|q
    ·have:=R.kr b p q;omega
    ·exact q
   refine⟨{e with r:=λj=>if j=b then Y else e.r j,z:=λm=>if m=p.n then E (c,t,(0,0)) else e.z m},rfl,rfl,rfl,λj=>rfl,λm o L=>?_,λm c' t' fr L=>?_,λm x L=>?_,λi q f M=>?_,λi d cap ex G D Q hv=>?_⟩
   ·show(if m=p.n then _ else _)=_
    rw[acB (λq=>by rw[q,ad] at L;cases L)];exact L
   ·have H:(if m=p.n then E (c,t,(0,0)) else e.z m)=E (c',t',fr):=L
    split at H
    ·rename_i q;cases H;rw[q];exact U
    ·exact R.gN m c' t' fr H
   ·have H:(if m=p.n then E (c,t,(0,0)) else e.z m)=E x:=L
    split at H
    ·rename_i q;right;omega
    ·exact .inl H
   ·show(if q.n=p.n then _ else _)=_
    rw[acB (λh=>f (R.inj i b q p M S h))]
    exact R.gM i q M
   ·rcases hv with⟨N,q2,a,rfl⟩|⟨p',T,a,N,rfl,q2,q3,q4,q5,q6⟩
    ·exact empty _ i d a D N Q
    ·rw[S] at N;cases N
     by_cases hc:T=0
     ·have h0:d=0:=by omega
      subst hc;subst h0
      exact empty _ i 0 _ D rfl Q
     ·have ha:=q2 hc
      have hs:=q6 hc
      have J:bB K l=(c.toList.drop p.base).take (A l):=by
       have⟨zs,z1,z2⟩:=g5
       rw[PR] at z1;subst z1
       rw[acj,bV rfl] at z2
       rw[z2.symm]
       simp[aC,kf]
      have hn:aC [SV.af K (A l) l]=A l:=by simp[aC,kf]
      rw[hn] at g4
      refine .inr ⟨p.n,a,T,c,t,(0,0),?_,ae8 rfl,λ_=>?_,?_,?_,?_⟩
      ·congr 1
       rcases Q with⟨rfl,rfl,h⟩|⟨rfl,h⟩
       ·exact h
       ·rw[afN,afj];omega
      ·show e.n0<=p.n
       have:=R.n0;have:=R.dK;omega
      ·rcases Q with⟨rfl,rfl,hh⟩|⟨rfl,hh⟩
       ·rw[ha,J];simp
       ·rw[dW,gz,J,ha,ahB,ahy,afu,afN,afj]
        rw[af8,ajC]
      ·rcases Q with⟨rfl,rfl,hh⟩|⟨rfl,hh⟩
       ·omega
       ·rw[afN,afj];omega
      ·rw[ha];omega
 have⟨e',k1,k2,k3,k4,k5,k6,k7,k8,k9⟩:=ab
 have hr:∀j q,j≠b->e.r j=E q->e'.r j=E q:=λj q hj M=>by rw[k4,acB hj];exact M
 have F:∀j q,e'.r j=E q->j≠b/\e.r j=E q:=λj q M=>by
  rw[k4] at M
  split at M
  ·cases M
  ·rename_i hj;exact⟨hj,M⟩
 have hk:∀j q,B.e.r j=E q->j≠b:=λj q M h=>by have:=R.kr j q M;omega
 have ac:=λv G=>MD k5 (by rw[k2];exact aar _) hr k9 v G
 have ae:=λv G=>X7 k5 (by rw[k2];exact aar _) hr k9 v G
 refine⟨e',k1,⟨by simpa using hl.1,λi v G a c=>?_⟩,?_⟩
 ·rw[afr] at a
  have⟨o,a1,a2⟩:=aaC.1 a
  obtain⟨u,rfl,a3⟩:=aaC.1 a2
  subst a3
  exact ac u G (h1 _ (ae9 a1)) (hl.2 i u G a1 c)
 ·have gt:∀i x,((s.h.map (fzB b K l)).set b (.b []))[i]?=E x->(i=b/\x=.b [])\/(i≠b/\∃y,s.h[i]?=E y/\x=fzB b K l y/\DP b (A l) y=Z):=λi x f=>by
   rw[List.getElem?_set] at f
   split at f
   ·rename_i q
    split at f
    ·cases f;exact .inl ⟨q.symm,rfl⟩
    ·cases f
   ·rename_i q
    rw[afr] at f
    have⟨y,y1,V⟩:=aaC.1 f
    exact .inr ⟨λc=>q c.symm,y,y1,V.symm,GI h2 y1 (by omega)⟩
  exact{R with
   inj:=λi j p q f hj=>R.inj i j p q (F i p f).2 (F j q hj).2
   dom:=λi p f=>by
    have:=R.dom i p (F i p f).2
    simpa using this
   gM:=λi p f=>k8 i p (F i p f).1 (F i p f).2
   gN:=k6
   bN:=λm x L=>by
    rcases k7 m x L with q|q
    ·exact R.bN m x q
    ·exact .inr q
   fU:=λg K D hg=>(R.fU g K D hg).imp λc ⟨t,fr,h1,h2⟩=>⟨t,fr,k5 _ _ h1,h2⟩
   cM:=λi p f=>R.cM i p (F i p f).2
   b6:=λi p f=>hr i p (hk i p f) (R.b6 i p f)
   cE:=λm x L=>k5 m x (R.cE m x L)
   n0:=by rw[k2];exact R.n0
   gr:=λi ps f=>by
    rcases gt i _ f with⟨rfl,q⟩|⟨P,y,y1,V,y3⟩
    ·cases q;exact .inl ⟨rfl,by rw[k4,ae8 rfl]⟩
    ·cases y with
     |g g=>cases V
     |b W=>
      cases V
      rcases R.gr i W y1 with⟨S,U⟩|⟨p,o,S,U,c,t,rfl,g3,g4,g5⟩
      ·exact .inl ⟨by rw[sy];exact S,by rw[k4,acB P];exact U⟩
      ·exact .inr ⟨p,_,hr i p P S,U,c,t,rfl,g3,by rw[sy];exact g4,by rw[sy];exact ae W _ y3 g5⟩
   gap:=λi g f=>by
    rcases gt i _ f with⟨_,q⟩|⟨P,y,y1,V,y3⟩
    ·cases q
    ·cases y with
     |b W=>cases V
     |g g0=>
      cases V
      refine⟨by rw[k4,acB P];exact(R.gap i _ y1).1,(R.gap i _ y1).2.jy (λ_ _ h=>h) (by rw[k3]) λL hL v G hv Ii=>?_⟩
      subst hL
      have:=aaB.1 y3 (E v) hv
      exact VR.cN k5 (by rw[k2];exact aar _) v G (λj p hu hp=>hr j p (λq=>by subst q;simp[lA,hu] at this) hp) Ii
   yi:=by rw[k3];exact R.yi
   yb:=by rw[k3];exact R.yb
   iT:=by have:=R.iT;simpa using this
   g7:=by rw[k1];exact R.g7
   jG:=by rw[k1];exact R.jG}
def fzR(b m:Nat)(v:SV)(h:List Blk):Option (SV×List Blk×Bool):=match(St.fz b ⟨[E v],h,Z⟩) with
 |some (⟨[E u],a,_⟩,p)=>match St.dS m ⟨[E u],a,Z⟩ with
  |some ⟨_,c,_⟩=>E (u,c,p)
  |none=>Y
 |_=>Y
def ak.fz{P f args h h1 h2 v u p} b m(d:A h<=b)(c:A h<=m)(g:ak P f args h v h1)(e:fzR b m v h1=E (u,h2,p))(j:p=Z):ak P f args h u h2:=by
 subst j
 unfold fzR at e
 split at e
 case h_2=>cases e
 rename_i o n r s i
 split at e
 case h_2=>cases e
 rename_i t2 t q a
 simp only[Mf,aad] at e
 obtain⟨rfl,rfl,rfl⟩:=e
 have e1:=bG.freeze d i
 have e2:=bG.dS c a
 unfold St.dS at a
 split at a
 case isFalse=>cases a
 cases a
 exact g.post ((e1.trans (bG.bR rfl rfl)).trans e2)
section
variable {P:Program}
end
def cu.J0(Γ:cu)(q:Nat->Nat):cu:={Γ with nb:=λf=>match Nat.ble 1000000000 f with|true=>q (f-1000000000)|false=>Γ.nb f}
def cu.Cg{P Γ}(h:aq P Γ) q:aq P (Γ.J0 q) where
 Dr:=h.Dr;calls:=h.calls;pure:=h.pure;inl:=h.inl
structure aE where
 used:Bool
 name:Int
 key:pD
 bH:pD
 cF:pD
 un:pD
instance:Inhabited aE:=⟨⟨I,0,[],[],[],[]⟩⟩
def aE.cells(n:aE):List SV:=[.bool n.used,.t6 n.name,.t5 n.key,.t5 n.bH,.t5 n.cF,.ro I .i64 n.un]
structure aE.OK(n:aE):Prop where
 name:(Lit.int .i64 n.name).wf=true
 key:n.key.length=32/\∀z∈n.key,0<=z/\z<256
 bH:n.bH.length=32/\∀z∈n.bH,0<=z/\z<256
 cF:n.cF.length=32/\∀z∈n.cF,0<=z/\z<256
 un:∀z∈n.un,(Lit.int .i64 z).wf=true
end Go.Sy
namespace Go.Proofs.YthlnlcijnoadcaaGreatDoor
namespace Tr
open Sy
def lfT(a b c:Bool):Nat->Option Bool:=λi=>if i=5 then E a else if i=10 then E b else if i=15 then E c else Y
def lfC(a b c:Bool):cu:=mk (P:=Q) [] [] (lfT a b c)
def D6 a b c:aq Q (lfC a b c):=au _ aN.nil _ _
abbrev yl(u:Bool)(n:Int)(k s p un:pD):SV:=.agg [.bool u,.t6 n,.t5 k,.t5 s,.t5 p,.ro I .i64 un]
def Om(u:Bool)(n:Int)(un:pD):Bool:=u&&C (n>=0)&&C (n<=255)&&((A un:Int)==0)
def adO u n k s p un:ak Q 115 [yl u n k s p un] [] (.bool (Om u n un)) []:=by
 unfold Om
 cases u with
 |false=>exact aP (D6 I I I) 60 func115 (by kernel_rfl) rfl rfl
 |true=>
  cases a:C (n>=0) with
  |false=>exact aP (D6 Z I I) 60 func115 (p:=aa Z (!C (n>=0))) (by kernel_rfl) (by rw[a];rfl) rfl
  |true=>
   cases c:C (n<=255) with
   |false=>exact aP (D6 Z Z I) 60 func115 (v:=.bool I) (p:=aa (aa Z (C (n>=0))) (!C (n<=255))) (by kernel_rfl) (by rw[a,c];rfl) rfl
   |true=>exact aP (D6 Z Z Z) 60 func115 (v:=.bool ((A un:Int)==0)) (p:=aa (aa Z (C (n>=0))) (C (n<=255))) (by kernel_rfl) (by rw[a,c];rfl) rfl
def lvT(a b c:Bool):Nat->Option Bool:=λi=>if i=5 then E a else if i=9 then E b else if i=15 then E c else Y
def lvC(a b c:Bool):cu:=mk (P:=Q) [] [] (lvT a b c)
def D7 a b c:aq Q (lvC a b c):=au _ aN.nil _ _
def lvX(n:Int):Bool:=fj IntKind.i64 n (i64.wrap (n+1)) != 0
def aY(n:Int):Int:=bif C (n<1)||C (n>=64)||lvX n then 0 else i64.wrap (i64.wrap (n.tdiv 2)+1)
def Qr n:ak Q 91 [.t6 n] [] (.t6 (aY n)) []:=by
 unfold aY
 cases a:C (n<1) with
 |true=>exact aP (D7 Z Z Z) 60 func91 (p:=aa Z (C (n<1))) (by kernel_rfl) (by rw[a];rfl) rfl
 |false=>
  cases c:C (n>=64) with
  |true=>exact aP (D7 I Z Z) 60 func91 (p:=aa (aa Z (!C (n<1))) (C (n>=64))) (by kernel_rfl) (by rw[a,c];rfl) rfl
  |false=>
   cases d:lvX n with
   |true=>exact aP (D7 I I Z) 60 func91 (v:=.t6 0) (p:=aa (aa (aa Z (!C (n<1))) (!C (n>=64))) (lvX n)) (by kernel_rfl) (by rw[a,c,d];rfl) rfl
   |false=>exact aP (D7 I I I) 60 func91 (v:=.t6 (i64.wrap (i64.wrap (n.tdiv 2)+1))) (p:=aa (aa (aa Z (!C (n<1))) (!C (n>=64))) (!lvX n)) (by kernel_rfl) (by rw[a,c,d];rfl) rfl
def l8:Nat->Nat->Nat
 |0,_=>0
 |f+1,x=>match x%2 with
  |1=>l8 f (x/2)+1
  |_=>0
def J1(x:Int):Int:=(l8 7 (O x):Nat)
def agG:List (FuncId×Func):=[(170,f170),(215,f215)]
def X8:aN Q agG:=aN.cons func170 (by decide) (aN.cons func215 (by decide) aN.nil)
def auF:cu:=mk (P:=Q) [] agG
def adP:aq Q auF:=au _ X8 _ _
def E9(v:Int):Option (SV×List Blk×Bool)->Bool
 |some (.int .i64 m,_,p)=>C (m=v)&&p
 |_=>I
def yN{v r}(h:E9 v r=Z):r.v3=E (.t6 v,Z):=by
 unfold E9 at h
 split at h
 ·simp only[No,aac] at h
  have⟨rfl,rfl⟩:=h
  rfl
 ·cases h
def Qs:((t8 64).all λx=>E9 (J1 x) (aV Q auF 60 f127 [.t6 x] []))=Z:=by kernel_rfl
def X9{x}(a:0<=x)(h1:x<64):ak Q 127 [.t6 x] [] (.t6 (J1 x)) []:=by obtain⟨n,rfl⟩:=ac7 a;have h:=aaB.1 Qs n (aaI.2 (by omega));exact aP adP 60 func127 (yN h) rfl rfl
def Ya:List SV->Option (SV×List Blk×Bool)
 | [.int .i64 x]=>E (.t6 (J1 x),[],C (0<=x)&&C (x<64))
 |_=>Y
def Yb:aK Q:=.val 127 _ func127 (by decide) rfl I 0 Ya λvs v new e=>by
 unfold Ya at e
 split at e
 ·simp only[Mf,aad,No,aac] at e
  have⟨rfl,rfl,a,c⟩:=e
  exact X9 a c
 ·cases e
def HJ:cu:=mk [Yb] []
def jI:aq Q HJ:=au _ aN.nil _ _
def isT(v u:Int):Option (SV×List Blk×Bool)->Bool
 |some (.bP [.int .i64 m,.int .i64 n],_,p)=>C (m=v)&&C (n=u)&&p
 |_=>I
def MF{v u r}(h:isT v u r=Z):r.v3=E (.bP [.t6 v,.t6 u],Z):=by
 unfold isT at h
 split at h
 ·simp only[No,aac] at h
  have⟨⟨rfl,rfl⟩,rfl⟩:=h
  rfl
 ·cases h
def bk(x:Int):Int:=match l8 7 (O x) with
 |0=>-1
 |k+1=>x-2^k
def aW(x:Int):Int:=match l8 7 (O x) with
 |0=>-1
 |k+1=>x+2^k
def D8:((t8 64).all λx=>isT (bk x) (aW x) (aV Q HJ 60 f81 [.t6 x] []))=Z:=by kernel_rfl
def GJ{x}(a:0<=x)(h1:x<64):ak Q 81 [.t6 x] [] (.bP [.t6 (bk x),.t6 (aW x)]) []:=by obtain⟨n,rfl⟩:=ac7 a;have h:=aaB.1 D8 n (aaI.2 (by omega));exact aP jI 60 func81 (MF h) rfl rfl
def Ch:List SV->Option (SV×List Blk×Bool)
 | [.int .i64 x]=>E (.bP [.t6 (bk x),.t6 (aW x)],[],C (0<=x)&&C (x<64))
 |_=>Y
def kA:aK Q:=.val 81 _ func81 (by decide) rfl I 0 Ch λvs v new e=>by
 unfold Ch at e
 split at e
 ·simp only[Mf,aad,No,aac] at e
  have⟨rfl,rfl,a,c⟩:=e
  exact GJ a c
 ·cases e
def bn:List Nat:=[1,2,4,8,16,32]
def bf(x n:Int):Bool:=bn.any λm=>C (n=m)&&C (0<=x)&&C (x<=2*m-2)
def fW{x n}(h:bf x n=Z):∃m∈bn,∃y:Nat,n=(m:Int)/\x=(y:Int)/\y<2*m-1:=by
 unfold bf at h
 have⟨m,a,h⟩:=afJ.1 h
 simp only[No,aac] at h
 obtain⟨⟨rfl,c⟩,d⟩:=h
 obtain⟨y,rfl⟩:=ac7 c
 have:1<=m:=by simp only[bn,af7,ajy,or_false] at a;omega
 exact⟨m,a,y,rfl,rfl,by omega⟩
def iP(x n:Int):Int:=if x=n-1 then-1 else if(O x/2^(l8 7 (O x)+1))%2=0 then x+2^l8 7 (O x) else x-2^l8 7 (O x)
def fB(x:Int):Int:=(x-(2^l8 7 (O x)-1))/2
def jB(x:Int):Int:=(x+(2^l8 7 (O x)-1))/2
def agH:List (FuncId×Func):=[(216,f216),(171,f171),(189,f189)]
def Yc:aN Q agH:=aN.cons func216 (by decide) (aN.cons func171 (by decide) (aN.cons func189 (by decide) aN.nil))
def paC:cu:=mk [Yb] agH
def pY:aq Q paC:=au _ Yc _ _
theorem J2:(bn.all λn=>(t8 (2*n-1)).all λx=>E9 (iP x n) (aV Q paC 60 f147 [.t6 x,.t6 n] []))=true:=by kernel_rfl
def Qt{x n}(h:bf x n=Z):ak Q 147 [.t6 x,.t6 n] [] (.t6 (iP x n)) []:=by obtain⟨m,c,y,rfl,rfl,a⟩:=fW h;have h:=aaB.1 (aaB.1 J2 m c) y (aaI.2 a);exact aP pY 60 func147 (yN h) rfl rfl
def MG:List SV->Option (SV×List Blk×Bool)
 | [.int .i64 x,.int .i64 n]=>E (.t6 (iP x n),[],bf x n)
 |_=>Y
def DV:aK Q:=.val 147 _ func147 (by decide) rfl I 0 MG λvs v new e=>by
 unfold MG at e
 split at e
 ·simp only[Mf,aad] at e
  have⟨rfl,rfl,h⟩:=e
  exact Qt h
 ·cases e
theorem Qu:(bn.all λn=>(t8 (2*n-1)).all λx=>isT (fB x) (jB x) (aV Q paC 60 f128 [.t6 x,.t6 n] []))=true:=by kernel_rfl
def Yd{x n}(h:bf x n=Z):ak Q 128 [.t6 x,.t6 n] [] (.bP [.t6 (fB x),.t6 (jB x)]) []:=by obtain⟨m,c,y,rfl,rfl,a⟩:=fW h;have h:=aaB.1 (aaB.1 Qu m c) y (aaI.2 a);exact aP pY 60 func128 (MF h) rfl rfl
def Ye:List SV->Option (SV×List Blk×Bool)
 | [.int .i64 x,.int .i64 n]=>E (.bP [.t6 (fB x),.t6 (jB x)],[],bf x n)
 |_=>Y
def R7:aK Q:=.val 128 _ func128 (by decide) rfl I 0 Ye λvs v new e=>by
 unfold Ye at e
 split at e
 ·simp only[Mf,aad] at e
  have⟨rfl,rfl,h⟩:=e
  exact Yd h
 ·cases e
end Tr
end Go.Proofs.YthlnlcijnoadcaaGreatDoor
namespace Go.Sy
abbrev HP:=dj->cw->World->Prop
def TrX(P:Program)(ro:Option Nat)(k:Nat)(c:Code)(s:St)(H:HP)(x:Exit)(s':St)(H':HP):Prop:=
 ∀(B:dj)(e:cw)(w:World)(g:List Value)(d:List Deferred)(Q:Exit->Act->World->Prop)(i:Nat),B.k<=k->TR e s.t g->bM B e s.h w->H B e w->
  (∀e' f a,TR e' s'.t a->bM B e' s'.h f->H' B e' f->Q x ⟨⟨a⟩,n6 e'.m++d⟩ f)->c.wpIn (wF ro) i P Q ⟨⟨g⟩,n6 e.m++d⟩ w
def jE(P:Program)(ro:Option Nat)(k:Nat)(b:Code)(s:St)(H:HP)(x:Exit)(s':St)(H':HP):Prop:=
 ∃m:Nat,∀(B:dj)(e:cw)(w:World)(f:List Value)(d:List Deferred)(Q:Exit->Act->World->Prop)(g:Nat),B.k<=k->TR e s.t f->bM B e s.h w->H B e w->
  (∀e' c a,TR e' s'.t a->bM B e' s'.h c->H' B e' c->Q x ⟨⟨a⟩,n6 e'.m++d⟩ c)->Code.roundsIn (wF ro) g P b Q m ⟨⟨f⟩,n6 e.m++d⟩ w
section
variable {P:Program} {ro:Option Nat} {k:Nat} {H H1 H':HP}
def TrX.of{c s s' x}(h:Tr P ro k c s x s')(f:∀B e w,H' B e w):TrX P ro k c s H x s' H':=
 λB e w n d Q g hB i R _ j=>h B e w n d Q g hB i R λe2 o t2 m a=>j e2 o t2 m a (f _ _ _)
def TrX.to{c s s' x}(h:TrX P ro k c s H x s' H')(f:∀B e w,H B e w):Tr P ro k c s x s':=
 λB e w n d Q g hB i R j=>h B e w n d Q g hB i R (f _ _ _) λe2 o t2 m a _=>j e2 o t2 m a
def TrX.seq{a b s s1 s' x}(h1:TrX P ro k a s H .normal s1 H1)(h2:TrX P ro k b s1 H1 x s' H'):TrX P ro k (.seq a b) s H x s' H':=
 λB e w r d Q c hB n R g h=>wpIn_seq (h1 B e w r d _ c hB n R g λe1 p t1 j o q=>h2 B e1 p t1 d Q c hB j o q λe2 f t2 i m t=>h e2 f t2 i m t)
def TrX.jm{a b s s' x}(h1:TrX P ro k a s H x s' H')(g:x≠.normal):TrX P ro k (.seq a b) s H x s' H':=
 λB e w p d Q f hB h R c i=>wpIn_seq (h1 B e w p d _ f hB h R c λe1 m t1 n j o=>by have:=i e1 m t1 n j o;cases x<;>first|exact absurd rfl g|exact this)
def TrX.block{id b s s'}(h:TrX P ro k b s H (.exit id) s' H'):TrX P ro k (.block id b) s H .normal s' H':=
 λB e w o d Q c hB f R a g=>wpIn_block (h B e w o d _ c hB f R a λe1 j t1 m i n=>by show(if id=id then Q .normal _ _ else _);rw[ae8 rfl];exact g e1 j t1 m i n)
def TrX.cz{id b s s' x}(h:TrX P ro k b s H x s' H')(f:∀j,x≠.exit j):TrX P ro k (.block id b) s H x s' H':=
 λB e w q d Q c hB g R a i=>wpIn_block (h B e w q d _ c hB g R a λe1 n t1 o m p=>by have:=i e1 n t1 o m p;cases x<;>first|exact absurd rfl (f _)|exact this)
def TrX.cond_true{c a b s s' x}(g:ev s.t c=E (.bool Z))(h:TrX P ro k a s H x s' H'):TrX P ro k (.cond c a b) s H x s' H':=
 λB e w n d Q j hB f R i m=>wpIn_cond_true (aT f g) (h B e w n d Q j hB f R i m)
def TrX.cond_false{c a b s s' x}(g:ev s.t c=E (.bool I))(h:TrX P ro k b s H x s' H'):TrX P ro k (.cond c a b) s H x s' H':=
 λB e w n d Q j hB f R i m=>wpIn_cond_false (aT f g) (h B e w n d Q j hB f R i m)
def jE.jn{b s s' x}(h:TrX P ro k b s H x s' H')(f:x≠.normal):jE P ro k b s H x s' H':=
 ⟨1,λB e w p d Q c hB g R a i=>by rw[roundsIn_succ];refine h B e w p d _ c hB g R a λe1 m t1 n j o=>?_;have:=i e1 m t1 n j o;cases x<;>first|exact absurd rfl f|exact this⟩
def jE.step{b s s1 s' x}(h:TrX P ro k b s H .normal s1 H1)(g:jE P ro k b s1 H1 x s' H'):jE P ro k b s H x s' H':=by have⟨m,q⟩:=g;refine⟨m+1,λB e w v d Q a hB p R f i=>?_⟩;rw[roundsIn_succ];exact h B e w v d _ a hB p R f λe1 t t1 n r u=>q B e1 t t1 d Q a hB n r u λe2 c t2 j o y=>i e2 c t2 j o y
def jE.loop{b s s' x}(h:jE P ro k b s H x s' H'):TrX P ro k (.loop b) s H x s' H':=by have⟨m,c⟩:=h;exact λB e w j d Q f hB i R a g=>wpIn_loop_rounds m (c B e w j d Q f hB i R a g)
def jE.for{b x s'}(g:x≠.normal)(f:Nat->St)(G:Nat->HP) N(d:∀i,i<N->TrX P ro k b (f i) (G i) .normal (f (i+1)) (G (i+1)))(h:TrX P ro k b (f N) (G N) x s' H'):jE P ro k b (f 0) (G 0) x s' H':=by
 have a:∀m i,N=i+m->jE P ro k b (f i) (G i) x s' H':=by
  intro m
  induction m with
  |zero=>intro i hN;obtain rfl:N=i:=by omega
         exact jE.jn h g
  |succ m j=>intro i hN;exact jE.step (d i (by omega)) (j (i+1) (by omega))
 exact a N 0 (by omega)
def TrX.post{c s s1 s' x}(h:TrX P ro k c s H x s1 H1)(g:∀(B:dj)(e:cw)(w:World)(t':List Value),B.k<=k->TR e s1.t t'->bM B e s1.h w->H1 B e w->∃e',e'.m=e.m/\TR e' s'.t t'/\bM B e' s'.h w/\H' B e' w):TrX P ro k c s H x s' H':=
 λB e w t' d Q n hB o R j p=>h B e w t' d Q n hB o R j λe2 a t2 u f y=>by have⟨e1,i,v,q,r⟩:=g B e2 a t2 hB u f y;rw[<-i];exact p e1 a t2 v q r
def bM.y8{B e h w}(R:bM B e h w){e' h' w'}(S:bM (fC e h w) e' h' w'):bM B {e' with m:=e'.m++e.m} h' w':=by have T:=R.trans S;exact{T with
  g7:=λr c=>by
   rcases agl.1 c with c|c
   ·exact⟨(S.g7 r c).1,af3 R.size (S.g7 r c).2⟩
   ·exact T.g7 r c
  jG:=by
   refine List.nodup_append.2 ⟨S.jG,R.jG,λa u b q f=>?_⟩
   subst f
   have j:w.heap.size<=a:=(S.g7 a u).2
   have n:=(abE.1 (R.g7 a q).1).1
   omega
  gr:=λi t d=>(T.gr i t d).imp id λ⟨p,o,j,n,s⟩=>⟨p,o,j,n,BR.mono (e:={e' with m:=e.m}) (e':={e' with m:=e'.m++e.m}) ⟨λ_ _ h=>h,λ_ _ h=>h,aar _⟩ s⟩
  gap:=λi g d=>⟨(T.gap i g d).1,(T.gap i g d).2.le (λ_ _ h=>h) rfl ⟨λ_ _ h=>h,λ_ _ h=>h,aar _⟩⟩}
def fT(H:HP):Prop:=∀B(e:cw)h(w:World)(e':cw)(c:List Blk)(a:World)(ms:List Nat),bM B e h w->H B e w->bM (fC e h w) e' c a->H B {e' with m:=ms} a
def tH a b:n6 (a++b)=n6 a++n6 b:=by simp[n6]
def TrX.frame(o:fT H){c s s' x}(g:Tr P ro (A s.h) c s x s'):TrX P ro k c s H x s' H:=by intro B e w u d Q p hB q R t r;have f:=g (fC e s.h w) (e.uO s.h) w u (n6 e.m++d) Q p (aar _) (q.mono (jH e s.h)) R.self;refine f λe' j i a n=>?_;have:=r {e' with m:=e'.m++e.m} j i (TR.mono (e:=e') (e':={e' with m:=e'.m++e.m}) ⟨λ_ _ h=>h,λ_ _ h=>h,aar _⟩ a) (R.y8 n) (o B e s.h w e' s'.h j _ R t n);rw[tH,aeH] at this;exact this
def OX(P:Program)(ro:Option Nat)(k:Nat)(ops:Array Oper)(is:List Nat)(s:St)(H:HP)(s':St)(H':HP):Prop:=
 ∀(B:dj)(e:cw)(w:World)(g:List Value)(d:List Deferred)(Q:Exit->Act->World->Prop)(f:Nat)(rest:List Nat),B.k<=k->TR e s.t g->bM B e s.h w->H B e w->
  (∀e' c a,TR e' s'.t a->bM B e' s'.h c->H' B e' c->wpOpsIn (wF ro) f P ops Q rest ⟨⟨a⟩,n6 e'.m++d⟩ c)->wpOpsIn (wF ro) f P ops Q (is++rest) ⟨⟨g⟩,n6 e.m++d⟩ w
def OX.append{ops is js s s1 s'}(h1:OX P ro k ops is s H s1 H1)(h2:OX P ro k ops js s1 H1 s' H'):OX P ro k ops (is++js) s H s' H':=
 λB e w n d Q a rest hB c R i f=>by rw[aeH];exact h1 B e w n d Q a (js++rest) hB c R i λe1 h t1 j g m=>h2 B e1 h t1 d Q a rest hB j g m f
def TrX.region{ops s s'} id(h:OX P ro k ops (t8 ops.size) s H s' H'):TrX P ro k (.region id ops I) s H .normal s' H':=
 λB e w o d Q a hB c R j f=>wpIn_region (by have:=h B e w o d Q a [] hB c R j λe1 i t1 m g n=>f e1 i t1 m g n;rwa [acj] at this)
def kP{G}(v:o7 P G){y eZ k n ops}:∀is(s s':St),cg P G y eZ k ops is s=E s'->s'.ob=Z->
  ∀{B:dj}{e:cw}{w:World}{t':List Value}{d:List Deferred}{Q:Exit->Act->World->Prop}{rest:List Nat},(∀i p,B.e.r i=E p->i<k)->TR e s.t t'->bM B e s.h w->
  (∀e' w' a,e'.m=e.m->TR e' s'.t a->bM B e' s'.h w'->wpOpsIn (wF ro) n P ops Q rest ⟨⟨a⟩,d⟩ w')->wpOpsIn (wF ro) n P ops Q (is++rest) ⟨⟨t'⟩,d⟩ w
 | [],s,s',g,_,B,e,w,t',d,Q,rest,c,j,R,f=>by
  simp only[cg,Mf] at g;subst g
  exact f e w t' rfl j R
 |i::is,s,s',g,x,B,e,w,t',d,Q,rest,c,j,R,f=>by
  simp only[cg] at g
  have D:ops[i]?=ops.toList[i]? :=by simp
  rw[List.cons_append,wpOpsIn_cons]
  split at g
  ·rename_i z
   rw[<-D] at z
   simp only[wpOpIn,z]
   exact kP v is s s' g x c j R f
  ·rename_i o J
   rw[<-D] at J
   split at g
   ·rename_i F K
    refine zO v J K (om is F s' g x) c j R λe' w' a S u T=>?_
    exact kP v is F s' g x c u T λe2 L t2 q M N=>f e2 L t2 (q.trans S) M N
   ·cases g
def OX.run{Γ}(f:aq P Γ)(t:fT H) n{ops is s s'}(g:cg P (c7 P Γ λk=>Sy.exec P Γ n k) Γ.sym Γ.eZ (A s.h) ops is s=E s')(y:s'.ob=Z):OX P ro k ops is s H s' H:=by intro B e w F d Q D rest hB v R x u;refine kP (nc f λro k=>(mh f n ro k).1) is s s' g y (λi p q=>R.dom i p q) (v.mono (jH e s.h)) R.self λe' j c z a o=>?_;have:=u {e' with m:=e'.m++e.m} j c (TR.mono (e:=e') (e':={e' with m:=e'.m++e.m}) ⟨λ_ _ h=>h,λ_ _ h=>h,aar _⟩ a) (R.y8 o) (t B e s.h w e' s'.h j _ R x o);have r:e'.m=[]:=z;rw[r,List.nil_append] at this;exact this
end
section
variable {P:Program} {ro:Option Nat} {k:Nat}
def jd(r:Option (Exit×St)):Option (Exit×List (Option SV)×List Blk):=r.map λq=>(q.1,q.2.t,q.2.h)
def uF(r:Option (Exit×St)):Bool:=match r with
 |some q=>q.2.ob
 |none=>I
def aD(o:Option (Exit×St)):=(jd o,uF o)
def bu{o:Option (Exit×St)}{r p}(h:aD o=(r,p)):jd o=r:=ahV Prod.fst h
def bz{o:Option (Exit×St)}{r p}(h:aD o=(r,p)):uF o=p:=ahV Prod.snd h
def az(live:List Nat)(m:Nat)(r:Option (Exit×St)):Option (Exit×St):=r.bind λq=>(q.2.cut live m).map λs=>(q.1,s)
def Tr.bg{Γ}(f:aq P Γ) n live m(i:k<=m){c s s' x} ob(e:jd (az live m (Sy.exec P Γ n k c s))=E (x,s'.t,s'.h))(b:uF (az live m (Sy.exec P Γ n k c s))=ob)(h:ob=Z):Tr P ro k c s x s':=by
 unfold jd az at e
 unfold uF az at b
 cases a:(Sy.exec P Γ n k c s).bind λq=>(q.2.cut live m).map λs=>(q.1,s) with
 |none=>rw[a] at e;cases e
 |some q=>
  have⟨y,j⟩:=q
  rw[a] at e b
  simp only[acs,Mf,aad] at e
  have⟨rfl,g,d⟩:=e
  exact Tr.post (Tr.cut f n live m i a (b.trans h)) (bG.bR g d)
theorem Tr.i7{Γ}(f:aq P Γ){n}{live}{m}(i:k<=m){c s s' x}{ob}(e:aD (az live m (Sy.exec P Γ n k c s))=(E (x,s'.t,s'.h),ob))(h:ob=Z):Tr P ro k c s x s':=Tr.bg f n live m i ob (bu e) (bz e) h
def TrL.bY{Γ}(w:aq P Γ) n m live j(u:k<=j){l s s1 s' x} ob(e:jd (az live j ((bh P Γ n k m l s).x3))=E (.normal,s1.t,s1.h))
  (a:uF (az live j ((bh P Γ n k m l s).x3))=ob)(h:ob=Z)(v:m<A l)(c:s1.ob=Z)(g:TrL P ro k (l.drop m) s1 x s'):TrL P ro k l s x s':=by
 unfold jd az at e
 unfold uF az at a
 cases d:bh P Γ n k m l s with
 |none=>rw[d] at e;cases e
 |some q=>
  rw[d] at e a
  simp only[acs,ajZ] at e a
  cases f:q.cut live j with
  |none=>rw[f] at e;cases e
  |some r=>
   rw[f] at e a
   simp only[acs,Mf,aad,true_and] at e a
   have⟨p,i⟩:=e
   have:r=s1:=by
    have⟨t,b,o⟩:=r
    have⟨t1,y,z⟩:=s1
    simp only at p i c a
    subst p i c a h
    rfl
   subst this
   exact TrL.dM w n m live j u (by rw[d];exact f) c v g
theorem TrL.i6{Γ}(w:aq P Γ){n}{m}{live}{j}(u:k<=j){l s s1 s' x}{ob}(e:aD (az live j ((bh P Γ n k m l s).x3))=(E (.normal,s1.t,s1.h),ob))(h:ob=Z)(v:m<A l)(c:s1.ob=Z)(g:TrL P ro k (l.drop m) s1 x s'):TrL P ro k l s x s':=TrL.bY w n m live j u ob (bu e) (bz e) h v c g
def cV(b:Nat->Bool)(N:Nat):Option Nat:=(t8 N).find? λi=>!b i
def dz{b}{N:Nat}(h:cV b N=Y):∀i,i<N->b i=Z:=λi a=>by have:=List.find?_eq_none.1 h i (aaI.2 a);simpa using this
def dr{b}:∀{N i:Nat},cV b N=E i->i<N/\b i=I/\∀j,j<i->b j=Z:=by
 intro N
 induction N with
 |zero=>intro i h;simp[cV] at h
 |succ N d=>
  intro i h
  unfold cV at h d
  rw[List.range_succ,List.find?_append] at h
  cases a:(t8 N).find? (λi=>!b i) with
  |some j=>
   rw[a] at h
   simp only[Option.some_or,Mf] at h
   subst h
   have⟨m,f,e⟩:=d a
   exact⟨by omega,f,e⟩
  |none=>
   rw[a] at h
   simp only[Option.none_or,List.find?_cons,List.find?_nil] at h
   split at h
   ·rename_i l
    cases h
    exact⟨by omega,by simpa using l,λj g=>dz a j g⟩
   ·cases h
def eS b(N:Nat):(cV b N).isNone=(t8 N).all b:=by
 unfold cV
 cases h:(t8 N).all b with
 |true=>
  have:=aaB.1 h
  rw[show(t8 N).find? (λi=>!b i)=Y from List.find?_eq_none.2 λi a=>by simp[this i a]]
  rfl
 |false=>
  cases c:(t8 N).find? (λi=>!b i) with
  |some j=>rfl
  |none=>
   exfalso
   have:=aaB.2 λi a=>by
    have:=List.find?_eq_none.1 c i a
    simpa using this
   rw[h] at this;cases this
def cR{α:Type}(b:Nat->Bool)(N:Nat)(vF:Nat->α)(vE:α):α:=match cV b N with
 |some i=>vF i
 |none=>vE
def ak.qD{f fn}(o:P.funcs[f]?=E fn)(q:fn.body.isSome=Z){args h h'} m e(S:Nat->St)(b:Nat->Bool)(N:Nat)
  (c:∀x s',TrL P Y (A h) ((aH (aI fn)).drop m) (S 0) x s'->TrL P Y (A h) (aH (aI fn)) ⟨aU fn.ntmps args,h,Z⟩ x s')
  (u:m<A (aH (aI fn)))(r:pJ e (aJ m (aI fn))=Z)
  (step:∀i,i<N->b i=Z->(∀j,j<i->b j=Z)->Tr P Y (A h) (aj (aj (aJ m (aI fn)))) (S i) .normal (S (i+1)))
  (sF:Nat->St)(vF:Nat->List SV)(n:∀i,i<N->b i=I->(∀j,j<i->b j=Z)->Tr P Y (A h) (aj (aj (aJ m (aI fn)))) (S i) .ret (sF i)/\ke P (sF i).t (sF i).h fn.results.toList=E (vF i,Z)/\(sF i).h=h')
  {sE A4:St}{vE:List SV}{xE:Exit}(mT:(∀i,i<N->b i=Z)->Tr P Y (A h) (aj (aj (aJ m (aI fn)))) (S N) (.exit e) sE)
  (rest:(∀i,i<N->b i=Z)->TrL P Y (A h) ((aH (aI fn)).drop (m+1)) sE xE A4/\(xE=.ret\/xE=.normal)/\ke P A4.t A4.h fn.results.toList=E (vE,Z)/\A4.h=h'):
  ak P f args h (fK (cR b N vF vE)) h':=by
 unfold cR
 cases p:cV b N with
 |some i=>
  have⟨B,y,l⟩:=dr p
  have⟨F,G,v⟩:=n i B y l
  rw[<-v]
  refine ak.mk o q (c _ _ ?_) (.inl rfl) G
  exact TrL.jn m u (by simp) (Tr.rW e r (TrR.for (by simp) S i (λj g=>step j (by omega) (l j g) λa d=>l a (by omega)) F))
 |none=>
  have d:=dz p
  have⟨D,z,r3,w⟩:=rest d
  rw[<-w]
  refine ak.mk o q (c _ _ ?_) z r3
  exact TrL.dV m u (Tr.loop e r S N (λj g=>step j g (d j g) λa RH=>d a (by omega)) (mT d)) D
def ak.KJ{f fn}(e:P.funcs[f]?=E fn)(l:fn.body.isSome=Z){args h} m d(S:Nat->St) i
  (a:∀x s',TrL P Y (A h) ((aH (aI fn)).drop m) (S 0) x s'->TrL P Y (A h) (aH (aI fn)) ⟨aU fn.ntmps args,h,Z⟩ x s')
  (n:m<A (aH (aI fn)))(g:pJ d (aJ m (aI fn))=Z)(step:∀j,j<i->Tr P Y (A h) (aj (aj (aJ m (aI fn)))) (S j) .normal (S (j+1)))
  {sF vF}(c:Tr P Y (A h) (aj (aj (aJ m (aI fn)))) (S i) .ret sF)(b:ke P sF.t sF.h fn.results.toList=E (vF,Z)):ak P f args h (fK vF) sF.h:=
 ak.mk e l (a _ _ (TrL.jn m n (by simp) (Tr.rW d g (TrR.for (by simp) S i step c)))) (.inl rfl) b
def ak.sW{f fn}(c:P.funcs[f]?=E fn)(g:fn.body.isSome=Z){args h} m id(S:Nat->St) N
  (a:∀x s',TrL P Y (A h) ((aH (aI fn)).drop m) (S 0) x s'->TrL P Y (A h) (aH (aI fn)) ⟨aU fn.ntmps args,h,Z⟩ x s')
  (i:m<A (aH (aI fn)))(e:pJ id (aJ m (aI fn))=Z)(step:∀j,j<N->Tr P Y (A h) (aj (aj (aJ m (aI fn)))) (S j) .normal (S (j+1)))
  {sE s' x v}(mT:Tr P Y (A h) (aj (aj (aJ m (aI fn)))) (S N) (.exit id) sE)
  (rest:TrL P Y (A h) ((aH (aI fn)).drop (m+1)) sE x s')(d:x=.ret\/x=.normal)(b:ke P s'.t s'.h fn.results.toList=E (v,Z)):ak P f args h (fK v) s'.h:=
 ak.mk c g (a _ _ (TrL.dV m i (Tr.loop id e S N step mT) rest)) d b
end
end Go.Sy
namespace Go.Proofs.YthlnlcijnoadcaaGreatDoor
namespace Tr
open Sy
def dU{n}(a: -4611686018427387904<=n)(h1:n<4611686018427387904):i64.wrap n=n:=IntWalk.i64_in n (by omega)
def dm{i:Nat}(h:i<274877906944+2):i64.wrap ((i:Int)+1)=((i+1:Nat):Int):=by rw[dU (by omega) (by omega)];omega
def uq{i:Int}{n:Nat}(a:0<=i)(h1:i<n):bC i n=Z:=by unfold bC;simp only[No,aac];omega
def bW{i n:Nat}(h:i<n):bC (i:Int) n=Z:=uq (by omega) (by omega)
def g8{i n:Nat}(h:i<n):C ((i:Int)<(n:Int))=Z:=Me (by omega)
def gV{i n:Nat}(h:n<=i):C ((i:Int)<(n:Int))=I:=aaS (by omega)
def dh{l:pD}{i}(h:i<A l):X l i 0=l[i]:=by simp[List.getD,aaQ h]
def AR{l}{p:Int->Bool}:(t8 (A l)).all (λi=>p (X l i 0))=l.all p:=by
 rw[Bool.eq_iff_iff,aaB,aaB]
 constructor
 ·intro h x b
  obtain⟨i,a,rfl⟩:=List.getElem_of_mem b
  have:=h i (aaI.2 a)
  rwa [dh a] at this
 ·intro h i a
  have a:=aaI.1 a
  rw[dh a]
  exact h _ (List.getElem_mem a)
def ixT(a b:Bool):Nat->Option Bool:=λi=>if i=9 then E a else if i=16 then E b else Y
def VW(a b:Bool):cu:=mk (P:=Q) [] [] (ixT a b)
def mM(a b:Bool):aq Q (VW a b):=au _ aN.nil _ _
def ixB:Code:=aI f161
def HR(xs:pD)(v:Int)(i:Int):St:=⟨ag 19 [(0,.ro I .i64 xs),(1,.t6 v),(7,.t6 (A xs)),(8,.t6 i)],[],Z⟩
def ixF(i:Int):St:=⟨ag 19 [(4,.t6 i)],[],Z⟩
def AS(xs:pD)(v:Int):Int:=cR (λi=>!(v==X xs i 0)) (A xs) (λi=>(i:Int)) (-1)
section
variable (xs:pD) (v i:Int)
def DM:(bh Q (VW Z Z) 60 0 2 (aH ixB) ⟨aU f161.ntmps [.ro I .i64 xs,.t6 v],[],Z⟩).bind (St.cut [0,1,7,8] 0)=E (HR xs v 0):=by kernel_rfl
def GM:aD (az [0,1,7,8] 0 (exec Q (VW Z I) 60 0 (aj (aj (aJ 2 ixB))) (HR xs v i)))=(E (.normal,(HR xs v (i64.wrap (i+1))).t,[]),aa (aa (aa (aa Z (C (i<(A xs:Int)))) (bC i (A xs))) (C (O i<A xs))) (!(v==X xs (O i) 0))):=by kernel_rfl
def alR:=bu (GM xs v i)
def adV:=bz (GM xs v i)
def rD:aD (az [4] 0 (exec Q (VW Z Z) 60 0 (aj (aj (aJ 2 ixB))) (HR xs v i)))=(E (.ret,(ixF i).t,[]),aa (aa (aa (aa Z (C (i<(A xs:Int)))) (bC i (A xs))) (C (O i<A xs))) (v==X xs (O i) 0)):=by kernel_rfl
def Jq:=bu (rD xs v i)
def DN:=bz (rD xs v i)
def rE:aD (az [] 0 (exec Q (VW I Z) 60 0 (aj (aj (aJ 2 ixB))) (HR xs v i)))=(E (.exit 0,ag 19 [],[]),aa Z (!C (i<(A xs:Int)))):=by kernel_rfl
def Jr:=bu (rE xs v i)
def DO:=bz (rE xs v i)
end
def de{b:Nat->Bool}{N α}{g:α->SV}{vF:Nat->α}{vE:α}:fK (cR b N (λi=>[g (vF i)]) [g vE])=g (cR b N vF vE):=by unfold cR;cases cV b N<;>rfl
def Au{xs}{v:Int}(h:A xs<=274877906944):ak Q 161 [.ro I .i64 xs,.t6 v] [] (.t6 (AS xs v)) []:=by
 have b:=ak.qD (h:=[]) (h':=[]) func161 rfl 2 0 (λj:Nat=>HR xs v j) (λi=>!(v==X xs i 0)) (A xs)
  (λx s' g=>TrL.dM (mM Z Z) 60 2 _ 0 (by simp) (DM ..) rfl (by decide) g) (by decide) rfl
  (λi a d _=>?_) (λi=>ixF i) (λi=>[.t6 (i:Int)]) (λi a d _=>⟨?_,rfl,rfl⟩) (sE:=⟨ag 19 [],[],Z⟩) (A4:=ixF (-1)) (vE:=[.t6 (-1)]) (xE:=.ret) (λ_=>?_) (λ_=>⟨?_,.inl rfl,rfl,rfl⟩)
 ·rw[de (g:=SV.int .i64) (vF:=λi:Nat=>(i:Int)) (vE:=-1)] at b;exact b
 ·have e:=alR xs v i;rw[dm (by omega)] at e;exact Tr.bg (mM Z I) 60 _ 0 (aar _) (s':=HR xs v ((i+1:Nat):Int)) _ e (adV ..) (by rw[g8 a,bW a,aaq,Me a,d];rfl)
 ·exact Tr.i7 (s':=ixF i) (mM Z Z) (aar _) (rD ..) (by rw[g8 a,bW a,aaq,Me a,show(v==X xs i 0)=Z by simpa using d];rfl)
 ·exact Tr.i7 (s':=⟨ag 19 [],[],Z⟩) (mM I Z) (aar _) (rE ..) (by rw[gV (aar _)];rfl)
 ·exact TrL.rest (mM Z Z) 60 rfl rfl
def fy(xs:pD)(v:Int):Bool:=xs.any λx=>v==x
def QA xs(v:Int):C (AS xs v>=0)=fy xs v:=by
 have c:xs.all (λx=>!(v==x))=!fy xs v:=by simp[fy,List.all_eq_not_any_not]
 have a:=AR (l:=xs) (p:=λx=>!(v==x))
 rw[<-eS,c] at a
 unfold AS cR
 cases b:cV (λi=>!(v==X xs i 0)) (A xs) with
 |none=>
  rw[b] at a
  rw[show fy xs v=I by simpa using a.symm]
  decide
 |some i=>
  rw[b] at a
  rw[show fy xs v=Z by simpa using a.symm]
  exact Me (show(i:Int)>=0 by omega)
def Yo:List SV->Option (SV×List Blk×Bool)
 | [.ro I .i64 xs,.int .i64 v]=>E (.t6 (AS xs v),[],C (A xs<=274877906944))
 |_=>Y
def alT:aK Q:=.val 161 _ func161 (by decide) rfl Z 0 Yo λvs v new e=>by
 unfold Yo at e
 split at e
 ·simp only[Mf,aad,aac] at e
  have⟨rfl,rfl,h⟩:=e
  exact Au h
 ·cases e
def II:cu:=mk [alT] []
def kj:aq Q II:=au _ aN.nil _ _
def alU xs(v:Int):(aV Q II 60 f112 [.ro I .i64 xs,.t6 v] []).v3=E (.bool (C (AS xs v>=0)),aa Z (aa Z (C (A xs<=274877906944)))):=by kernel_rfl
def GN{xs}{v:Int}(h:A xs<=274877906944):ak Q 112 [.ro I .i64 xs,.t6 v] [] (.bool (fy xs v)) []:=by rw[<-QA];exact aP kj 60 func112 (alU xs v) (by rw[Me h];rfl) rfl
def Cj:List SV->Option (SV×List Blk×Bool)
 | [.ro I .i64 xs,.int .i64 v]=>E (.bool (fy xs v),[],C (A xs<=274877906944))
 |_=>Y
def l7:aK Q:=.val 112 _ func112 (by decide) rfl Z 0 Cj λvs v new e=>by
 unfold Cj at e
 split at e
 ·simp only[Mf,aad,aac] at e
  have⟨rfl,rfl,h⟩:=e
  exact GN h
 ·cases e
def eqT(a b c:Bool):Nat->Option Bool:=λi=>if i=10 then E a else if i=14 then E b else if i=24 then E c else Y
def eqC(a b c:Bool):cu:=mk (P:=Q) [] [] (eqT a b c)
def xo(a b c:Bool):aq Q (eqC a b c):=au _ aN.nil _ _
def eqB:Code:=aI f131
def eq0(xs ys:pD):St:=⟨aU f131.ntmps [.ro I .i64 xs,.ro I .i64 ys],[],Z⟩
def eqQ(xs ys:pD)(i:Int):St:=⟨ag 26 [(0,.ro I .i64 xs),(1,.ro I .i64 ys),(12,.t6 (A xs)),(13,.t6 i)],[],Z⟩
def eqF(b:Bool):St:=⟨ag 26 [(4,.bool b)],[],Z⟩
def auL xs ys:(aV Q (eqC Z Z Z) 60 f131 [.ro I .i64 xs,.ro I .i64 ys] []).v3=E (.bool I,aa Z ((A xs:Int) != (A ys:Int))):=by kernel_rfl
def Ck xs ys:aD (az [0,1,12,13] 0 ((bh Q (eqC I Z Z) 60 0 4 (aH eqB) (eq0 xs ys)).x3))=(E (.normal,(eqQ xs ys 0).t,[]),(aa Z !(A xs:Int) != (A ys:Int))):=by kernel_rfl
def GO xs ys(i:Int):aD (az [0,1,12,13] 0 (exec Q (eqC I Z I) 60 0 (aj (aj (aJ 4 eqB))) (eqQ xs ys i)))=(E (.normal,(eqQ xs ys (i64.wrap (i+1))).t,[]),(aa (aa (aa (aa (aa (aa Z (C (i<(A xs:Int)))) (bC i (A xs))) (C (O i<A xs))) (bC i (A ys))) (C (O i<A ys))) !xs.getD (O i) 0 != X ys (O i) 0)):=by kernel_rfl
def alW xs ys i:=bu (GO xs ys i)
def adX xs ys i:=bz (GO xs ys i)
def GP xs ys(i:Int):aD (az [4] 0 (exec Q (eqC I Z Z) 60 0 (aj (aj (aJ 4 eqB))) (eqQ xs ys i)))=(E (.ret,(eqF I).t,[]),(aa (aa (aa (aa (aa (aa Z (C (i<(A xs:Int)))) (bC i (A xs))) (C (O i<A xs))) (bC i (A ys))) (C (O i<A ys))) (X xs (O i) 0 != X ys (O i) 0))):=by kernel_rfl
def GQ xs ys(i:Int):aD (az [] 0 (exec Q (eqC I I I) 60 0 (aj (aj (aJ 4 eqB))) (eqQ xs ys i)))=(E (.exit 0,ag 26 [],[]),(aa Z !C (i<(A xs:Int)))):=by kernel_rfl
def Yq{xs ys}(h:A xs<=274877906944):ak Q 131 [.ro I .i64 xs,.ro I .i64 ys] [] (.bool (C (xs=ys))) []:=by
 by_cases b:A xs=A ys
 ·have c:=ak.qD (h:=[]) (h':=[]) func131 rfl 4 0 (λj:Nat=>eqQ xs ys j) (λi=>!(X xs i 0 != X ys i 0)) (A xs)
   (λx s' g=>TrL.i6 (xo I Z Z) (by simp) (Ck ..) (by simp[b,aa]) (by decide) rfl g) (by decide) rfl
   (λi a l _=>?_) (λi=>eqF I) (λi=>[.bool I]) (λi a l _=>⟨?_,rfl,rfl⟩) (sE:=⟨ag 26 [],[],Z⟩) (A4:=eqF Z) (vE:=[.bool Z]) (xE:=.ret) (λ_=>?_) (λ_=>⟨?_,.inl rfl,rfl,rfl⟩)
  ·rw[de (g:=SV.bool) (vF:=λ_:Nat=>I) (vE:=Z)] at c
   have hv:cR (λi=>!(X xs i 0 != X ys i 0)) (A xs) (λ_=>I) Z=C (xs=ys):=by
    have d:cR (λi=>!(X xs i 0 != X ys i 0)) (A xs) (λ_=>I) Z=(t8 (A xs)).all (λi=>!(X xs i 0 != X ys i 0)):=by
     unfold cR;rw[<-eS];cases cV _ _<;>rfl
    rw[d,Bool.eq_iff_iff,aaB,aac]
    constructor
    ·intro g
     apply List.ext_getElem b
     intro i d m
     have:=g i (aaI.2 d)
     rw[dh d,dh m] at this
     simpa using this
    ·rintro rfl i _;simp
   rw[hv] at c;exact c
  ·have e:=alW xs ys i
   rw[dm (by omega)] at e
   exact Tr.bg (xo I Z I) 60 _ 0 (aar _) (s':=eqQ xs ys ((i+1:Nat):Int)) _ e (adX ..) (by rw[g8 a,bW a,bW (b▸a),aaq,Me a,Me (b▸a:i<A ys),l];rfl)
  ·exact Tr.i7 (s':=eqF I) (xo I Z Z) (aar _) (GP ..) (by rw[g8 a,bW a,bW (b▸a),aaq,Me a,Me (b▸a:i<A ys),show(X xs i 0 != X ys i 0)=Z by simpa using l];rfl)
  ·exact Tr.i7 (s':=⟨ag 26 [],[],Z⟩) (xo I I I) (aar _) (GQ ..) (by rw[gV (aar _)];rfl)
  ·exact TrL.rest (xo Z Z Z) 60 rfl rfl
 ·rw[aaS (λq=>b (by rw[q]))]
  exact aP (xo Z Z Z) 60 func131 (auL xs ys) (by rw[show((A xs:Int) != (A ys:Int))=Z by simpa using λh=>b (by omega)];rfl) rfl
def Yr:List SV->Option (SV×List Blk×Bool)
 | [.ro I .i64 xs,.ro I .i64 a]=>E (.bool (C (xs=a)),[],C (A xs<=274877906944))
 |_=>Y
def alZ:aK Q:=.val 131 _ func131 (by decide) rfl Z 0 Yr λvs v new e=>by
 unfold Yr at e
 split at e
 ·simp only[Mf,aad,aac] at e
  have⟨rfl,rfl,h⟩:=e
  exact Yq h
 ·cases e
def agJ:List (FuncId×Func):=[(246,f246)]
def Ys:aN Q agJ:=aN.cons func246 (by decide) aN.nil
def leC:cu:=mk (P:=Q) [] agJ λi=>if i=5\/i=6 then E I else Y
def al0:aq Q leC:=au _ Ys _ _
def Yt:List SV->Option (SV×List Blk×Bool)
 | [.int .i64 x,.int .i64 y]=>E (.bool (C (x<y)),[],Z)
 |_=>Y
def al1:aK Q:=.val 201 _ func201 (by decide) rfl I 0 Yt λvs v new e=>by
 unfold Yt at e
 split at e
 ·simp only[Mf,aad] at e
  have⟨rfl,rfl,_⟩:=e
  rename_i x y _
  exact aP al0 60 func201 (p:=aa Z (aa Z (!(x != x)))) (by kernel_rfl) (by simp[aa]) rfl
 ·cases e
def soT(a b:Bool):Nat->Option Bool:=λi=>if i=8 then E a else if i=20 then E b else Y
def soC(a b:Bool):cu:=mk [al1] [] (soT a b)
def AT(a b:Bool):aq Q (soC a b):=au _ aN.nil _ _
def soB:Code:=aI f162
def soS(xs:pD)(i:Int):St:=⟨ag 21 [(0,.ro I .i64 xs),(3,.t6 i)],[],Z⟩
def soF(b:Bool):St:=⟨ag 21 [(2,.bool b)],[],Z⟩
def Cl xs:aD (az [0,3] 0 ((bh Q (soC Z Z) 60 0 2 (aH soB) ⟨aU f162.ntmps [.ro I .i64 xs],[],Z⟩).x3))=(E (.normal,(soS xs (i64.wrap ((A xs:Int)-1))).t,[]),(Z)):=by kernel_rfl
def ad0 xs:=bu (Cl xs)
def Yu xs:=bz (Cl xs)
def GR xs(i:Int):aD (az [0,3] 0 (exec Q (soC Z I) 60 0 (aj (aj (aJ 2 soB))) (soS xs i)))=(E (.normal,(soS xs (i64.wrap (i-1))).t,[]),(aa (aa (aa (aa (aa (aa Z (C (i>0))) (bC i (A xs))) (C (O i<A xs))) (bC (i64.wrap (i-1)) (A xs))) (C (O (i64.wrap (i-1))<A xs))) !C (X xs (O i) 0<X xs (O (i64.wrap (i-1))) 0))):=by kernel_rfl
def al2 xs i:=bu (GR xs i)
def ad1 xs i:=bz (GR xs i)
def GS xs(i:Int):aD (az [2] 0 (exec Q (soC Z Z) 60 0 (aj (aj (aJ 2 soB))) (soS xs i)))=(E (.ret,(soF I).t,[]),(aa (aa (aa (aa (aa (aa Z (C (i>0))) (bC i (A xs))) (C (O i<A xs))) (bC (i64.wrap (i-1)) (A xs))) (C (O (i64.wrap (i-1))<A xs))) (C (X xs (O i) 0<X xs (O (i64.wrap (i-1))) 0)))):=by kernel_rfl
def al3 xs i:=bu (GS xs i)
def ad2 xs i:=bz (GS xs i)
def GU xs(i:Int):aD (az [] 0 (exec Q (soC I I) 60 0 (aj (aj (aJ 2 soB))) (soS xs i)))=(E (.exit 0,ag 21 [],[]),(aa Z !C (i>0))):=by kernel_rfl
def iz(xs:pD):Bool:=(t8 (A xs-1)).all λj=>!C (X xs (A xs-1-j) 0<X xs (A xs-1-j-1) 0)
def QB{xs}(h:A xs<=274877906944):ak Q 162 [.ro I .i64 xs] [] (.bool (iz xs)) []:=by
 have b:=ak.qD (h:=[]) (h':=[]) func162 rfl 2 0 (λj:Nat=>soS xs ((A xs:Int)-1-j)) (λj=>!C (X xs (A xs-1-j) 0<X xs (A xs-1-j-1) 0)) (A xs-1)
  (λx s' g=>TrL.bY (AT Z Z) 60 2 _ 0 (by simp) (s1:=soS xs ((A xs:Int)-1-(0:Nat))) _ (by have:=ad0 xs;rw[dU (by omega) (by omega)] at this;rw[show(A xs:Int)-1-((0:Nat):Int)=(A xs:Int)-1 by omega];exact this) (Yu xs) rfl (by decide) rfl g) (by decide) rfl
  (λj hj hb _=>?_) (λi=>soF I) (λi=>[.bool I]) (λj hj hb _=>⟨?_,rfl,rfl⟩) (sE:=⟨ag 21 [],[],Z⟩) (A4:=soF Z) (vE:=[.bool Z]) (xE:=.ret) (λ_=>?_) (λ_=>⟨?_,.inl rfl,rfl,rfl⟩)
 ·rw[de (g:=SV.bool) (vF:=λ_:Nat=>I) (vE:=Z)] at b;have hv:cR (λj=>!C (X xs (A xs-1-j) 0<X xs (A xs-1-j-1) 0)) (A xs-1) (λ_=>I) Z=iz xs:=by unfold cR iz;rw[<-eS];cases cV _ _<;>rfl
  rw[hv] at b;exact b
 ·have e:=al2 xs ((A xs:Int)-1-j);have hi:(A xs:Int)-1-j=((A xs-1-j:Nat):Int):=by omega
  have a:(A xs:Int)-1-j-1=((A xs-1-j-1:Nat):Int):=by omega
  have c:=ad1 xs ((A xs:Int)-1-j);rw[dU (by omega) (by omega)] at e c;refine Tr.bg (AT Z I) 60 _ 0 (aar _) (s':=soS xs ((A xs:Int)-1-((j+1:Nat):Int))) _ (by rw[show(A xs:Int)-1-((j+1:Nat):Int)=(A xs:Int)-1-j-1 by omega];exact e) c ?_;rw[a,hi,aaq,aaq,bW (by omega),bW (by omega),Me (show A xs-1-j<A xs by omega),Me (show A xs-1-j-1<A xs by omega),Me (show((A xs-1-j:Nat):Int)>0 by omega),hb];rfl
 ·have e:=al3 xs ((A xs:Int)-1-j);have hi:(A xs:Int)-1-j=((A xs-1-j:Nat):Int):=by omega
  have a:(A xs:Int)-1-j-1=((A xs-1-j-1:Nat):Int):=by omega
  have c:=ad2 xs ((A xs:Int)-1-j);rw[dU (by omega) (by omega)] at c;refine Tr.bg (AT Z Z) 60 _ 0 (aar _) (s':=soF I) _ e c ?_;have hb':C (X xs (A xs-1-j) 0<X xs (A xs-1-j-1) 0)=Z:=by simpa using hb
  rw[a,hi,aaq,aaq,bW (by omega),bW (by omega),Me (show A xs-1-j<A xs by omega),Me (show A xs-1-j-1<A xs by omega),Me (show((A xs-1-j:Nat):Int)>0 by omega),hb'];rfl
 ·refine Tr.i7 (s':=⟨ag 21 [],[],Z⟩) (AT I I) (aar _) (GU xs _) ?_;rw[aaS (by omega)];rfl
 ·exact TrL.rest (AT Z Z) 60 rfl rfl
def MO:List SV->Option (SV×List Blk×Bool)
 | [.ro I .i64 xs]=>E (.bool (iz xs),[],C (A xs<=274877906944))
 |_=>Y
def ad4:aK Q:=.val 162 _ func162 (by decide) rfl Z 0 MO λvs v new e=>by
 unfold MO at e
 split at e
 ·simp only[Mf,aad,aac] at e
  have⟨rfl,rfl,h⟩:=e
  exact QB h
 ·cases e
def rH(u c:Bool)(n n':Int)(k s p un k' s' a b:pD):Bool:=(u==c)&&(n==n')&&C (k=k')&&C (s=s')&&C (p=a)&&C (un=b)
def smT(a b c d e:Bool):Nat->Option Bool:=λi=>if i=10 then E a else if i=17 then E b else if i=24 then E c else if i=31 then E d else if i=38 then E e else Y
def VI(a b c d e:Bool):cu:=mk [alZ] [] (smT a b c d e)
def pT(a b c d e:Bool):aq Q (VI a b c d e):=au _ aN.nil _ _
def aCr(u a:Bool)(n n':Int) k s p un k' s' p' x4:(aV Q (VI I I I I I) 60 f114 [yl u n k s p un,yl a n' k' s' p' x4] []).v3=E (.bool I,aa Z !u==a):=by kernel_rfl
def aCs(u a:Bool)(n n':Int) k s p un k' s' p' x4:(aV Q (VI Z I I I I) 60 f114 [yl u n k s p un,yl a n' k' s' p' x4] []).v3=E (.bool I,aa (aa Z (u==a)) !n==n'):=by kernel_rfl
def aCt(u a:Bool)(n n':Int) k s p un k' s' p' x4:(aV Q (VI Z Z I I I) 60 f114 [yl u n k s p un,yl a n' k' s' p' x4] []).v3=E (.bool I,aa (aa (aa (aa Z (u==a)) (n==n')) (aa (C (A k=32)) (C (A k'=32)))) !C (k=k')):=by kernel_rfl
def aCu(u a:Bool)(n n':Int) k s p un k' s' p' x4:(aV Q (VI Z Z Z I I) 60 f114 [yl u n k s p un,yl a n' k' s' p' x4] []).v3=E (.bool I,aa (aa (aa (aa (aa (aa Z (u==a)) (n==n')) (aa (C (A k=32)) (C (A k'=32)))) (C (k=k'))) (aa (C (A s=32)) (C (A s'=32)))) !C (s=s')):=by kernel_rfl
def aCv(u a:Bool)(n n':Int) k s p un k' s' p' x4:(aV Q (VI Z Z Z Z I) 60 f114 [yl u n k s p un,yl a n' k' s' p' x4] []).v3=E (.bool I,aa (aa (aa (aa (aa (aa (aa (aa Z (u==a)) (n==n')) (aa (C (A k=32)) (C (A k'=32)))) (C (k=k'))) (aa (C (A s=32)) (C (A s'=32)))) (C (s=s'))) (aa (C (A p=32)) (C (A p'=32)))) !C (p=p')):=by kernel_rfl
def aCw(u a:Bool)(n n':Int) k s p un k' s' p' x4:(aV Q (VI Z Z Z Z Z) 60 f114 [yl u n k s p un,yl a n' k' s' p' x4] []).v3=E (.bool (C (un=x4)),aa (aa (aa (aa (aa (aa (aa (aa (aa Z (u==a)) (n==n')) (aa (C (A k=32)) (C (A k'=32)))) (C (k=k'))) (aa (C (A s=32)) (C (A s'=32)))) (C (s=s'))) (aa (C (A p=32)) (C (A p'=32)))) (C (p=p'))) (aa Z (C (A un<=274877906944)))):=by kernel_rfl
def yt{u a:Bool}{n n':Int}{k s p un k' s' p' x4}(h1:A k=32)(h2:A k'=32)(f:A s=32)(d:A s'=32)(g:A p=32)(e:A p'=32)(h:A un<=274877906944):
  ak Q 114 [yl u n k s p un,yl a n' k' s' p' x4] [] (.bool (rH u a n n' k s p un k' s' p' x4)) []:=by unfold rH;cases e1:(u==a) with
 |false=>exact aP (pT I I I I I) 60 func114 (aCr u a n n' k s p un k' s' p' x4) (by simp[aa,e1]) rfl
 |true=>
  cases e2:(n==n') with
  |false=>exact aP (pT Z I I I I) 60 func114 (aCs u a n n' k s p un k' s' p' x4) (by simp[aa,e1,e2]) rfl
  |true=>
   by_cases b:k=k'
   ·by_cases c:s=s'
    ·by_cases e5:p=p'
     ·rw[Me b,Me c,Me e5]
      exact aP (pT Z Z Z Z Z) 60 func114 (aCw u a n n' k s p un k' s' p' x4) (by simp[aa,e1,e2,b,c,e5,h2,d,e,h]) rfl
     ·rw[aaS e5,ag8,ahm]
      exact aP (pT Z Z Z Z I) 60 func114 (aCv u a n n' k s p un k' s' p' x4) (by simp[aa,e1,e2,b,c,e5,h2,d,g,e]) rfl
    ·rw[aaS c,ag8,ahm,ahm]
     exact aP (pT Z Z Z I I) 60 func114 (aCu u a n n' k s p un k' s' p' x4) (by simp[aa,e1,e2,b,c,h2,f,d]) rfl
   ·rw[aaS b,ag8,ahm,ahm,ahm]
    exact aP (pT Z Z I I I) 60 func114 (aCt u a n n' k s p un k' s' p' x4) (by simp[aa,e1,e2,b,h1,h2]) rfl
def qd(k s p un:pD):Bool:=C (A k=32)&&C (A s=32)&&C (A p=32)&&C (A un<=274877906944)
def agL:List SV->Option (SV×List Blk×Bool)
 | [.agg [.bool u,.int .i64 n,.af .u8 32 k,.af .u8 32 s,.af .u8 32 p,.ro I .i64 a],.agg [.bool f,.int .i64 e,.af .u8 32 d,.af .u8 32 b,.af .u8 32 c,.ro I .i64 g]]=>E (.bool (rH u f n e k s p a d b c g),[],qd k s p a&&qd d b c g)
 | [.agg [.bool u,.int .i64 n,.af .u8 32 k,.af .u8 32 s,.af .u8 32 p,.ro I .i64 a],.agg [.bool f,.int .i64 e,.af .u8 32 d,.af .u8 32 b,.af .u8 32 c,.nl (.slice Y 0 0)]]=>E (.bool (rH u f n e k s p a d b c []),[],qd k s p a&&qd d b c [])
 |_=>Y
def oG{k s p un}:qd k s p un=Z↔A k=32/\A s=32/\A p=32/\A un<=274877906944:=by simp[qd,and_assoc]
def VE.xV(f:Bool) k:VE (.nl (.slice Y 0 0)) (.ro f k []):=λe x h=>by rw[VR] at h;subst h;exact .inl ⟨rfl,Y,0,rfl,λ_=>rfl⟩
def PE.iM{ps x y}(d:bQ x=Z)(f:bQ y=Z)(h:VE x y):PE (ps++[x]) (ps++[y]):=by
 have one:∀e(a:List Value),PR e [x] a->PR e [y] a:=λe a g=>by obtain⟨v,l,b,c,rfl⟩:=(PR.cons d).1 g;exact(PR.cons f).2 ⟨v,l,h e v b,c,rfl⟩
 refine⟨by rw[eE,eE];simp[aC,C8 d,C8 f],λe a g=>?_⟩;obtain⟨m,j,rfl,b,c⟩:=PR.split g;exact b.append (one e j c)
def auN:aK Q:=.val 114 _ func114 (by decide) rfl Z 0 agL λvs v new e=>by
 unfold agL at e
 split at e
 ·simp only[Mf,aad,No,oG] at e
  have⟨rfl,rfl,⟨h,g,c,j⟩,d,b,f,_⟩:=e
  exact yt h d g b c f j
 ·rename_i u n k s p un u' l k' m o
  simp only[Mf,aad,No,oG] at e
  have⟨rfl,rfl,⟨h,g,c,j⟩,d,b,f,_⟩:=e
  exact ak.conv (yt h d g b c f j) ⟨VE.refl _,VE.agg (PE.iM (ps:=[.bool u',.t6 l,.t5 k',.t5 m,.t5 o]) rfl rfl (VE.xV I .i64)),trivial⟩ trivial (VE.refl _) trivial
 ·cases e
def emT(a b:Bool):Nat->Option Bool:=λi=>if i=11 then E a else if i=18 then E b else Y
def emC(a b:Bool):cu:=mk (P:=Q) [] [] (emT a b)
def AU(a b:Bool):aq Q (emC a b):=au _ aN.nil _ _
def emB:Code:=aI f117
abbrev aA(t:Nat->aE):Nat->List SV:=λi=>(t i).cells
abbrev _root_.Go.Sy.SV.p4 f N t:=SV.aO f 99 N (aA t)
def emS(N:Nat)(t:Nat->aE)(i:Int):St:=⟨ag 19 [(0,.p4 I N t),(5,.t6 i)],[],Z⟩
def emF(b:Bool):St:=⟨ag 19 [(4,.bool b)],[],Z⟩
def Cm N(t:Nat->aE)(x:Int):aD (az [0,5] 0 ((bh Q (emC Z Z) 60 0 2 (aH emB) ⟨aU f117.ntmps [.p4 I N t,.t6 x],[],Z⟩).x3))=(E (.normal,(emS N t (i64.wrap (2*x))).t,[]),(Z)):=by kernel_rfl
def ad5 N t x:=bu (Cm N t x)
def Yv N t x:=bz (Cm N t x)
def GV N(t:Nat->aE)(i:Int):aD (az [0,5] 0 (exec Q (emC Z I) 60 0 (aj (aj (aJ 2 emB))) (emS N t i)))=(E (.normal,(emS N t (i64.wrap (i+2))).t,[]),(aa (aa (aa (aa Z (C (i<(N:Int)))) (bC i N)) (Z&&(C (O i<N)&&Z))) !(t (O i)).1)):=by kernel_rfl
def al5 N t i:=bu (GV N t i)
def ad6 N t i:=bz (GV N t i)
def GW N(t:Nat->aE)(i:Int):aD (az [4] 0 (exec Q (emC Z Z) 60 0 (aj (aj (aJ 2 emB))) (emS N t i)))=(E (.ret,(emF I).t,[]),(aa (aa (aa (aa Z (C (i<(N:Int)))) (bC i N)) (Z&&(C (O i<N)&&Z))) (t (O i)).1)):=by kernel_rfl
def GX N(t:Nat->aE)(i:Int):aD (az [] 0 (exec Q (emC I Z) 60 0 (aj (aj (aJ 2 emB))) (emS N t i)))=(E (.exit 0,ag 19 [],[]),(aa Z !C (i<(N:Int)))):=by kernel_rfl
def fm(N:Nat)(t:Nat->aE)(fr:Nat):Bool:=(t8 ((N+1-2*fr)/2)).all λj=>!(t (2*fr+2*j)).used
theorem Yw{N fr:Nat}{t}(h:N<=274877906944)(hf:fr<=274877906944):ak Q 117 [.p4 I N t,.t6 fr] [] (.bool (fm N t fr)) []:=by
 have a:=ak.qD (h:=[]) (h':=[]) func117 rfl 2 0 (λj:Nat=>emS N t ((2*fr+2*j:Nat):Int)) (λj=>!(t (2*fr+2*j)).used) ((N+1-2*fr)/2)
  (λx s' g=>TrL.bY (AU Z Z) 60 2 _ 0 (by simp) (s1:=emS N t ((2*fr+2*0:Nat):Int)) _ (by have:=ad5 N t fr;rw[dU (by omega) (by omega)] at this;rw[show((2*fr+2*0:Nat):Int)=2*(fr:Int) by omega];exact this) (Yv ..) rfl (by decide) rfl g) (by decide) rfl
  (λj hj hb _=>?_) (λi=>emF I) (λi=>[.bool I]) (λj hj hb _=>⟨?_,rfl,rfl⟩) (sE:=⟨ag 19 [],[],Z⟩) (A4:=emF Z) (vE:=[.bool Z]) (xE:=.ret) (λ_=>?_) (λ_=>⟨?_,.inl rfl,rfl,rfl⟩)
 ·rw[de (g:=SV.bool) (vF:=λ_:Nat=>I) (vE:=Z)] at a;have hv:cR (λj=>!(t (2*fr+2*j)).used) ((N+1-2*fr)/2) (λ_=>I) Z=fm N t fr:=by unfold cR fm;rw[<-eS];cases cV _ _<;>rfl
  rw[hv] at a;exact a
 ·have e:=al5 N t ((2*fr+2*j:Nat):Int);rw[dU (by omega) (by omega)] at e;refine Tr.bg (AU Z I) 60 _ 0 (aar _) (s':=emS N t ((2*fr+2*(j+1):Nat):Int)) _ (by rw[show((2*fr+2*(j+1):Nat):Int)=((2*fr+2*j:Nat):Int)+2 by omega];exact e) (ad6 ..) ?_;rw[aaq,g8 (by omega),bW (by omega),Me (by omega)];show aa Z (!(t (2*fr+2*j)).used)=Z;rw[hb];rfl
 ·refine Tr.i7 (s':=emF I) (AU Z Z) (aar _) (GW N t _) ?_;rw[aaq,g8 (by omega),bW (by omega),Me (by omega)];show aa Z (t (2*fr+2*j)).used=Z;rw[show(t (2*fr+2*j)).used=Z by simpa using hb];rfl
 ·refine Tr.i7 (s':=⟨ag 19 [],[],Z⟩) (AU I Z) (aar _) (GX N t _) ?_;rw[gV (by omega)];rfl
 ·exact TrL.rest (AU Z Z) 60 rfl rfl
