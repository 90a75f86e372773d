/- This file proves lemmas for the last one. Conditions: those in them. -/
import Derived.Test.YthlnlcijnoadcaaGreatDoorVMb
noncomputable section
open Bool renaming true->Z,false->I
open Option renaming some->E,none->Y
open Decidable renaming decide->C
open List renaming length->A,getD->X,replicate->t9,range->t8
open Int renaming toNat->O
set_option linter.all false
namespace Go.Sy
def YTr(P:Program)(l:Nat)(vs:List SV)(h:List Blk)(v:SV)(h':List Blk):Prop:=∀(B:dj)(e:cw)(w:World)(args:List Value),LR e vs args->bM B e h w->
 qW P (.yield l) ⟨args⟩ w λv' b=>∃a,VR a v v'/\bM B a h' b/\c9 e a Y
structure aq(P:Program)(Γ:cu):Prop where
 Dr:∀l vs h v h',Γ.yc l vs h=some (v,h',true)->YTr P l vs h v h'
 calls:abG P Γ.g
 pure:me Γ.pf (fnG Γ.g)
 inl:∀f fn,Γ.inl f=some fn->P.funcs[f]?=some fn/\fn.name≠ "runtime.NumGoroutine"/\2<=Γ.pf f
def cw.uO(e:cw)(h:List Blk):cw:={e with m:=[],y:=λi=>match vc h i with|some _=>e.y i|none=>Y}
def jH e h:cw.Le e (e.uO h):=⟨λ_ _ h=>h,λ_ _ h=>h,aar _⟩
def LB{h i L}(g:h[i]?=E (.g (E L))):vc h i=E L:=by unfold vc;rw[g]
def vw{h i L}(g:vc h i=E L):h[i]?=E (.g (E L)):=by
 unfold vc at g;split at g
 ·rename_i b a;cases g;exact a
 ·cases g
def ajD{e:cw}{h i L}(g:h[i]?=E (.g (E L))):(e.uO h).y i=e.y i:=by show(match vc h i with|some _=>e.y i|none=>Y)=e.y i;rw[LB g]
def Ds{e:cw}{h i n}(g:(e.uO h).y i=E n):e.y i=E n/\∃L,h[i]?=E (.g (E L)):=by
 have a:(match vc h i with|some _=>e.y i|none=>Y)=E n:=g;split at a
 ·rename_i L b;exact⟨a,L,vw b⟩
 ·cases a
def ajE:Blk->Option Nat
 | .g (E L)=>E L.l
 |_=>Y
def Dt(h:List Blk):List Nat:=h.filterMap ajE
def ji{h n}:n∈Dt h↔∃(i:Nat)(L:Lp),h[i]?=E (.g (E L))/\L.l=n:=by
 unfold Dt;rw[List.mem_filterMap];constructor
 ·rintro⟨b,d,c⟩;have⟨i,a⟩:=ajl.1 d;match b,c with| .g (E L),c=>exact⟨i,L,a,ajt c⟩
 ·rintro⟨i,L,a,rfl⟩;exact⟨_,ae9 a,rfl⟩
section
variable {P:Program} {e:cw} {B:dj} {h:List Blk} {w:World}
def fC(e:cw)(h:List Blk)(w:World):dj:=⟨w,e.uO h,A h,Dt h⟩
def bM.self(R:bM B e h w):bM (fC e h w) (e.uO h) h w where
 os:=rfl;tape:=rfl;output:=rfl;size:=aar _;inj:=R.inj;dom:=R.dom;gM:=R.gM;gN:=R.gN;bN:=λ_ _ f=>.inl f;fU:=R.fU;cM:=λ_ _ a=>.inl a;b6:=λ_ _ a=>a;cE:=λ_ _ f=>f;n0:=rfl;dK:=by show e.n0<=w.heap.size;have:=R.n0;have:=R.dK;have:=R.size;omega
 gr:=λi r a=>(R.gr i r a).imp id λ⟨p,o,b,d,l⟩=>⟨p,o,b,d,l.mono (jH e h)⟩;gap:=λi g a=>⟨(R.gap i g a).1,by have k:=(R.gap i g a).2;cases g with
  |none=>trivial
  |some L=>exact k.le (λ_ _ h=>h) (ajD a) (jH e h)⟩
 yi:=λi j n a m=>R.yi i j n (Ds a).1 (Ds m).1;yb:=λi n a=>by
  have⟨b,L,d⟩:=Ds a
  have:=(R.gap i _ d).2.1
  rw[b] at this;cases this
  exact .inl (ji.2 ⟨i,L,d,rfl⟩)
 old:=λ_ _ _ _=>rfl
 lz:=λi p a=>by
  have⟨c,t,b,_⟩:=R.gu a
  exact⟨_,_,b,b,c,c,t,(0,0),rfl,rfl,rfl,λ_ _=>rfl⟩
 kr:=λi p a=>R.dom i p a
 iT:=aar _
 g7:=λr q=>by cases q
 jG:=List.nodup_nil
def va.trans{a n x y z}(h:va a n x y)(g:va a n y z):va a n x z:=by obtain⟨c,r,t,f,rfl,rfl,i,l⟩:=h;obtain⟨d,m,s,o,q,rfl,k,p⟩:=g;cases q;exact⟨c,m,t,f,rfl,rfl,k.trans i,λj b=>(p j b).trans (l j b)⟩
def bM.trans(R:bM B e h w){e':cw}{h' w'}(S:bM (fC e h w) e' h' w'):bM B {e' with m:=e.m} h' w' where
 os:=S.os.trans R.os;tape:=S.tape.trans R.tape;output:=S.output.trans R.output;size:=af3 R.size S.size;inj:=S.inj;dom:=S.dom;gM:=S.gM;gN:=S.gN
 bN:=λn x s=>by
  rcases S.bN n x s with g|g
  ·exact R.bN n x g
  ·exact .inr (af3 R.size g)
 fU:=S.fU
 cM:=λi p a=>by
  rcases S.cM i p a with g|g
  ·exact R.cM i p g
  ·exact .inr (af3 R.size g)
 b6:=λi p a=>S.b6 i p (R.b6 i p a)
 cE:=λn x s=>S.cE n x (R.cE n x s)
 n0:=S.n0.trans R.n0
 dK:=R.dK
 gr:=λi D a=>(S.gr i D a).imp id λ⟨p,o,b,d,j⟩=>⟨p,o,b,d,BR.mono (e:=e') (e':={e' with m:=e.m}) ⟨λ_ _ h=>h,λ_ _ h=>h,aar _⟩ j⟩
 gap:=λi g a=>⟨(S.gap i g a).1,(S.gap i g a).2.le (λ_ _ h=>h) rfl ⟨λ_ _ h=>h,λ_ _ h=>h,aar _⟩⟩
 yi:=S.yi
 yb:=λi n a=>by
  rcases S.yb i n a with g|g
  ·obtain⟨f,L,b,rfl⟩:=ji.1 g
   exact R.yb f _ (R.gap f _ b).2.1
  ·exact .inr (af3 R.size g)
 old:=λn G l y=>by
  have u:n<w.heap.size:=by have:=R.size;omega
  rw[S.old n u (λi p a v=>?_) (λhl=>?_)]
  ·exact R.old n G l y
  ·rcases R.cM i p a with g|g
   ·exact l i p g v
   ·omega
  ·obtain⟨f,L,b,rfl⟩:=ji.1 hl
   rcases R.yb f _ (R.gap f _ b).2.1 with g|g
   ·exact y g
   ·omega
 lz:=λi p a=>by
  have⟨o,N,b,d,j⟩:=R.lz i p a
  have⟨x,K,F,M,H⟩:=S.lz i p (R.b6 i p a)
  have q:w.heap[p.n]?=E x:=F
  rw[d] at q;cases q
  exact⟨o,K,b,M,j.trans H⟩
 kr:=R.kr
 iT:=af3 R.iT S.iT
 g7:=λr J=>by
  have k:=R.g7 r J
  refine⟨?_,k.2⟩
  rw[S.old r (abE.1 k.1).1 (λi p a v=>?_) (λhl=>?_)]
  ·exact k.1
  ·subst v
   have⟨c,t,b,_⟩:=R.gu a
   have d:=k.1
   rw[b] at d;cases d
  ·obtain⟨f,L,b,rfl⟩:=ji.1 hl
   obtain⟨_,r,d,_⟩:=(R.gap f _ b).2
   have j:=k.1
   rw[d] at j;cases j
 jG:=R.jG
def wZ(t':List Value):ResultVar->Sem Value
 | .tmp i=>pure ((⟨t'⟩:Array Value).getD i undef)
 | .cell a b=>do loadVar b (<-asAddr ((⟨t'⟩:Array Value).getD a undef))
def ua{t t'}(f:TR e t t')(R:bM B e h w):∀l(vs:List SV),ke P t h l=E (vs,Z)->
  ∃b,(l.mapM (wZ t')).run P w=.ok b w/\LR e vs b
 | [],vs,g=>by simp[ke] at g;subst g;exact⟨[],by simp,rfl⟩
 | .tmp i::l,vs,g=>by
  simp[ke] at g;split at g
  ·rename_i v k p m n;simp[Mf,aad] at g;obtain⟨rfl,rfl⟩:=g;have⟨b,j,c⟩:=ua f R l k n;refine⟨_,?_,_,_,aT (d:=[]) f m,c,rfl⟩
   simp[List.mapM_cons,wZ,abe,j,ach,aaJ,Act.eval]
  ·cases g
 | .cell a F::l,vs,g=>by
  simp[ke] at g
  split at g
  ·rename_i x y
   split at g
   ·rename_i v q k p m r
    simp[Mf,aad,av] at g
    obtain⟨rfl,rfl,rfl⟩:=g
    have⟨b,o,c⟩:=ua f R l k r
    have⟨s,G,z,n,D⟩:=xH R m (aT (d:=[]) f y)
    have u:(⟨t'⟩:Array Value).getD a undef=.pointer (E s):=z
    refine⟨_,?_,_,_,D,c,rfl⟩
    simp[List.mapM_cons,wZ,abe,u,asAddr,ach,aaJ,n,o]
   ·cases g
  ·cases g
def Vg{vs a}(h:LR e vs a):VR e (fK vs) (if g:(⟨a⟩:Array Value).size=1 then(⟨a⟩:Array Value)[0] else .tuple ⟨a⟩):=by match vs,h with
 | [],g=>rw[LR] at g;subst g;exact⟨[],rfl,rfl⟩
 | [x],⟨y,f,d,b,q⟩=>rw[LR] at b;subst b;subst q;simpa[fK] using d
 |x::x'::xs,⟨y,f,d,b,q⟩=>
  subst q;have c:=b.length;have:¬(⟨y::f⟩:Array Value).size=1:=by simp[List.size_toArray] at*;intro e;subst e;simp at c
  rw[dif_neg this];exact⟨_,⟨y,f,d,b,rfl⟩,rfl⟩
def sV{t t'}(f:TR e t t')(R:bM B e h w){fn vs}(g:ke P t h fn.results.toList=E (vs,Z)):
  ∃v',(results fn ⟨t'⟩).run P w=.ok v' w/\VR e (fK vs) v':=by
 have⟨i,d,c⟩:=ua f R fn.results.toList vs g;refine⟨_,?_,Vg c⟩;have b:results fn ⟨t'⟩=(do let vs <-fn.results.mapM (wZ t');pure (if h:vs.size=1 then vs[0] else .tuple vs)):=by
  unfold results
  have:∀g,(∀x,g x=wZ ..)->g=wZ t':=λg h=>funext h
  rw[this (λx=>_) (λx=>by cases x<;>rfl)]
 rw[b,Array.mapM_eq_mapM_toList]
 simp only[abe,Sem.run_map,d,aaJ]
 rfl
def TR.aU{args args'}(h:LR e args args') n:TR e (aU n args) (args'++t9 (n-A args) undef):=by
 refine⟨by simp[Sy.aU,h.length],λi v f g b=>?_⟩;unfold Sy.aU at g;rcases agP .. with h1|h1
 ·rw[afy (by simpa using h1),afr] at g;rw[afy (by rw[h.length];exact h1)] at b;have⟨x,d,q⟩:=aaC.1 g;cases q;have⟨y,a,c⟩:=h.get d;rw[b] at a;cases a;exact c
 ·rw[afE (by simpa using h1),List.getElem?_replicate] at g;split at g<;>cases g
end
def n6(m:List Nat):List Deferred:=m.map λr=>{target:=.collected r,args:=#[]}
def Tr(P:Program)(ro:Option Nat)(k:Nat)(c:Code)(s:St)(x:Exit)(s':St):Prop:=
 ∀(B:dj)(e:cw)(w:World)(f:List Value)(d:List Deferred)(Q:Exit->Act->World->Prop)(i:Nat),B.k<=k->TR e s.t f->bM B e s.h w->
  (∀b g a,TR b s'.t a->bM B b s'.h g->Q x ⟨⟨a⟩,n6 b.m++d⟩ g)->c.wpIn (wF ro) i P Q ⟨⟨f⟩,n6 e.m++d⟩ w
def TrR(P:Program)(ro:Option Nat)(k:Nat)(b:Code)(s:St)(x:Exit)(s':St):Prop:=
 ∃m:Nat,∀(B:dj)(e:cw)(w:World)(f:List Value)(d:List Deferred)(Q:Exit->Act->World->Prop)(i:Nat),B.k<=k->TR e s.t f->bM B e s.h w->
  (∀c g a,TR c s'.t a->bM B c s'.h g->Q x ⟨⟨a⟩,n6 c.m++d⟩ g)->Code.roundsIn (wF ro) i P b Q m ⟨⟨f⟩,n6 e.m++d⟩ w
section
variable {P:Program} {ro:Option Nat} {k:Nat}
def Jd{F n Q a w c}(h:c.wpIn F n P (λe a w=>(∀l,e≠.goto l)/\Q e a w) a w):(Code.scope c).wpIn F n P Q a w:=by
 intro b k p r t u;have f:(lone (b.atR a (.code (.scope c)::k)) p w).fenced P F:=fenced_calm t u rfl;have g:step P (lone (b.atR a (.code (.scope c)::k)) p w)=.next (lone (b.atR a (.code c:: .inScope c::k)) p w):=step_lone_go (by simp[stepG,stepG.exec,Frame.atR]);have⟨e,m,o,⟨hg,j⟩,d⟩:=h b (.inScope c::k) p r t u;cases e with
 |normal=>exact⟨.normal,m,o,j,.head f g (StepsIn.trans d (.one (fenced_calm t u rfl) (step_lone_go (by simp[stepG,stepG.exec,Frame.atR]))))⟩
 |exit s=>
  have hx:exitTo s (.inScope c::k)=exitTo s k:=by simp[exitTo]
  exact⟨.exit s,m,o,j,λk' v=>.head f g (d.1 k' (by rw[hx];exact v)),λhr' v=>let⟨k₁,h1,h2⟩:=d.2 hr' (by rw[hx];exact v);⟨k₁,h1,.head f g h2⟩⟩
 |goto l=>exact absurd rfl (hg l)
 |ret=>exact⟨_,m,o,j,.of_steps (.one f g) d⟩
 |panic ch=>exact⟨_,m,o,j,.of_steps (.one f g) d⟩
 |outgrown=>exact⟨_,m,o,j,.of_steps (.one f g) d⟩
def Tr.scope{b s s' x}(h:Tr P ro k b s x s')(c:∀l,x≠.goto l):Tr P ro k (.scope b) s x s':=
 λB e w g d Q m hB f R a=>Jd (h B e w g d _ m hB f R λe1 n t1 i j=>⟨c,a e1 n t1 i j⟩)
def Tr.seq{a b s s1 s' x}(h1:Tr P ro k a s .normal s1)(h2:Tr P ro k b s1 x s'):Tr P ro k (.seq a b) s x s':=
 λB e w j d Q c hB i R f=>wpIn_seq (h1 B e w j d _ c hB i R λe1 n t1 l m=>h2 B e1 n t1 d Q c hB l m λe2 p t2 g o=>f e2 p t2 g o)
def Tr.jm{a b s s' x}(h1:Tr P ro k a s x s')(f:x≠.normal):Tr P ro k (.seq a b) s x s':=
 λB e w i d Q m hB g R c=>wpIn_seq (h1 B e w i d _ m hB g R λe1 n t1 j l=>by have:=c e1 n t1 j l;cases x<;>first|exact absurd rfl f|exact this)
def Tr.block{id b s s'}(h:Tr P ro k b s (.exit id) s'):Tr P ro k (.block id b) s .normal s':=
 λB e w f d Q j hB c R a=>wpIn_block (h B e w f d _ j hB c R λe1 l t1 g i=>by show(if id=id then Q .normal _ _ else _);rw[ae8 rfl];exact a e1 l t1 g i)
def Tr.cz{id b s s' x}(h:Tr P ro k b s x s')(c:∀j,x≠.exit j):Tr P ro k (.block id b) s x s':=
 λB e w g d Q m hB f R a=>wpIn_block (h B e w g d _ m hB f R λe1 n t1 i l=>by have:=a e1 n t1 i l;cases x<;>first|exact absurd rfl (c _)|exact this)
def Tr.PA{id j b s s'}(h:Tr P ro k b s (.exit j) s')(n:j≠id):Tr P ro k (.block id b) s (.exit j) s':=
 λB e w f d Q l hB c R a=>wpIn_block (h B e w f d _ l hB c R λe1 m t1 g i=>by show(if j=id then Q .normal _ _ else _);rw[acB n];exact a e1 m t1 g i)
def Tr.cond_true{c a b s s' x}(l:ev s.t c=E (.bool Z))(h:Tr P ro k a s x s'):Tr P ro k (.cond c a b) s x s':=
 λB e w i d Q j hB f R g=>wpIn_cond_true (aT f l) (h B e w i d Q j hB f R g)
def Tr.cond_false{c a b s s' x}(l:ev s.t c=E (.bool I))(h:Tr P ro k b s x s'):Tr P ro k (.cond c a b) s x s':=
 λB e w i d Q j hB f R g=>wpIn_cond_false (aT f l) (h B e w i d Q j hB f R g)
def TrR.jn{b s s' x}(h:Tr P ro k b s x s')(c:x≠.normal):TrR P ro k b s x s':=
 ⟨1,λB e w g d Q l hB f R a=>by rw[roundsIn_succ];refine h B e w g d _ l hB f R λe1 m t1 i j=>?_;have:=a e1 m t1 i j;cases x<;>first|exact absurd rfl c|exact this⟩
def TrR.step{b s s1 s' x}(h:Tr P ro k b s .normal s1)(g:TrR P ro k b s1 x s'):TrR P ro k b s x s':=by have⟨m,q⟩:=g;refine⟨m+1,λB e w j d Q a hB i R c=>?_⟩;rw[roundsIn_succ];exact h B e w j d _ a hB i R λe1 o t1 l n=>q B e1 o t1 d Q a hB l n λe2 r t2 f p=>c e2 r t2 f p
def TrR.loop{b s s' x}(h:TrR P ro k b s x s'):Tr P ro k (.loop b) s x s':=by have⟨m,i⟩:=h;exact λB e w f d Q g hB c R a=>wpIn_loop_rounds m (i B e w f d Q g hB c R a)
def TrR.for{b x s'}(g:x≠.normal)(f:Nat->St) N(l:∀i,i<N->Tr P ro k b (f i) .normal (f (i+1)))(d:Tr P ro k b (f N) x s'):TrR P ro k b (f 0) x s':=by
 have a:∀m i,N=i+m->TrR P ro k b (f i) x s':=by
  intro m;induction m with
  |zero=>intro i hN;obtain rfl:N=i:=by omega
         exact TrR.jn d g
  |succ m j=>intro i hN;exact TrR.step (l i (by omega)) (j (i+1) (by omega))
 exact a N 0 (by omega)
def bM.RN{B}{e:cw}{h w}(R:bM B e h w){r m}(j:e.m=r::m):bM B {e with m:=m} h (w.putObj r (.deferred Y)):=by
 have⟨G,N⟩:=R.g7 r (by rw[j];simp);have l:∀n,n≠r->(w.putObj r (.deferred Y)).heap[n]?=w.heap[n]? :=λn a=>World.putObj_heap_other a;have le:cw.Le e {e with m:=m}:=⟨λ_ _ h=>h,λ_ _ h=>h,aar _⟩;have u:∀{n:Nat}{c}{t}{b},w.heap[n]?=E (.cells c t b)->(w.putObj r (.deferred Y)).heap[n]?=E (.cells c t b):=λ{n c t b} h=>by rw[l n (λq=>by subst q;rw[G] at h;cases h)];exact h
 exact{
  os:=R.os,tape:=R.tape,output:=R.output
  size:=by rw[World.putObj_size];exact R.size
  inj:=R.inj,dom:=R.dom,gM:=R.gM
  gN:=λn c t b K=>u (R.gN n c t b K)
  bN:=R.bN,fU:=R.fU,cM:=R.cM,b6:=R.b6,cE:=R.cE,n0:=R.n0,dK:=R.dK
  gr:=λi L d=>(R.gr i L d).imp id λ⟨p,o,z,s,D⟩=>by
   obtain⟨c,t,rfl,v,J,M⟩:=D
   exact⟨p,_,z,u s,c,t,rfl,v,J,M.mono le⟩
  gap:=λi g d=>⟨(R.gap i g d).1,(R.gap i g d).2.le (λn o a=>by rw[l n (λq=>by subst q;rw[G] at a;cases a)];exact a) rfl le⟩
  yi:=R.yi,yb:=R.yb
  old:=λn a F H=>by rw[l n (by omega)];exact R.old n a F H
  lz:=λi p d=>by
   have⟨o,S,z,s,D⟩:=R.lz i p d
   obtain⟨c,Q,t,b,rfl,rfl,v⟩:=D
   exact⟨_,_,z,u s,c,Q,t,b,rfl,rfl,v⟩
  kr:=R.kr,iT:=R.iT
  g7:=λq y=>by
   have f:=R.jG
   rw[j,ajH] at f
   refine⟨?_,(R.g7 q (by rw[j];simp[y])).2⟩
   rw[l q (λx=>by subst x;exact f.1 y)]
   exact(R.g7 q (by rw[j];simp[y])).1
  jG:=by have f:=R.jG;rw[j,ajH] at f;exact f.2}
def vz{fn t h vs}(d:ke P t h fn.results.toList=E (vs,Z)){B a K}:∀m(e:cw)(w:World),e.m=m->TR e t a->bM B e h w->
  (∀v' e' w',VR e' (fK vs) v'->bM B e' h w'->K (.returned v') w')->LeavesInM (wF Y) 0 P fn ⟨a⟩ K (n6 m++[]) .returning w
 | [],e,w,_,b,R,c=>by have⟨v',g,i⟩:=sV b R d;exact⟨v',g,c v' e w i R⟩
 |r::m,e,w,f,b,R,c=>by have j:=(R.g7 r (by rw[f];simp)).1;refine⟨by simp,.inl ⟨r,_,rfl,run_takeDeferred j,?_⟩⟩;exact vz d m {e with m:=m} _ rfl (TR.mono (e:=e) (e':={e with m:=m}) ⟨λ_ _ h=>h,λ_ _ h=>h,aar _⟩ b) (R.RN f) c
def vA{f fn}(l:P.funcs[f]?=E fn){c}(v:fn.body=E c){args h x s vs}(r:x=.ret\/x=.normal){kk}
  (q:Tr P Y kk c ⟨aU fn.ntmps args,h,Z⟩ x s)(y:ke P s.t s.h fn.results.toList=E (vs,Z)){B}{e:cw}{w a}(hB:A h<=kk)(j:LR e args a)(R:bM B e h w):
  Calls P f ⟨a⟩ w λen w'=>∃v',en=.returned v'/\∃e',VR e' (fK vs) v'/\bM (fC e h w) e' s.h w':=by
 refine mc.1 (callsIn_of_wp_marks (n:=0) l v trivial ?_);have b:=j.length;have g:((⟨a⟩:Array Value)++Array.replicate (fn.ntmps-(⟨a⟩:Array Value).size) undef)=⟨a++t9 (fn.ntmps-A args) undef⟩:=by
  apply aiD
  simp[b]
 rw[g]
 have i:=q (fC ..) (e.uO h) w (a++t9 (fn.ntmps-A args) undef) [] (bodyPostM (wF Y) 0 P fn λen w'=>∃v',en=.returned v'/\∃e',VR e' (fK vs) v'/\bM (fC e h w) e' s.h w') 0 hB (TR.aU (j.mono (jH e h)) fn.ntmps) R.self
 refine i λe' w' o d p=>?_
 have mT:=vz (K:=λen w'=>∃v',en=.returned v'/\∃e',VR e' (fK vs) v'/\bM (fC e h w) e' s.h w') y e'.m e' w' rfl d p λv' e2 D u z=>⟨v',rfl,e2,u,z⟩
 rcases r with rfl|rfl
 ·exact mT
 ·exact mT
def FK{f fn}(j:P.funcs[f]?=E fn){c}(l:fn.body=E c){args h x s vs}(d:x=.ret\/x=.normal){kk}
  (b:Tr P Y kk c ⟨aU fn.ntmps args,h,Z⟩ x s)(n:ke P s.t s.h fn.results.toList=E (vs,Z)){B}{e:cw}{w a}(hB:A h<=kk)(g:LR e args a)(R:bM B e h w):
  Calls P f ⟨a⟩ w λen w'=>∃v',en=.returned v'/\∃e',e'.m=e.m/\VR e' (fK vs) v'/\bM B e' s.h w':=by refine(vA j l d b n hB g R).mono ?_;rintro en w' ⟨v',rfl,e',i,S⟩;exact⟨v',rfl,{e' with m:=e.m},rfl,VR.mono (e:=e') (e':={e' with m:=e.m}) ⟨λ_ _ h=>h,λ_ _ h=>h,aar _⟩ i,R.trans S⟩
def fV{f fn}(d:P.funcs[f]?=E fn)(g:fn.name≠ "runtime.NumGoroutine")(b:fn.body≠Y) args w:(callFunc f args).run P w=.ok (.enter f args) w:=by cases a:fn.body with
 |none=>exact absurd a b
 |some c=>simp[callFunc,d,g,a]
def fq{Γ}:∀n k(c:Code)s s'(x:Exit),exec P Γ n k c s=E (x,s')->s'.ob=Z->s.ob=Z
 |0,_,_,_,_,_,e,_=>by simp[exec] at e
 |n+1,k,c,s,s',x,e,h=>by
  cases c<;>simp only[exec] at e;case skip=>cases e;exact h
  case label=>cases e;exact h
  case exit=>cases e;exact h
  case ret=>cases e;exact h
  case seq a b=>
   split at e
   ·rename_i f d;exact fq n k a s f _ d (fq n k b f s' x e h)
   ·exact fq n k a s s' x e h
  case cond c a b=>
   split at e
   ·exact fq n k a s s' x e h
   ·exact fq n k b s s' x e h
   ·cases e
  case block id b=>
   split at e
   ·rename_i j f d
    split at e<;>(cases e;exact fq n k b s _ _ d h)
   ·exact fq n k b s s' x e h
  case loop b=>
   split at e
   ·rename_i f d;exact fq n k b s f _ d (fq n k _ f s' x e h)
   ·exact fq n k b s s' x e h
  case scope b=>
   split at e
   ·cases e
   ·exact fq n k b s s' x e h
  case region id ops draw=>
   split at e
   ·split at e
    ·rename_i f i l d
     split at e
     case h_2=>cases e
     cases e
     exact Lz _ ⟨s.t,s.h++t9 (kN Γ.nb ops.toList) .gap,s.ob⟩ _ _ d h
    ·cases e
   ·have⟨f,d,g⟩:=aaC.1 e
    cases g
    exact om _ _ _ d h
  all_goals cases e
def Je{Γ}(b:aq P Γ) ex:me Γ.pf (c7 P Γ ex):=by
 refine⟨λf c i h j v l new p g=>?_,λf c i h j v l new p g=>?_⟩
 ·simp[c7] at g ⊢;cases a:Γ.inl f with
  |some d=>have:=(b.inl f d a).2.2;omega
  |none=>rw[a] at g;exact b.pure.1 f c i h j v l new p g
 ·simp[c7] at g ⊢;cases a:Γ.inl f with
  |some d=>have:=(b.inl f d a).2.2;omega
  |none=>rw[a] at g;exact b.pure.2 f c i h j v l new p g
def Jf{h h1:List Blk}{j:Nat}(d:A h<=A h1)(a:(Nat.beq (A h1-A h) 0||Nat.beq j (A h))=Z):cO (h1.take (A h)) j (h1.drop (A h))=h1:=by
 simp only[agV] at a;unfold cO;have b:A (h1.take h.length)=A h:=by simp;omega
 rcases a with a|a
 ·have:=acr a;have c:h1.drop (A h)=[]:=ahW (by omega);rw[c];split
  ·rw[acj,aaT (by omega)]
  ·simp[c8];rw[aaT (by omega)]
 ·have:=acr a;rw[ae8 (by rw[b];exact this),afA]
def zX{B}{e e':cw}{h h1 w w'}{j:Nat}{u v'}(R:bM B e h w)(S:bM (fC e h w) e' h1 w')(a:VR e' u v')(d:(Nat.beq (A h1-A h) 0||Nat.beq j (A h))=Z):
  ∃e2,VR e2 u v'/\bM B e2 (cO (h1.take (A h)) j (h1.drop (A h))) w'/\c9 e e2 Y:=by have T:=R.trans S;refine⟨{e' with m:=e.m},VR.mono (e:=e') (e':={e' with m:=e.m}) ⟨λ_ _ h=>h,λ_ _ h=>h,aar _⟩ a,?_,⟨λi p _ b=>S.b6 i p b,λn x c=>S.cE n x c,by show e'.n0<=e.n0;rw[S.n0];exact aar _,rfl⟩⟩;rw[Jf S.iT d];exact T
def bM.Du{B}{e:cw}{h w}(R:bM B e h w){i L}(hi:h[i]?=E (.g (E L))){r}(hr:w.heap[L.l]?=E (.loop r)) st lR:
  bM B e (h.set i (.g (E {L with st:=st,lR:=lR}))) (w.putObj L.l (.loop {r with state:=st,pending:=lR})):=by
 have Vd:=(aaR.1 hi).1;have D:∀n,n≠L.l->(w.putObj L.l (.loop {r with state:=st,pending:=lR})).heap[n]?=w.heap[n]? :=λn hn=>World.putObj_heap_other hn;have Bz:(w.putObj L.l (.loop {r with state:=st,pending:=lR})).heap[L.l]?=E (.loop {r with state:=st,pending:=lR}):=World.putObj_heap_same (abE.1 hr).1;have uc:∀{n:Nat}{c}{t}{m},w.heap[n]?=E (.cells c t m)->(w.putObj L.l (.loop {r with state:=st,pending:=lR})).heap[n]?=E (.cells c t m):=λ{n c t m} h=>by
  rw[D n (λq=>by subst q;rw[hr] at h;cases h)];exact h
 have⟨hn,hy,r0,h0,v,u,y,z,h5,h6⟩:=R.gap i _ hi
 rw[hr] at h0;cases h0
 exact{
  os:=R.os,tape:=R.tape,output:=R.output
  size:=by rw[World.putObj_size];exact R.size
  inj:=R.inj,dom:=λi p hi=>by simpa using R.dom i p hi,gM:=R.gM
  gN:=λn c t m hz=>uc (R.gN n c t m hz)
  bN:=R.bN,fU:=R.fU,cM:=R.cM,b6:=R.b6,cE:=R.cE,n0:=R.n0,dK:=R.dK
  gr:=λj ps d=>by
   by_cases b:i=j
   ·subst b;rw[acg Vd] at d;cases d
   ·rw[abI b] at d
    refine(R.gr j ps d).imp id λ⟨p,o,v,u,y⟩=>?_
    obtain⟨c,t,rfl,z,h5,h6⟩:=y
    exact⟨p,_,v,uc u,c,t,rfl,z,h5,h6⟩
  gap:=λj g d=>by
   by_cases b:i=j
   ·subst b
    rw[acg Vd] at d;cases d
    exact⟨hn,hy,_,Bz,v,u,y,rfl,rfl,h6⟩
   ·rw[abI b] at d
    refine⟨(R.gap j g d).1,?_⟩
    have hg:=(R.gap j g d).2
    cases g with
    |none=>trivial
    |some M=>
     have⟨q1,r1,q2,q3⟩:=hg
     refine⟨q1,r1,?_,q3⟩
     rw[D M.l (λx=>b (R.yi i j L.l hy (by rw[q1,x])))];exact q2
  yi:=R.yi,yb:=R.yb
  old:=λn hlt hno qm=>by
   rw[D n (λq=>?_)]
   ·exact R.old n hlt hno qm
   ·subst q
    rcases R.yb i _ hy with g|g
    ·exact qm g
    ·omega
  lz:=λi p hi=>by
   have⟨o,o',v,u,y⟩:=R.lz i p hi
   obtain⟨c,c',t,m,rfl,rfl,z⟩:=y
   exact⟨_,_,v,uc u,c,c',t,m,rfl,rfl,z⟩
  kr:=R.kr,iT:=by simpa using R.iT
  g7:=λq hq=>by
   refine⟨?_,(R.g7 q hq).2⟩
   rw[D q (λx=>by subst x;have:=(R.g7 _ hq).1;rw[hr] at this;cases this)]
   exact(R.g7 q hq).1
  jG:=R.jG}
def zY:∀{h}{i j}{L},zy h j=E (i,L)->j<=i/\h[i-j]?=E (.g (E L))/\L.st=.ready
 | [],i,j,L,g=>by simp[zy] at g
 |b::n,i,j,L,g=>by
  simp[zy] at g;split at g
  ·rename_i q f;cases g;have⟨l,d,c⟩:=zY f;exact⟨by omega,by rw[show i-j=(i-(j+1))+1 by omega,ag0];exact d,c⟩
  ·split at g
   ·rename_i m;split at g
    ·rename_i a;cases g;exact⟨aar _,by rw[Nat.sub_self];rfl,a⟩
    ·cases g
   ·cases g
def xM{e:cw}:∀ps(vs:List SV)t(t' ys:List Value),TR e t t'->LR e vs ys->A ps=A vs->
  TR e (Fl t ps vs) ((ps.zip ys).foldl (λ(d:Array Value)(q:Tmp×Value)=>d.setIfInBounds q.1 q.2) ⟨t'⟩).toList
 | [],vs,t,t',ys,h,_,_=>by cases vs<;>simpa[Fl] using h
 |i::b,[],t,t',ys,h,_,a=>by simp at a
 |i::b,v::vs,t,t',ys,h,⟨y,g,c,f,q⟩,a=>by
  subst q;simp only[Fl,List.zip_cons_cons,List.foldl_cons];have:=xM b vs (t.set ..) (t'.set i y) g (h.set c i) f (by simpa using a);have j:(⟨t'⟩:Array Value).setIfInBounds i y=⟨t'.set i y⟩:=by simp
  rw[j];exact this
def nc{Γ}(hΓ:aq P Γ){n}(J:∀(ro:Option Nat)(k:Nat)(c:Code)(s s':St)(x:Exit),exec P Γ n k c s=E (x,s')->s'.ob=Z->Tr P ro k c s x s'):o7 P (c7 P Γ λk=>exec P Γ n k):=by intro f vs h j v h' new g B e w args W R hj;cases f with
 |func f=>
  simp only[c7] at g
  cases hi:Γ.inl f with
  |none=>rw[hi] at g;exact hΓ.calls f vs h j v h' new g B e w args W R hj
  |some fn=>
   have⟨hf,hn,_⟩:=hΓ.inl f fn hi
   rw[hi] at g
   simp only at g
   split at g
   ·rename_i u H p y
    split at g
    ·rename_i hc
     simp[Mf,aad] at g
     obtain⟨rfl,rfl,rfl,rfl⟩:=g
     unfold Lj at y
     cases hb:fn.body with
     |none=>rw[hb] at y;cases y
     |some c=>
      rw[hb] at y
      simp only at y
      have ab:∀x(s:St),(x=.ret\/x=.normal)->exec P Γ n (A h) c ⟨aU fn.ntmps vs,h,Z⟩=E (x,s)->((ke P s.t s.h fn.results.toList).map λq=>(fK q.1,s.h,aa s.ob q.2))=E (u,H,Z)->
        qW P (.func f) ⟨args⟩ w λv' w'=>∃o,VR o u v'/\bM B o (cO (H.take (A h)) j (H.drop (A h))) w'/\c9 e o Y:=λx s hx hs hr=>by
       have⟨⟨rs,q⟩,af,h2⟩:=aaC.1 hr
       simp[aad,av] at h2
       obtain⟨rfl,rfl,cY,rfl⟩:=h2
       refine .inr ⟨fV hf hn (by rw[hb];simp) _ w,?_⟩
       refine(vA hf hb hx (J Y _ c _ s x hs cY) af (aar _) W R).mono ?_
       rintro en w' ⟨v',rfl,o,hv,S⟩
       exact⟨v',rfl,zX R S hv hc⟩
      split at y
      ·rename_i s hs;exact ab _ s (.inl rfl) hs y
      ·rename_i s hs;exact ab _ s (.inr rfl) hs y
      ·cases y
    ·cases g
   ·cases g
 |yield l=>
  simp only[c7] at g
  split at g
  ·rename_i u H p b
   simp only[Mf,aad] at g
   obtain⟨rfl,rfl,rfl,rfl⟩:=g
   exact(hΓ.Dr l vs h u H b B e w args W R).mono λv' w' ⟨o,H,h2,h3⟩=>⟨o,H,by rw[b8];exact h2,h3⟩
  split at g
  ·rename_i u H p b
   split at g
   ·rename_i hc
    simp only[Mf,aad] at g
    obtain⟨rfl,rfl,rfl,rfl⟩:=g
    unfold UR at b
    split at b
    ·cases b
    ·rename_i i L hL
     obtain⟨_,ac,hst⟩:=zY hL
     rw[Nat.sub_zero] at ac
     split at b
     ·rename_i s1 ap ae
      split at b
      ·cases b
      ·rename_i G d
       have d:=vw d
       split at b
       ·rename_i x s2 ay m
        split at b
        ·rename_i q D hq z
         have z:=vw z
         simp only[Mf,aad,av,aac] at b
         obtain⟨rfl,rfl,PB,lq⟩:=b
         have U:=fq n _ _ _ _ _ m PB
         simp only[av,aac] at U
         obtain⟨U,jX⟩:=U
         have Bc:L.l=l:=by have:=fq n _ _ _ _ _ ae U;simpa using this
         have S0:=R.self
         obtain⟨_,_,r,hr,hp,ha,an,_,_,aw⟩:=S0.gap i _ ac
         rw[Bc] at hr
         have Pc:=acr ap
         have M:(⟨args⟩:Array Value).size=r.params.size:=by rw[hp,Pc];exact W.length
         refine⟨r.fn,_,r.assign,r.body,run_yield hr M,λro nn=>?_⟩
         refine roundIn_of_wpIn trivial ?_
         have ax:((r.params.zip ⟨args⟩).foldl (λtmps (t,a)=>tmps.setIfInBounds t a) r.tmps)=⟨((L.ps.toList.zip args).foldl (λ(tm:Array Value)(q:Tmp×Value)=>tm.setIfInBounds q.1 q.2) ⟨r.tmps.toList⟩).toList⟩:=by
          rw[hp]
          apply aiD
          rw[<-Array.foldl_toList]
          simp
         rw[ax,ha,an]
         have ao:=xM L.ps.toList vs L.t r.tmps.toList args aw (W.mono (jH e h)) (by simpa using Pc)
         refine J (E l) _ _ _ _ _ ae U (fC e h w) (e.uO h) w _ [] _ nn (aar _) ao S0 λe1 w1 t1 aAr S1=>?_
         obtain⟨_,hy1,r1,OD,hp1,ha1,aGd,al,_,aGe⟩:=S1.gap i _ d
         rw[jX] at OD
         refine⟨_,run_beginRound OD (by rw[al,ay]),?_⟩
         have ad:r1.pending=G.lR:=by obtain⟨_,_,r1',V,_,_,_,_,h9,_⟩:=S1.gap i _ d;rw[jX,OD] at V;cases V;exact h9
         have t7:bM (fC e h w) e1 (s1.h.set i (.g (E {G with st:=.busy}))) (w1.putObj l (.loop {r1 with state:=.busy})):=by
          have:=S1.Du d (by rw[jX];exact OD) .busy G.lR
          rw[<-ad] at this
          rw[jX] at this
          have tC:({G with st:=.busy}:Lp)={l:=l,t:=G.t,ps:=G.ps,zo:=G.zo,body:=G.body,st:=.busy,lR:=r1.pending}:=by rw[ad, <-jX]
          rw[tC];exact this
         refine J (E l) _ _ _ _ _ m PB (fC e h w) e1 _ t1 [] _ nn (aar _) aAr t7 λe2 w2 t2 aGg S2=>?_
         obtain⟨_,hy2,r2,Q,_,_,_,_,_,_⟩:=S2.gap i _ z
         rw[lq] at Q
         have S3:=S2.Du z (by rw[lq];exact Q) (if q.isNone then .ready else .done) q
         have mT:∃v w4,(Instr.endRound l q).run P w2=.ok v w4/\∃v',Ending.returned v=.returned v'/\∃o,VR o (.bool q.isNone) v'/\bM B o (cO ((s2.h.set i (.g (E {D with st:=if q.isNone then .ready else .done,lR:=q}))).take (A h)) j ((s2.h.set i (.g (E {D with st:=if q.isNone then .ready else .done,lR:=q}))).drop (A h))) w4/\c9 e o Y:=by
          refine⟨_,_,run_endRound q Q,_,rfl,?_⟩
          rw[lq] at S3
          have ar:bM (fC e h w) e2 (s2.h.set i (.g (E {D with st:=if q.isNone then .ready else .done,lR:=q}))) (w2.putObj l (.loop {r2 with state:=if q.isNone then .ready else .done,pending:=q})):=by
           have tC:({D with st:=if q.isNone then .ready else .done,lR:=q}:Lp)={l:=l,t:=D.t,ps:=D.ps,zo:=D.zo,body:=D.body,st:=if q.isNone then .ready else .done,lR:=q}:=by rw[<-lq]
           rw[tC];exact S3
          exact zX R ar rfl hc
         cases x<;>simp only[Dd,Mf,reduceCtorEq] at hq<;>subst hq<;>exact mT
        ·cases b
       ·cases b
     ·cases b
   ·cases g
  ·cases g
 |_=>cases g
def mh{Γ}(U:aq P Γ):∀n(ro:Option Nat)k,
  (∀(c:Code)(s s':St)(x:Exit),exec P Γ n k c s=E (x,s')->s'.ob=Z->Tr P ro k c s x s')/\
  (∀(c:Code)(s s':St)(x:Exit),exec P Γ n k (.loop c) s=E (x,s')->s'.ob=Z->TrR P ro k c s x s'):=by intro n;induction n with
 |zero=>exact λro k=>⟨λ_ _ _ _ e=>by simp[exec] at e,λ_ _ _ _ e=>by simp[exec] at e⟩
 |succ n V=>
  intro ro k
  have⟨o,M⟩:=V ro k
  have S:=nc U λro k c s s' x=>(V ro k).1 c s s' x
  have hP:=Je U λk=>exec P Γ n k
  have hB:∀(c:Code)(s s':St)(x:Exit),exec P Γ (n+1) k (.loop c) s=E (x,s')->s'.ob=Z->TrR P ro k c s x s':=by
   intro c s s' x e f
   simp[exec] at e
   split at e
   ·rename_i u t
    exact TrR.step (o c s u .normal t (fq n k _ u s' x e f)) (M c u s' x e f)
   ·rename_i g
    have J:x≠.normal:=λq=>by subst q;exact g s' e
    exact TrR.jn (o c s s' x e f) J
  refine⟨?_,hB⟩
  intro c s s' x e f
  cases c
  case loop b=>exact TrR.loop (hB b s s' x e f)
  all_goals simp only[exec] at e
  case skip=>cases e;exact λB e w v d Q F hB m R r=>wpIn_skip (r e w v m R)
  case label=>cases e;exact λB e w v d Q F hB m R r=>wpIn_label (r e w v m R)
  case exit=>cases e;exact λB e w v d Q F hB m R r=>wpIn_exit (r e w v m R)
  case ret=>cases e;exact λB e w v d Q F hB m R r=>wpIn_ret (r e w v m R)
  case seq a b=>
   split at e
   ·rename_i u t
    exact Tr.seq (o a s u .normal t (fq n k _ u s' x e f)) (o b u s' x e f)
   ·rename_i g
    have J:x≠.normal:=λq=>by subst q;exact g s' e
    exact Tr.jm (o a s s' x e f) J
  case cond c a b=>
   split at e
   ·rename_i K;exact Tr.cond_true K (o a s s' x e f)
   ·rename_i K;exact Tr.cond_false K (o b s s' x e f)
   ·cases e
  case block id b=>
   split at e
   ·rename_i j u t
    split at e
    ·rename_i G
     cases e
     subst G
     exact Tr.block (o b s s' _ t f)
    ·rename_i G
     cases e
     exact Tr.PA (o b s s' _ t f) G
   ·rename_i g
    exact Tr.cz (o b s s' x e f) λj q=>by subst q;exact g j s' e
  case scope b=>
   split at e
   ·cases e
   ·rename_i g
    exact Tr.scope (o b s s' x e f) λl q=>by subst q;exact g l s' e
  case region id ops draw=>
   split at e
   ·split at e
    ·rename_i u fs D t
     split at e
     case h_2=>cases e
     rename_i W
     cases e
     exact λB e w v d Q F hB m R r=>vv S hP D W t f (λi p N=>Nat.lt_of_lt_of_le (R.kr i p N) hB) m R (λe' L z D y H=>by rw[<-D];exact r e' L z y H) id
    ·cases e
   ·have⟨u,t,h2⟩:=aaC.1 e
    cases h2
    exact λB e w v d Q F hB m R r=>wpIn_region (pF S _ _ _ t f (λi p N=>Nat.lt_of_lt_of_le (R.kr i p N) hB) m R (λe' L z D y H=>by rw[<-D];exact r e' L z y H))
  all_goals cases e
def Tr.exec{Γ}(a:aq P Γ){n c s s' x}(e:exec P Γ n k c s=E (x,s'))(b:s'.ob=Z):Tr P ro k c s x s':=(mh a n ro k).1 c s s' x e b
end
def ak(P:Program)(f:FuncId)(args:List SV)(h:List Blk)(v:SV)(h':List Blk):Prop:=
 ∀(B:dj)(e:cw)(w:World)(a:List Value),B.k<=A h->LR e args a->bM B e h w->
  Calls P f ⟨a⟩ w λen d=>∃c,en=.returned c/\∃b,b.m=e.m/\VR b v c/\bM B b h' d
section
variable {P:Program}
def ak.Vj{f fn}(i:P.funcs[f]?=E fn){c}(j:fn.body=E c){args h x s vs}(b:x=.ret\/x=.normal)
  (d:Tr P Y (A h) c ⟨aU fn.ntmps args,h,Z⟩ x s)(a:ke P s.t s.h fn.results.toList=E (vs,Z)):ak P f args h (fK vs) s.h:=
 λ_ _ _ _ _ g R=>FK i j b d a (aar _) g R
def ak.bZ{Γ}(i:aq P Γ){f fn}(j:P.funcs[f]?=E fn){n args h h' v}(g:aV P Γ n fn args h=E (v,h',Z)):ak P f args h v h':=by
 unfold aV Lj at g;cases a:fn.body with
 |none=>rw[a] at g;cases g
 |some c=>
  rw[a] at g
  simp only at g
  split at g
  all_goals(try(cases g;done))
  all_goals
   rename_i s d
   have⟨⟨m,p⟩,b,q⟩:=aaC.1 g
   simp[aad,av] at q
   obtain⟨rfl,rfl,l,rfl⟩:=q
   exact ak.Vj j a (by simp) (Tr.exec i d l) b
mutual
def dL(l:List Nat):SV->Bool
 | .aG b _ _=>l.contains b
 | .sl b _ _ _ _ _ _ _=>l.contains b
 | .agg ps=>gA l ps
 | .bP vs=>gA l vs
 | .iface _ x=>dL l x
 | .fn _ a b=>gA l a&&gA l b
 | .b9 b _ _ _ _=>l.contains b
 | .fk b _ _ _ _=>l.contains b
 | .xD b=>l.contains b
 |_=>true
def gA(l:List Nat):List SV->Bool
 | []=>true
 |x::xs=>dL l x&&gA l xs
end
mutual
theorem kT{l:List Nat}:∀{v:SV}{j:Nat},dL l v=true->uses j v=true->j∈l
 | .aG b _ _,j,h,g=>by simp[dL] at h;simp[uses] at g;subst g;exact h
 | .sl b _ _ _ _ _ _ _,j,h,g=>by simp[dL] at h;simp[uses] at g;subst g;exact h
 | .agg ps,j,h,g=>fN (by simpa[dL] using h) (by simpa[uses] using g)
 | .bP ps,j,h,g=>fN (by simpa[dL] using h) (by simpa[uses] using g)
 | .iface _ x,j,h,g=>kT (v:=x) (by simpa[dL] using h) (by simpa[uses] using g)
 | .fn _ a b,j,h,g=>by
  simp only[dL,No] at h
  simp only[uses,agV] at g
  rcases g with g|g
  ·exact fN h.1 g
  ·exact fN h.2 g
 | .bool _,_,_,g=>by simp[uses] at g
 | .int _ _,_,_,g=>by simp[uses] at g
 | .str _,_,_,g=>by simp[uses] at g
 | .nl _,_,_,g=>by simp[uses] at g
 | .af _ _ _,_,_,g=>by simp[uses] at g
 | .ro _ _ _,_,_,g=>by simp[uses] at g
 | .iX _ _,_,_,g=>by simp[uses] at g
 | .aO _ _ _ _,_,_,g=>by simp[uses] at g
 | .uG _ _ _,_,_,g=>by simp[uses] at g
 | .ye _ _ _,_,_,g=>by simp[uses] at g
 | .qI _ _ _ _ _ _ _,_,_,g=>by simp[uses] at g
 | .aF _ _ _,_,_,g=>by simp[uses] at g
 | .b9 b _ _ _ _,j,h,g=>by simp[dL] at h;simp[uses] at g;subst g;exact h
 | .fk b _ _ _ _,j,h,g=>by simp[dL] at h;simp[uses] at g;subst g;exact h
 | .xD b,j,h,g=>by simp[dL] at h;simp[uses] at g;subst g;exact h
 | .fU _ _,_,_,g=>by simp[uses] at g
theorem fN{l:List Nat}:∀{vs:List SV}{j:Nat},gA l vs=true->eY j vs=true->j∈l
 | [],_,_,g=>by simp[eY] at g
 |x::xs,j,h,g=>by
  simp only[gA,No] at h
  simp only[eY,agV] at g
  rcases g with g|g
  ·exact kT h.1 g
  ·exact fN h.2 g
end
def qa(h:List Blk):List Nat->Option (List (List SV))
 | []=>E []
 |i::a=>match h[i]?,qa h a with
  |some (.b c),E l=>E (c::l)
  |_,_=>Y
def ov{h}:∀{is}{l},qa h is=E l->A l=A is/\∀(j i:Nat),is[j]?=E i->∃ps,l[j]?=E ps/\h[i]?=E (.b ps)
 | [],l,g=>by simp[qa,Mf] at g;subst g;exact⟨rfl,λj i c=>by simp at c⟩
 |i::is,l,g=>by
  simp[qa] at g;split at g
  ·rename_i ps s f r;cases g;have⟨o,q⟩:=ov r;refine⟨by simp[o],λj a c=>?_⟩;cases j with
   |zero=>simp at c;subst c;exact⟨ps,rfl,f⟩
   |succ j=>simp at c;have⟨n,p,m⟩:=q j a c;exact⟨n,by simpa using p,m⟩
  ·cases g
def ajF(is:List Nat)(v:SV)(h:List Blk):Option (SV×List Blk):=match qa h is with
 |some l=>if dL is v&&l.all (gA is)&&C is.Nodup then E (mU (λb=>is.idxOf b) v,l.map λps=>.b (jN (λb=>is.idxOf b) ps)) else Y
 |none=>Y
def dy s:∀ps,aC (jN s ps)=aC ps
 | []=>rfl
 |x::a=>by simp[jN,aC,dy s a];cases x<;>rfl
def ak.yY{f args v u h1 new} is(g:ak P f args [] v h1)(D:ajF is v h1=E (u,new)):ak P f args [] u new:=by
 unfold ajF at D;split at D
 ·rename_i l hl;split at D
  ·rename_i hc;simp[No,aac,aaB] at hc;have⟨⟨hv,F⟩,tj⟩:=hc;cases D;have⟨H,zZ⟩:=ov hl;intro B e w y hB W R;refine(g B e w y hB W R).mono ?_;rintro en w' ⟨v',rfl,e',hm,Ii,S⟩;have M:∀i p,B.e.r i≠E p:=λi p d=>by have:=S.kr i p d;simp at hB;omega
   let e2:cw:={e' with r:=λj=>(is[j]?).bind e'.r};have G:∀i,i∈is->is[is.idxOf i]?=E i:=λi d=>by
    rw[aaQ (List.idxOf_lt_length_of_mem d)]
    simp
   have K:=λi p d L=>by
    show(is[is.idxOf i]?).bind e'.r=E p
    rw[G i d];exact L
   have n:∀j p,e2.r j=E p->∃i,is[j]?=E i/\e'.r i=E p:=λj p m=>acU.1 m
   refine⟨v',rfl,e2,hm,VR.mU (e:=e') (e':=e2) (λ_ _ h=>h) (aar _) v v' (λj p V L=>K j p (kT hv V) L) Ii,?_⟩
   exact{
    os:=S.os,tape:=S.tape,output:=S.output,size:=S.size
    inj:=λi j p q d m T=>by
     have⟨a,h1,z⟩:=n i p d
     have⟨b,h3,h4⟩:=n j q m
     have:=S.inj a b p q z h4 T
     subst this
     exact(List.getElem?_inj (aaR.1 h1).1 tj).1 (h1.trans h3.symm)
    dom:=λi p d=>by
     have⟨a,h1,_⟩:=n i p d
     have:=(aaR.1 h1).1
     simpa[H] using this
    gM:=λi p d=>by have⟨a,_,z⟩:=n i p d;exact S.gM a p z
    gN:=S.gN,bN:=S.bN,fU:=S.fU
    cM:=λi p d=>by
     have⟨a,_,z⟩:=n i p d
     rcases S.cM a p z with h|h
     ·exact absurd h (M a p)
     ·exact .inr h
    b6:=λi p d=>absurd d (M i p)
    cE:=S.cE,n0:=S.n0,dK:=S.dK
    gr:=λj ps m=>by
     simp only[afr] at m
     cases x:l[j]? with
     |none=>simp[x] at m
     |some N=>
      simp[x,acs,Mf,Blk.b.injEq] at m
      subst m
      have J:j<A is:=by have:=(aaR.1 x).1;omega
      have⟨ab,h1,z⟩:=zZ j _ (aaQ J)
      rw[x] at h1;cases h1
      have Dv:e2.r j=e'.r is[j]:=by show(is[j]?).bind e'.r=_;rw[aaQ J];rfl
      rcases S.gr _ N z with⟨Q,U⟩|⟨p,o,Q,U,c,t,rfl,g3,g4,g5⟩
      ·exact .inl ⟨by rw[dy];exact Q,by rw[Dv];exact U⟩
      ·refine .inr ⟨p,_,by rw[Dv];exact Q,U,c,t,rfl,g3,by rw[dy];exact g4,?_⟩
       rw[dy]
       exact PR.mU (e:=e') (e':=e2) (λ_ _ h=>h) (aar _) N _ (λb p V L=>K b p (fN (F N (ae9 x)) V) L) g5
    gap:=λj g m=>by
     simp only[afr] at m
     cases x:l[j]? with
     |none=>simp[x] at m
     |some N=>simp[x] at m
    yi:=S.yi,yb:=S.yb,old:=S.old
    lz:=λi p d=>absurd d (M i p)
    kr:=λi p d=>absurd d (M i p)
    iT:=by simp at hB;omega
    g7:=S.g7,jG:=S.jG}
  ·cases D
 ·cases D
def lM(w:World):Nat->Option (Array Value×TypeId×(Nat×Nat)):=λn=>match w.heap[n]? with
 |some (.cells c t a)=>E (c,t,a)
 |_=>Y
def vB(h:List Blk):List SV->Option (List pD×Bool)
 | []=>E ([],Z)
 |p::j=>match p,vB h j with
  | .ro _ .u8 a,E (l,b)=>E (a::l,b)
  | .sl c o i 1 d cap f g,E (l,b)=>match dN h (.sl c o i 1 d cap f g) with
   |some ([.af .u8 n a],q)=>E (a::l,aa (aa b q) (C (A a=n)))
   |_=>Y
  | .nl (.slice Y 0 0),E (l,b)=>E ([]::l,b)
  |_,_=>Y
mutual
def ow:SV->SV
 | .ro _ k xs=>.ro false k xs
 | .iX _ xss=>.iX false xss
 | .aO _ z len g=>.aO false z len (λi=>ah (g i))
 | .ye _ xss i=>.ye false xss i
 | .qI _ z len g e o i=>.qI false z len (λi=>ah (g i)) e o i
 | .aF z n g=>.aF z n (λi=>ah (g i))
 | .agg ps=>.agg (ah ps)
 | .bP vs=>.bP (ah vs)
 | .iface t x=>.iface t (ow x)
 | .fn f a b=>.fn f (ah a) (ah b)
 |v=>v
def ah:List SV->List SV
 | []=>[]
 |x::xs=>ow x::ah xs
end
mutual
def cA(h:List Blk):SV->Option (SV×Bool×Bool)
 | .bool b=>some (.bool b,true,false)
 | .int k n=>some (.int k n,true,false)
 | .str s=>some (.str s,true,false)
 | .nl v=>some (.nl v,true,false)
 | .af k n xs=>some (.af k n xs,true,false)
 | .ro _ k xs=>some (.ro false k xs,true,false)
 | .iX _ xss=>some (.iX false xss,true,false)
 | .aO _ z len g=>some (.aO false z len (λi=>ah (g i)),true,false)
 | .sl b o i 1 len cap ex wh=>match dN h (.sl b o i 1 len cap ex wh) with
  |some ([.af k n xs],p)=>some (.ro false k xs,aa p (decide (xs.length=n)),true)
  |some (ps,p)=>(vB h ps).map λq=>(.iX false q.1,aa p q.2,true)
  |none=>none
 | .agg ps=>match mL h ps with
  |some (l,p,t)=>some (.agg l,p,t)
  |none=>none
 | .iface t x=>match cA h x with
  |some (y,p,b)=>some (.iface t y,p,b)
  |none=>none
 | .b9 b z len _ _=>match h[b]? with
  |some (.b [.aF z' n g])=>match Nat.beq z' z with
   |true=>some (.aO false z len (λi=>ah (g i)),decide (len<=n),true)
   |false=>none
  |_=>none
 |_=>none
def mL(h:List Blk):List SV->Option (List SV×Bool×Bool)
 | []=>some ([],true,false)
 |x::xs=>match cA h x,mL h xs with
  |some (y,p,a),some (l,q,b)=>some (y::l,aa p q,a||b)
  |_,_=>none
end
def z6{h h2}(d:Pw h h2){v q}(g:dN h v=E q):dN h2 v=E q:=by
 cases v;case sl b o i z len cap ex wh=>
  simp[dN] at g ⊢
  cases a:h[b]? with
  |none=>rw[a] at g;cases g
  |some f=>
  cases f with
  |g _=>rw[a] at g;cases g
  |b l=>rw[a] at g;rw[d b l a];exact g
 case b9 b z len cap ex=>
  simp[dN] at g ⊢
  cases a:h[b]? with
  |none=>rw[a] at g;cases g
  |some f=>
  cases f with
  |g _=>rw[a] at g;cases g
  |b l=>rw[a] at g;rw[d b l a];exact g
 all_goals first|exact g|(unfold dN at g ⊢;split at g<;>first|(cases g;done)|(rename_i j;cases j;done)|(rename_i j;cases j;exact g))
def vC{h h2}(a:Pw h h2):∀{ps}{q},vB h ps=E q->vB h2 ps=E q
 | [],q,g=>g
 |p::ps,q,g=>by
  unfold vB at g ⊢;split at g
  ·rename_i f j l b d;rw[vC a d];exact g
  ·rename_i c o i m cap s t l b d;rw[vC a d];split at g
   ·rename_i n j u r;simp only[z6 a r];exact g
   ·cases g
  ·rename_i l b d;rw[vC a d];exact g
  ·cases g
mutual
theorem iZ{h h2:List Blk}(hle:Pw h h2):∀{v:SV}{q:SV×Bool×Bool},cA h v=some q->cA h2 v=some q
 | .bool _,q,g=>by simp only[cA] at g ⊢;exact g
 | .int _ _,q,g=>by simp only[cA] at g ⊢;exact g
 | .str _,q,g=>by simp only[cA] at g ⊢;exact g
 | .nl _,q,g=>by simp only[cA] at g ⊢;exact g
 | .af _ _ _,q,g=>by simp only[cA] at g ⊢;exact g
 | .ro _ _ _,q,g=>by simp only[cA] at g ⊢;exact g
 | .iX _ _,q,g=>by simp only[cA] at g ⊢;exact g
 | .sl b o i z len cap ex wh,q,g=>by
  by_cases hz:z=1
  ·subst hz
   simp only[cA] at g ⊢
   split at g
   ·rename_i k n xs p hc;simp only[z6 hle hc];exact g
   ·rename_i ps p hno hc
    rw[z6 hle hc]
    obtain⟨x,hx,hq⟩:=aaC.1 g
    split
    ·rename_i k n xs p' hc'
     cases hc'
     exact absurd rfl (hno _ _ _)
    ·rename_i hc'
     cases hc'
     rw[vC hle hx]
     exact ahV some hq
    ·rename_i hc';cases hc'
   ·cases g
  ·exfalso
   unfold cA at g
   split at g<;>first|(rename_i h1;cases h1;done)|skip
   all_goals first|(rename_i h1;cases h1;exact hz rfl)|(cases g)
 | .agg ps,q,g=>by
  simp only[cA] at g ⊢
  split at g
  ·rename_i l p t hl;rw[Dw hle hl];exact g
  ·cases g
 | .iface _ x,q,g=>by
  simp only[cA] at g ⊢
  split at g
  ·rename_i y p t hl;rw[iZ hle hl];exact g
  ·cases g
 | .aG _ _ _,q,g=>by simp[cA] at g
 | .aO _ _ _ _,q,g=>by simp only[cA] at g ⊢;exact g
 | .uG _ _ _,q,g=>by simp[cA] at g
 | .ye _ _ _,q,g=>by simp[cA] at g
 | .qI _ _ _ _ _ _ _,q,g=>by simp[cA] at g
 | .bP _,q,g=>by simp[cA] at g
 | .fn _ _ _,q,g=>by simp[cA] at g
 | .aF _ _ _,q,g=>by simp[cA] at g
 | .fk _ _ _ _ _,q,g=>by simp[cA] at g
 | .xD _,q,g=>by simp[cA] at g
 | .fU _ _,q,g=>by simp[cA] at g
 | .b9 b z len cap ex,q,g=>by
  simp only[cA] at g ⊢
  split at g
  ·rename_i z' n gg hb;rw[hle b _ hb];exact g
  ·cases g
theorem Dw{h h2:List Blk}(hle:Pw h h2):∀{v:List SV}{q:List SV×Bool×Bool},mL h v=some q->mL h2 v=some q
 | [],q,g=>by simp only[mL] at g ⊢;exact g
 |x::xs,q,g=>by
  simp only[mL] at g ⊢
  split at g
  ·rename_i y p a l q' b hx hl
   rw[iZ hle hx,Dw hle hl];exact g
  ·cases g
end
def pG{w n c t fr}(h:w.heap[n]?=E (.cells c t fr)):lM w n=E (c,t,fr):=by unfold lM;rw[h]
def w5{w n c t fr}(h:lM w n=E (c,t,fr)):w.heap[n]?=E (.cells c t fr):=by
 unfold lM at h;split at h
 ·rename_i f d a b;cases h;exact b
 ·cases h
def mb(z:Nat->Option (Array Value×TypeId×(Nat×Nat)))(n:Nat):cw:=⟨λ_=>Y,z,n,[],λ_=>Y⟩
section
variable {e:cw} {B:dj} {h:List Blk} {w:World}
def qf.any{e'}(i:∀n o,e.z n=E o->e'.z n=E o){f k xs v}(g:qf e f k xs v):qf e' I k xs v:=by
 rcases g with h|⟨n,o,cap,c,t,d,a,m,p,l,j,b⟩
 ·exact .inl h
 ·exact .inr ⟨n,o,cap,c,t,d,a,i _ _ m,(λq=>by cases q),l,j,b⟩
def z7{b o i len cap ex wh q}(d:dN h (.sl b o i 1 len cap ex wh)=E q)(j:len≠0):h[b]? ≠E (.b []):=λhb=>by
 have f:∀a n,n≠0->O5 [] a n=Y:=λa n g=>by cases a with
  |zero=>cases n with
   |zero=>exact absurd rfl g
   |succ n=>rfl
  |succ a=>rfl
 simp[dN,hb] at d;cases o with
 |succ o=>simp[ni] at d
 |zero=>
  simp only[ni] at d
  rw[f _ _ (by simpa using j)] at d
  cases d
def Vk(R:bM B e h w){zz}(N:∀(i:Nat)(p:Pl)(c:Array Value)(t:TypeId),h[i]? ≠E (.b [])->e.r i=E p->w.heap[p.n]?=E (.cells c t (0,0))->zz p.n=E (c,t,(0,0))){b o i len cap n ex wh k xs v'}(H:dN h (.sl b o i 1 len cap ex wh)=E ([.af k n xs],Z))(U:A xs=n)(G:VR e (.sl b o i 1 len cap ex wh) v') m:
  qf (mb zz m) I k xs v':=by
 have⟨F,v,D,_,T⟩:=bI (P:=default) (z:=1) R H rfl G rfl;have⟨V,L,x⟩:=v;rw[PR] at L;subst L;rw[acj,bV U] at x;rw[ajC] at D;have J:A xs=len:=by rw[<-D,x,aQ]
 have nil:len=0->xs=[]:=λh0=>abJ.1 (by omega);rcases G with⟨s,_,a,rfl⟩|⟨p,d,a,K,rfl,Q,_,_,M,u⟩
 ·exact .inl ⟨nil s,a,0,rfl,λ_=>rfl⟩
 ·by_cases s:len=0
  ·exact .inl ⟨nil s,_,d,by rw[s],λq=>by cases q⟩
  ·have j:d≠0:=by omega
   have⟨c,t,f,S⟩:=R.gu K;have yE:=Q j;have W:=u j;have y:=T len (aar _);rw[iD f (by omega),ajC,aaT (l:=F) (by omega)] at y;have g:(c.toList.drop a).take len=F:=ahV Array.toList (Result.ok.inj y).1;exact .inr ⟨p.n,a,d,c,t,(0,0),by rw[J],N _ p c t (z7 H s) K f,(λq=>by cases q),by rw[<-x, <-g,J],by omega,by omega⟩
def xN(R:bM B e h w){zz}(F:∀(i:Nat)(p:Pl)(c:Array Value)(t:TypeId),h[i]? ≠E (.b [])->e.r i=E p->w.heap[p.n]?=E (.cells c t (0,0))->zz p.n=E (c,t,(0,0)))(G:∀n x,e.z n=E x->zz n=E x) m:∀{ps}{l}{ys},vB h ps=E (l,Z)->PR e ps ys->
  A ys=A l/\∀(i:Nat)(xs:pD),l[i]?=E xs->∃y,ys[i]?=E y/\qf (mb zz m) I .u8 xs y
 | [],l,ys,g,v=>by
  simp[vB,Mf,aad,aj7] at g;subst g;rw[PR] at v;subst v
  exact⟨rfl,λi xs j=>by simp at j⟩
 |p::ps,l,ys,g,v=>by
  have mT:∀{xs:pD}{s:List pD},bQ p=Z->vB ..=E (s,Z)->l=xs::s->(∀y,VR e p y->qf (mb zz m) I .u8 xs y)->
    A ys=A l/\∀(i:Nat)(xs:pD),l[i]?=E xs->∃y,ys[i]?=E y/\qf (mb zz m) I .u8 xs y:=λ{xs s} D d Q a=>by
   subst Q
   obtain⟨y,W,T,K,rfl⟩:=(PR.cons D).1 v
   have⟨U,V⟩:=xN R F G m d K
   refine⟨by simp[U],λi J j=>?_⟩
   cases i with
   |zero=>simp at j;subst j;exact⟨y,rfl,a y T⟩
   |succ i=>simp at j;have⟨u,L,M⟩:=V i J j;exact⟨u,by simpa using L,M⟩
  unfold vB at g
  split at g
  ·rename_i f xs s b d
   simp[Mf,aad] at g
   obtain⟨rfl,rfl⟩:=g
   exact mT rfl d rfl λy a=>qf.any G a
  ·rename_i c o i S cap ex wh s b d
   split at g
   ·rename_i n xs q N
    simp[Mf,aad,av,aac] at g
    obtain⟨rfl,⟨rfl,rfl⟩,D⟩:=g
    exact mT rfl d rfl λy a=>Vk R F N D a m
   ·cases g
  ·rename_i s b d
   simp[Mf,aad] at g
   obtain⟨rfl,rfl⟩:=g
   exact mT rfl d rfl λy a=>by rw[VR] at a;subst a;exact .inl ⟨rfl,Y,0,rfl,λ_=>rfl⟩
  ·cases g
def ajG(R:bM B e h w){zz}(J:∀(i:Nat)(p:Pl)(c:Array Value)(t:TypeId),h[i]? ≠E (.b [])->e.r i=E p->w.heap[p.n]?=E (.cells c t (0,0))->zz p.n=E (c,t,(0,0)))(jA:∀n x,e.z n=E x->zz n=E x){b o i len cap ex wh u t v'}(g:cA h (.sl b o i 1 len cap ex wh)=E (u,Z,t))(M:VR e (.sl b o i 1 len cap ex wh) v') m:t=Z/\VR (mb zz m) u v':=by
 simp[cA] at g;split at g
 ·rename_i k n V p G;simp[Mf,aad,av,aac] at g;obtain⟨rfl,⟨rfl,hn⟩,rfl⟩:=g;exact⟨rfl,Vk R J G hn M m⟩
 ·rename_i ps p _ G;have⟨⟨l,q⟩,F,Q⟩:=aaC.1 g;simp[aad,av] at Q;obtain⟨rfl,⟨rfl,rfl⟩,rfl⟩:=Q;refine⟨rfl,?_⟩;have⟨S,L,W,_,hf⟩:=bI (P:=default) (z:=1) R G rfl M rfl;rw[ajC] at W;have⟨h3,h4⟩:=xN R J jA m F L;have v:A l=len:=by omega
  have nil:len=0->l=[]:=λh0=>abJ.1 (by omega);show Ld _ _ _ _;rcases M with⟨D,_,a,rfl⟩|⟨p,d,a,U,rfl,ha,_,_,ab,H⟩
  ·exact .inl ⟨nil D,a,0,rfl,λ_=>rfl⟩
  ·by_cases D:len=0
   ·exact .inl ⟨nil D,_,d,by rw[D],λq=>by cases q⟩
   ·have s:d≠0:=by omega
    have⟨c,t,f,ac⟩:=R.gu U;have yE:=ha s;have Pp:=H s;have F:=hf len (aar _);rw[iD f (by omega),ajC,aaT (l:=S) (by omega)] at F;have j:(c.toList.drop a).take len=S:=ahV Array.toList (Result.ok.inj F).1;refine .inr ⟨p.n,a,d,c,t,(0,0),by rw[v],J _ p c t (z7 G D) U f,(λq=>by cases q),λi V T=>?_,by omega,by omega⟩;have⟨y,K,N⟩:=h4 i V T;rw[<-j] at K;have Vd:i<len:=by rw[<-v];exact(aaR.1 T).1
    rw[afY Vd,afO] at K;exact⟨y,K,N⟩
 ·cases g
def nB{v u p t}(g:cA h v=E (u,p,t))(b:bQ v=Z):bQ u=Z:=by
 unfold cA at g;split at g;case h_5=>cases b
 case h_9=>
  split at g
  ·cases g;rfl
  ·have⟨q,_,a⟩:=aaC.1 g;cases a;rfl
  ·cases g
 all_goals first
  |(cases g;done)
  |(cases g;rfl)
  |(split at g<;>first|(cases g;rfl)|(cases g;done))
  |(split at g<;>first|(cases g;done)|(split at g<;>first|(cases g;rfl)|(cases g;done)))
mutual
theorem VR.ow{e:cw}{zz:Nat->Option (Array Value×TypeId×(Nat×Nat))}(jA:∀n x,e.z n=some x->zz n=some x)(m:Nat)(hr:∀j,e.r j=none):∀{v:SV}{v':Value},VR e v v'->VR (mb zz m) (Sy.ow v) v'
 | .bool _,_,h=>h
 | .int _ _,_,h=>h
 | .str _,_,h=>h
 | .nl _,_,h=>h
 | .af _ _ _,_,h=>h
 | .aG b _ _,_,⟨p,h1,_⟩=>by rw[hr] at h1;cases h1
 | .sl b _ _ _ _ _ _ _,_,h=>by
  rcases h with h|⟨p,c,a,h1,h2⟩
  ·exact .inl h
  ·rw[hr] at h1;cases h1
 | .ro _ _ _,_,h=>qf.any (e:=e) jA h
 | .iX _ _,_,h=>by
  rcases h with h|⟨n,o,cap,c,t,fr,h1,h2,h3,h4,h5,h6⟩
  ·exact .inl h
  ·exact .inr ⟨n,o,cap,c,t,fr,h1,jA _ _ h2,(λq=>by cases q),(λi xs hi=>(h4 i xs hi).imp λy ⟨a,b⟩=>⟨a,qf.any (e:=e) jA b⟩),h5,h6⟩
 | .aO f z len g,_,h=>by
  rcases h with h|⟨n,o,cap,c,t,fr,h1,h2,h3,h4,h5,h6⟩
  ·exact .inl h
  ·exact .inr ⟨n,o,cap,c,t,fr,h1,jA _ _ h2,(λq=>by cases q),(λi hi=>PR.ow (e:=⟨λ_=>none,e.z,e.n0,[],λ_=>none⟩) jA m (λ_=>rfl) (h4 i hi)),h5,h6⟩
 | .uG _ _ _,_,⟨n,o,c,t,fr,h1,h2,h3⟩=>⟨n,o,c,t,fr,h1,jA _ _ h2,h3⟩
 | .ye _ _ _,_,⟨n,o,c,t,fr,h1,h2,h3⟩=>⟨n,o,c,t,fr,h1,jA _ _ h2,λi xs hi=>(h3 i xs hi).imp λy ⟨a,b⟩=>⟨a,qf.any (e:=e) jA b⟩⟩
 | .qI _ z len g el o i,_,⟨n,o0,c,t,fr,h1,h2,h3,h4⟩=>
  ⟨n,o0,c,t,fr,h1,jA _ _ h2,λi hi=>PR.ow (e:=⟨λ_=>none,e.z,e.n0,[],λ_=>none⟩) jA m (λ_=>rfl) (h3 i hi),h4⟩
 | .agg ps,_,⟨ys,h1,h2⟩=>⟨ys,PR.ow jA m hr h1,h2⟩
 | .bP vs,_,⟨ys,h1,h2⟩=>⟨ys,LR.ow jA m hr h1,h2⟩
 | .iface _ x,_,⟨y,h1,h2⟩=>⟨y,VR.ow jA m hr h1,h2⟩
 | .fn _ a b,_,⟨ys,us,h1,h2,h3⟩=>⟨ys,us,LR.ow jA m hr h1,LR.ow jA m hr h2,h3⟩
 | .aF _ _ _,_,h=>h
 | .b9 b _ _ _ _,_,h=>by
  rcases h with h|⟨p,c,a,h1,h2⟩
  ·exact .inl h
  ·rw[hr] at h1;cases h1
 | .fk b _ _ _ _,_,⟨p,h1,_⟩=>by rw[hr] at h1;cases h1
 | .xD b,_,⟨p,h1,_⟩=>by rw[hr] at h1;cases h1
 | .fU _ _,_,h=>h
theorem LR.ow{e:cw}{zz:Nat->Option (Array Value×TypeId×(Nat×Nat))}(jA:∀n x,e.z n=some x->zz n=some x)(m:Nat)(hr:∀j,e.r j=none):∀{vs:List SV}{ys:List Value},LR e vs ys->LR (mb zz m) (ah vs) ys
 | [],_,h=>h
 |_::_,_,⟨y,zs,h1,h2,h3⟩=>⟨y,zs,VR.ow jA m hr h1,LR.ow jA m hr h2,h3⟩
theorem PR.ow{e:cw}{zz:Nat->Option (Array Value×TypeId×(Nat×Nat))}(jA:∀n x,e.z n=some x->zz n=some x)(m:Nat)(hr:∀j,e.r j=none):∀{vs:List SV}{ys:List Value},PR e vs ys->PR (mb zz m) (ah vs) ys
 | [],_,h=>h
 |x::xs,_,h=>by
  have ih:=λ(zs:List Value)(h:PR e xs zs)=>PR.ow jA m hr h
  have iv:=λ(y:Value)(h:VR e x y)=>VR.ow jA m hr h
  cases x<;>first
   |(obtain⟨zs,h1,h2⟩:=h;exact⟨zs,ih zs h1,h2⟩)
   |(rename_i z n gg;obtain⟨us,zs,h0,h1,h2,h3⟩:=h;exact⟨us,zs,h0,λi hi=>PR.ow (e:=⟨λ_=>none,e.z,e.n0,[],λ_=>none⟩) jA m (λ_=>rfl) (h1 i hi),ih zs h2,h3⟩)
   |(obtain⟨y,zs,h1,h2,h3⟩:=h;exact⟨y,zs,iv y h1,ih zs h2,h3⟩)
end
mutual
theorem pH(R:bM B e h w){zz:Nat->Option (Array Value×TypeId×(Nat×Nat))}(jA:∀n x,e.z n=some x->zz n=some x){T:Bool}(hT:T=true->∀(i:Nat)(p:Pl)(c:Array Value)(t:TypeId),h[i]? ≠some (.b [])->e.r i=some p->w.heap[p.n]?=some (.cells c t (0,0))->zz p.n=some (c,t,(0,0)))(m:Nat):∀{v u:SV}{t:Bool}{v':Value},cA h v=some (u,true,t)->(t=true->T=true)->VR e v v'->VR (mb zz m) u v'
 | .bool _,u,t,v',g,_,hv=>by simp only[cA,Mf,aad] at g;obtain⟨rfl,_⟩:=g;exact hv
 | .int _ _,u,t,v',g,_,hv=>by simp only[cA,Mf,aad] at g;obtain⟨rfl,_⟩:=g;exact hv
 | .str _,u,t,v',g,_,hv=>by simp only[cA,Mf,aad] at g;obtain⟨rfl,_⟩:=g;exact hv
 | .nl _,u,t,v',g,_,hv=>by simp only[cA,Mf,aad] at g;obtain⟨rfl,_⟩:=g;exact hv
 | .af _ _ _,u,t,v',_,_,hv=>hv.elim
 | .aG _ _ _,u,t,v',g,_,_=>by simp[cA] at g
 | .sl b o i z len cap ex wh,u,t,v',g,ht,hv=>by
  by_cases hz:z=1
  ·subst hz
   have h1:t=true:=by
    simp only[cA] at g
    split at g
    ·simp only[Mf,aad] at g;exact g.2.2.symm
    ·obtain⟨q,_,h2⟩:=aaC.1 g;simp only[aad] at h2;exact h2.2.2.symm
    ·cases g
   exact(ajG R (hT (ht h1)) jA g hv m).2
  ·exfalso
   unfold cA at g
   split at g<;>first|(rename_i h1;cases h1;done)|skip
   all_goals first|(rename_i h1;cases h1;exact hz rfl)|(cases g)
 | .ro f k xs,u,t,v',g,_,hv=>by
  simp only[cA,Mf,aad] at g
  obtain⟨rfl,_⟩:=g
  exact qf.any (e:=e) jA hv
 | .iX f xss,u,t,v',g,_,hv=>by
  simp only[cA,Mf,aad] at g
  obtain⟨rfl,_⟩:=g
  rcases hv with h|⟨n,o,cap,c,t,fr,h1,h2,h3,h4,h5,h6⟩
  ·exact .inl h
  ·exact .inr ⟨n,o,cap,c,t,fr,h1,jA _ _ h2,(λq=>by cases q),(λi xs hi=>(h4 i xs hi).imp λy ⟨a,b⟩=>⟨a,qf.any (e:=e) jA b⟩),h5,h6⟩
 | .aO f z len gg,u,t,v',g,_,hv=>by
  simp only[cA,Mf,aad] at g
  obtain⟨rfl,_⟩:=g
  rcases hv with h|⟨n,o,cap,c,t,fr,h1,h2,h3,h4,h5,h6⟩
  ·exact .inl h
  ·exact .inr ⟨n,o,cap,c,t,fr,h1,jA _ _ h2,(λq=>by cases q),(λi hi=>PR.ow (e:=⟨λ_=>none,e.z,e.n0,[],λ_=>none⟩) jA m (λ_=>rfl) (h4 i hi)),h5,h6⟩
 | .uG _ _ _,u,t,v',g,_,_=>by simp[cA] at g
 | .ye _ _ _,u,t,v',g,_,_=>by simp[cA] at g
 | .qI _ _ _ _ _ _ _,u,t,v',g,_,_=>by simp[cA] at g
 | .agg ps,u,t,v',g,ht,hv=>by
  simp only[cA] at g
  split at g
  ·rename_i l p t' hl
   simp only[Mf,aad] at g
   obtain⟨rfl,rfl,rfl⟩:=g
   obtain⟨ys,hys,rfl⟩:=hv
   exact⟨ys,ud R jA hT m hl ht hys,rfl⟩
  ·cases g
 | .bP _,u,t,v',g,_,_=>by simp[cA] at g
 | .iface ty x,u,t,v',g,ht,hv=>by
  simp only[cA] at g
  split at g
  ·rename_i y p t' hl
   simp only[Mf,aad] at g
   obtain⟨rfl,rfl,rfl⟩:=g
   obtain⟨y',hy,rfl⟩:=hv
   exact⟨y',pH R jA hT m hl ht hy,rfl⟩
  ·cases g
 | .fn _ _ _,u,t,v',g,_,_=>by simp[cA] at g
 | .aF _ _ _,u,t,v',g,_,_=>by simp[cA] at g
 | .fk _ _ _ _ _,u,t,v',g,_,_=>by simp[cA] at g
 | .xD _,u,t,v',g,_,_=>by simp[cA] at g
 | .fU _ _,u,t,v',g,_,_=>by simp[cA] at g
 | .b9 b z len cap ex,u,t,v',g,ht,hv=>by
  simp only[cA] at g
  split at g
  ·rename_i z' n gg hb
   cases hz:Nat.beq z' z with
   |false=>rw[hz] at g;cases g
   |true=>
    rw[hz] at g
    obtain rfl:=acr hz
    simp only[Mf,aad,aac] at g
    obtain⟨rfl,Bh,rfl⟩:=g
    rcases hv with⟨h0,_,a,rfl⟩|⟨p,cap',a,hp,rfl,ha,_,_,hlc,hft⟩
    ·exact .inl ⟨h0,a,0,rfl,λ_=>rfl⟩
    ·by_cases h0:len=0
     ·exact .inl ⟨h0,_,cap',by rw[h0],λq=>by cases q⟩
     ·have hc0:cap'≠0:=by omega
      obtain⟨c,ty,hcell,hsz,hps,qh⟩:=R.block hp hb
      obtain⟨us,zs,k1,k2,k3,k4⟩:=qh
      rw[PR] at k3;subst k3
      rw[acj] at k4
      have yE:=ha hc0
      have Pp:=hft hc0
      have Fs:aC [SV.aF z' n gg]=n*z':=by simp[aC,kf]
      rw[Fs] at k4 hps
      refine .inr ⟨p.n,a,cap',c,ty,(0,0),rfl,hT (ht rfl) b p c ty (by rw[hb];simp) hp hcell,(λq=>by cases q),λi hi=>?_,hlc,by omega⟩
      have k:=k2 i (by omega)
      have hi2:i*z'+z'<=n*z':=by
       have:=aeK z' (show i+1<=n by omega)
       rw[Nat.succ_mul] at this;exact this
      rw[<-k4,ahB,ahy,afu,agK (by omega), <-yE] at k
      exact PR.ow (e:=⟨λ_=>none,e.z,e.n0,[],λ_=>none⟩) jA m (λ_=>rfl) k
  ·cases g
theorem ud(R:bM B e h w){zz:Nat->Option (Array Value×TypeId×(Nat×Nat))}(jA:∀n x,e.z n=some x->zz n=some x){T:Bool}(hT:T=true->∀(i:Nat)(p:Pl)(c:Array Value)(t:TypeId),h[i]? ≠some (.b [])->e.r i=some p->w.heap[p.n]?=some (.cells c t (0,0))->zz p.n=some (c,t,(0,0)))(m:Nat):∀{vs us:List SV}{t:Bool}{ys:List Value},mL h vs=some (us,true,t)->(t=true->T=true)->PR e vs ys->PR (mb zz m) us ys
 | [],us,t,ys,g,_,hv=>by simp only[mL,Mf,aad] at g;obtain⟨rfl,_⟩:=g;exact hv
 |x::xs,us,t,ys,g,ht,hv=>by
  simp only[mL] at g
  split at g
  ·rename_i y p a l q b hx hl
   simp only[Mf,aad,av] at g
   obtain⟨rfl,⟨rfl,rfl⟩,rfl⟩:=g
   have ha:a=true->T=true:=λh=>ht (by rw[h];rfl)
   have hb:b=true->T=true:=λh=>ht (by rw[h];exact Bool.or_true _)
   by_cases hn:bQ x=true
   ·obtain⟨y',zs,h1,h2,rfl⟩:=(PR.cons hn).1 hv
    exact(PR.cons (nB hx hn)).2 ⟨y',zs,pH R jA hT m hx ha h1,ud R jA hT m hl hb h2,rfl⟩
   ·cases x<;>simp[bQ] at hn
    case aF=>simp[cA] at hx
    simp only[cA,Mf,aad] at hx
    obtain⟨rfl,_⟩:=hx
    obtain⟨zs,h2,rfl⟩:=hv
    exact⟨zs,ud R jA hT m hl hb h2,rfl⟩
  ·cases g
end
def z8(R:bM B e h w){zz}(j:∀n x,e.z n=E x->zz n=E x){T}(f:T=Z->∀(i:Nat)(p:Pl)(c:Array Value)(t:TypeId),h[i]? ≠E (.b [])->e.r i=E p->w.heap[p.n]?=E (.cells c t (0,0))->zz p.n=E (c,t,(0,0))) m:∀{vs us}{t}{ys},mL h vs=E (us,Z,t)->(t=Z->T=Z)->LR e vs ys->LR (mb zz m) us ys
 | [],us,t,ys,g,_,d=>by simp only[mL,Mf,aad] at g;have⟨rfl,_⟩:=g;exact d
 |x::H,us,t,ys,g,o,d=>by
  simp[mL] at g;split at g
  ·rename_i y p a l q b s D;simp[Mf,aad,av] at g;obtain⟨rfl,⟨rfl,rfl⟩,rfl⟩:=g;obtain⟨F,v,u,G,rfl⟩:=d;exact⟨F,v,pH R j f m s (λh=>o (by rw[h];rfl)) u,z8 R j f m D (λh=>o (by rw[h];exact Bool.or_true _)) G,rfl⟩
  ·cases g
end
end
mutual
def gU:SV->Bool
 | .ro f _ _=>!f
 | .iX f _=>!f
 | .aO _ _ _ _=>true
 | .uG _ _ _=>true
 | .ye _ _ _=>true
 | .qI _ _ _ _ _ _ _=>true
 | .aF _ _ _=>true
 | .agg ps=>lB ps
 | .bP vs=>lB vs
 | .iface _ x=>gU x
 | .fn _ a b=>lB a||lB b
 |_=>false
def lB:List SV->Bool
 | []=>false
 |x::xs=>gU x||lB xs
end
section
variable {e e':cw}
def qf.fresh(j:∀n x,e.n0<=n->e.z n=E x->e'.z n=E x)(b:e'.n0<=e.n0){k xs v}(g:qf e Z k xs v):qf e' Z k xs v:=by
 rcases g with h|⟨n,o,cap,c,t,i,d,p,a,m,l,f⟩
 ·exact .inl h
 ·exact .inr ⟨n,o,cap,c,t,i,d,j _ _ (a rfl) p,λq=>af3 b (a q),m,l,f⟩
def Ld.fresh(f:∀n x,e.n0<=n->e.z n=E x->e'.z n=E x)(d:e'.n0<=e.n0){xss v}(g:Ld e Z xss v):Ld e' Z xss v:=by
 rcases g with h|⟨n,o,cap,c,t,p,l,y,j,u,s,m⟩
 ·exact .inl h
 ·exact .inr ⟨n,o,cap,c,t,p,l,f _ _ (j rfl) y,λq=>af3 d (j q),λi D r=>(u i D r).imp λy ⟨a,b⟩=>⟨a,b.fresh f d⟩,s,m⟩
mutual
theorem VR.fresh(hr:e'.r=e.r)(hz:∀n x,e.n0<=n->e.z n=some x->e'.z n=some x)(hn:e'.n0<=e.n0):∀{v:SV}{v':Value},gU v=false->VR e v v'->VR e' v v'
 | .bool _,_,_,h=>h
 | .int _ _,_,_,h=>h
 | .str _,_,_,h=>h
 | .nl _,_,_,h=>h
 | .af _ _ _,_,_,h=>h
 | .aG b _ _,_,_,⟨p,h1,h2⟩=>⟨p,by rw[hr];exact h1,h2⟩
 | .sl b _ _ _ _ _ _ _,_,_,h=>by
  rcases h with h|⟨p,c,a,h1,h2⟩
  ·exact .inl h
  ·exact .inr ⟨p,c,a,by rw[hr];exact h1,h2⟩
 | .ro true _ _,_,_,h=>qf.fresh hz hn h
 | .ro false _ _,_,g,_=>by simp[gU] at g
 | .iX true _,_,_,h=>Ld.fresh hz hn h
 | .iX false _,_,g,_=>by simp[gU] at g
 | .aO _ _ _ _,_,g,_=>by simp[gU] at g
 | .uG _ _ _,_,g,_=>by simp[gU] at g
 | .ye _ _ _,_,g,_=>by simp[gU] at g
 | .qI _ _ _ _ _ _ _,_,g,_=>by simp[gU] at g
 | .agg ps,_,g,⟨ys,h1,h2⟩=>⟨ys,PR.fresh hr hz hn (by simpa[gU] using g) h1,h2⟩
 | .bP vs,_,g,⟨ys,h1,h2⟩=>⟨ys,LR.fresh hr hz hn (by simpa[gU] using g) h1,h2⟩
 | .iface _ x,_,g,⟨y,h1,h2⟩=>⟨y,VR.fresh hr hz hn (v:=x) (by simpa[gU] using g) h1,h2⟩
 | .fn _ a b,_,g,⟨ys,us,h1,h2,h3⟩=>by
  simp only[gU,aiH] at g
  exact⟨ys,us,LR.fresh hr hz hn g.1 h1,LR.fresh hr hz hn g.2 h2,h3⟩
 | .aF _ _ _,_,_,h=>h.elim
 | .b9 b _ _ _ _,_,_,h=>by
  rcases h with h|⟨p,c,a,h1,h2⟩
  ·exact .inl h
  ·exact .inr ⟨p,c,a,by rw[hr];exact h1,h2⟩
 | .fk b _ _ _ _,_,_,⟨p,h1,h2⟩=>⟨p,by rw[hr];exact h1,h2⟩
 | .xD b,_,_,⟨p,h1,h2⟩=>⟨p,by rw[hr];exact h1,h2⟩
 | .fU _ _,_,_,h=>h
theorem LR.fresh(hr:e'.r=e.r)(hz:∀n x,e.n0<=n->e.z n=some x->e'.z n=some x)(hn:e'.n0<=e.n0):∀{v:List SV}{v':List Value},lB v=false->LR e v v'->LR e' v v'
 | [],_,_,h=>h
 |x::xs,_,g,⟨y,zs,h1,h2,h3⟩=>by
  simp only[lB,aiH] at g
  exact⟨y,zs,VR.fresh hr hz hn g.1 h1,LR.fresh hr hz hn g.2 h2,h3⟩
theorem PR.fresh(hr:e'.r=e.r)(hz:∀n x,e.n0<=n->e.z n=some x->e'.z n=some x)(hn:e'.n0<=e.n0):∀{v:List SV}{v':List Value},lB v=false->PR e v v'->PR e' v v'
 | [],_,_,h=>h
 |x::xs,ys,g,h=>by
  simp only[lB,aiH] at g
  by_cases hx:bQ x=true
  ·obtain⟨y,zs,h1,h2,h3⟩:=(PR.cons hx).1 h
   exact(PR.cons hx).2 ⟨y,zs,VR.fresh hr hz hn g.1 h1,PR.fresh hr hz hn g.2 h2,h3⟩
  ·cases x<;>simp[bQ] at hx
   case aF=>simp[gU] at g
   obtain⟨zs,h1,h2⟩:=h
   exact⟨zs,PR.fresh hr hz hn g.2 h1,h2⟩
end
end
def shB(j:Nat):Blk->Blk
 | .b a=>.b (jN (λb=>b+j) a)
 | .g _=>.gap
def lC:Blk->Bool
 | .b a=>lB a
 | .g _=>I
def pI{h new j}(d:nS h j (A new)) i:(cO h j new)[i]?=if j<=i/\i<j+A new then new[i-j]? else h[i]? :=by
 unfold cO;split
 ·rename_i b;rcases agP .. with h1|h1
  ·rw[afy h1,acB (by omega)]
  ·rw[afE h1];by_cases a:i<j+A new
   ·rw[ae8 ⟨by omega,a⟩,b]
   ·rw[acB (by omega),afs (by omega),afs h1]
 ·rename_i b;have c:=d.resolve_left b;rw[jr];by_cases a:j<=i/\i<j+A new
  ·have:=(aaR.1 (c (i-j) (by omega))).1;rw[ae8 ⟨a.1,a.2,by omega⟩,ae8 a]
  ·rw[acB (by omega),acB a]
def iV{h new j}:A h<=A (cO h j new):=by
 unfold cO;split
 ·simp
 ·rw[o8];exact aar _
def BS{h new j i}(a:nS h j (A new))(hi:i<A new):j+i<A (cO h j new):=by have:=pI a (j+i);rw[ae8 (by omega),aic,aaQ hi] at this;exact(aaR.1 this).1
section
variable {P:Program}
def sj{f us v new}(g:ak P f us [] v new){h vs t}(ao:mL h vs=E (us,Z,t))(ac:t=Z->gU v=I/\∀b∈new,lC b=I)
  {B e w args j}(hl:LR e vs args)(R:bM B e h w)(hj:nS h j (A new)):
  Calls P f ⟨args⟩ w λen w'=>∃v',en=.returned v'/\∃e2,VR e2 (mU (λb=>b+j) v) v'/\bM B e2 (cO h j (new.map (shB j))) w'/\c9 e e2 Y:=by
 let zz:=if t=Z then lM w else e.z;have jA:∀n x,e.z n=E x->zz n=E x:=λn x d=>by
  show(if t=Z then lM w else e.z) n=E x
  by_cases ht:t=Z
  ·rw[ae8 ht];have⟨c,L,K⟩:=x;exact pG (R.gN n c L K d)
  ·rw[acB ht];exact d
 have U:=z8 R jA (λht i p c L _ _ J=>by show(if t=Z then lM w else e.z) p.n=_;rw[ae8 ht];exact pG J) w.heap.size ao id hl
 let B0:dj:=⟨w,mb zz w.heap.size,0,[]⟩
 have R0:bM B0 (mb zz w.heap.size) [] w:={
  os:=rfl,tape:=rfl,output:=rfl,size:=aar _,inj:=(λi j p q a=>by cases a),dom:=(λi p a=>by cases a),gM:=(λi p a=>by cases a)
  gN:=λn c L K d=>by
   have s:(if t=Z then lM w else e.z) n=E (c,L,K):=d
   by_cases ht:t=Z
   ·rw[ae8 ht] at s;exact w5 s
   ·rw[acB ht] at s;exact R.gN n c L K s
  bN:=λ_ _ d=>.inl d,fU:=λg k xs hg=>(R.fU g k xs hg).imp λc ⟨t,K,h1,h2⟩=>⟨t,K,jA _ _ h1,h2⟩,cM:=λ_ _ a=>.inl a,b6:=λ_ _ a=>a,cE:=λ_ _ d=>d,n0:=rfl,dK:=aar _
  gr:=λi ps a=>by simp at a
  gap:=λi g a=>by simp at a
  yi:=(λi j n a=>by cases a),yb:=(λi n a=>by cases a)
  old:=λ_ _ _ _=>rfl,lz:=(λi p a=>by cases a),kr:=(λi p a=>by cases a),iT:=aar _,g7:=(λr hr=>by cases hr),jG:=List.nodup_nil}
 refine(g B0 _ w args (aar _) U R0).mono ?_
 rintro en w' ⟨v',rfl,e',_,hv,S⟩
 have FL:∀i p,e'.r i=E p->w.heap.size<=p.n:=λi p a=>(S.cM i p a).resolve_left (λx=>by cases x)
 have oK:∀n,n<w.heap.size->w'.heap[n]?=w.heap[n]? :=λn D=>S.old n D (λi p a=>by cases a) (by simp[B0])
 have t7:e'.n0=w.heap.size:=S.n0
 have ZE:e.n0<=w.heap.size:=by have:=R.n0;have:=R.dK;have:=R.size;omega
 let z2:Nat->Option (Array Value×TypeId×(Nat×Nat)):=λn=>if n<w.heap.size then e.z n else e'.z n
 let e2:cw:=⟨λi=>if j<=i/\i<j+A new then e'.r (i-j) else e.r i,z2,e.n0,e.m,e.y⟩
 have an:∀i p,i<A new->e'.r i=E p->e2.r (i+j)=E p:=λi p a G=>by
  show(if j<=i+j/\i+j<j+A new then e'.r (i+j-j) else e.r (i+j))=E p
  rw[ae8 (by omega),Nat.add_sub_cancel];exact G
 have ad:∀i p,e.r i=E p->e2.r i=E p/\¬(j<=i/\i<j+A new):=λi p G=>by
  have al:¬(j<=i/\i<j+A new):=λhi=>by
   rcases hj with rfl|hg
   ·have:=R.dom i p G;omega
   ·have:=(R.gap i _ (by have:=hg (i-j) (by omega);rwa [show j+(i-j)=i by omega] at this)).1
    rw[G] at this;cases this
  exact⟨by show(if _ then _ else _)=E p;rw[acB al];exact G,al⟩
 have Vl:∀i p,e2.r i=E p->(¬(j<=i/\i<j+A new)/\e.r i=E p)\/((j<=i/\i<j+A new)/\e'.r (i-j)=E p):=λi p G=>by
  have W:(if j<=i/\i<j+A new then e'.r (i-j) else e.r i)=E p:=G
  split at W
  ·rename_i J;exact .inr ⟨J,W⟩
  ·rename_i J;exact .inl ⟨J,W⟩
 have ab:∀n x,n<w.heap.size->e'.z n=E x->t=I->e.z n=E x:=λn x D d ht=>by
  rcases S.bN n x d with q|q
  ·have q':(if t=Z then lM w else e.z) n=E x:=q
   rw[ht] at q'
   rw[acB (by simp)] at q';exact q'
  ·exact absurd q (by show¬w.heap.size<=n;omega)
 let e1:cw:={e' with z:=z2}
 have Vm:∀{u}{N},(t=Z->gU u=I)->VR e' u N->VR e1 u N:=λ{u N} hs hu=>by
  cases ht:t with
  |true=>exact VR.fresh (e:=e') (e':=e1) rfl (λn x D d=>by show(if n<w.heap.size then e.z n else e'.z n)=E x;rw[acB (by omega)];exact d) (aar _) (hs ht) hu
  |false=>exact VR.cN (e:=e') (e':=e1) (λn x d=>by
    show(if n<w.heap.size then e.z n else e'.z n)=E x
    by_cases D:n<w.heap.size
    ·rw[ae8 D];exact ab n x D d ht
    ·rw[acB D];exact d) (aar _) u N (λ_ _ _ h=>h) hu
 have Vn:∀{u}{N},(t=Z->lB u=I)->PR e' u N->PR e1 u N:=λ{u N} hs hu=>by
  cases ht:t with
  |true=>exact PR.fresh (e:=e') (e':=e1) rfl (λn x D d=>by show(if n<w.heap.size then e.z n else e'.z n)=E x;rw[acB (by omega)];exact d) (aar _) (hs ht) hu
  |false=>exact PR.cN (e:=e') (e':=e1) (λn x d=>by
    show(if n<w.heap.size then e.z n else e'.z n)=E x
    by_cases D:n<w.heap.size
    ·rw[ae8 D];exact ab n x D d ht
    ·rw[acB D];exact d) (aar _) u N (λ_ _ _ h=>h) hu
 have FN:e2.n0<=e1.n0:=by show e.n0<=e'.n0;omega
 have ae:∀i p,e'.r i=E p->i<A new:=S.dom
 have M:cw.Le e e2:=⟨λi p G=>(ad i p G).1,λn x d=>by
  show(if n<w.heap.size then e.z n else e'.z n)=E x
  rw[ae8 (R.ZP d)];exact d,aar _⟩
 refine⟨v',rfl,e2,VR.mU (e:=e1) (e':=e2) (λ_ _ h=>h) FN v v' (λi p _ G=>an i p (ae i p G) G) (Vm (λht=>(ac ht).1) hv),?_,c9.xK M rfl _⟩
 have V:nS h j (A (new.map (shB j))):=by simpa using hj
 exact{
  os:=S.os.trans R.os,tape:=S.tape.trans R.tape,output:=S.output.trans R.output,size:=af3 R.size S.size
  inj:=λi i' p q a ap af=>by
   rcases Vl i p a with⟨c1,l⟩|⟨c1,l⟩<;>rcases Vl i' q ap with⟨c2,H⟩|⟨c2,H⟩
   ·exact R.inj i i' p q l H af
   ·have:=R.lt l;have:=FL _ _ H;omega
   ·have:=R.lt H;have:=FL _ _ l;omega
   ·have:=S.inj _ _ p q l H af;omega
  dom:=λi p a=>by
   rcases Vl i p a with⟨_,l⟩|⟨c1,l⟩
   ·exact Nat.lt_of_lt_of_le (R.dom i p l) iV
   ·have:=BS V (i:=i-j) (by simp;omega)
    rwa [show j+(i-j)=i by omega] at this
  gM:=λi p a=>by
   show(if p.n<w.heap.size then e.z p.n else e'.z p.n)=Y
   rcases Vl i p a with⟨_,l⟩|⟨_,l⟩
   ·rw[ae8 (R.lt l)];exact R.gM i p l
   ·rw[acB (by have:=FL _ _ l;omega)];exact S.gM _ p l
  gN:=λn c L K d=>by
   have s:(if n<w.heap.size then e.z n else e'.z n)=E (c,L,K):=d
   split at s
   ·rename_i D;rw[oK n D];exact R.gN n c L K s
   ·exact S.gN n c L K s
  bN:=λn x d=>by
   have s:(if n<w.heap.size then e.z n else e'.z n)=E x:=d
   split at s
   ·exact R.bN n x s
   ·exact .inr (by have:=R.size;omega)
  fU:=λg k xs hg=>(R.fU g k xs hg).imp λc ⟨t,K,h1,h2⟩=>⟨t,K,M.z _ _ h1,h2⟩
  cM:=λi p a=>by
   rcases Vl i p a with⟨_,l⟩|⟨_,l⟩
   ·exact R.cM i p l
   ·exact .inr (by have:=R.size;have:=FL _ _ l;omega)
  b6:=λi p a=>(ad i p (R.b6 i p a)).1
  cE:=λn x d=>M.z n x (R.cE n x d)
  n0:=R.n0,dK:=R.dK
  gr:=λi ps a=>by
   rw[pI V,List.length_map] at a
   split at a
   ·rename_i J
    rw[afr] at a
    cases Q:new[i-j]? with
    |none=>rw[Q] at a;cases a
    |some b=>
     rw[Q] at a
     simp[acs,Mf] at a
     cases b with
     |g _=>cases a
     |b qs=>
      simp[shB,Blk.b.injEq] at a
      subst a
      have Dv:e2.r i=e'.r (i-j):=by show(if _ then _ else _)=_;rw[ae8 J]
      rcases S.gr (i-j) qs Q with⟨l,H⟩|⟨p,o,l,H,c,L,rfl,g3,g4,g5⟩
      ·exact .inl ⟨by rw[dy];exact l,by rw[Dv];exact H⟩
      ·refine .inr ⟨p,_,by rw[Dv];exact l,H,c,L,rfl,g3,by rw[dy];exact g4,?_⟩
       rw[dy]
       refine PR.mU (e:=e1) (e':=e2) (λ_ _ h=>h) FN qs _ (λb p _ G=>an b p (ae b p G) G) (Vn (λht=>?_) g5)
       have:=(ac ht).2 _ (ae9 Q)
       exact this
   ·rename_i J
    have Dv:e2.r i=e.r i:=by show(if _ then _ else _)=_;rw[acB J]
    rcases R.gr i ps a with⟨l,H⟩|⟨p,o,l,H,g3⟩
    ·exact .inl ⟨l,by rw[Dv];exact H⟩
    ·exact .inr ⟨p,o,by rw[Dv];exact l,by rw[oK p.n (R.lt l)];exact H,g3.mono M⟩
  gap:=λi g a=>by
   rw[pI V,List.length_map] at a
   split at a
   ·rename_i J
    rw[afr] at a
    cases Q:new[i-j]? with
    |none=>rw[Q] at a;cases a
    |some b=>
     cases b with
     |g g'=>
      rw[Q] at a
      simp[acs,shB,Mf,Blk.g.injEq] at a
      subst a
      refine⟨?_,trivial⟩
      show(if j<=i/\i<j+A new then e'.r (i-j) else e.r i)=Y
      rw[ae8 J]
      exact(S.gap _ _ Q).1
     |b qs=>rw[Q] at a;cases a
   ·rename_i J
    refine⟨?_,(R.gap i g a).2.le (λn o D=>by rw[oK n (abE.1 D).1];exact D) rfl M⟩
    show(if j<=i/\i<j+A new then e'.r (i-j) else e.r i)=Y
    rw[acB J];exact(R.gap i g a).1
  yi:=R.yi,yb:=R.yb
  old:=λn D ar qm=>by rw[oK n (by have:=R.size;omega)];exact R.old n D ar qm
  lz:=λi p a=>by
   have⟨o,o',h1,h2,h3⟩:=R.lz i p a
   exact⟨o,o',h1,by rw[oK p.n (R.lt (R.b6 i p a))];exact h2,h3⟩
  kr:=R.kr
  iT:=af3 R.iT iV
  g7:=λr hr=>by
   have:=R.g7 r hr
   rw[oK r (abE.1 this.1).1];exact this
  jG:=R.jG}
mutual
theorem BT{h:List Blk}:∀{v u:SV}{p t:Bool},cA [] v=some (u,p,t)->cA h v=some (u,p,t)/\t=false
 | .bool _,u,p,t,g=>by simp only[cA,Mf,aad] at g ⊢;exact⟨g,g.2.2.symm⟩
 | .int _ _,u,p,t,g=>by simp only[cA,Mf,aad] at g ⊢;exact⟨g,g.2.2.symm⟩
 | .str _,u,p,t,g=>by simp only[cA,Mf,aad] at g ⊢;exact⟨g,g.2.2.symm⟩
 | .nl _,u,p,t,g=>by simp only[cA,Mf,aad] at g ⊢;exact⟨g,g.2.2.symm⟩
 | .af _ _ _,u,p,t,g=>by simp only[cA,Mf,aad] at g ⊢;exact⟨g,g.2.2.symm⟩
 | .ro _ _ _,u,p,t,g=>by simp only[cA,Mf,aad] at g ⊢;exact⟨g,g.2.2.symm⟩
 | .iX _ _,u,p,t,g=>by simp only[cA,Mf,aad] at g ⊢;exact⟨g,g.2.2.symm⟩
 | .sl b o i z len cap ex wh,u,p,t,g=>by
  exfalso
  by_cases hz:z=1
  ·subst hz;simp[cA,dN] at g
  ·unfold cA at g
   split at g<;>first|(rename_i h1;cases h1;done)|skip
   all_goals first|(rename_i h1;cases h1;exact hz rfl)|(cases g)
 | .agg ps,u,p,t,g=>by
  simp only[cA] at g ⊢
  split at g
  ·rename_i l q t' hl
   obtain⟨h1,h2⟩:=w6 (h:=h) hl
   rw[h1]
   simp only[Mf,aad] at g ⊢
   exact⟨g,by rw[<-g.2.2];exact h2⟩
  ·cases g
 | .iface ty x,u,p,t,g=>by
  simp only[cA] at g ⊢
  split at g
  ·rename_i y q t' hl
   obtain⟨h1,h2⟩:=BT (h:=h) hl
   rw[h1]
   simp only[Mf,aad] at g ⊢
   exact⟨g,by rw[<-g.2.2];exact h2⟩
  ·cases g
 | .aG _ _ _,u,p,t,g=>by simp[cA] at g
 | .aO _ _ _ _,u,p,t,g=>by simp only[cA,Mf,aad] at g ⊢;exact⟨g,g.2.2.symm⟩
 | .uG _ _ _,u,p,t,g=>by simp[cA] at g
 | .ye _ _ _,u,p,t,g=>by simp[cA] at g
 | .qI _ _ _ _ _ _ _,u,p,t,g=>by simp[cA] at g
 | .bP _,u,p,t,g=>by simp[cA] at g
 | .fn _ _ _,u,p,t,g=>by simp[cA] at g
 | .aF _ _ _,u,p,t,g=>by simp[cA] at g
 | .b9 _ _ _ _ _,u,p,t,g=>by simp[cA] at g
 | .fk _ _ _ _ _,u,p,t,g=>by simp[cA] at g
 | .xD _,u,p,t,g=>by simp[cA] at g
 | .fU _ _,u,p,t,g=>by simp[cA] at g
theorem w6{h:List Blk}:∀{v u:List SV}{p t:Bool},mL [] v=some (u,p,t)->mL h v=some (u,p,t)/\t=false
 | [],u,p,t,g=>by simp only[mL,Mf,aad] at g ⊢;exact⟨g,g.2.2.symm⟩
 |x::xs,u,p,t,g=>by
  simp only[mL] at g ⊢
  split at g
  ·rename_i y p1 a l q b hx hl
   obtain⟨h1,h2⟩:=BT (h:=h) hx
   obtain⟨h3,h4⟩:=w6 (h:=h) hl
   rw[h1,h3]
   simp only[Mf,aad] at g ⊢
   exact⟨g,by rw[<-g.2.2,h2,h4];rfl⟩
  ·cases g
end
def Vo{h v u p t}(g:mL [] v=E (u,p,t)):mL h v=E (u,p,t)/\t=I:=w6 g
structure aK(P:Program) where
 f:FuncId
 g:List SV->List Blk->Nat->Option (SV×List Blk×List Blk×Bool)
 pf:Nat
 nb:Nat
 ok:∀vs h j v h' new,g vs h j=some (v,h',new,true)->∀(B:dj)(e:cw)(w:World)(args:List Value),LR e vs args->bM B e h w->nS h j new.length->
  qW P (.func f) ⟨args⟩ w λv' w'=>∃e',VR e' v v'/\bM B e' (cO h' j new) w'/\c9 e e' none
 pu:(pf=0->∀vs h j v h' new p,g vs h j=some (v,h',new,p)->h'=h/\∀h2,g vs h2 j=some (v,h2,new,p))/\(pf=1->∀vs h j v h' new p,g vs h j=some (v,h',new,p)->h'=h/\∀h2,Pw h h2->g vs h2 j=some (v,h2,new,p))
def aK.val f fn(K:P.funcs[f]?=E fn)(hn:(fn.name != "runtime.NumGoroutine")=Z)(r:fn.body.isSome=Z)(o:Bool)(nb:Nat)(F:List SV->Option (SV×List Blk×Bool))
  (ok:∀vs v new,F vs=E (v,new,Z)->ak P f vs [] v new):aK P where
 f:=f;g:=λvs h j=>match mL (match o with|true=>h|false=>[]) vs with
  |some (i,p,t)=>match F i with
   |some (v,new,q)=>match t&&(gU v||new.any lC) with
    |true=>Y
    |false=>E (mU (λb=>b+j) v,h,new.map (shB j),aa p q)
   |none=>Y
  |none=>Y
 pf:=match o with|true=>1|false=>0;nb:=nb
 ok:=by
  intro vs h j v z new g B e w args D R y
  split at g
  ·rename_i i p t a
   split at g
   ·rename_i u m q l
    split at g
    ·cases g
    ·rename_i c
     simp[Mf,aad,av] at g
     obtain⟨rfl,rfl,rfl,rfl,rfl⟩:=g
     have n:t=Z->gU u=I/\∀b∈m,lC b=I:=λht=>by
      rw[ht,af0,aiH] at c
      refine⟨c.1,λb r=>?_⟩
      cases G:lC b with
      |false=>rfl
      |true=>
       have:=afJ.2 ⟨b,r,G⟩
       rw[this] at c;cases c.2
     have J:fn.body≠Y:=λq=>by rw[q] at r;cases r
     refine .inr ⟨fV K (by simpa using hn) J _ w,?_⟩
     cases o with
     |true=>exact sj (ok i u m l) a n D R (by simpa using y)
     |false=>
      have d:mL h vs=E (i,Z,t)/\t=I:=Vo a
      exact sj (ok i u m l) d.1 n D R (by simpa using y)
   ·cases g
  ·cases g
 pu:=by
  constructor
  ·intro H vs h j v z new p g
   cases o with
   |true=>cases H
   |false=>
    simp only at g ⊢
    split at g
    ·rename_i i p1 t a
     split at g
     ·rename_i u m q l
      split at g
      ·cases g
      ·rename_i c
       simp[Mf,aad] at g
       have⟨rfl,rfl,rfl,rfl⟩:=g
       exact⟨rfl,λh2=>rfl⟩
     ·cases g
    ·cases g
  ·intro _ vs h j v z new p g
   split at g
   ·rename_i i p1 t a
    split at g
    ·rename_i u m q l
     split at g
     ·cases g
     ·rename_i c
      simp[Mf,aad] at g
      have⟨rfl,rfl,rfl,rfl⟩:=g
      refine⟨rfl,λh2 x=>?_⟩
      cases o with
      |false=>rw[a];simp only;rw[l];simp only;rw[c]
      |true=>
       have d:=Dw x a
       simp only
       rw[d];simp only;rw[l];simp only;rw[c]
    ·cases g
   ·cases g
def aK.ext f(F:List SV->Option (SV×Bool))(ok:∀vs v,F vs=E (v,Z)->∀(e:cw)(w:World)(args:List Value),LR e vs args->∃v',(callFunc f ⟨args⟩).run P w=.ok (.value v') w/\VR e v v'):aK P where
 f:=f;g:=λvs h _=>match F vs with
  |some (v,p)=>E (v,h,[],p)
  |none=>Y
 pf:=0;nb:=0
 ok:=by
  intro vs h j v c new g B e w args l R m
  split at g
  ·rename_i u p b
   simp[Mf,aad] at g
   obtain⟨rfl,rfl,rfl,rfl⟩:=g
   have⟨v',i,d⟩:=ok vs u b e w args l
   exact .inl ⟨v',w,i,e,d,by rw[b8];exact R,c9.refl _ _⟩
  ·cases g
 pu:=by
  refine⟨λ_ vs h j v c new p g=>?_,λh=>by cases h⟩
  split at g
  ·simp[Mf,aad] at g
   rename_i b
   have⟨rfl,rfl,rfl,rfl⟩:=g
   exact⟨rfl,λh2=>rfl⟩
  ·cases g
def mk(c:List (aK P))(inl:List (FuncId×Func))(sym:Tmp->Option Bool:=λ_=>Y)(eZ:Tmp->Bool:=λ_=>I):cu where
 sym:=sym;eZ:=eZ;g:=λf d h j=>match c.find? (λe=>e.f==f) with
  |some e=>e.g d h j
  |none=>Y
 inl:=λf=>(inl.find? λe=>e.1==f).map (·.2);pf:=λf=>match inl.find? (λe=>e.1==f) with
  |some _=>2
  |none=>match c.find? (λe=>e.f==f) with
   |some e=>e.pf
   |none=>2
 nb:=λf=>match c.find? (λe=>e.f==f) with
  |some e=>e.nb
  |none=>0
def aN(P:Program)(a:List (FuncId×Func)):Prop:=∀x∈a,P.funcs[x.1]?=E x.2/\(x.2.name != "runtime.NumGoroutine")=Z
def aN.nil:aN P []:=λ_ h=>by cases h
def aN.cons{f fn}{l:List (FuncId×Func)}(b:P.funcs[f]?=E fn)(c:(fn.name != "runtime.NumGoroutine")=Z)(h:aN P l):aN P ((f,fn)::l):=λx a=>by
 rcases af7.1 a with rfl|a
 ·exact⟨b,c⟩
 ·exact h x a
def au(n:List (aK P)){inl}(hi:aN P inl) i eZ:aq P (mk n inl i eZ) where
 Dr:=λl c h v d g=>by cases g
 calls:=by
  intro f c h j v d new g;simp[mk] at g;split at g
  ·rename_i x a;have:=List.find?_some a;simp[afP] at this
   subst this
   exact x.ok c h j v d new g
  ·cases g
 pure:=by
  have l:∀f(m:Nat),(mk n inl i eZ).pf f=m->m≠2->∃x,n.find? (λe=>e.f==f)=E x/\x.pf=m:=λf m h u=>by
   simp[mk] at h
   split at h
   ·omega
   ·split at h
    ·rename_i x a;exact⟨x,a,h⟩
    ·omega
  refine⟨λf o c h j v d new p g=>?_,λf o c h j v d new p g=>?_⟩
  ·have⟨x,a,q⟩:=l f 0 o (by omega)
   simp[fnG,mk,a] at g ⊢
   exact x.pu.1 q c h j v d new p g
  ·have⟨x,a,q⟩:=l f 1 o (by omega)
   simp[fnG,mk,a] at g ⊢
   exact x.pu.2 q c h j v d new p g
 inl:=by
  intro f y g
  simp only[mk] at g ⊢
  obtain⟨x,a,rfl⟩:=aaC.1 g
  have r:=List.find?_some a
  simp[afP] at r
  subst r
  have⟨t,s⟩:=hi x (List.mem_of_find?_eq_some a)
  refine⟨t,by simpa using s,?_⟩
  rw[a];simp
end
def ag(n:Nat)(l:List (Nat×SV)):List (Option SV):=(t8 n).map λi=>(l.find? λp=>p.1==i).map (·.2)
def Vp(live:List Nat)(t:List (Option SV)):List (Option SV):=t.zipIdx.map λ(v,i)=>if live.contains i then v else Y
def St.jy(live:List Nat)(s:St):St:=⟨Vp live s.t,s.h,s.ob⟩
def bG(k:Nat)(s s':St):Prop:=∀B(e:cw)(w:World)(a:List Value),B.k<=k->TR e s.t a->bM B e s.h w->∃e',e'.m=e.m/\TR e' s'.t a/\bM B e' s'.h w
def bG.refl k(s:St):bG k s s:=λ_ e _ _ _ a R=>⟨e,rfl,a,R⟩
def bG.trans{k}{a b c:St}(h:bG k a b)(g:bG k b c):bG k a c:=λB e w d hB o R=>by have⟨e1,n,j,i⟩:=h B e w d hB o R;have⟨e2,f,l,m⟩:=g B e1 w d hB j i;exact⟨e2,f.trans n,l,m⟩
def bG.bR{k}{s s':St}(h1:s.t=s'.t)(h2:s.h=s'.h):bG k s s':=λ_ e _ _ _ a R=>⟨e,rfl,by rw[<-h1];exact a,by rw[<-h2];exact R⟩
def VE(v v':SV):Prop:=∀e(x:Value),VR e v x->VR e v' x
def PE(ps a:List SV):Prop:=aC a=aC ps/\∀e(b:List Value),PR e ps b->PR e a b
def bG.mono{k}{s s':St}(G:A s.t=A s'.t)(H:∀(i:Nat)(v':SV),s'.t[i]?=E (E v')->∃v,s.t[i]?=E (E v)/\VE v v')
  (r:A s'.h=A s.h)(u:∀(i:Nat)(j:List SV),s'.h[i]?=E (.b j)->∃ps,s.h[i]?=E (.b ps)/\PE ps j)(y:∀(i:Nat)(g:Option Lp),s'.h[i]?=E (.g g)->s.h[i]?=E (.g g)):bG k s s':=
 λB e w K hB d R=>⟨e,rfl,⟨G.symm.trans d.1,λi v' x q f=>by have⟨v,m,D⟩:=H i v' q;exact D e x (d.2 i v x m f)⟩,{R with
   dom:=λi p a=>by rw[r];exact R.dom i p a
   gr:=λi j a=>by
    have⟨ps,q,f,m⟩:=u i j a;rcases R.gr i ps q with⟨n,l⟩|⟨p,o,n,l,c,t,rfl,F,z,J⟩
    ·exact .inl ⟨by rw[f];exact n,l⟩
    ·exact .inr ⟨p,_,n,l,c,t,rfl,F,by rw[f];exact z,by rw[f];exact m e _ J⟩
   gap:=λi g a=>R.gap i g (y i g a)
   iT:=by rw[r];exact R.iT}⟩
def bG.zI{k}{s s':St}(g:A s.t=A s'.t)(c:∀(i:Nat)(v':SV),s'.t[i]?=E (E v')->s.t[i]?=E (E v'))(b:s.h=s'.h):bG k s s':=
 λ_ e _ _ _ a R=>⟨e,rfl,⟨g.symm.trans a.1,λi v' x f d=>a.2 i v' x (c i v' f) d⟩,by rw[<-b];exact R⟩
def bG.jy k(live:List Nat)(s:St):bG k s (s.jy live):=bG.zI (by simp[St.jy,Vp]) (λi v e=>by simp only[St.jy,Vp,afr,List.getElem?_zipIdx] at e;cases h:s.t[i]? with
  |none=>simp[h] at e
  |some x=>
   simp only[h,acs,Mf] at e;split at e
   ·rw[e]
   ·cases e) rfl
def Vq(n:Nat):Blk->Bool
 | .b a=>gA (t8 n) a
 | .g (E L)=>L.t.all λo=>match o with|some v=>dL (t8 n) v|none=>Z
 | .g Y=>Z
def St.dS(n:Nat)(s:St):Option St:=
 if s.t.all (λo=>match o with|some v=>dL (t8 n) v|none=>Z)&&(s.h.take n).all (Vq n) then E ⟨s.t,s.h.take n,s.ob⟩ else Y
def bG.dS{k n}(hk:k<=n){s s'}(h:s.dS n=E s'):bG k s s':=by
 unfold St.dS at h;split at h
 ·rename_i u;cases h;simp[No,aaB] at u;have⟨h1,Q⟩:=u;intro B e w t' hB S R;let e':cw:={e with r:=λi=>if i<n then e.r i else Y}
  have y:∀i p,e'.r i=E p->i<n/\e.r i=E p:=λi p a=>by
   have m:(if i<n then e.r i else Y)=E p:=a
   split at m
   ·rename_i u;exact⟨u,m⟩
   ·cases m
  have b:∀i,i<n->e'.r i=e.r i:=λi a=>ae8 a
  have up:∀j p,j∈t8 n->e.r j=E p->e'.r j=E p:=λj p G l=>by rw[b j (aaI.1 G)];exact l
  have J:∀i p,B.e.r i=E p->i<n:=λi p a=>by have:=R.kr i p a;omega
  refine⟨e',rfl,⟨S.1,λi v D f d=>?_⟩,?_⟩
  ·have:=h1 _ (ae9 f)
   exact VR.cN (e:=e) (e':=e') (λ_ _ h=>h) (aar _) v D (λj p z l=>up j p (kT this z) l) (S.2 i v D f d)
  ·have M:∀i x,(s.h.take n)[i]?=E x->i<n/\s.h[i]?=E x:=λi x a=>by
    rw[af1] at a
    split at a
    ·rename_i u;exact⟨u,a⟩
    ·cases a
   exact{R with
    inj:=λi j p q a G=>R.inj i j p q (y i p a).2 (y j q G).2
    dom:=λi p a=>by
     have⟨f,d⟩:=y i p a
     have:=R.dom i p d
     rw[afN];omega
    gM:=λi p a=>R.gM i p (y i p a).2
    cM:=λi p a=>R.cM i p (y i p a).2
    b6:=λi p a=>by rw[b i (J i p a)];exact R.b6 i p a
    gr:=λi N a=>by
     have⟨f,d⟩:=M i _ a
     have z:=Q _ (ae9 a)
     rcases R.gr i N d with⟨H,K⟩|⟨p,o,H,K,c,t,rfl,W,q4,V⟩
     ·exact .inl ⟨H,by rw[b i f];exact K⟩
     ·exact .inr ⟨p,_,by rw[b i f];exact H,K,c,t,rfl,W,q4,PR.cN (e:=e) (e':=e') (λ_ _ h=>h) (aar _) N _ (λj p F l=>up j p (fN z F) l) V⟩
    gap:=λi g a=>by
     have⟨f,d⟩:=M i _ a
     have z:=Q _ (ae9 a)
     refine⟨by rw[b i f];exact(R.gap i g d).1,(R.gap i g d).2.jy (λ_ _ h=>h) rfl λL hL v D T U=>?_⟩
     subst hL
     have:=aaB.1 z (E v) T
     exact VR.cN (e:=e) (e':=e') (λ_ _ h=>h) (aar _) v D (λj p F l=>up j p (kT this F) l) U
    iT:=by have:=R.iT;rw[afN];omega}
 ·cases h
def St.cut(live:List Nat)(n:Nat)(s:St):Option St:=(s.jy live).dS n
def bG.cut{k n}{live:List Nat}(a:k<=n){s s'}(h:s.cut live n=E s'):bG k s s':=(bG.jy k live s).trans (bG.dS a h)
section
variable {P:Program} {ro:Option Nat} {k:Nat}
def Tr.pre{c s s1 s' x}(h:Tr P ro k c s1 x s')(g:bG k s s1):Tr P ro k c s x s':=
 λB e w a d Q m hB l R b=>by have⟨e1,j,i,f⟩:=g B e w a hB l R;rw[<-j];exact h B e1 w a d Q m hB i f b
def Tr.post{c s s1 s' x}(h:Tr P ro k c s x s1)(g:bG k s1 s'):Tr P ro k c s x s':=
 λB e w i d Q p hB o R f=>h B e w i d Q p hB o R λe2 a t2 b j=>by have⟨e1,n,m,l⟩:=g B e2 a t2 hB b j;rw[<-n];exact f e1 a t2 m l
def TrR.pre{c s s1 s' x}(h:TrR P ro k c s1 x s')(g:bG k s s1):TrR P ro k c s x s':=by have⟨m,b⟩:=h;refine⟨m,λB e w a d Q o hB n R f=>?_⟩;have⟨e1,l,j,i⟩:=g B e w a hB n R;rw[<-l];exact b B e1 w a d Q o hB j i f
def Tr.cut{Γ}(f:aq P Γ) n(live:List Nat) m(b:k<=m){c s s' x}(e:(Sy.exec P Γ n k c s).bind (λr=>(r.2.cut live m).map λq=>(r.1,q))=E (x,s'))(d:s'.ob=Z):Tr P ro k c s x s':=by
 have⟨⟨y,j⟩,g,e⟩:=acU.1 e;have⟨i,a,q⟩:=aaC.1 e;cases q;refine(Tr.exec f g ?_).post (bG.cut b a);unfold St.cut St.dS at a;split at a
 ·cases a;exact d
 ·cases a
def aI(fn:Func):Code:=fn.body.getD .skip
def aH:Code->List Code
 | .seq a b=>aH a++aH b
 |c=>[c]
def aJ(n:Nat)(c:Code):Code:=X (aH c) n .skip
def aj:Code->Code
 | .block _ b=>b
 | .loop b=>b
 | .scope b=>b
 |c=>c
def pJ(a:Nat):Code->Bool
 | .block j (.loop _)=>j==a
 |_=>I
def TrL(P:Program)(ro:Option Nat)(k:Nat):List Code->St->Exit->St->Prop
 | [],s,x,b=>x=.normal/\b=s
 |a::l,s,x,b=>(∃c,Tr P ro k a s .normal c/\TrL P ro k l c x b)\/(x≠.normal/\Tr P ro k a s x b)
def TrL.append:∀l1{d}{s s'}{x},TrL P ro k (l1++d) s x s'->(∃s1,TrL P ro k l1 s .normal s1/\TrL P ro k d s1 x s')\/(x≠.normal/\TrL P ro k l1 s x s')
 | [],_,s,_,_,h=>.inl ⟨s,⟨rfl,rfl⟩,h⟩
 |a::l1,d,s,s',x,h=>by
  rcases h with⟨s1,c,j⟩|⟨b,c⟩
  ·rcases TrL.append l1 j with⟨i,f,g⟩|⟨b,f⟩
   ·exact .inl ⟨i,.inl ⟨s1,c,f⟩,g⟩
   ·exact .inr ⟨b,.inl ⟨s1,c,f⟩⟩
  ·exact .inr ⟨b,.inr ⟨b,c⟩⟩
def TrL.ajJ{c s s' x}(h:TrL P ro k [c] s x s'):Tr P ro k c s x s':=by
 rcases h with⟨b,a,rfl,rfl⟩|⟨_,a⟩
 ·exact a
 ·exact a
def Tr.eX:∀{c}{s s'}{x},TrL P ro k (aH c) s x s'->Tr P ro k c s x s':=by intro c;induction c with
 |seq a b d f=>
  intro s s' x h;rcases TrL.append (aH a) h with⟨l,g,j⟩|⟨i,g⟩
  ·exact Tr.seq (d g) (f j)
  ·exact Tr.jm (d g) i
 |_=>intro s s' x h;exact TrL.ajJ h
def bh(P:Program)(Γ:cu)(n k:Nat):Nat->List Code->St->Option St
 |0,_,s=>E s
 |m+1,a::l,s=>match exec P Γ n k a s with
  |some (.normal,b)=>bh P Γ n k m l b
  |_=>Y
 |_+1,[],_=>Y
def eM(P:Program)(Γ:cu)(n k:Nat):List Code->St->Option (Exit×St)
 | [],s=>E (.normal,s)
 |a::l,s=>match exec P Γ n k a s with
  |some (.normal,b)=>eM P Γ n k l b
  |r=>r
def m8{Γ}(f:aq P Γ) n:∀m{l}{s s1 s'}{x},bh P Γ n k m l s=E s1->s1.ob=Z->TrL P ro k (l.drop m) s1 x s'->TrL P ro k l s x s'/\s.ob=Z
 |0,l,s,s1,s',x,e,b,h=>by simp[bh,Mf] at e;subst e;exact⟨by simpa using h,b⟩
 |m+1,[],s,s1,s',x,e,_,_=>by simp[bh] at e
 |m+1,a::l,s,s1,s',x,e,b,h=>by
  simp[bh] at e;split at e
  ·rename_i c g;obtain⟨i,d⟩:=m8 f n m e b (by simpa only[List.drop_succ_cons] using h);exact⟨.inl ⟨c,Tr.exec f g d,i⟩,fq n k a s c _ g d⟩
  ·cases e
def xO{Γ}(d:aq P Γ) n:∀{l}{s s'}{x},eM P Γ n k l s=E (x,s')->s'.ob=Z->TrL P ro k l s x s'/\s.ob=Z
 | [],s,s',x,e,b=>by simp[eM,Mf,aad] at e;have⟨rfl,rfl⟩:=e;exact⟨⟨rfl,rfl⟩,b⟩
 |a::l,s,s',x,e,b=>by
  simp[eM] at e;split at e
  ·rename_i g i;have⟨m,f⟩:=xO d n e b;exact⟨.inl ⟨g,Tr.exec d i f,m⟩,fq n k a s g _ i f⟩
  ·rename_i c;have j:x≠.normal:=λq=>by subst q;exact c s' e
   exact⟨.inr ⟨j,Tr.exec d e b⟩,fq n k a s s' x e b⟩
def TrL.pre:∀{l}{s s1 s'}{x},TrL P ro k l s1 x s'->bG k s s1->l≠[]->TrL P ro k l s x s'
 | [],_,_,_,_,_,_,h=>absurd rfl h
 |_::_,_,_,_,_,.inl ⟨c,a,d⟩,g,_=>.inl ⟨c,a.pre g,d⟩
 |_::_,_,_,_,_,.inr ⟨b,a⟩,g,_=>.inr ⟨b,a.pre g⟩
def TrL.dM{Γ}(d:aq P Γ) n m(live:List Nat) j(c:k<=j){l s s1 s' x}(e:(bh P Γ n k m l s).bind (St.cut live j)=E s1)(b:s1.ob=Z)(i:m<A l)(h:TrL P ro k (l.drop m) s1 x s'):TrL P ro k l s x s':=by
 have⟨g,f,a⟩:=acU.1 e;refine(m8 d n m f ?_ (h.pre (bG.cut c a) (by intro q;have:=ahV List.length q;simp at this;omega))).1;unfold St.cut St.dS at a;split at a
 ·cases a;exact b
 ·cases a
def TrL.dV m{c s s1 s' x}(a:m<A (aH c))(h1:Tr P ro k (aJ m c) s .normal s1)(h2:TrL P ro k ((aH c).drop (m+1)) s1 x s'):TrL P ro k ((aH c).drop m) s x s':=by
 rw[List.drop_eq_getElem_cons a];refine .inl ⟨s1,?_,h2⟩;have:aJ m c=(aH c)[m]:=by simp[aJ,List.getD,aaQ a]
 rwa [this] at h1
def TrL.jn m{c s s' x}(a:m<A (aH c))(b:x≠.normal)(h1:Tr P ro k (aJ m c) s x s'):TrL P ro k ((aH c).drop m) s x s':=by
 rw[List.drop_eq_getElem_cons a];refine .inr ⟨b,?_⟩;have:aJ m c=(aH c)[m]:=by simp[aJ,List.getD,aaQ a]
 rwa [this] at h1
def TrL.rest{Γ}(b:aq P Γ) n{l s s' x}(e:eM P Γ n k l s=E (x,s'))(a:s'.ob=Z):TrL P ro k l s x s':=(xO b n e a).1
def Tr.loop d{c s'}(a:pJ d c=Z)(f:Nat->St) N(g:∀i,i<N->Tr P ro k (aj (aj c)) (f i) .normal (f (i+1)))(l:Tr P ro k (aj (aj c)) (f N) (.exit d) s'):Tr P ro k c (f 0) .normal s':=by cases c<;>simp[pJ] at a;rename_i j b;cases b<;>simp at a;subst a;exact Tr.block (TrR.loop (TrR.for (by simp) f N g l))
def Tr.agc id{c s s'}(a:pJ id c=Z)(h:TrR P ro k (aj (aj c)) s (.exit id) s'):Tr P ro k c s .normal s':=by cases c<;>simp[pJ] at a;rename_i j b;cases b<;>simp at a;subst a;exact Tr.block (TrR.loop h)
def Tr.rW id{c s s'}(a:pJ id c=Z)(h:TrR P ro k (aj (aj c)) s .ret s'):Tr P ro k c s .ret s':=by cases c<;>simp[pJ] at a;rename_i j b;cases b<;>simp at a;subst a;exact Tr.cz (TrR.loop h) (by simp)
def ak.mk{f fn}(d:P.funcs[f]?=E fn){args h x s vs}(i:fn.body.isSome=Z)(j:TrL P Y (A h) (aH (aI fn)) ⟨aU fn.ntmps args,h,Z⟩ x s)(b:x=.ret\/x=.normal)
  (g:ke P s.t s.h fn.results.toList=E (vs,Z)):ak P f args h (fK vs) s.h:=by have⟨c,a⟩:=Option.isSome_iff_exists.1 i;exact ak.Vj d a b (Tr.eX (by simpa[aI,a] using j)) g
def ak.rest{Γ}(i:aq P Γ) n m{f fn}(c:P.funcs[f]?=E fn){args h h' s v p}(d:fn.body.isSome=Z)
  (l:∀s' x,TrL P Y (A h) ((aH (aI fn)).drop m) s x s'->TrL P Y (A h) (aH (aI fn)) ⟨aU fn.ntmps args,h,Z⟩ x s')
  (e:((eM P Γ n (A h) ((aH (aI fn)).drop m) s).bind λr=>match r.1 with
   | .ret| .normal=>(ke P r.2.t r.2.h fn.results.toList).map λq=>(fK q.1,r.2.h,aa r.2.ob q.2)
   |_=>Y)=E (v,h',p))(j:p=Z):ak P f args h v h':=by
 have⟨⟨x,s'⟩,o,e⟩:=acU.1 e;subst j;have a:∀_,((ke P s'.t s'.h fn.results.toList).map λq=>(fK q.1,s'.h,aa s'.ob q.2))=E (v,h',Z)->ak P f args h v h':=λhx e=>by have⟨⟨u,q⟩,b,e⟩:=aaC.1 e;simp[aad,av] at e;obtain⟨rfl,rfl,g,rfl⟩:=e;exact ak.mk c d (l s' x (TrL.rest i n o g)) hx b
 cases x<;>simp only at e<;>first|exact a (by simp) e|cases e
def ak.post{f args h h1 h2 v v2}(g:ak P f args h v h1)(q:bG (A h) ⟨[E v],h1,Z⟩ ⟨[E v2],h2,Z⟩):ak P f args h v2 h2:=by
 intro B e w a hB n R;refine(g B e w a hB n R).mono ?_;rintro r p ⟨b,rfl,e1,i,m,o⟩;have⟨e2,c,j,l⟩:=q B e1 p [b] hB ⟨rfl,λi u s h1 h2=>by have d:=(aaR.1 h1).1;simp at d;subst d;simp at h1 h2;subst h1;subst h2;exact m⟩ o
 exact⟨b,rfl,e2,c.trans i,j.2 0 v2 b rfl rfl,l⟩
def ak.pre{f args d h h2 h1 v}(g:ak P f d h2 v h1)(Q:A h=A h2)(q:bG (A h) ⟨args.map E,h,Z⟩ ⟨d.map E,h2,Z⟩):ak P f args h v h1:=by
 intro B e w c hB F R;have n:=F.length;have⟨e2,r,z,K⟩:=q B e w c hB ⟨by simp[n],λi u N h1 h2=>by
  rw[afr] at h1
  have⟨x,J,t⟩:=aaC.1 h1
  cases t
  have⟨y,D,p⟩:=F.get J
  rw[h2] at D;cases D;exact p⟩ R
 have o:LR e2 d c:=by
  have:∀m(j:List Value),A m=A j->(∀(i:Nat)(v:SV)(l:Value),m[i]?=E v->j[i]?=E l->VR e2 v l)->LR e2 m j:=by
   intro m
   induction m with
   |nil=>intro j h _;cases j<;>simp at h;rfl
   |cons a m G=>
    intro j h g
    cases j with
    |nil=>simp at h
    |cons b j=>exact⟨b,j,g 0 a b rfl rfl,G j (by simpa using h) (λi v l h1 h2=>g (i+1) v l (by simpa using h1) (by simpa using h2)),rfl⟩
  refine this d c (by simpa using z.1) λi v l h1 h2=>z.2 i v l (by simp[h1]) h2
 refine(g B e2 w c (by omega) o K).mono ?_
 rintro S M ⟨l,rfl,H,s,p,L⟩
 exact⟨l,rfl,H,s.trans r,p,L⟩
