/- This file proves the interpreter 'exec' sound, functions that are taken in among them. Conditions: those of the interpreter's own tests; the contracts that it uses are sound. -/
import Derived.Test.YtibfpjeeanppjaaGreatUMb
import Derived.RangeFuncLeaves
import Derived.RangeFuncRecord
import Derived.RangeFuncIn
set_option linter.all false
namespace Go.Sy
open Go
def OJ (P:Program) (l:Nat) (vs:List SV) (h:List Blk) (v:SV) (h':List Blk):Prop:=∀(B:dA) (e:Env) (w:World) (args:List Value),LR e vs args→Rel B e h w→
 mQ P (.yield l) ⟨args⟩ w fun v' w'=>∃e',VR e' v v'∧Rel B e' h' w'∧b6 e e' none
structure ag (P:Program) (Γ:bK):Prop where
 Cy:∀l vs h v h',Γ.yc l vs h=some (v,h',true)→OJ P l vs h v h'
 calls:PV P Γ.g
 pure:ku Γ.pf (fnG Γ.g)
 inl:∀f fn,Γ.inl f=some fn→P.funcs[f]? =some fn∧fn.name≠"runtime.NumGoroutine"∧2≤Γ.pf f
def Env.bare (e:Env) (h:List Blk):Env:={e with m:=[],y:=fun i=>match nS h i with|some _=>e.y i|none=>none}
theorem nG (e:Env) (h:List Blk):Env.Le e (e.bare h):=⟨fun _ _ h=>h,fun _ _ h=>h,Nat.le_refl _⟩
theorem Ew {h:List Blk} {i:Nat} {L:Lp} (g:h[i]? =some (.g (some L))):nS h i=some L:=by unfold nS;rw [g]
theorem lu {h:List Blk} {i:Nat} {L:Lp} (g:nS h i=some L):h[i]? =some (.g (some L)):=by
 unfold nS at g
 split at g
 ·rename_i L' hq;cases g;exact hq
 ·cases g
theorem We {e:Env} {h:List Blk} {i:Nat} {L:Lp} (g:h[i]? =some (.g (some L))):(e.bare h).y i=e.y i:=by
 show (match nS h i with|some _=>e.y i|none=>none)=e.y i
 rw [Ew g]
theorem yh {e:Env} {h:List Blk} {i n:Nat} (g:(e.bare h).y i=some n):e.y i=some n∧∃L,h[i]? =some (.g (some L)):=by
 have g':(match nS h i with|some _=>e.y i|none=>none)=some n:=g
 split at g'
 ·rename_i L hL;exact ⟨g',L,lu hL⟩
 ·cases g'
def Wf:Blk→Option Nat
 | .g (some L)=>some L.l
 |_=>none
def yj (h:List Blk):List Nat:=h.filterMap Wf
theorem jM {h:List Blk} {n:Nat}:n∈yj h↔∃(i:Nat) (L:Lp),h[i]? =some (.g (some L))∧L.l=n:=by
 unfold yj
 rw [List.mem_filterMap]
 constructor
 ·rintro ⟨b,hb,hq⟩
  obtain ⟨i,hi⟩:=List.mem_iff_getElem?.1 hb
  match b,hq with
  | .g (some L),hq=>exact ⟨i,L,hi,Option.some.inj hq⟩
 ·rintro ⟨i,L,hi,rfl⟩
  exact ⟨_,List.mem_of_getElem? hi,rfl⟩
section
variable {P:Program} {e:Env} {B:dA} {h:List Blk} {w:World}
def fB (e:Env) (h:List Blk) (w:World):dA:=⟨w,e.bare h,h.length,yj h⟩
theorem Rel.self (R:Rel B e h w):Rel (fB e h w) (e.bare h) h w where
 os:=rfl
 tape:=rfl
 output:=rfl
 size:=Nat.le_refl _
 inj:=R.inj
 dom:=R.dom
 sep:=R.sep
 gk:=R.gk
 aY:=fun _ _ hz=>.inl hz
 news:=fun _ _ hi=>.inl hi
 bg:=fun _ _ hi=>hi
 bM:=fun _ _ hz=>hz
 n0:=rfl
 cP:=by show e.n0≤w.heap.size;have:=R.n0;have:=R.cP;have:=R.size;omega
 fA:=fun i ps hi=>(R.fA i ps hi).imp id fun ⟨p,o,h1,h2,h3⟩=>⟨p,o,h1,h2,h3.mono (nG e h)⟩
 gap:=fun i g hi=>⟨(R.gap i g hi).1,by
  have hg:=(R.gap i g hi).2
  cases g with
  |none=>trivial
  |some L=>exact hg.le (fun _ _ h=>h) (We hi) (nG e h)⟩
 yi:=fun i j n hi hj=>R.yi i j n (yh hi).1 (yh hj).1
 yb:=fun i n hi=>by
  obtain ⟨h1,L,h2⟩:=yh hi
  have:=(R.gap i _ h2).2.1
  rw [h1] at this;cases this
  exact .inl (jM.2 ⟨i,L,h2,rfl⟩)
 old:=fun _ _ _ _=>rfl
 win:=fun i p hi=>by
  obtain ⟨c,t,h1,_⟩:=R.eU hi
  exact ⟨_,_,h1,h1,c,c,t,(0,0),rfl,rfl,rfl,fun _ _=>rfl⟩
 kr:=fun i p hi=>R.dom i p hi
 gL:=Nat.le_refl _
 hY:=fun r hr=>by cases hr
 jq:=List.nodup_nil
theorem pX.trans {a n:Nat} {x y z:Obj} (h:pX a n x y) (g:pX a n y z):pX a n x z:=by
 obtain ⟨c,c',t,fr,rfl,rfl,h1,h2⟩:=h
 obtain ⟨d,d',t',fr',q,rfl,h3,h4⟩:=g
 cases q
 exact ⟨c,d',t,fr,rfl,rfl,h3.trans h1,fun j hj=>(h4 j hj).trans (h2 j hj)⟩
theorem Rel.trans (R:Rel B e h w) {e':Env} {h':List Blk} {w':World} (S:Rel (fB e h w) e' h' w'):Rel B {e' with m:=e.m} h' w' where
 os:=S.os.trans R.os
 tape:=S.tape.trans R.tape
 output:=S.output.trans R.output
 size:=Nat.le_trans R.size S.size
 inj:=S.inj
 dom:=S.dom
 sep:=S.sep
 gk:=S.gk
 aY:=fun n x hz=>by
  rcases S.aY n x hz with g|g
  ·exact R.aY n x g
  ·exact .inr (Nat.le_trans R.size g)
 news:=fun i p hi=>by
  rcases S.news i p hi with g|g
  ·exact R.news i p g
  ·exact .inr (Nat.le_trans R.size g)
 bg:=fun i p hi=>S.bg i p (R.bg i p hi)
 bM:=fun n x hz=>S.bM n x (R.bM n x hz)
 n0:=S.n0.trans R.n0
 cP:=R.cP
 fA:=fun i ps hi=>(S.fA i ps hi).imp id fun ⟨p,o,h1,h2,h3⟩=>⟨p,o,h1,h2,BR.mono (e:=e') (e':={e' with m:=e.m}) ⟨fun _ _ h=>h,fun _ _ h=>h,Nat.le_refl _⟩ h3⟩
 gap:=fun i g hi=>⟨(S.gap i g hi).1,(S.gap i g hi).2.le (fun _ _ h=>h) rfl ⟨fun _ _ h=>h,fun _ _ h=>h,Nat.le_refl _⟩⟩
 yi:=S.yi
 yb:=fun i n hi=>by
  rcases S.yb i n hi with g|g
  ·obtain ⟨i0,L,h1,rfl⟩:=jM.1 g
   exact R.yb i0 _ (R.gap i0 _ h1).2.1
  ·exact .inr (Nat.le_trans R.size g)
 old:=fun n hn hno pz=>by
  have hlt:n<w.heap.size:=by have:=R.size;omega
  rw [S.old n hlt (fun i p hi hp=>?_) (fun hl=>?_)]
  ·exact R.old n hn hno pz
  ·rcases R.news i p hi with g|g
   ·exact hno i p g hp
   ·omega
  ·obtain ⟨i0,L,h1,rfl⟩:=jM.1 hl
   rcases R.yb i0 _ (R.gap i0 _ h1).2.1 with g|g
   ·exact pz g
   ·omega
 win:=fun i p hi=>by
  obtain ⟨o,o',h1,h2,h3⟩:=R.win i p hi
  obtain ⟨x,x',g1,g2,g3⟩:=S.win i p (R.bg i p hi)
  have Ym:w.heap[p.n]? =some x:=g1
  rw [h2] at Ym;cases Ym
  exact ⟨o,x',h1,g2,h3.trans g3⟩
 kr:=R.kr
 gL:=Nat.le_trans R.gL S.gL
 hY:=fun r hr=>by
  have hm:=R.hY r hr
  refine ⟨?_,hm.2⟩
  rw [S.old r (Array.getElem?_eq_some_iff.1 hm.1).1 (fun i p hi hp=>?_) (fun hl=>?_)]
  ·exact hm.1
  ·subst hp
   obtain ⟨c,t,h1,_⟩:=R.eU hi
   have h2:=hm.1
   rw [h1] at h2;cases h2
  ·obtain ⟨i0,L,h1,rfl⟩:=jM.1 hl
   obtain ⟨_,r,h2,_⟩:=(R.gap i0 _ h1).2
   have h3:=hm.1
   rw [h2] at h3;cases h3
 jq:=R.jq
def q9 (t':List Value):ResultVar→Sem Value
 | .tmp i=>pure ((⟨t'⟩:Array Value).getD i undef)
 | .cell a ty=>do loadVar ty (←asAddr ((⟨t'⟩:Array Value).getD a undef))
theorem oS {t:List (Option SV)} {t':List Value} (hl:TR e t t') (R:Rel B e h w):∀(l:List ResultVar) (vs:List SV),j0 P t h l=some (vs,true)→
  ∃vs',(l.mapM (q9 t')).run P w= .ok vs' w∧LR e vs vs'
 | [],vs,g=>by simp [j0] at g;subst g;exact ⟨[],by simp,rfl⟩
 | .tmp i::l,vs,g=>by
  simp only [j0] at g
  split at g
  ·rename_i v us p hv hr
   simp only [Option.some.injEq,Prod.mk.injEq] at g
   obtain ⟨rfl,rfl⟩:=g
   obtain ⟨vs',hvs,hl'⟩:=oS hl R l us hr
   refine ⟨_,?_,_,_,aM (d:=[]) hl hv,hl',rfl⟩
   simp only [List.mapM_cons,q9,Sem.run_bind,hvs,Sem.run_pure,Result.andThen_ok,Act.eval]
  ·cases g
 | .cell a ty::l,vs,g=>by
  simp only [j0] at g
  split at g
  ·rename_i x hx
   split at g
   ·rename_i v q us p hv zd
    simp only [Option.some.injEq,Prod.mk.injEq,au] at g
    obtain ⟨rfl,rfl,rfl⟩:=g
    obtain ⟨vs',KK,hl'⟩:=oS hl R l us zd
    obtain ⟨ad,v',ha,hr,PZ⟩:=rY (P:=P) R hv (aM (d:=[]) hl hx)
    have Yo:(⟨t'⟩:Array Value).getD a undef= .pointer (some ad):=ha
    refine ⟨_,?_,_,_,PZ,hl',rfl⟩
    simp only [List.mapM_cons,q9,Sem.run_bind,Yo,asAddr,Sem.run_pure,Result.andThen_ok,hr,KK]
   ·cases g
  ·cases g
theorem Ld {vs:List SV} {vs':List Value} (h:LR e vs vs'):VR e (oneOf vs) (if g:(⟨vs'⟩:Array Value).size=1 then (⟨vs'⟩:Array Value)[0] else .tuple ⟨vs'⟩):=by
 match vs,h with
 | [],g=>rw [LR] at g;subst g;exact ⟨[],rfl,rfl⟩
 | [x],⟨y,zs,hy,hz,q⟩=>rw [LR] at hz;subst hz;subst q;simpa [oneOf] using hy
 |x::x'::xs,⟨y,zs,hy,hz,q⟩=>
  subst q
  have hlen:=hz.length
  have:¬(⟨y::zs⟩:Array Value).size=1:=by simp [List.size_toArray] at*;intro e;subst e;simp at hlen
  rw [dif_neg this]
  exact ⟨_,⟨y,zs,hy,hz,rfl⟩,rfl⟩
theorem v8 {t:List (Option SV)} {t':List Value} (hl:TR e t t') (R:Rel B e h w) {fn:Func} {vs:List SV} (g:j0 P t h fn.results.toList=some (vs,true)):
  ∃v',(results fn ⟨t'⟩).run P w= .ok v' w∧VR e (oneOf vs) v':=by
 obtain ⟨vs',hv,hl'⟩:=oS hl R fn.results.toList vs g
 refine ⟨_,?_,Ld hl'⟩
 have af5:results fn ⟨t'⟩=(do let vs ←fn.results.mapM (q9 t');pure (if h:vs.size=1 then vs[0] else .tuple vs)):=by
  unfold results
  have:∀g:ResultVar→Sem Value,(∀x,g x=q9 t' x)→g=q9 t':=fun g h=>funext h
  rw [this (fun x=>_) (fun x=>by cases x<;>rfl)]
 rw [af5,Array.mapM_eq_mapM_toList]
 simp only [Sem.run_bind,Sem.run_map,hv,Result.andThen_ok]
 rfl
theorem TR.aT {args:List SV} {args':List Value} (h:LR e args args') (n:Nat):TR e (aT n args) (args'++List.replicate (n-args.length) undef):=by
 refine ⟨by simp [Sy.aT,h.length],fun i v v' g g'=>?_⟩
 unfold Sy.aT at g
 rcases Nat.lt_or_ge i args.length with h1|h1
 ·rw [List.getElem?_append_left (by simpa using h1),List.getElem?_map] at g
  rw [List.getElem?_append_left (by rw [h.length];exact h1)] at g'
  obtain ⟨x,hx,q⟩:=Option.map_eq_some_iff.1 g
  cases q
  obtain ⟨y,hy,hv⟩:=h.get hx
  rw [g'] at hy;cases hy
  exact hv
 ·rw [List.getElem?_append_right (by simpa using h1),List.getElem?_replicate] at g
  split at g<;>cases g
end
def Yt (m:List Nat):List Deferred:=m.map fun r=>{target:=.collected r,args:=#[]}
def Tr (P:Program) (ro:Option Nat) (k:Nat) (c:Code) (s:St) (x:Exit) (s':St):Prop:=
 ∀(B:dA) (e:Env) (w:World) (t':List Value) (d:List Deferred) (Q:Exit→Act→World→Prop) (nn:Nat),B.k≤k→TR e s.t t'→Rel B e s.h w→
  (∀e' w' t'',TR e' s'.t t''→Rel B e' s'.h w'→Q x ⟨⟨t''⟩,Yt e'.m++d⟩ w')→c.wpIn (wF ro) nn P Q ⟨⟨t'⟩,Yt e.m++d⟩ w
def dy (P:Program) (ro:Option Nat) (k:Nat) (b:Code) (s:St) (x:Exit) (s':St):Prop:=
 ∃m:Nat,∀(B:dA) (e:Env) (w:World) (t':List Value) (d:List Deferred) (Q:Exit→Act→World→Prop) (nn:Nat),B.k≤k→TR e s.t t'→Rel B e s.h w→
  (∀e' w' t'',TR e' s'.t t''→Rel B e' s'.h w'→Q x ⟨⟨t''⟩,Yt e'.m++d⟩ w')→Code.roundsIn (wF ro) nn P b Q m ⟨⟨t'⟩,Yt e.m++d⟩ w
section
variable {P:Program} {ro:Option Nat} {k:Nat}
theorem Cz {F:Fence} {n:Nat} {Q:Exit→Act→World→Prop} {a:Act} {w:World} {c:Code} (h:c.wpIn F n P (fun e a w=>(∀l,e≠.goto l)∧Q e a w) a w):(Code.scope c).wpIn F n P Q a w:=by
 intro b k cs hro hb hr
 have h0:(lone (b.atR a (.code (.scope c)::k)) cs w).fenced P F:=fenced_calm hb hr rfl
 have st:step P (lone (b.atR a (.code (.scope c)::k)) cs w)= .next (lone (b.atR a (.code c:: .inScope c::k)) cs w):=step_lone_go (by simp [stepG,stepG.exec,Frame.atR])
 obtain ⟨e,a₁,w₁,⟨hg,hq⟩,Gu⟩:=h b (.inScope c::k) cs hro hb hr
 cases e with
 |normal=>exact ⟨.normal,a₁,w₁,hq,.head h0 st (StepsIn.trans Gu (.one (fenced_calm hb hr rfl) (step_lone_go (by simp [stepG,stepG.exec,Frame.atR]))))⟩
 |exit id=>
  have hx:exitTo id (.inScope c::k)=exitTo id k:=by simp [exitTo]
  exact ⟨.exit id,a₁,w₁,hq,fun k' hk=>.head h0 st (Gu.1 k' (by rw [hx];exact hk)),fun hr' hk=>let ⟨k₁,h1,h2⟩:=Gu.2 hr' (by rw [hx];exact hk);⟨k₁,h1,.head h0 st h2⟩⟩
 |goto l=>exact absurd rfl (hg l)
 |ret=>exact ⟨_,a₁,w₁,hq,.of_steps (.one h0 st) Gu⟩
 |panic ch=>exact ⟨_,a₁,w₁,hq,.of_steps (.one h0 st) Gu⟩
 |outgrown=>exact ⟨_,a₁,w₁,hq,.of_steps (.one h0 st) Gu⟩
theorem Tr.scope {b:Code} {s s':St} {x:Exit} (h:Tr P ro k b s x s') (hx:∀l,x≠.goto l):Tr P ro k (.scope b) s x s':=
 fun B e w t' d Q nn hB hl R hQ=>Cz (h B e w t' d _ nn hB hl R fun e1 w1 t1 pF R1=>⟨hx,hQ e1 w1 t1 pF R1⟩)
theorem Tr.seq {a b:Code} {s s1 s':St} {x:Exit} (h1:Tr P ro k a s .normal s1) (h2:Tr P ro k b s1 x s'):Tr P ro k (.seq a b) s x s':=
 fun B e w t' d Q nn hB hl R hQ=>wpIn_seq (h1 B e w t' d _ nn hB hl R fun e1 w1 t1 pF R1=>h2 B e1 w1 t1 d Q nn hB pF R1 fun e2 w2 t2 lT R2=>hQ e2 w2 t2 lT R2)
theorem Tr.wQ {a b:Code} {s s':St} {x:Exit} (h1:Tr P ro k a s x s') (hx:x≠.normal):Tr P ro k (.seq a b) s x s':=
 fun B e w t' d Q nn hB hl R hQ=>wpIn_seq (h1 B e w t' d _ nn hB hl R fun e1 w1 t1 pF R1=>by
  have:=hQ e1 w1 t1 pF R1
  cases x<;>first|exact absurd rfl hx|exact this)
theorem Tr.block {id:Nat} {b:Code} {s s':St} (h:Tr P ro k b s (.exit id) s'):Tr P ro k (.block id b) s .normal s':=
 fun B e w t' d Q nn hB hl R hQ=>wpIn_block (h B e w t' d _ nn hB hl R fun e1 w1 t1 pF R1=>by
  show (if id=id then Q .normal _ _ else _)
  rw [if_pos rfl];exact hQ e1 w1 t1 pF R1)
theorem Tr.aQ {id:Nat} {b:Code} {s s':St} {x:Exit} (h:Tr P ro k b s x s') (hx:∀j,x≠.exit j):Tr P ro k (.block id b) s x s':=
 fun B e w t' d Q nn hB hl R hQ=>wpIn_block (h B e w t' d _ nn hB hl R fun e1 w1 t1 pF R1=>by
  have:=hQ e1 w1 t1 pF R1
  cases x<;>first|exact absurd rfl (hx _)|exact this)
theorem Tr.qG {id j:Nat} {b:Code} {s s':St} (h:Tr P ro k b s (.exit j) s') (hj:j≠id):Tr P ro k (.block id b) s (.exit j) s':=
 fun B e w t' d Q nn hB hl R hQ=>wpIn_block (h B e w t' d _ nn hB hl R fun e1 w1 t1 pF R1=>by
  show (if j=id then Q .normal _ _ else _)
  rw [if_neg hj];exact hQ e1 w1 t1 pF R1)
theorem Tr.cond_true {c:Operand} {a b:Code} {s s':St} {x:Exit} (hc:ev s.t c=some (.bool true)) (h:Tr P ro k a s x s'):Tr P ro k (.cond c a b) s x s':=
 fun B e w t' d Q nn hB hl R hQ=>wpIn_cond_true (aM hl hc) (h B e w t' d Q nn hB hl R hQ)
theorem Tr.cond_false {c:Operand} {a b:Code} {s s':St} {x:Exit} (hc:ev s.t c=some (.bool false)) (h:Tr P ro k b s x s'):Tr P ro k (.cond c a b) s x s':=
 fun B e w t' d Q nn hB hl R hQ=>wpIn_cond_false (aM hl hc) (h B e w t' d Q nn hB hl R hQ)
theorem dy.leave {b:Code} {s s':St} {x:Exit} (h:Tr P ro k b s x s') (hx:x≠.normal):dy P ro k b s x s':=
 ⟨1,fun B e w t' d Q nn hB hl R hQ=>by
  rw [roundsIn_succ]
  refine h B e w t' d _ nn hB hl R fun e1 w1 t1 pF R1=>?_
  have:=hQ e1 w1 t1 pF R1
  cases x<;>first|exact absurd rfl hx|exact this⟩
theorem dy.step {b:Code} {s s1 s':St} {x:Exit} (h:Tr P ro k b s .normal s1) (g:dy P ro k b s1 x s'):dy P ro k b s x s':=by
 obtain ⟨m,hm⟩:=g
 refine ⟨m+1,fun B e w t' d Q nn hB hl R hQ=>?_⟩
 rw [roundsIn_succ]
 exact h B e w t' d _ nn hB hl R fun e1 w1 t1 pF R1=>hm B e1 w1 t1 d Q nn hB pF R1 fun e2 w2 t2 lT R2=>hQ e2 w2 t2 lT R2
theorem dy.loop {b:Code} {s s':St} {x:Exit} (h:dy P ro k b s x s'):Tr P ro k (.loop b) s x s':=by
 obtain ⟨m,hm⟩:=h
 exact fun B e w t' d Q nn hB hl R hQ=>wpIn_loop_rounds m (hm B e w t' d Q nn hB hl R hQ)
theorem dy.for {b:Code} {x:Exit} {s':St} (hx:x≠.normal) (f:Nat→St) (N:Nat) (hb:∀i,i<N→Tr P ro k b (f i) .normal (f (i+1))) (Lf:Tr P ro k b (f N) x s'):dy P ro k b (f 0) x s':=by
 have key:∀(m i:Nat),N=i+m→dy P ro k b (f i) x s':=by
  intro m
  induction m with
  |zero=>intro i hN;obtain rfl:N=i:=by omega
         exact dy.leave Lf hx
  |succ m ih=>intro i hN;exact dy.step (hb i (by omega)) (ih (i+1) (by omega))
 exact key N 0 (by omega)
theorem Rel.Wg {B:dA} {e:Env} {h:List Blk} {w:World} (R:Rel B e h w) {r:Nat} {m:List Nat} (hm:e.m=r::m):Rel B {e with m:=m} h (w.putObj r (.deferred none)):=by
 obtain ⟨hr,hrB⟩:=R.hY r (by rw [hm];simp)
 have cL:∀n,n≠r→(w.putObj r (.deferred none)).heap[n]? =w.heap[n]? :=fun n hn=>World.putObj_heap_other hn
 have le:Env.Le e {e with m:=m}:=⟨fun _ _ h=>h,fun _ _ h=>h,Nat.le_refl _⟩
 have oT:∀{n:Nat} {c:Array Value} {t:TypeId} {fr:Nat×Nat},w.heap[n]? =some (.cells c t fr)→(w.putObj r (.deferred none)).heap[n]? =some (.cells c t fr):=fun {n c t fr} h=>by
  rw [cL n (fun q=>by subst q;rw [hr] at h;cases h)];exact h
 exact {
  os:=R.os,tape:=R.tape,output:=R.output
  size:=by rw [World.putObj_size];exact R.size
  inj:=R.inj,dom:=R.dom,sep:=R.sep
  gk:=fun n c t fr hz=>oT (R.gk n c t fr hz)
  aY:=R.aY,news:=R.news,bg:=R.bg,bM:=R.bM,n0:=R.n0,cP:=R.cP
  fA:=fun i ps hi=>(R.fA i ps hi).imp id fun ⟨p,o,h1,h2,h3⟩=>by
   obtain ⟨c,t,rfl,h4,h5,h6⟩:=h3
   exact ⟨p,_,h1,oT h2,c,t,rfl,h4,h5,h6.mono le⟩
  gap:=fun i g hi=>⟨(R.gap i g hi).1,(R.gap i g hi).2.le (fun n o hn=>by rw [cL n (fun q=>by subst q;rw [hr] at hn;cases hn)];exact hn) rfl le⟩
  yi:=R.yi,yb:=R.yb
  old:=fun n hn hno pz=>by rw [cL n (by omega)];exact R.old n hn hno pz
  win:=fun i p hi=>by
   obtain ⟨o,o',h1,h2,h3⟩:=R.win i p hi
   obtain ⟨c,c',t,fr,rfl,rfl,h4⟩:=h3
   exact ⟨_,_,h1,oT h2,c,c',t,fr,rfl,rfl,h4⟩
  kr:=R.kr,gL:=R.gL
  hY:=fun q hq=>by
   have vP:=R.jq
   rw [hm,List.nodup_cons] at vP
   refine ⟨?_,(R.hY q (by rw [hm];simp [hq])).2⟩
   rw [cL q (fun x=>by subst x;exact vP.1 hq)]
   exact (R.hY q (by rw [hm];simp [hq])).1
  jq:=by have vP:=R.jq;rw [hm,List.nodup_cons] at vP;exact vP.2}
theorem qc {fn:Func} {t:List (Option SV)} {h:List Blk} {vs:List SV} (hr:j0 P t h fn.results.toList=some (vs,true)) {B:dA} {t'':List Value} {K:Ending→World→Prop}:∀(m:List Nat) (e:Env) (w:World),e.m=m→TR e t t''→Rel B e h w→
  (∀v' e' w',VR e' (oneOf vs) v'→Rel B e' h w'→K (.returned v') w')→LeavesInM (wF none) 0 P fn ⟨t''⟩ K (Yt m++[]) .returning w
 | [],e,w,_,hl,R,hK=>by
  obtain ⟨v',hv,PZ⟩:=v8 hl R hr
  exact ⟨v',hv,hK v' e w PZ R⟩
 |r::m,e,w,hm,hl,R,hK=>by
  have Gt:=(R.hY r (by rw [hm];simp)).1
  refine ⟨by simp,.inl ⟨r,_,rfl,run_takeDeferred Gt,?_⟩⟩
  exact qc hr m {e with m:=m} _ rfl (TR.mono (e:=e) (e':={e with m:=m}) ⟨fun _ _ h=>h,fun _ _ h=>h,Nat.le_refl _⟩ hl) (R.Wg hm) hK
theorem qd {f:FuncId} {fn:Func} (hf:P.funcs[f]? =some fn) {c:Code} (hb:fn.body=some c) {args:List SV} {h:List Blk} {x:Exit} {s:St} {vs:List SV} (hx:x= .ret∨x= .normal) {kk:Nat}
  (ht:Tr P none kk c ⟨aT fn.ntmps args,h,true⟩ x s) (hr:j0 P s.t s.h fn.results.toList=some (vs,true)) {B:dA} {e:Env} {w:World} {args':List Value} (hB:h.length≤kk) (hl:LR e args args') (R:Rel B e h w):
  Calls P f ⟨args'⟩ w fun en w'=>∃v',en= .returned v'∧∃e',VR e' (oneOf vs) v'∧Rel (fB e h w) e' s.h w':=by
 refine oQ.1 (callsIn_of_wp_marks (F:=wF none) (n:=0) hf hb trivial ?_)
 have hlen:=hl.length
 have htm:((⟨args'⟩:Array Value)++Array.replicate (fn.ntmps-(⟨args'⟩:Array Value).size) undef)=⟨args'++List.replicate (fn.ntmps-args.length) undef⟩:=by
  apply Array.ext'
  simp [hlen]
 rw [htm]
 have key:=ht (fB e h w) (e.bare h) w (args'++List.replicate (fn.ntmps-args.length) undef) [] (bodyPostM (wF none) 0 P fn fun en w'=>∃v',en= .returned v'∧∃e',VR e' (oneOf vs) v'∧Rel (fB e h w) e' s.h w') 0 hB (TR.aT (hl.mono (nG e h)) fn.ntmps) R.self
 refine key fun e' w' t'' hl' R'=>?_
 have fin:=qc (fn:=fn) (K:=fun en w'=>∃v',en= .returned v'∧∃e',VR e' (oneOf vs) v'∧Rel (fB e h w) e' s.h w') hr e'.m e' w' rfl hl' R' fun v' e2 w2 hv R2=>⟨v',rfl,e2,hv,R2⟩
 rcases hx with rfl|rfl
 ·exact fin
 ·exact fin
theorem Az {f:FuncId} {fn:Func} (hf:P.funcs[f]? =some fn) {c:Code} (hb:fn.body=some c) {args:List SV} {h:List Blk} {x:Exit} {s:St} {vs:List SV} (hx:x= .ret∨x= .normal) {kk:Nat}
  (ht:Tr P none kk c ⟨aT fn.ntmps args,h,true⟩ x s) (hr:j0 P s.t s.h fn.results.toList=some (vs,true)) {B:dA} {e:Env} {w:World} {args':List Value} (hB:h.length≤kk) (hl:LR e args args') (R:Rel B e h w):
  Calls P f ⟨args'⟩ w fun en w'=>∃v',en= .returned v'∧∃e',e'.m=e.m∧VR e' (oneOf vs) v'∧Rel B e' s.h w':=by
 refine (qd hf hb hx ht hr hB hl R).mono ?_
 rintro en w' ⟨v',rfl,e',hv,S⟩
 exact ⟨v',rfl,{e' with m:=e.m},rfl,VR.mono (e:=e') (e':={e' with m:=e.m}) ⟨fun _ _ h=>h,fun _ _ h=>h,Nat.le_refl _⟩ hv,R.trans S⟩
theorem eK {f:FuncId} {fn:Func} (hf:P.funcs[f]? =some fn) (hn:fn.name≠"runtime.NumGoroutine") (hb:fn.body≠none) (args:Array Value) (w:World):(callFunc f args).run P w= .ok (.enter f args) w:=by
 cases hq:fn.body with
 |none=>exact absurd hq hb
 |some c=>simp [callFunc,hf,hn,hq]
theorem cU {Γ:bK}:∀(n k:Nat) (c:Code) (s s':St) (x:Exit),exec P Γ n k c s=some (x,s')→s'.ob=true→s.ob=true
 |0,_,_,_,_,_,e,_=>by simp [exec] at e
 |n+1,k,c,s,s',x,e,h=>by
  cases c<;>simp only [exec] at e
  case skip=>cases e;exact h
  case label=>cases e;exact h
  case exit=>cases e;exact h
  case ret=>cases e;exact h
  case seq a b=>
   split at e
   ·rename_i s1 h1;exact cU n k a s s1 _ h1 (cU n k b s1 s' x e h)
   ·exact cU n k a s s' x e h
  case cond c a b=>
   split at e
   ·exact cU n k a s s' x e h
   ·exact cU n k b s s' x e h
   ·cases e
  case block id b=>
   split at e
   ·rename_i j s1 h1
    split at e<;>(cases e;exact cU n k b s _ _ h1 h)
   ·exact cU n k b s s' x e h
  case loop b=>
   split at e
   ·rename_i s1 h1;exact cU n k b s s1 _ h1 (cU n k _ s1 s' x e h)
   ·exact cU n k b s s' x e h
  case scope b=>
   split at e
   ·cases e
   ·exact cU n k b s s' x e h
  case region id ops draw=>
   split at e
   ·split at e
    ·rename_i s1 fs hm h1
     split at e
     case h_2=>cases e
     cases e
     exact Ev _ ⟨s.t,s.h++List.replicate (makes Γ.nb ops.toList) .gap,s.ob⟩ _ _ h1 h
    ·cases e
   ·obtain ⟨s1,h1,h2⟩:=Option.map_eq_some_iff.1 e
    cases h2
    exact nA _ _ _ h1 h
  all_goals cases e
theorem CA {Γ:bK} (hΓ:ag P Γ) (ex:Nat→Code→St→Option (Exit×St)):ku Γ.pf (rW P Γ ex):=by
 refine ⟨fun f hf vs h j v h' new p g=>?_,fun f hf vs h j v h' new p g=>?_⟩
 ·simp only [rW] at g ⊢
  cases hi:Γ.inl f with
  |some fn=>have:=(hΓ.inl f fn hi).2.2;omega
  |none=>rw [hi] at g;exact hΓ.pure.1 f hf vs h j v h' new p g
 ·simp only [rW] at g ⊢
  cases hi:Γ.inl f with
  |some fn=>have:=(hΓ.inl f fn hi).2.2;omega
  |none=>rw [hi] at g;exact hΓ.pure.2 f hf vs h j v h' new p g
theorem CC {h h1:List Blk} {j:Nat} (hle:h.length≤h1.length) (hc:(Nat.beq (h1.length-h.length) 0||Nat.beq j h.length)=true):bV (h1.take h.length) j (h1.drop h.length)=h1:=by
 simp only [Bool.or_eq_true] at hc
 unfold bV
 have hlt:(h1.take h.length).length=h.length:=by simp;omega
 rcases hc with hc|hc
 ·have:=Nat.eq_of_beq_eq_true hc
  have hd:h1.drop h.length=[]:=List.drop_eq_nil_of_le (by omega)
  rw [hd]
  split
  ·rw [List.append_nil,List.take_of_length_le (by omega)]
  ·simp only [bN];rw [List.take_of_length_le (by omega)]
 ·have:=Nat.eq_of_beq_eq_true hc
  rw [if_pos (by rw [hlt];exact this),List.take_append_drop]
theorem oU {B:dA} {e e':Env} {h h1:List Blk} {w w':World} {j:Nat} {u:SV} {v':Value} (R:Rel B e h w) (S:Rel (fB e h w) e' h1 w') (hv:VR e' u v') (hc:(Nat.beq (h1.length-h.length) 0||Nat.beq j h.length)=true):
  ∃e2,VR e2 u v'∧Rel B e2 (bV (h1.take h.length) j (h1.drop h.length)) w'∧b6 e e2 none:=by
 have T:=R.trans S
 refine ⟨{e' with m:=e.m},VR.mono (e:=e') (e':={e' with m:=e.m}) ⟨fun _ _ h=>h,fun _ _ h=>h,Nat.le_refl _⟩ hv,?_,⟨fun i p _ hi=>S.bg i p hi,fun n x hz=>S.bM n x hz,by show e'.n0≤e.n0;rw [S.n0];exact Nat.le_refl _,rfl⟩⟩
 rw [CC S.gL hc]
 exact T
theorem Rel.qe {B:dA} {e:Env} {h:List Blk} {w:World} (R:Rel B e h w) {i:Nat} {L:Lp} (hi:h[i]? =some (.g (some L))) {r:Loop} (hr:w.heap[L.l]? =some (.loop r)) (st:LoopState) (fc:Option Code):
  Rel B e (h.set i (.g (some {L with st:=st,fc:=fc}))) (w.putObj L.l (.loop {r with state:=st,pending:=fc})):=by
 have PX:=(List.getElem?_eq_some_iff.1 hi).1
 have cL:∀n,n≠L.l→(w.putObj L.l (.loop {r with state:=st,pending:=fc})).heap[n]? =w.heap[n]? :=fun n hn=>World.putObj_heap_other hn
 have Eh:(w.putObj L.l (.loop {r with state:=st,pending:=fc})).heap[L.l]? =some (.loop {r with state:=st,pending:=fc}):=World.putObj_heap_same (Array.getElem?_eq_some_iff.1 hr).1
 have oT:∀{n:Nat} {c:Array Value} {t:TypeId} {fr:Nat×Nat},w.heap[n]? =some (.cells c t fr)→(w.putObj L.l (.loop {r with state:=st,pending:=fc})).heap[n]? =some (.cells c t fr):=fun {n c t fr} h=>by
  rw [cL n (fun q=>by subst q;rw [hr] at h;cases h)];exact h
 obtain ⟨hn,hy,r0,h0,h1,h2,h3,h4,h5,h6⟩:=R.gap i _ hi
 rw [hr] at h0;cases h0
 exact {
  os:=R.os,tape:=R.tape,output:=R.output
  size:=by rw [World.putObj_size];exact R.size
  inj:=R.inj,dom:=fun i p hi=>by simpa using R.dom i p hi,sep:=R.sep
  gk:=fun n c t fr hz=>oT (R.gk n c t fr hz)
  aY:=R.aY,news:=R.news,bg:=R.bg,bM:=R.bM,n0:=R.n0,cP:=R.cP
  fA:=fun j ps hj=>by
   by_cases hij:i=j
   ·subst hij;rw [List.getElem?_set_self PX] at hj;cases hj
   ·rw [List.getElem?_set_ne hij] at hj
    refine (R.fA j ps hj).imp id fun ⟨p,o,h1,h2,h3⟩=>?_
    obtain ⟨c,t,rfl,h4,h5,h6⟩:=h3
    exact ⟨p,_,h1,oT h2,c,t,rfl,h4,h5,h6⟩
  gap:=fun j g hj=>by
   by_cases hij:i=j
   ·subst hij
    rw [List.getElem?_set_self PX] at hj;cases hj
    exact ⟨hn,hy,_,Eh,h1,h2,h3,rfl,rfl,h6⟩
   ·rw [List.getElem?_set_ne hij] at hj
    refine ⟨(R.gap j g hj).1,?_⟩
    have hg:=(R.gap j g hj).2
    cases g with
    |none=>trivial
    |some M=>
     obtain ⟨q1,r1,q2,q3⟩:=hg
     refine ⟨q1,r1,?_,q3⟩
     rw [cL M.l (fun x=>hij (R.yi i j L.l hy (by rw [q1,x])))];exact q2
  yi:=R.yi,yb:=R.yb
  old:=fun n hlt hno pz=>by
   rw [cL n (fun q=>?_)]
   ·exact R.old n hlt hno pz
   ·subst q
    rcases R.yb i _ hy with g|g
    ·exact pz g
    ·omega
  win:=fun i p hi=>by
   obtain ⟨o,o',h1,h2,h3⟩:=R.win i p hi
   obtain ⟨c,c',t,fr,rfl,rfl,h4⟩:=h3
   exact ⟨_,_,h1,oT h2,c,c',t,fr,rfl,rfl,h4⟩
  kr:=R.kr,gL:=by simpa using R.gL
  hY:=fun q hq=>by
   refine ⟨?_,(R.hY q hq).2⟩
   rw [cL q (fun x=>by subst x;have:=(R.hY _ hq).1;rw [hr] at this;cases this)]
   exact (R.hY q hq).1
  jq:=R.jq}
theorem oV:∀{h:List Blk} {i j:Nat} {L:Lp},qR h j=some (i,L)→j≤i∧h[i-j]? =some (.g (some L))∧L.st= .ready
 | [],i,j,L,g=>by simp [qR] at g
 |b::bs,i,j,L,g=>by
  simp only [qR] at g
  split at g
  ·rename_i q hq
   cases g
   obtain ⟨h1,h2,h3⟩:=oV hq
   exact ⟨by omega,by rw [show i-j=(i-(j+1))+1 by omega,List.getElem?_cons_succ];exact h2,h3⟩
  ·split at g
   ·rename_i L'
    split at g
    ·rename_i hst
     cases g
     exact ⟨Nat.le_refl _,by rw [Nat.sub_self];rfl,hst⟩
    ·cases g
   ·cases g
theorem mV {e:Env}:∀(ps:List Tmp) (vs:List SV) (t:List (Option SV)) (t' ys:List Value),TR e t t'→LR e vs ys→ps.length=vs.length→
  TR e (tY t ps vs) ((ps.zip ys).foldl (fun (tm:Array Value) (q:Tmp×Value)=>tm.setIfInBounds q.1 q.2) ⟨t'⟩).toList
 | [],vs,t,t',ys,h,_,_=>by cases vs<;>simpa [tY] using h
 |i::is,[],t,t',ys,h,_,hl=>by simp at hl
 |i::is,v::vs,t,t',ys,h,⟨y,zs,h1,h2,q⟩,hl=>by
  subst q
  simp only [tY,List.zip_cons_cons,List.foldl_cons]
  have:=mV is vs (t.set i (some v)) (t'.set i y) zs (h.set h1 i) h2 (by simpa using hl)
  have hq:(⟨t'⟩:Array Value).setIfInBounds i y=⟨t'.set i y⟩:=by simp
  rw [hq];exact this
theorem AB {Γ:bK} (hΓ:ag P Γ) {n:Nat} (hex:∀(ro:Option Nat) (k:Nat) (c:Code) (s s':St) (x:Exit),exec P Γ n k c s=some (x,s')→s'.ob=true→Tr P ro k c s x s'):oP P (rW P Γ fun k=>exec P Γ n k):=by
 intro f vs h j v h' new g B e w args hl R hj
 cases f with
 |func f=>
  simp only [rW] at g
  cases hi:Γ.inl f with
  |none=>rw [hi] at g;exact hΓ.calls f vs h j v h' new g B e w args hl R hj
  |some fn=>
   obtain ⟨hf,hn,_⟩:=hΓ.inl f fn hi
   rw [hi] at g
   simp only at g
   split at g
   ·rename_i u h1 p kC
    split at g
    ·rename_i hc
     simp only [Option.some.injEq,Prod.mk.injEq] at g
     obtain ⟨rfl,rfl,rfl,rfl⟩:=g
     unfold Eg at kC
     cases hb:fn.body with
     |none=>rw [hb] at kC;cases kC
     |some c=>
      rw [hb] at kC
      simp only at kC
      have key:∀(x:Exit) (s:St),(x= .ret∨x= .normal)→exec P Γ n h.length c ⟨aT fn.ntmps vs,h,true⟩=some (x,s)→((j0 P s.t s.h fn.results.toList).map fun q=>(oneOf q.1,s.h,aa s.ob q.2))=some (u,h1,true)→
        mQ P (.func f) ⟨args⟩ w fun v' w'=>∃e',VR e' u v'∧Rel B e' (bV (h1.take h.length) j (h1.drop h.length)) w'∧b6 e e' none:=fun x s hx hs hr=>by
       obtain ⟨⟨rs,q⟩,hres,h2⟩:=Option.map_eq_some_iff.1 hr
       simp only [Prod.mk.injEq,au] at h2
       obtain ⟨rfl,rfl,fu,rfl⟩:=h2
       refine .inr ⟨eK hf hn (by rw [hb];simp) _ w,?_⟩
       refine (qd hf hb hx (hex none _ c _ s x hs fu) hres (Nat.le_refl _) hl R).mono ?_
       rintro en w' ⟨v',rfl,e',hv,S⟩
       exact ⟨v',rfl,oU R S hv hc⟩
      split at kC
      ·rename_i s hs;exact key _ s (.inl rfl) hs kC
      ·rename_i s hs;exact key _ s (.inr rfl) hs kC
      ·cases kC
    ·cases g
   ·cases g
 |yield l=>
  simp only [rW] at g
  split at g
  ·rename_i u h1 p hy
   simp only [Option.some.injEq,Prod.mk.injEq] at g
   obtain ⟨rfl,rfl,rfl,rfl⟩:=g
   exact (hΓ.Cy l vs h u h1 hy B e w args hl R).mono fun v' w' ⟨e',h1,h2,h3⟩=>⟨e',h1,by rw [bq];exact h2,h3⟩
  split at g
  ·rename_i u h1 p hy
   split at g
   ·rename_i hc
    simp only [Option.some.injEq,Prod.mk.injEq] at g
    obtain ⟨rfl,rfl,rfl,rfl⟩:=g
    unfold KJ at hy
    split at hy
    ·cases hy
    ·rename_i i L hL
     obtain ⟨_,P0,hst⟩:=oV hL
     rw [Nat.sub_zero] at P0
     split at hy
     ·rename_i s1 hps P1
      split at hy
      ·cases hy
      ·rename_i L1 Lg
       have Lg:=lu Lg
       split at hy
       ·rename_i x s2 Wh hbody
        split at hy
        ·rename_i q L2 hq P2
         have P2:=lu P2
         simp only [Option.some.injEq,Prod.mk.injEq,au,decide_eq_true_eq] at hy
         obtain ⟨rfl,rfl,abg,lT⟩:=hy
         have Lh:=cU n _ _ _ _ _ hbody abg
         simp only [au,decide_eq_true_eq] at Lh
         obtain ⟨Lh,pF⟩:=Lh
         have B6:L.l=l:=by have:=cU n _ _ _ _ _ P1 Lh;simpa using this
         have S0:=R.self
         obtain ⟨_,_,r,hr,hp,ha,hbd,_,_,hTR⟩:=S0.gap i _ P0
         rw [B6] at hr
         have Ga:=Nat.eq_of_beq_eq_true hps
         have hargs:(⟨args⟩:Array Value).size=r.params.size:=by rw [hp,Ga];exact hl.length
         refine ⟨r.fn,_,r.assign,r.body,run_yield hr hargs,fun ro nn=>?_⟩
         refine roundIn_of_wpIn (F:=wF ro) trivial ?_
         have htm:((r.params.zip ⟨args⟩).foldl (fun tmps (t,a)=>tmps.setIfInBounds t a) r.tmps)=⟨((L.ps.toList.zip args).foldl (fun (tm:Array Value) (q:Tmp×Value)=>tm.setIfInBounds q.1 q.2) ⟨r.tmps.toList⟩).toList⟩:=by
          rw [hp]
          apply Array.ext'
          rw [←Array.foldl_toList]
          simp
         rw [htm,ha,hbd]
         have Wi:=mV L.ps.toList vs L.t r.tmps.toList args hTR (hl.mono (nG e h)) (by simpa using Ga)
         refine hex (some l) _ _ _ _ _ P1 Lh (fB e h w) (e.bare h) w _ [] _ nn (Nat.le_refl _) Wi S0 fun e1 w1 t1 Wj S1=>?_
         obtain ⟨_,hy1,r1,Gt,hp1,ha1,af7,Li,_,af8⟩:=S1.gap i _ Lg
         rw [pF] at Gt
         refine ⟨_,run_beginRound Gt (by rw [Li,Wh]),?_⟩
         have AD:r1.pending=L1.fc:=by obtain ⟨_,_,r1',Lj,_,_,_,_,h9,_⟩:=S1.gap i _ Lg;rw [pF,Gt] at Lj;cases Lj;exact h9
         have S1':Rel (fB e h w) e1 (s1.h.set i (.g (some {L1 with st:=.busy}))) (w1.putObj l (.loop {r1 with state:=.busy})):=by
          have:=S1.qe Lg (r:=r1) (by rw [pF];exact Gt) .busy L1.fc
          rw [←AD] at this
          rw [pF] at this
          have uA:({L1 with st:=.busy}:Lp)={l:=l,t:=L1.t,ps:=L1.ps,pP:=L1.pP,body:=L1.body,st:=.busy,fc:=r1.pending}:=by rw [AD, ←pF]
          rw [uA];exact this
         refine hex (some l) _ _ _ _ _ hbody abg (fB e h w) e1 _ t1 [] _ nn (Nat.le_refl _) Wj S1' fun e2 w2 t2 aga S2=>?_
         obtain ⟨_,hy2,r2,Gv,_,_,_,_,_,_⟩:=S2.gap i _ P2
         rw [lT] at Gv
         have S3:=S2.qe P2 (r:=r2) (by rw [lT];exact Gv) (if q.isNone then .ready else .done) q
         have fin:∃v w4,(Instr.endRound l q).run P w2= .ok v w4∧∃v',Ending.returned v= .returned v'∧∃e',VR e' (.bool q.isNone) v'∧Rel B e' (bV ((s2.h.set i (.g (some {L2 with st:=if q.isNone then .ready else .done,fc:=q}))).take h.length) j ((s2.h.set i (.g (some {L2 with st:=if q.isNone then .ready else .done,fc:=q}))).drop h.length)) w4∧b6 e e' none:=by
          refine ⟨_,_,run_endRound q Gv,_,rfl,?_⟩
          rw [lT] at S3
          have S3':Rel (fB e h w) e2 (s2.h.set i (.g (some {L2 with st:=if q.isNone then .ready else .done,fc:=q}))) (w2.putObj l (.loop {r2 with state:=if q.isNone then .ready else .done,pending:=q})):=by
           have uA:({L2 with st:=if q.isNone then .ready else .done,fc:=q}:Lp)={l:=l,t:=L2.t,ps:=L2.ps,pP:=L2.pP,body:=L2.body,st:=if q.isNone then .ready else .done,fc:=q}:=by rw [←lT]
           rw [uA];exact S3
          exact oU R S3' (v':=.bool q.isNone) rfl hc
         cases x<;>simp only [qT,Option.some.injEq,reduceCtorEq] at hq<;>subst hq<;>exact fin
        ·cases hy
       ·cases hy
     ·cases hy
   ·cases g
  ·cases g
 |_=>cases g
theorem CD {Γ:bK} (hΓ:ag P Γ):∀(n:Nat) (ro:Option Nat) (k:Nat),
  (∀(c:Code) (s s':St) (x:Exit),exec P Γ n k c s=some (x,s')→s'.ob=true→Tr P ro k c s x s')∧
  (∀(c:Code) (s s':St) (x:Exit),exec P Γ n k (.loop c) s=some (x,s')→s'.ob=true→dy P ro k c s x s'):=by
 intro n
 induction n with
 |zero=>exact fun ro k=>⟨fun _ _ _ _ e=>by simp [exec] at e,fun _ _ _ _ e=>by simp [exec] at e⟩
 |succ n ih=>
  intro ro k
  obtain ⟨Ll,ihB⟩:=ih ro k
  have hG:=AB hΓ fun ro k c s s' x=>(ih ro k).1 c s s' x
  have hP:=CA hΓ fun k=>exec P Γ n k
  have hB:∀(c:Code) (s s':St) (x:Exit),exec P Γ (n+1) k (.loop c) s=some (x,s')→s'.ob=true→dy P ro k c s x s':=by
   intro c s s' x e fu
   simp only [exec] at e
   split at e
   ·rename_i s1 h1
    exact dy.step (Ll c s s1 .normal h1 (cU n k _ s1 s' x e fu)) (ihB c s1 s' x e fu)
   ·rename_i hne
    have hx:x≠.normal:=fun q=>by subst q;exact hne s' e
    exact dy.leave (Ll c s s' x e fu) hx
  refine ⟨?_,hB⟩
  intro c s s' x e fu
  cases c
  case loop b=>exact dy.loop (hB b s s' x e fu)
  all_goals simp only [exec] at e
  case skip=>cases e;exact fun B e w t' d Q nn hB hl R hQ=>wpIn_skip (hQ e w t' hl R)
  case label=>cases e;exact fun B e w t' d Q nn hB hl R hQ=>wpIn_label (hQ e w t' hl R)
  case exit=>cases e;exact fun B e w t' d Q nn hB hl R hQ=>wpIn_exit (hQ e w t' hl R)
  case ret=>cases e;exact fun B e w t' d Q nn hB hl R hQ=>wpIn_ret (hQ e w t' hl R)
  case seq a b=>
   split at e
   ·rename_i s1 h1
    exact Tr.seq (Ll a s s1 .normal h1 (cU n k _ s1 s' x e fu)) (Ll b s1 s' x e fu)
   ·rename_i hne
    have hx:x≠.normal:=fun q=>by subst q;exact hne s' e
    exact Tr.wQ (Ll a s s' x e fu) hx
  case cond c a b=>
   split at e
   ·rename_i V8;exact Tr.cond_true V8 (Ll a s s' x e fu)
   ·rename_i V8;exact Tr.cond_false V8 (Ll b s s' x e fu)
   ·cases e
  case block id b=>
   split at e
   ·rename_i j s1 h1
    split at e
    ·rename_i hj
     cases e
     subst hj
     exact Tr.block (Ll b s s' _ h1 fu)
    ·rename_i hj
     cases e
     exact Tr.qG (Ll b s s' _ h1 fu) hj
   ·rename_i hne
    exact Tr.aQ (Ll b s s' x e fu) fun j q=>by subst q;exact hne j s' e
  case scope b=>
   split at e
   ·cases e
   ·rename_i hne
    exact Tr.scope (Ll b s s' x e fu) fun l q=>by subst q;exact hne l s' e
  case region id ops draw=>
   split at e
   ·split at e
    ·rename_i s1 fs hm h1
     split at e
     case h_2=>cases e
     rename_i hd
     cases e
     exact fun B e w t' d Q nn hB hl R hQ=>qb hG hP hm hd h1 fu (fun i p hi=>Nat.lt_of_lt_of_le (R.kr i p hi) hB) hl R (fun e' w' t'' hm hl' R'=>by rw [←hm];exact hQ e' w' t'' hl' R') id
    ·cases e
   ·obtain ⟨s1,h1,h2⟩:=Option.map_eq_some_iff.1 e
    cases h2
    exact fun B e w t' d Q nn hB hl R hQ=>wpIn_region (lq hG _ _ _ h1 fu (fun i p hi=>Nat.lt_of_lt_of_le (R.kr i p hi) hB) hl R (fun e' w' t'' hm hl' R'=>by rw [←hm];exact hQ e' w' t'' hl' R'))
  all_goals cases e
theorem Tr.exec {Γ:bK} (hΓ:ag P Γ) {n:Nat} {c:Code} {s s':St} {x:Exit} (e:exec P Γ n k c s=some (x,s')) (fu:s'.ob=true):Tr P ro k c s x s':=(CD hΓ n ro k).1 c s s' x e fu
end
end Go.Sy
namespace Go.Sy
open Go
def aj (P:Program) (f:FuncId) (args:List SV) (h:List Blk) (v:SV) (h':List Blk):Prop:=
 ∀(B:dA) (e:Env) (w:World) (args':List Value),B.k≤h.length→LR e args args'→Rel B e h w→
  Calls P f ⟨args'⟩ w fun en w'=>∃v',en= .returned v'∧∃e',e'.m=e.m∧VR e' v v'∧Rel B e' h' w'
section
variable {P:Program}
theorem aj.SZ {f:FuncId} {fn:Func} (hf:P.funcs[f]? =some fn) {c:Code} (hb:fn.body=some c) {args:List SV} {h:List Blk} {x:Exit} {s:St} {vs:List SV} (hx:x= .ret∨x= .normal)
  (ht:Tr P none h.length c ⟨aT fn.ntmps args,h,true⟩ x s) (hr:j0 P s.t s.h fn.results.toList=some (vs,true)):aj P f args h (oneOf vs) s.h:=
 fun _ _ _ _ _ hl R=>Az hf hb hx ht hr (Nat.le_refl _) hl R
theorem aj.dU {Γ:bK} (hΓ:ag P Γ) {f:FuncId} {fn:Func} (hf:P.funcs[f]? =some fn) {n:Nat} {args:List SV} {h h':List Blk} {v:SV} (g:bE P Γ n fn args h=some (v,h',true)):aj P f args h v h':=by
 unfold bE Eg at g
 cases hb:fn.body with
 |none=>rw [hb] at g;cases g
 |some c=>
  rw [hb] at g
  simp only at g
  split at g
  all_goals (try (cases g;done))
  all_goals
   rename_i s hs
   obtain ⟨⟨vs,p⟩,hr,q⟩:=Option.map_eq_some_iff.1 g
   simp only [Prod.mk.injEq,au] at q
   obtain ⟨rfl,rfl,fu,rfl⟩:=q
   exact aj.SZ hf hb (by simp) (Tr.exec hΓ hs fu) hr
mutual
def cY (l:List Nat):SV→Bool
 | .ptr b _ _=>l.contains b
 | .sl b _ _ _ _ _ _ _=>l.contains b
 | .agg ps=>dP l ps
 | .bk vs=>dP l vs
 | .iface _ x=>cY l x
 | .fn _ a b=>dP l a&&dP l b
 |_=>true
def dP (l:List Nat):List SV→Bool
 | []=>true
 |x::xs=>cY l x&&dP l xs
end
mutual
theorem gX {l:List Nat}:∀{v:SV} {j:Nat},cY l v=true→uses j v=true→j∈l
 | .ptr b _ _,j,h,g=>by simp [cY] at h;simp [uses] at g;subst g;exact h
 | .sl b _ _ _ _ _ _ _,j,h,g=>by simp [cY] at h;simp [uses] at g;subst g;exact h
 | .agg ps,j,h,g=>de (by simpa [cY] using h) (by simpa [uses] using g)
 | .bk ps,j,h,g=>de (by simpa [cY] using h) (by simpa [uses] using g)
 | .iface _ x,j,h,g=>gX (v:=x) (by simpa [cY] using h) (by simpa [uses] using g)
 | .fn _ a b,j,h,g=>by
  simp only [cY,Bool.and_eq_true] at h
  simp only [uses,Bool.or_eq_true] at g
  rcases g with g|g
  ·exact de h.1 g
  ·exact de h.2 g
 | .bool _,_,_,g=>by simp [uses] at g
 | .int _ _,_,_,g=>by simp [uses] at g
 | .str _,_,_,g=>by simp [uses] at g
 | .nl _,_,_,g=>by simp [uses] at g
 | .ints _ _ _,_,_,g=>by simp [uses] at g
 | .ro _ _ _,_,_,g=>by simp [uses] at g
 | .hU _ _,_,_,g=>by simp [uses] at g
 | .qD _ _ _ _,_,_,g=>by simp [uses] at g
 | .pV _ _ _,_,_,g=>by simp [uses] at g
 | .s6 _ _ _,_,_,g=>by simp [uses] at g
 | .nR _ _ _ _ _ _ _,_,_,g=>by simp [uses] at g
theorem de {l:List Nat}:∀{vs:List SV} {j:Nat},dP l vs=true→cW j vs=true→j∈l
 | [],_,_,g=>by simp [cW] at g
 |x::xs,j,h,g=>by
  simp only [dP,Bool.and_eq_true] at h
  simp only [cW,Bool.or_eq_true] at g
  rcases g with g|g
  ·exact gX h.1 g
  ·exact de h.2 g
end
def lP (h:List Blk):List Nat→Option (List (List SV))
 | []=>some []
 |i::is=>match h[i]?,lP h is with
  |some (.b ps),some l=>some (ps::l)
  |_,_=>none
theorem kD {h:List Blk}:∀{is:List Nat} {l:List (List SV)},lP h is=some l→l.length=is.length∧∀(j i:Nat),is[j]? =some i→∃ps,l[j]? =some ps∧h[i]? =some (.b ps)
 | [],l,g=>by simp only [lP,Option.some.injEq] at g;subst g;exact ⟨rfl,fun j i hj=>by simp at hj⟩
 |i::is,l,g=>by
  simp only [lP] at g
  split at g
  ·rename_i ps l' h1 h2
   cases g
   obtain ⟨h3,h4⟩:=kD h2
   refine ⟨by simp [h3],fun j a hj=>?_⟩
   cases j with
   |zero=>simp at hj;subst hj;exact ⟨ps,rfl,h1⟩
   |succ j=>simp at hj;obtain ⟨qs,h5,h6⟩:=h4 j a hj;exact ⟨qs,by simpa using h5,h6⟩
  ·cases g
def abh (is:List Nat) (v:SV) (h:List Blk):Option (SV×List Blk):=match lP h is with
 |some l=>if cY is v&&l.all (dP is)&&decide is.Nodup then some (lM (fun b=>is.idxOf b) v,l.map fun ps=>.b (gG (fun b=>is.idxOf b) ps)) else none
 |none=>none
theorem cG (s:Nat→Nat):∀ps:List SV,aA (gG s ps)=aA ps
 | []=>rfl
 |x::xs=>by
  simp only [gG,aA,cG s xs]
  cases x<;>rfl
theorem aj.R8 {f:FuncId} {args:List SV} {v u:SV} {h1 new:List Blk} (is:List Nat) (g:aj P f args [] v h1) (hs:abh is v h1=some (u,new)):aj P f args [] u new:=by
 unfold abh at hs
 split at hs
 ·rename_i l hl
  split at hs
  ·rename_i hc
   simp only [Bool.and_eq_true,decide_eq_true_eq,List.all_eq_true] at hc
   obtain ⟨⟨hv,hall⟩,vP⟩:=hc
   cases hs
   obtain ⟨hlen,uV⟩:=kD hl
   intro B e w args' hB hl' R
   refine (g B e w args' hB hl' R).mono ?_
   rintro en w' ⟨v',rfl,e',hm,PZ,S⟩
   have PM:∀i p,B.e.r i≠some p:=fun i p hi=>by have:=S.kr i p hi;simp at hB;omega
   let e2:Env:={e' with r:=fun j=>(is[j]?).bind e'.r}
   have hidx:∀i,i∈is→is[is.idxOf i]? =some i:=fun i hi=>by
    rw [List.getElem?_eq_getElem (List.idxOf_lt_length_of_mem hi)]
    simp
   have map:∀i p,i∈is→e'.r i=some p→e2.r (is.idxOf i)=some p:=fun i p hi hp=>by
    show (is[is.idxOf i]?).bind e'.r=some p
    rw [hidx i hi];exact hp
   have Gv:∀j p,e2.r j=some p→∃i,is[j]? =some i∧e'.r i=some p:=fun j p hj=>Option.bind_eq_some_iff.1 hj
   refine ⟨v',rfl,e2,hm,VR.lM (e:=e') (e':=e2) (fun _ _ h=>h) (Nat.le_refl _) v v' (fun j p hu hp=>map j p (gX hv hu) hp) PZ,?_⟩
   exact {
    os:=S.os,tape:=S.tape,output:=S.output,size:=S.size
    inj:=fun i j p q hi hj hpq=>by
     obtain ⟨a,h1,h2⟩:=Gv i p hi
     obtain ⟨b,h3,h4⟩:=Gv j q hj
     have:=S.inj a b p q h2 h4 hpq
     subst this
     exact (List.getElem?_inj (List.getElem?_eq_some_iff.1 h1).1 vP).1 (h1.trans h3.symm)
    dom:=fun i p hi=>by
     obtain ⟨a,h1,_⟩:=Gv i p hi
     have:=(List.getElem?_eq_some_iff.1 h1).1
     simpa [hlen] using this
    sep:=fun i p hi=>by obtain ⟨a,_,h2⟩:=Gv i p hi;exact S.sep a p h2
    gk:=S.gk,aY:=S.aY
    news:=fun i p hi=>by
     obtain ⟨a,_,h2⟩:=Gv i p hi
     rcases S.news a p h2 with h|h
     ·exact absurd h (PM a p)
     ·exact .inr h
    bg:=fun i p hi=>absurd hi (PM i p)
    bM:=S.bM,n0:=S.n0,cP:=S.cP
    fA:=fun j ps hj=>by
     simp only [List.getElem?_map] at hj
     cases hq:l[j]? with
     |none=>simp [hq] at hj
     |some qs=>
      simp only [hq,Option.map_some,Option.some.injEq,Blk.b.injEq] at hj
      subst hj
      have hjl:j<is.length:=by have:=(List.getElem?_eq_some_iff.1 hq).1;omega
      obtain ⟨qs',h1,h2⟩:=uV j _ (List.getElem?_eq_getElem hjl)
      rw [hq] at h1;cases h1
      have yl:e2.r j=e'.r is[j]:=by show (is[j]?).bind e'.r=_;rw [List.getElem?_eq_getElem hjl];rfl
      rcases S.fA _ qs h2 with ⟨g1,g2⟩|⟨p,o,g1,g2,c,t,rfl,g3,g4,g5⟩
      ·exact .inl ⟨by rw [cG];exact g1,by rw [yl];exact g2⟩
      ·refine .inr ⟨p,_,by rw [yl];exact g1,g2,c,t,rfl,g3,by rw [cG];exact g4,?_⟩
       rw [cG]
       exact PR.lM (e:=e') (e':=e2) (fun _ _ h=>h) (Nat.le_refl _) qs _ (fun b p hu hp=>map b p (de (hall qs (List.mem_of_getElem? hq)) hu) hp) g5
    gap:=fun j g hj=>by
     simp only [List.getElem?_map] at hj
     cases hq:l[j]? with
     |none=>simp [hq] at hj
     |some qs=>simp [hq] at hj
    yi:=S.yi,yb:=S.yb,old:=S.old
    win:=fun i p hi=>absurd hi (PM i p)
    kr:=fun i p hi=>absurd hi (PM i p)
    gL:=by simp at hB;omega
    hY:=S.hY,jq:=S.jq}
  ·cases hs
 ·cases hs
def jZ (w:World):Nat→Option (Array Value×TypeId×(Nat×Nat)):=fun n=>match w.heap[n]? with
 |some (.cells c t fr)=>some (c,t,fr)
 |_=>none
def qf (h:List Blk):List SV→Option (List (List Int)×Bool)
 | []=>some ([],true)
 |p::ps=>match p,qf h ps with
  | .ro _ .u8 xs,some (l,b)=>some (xs::l,b)
  | .sl c o i 1 len cap ex wh,some (l,b)=>match dz h (.sl c o i 1 len cap ex wh) with
   |some ([.ints .u8 n xs],q)=>some (xs::l,aa (aa b q) (decide (xs.length=n)))
   |_=>none
  | .nl (.slice none 0 0),some (l,b)=>some ([]::l,b)
  |_,_=>none
mutual
def lU:SV→SV
 | .ro _ k xs=>.ro false k xs
 | .hU _ xss=>.hU false xss
 | .qD _ z len g=>.qD false z len (fun i=>ot (g i))
 | .s6 _ xss i=>.s6 false xss i
 | .nR _ z len g e o i=>.nR false z len (fun i=>ot (g i)) e o i
 | .agg ps=>.agg (ot ps)
 | .bk vs=>.bk (ot vs)
 | .iface t x=>.iface t (lU x)
 | .fn f a b=>.fn f (ot a) (ot b)
 |v=>v
def ot:List SV→List SV
 | []=>[]
 |x::xs=>lU x::ot xs
end
mutual
def bI (h:List Blk):SV→Option (SV×Bool×Bool)
 | .bool b=>some (.bool b,true,false)
 | .int k n=>some (.int k n,true,false)
 | .str s=>some (.str s,true,false)
 | .nl v=>some (.nl v,true,false)
 | .ints k n xs=>some (.ints k n xs,true,false)
 | .ro _ k xs=>some (.ro false k xs,true,false)
 | .hU _ xss=>some (.hU false xss,true,false)
 | .qD _ z len g=>some (.qD false z len (fun i=>ot (g i)),true,false)
 | .sl b o i 1 len cap ex wh=>match dz h (.sl b o i 1 len cap ex wh) with
  |some ([.ints k n xs],p)=>some (.ro false k xs,aa p (decide (xs.length=n)),true)
  |some (ps,p)=>(qf h ps).map fun q=>(.hU false q.1,aa p q.2,true)
  |none=>none
 | .agg ps=>match jV h ps with
  |some (l,p,t)=>some (.agg l,p,t)
  |none=>none
 | .iface t x=>match bI h x with
  |some (y,p,b)=>some (.iface t y,p,b)
  |none=>none
 |_=>none
def jV (h:List Blk):List SV→Option (List SV×Bool×Bool)
 | []=>some ([],true,false)
 |x::xs=>match bI h x,jV h xs with
  |some (y,p,a),some (l,q,b)=>some (y::l,aa p q,a||b)
  |_,_=>none
end
theorem uW {h h2:List Blk} (hle:Gr h h2) {v:SV} {q:List SV×Bool} (g:dz h v=some q):dz h2 v=some q:=by
 cases v
 case sl b o i z len cap ex wh=>
  simp only [dz] at g ⊢
  cases hb:h[b]? with
  |none=>rw [hb] at g;cases g
  |some bl=>
  cases bl with
  |g _=>rw [hb] at g;cases g
  |b ps=>rw [hb] at g;rw [hle b ps hb];exact g
 all_goals first|exact g|(unfold dz at g ⊢;split at g<;>first|(cases g;done)|(rename_i q1;cases q1;done)|(rename_i q1;cases q1;exact g))
theorem qg {h h2:List Blk} (hle:Gr h h2):∀{ps:List SV} {q:List (List Int)×Bool},qf h ps=some q→qf h2 ps=some q
 | [],q,g=>g
 |p::ps,q,g=>by
  unfold qf at g ⊢
  split at g
  ·rename_i f xs l b hr;rw [qg hle hr];exact g
  ·rename_i c o i len cap ex wh l b hr
   rw [qg hle hr]
   split at g
   ·rename_i n xs q' hc;simp only [uW hle hc];exact g
   ·cases g
  ·rename_i l b hr;rw [qg hle hr];exact g
  ·cases g
mutual
theorem fX {h h2:List Blk} (hle:Gr h h2):∀{v:SV} {q:SV×Bool×Bool},bI h v=some q→bI h2 v=some q
 | .bool _,q,g=>by simp only [bI] at g ⊢;exact g
 | .int _ _,q,g=>by simp only [bI] at g ⊢;exact g
 | .str _,q,g=>by simp only [bI] at g ⊢;exact g
 | .nl _,q,g=>by simp only [bI] at g ⊢;exact g
 | .ints _ _ _,q,g=>by simp only [bI] at g ⊢;exact g
 | .ro _ _ _,q,g=>by simp only [bI] at g ⊢;exact g
 | .hU _ _,q,g=>by simp only [bI] at g ⊢;exact g
 | .sl b o i z len cap ex wh,q,g=>by
  by_cases hz:z=1
  ·subst hz
   simp only [bI] at g ⊢
   split at g
   ·rename_i k n xs p hc;simp only [uW hle hc];exact g
   ·rename_i ps p hno hc
    rw [uW hle hc]
    obtain ⟨x,hx,hq⟩:=Option.map_eq_some_iff.1 g
    split
    ·rename_i k n xs p' Ys
     cases Ys
     exact absurd rfl (hno _ _ _)
    ·rename_i Ys
     cases Ys
     rw [qg hle hx]
     exact congrArg some hq
    ·rename_i Ys;cases Ys
   ·cases g
  ·exfalso
   unfold bI at g
   split at g<;>first|(rename_i h1;cases h1;done)|skip
   all_goals first|(rename_i h1;cases h1;exact hz rfl)|(cases g)
 | .agg ps,q,g=>by
  simp only [bI] at g ⊢
  split at g
  ·rename_i l p t hl;rw [ym hle hl];exact g
  ·cases g
 | .iface _ x,q,g=>by
  simp only [bI] at g ⊢
  split at g
  ·rename_i y p t hl;rw [fX hle hl];exact g
  ·cases g
 | .ptr _ _ _,q,g=>by simp [bI] at g
 | .qD _ _ _ _,q,g=>by simp only [bI] at g ⊢;exact g
 | .pV _ _ _,q,g=>by simp [bI] at g
 | .s6 _ _ _,q,g=>by simp [bI] at g
 | .nR _ _ _ _ _ _ _,q,g=>by simp [bI] at g
 | .bk _,q,g=>by simp [bI] at g
 | .fn _ _ _,q,g=>by simp [bI] at g
theorem ym {h h2:List Blk} (hle:Gr h h2):∀{v:List SV} {q:List SV×Bool×Bool},jV h v=some q→jV h2 v=some q
 | [],q,g=>by simp only [jV] at g ⊢;exact g
 |x::xs,q,g=>by
  simp only [jV] at g ⊢
  split at g
  ·rename_i y p a l q' b hx hl
   rw [fX hle hx,ym hle hl];exact g
  ·cases g
end
theorem qh {w:World} {n:Nat} {c:Array Value} {t:TypeId} {fr:Nat×Nat} (h:w.heap[n]? =some (.cells c t fr)):jZ w n=some (c,t,fr):=by unfold jZ;rw [h]
theorem ri {w:World} {n:Nat} {c:Array Value} {t:TypeId} {fr:Nat×Nat} (h:jZ w n=some (c,t,fr)):w.heap[n]? =some (.cells c t fr):=by
 unfold jZ at h
 split at h
 ·rename_i c' t' fr' hq;cases h;exact hq
 ·cases h
def iI (z:Nat→Option (Array Value×TypeId×(Nat×Nat))) (n:Nat):Env:=⟨fun _=>none,z,n,[],fun _=>none⟩
section
variable {e:Env} {B:dA} {h:List Blk} {w:World}
theorem nX.any {e':Env} (hz:∀n o,e.z n=some o→e'.z n=some o) {f:Bool} {k:IntKind} {xs:List Int} {v:Value} (g:nX e f k xs v):nX e' false k xs v:=by
 rcases g with h|⟨n,o,cap,c,t,fr,h1,h2,h3,h4,h5,h6⟩
 ·exact .inl h
 ·exact .inr ⟨n,o,cap,c,t,fr,h1,hz _ _ h2,(fun q=>by cases q),h4,h5,h6⟩
theorem uX {b o i len cap:Nat} {ex wh:Bool} {q:List SV×Bool} (hc:dz h (.sl b o i 1 len cap ex wh)=some q) (h0:len≠0):h[b]? ≠some (.b []):=fun hb=>by
 have key:∀a n:Nat,n≠0→F6 [] a n=none:=fun a n hn=>by
  cases a with
  |zero=>cases n with
   |zero=>exact absurd rfl hn
   |succ n=>rfl
  |succ a=>rfl
 simp only [dz,hb] at hc
 cases o with
 |succ o=>simp [j6] at hc
 |zero=>
  simp only [j6] at hc
  rw [key _ _ (by simpa using h0)] at hc
  cases hc
theorem Lm (R:Rel B e h w) {zz:Nat→Option (Array Value×TypeId×(Nat×Nat))} (hZ:∀(i:Nat) (p:Pl) (c:Array Value) (t:TypeId),h[i]? ≠some (.b [])→e.r i=some p→w.heap[p.n]? =some (.cells c t (0,0))→zz p.n=some (c,t,(0,0))) {b o i len cap n:Nat} {ex wh:Bool} {k:IntKind} {xs:List Int} {v':Value} (hc:dz h (.sl b o i 1 len cap ex wh)=some ([.ints k n xs],true)) (hn:xs.length=n) (hv:VR e (.sl b o i 1 len cap ex wh) v') (m:Nat):
  nX (iI zz m) false k xs v':=by
 obtain ⟨ys,hys,s9,_,hf⟩:=bO (P:=default) (z:=1) R hc (n:=len) rfl hv rfl
 obtain ⟨us,zd,kq⟩:=hys
 rw [PR] at zd;subst zd
 rw [List.append_nil,aJ hn] at kq
 rw [Nat.mul_one] at s9
 have vH:xs.length=len:=by rw [←s9,kq,av]
 have nil:len=0→xs=[]:=fun h0=>List.length_eq_zero_iff.1 (by omega)
 rcases hv with ⟨h0,_,a,rfl⟩|⟨p,cap',a,hp,rfl,ha,_,_,hlc,BO⟩
 ·exact .inl ⟨nil h0,a,0,rfl,fun _=>rfl⟩
 ·by_cases h0:len=0
  ·exact .inl ⟨nil h0,_,cap',by rw [h0],fun q=>by cases q⟩
  ·have hc0:cap'≠0:=by omega
   obtain ⟨c,t,hcell,hsz⟩:=R.eU hp
   have Ej:=ha hc0
   have V2:=BO hc0
   have hr:=hf len (Nat.le_refl _)
   rw [kj hcell (by omega),Nat.mul_one,List.take_of_length_le (l:=ys) (by omega)] at hr
   have fj:(c.toList.drop a).take len=ys:=congrArg Array.toList (Result.ok.inj hr).1
   exact .inr ⟨p.n,a,cap',c,t,(0,0),by rw [vH],hZ _ p c t (uX hc h0) hp hcell,(fun q=>by cases q),by rw [←kq, ←fj,vH],by omega,by omega⟩
theorem r9 (R:Rel B e h w) {zz:Nat→Option (Array Value×TypeId×(Nat×Nat))} (hZ:∀(i:Nat) (p:Pl) (c:Array Value) (t:TypeId),h[i]? ≠some (.b [])→e.r i=some p→w.heap[p.n]? =some (.cells c t (0,0))→zz p.n=some (c,t,(0,0))) (iB:∀n x,e.z n=some x→zz n=some x) (m:Nat):∀{ps:List SV} {l:List (List Int)} {ys:List Value},qf h ps=some (l,true)→PR e ps ys→
  ys.length=l.length∧∀(i:Nat) (xs:List Int),l[i]? =some xs→∃y,ys[i]? =some y∧nX (iI zz m) false .u8 xs y
 | [],l,ys,g,hp=>by
  simp only [qf,Option.some.injEq,Prod.mk.injEq,and_true] at g
  subst g
  rw [PR] at hp;subst hp
  exact ⟨rfl,fun i xs hi=>by simp at hi⟩
 |p::ps,l,ys,g,hp=>by
  have fin:∀{xs:List Int} {l':List (List Int)},aW p=true→qf h ps=some (l',true)→l=xs::l'→(∀y,VR e p y→nX (iI zz m) false .u8 xs y)→
    ys.length=l.length∧∀(i:Nat) (xs:List Int),l[i]? =some xs→∃y,ys[i]? =some y∧nX (iI zz m) false .u8 xs y:=fun {xs l'} hn hr hl hy=>by
   subst hl
   obtain ⟨y,zs,h1,h2,rfl⟩:=(PR.cons hn).1 hp
   obtain ⟨h3,h4⟩:=r9 R hZ iB m hr h2
   refine ⟨by simp [h3],fun i us hi=>?_⟩
   cases i with
   |zero=>simp at hi;subst hi;exact ⟨y,rfl,hy y h1⟩
   |succ i=>simp at hi;obtain ⟨u,hu,hv⟩:=h4 i us hi;exact ⟨u,by simpa using hu,hv⟩
  unfold qf at g
  split at g
  ·rename_i f xs l' b hr
   simp only [Option.some.injEq,Prod.mk.injEq] at g
   obtain ⟨rfl,rfl⟩:=g
   exact fin rfl hr rfl fun y hy=>nX.any (e:=e) iB hy
  ·rename_i c o i len cap ex wh l' b hr
   split at g
   ·rename_i n xs q hc
    simp only [Option.some.injEq,Prod.mk.injEq,au,decide_eq_true_eq] at g
    obtain ⟨rfl,⟨rfl,rfl⟩,hn⟩:=g
    exact fin rfl hr rfl fun y hy=>Lm R hZ hc hn hy m
   ·cases g
  ·rename_i l' b hr
   simp only [Option.some.injEq,Prod.mk.injEq] at g
   obtain ⟨rfl,rfl⟩:=g
   exact fin rfl hr rfl fun y hy=>by rw [VR] at hy;subst hy;exact .inl ⟨rfl,none,0,rfl,fun _=>rfl⟩
  ·cases g
theorem Wk (R:Rel B e h w) {zz:Nat→Option (Array Value×TypeId×(Nat×Nat))} (hZ:∀(i:Nat) (p:Pl) (c:Array Value) (t:TypeId),h[i]? ≠some (.b [])→e.r i=some p→w.heap[p.n]? =some (.cells c t (0,0))→zz p.n=some (c,t,(0,0))) (iB:∀n x,e.z n=some x→zz n=some x) {b o i len cap:Nat} {ex wh:Bool} {u:SV} {t:Bool} {v':Value} (g:bI h (.sl b o i 1 len cap ex wh)=some (u,true,t)) (hv:VR e (.sl b o i 1 len cap ex wh) v') (m:Nat):t=true∧VR (iI zz m) u v':=by
 simp only [bI] at g
 split at g
 ·rename_i k n xs p hc
  simp only [Option.some.injEq,Prod.mk.injEq,au,decide_eq_true_eq] at g
  obtain ⟨rfl,⟨rfl,hn⟩,rfl⟩:=g
  exact ⟨rfl,Lm R hZ hc hn hv m⟩
 ·rename_i ps p _ hc
  obtain ⟨⟨l,q⟩,hr,h2⟩:=Option.map_eq_some_iff.1 g
  simp only [Prod.mk.injEq,au] at h2
  obtain ⟨rfl,⟨rfl,rfl⟩,rfl⟩:=h2
  refine ⟨rfl,?_⟩
  obtain ⟨ys,hys,s9,_,hf⟩:=bO (P:=default) (z:=1) R hc (n:=len) rfl hv rfl
  rw [Nat.mul_one] at s9
  obtain ⟨h3,h4⟩:=r9 R hZ iB m hr hys
  have hll:l.length=len:=by omega
  have nil:len=0→l=[]:=fun h0=>List.length_eq_zero_iff.1 (by omega)
  show Ns _ _ _ _
  rcases hv with ⟨h0,_,a,rfl⟩|⟨p,cap',a,hp,rfl,ha,_,_,hlc,BO⟩
  ·exact .inl ⟨nil h0,a,0,rfl,fun _=>rfl⟩
  ·by_cases h0:len=0
   ·exact .inl ⟨nil h0,_,cap',by rw [h0],fun q=>by cases q⟩
   ·have hc0:cap'≠0:=by omega
    obtain ⟨c,t,hcell,hsz⟩:=R.eU hp
    have Ej:=ha hc0
    have V2:=BO hc0
    have hr:=hf len (Nat.le_refl _)
    rw [kj hcell (by omega),Nat.mul_one,List.take_of_length_le (l:=ys) (by omega)] at hr
    have fj:(c.toList.drop a).take len=ys:=congrArg Array.toList (Result.ok.inj hr).1
    refine .inr ⟨p.n,a,cap',c,t,(0,0),by rw [hll],hZ _ p c t (uX hc h0) hp hcell,(fun q=>by cases q),fun i xs hi=>?_,by omega,by omega⟩
    obtain ⟨y,hy,hro⟩:=h4 i xs hi
    rw [←fj] at hy
    have PX:i<len:=by rw [←hll];exact (List.getElem?_eq_some_iff.1 hi).1
    rw [List.getElem?_take_of_lt PX,List.getElem?_drop] at hy
    exact ⟨y,hy,hro⟩
 ·cases g
theorem mW {v u:SV} {p t:Bool} (g:bI h v=some (u,p,t)) (hn:aW v=true):aW u=true:=by
 unfold bI at g
 split at g
 case h_5=>cases hn
 case h_9=>
  split at g
  ·cases g;rfl
  ·obtain ⟨q,_,h2⟩:=Option.map_eq_some_iff.1 g;cases h2;rfl
  ·cases g
 all_goals first
  |(cases g;done)
  |(cases g;rfl)
  |(split at g<;>first|(cases g;rfl)|(cases g;done))
mutual
theorem VR.lU {e:Env} {zz:Nat→Option (Array Value×TypeId×(Nat×Nat))} (iB:∀n x,e.z n=some x→zz n=some x) (m:Nat) (hr:∀j,e.r j=none):∀{v:SV} {v':Value},VR e v v'→VR (iI zz m) (Sy.lU v) v'
 | .bool _,_,h=>h
 | .int _ _,_,h=>h
 | .str _,_,h=>h
 | .nl _,_,h=>h
 | .ints _ _ _,_,h=>h
 | .ptr b _ _,_,⟨p,h1,_⟩=>by rw [hr] at h1;cases h1
 | .sl b _ _ _ _ _ _ _,_,h=>by
  rcases h with h|⟨p,c,a,h1,h2⟩
  ·exact .inl h
  ·rw [hr] at h1;cases h1
 | .ro _ _ _,_,h=>nX.any (e:=e) iB h
 | .hU _ _,_,h=>by
  rcases h with h|⟨n,o,cap,c,t,fr,h1,h2,h3,h4,h5,h6⟩
  ·exact .inl h
  ·exact .inr ⟨n,o,cap,c,t,fr,h1,iB _ _ h2,(fun q=>by cases q),(fun i xs hi=>(h4 i xs hi).imp fun y ⟨a,b⟩=>⟨a,nX.any (e:=e) iB b⟩),h5,h6⟩
 | .qD f z len g,_,h=>by
  rcases h with h|⟨n,o,cap,c,t,fr,h1,h2,h3,h4,h5,h6⟩
  ·exact .inl h
  ·exact .inr ⟨n,o,cap,c,t,fr,h1,iB _ _ h2,(fun q=>by cases q),(fun i hi=>PR.lU (e:=⟨fun _=>none,e.z,e.n0,[],fun _=>none⟩) iB m (fun _=>rfl) (h4 i hi)),h5,h6⟩
 | .pV _ _ _,_,⟨n,o,c,t,fr,h1,h2,h3⟩=>⟨n,o,c,t,fr,h1,iB _ _ h2,h3⟩
 | .s6 _ _ _,_,⟨n,o,c,t,fr,h1,h2,h3⟩=>⟨n,o,c,t,fr,h1,iB _ _ h2,fun i xs hi=>(h3 i xs hi).imp fun y ⟨a,b⟩=>⟨a,nX.any (e:=e) iB b⟩⟩
 | .nR _ z len g el o i,_,⟨n,o0,c,t,fr,h1,h2,h3,h4⟩=>
  ⟨n,o0,c,t,fr,h1,iB _ _ h2,fun i hi=>PR.lU (e:=⟨fun _=>none,e.z,e.n0,[],fun _=>none⟩) iB m (fun _=>rfl) (h3 i hi),h4⟩
 | .agg ps,_,⟨ys,h1,h2⟩=>⟨ys,PR.lU iB m hr h1,h2⟩
 | .bk vs,_,⟨ys,h1,h2⟩=>⟨ys,LR.lU iB m hr h1,h2⟩
 | .iface _ x,_,⟨y,h1,h2⟩=>⟨y,VR.lU iB m hr h1,h2⟩
 | .fn _ a b,_,⟨ys,us,h1,h2,h3⟩=>⟨ys,us,LR.lU iB m hr h1,LR.lU iB m hr h2,h3⟩
theorem LR.lU {e:Env} {zz:Nat→Option (Array Value×TypeId×(Nat×Nat))} (iB:∀n x,e.z n=some x→zz n=some x) (m:Nat) (hr:∀j,e.r j=none):∀{vs:List SV} {ys:List Value},LR e vs ys→LR (iI zz m) (ot vs) ys
 | [],_,h=>h
 |_::_,_,⟨y,zs,h1,h2,h3⟩=>⟨y,zs,VR.lU iB m hr h1,LR.lU iB m hr h2,h3⟩
theorem PR.lU {e:Env} {zz:Nat→Option (Array Value×TypeId×(Nat×Nat))} (iB:∀n x,e.z n=some x→zz n=some x) (m:Nat) (hr:∀j,e.r j=none):∀{vs:List SV} {ys:List Value},PR e vs ys→PR (iI zz m) (ot vs) ys
 | [],_,h=>h
 |x::xs,_,h=>by
  have ih:=fun (zs:List Value) (h:PR e xs zs)=>PR.lU iB m hr h
  have iv:=fun (y:Value) (h:VR e x y)=>VR.lU iB m hr h
  cases x<;>first
   |(obtain ⟨zs,h1,h2⟩:=h;exact ⟨zs,ih zs h1,h2⟩)
   |(obtain ⟨y,zs,h1,h2,h3⟩:=h;exact ⟨y,zs,iv y h1,ih zs h2,h3⟩)
end
mutual
theorem lz (R:Rel B e h w) {zz:Nat→Option (Array Value×TypeId×(Nat×Nat))} (iB:∀n x,e.z n=some x→zz n=some x) {T:Bool} (hT:T=true→∀(i:Nat) (p:Pl) (c:Array Value) (t:TypeId),h[i]? ≠some (.b [])→e.r i=some p→w.heap[p.n]? =some (.cells c t (0,0))→zz p.n=some (c,t,(0,0))) (m:Nat):∀{v u:SV} {t:Bool} {v':Value},bI h v=some (u,true,t)→(t=true→T=true)→VR e v v'→VR (iI zz m) u v'
 | .bool _,u,t,v',g,_,hv=>by simp only [bI,Option.some.injEq,Prod.mk.injEq] at g;obtain ⟨rfl,_⟩:=g;exact hv
 | .int _ _,u,t,v',g,_,hv=>by simp only [bI,Option.some.injEq,Prod.mk.injEq] at g;obtain ⟨rfl,_⟩:=g;exact hv
 | .str _,u,t,v',g,_,hv=>by simp only [bI,Option.some.injEq,Prod.mk.injEq] at g;obtain ⟨rfl,_⟩:=g;exact hv
 | .nl _,u,t,v',g,_,hv=>by simp only [bI,Option.some.injEq,Prod.mk.injEq] at g;obtain ⟨rfl,_⟩:=g;exact hv
 | .ints _ _ _,u,t,v',_,_,hv=>hv.elim
 | .ptr _ _ _,u,t,v',g,_,_=>by simp [bI] at g
 | .sl b o i z len cap ex wh,u,t,v',g,ht,hv=>by
  by_cases hz:z=1
  ·subst hz
   have h1:t=true:=by
    simp only [bI] at g
    split at g
    ·simp only [Option.some.injEq,Prod.mk.injEq] at g;exact g.2.2.symm
    ·obtain ⟨q,_,h2⟩:=Option.map_eq_some_iff.1 g;simp only [Prod.mk.injEq] at h2;exact h2.2.2.symm
    ·cases g
   exact (Wk R (hT (ht h1)) iB g hv m).2
  ·exfalso
   unfold bI at g
   split at g<;>first|(rename_i h1;cases h1;done)|skip
   all_goals first|(rename_i h1;cases h1;exact hz rfl)|(cases g)
 | .ro f k xs,u,t,v',g,_,hv=>by
  simp only [bI,Option.some.injEq,Prod.mk.injEq] at g
  obtain ⟨rfl,_⟩:=g
  exact nX.any (e:=e) iB hv
 | .hU f xss,u,t,v',g,_,hv=>by
  simp only [bI,Option.some.injEq,Prod.mk.injEq] at g
  obtain ⟨rfl,_⟩:=g
  rcases hv with h|⟨n,o,cap,c,t,fr,h1,h2,h3,h4,h5,h6⟩
  ·exact .inl h
  ·exact .inr ⟨n,o,cap,c,t,fr,h1,iB _ _ h2,(fun q=>by cases q),(fun i xs hi=>(h4 i xs hi).imp fun y ⟨a,b⟩=>⟨a,nX.any (e:=e) iB b⟩),h5,h6⟩
 | .qD f z len gg,u,t,v',g,_,hv=>by
  simp only [bI,Option.some.injEq,Prod.mk.injEq] at g
  obtain ⟨rfl,_⟩:=g
  rcases hv with h|⟨n,o,cap,c,t,fr,h1,h2,h3,h4,h5,h6⟩
  ·exact .inl h
  ·exact .inr ⟨n,o,cap,c,t,fr,h1,iB _ _ h2,(fun q=>by cases q),(fun i hi=>PR.lU (e:=⟨fun _=>none,e.z,e.n0,[],fun _=>none⟩) iB m (fun _=>rfl) (h4 i hi)),h5,h6⟩
 | .pV _ _ _,u,t,v',g,_,_=>by simp [bI] at g
 | .s6 _ _ _,u,t,v',g,_,_=>by simp [bI] at g
 | .nR _ _ _ _ _ _ _,u,t,v',g,_,_=>by simp [bI] at g
 | .agg ps,u,t,v',g,ht,hv=>by
  simp only [bI] at g
  split at g
  ·rename_i l p t' hl
   simp only [Option.some.injEq,Prod.mk.injEq] at g
   obtain ⟨rfl,rfl,rfl⟩:=g
   obtain ⟨ys,hys,rfl⟩:=hv
   exact ⟨ys,oW R iB hT m hl ht hys,rfl⟩
  ·cases g
 | .bk _,u,t,v',g,_,_=>by simp [bI] at g
 | .iface ty x,u,t,v',g,ht,hv=>by
  simp only [bI] at g
  split at g
  ·rename_i y p t' hl
   simp only [Option.some.injEq,Prod.mk.injEq] at g
   obtain ⟨rfl,rfl,rfl⟩:=g
   obtain ⟨y',hy,rfl⟩:=hv
   exact ⟨y',lz R iB hT m hl ht hy,rfl⟩
  ·cases g
 | .fn _ _ _,u,t,v',g,_,_=>by simp [bI] at g
theorem oW (R:Rel B e h w) {zz:Nat→Option (Array Value×TypeId×(Nat×Nat))} (iB:∀n x,e.z n=some x→zz n=some x) {T:Bool} (hT:T=true→∀(i:Nat) (p:Pl) (c:Array Value) (t:TypeId),h[i]? ≠some (.b [])→e.r i=some p→w.heap[p.n]? =some (.cells c t (0,0))→zz p.n=some (c,t,(0,0))) (m:Nat):∀{vs us:List SV} {t:Bool} {ys:List Value},jV h vs=some (us,true,t)→(t=true→T=true)→PR e vs ys→PR (iI zz m) us ys
 | [],us,t,ys,g,_,hv=>by simp only [jV,Option.some.injEq,Prod.mk.injEq] at g;obtain ⟨rfl,_⟩:=g;exact hv
 |x::xs,us,t,ys,g,ht,hv=>by
  simp only [jV] at g
  split at g
  ·rename_i y p a l q b hx hl
   simp only [Option.some.injEq,Prod.mk.injEq,au] at g
   obtain ⟨rfl,⟨rfl,rfl⟩,rfl⟩:=g
   have ha:a=true→T=true:=fun h=>ht (by rw [h];rfl)
   have hb:b=true→T=true:=fun h=>ht (by rw [h];exact Bool.or_true _)
   by_cases hn:aW x=true
   ·obtain ⟨y',zs,h1,h2,rfl⟩:=(PR.cons hn).1 hv
    exact (PR.cons (mW hx hn)).2 ⟨y',zs,lz R iB hT m hx ha h1,oW R iB hT m hl hb h2,rfl⟩
   ·cases x<;>simp [aW] at hn
    simp only [bI,Option.some.injEq,Prod.mk.injEq] at hx
    obtain ⟨rfl,_⟩:=hx
    obtain ⟨zs,h2,rfl⟩:=hv
    exact ⟨zs,oW R iB hT m hl hb h2,rfl⟩
  ·cases g
end
theorem uY (R:Rel B e h w) {zz:Nat→Option (Array Value×TypeId×(Nat×Nat))} (iB:∀n x,e.z n=some x→zz n=some x) {T:Bool} (hT:T=true→∀(i:Nat) (p:Pl) (c:Array Value) (t:TypeId),h[i]? ≠some (.b [])→e.r i=some p→w.heap[p.n]? =some (.cells c t (0,0))→zz p.n=some (c,t,(0,0))) (m:Nat):∀{vs us:List SV} {t:Bool} {ys:List Value},jV h vs=some (us,true,t)→(t=true→T=true)→LR e vs ys→LR (iI zz m) us ys
 | [],us,t,ys,g,_,hv=>by simp only [jV,Option.some.injEq,Prod.mk.injEq] at g;obtain ⟨rfl,_⟩:=g;exact hv
 |x::xs,us,t,ys,g,ht,hv=>by
  simp only [jV] at g
  split at g
  ·rename_i y p a l q b hx hl
   simp only [Option.some.injEq,Prod.mk.injEq,au] at g
   obtain ⟨rfl,⟨rfl,rfl⟩,rfl⟩:=g
   obtain ⟨y',zs,h1,h2,rfl⟩:=hv
   exact ⟨y',zs,lz R iB hT m hx (fun h=>ht (by rw [h];rfl)) h1,uY R iB hT m hl (fun h=>ht (by rw [h];exact Bool.or_true _)) h2,rfl⟩
  ·cases g
end
end
end Go.Sy
namespace Go.Sy
open Go
mutual
def fo:SV→Bool
 | .ro f _ _=>!f
 | .hU f _=>!f
 | .qD _ _ _ _=>true
 | .pV _ _ _=>true
 | .s6 _ _ _=>true
 | .nR _ _ _ _ _ _ _=>true
 | .agg ps=>iu ps
 | .bk vs=>iu vs
 | .iface _ x=>fo x
 | .fn _ a b=>iu a||iu b
 |_=>false
def iu:List SV→Bool
 | []=>false
 |x::xs=>fo x||iu xs
end
section
variable {e e':Env}
theorem nX.fresh (hz:∀n x,e.n0≤n→e.z n=some x→e'.z n=some x) (hn:e'.n0≤e.n0) {k:IntKind} {xs:List Int} {v:Value} (g:nX e true k xs v):nX e' true k xs v:=by
 rcases g with h|⟨n,o,cap,c,t,fr,h1,h2,h3,h4,h5,h6⟩
 ·exact .inl h
 ·exact .inr ⟨n,o,cap,c,t,fr,h1,hz _ _ (h3 rfl) h2,fun q=>Nat.le_trans hn (h3 q),h4,h5,h6⟩
theorem Ns.fresh (hz:∀n x,e.n0≤n→e.z n=some x→e'.z n=some x) (hn:e'.n0≤e.n0) {xss:List (List Int)} {v:Value} (g:Ns e true xss v):Ns e' true xss v:=by
 rcases g with h|⟨n,o,cap,c,t,fr,h1,h2,h3,h4,h5,h6⟩
 ·exact .inl h
 ·exact .inr ⟨n,o,cap,c,t,fr,h1,hz _ _ (h3 rfl) h2,fun q=>Nat.le_trans hn (h3 q),fun i xs hi=>(h4 i xs hi).imp fun y ⟨a,b⟩=>⟨a,b.fresh hz hn⟩,h5,h6⟩
mutual
theorem VR.fresh (hr:e'.r=e.r) (hz:∀n x,e.n0≤n→e.z n=some x→e'.z n=some x) (hn:e'.n0≤e.n0):∀{v:SV} {v':Value},fo v=false→VR e v v'→VR e' v v'
 | .bool _,_,_,h=>h
 | .int _ _,_,_,h=>h
 | .str _,_,_,h=>h
 | .nl _,_,_,h=>h
 | .ints _ _ _,_,_,h=>h
 | .ptr b _ _,_,_,⟨p,h1,h2⟩=>⟨p,by rw [hr];exact h1,h2⟩
 | .sl b _ _ _ _ _ _ _,_,_,h=>by
  rcases h with h|⟨p,c,a,h1,h2⟩
  ·exact .inl h
  ·exact .inr ⟨p,c,a,by rw [hr];exact h1,h2⟩
 | .ro true _ _,_,_,h=>nX.fresh hz hn h
 | .ro false _ _,_,g,_=>by simp [fo] at g
 | .hU true _,_,_,h=>Ns.fresh hz hn h
 | .hU false _,_,g,_=>by simp [fo] at g
 | .qD _ _ _ _,_,g,_=>by simp [fo] at g
 | .pV _ _ _,_,g,_=>by simp [fo] at g
 | .s6 _ _ _,_,g,_=>by simp [fo] at g
 | .nR _ _ _ _ _ _ _,_,g,_=>by simp [fo] at g
 | .agg ps,_,g,⟨ys,h1,h2⟩=>⟨ys,PR.fresh hr hz hn (by simpa [fo] using g) h1,h2⟩
 | .bk vs,_,g,⟨ys,h1,h2⟩=>⟨ys,LR.fresh hr hz hn (by simpa [fo] using g) h1,h2⟩
 | .iface _ x,_,g,⟨y,h1,h2⟩=>⟨y,VR.fresh hr hz hn (v:=x) (by simpa [fo] using g) h1,h2⟩
 | .fn _ a b,_,g,⟨ys,us,h1,h2,h3⟩=>by
  simp only [fo,Bool.or_eq_false_iff] at g
  exact ⟨ys,us,LR.fresh hr hz hn g.1 h1,LR.fresh hr hz hn g.2 h2,h3⟩
theorem LR.fresh (hr:e'.r=e.r) (hz:∀n x,e.n0≤n→e.z n=some x→e'.z n=some x) (hn:e'.n0≤e.n0):∀{v:List SV} {v':List Value},iu v=false→LR e v v'→LR e' v v'
 | [],_,_,h=>h
 |x::xs,_,g,⟨y,zs,h1,h2,h3⟩=>by
  simp only [iu,Bool.or_eq_false_iff] at g
  exact ⟨y,zs,VR.fresh hr hz hn g.1 h1,LR.fresh hr hz hn g.2 h2,h3⟩
theorem PR.fresh (hr:e'.r=e.r) (hz:∀n x,e.n0≤n→e.z n=some x→e'.z n=some x) (hn:e'.n0≤e.n0):∀{v:List SV} {v':List Value},iu v=false→PR e v v'→PR e' v v'
 | [],_,_,h=>h
 |x::xs,ys,g,h=>by
  simp only [iu,Bool.or_eq_false_iff] at g
  by_cases hx:aW x=true
  ·obtain ⟨y,zs,h1,h2,h3⟩:=(PR.cons hx).1 h
   exact (PR.cons hx).2 ⟨y,zs,VR.fresh hr hz hn g.1 h1,PR.fresh hr hz hn g.2 h2,h3⟩
  ·cases x<;>simp [aW] at hx
   obtain ⟨zs,h1,h2⟩:=h
   exact ⟨zs,PR.fresh hr hz hn g.2 h1,h2⟩
end
end
def shB (j:Nat):Blk→Blk
 | .b ps=>.b (gG (fun b=>b+j) ps)
 | .g _=>.gap
def iy:Blk→Bool
 | .b ps=>iu ps
 | .g _=>false
theorem lA {h new:List Blk} {j:Nat} (hf:kg h j new.length) (i:Nat):(bV h j new)[i]? =if j≤i∧i<j+new.length then new[i-j]? else h[i]? :=by
 unfold bV
 split
 ·rename_i hj
  rcases Nat.lt_or_ge i h.length with h1|h1
  ·rw [List.getElem?_append_left h1,if_neg (by omega)]
  ·rw [List.getElem?_append_right h1]
   by_cases h2:i<j+new.length
   ·rw [if_pos ⟨by omega,h2⟩,hj]
   ·rw [if_neg (by omega),List.getElem?_eq_none (by omega),List.getElem?_eq_none h1]
 ·rename_i hj
  have hg:=hf.resolve_left hj
  rw [fE]
  by_cases h2:j≤i∧i<j+new.length
  ·have:=(List.getElem?_eq_some_iff.1 (hg (i-j) (by omega))).1
   rw [if_pos ⟨h2.1,h2.2,by omega⟩,if_pos h2]
  ·rw [if_neg (by omega),if_neg h2]
theorem fq {h new:List Blk} {j:Nat}:h.length≤(bV h j new).length:=by
 unfold bV;split
 ·simp
 ·rw [ld];exact Nat.le_refl _
theorem wT {h new:List Blk} {j i:Nat} (hf:kg h j new.length) (hi:i<new.length):j+i<(bV h j new).length:=by
 have:=lA hf (j+i)
 rw [if_pos (by omega),Nat.add_sub_cancel_left,List.getElem?_eq_getElem hi] at this
 exact (List.getElem?_eq_some_iff.1 this).1
section
variable {P:Program}
theorem wU {f:FuncId} {us:List SV} {v:SV} {new:List Blk} (g:aj P f us [] v new) {h:List Blk} {vs:List SV} {t:Bool} (hfz:jV h vs=some (us,true,t)) (hst:t=true→fo v=false∧∀b∈new,iy b=false)
  {B:dA} {e:Env} {w:World} {args:List Value} {j:Nat} (hl:LR e vs args) (R:Rel B e h w) (hj:kg h j new.length):
  Calls P f ⟨args⟩ w fun en w'=>∃v',en= .returned v'∧∃e2,VR e2 (lM (fun b=>b+j) v) v'∧Rel B e2 (bV h j (new.map (shB j))) w'∧b6 e e2 none:=by
 let zz:=if t=true then jZ w else e.z
 have iB:∀n x,e.z n=some x→zz n=some x:=fun n x hx=>by
  show (if t=true then jZ w else e.z) n=some x
  by_cases ht:t=true
  ·rw [if_pos ht];obtain ⟨c,ty,fr⟩:=x;exact qh (R.gk n c ty fr hx)
  ·rw [if_neg ht];exact hx
 have hargs:=uY (zz:=zz) R iB (T:=t) (fun ht i p c ty _ _ hc=>by show (if t=true then jZ w else e.z) p.n=_;rw [if_pos ht];exact qh hc) w.heap.size hfz id hl
 let B0:dA:=⟨w,iI zz w.heap.size,0,[]⟩
 have R0:Rel B0 (iI zz w.heap.size) [] w:={
  os:=rfl,tape:=rfl,output:=rfl,size:=Nat.le_refl _,inj:=(fun i j p q hi=>by cases hi),dom:=(fun i p hi=>by cases hi),sep:=(fun i p hi=>by cases hi)
  gk:=fun n c ty fr hx=>by
   have hx':(if t=true then jZ w else e.z) n=some (c,ty,fr):=hx
   by_cases ht:t=true
   ·rw [if_pos ht] at hx';exact ri hx'
   ·rw [if_neg ht] at hx';exact R.gk n c ty fr hx'
  aY:=fun _ _ hx=>.inl hx,news:=fun _ _ hi=>.inl hi,bg:=fun _ _ hi=>hi,bM:=fun _ _ hx=>hx,n0:=rfl,cP:=Nat.le_refl _
  fA:=fun i ps hi=>by simp at hi
  gap:=fun i g hi=>by simp at hi
  yi:=(fun i j n hi=>by cases hi),yb:=(fun i n hi=>by cases hi)
  old:=fun _ _ _ _=>rfl,win:=(fun i p hi=>by cases hi),kr:=(fun i p hi=>by cases hi),gL:=Nat.le_refl _,hY:=(fun r hr=>by cases hr),jq:=List.nodup_nil}
 refine (g B0 _ w args (Nat.le_refl _) hargs R0).mono ?_
 rintro en w' ⟨v',rfl,e',_,hv,S⟩
 have AE:∀i p,e'.r i=some p→w.heap.size≤p.n:=fun i p hi=>(S.news i p hi).resolve_left (fun x=>by cases x)
 have rj:∀n,n<w.heap.size→w'.heap[n]? =w.heap[n]? :=fun n hn=>S.old n hn (fun i p hi=>by cases hi) (by simp [B0])
 have hn0:e'.n0=w.heap.size:=S.n0
 have hen:e.n0≤w.heap.size:=by have:=R.n0;have:=R.cP;have:=R.size;omega
 let z2:Nat→Option (Array Value×TypeId×(Nat×Nat)):=fun n=>if n<w.heap.size then e.z n else e'.z n
 let e2:Env:=⟨fun i=>if j≤i∧i<j+new.length then e'.r (i-j) else e.r i,z2,e.n0,e.m,e.y⟩
 have abk:∀i p,i<new.length→e'.r i=some p→e2.r (i+j)=some p:=fun i p hi hp=>by
  show (if j≤i+j∧i+j<j+new.length then e'.r (i+j-j) else e.r (i+j))=some p
  rw [if_pos (by omega),Nat.add_sub_cancel];exact hp
 have abl:∀i p,e.r i=some p→e2.r i=some p∧¬(j≤i∧i<j+new.length):=fun i p hp=>by
  have hni:¬(j≤i∧i<j+new.length):=fun hi=>by
   rcases hj with rfl|hg
   ·have:=R.dom i p hp;omega
   ·have:=(R.gap i _ (by have:=hg (i-j) (by omega);rwa [show j+(i-j)=i by omega] at this)).1
    rw [hp] at this;cases this
  exact ⟨by show (if _ then _ else _)=some p;rw [if_neg hni];exact hp,hni⟩
 have Ln:∀i p,e2.r i=some p→(¬(j≤i∧i<j+new.length)∧e.r i=some p)∨((j≤i∧i<j+new.length)∧e'.r (i-j)=some p):=fun i p hp=>by
  have Ek:(if j≤i∧i<j+new.length then e'.r (i-j) else e.r i)=some p:=hp
  split at Ek
  ·rename_i hc;exact .inr ⟨hc,Ek⟩
  ·rename_i hc;exact .inl ⟨hc,Ek⟩
 have abm:∀n x,n<w.heap.size→e'.z n=some x→t=false→e.z n=some x:=fun n x hn hx ht=>by
  rcases S.aY n x hx with q|q
  ·have q':(if t=true then jZ w else e.z) n=some x:=q
   rw [ht] at q'
   rw [if_neg (by simp)] at q';exact q'
  ·exact absurd q (by show ¬w.heap.size≤n;omega)
 -- the AF adP
 let e1:Env:={e' with z:=z2}
 have Lo:∀{u:SV} {u':Value},(t=true→fo u=false)→VR e' u u'→VR e1 u u':=fun {u u'} hs hu=>by
  cases ht:t with
  |true=>exact VR.fresh (e:=e') (e':=e1) rfl (fun n x hn hx=>by show (if n<w.heap.size then e.z n else e'.z n)=some x;rw [if_neg (by omega)];exact hx) (Nat.le_refl _) (hs ht) hu
  |false=>exact VR.mono' (e:=e') (e':=e1) (fun n x hx=>by
    show (if n<w.heap.size then e.z n else e'.z n)=some x
    by_cases hn:n<w.heap.size
    ·rw [if_pos hn];exact abm n x hn hx ht
    ·rw [if_neg hn];exact hx) (Nat.le_refl _) u u' (fun _ _ _ h=>h) hu
 have Lq:∀{u:List SV} {u':List Value},(t=true→iu u=false)→PR e' u u'→PR e1 u u':=fun {u u'} hs hu=>by
  cases ht:t with
  |true=>exact PR.fresh (e:=e') (e':=e1) rfl (fun n x hn hx=>by show (if n<w.heap.size then e.z n else e'.z n)=some x;rw [if_neg (by omega)];exact hx) (Nat.le_refl _) (hs ht) hu
  |false=>exact PR.mono' (e:=e') (e':=e1) (fun n x hx=>by
    show (if n<w.heap.size then e.z n else e'.z n)=some x
    by_cases hn:n<w.heap.size
    ·rw [if_pos hn];exact abm n x hn hx ht
    ·rw [if_neg hn];exact hx) (Nat.le_refl _) u u' (fun _ _ _ h=>h) hu
 have AG:e2.n0≤e1.n0:=by show e.n0≤e'.n0;omega
 have S5:∀i p,e'.r i=some p→i<new.length:=S.dom
 have hle:Env.Le e e2:=⟨fun i p hp=>(abl i p hp).1,fun n x hx=>by
  show (if n<w.heap.size then e.z n else e'.z n)=some x
  rw [if_pos (R.Nt hx)];exact hx,Nat.le_refl _⟩
 refine ⟨v',rfl,e2,VR.lM (e:=e1) (e':=e2) (fun _ _ h=>h) AG v v' (fun i p _ hp=>abk i p (S5 i p hp) hp) (Lo (fun ht=>(hst ht).1) hv),?_,b6.of_le hle rfl _⟩
 have hfm:kg h j (new.map (shB j)).length:=by simpa using hj
 exact {
  os:=S.os.trans R.os,tape:=S.tape.trans R.tape,output:=S.output.trans R.output,size:=Nat.le_trans R.size S.size
  inj:=fun i i' p q hi hi' hpq=>by
   rcases Ln i p hi with ⟨c1,g1⟩|⟨c1,g1⟩<;>rcases Ln i' q hi' with ⟨c2,g2⟩|⟨c2,g2⟩
   ·exact R.inj i i' p q g1 g2 hpq
   ·have:=R.lt g1;have:=AE _ _ g2;omega
   ·have:=R.lt g2;have:=AE _ _ g1;omega
   ·have:=S.inj _ _ p q g1 g2 hpq;omega
  dom:=fun i p hi=>by
   rcases Ln i p hi with ⟨_,g1⟩|⟨c1,g1⟩
   ·exact Nat.lt_of_lt_of_le (R.dom i p g1) fq
   ·have:=wT hfm (i:=i-j) (by simp;omega)
    rwa [show j+(i-j)=i by omega] at this
  sep:=fun i p hi=>by
   show (if p.n<w.heap.size then e.z p.n else e'.z p.n)=none
   rcases Ln i p hi with ⟨_,g1⟩|⟨_,g1⟩
   ·rw [if_pos (R.lt g1)];exact R.sep i p g1
   ·rw [if_neg (by have:=AE _ _ g1;omega)];exact S.sep _ p g1
  gk:=fun n c ty fr hx=>by
   have hx':(if n<w.heap.size then e.z n else e'.z n)=some (c,ty,fr):=hx
   split at hx'
   ·rename_i hn;rw [rj n hn];exact R.gk n c ty fr hx'
   ·exact S.gk n c ty fr hx'
  aY:=fun n x hx=>by
   have hx':(if n<w.heap.size then e.z n else e'.z n)=some x:=hx
   split at hx'
   ·exact R.aY n x hx'
   ·exact .inr (by have:=R.size;omega)
  news:=fun i p hi=>by
   rcases Ln i p hi with ⟨_,g1⟩|⟨_,g1⟩
   ·exact R.news i p g1
   ·exact .inr (by have:=R.size;have:=AE _ _ g1;omega)
  bg:=fun i p hi=>(abl i p (R.bg i p hi)).1
  bM:=fun n x hx=>hle.z n x (R.bM n x hx)
  n0:=R.n0,cP:=R.cP
  fA:=fun i ps hi=>by
   rw [lA hfm,List.length_map] at hi
   split at hi
   ·rename_i hc
    rw [List.getElem?_map] at hi
    cases hq:new[i-j]? with
    |none=>rw [hq] at hi;cases hi
    |some b=>
     rw [hq] at hi
     simp only [Option.map_some,Option.some.injEq] at hi
     cases b with
     |g _=>cases hi
     |b qs=>
      simp only [shB,Blk.b.injEq] at hi
      subst hi
      have yl:e2.r i=e'.r (i-j):=by show (if _ then _ else _)=_;rw [if_pos hc]
      rcases S.fA (i-j) qs hq with ⟨g1,g2⟩|⟨p,o,g1,g2,c,ty,rfl,g3,g4,g5⟩
      ·exact .inl ⟨by rw [cG];exact g1,by rw [yl];exact g2⟩
      ·refine .inr ⟨p,_,by rw [yl];exact g1,g2,c,ty,rfl,g3,by rw [cG];exact g4,?_⟩
       rw [cG]
       refine PR.lM (e:=e1) (e':=e2) (fun _ _ h=>h) AG qs _ (fun b p _ hp=>abk b p (S5 b p hp) hp) (Lq (fun ht=>?_) g5)
       have:=(hst ht).2 _ (List.mem_of_getElem? hq)
       exact this
   ·rename_i hc
    have yl:e2.r i=e.r i:=by show (if _ then _ else _)=_;rw [if_neg hc]
    rcases R.fA i ps hi with ⟨g1,g2⟩|⟨p,o,g1,g2,g3⟩
    ·exact .inl ⟨g1,by rw [yl];exact g2⟩
    ·exact .inr ⟨p,o,by rw [yl];exact g1,by rw [rj p.n (R.lt g1)];exact g2,g3.mono hle⟩
  gap:=fun i g hi=>by
   rw [lA hfm,List.length_map] at hi
   split at hi
   ·rename_i hc
    rw [List.getElem?_map] at hi
    cases hq:new[i-j]? with
    |none=>rw [hq] at hi;cases hi
    |some b=>
     cases b with
     |g g'=>
      rw [hq] at hi
      simp only [Option.map_some,shB,Option.some.injEq,Blk.g.injEq] at hi
      subst hi
      refine ⟨?_,trivial⟩
      show (if j≤i∧i<j+new.length then e'.r (i-j) else e.r i)=none
      rw [if_pos hc]
      exact (S.gap _ _ hq).1
     |b qs=>rw [hq] at hi;cases hi
   ·rename_i hc
    refine ⟨?_,(R.gap i g hi).2.le (fun n o hn=>by rw [rj n (Array.getElem?_eq_some_iff.1 hn).1];exact hn) rfl hle⟩
    show (if j≤i∧i<j+new.length then e'.r (i-j) else e.r i)=none
    rw [if_neg hc];exact (R.gap i g hi).1
  yi:=R.yi,yb:=R.yb
  old:=fun n hn hno pz=>by rw [rj n (by have:=R.size;omega)];exact R.old n hn hno pz
  win:=fun i p hi=>by
   obtain ⟨o,o',h1,h2,h3⟩:=R.win i p hi
   exact ⟨o,o',h1,by rw [rj p.n (R.lt (R.bg i p hi))];exact h2,h3⟩
  kr:=R.kr
  gL:=Nat.le_trans R.gL fq
  hY:=fun r hr=>by
   have:=R.hY r hr
   rw [rj r (Array.getElem?_eq_some_iff.1 this.1).1];exact this
  jq:=R.jq}
mutual
theorem wV {h:List Blk}:∀{v u:SV} {p t:Bool},bI [] v=some (u,p,t)→bI h v=some (u,p,t)∧t=false
 | .bool _,u,p,t,g=>by simp only [bI,Option.some.injEq,Prod.mk.injEq] at g ⊢;exact ⟨g,g.2.2.symm⟩
 | .int _ _,u,p,t,g=>by simp only [bI,Option.some.injEq,Prod.mk.injEq] at g ⊢;exact ⟨g,g.2.2.symm⟩
 | .str _,u,p,t,g=>by simp only [bI,Option.some.injEq,Prod.mk.injEq] at g ⊢;exact ⟨g,g.2.2.symm⟩
 | .nl _,u,p,t,g=>by simp only [bI,Option.some.injEq,Prod.mk.injEq] at g ⊢;exact ⟨g,g.2.2.symm⟩
 | .ints _ _ _,u,p,t,g=>by simp only [bI,Option.some.injEq,Prod.mk.injEq] at g ⊢;exact ⟨g,g.2.2.symm⟩
 | .ro _ _ _,u,p,t,g=>by simp only [bI,Option.some.injEq,Prod.mk.injEq] at g ⊢;exact ⟨g,g.2.2.symm⟩
 | .hU _ _,u,p,t,g=>by simp only [bI,Option.some.injEq,Prod.mk.injEq] at g ⊢;exact ⟨g,g.2.2.symm⟩
 | .sl b o i z len cap ex wh,u,p,t,g=>by
  exfalso
  by_cases hz:z=1
  ·subst hz;simp [bI,dz] at g
  ·unfold bI at g
   split at g<;>first|(rename_i h1;cases h1;done)|skip
   all_goals first|(rename_i h1;cases h1;exact hz rfl)|(cases g)
 | .agg ps,u,p,t,g=>by
  simp only [bI] at g ⊢
  split at g
  ·rename_i l q t' hl
   obtain ⟨h1,h2⟩:=rm (h:=h) hl
   rw [h1]
   simp only [Option.some.injEq,Prod.mk.injEq] at g ⊢
   exact ⟨g,by rw [←g.2.2];exact h2⟩
  ·cases g
 | .iface ty x,u,p,t,g=>by
  simp only [bI] at g ⊢
  split at g
  ·rename_i y q t' hl
   obtain ⟨h1,h2⟩:=wV (h:=h) hl
   rw [h1]
   simp only [Option.some.injEq,Prod.mk.injEq] at g ⊢
   exact ⟨g,by rw [←g.2.2];exact h2⟩
  ·cases g
 | .ptr _ _ _,u,p,t,g=>by simp [bI] at g
 | .qD _ _ _ _,u,p,t,g=>by simp only [bI,Option.some.injEq,Prod.mk.injEq] at g ⊢;exact ⟨g,g.2.2.symm⟩
 | .pV _ _ _,u,p,t,g=>by simp [bI] at g
 | .s6 _ _ _,u,p,t,g=>by simp [bI] at g
 | .nR _ _ _ _ _ _ _,u,p,t,g=>by simp [bI] at g
 | .bk _,u,p,t,g=>by simp [bI] at g
 | .fn _ _ _,u,p,t,g=>by simp [bI] at g
theorem rm {h:List Blk}:∀{v u:List SV} {p t:Bool},jV [] v=some (u,p,t)→jV h v=some (u,p,t)∧t=false
 | [],u,p,t,g=>by simp only [jV,Option.some.injEq,Prod.mk.injEq] at g ⊢;exact ⟨g,g.2.2.symm⟩
 |x::xs,u,p,t,g=>by
  simp only [jV] at g ⊢
  split at g
  ·rename_i y p1 a l q b hx hl
   obtain ⟨h1,h2⟩:=wV (h:=h) hx
   obtain ⟨h3,h4⟩:=rm (h:=h) hl
   rw [h1,h3]
   simp only [Option.some.injEq,Prod.mk.injEq] at g ⊢
   exact ⟨g,by rw [←g.2.2,h2,h4];rfl⟩
  ·cases g
end
theorem Lr {h:List Blk} {v u:List SV} {p t:Bool} (g:jV [] v=some (u,p,t)):jV h v=some (u,p,t)∧t=false:=rm g
structure Entry (P:Program) where
 f:FuncId
 g:List SV→List Blk→Nat→Option (SV×List Blk×List Blk×Bool)
 pf:Nat
 nb:Nat
 ok:∀vs h j v h' new,g vs h j=some (v,h',new,true)→∀(B:dA) (e:Env) (w:World) (args:List Value),LR e vs args→Rel B e h w→kg h j new.length→
  mQ P (.func f) ⟨args⟩ w fun v' w'=>∃e',VR e' v v'∧Rel B e' (bV h' j new) w'∧b6 e e' none
 pu:(pf=0→∀vs h j v h' new p,g vs h j=some (v,h',new,p)→h'=h∧∀h2,g vs h2 j=some (v,h2,new,p))∧(pf=1→∀vs h j v h' new p,g vs h j=some (v,h',new,p)→h'=h∧∀h2,Gr h h2→g vs h2 j=some (v,h2,new,p))
def Entry.val (f:FuncId) (fn:Func) (hf:P.funcs[f]? =some fn) (hn:(fn.name != "runtime.NumGoroutine")=true) (hb:fn.body.isSome=true) (rd:Bool) (nb:Nat) (F:List SV→Option (SV×List Blk×Bool))
  (ok:∀vs v new,F vs=some (v,new,true)→aj P f vs [] v new):Entry P where
 f:=f
 g:=fun vs h j=>match jV (match rd with|true=>h|false=>[]) vs with
  |some (us,p,t)=>match F us with
   |some (v,new,q)=>match t&&(fo v||new.any iy) with
    |true=>none
    |false=>some (lM (fun b=>b+j) v,h,new.map (shB j),aa p q)
   |none=>none
  |none=>none
 pf:=match rd with|true=>1|false=>0
 nb:=nb
 ok:=by
  intro vs h j v h' new g B e w args hl R hj
  split at g
  ·rename_i us p t hfz
   split at g
   ·rename_i u nw q hF
    split at g
    ·cases g
    ·rename_i hs
     simp only [Option.some.injEq,Prod.mk.injEq,au] at g
     obtain ⟨rfl,rfl,rfl,rfl,rfl⟩:=g
     have hst:t=true→fo u=false∧∀b∈nw,iy b=false:=fun ht=>by
      rw [ht,Bool.true_and,Bool.or_eq_false_iff] at hs
      refine ⟨hs.1,fun b hb=>?_⟩
      cases hq:iy b with
      |false=>rfl
      |true=>
       have:nw.any iy=true:=List.any_eq_true.2 ⟨b,hb,hq⟩
       rw [this] at hs;cases hs.2
     have Nv:fn.body≠none:=fun q=>by rw [q] at hb;cases hb
     refine .inr ⟨eK hf (by simpa using hn) Nv _ w,?_⟩
     cases rd with
     |true=>exact wU (ok us u nw hF) hfz hst hl R (by simpa using hj)
     |false=>
      -- no s8 slice was read: the blocks do not agc
      have Wl:jV h vs=some (us,true,t)∧t=false:=Lr hfz
      exact wU (ok us u nw hF) Wl.1 hst hl R (by simpa using hj)
   ·cases g
  ·cases g
 pu:=by
  constructor
  ·intro h0 vs h j v h' new p g
   cases rd with
   |true=>cases h0
   |false=>
    simp only at g ⊢
    split at g
    ·rename_i us p1 t hfz
     split at g
     ·rename_i u nw q hF
      split at g
      ·cases g
      ·rename_i hs
       simp only [Option.some.injEq,Prod.mk.injEq] at g
       obtain ⟨rfl,rfl,rfl,rfl⟩:=g
       exact ⟨rfl,fun h2=>rfl⟩
     ·cases g
    ·cases g
  ·intro _ vs h j v h' new p g
   split at g
   ·rename_i us p1 t hfz
    split at g
    ·rename_i u nw q hF
     split at g
     ·cases g
     ·rename_i hs
      simp only [Option.some.injEq,Prod.mk.injEq] at g
      obtain ⟨rfl,rfl,rfl,rfl⟩:=g
      refine ⟨rfl,fun h2 hle=>?_⟩
      cases rd with
      |false=>rw [hfz];simp only;rw [hF];simp only;rw [hs]
      |true=>
       have Wl:=ym hle hfz
       simp only
       rw [Wl];simp only;rw [hF];simp only;rw [hs]
    ·cases g
   ·cases g
def Entry.ext (f:FuncId) (F:List SV→Option (SV×Bool)) (ok:∀vs v,F vs=some (v,true)→∀(e:Env) (w:World) (args:List Value),LR e vs args→∃v',(callFunc f ⟨args⟩).run P w= .ok (.value v') w∧VR e v v'):Entry P where
 f:=f
 g:=fun vs h _=>match F vs with
  |some (v,p)=>some (v,h,[],p)
  |none=>none
 pf:=0
 nb:=0
 ok:=by
  intro vs h j v h' new g B e w args hl R hj
  split at g
  ·rename_i u p hF
   simp only [Option.some.injEq,Prod.mk.injEq] at g
   obtain ⟨rfl,rfl,rfl,rfl⟩:=g
   obtain ⟨v',h1,h2⟩:=ok vs u hF e w args hl
   exact .inl ⟨v',w,h1,e,h2,by rw [bq];exact R,b6.refl _ _⟩
  ·cases g
 pu:=by
  refine ⟨fun _ vs h j v h' new p g=>?_,fun h=>by cases h⟩
  split at g
  ·simp only [Option.some.injEq,Prod.mk.injEq] at g
   rename_i hF
   obtain ⟨rfl,rfl,rfl,rfl⟩:=g
   exact ⟨rfl,fun h2=>rfl⟩
  ·cases g
def mk (es:List (Entry P)) (inl:List (FuncId×Func)) (sym:Tmp→Option Bool:=fun _=>none) (iM:Tmp→Bool:=fun _=>false):bK where
 sym:=sym
 iM:=iM
 g:=fun f vs h j=>match es.find? (fun e=>e.f==f) with
  |some e=>e.g vs h j
  |none=>none
 inl:=fun f=>(inl.find? fun e=>e.1==f).map (·.2)
 pf:=fun f=>match inl.find? (fun e=>e.1==f) with
  |some _=>2
  |none=>match es.find? (fun e=>e.f==f) with
   |some e=>e.pf
   |none=>2
 nb:=fun f=>match es.find? (fun e=>e.f==f) with
  |some e=>e.nb
  |none=>0
def aF (P:Program) (inl:List (FuncId×Func)):Prop:=∀x∈inl,P.funcs[x.1]? =some x.2∧(x.2.name != "runtime.NumGoroutine")=true
theorem aF.nil:aF P []:=fun _ h=>by cases h
theorem aF.cons {f:FuncId} {fn:Func} {l:List (FuncId×Func)} (hf:P.funcs[f]? =some fn) (hn:(fn.name != "runtime.NumGoroutine")=true) (h:aF P l):aF P ((f,fn)::l):=fun x hx=>by
 rcases List.mem_cons.1 hx with rfl|hx
 ·exact ⟨hf,hn⟩
 ·exact h x hx
theorem ai (es:List (Entry P)) {inl:List (FuncId×Func)} (hi:aF P inl) (sym:Tmp→Option Bool) (iM:Tmp→Bool):ag P (mk es inl sym iM) where
 Cy:=fun l vs h v h' g=>by cases g
 calls:=by
  intro f vs h j v h' new g
  simp only [mk] at g
  split at g
  ·rename_i x hx
   have:=List.find?_some hx
   simp only [beq_iff_eq] at this
   subst this
   exact x.ok vs h j v h' new g
  ·cases g
 pure:=by
  have key:∀(f:FuncId) (m:Nat),(mk es inl sym iM).pf f=m→m≠2→∃x:Entry P,es.find? (fun e=>e.f==f)=some x∧x.pf=m:=fun f m h hm=>by
   simp only [mk] at h
   split at h
   ·omega
   ·split at h
    ·rename_i x hx;exact ⟨x,hx,h⟩
    ·omega
  refine ⟨fun f hf vs h j v h' new p g=>?_,fun f hf vs h j v h' new p g=>?_⟩
  ·obtain ⟨x,hx,hp⟩:=key f 0 hf (by omega)
   simp only [fnG,mk,hx] at g ⊢
   exact x.pu.1 hp vs h j v h' new p g
  ·obtain ⟨x,hx,hp⟩:=key f 1 hf (by omega)
   simp only [fnG,mk,hx] at g ⊢
   exact x.pu.2 hp vs h j v h' new p g
 inl:=by
  intro f fn g
  simp only [mk] at g ⊢
  obtain ⟨x,hx,rfl⟩:=Option.map_eq_some_iff.1 g
  have h1:=List.find?_some hx
  simp only [beq_iff_eq] at h1
  subst h1
  obtain ⟨h2,h3⟩:=hi x (List.mem_of_find?_eq_some hx)
  refine ⟨h2,by simpa using h3,?_⟩
  rw [hx];simp
end
end Go.Sy
namespace Go.Sy
open Go
def slotsOf (n:Nat) (l:List (Nat×SV)):List (Option SV):=(List.range n).map fun i=>(l.find? fun p=>p.1==i).map (·.2)
def Ls (live:List Nat) (t:List (Option SV)):List (Option SV):=t.zipIdx.map fun (v,i)=>if live.contains i then v else none
def St.keep (live:List Nat) (s:St):St:=⟨Ls live s.t,s.h,s.ob⟩
def aU (k:Nat) (s s':St):Prop:=∀(B:dA) (e:Env) (w:World) (t':List Value),B.k≤k→TR e s.t t'→Rel B e s.h w→∃e',e'.m=e.m∧TR e' s'.t t'∧Rel B e' s'.h w
theorem aU.refl (k:Nat) (s:St):aU k s s:=fun _ e _ _ _ hl R=>⟨e,rfl,hl,R⟩
theorem aU.trans {k:Nat} {a b c:St} (h:aU k a b) (g:aU k b c):aU k a c:=fun B e w t' hB hl R=>by
 obtain ⟨e1,h1,h2,h3⟩:=h B e w t' hB hl R
 obtain ⟨e2,h4,h5,h6⟩:=g B e1 w t' hB h2 h3
 exact ⟨e2,h4.trans h1,h5,h6⟩
theorem aU.same {k:Nat} {s s':St} (h1:s.t=s'.t) (h2:s.h=s'.h):aU k s s':=fun _ e _ _ _ hl R=>⟨e,rfl,by rw [←h1];exact hl,by rw [←h2];exact R⟩
def VE (v v':SV):Prop:=∀(e:Env) (x:Value),VR e v x→VR e v' x
def PE (ps qs:List SV):Prop:=aA qs=aA ps∧∀(e:Env) (xs:List Value),PR e ps xs→PR e qs xs
theorem aU.mono {k:Nat} {s s':St} (hl:s.t.length=s'.t.length) (ht:∀(i:Nat) (v':SV),s'.t[i]? =some (some v')→∃v,s.t[i]? =some (some v)∧VE v v')
  (hn:s'.h.length=s.h.length) (hh:∀(i:Nat) (qs:List SV),s'.h[i]? =some (.b qs)→∃ps,s.h[i]? =some (.b ps)∧PE ps qs) (hg:∀(i:Nat) (g:Option Lp),s'.h[i]? =some (.g g)→s.h[i]? =some (.g g)):aU k s s':=
 fun B e w t' hB hlr R=>⟨e,rfl,⟨hl.symm.trans hlr.1,fun i v' x h1 h2=>by
  obtain ⟨v,h3,h4⟩:=ht i v' h1
  exact h4 e x (hlr.2 i v x h3 h2)⟩,{R with
   dom:=fun i p hi=>by rw [hn];exact R.dom i p hi
   fA:=fun i qs hi=>by
    obtain ⟨ps,h1,h2,h3⟩:=hh i qs hi
    rcases R.fA i ps h1 with ⟨g1,g2⟩|⟨p,o,g1,g2,c,t,rfl,g3,g4,g5⟩
    ·exact .inl ⟨by rw [h2];exact g1,g2⟩
    ·exact .inr ⟨p,_,g1,g2,c,t,rfl,g3,by rw [h2];exact g4,by rw [h2];exact h3 e _ g5⟩
   gap:=fun i g hi=>R.gap i g (hg i g hi)
   gL:=by rw [hn];exact R.gL}⟩
theorem aU.slots {k:Nat} {s s':St} (hl:s.t.length=s'.t.length) (ht:∀(i:Nat) (v':SV),s'.t[i]? =some (some v')→s.t[i]? =some (some v')) (hh:s.h=s'.h):aU k s s':=
 fun _ e _ _ _ hlr R=>⟨e,rfl,⟨hl.symm.trans hlr.1,fun i v' x h1 h2=>hlr.2 i v' x (ht i v' h1) h2⟩,by rw [←hh];exact R⟩
theorem aU.keep (k:Nat) (live:List Nat) (s:St):aU k s (s.keep live):=aU.slots (by simp [St.keep,Ls]) (fun i v e=>by
  simp only [St.keep,Ls,List.getElem?_map,List.getElem?_zipIdx] at e
  cases h:s.t[i]? with
  |none=>simp [h] at e
  |some x=>
   simp only [h,Option.map_some,Option.some.injEq] at e
   split at e
   ·rw [e]
   ·cases e) rfl
def Lt (n:Nat):Blk→Bool
 | .b ps=>dP (List.range n) ps
 | .g (some L)=>L.t.all fun o=>match o with|some v=>cY (List.range n) v|none=>true
 | .g none=>true
def St.fN (n:Nat) (s:St):Option St:=
 if s.t.all (fun o=>match o with|some v=>cY (List.range n) v|none=>true)&&(s.h.take n).all (Lt n) then some ⟨s.t,s.h.take n,s.ob⟩ else none
theorem aU.fN {k n:Nat} (hk:k≤n) {s s':St} (h:s.fN n=some s'):aU k s s':=by
 unfold St.fN at h
 split at h
 ·rename_i hc
  cases h
  simp only [Bool.and_eq_true,List.all_eq_true] at hc
  obtain ⟨h1,h2⟩:=hc
  intro B e w t' hB hl R
  let e':Env:={e with r:=fun i=>if i<n then e.r i else none}
  have hr:∀i p,e'.r i=some p→i<n∧e.r i=some p:=fun i p hi=>by
   have hi':(if i<n then e.r i else none)=some p:=hi
   split at hi'
   ·rename_i hc;exact ⟨hc,hi'⟩
   ·cases hi'
  have hr':∀i,i<n→e'.r i=e.r i:=fun i hi=>if_pos hi
  have up:∀j p,j∈List.range n→e.r j=some p→e'.r j=some p:=fun j p hj hp=>by rw [hr' j (List.mem_range.1 hj)];exact hp
  have hkn:∀i p,B.e.r i=some p→i<n:=fun i p hi=>by have:=R.kr i p hi;omega
  refine ⟨e',rfl,⟨hl.1,fun i v v' g1 g2=>?_⟩,?_⟩
  ·have:=h1 _ (List.mem_of_getElem? g1)
   exact VR.mono' (e:=e) (e':=e') (fun _ _ h=>h) (Nat.le_refl _) v v' (fun j p hu hp=>up j p (gX this hu) hp) (hl.2 i v v' g1 g2)
  ·have tk:∀i x,(s.h.take n)[i]? =some x→i<n∧s.h[i]? =some x:=fun i x hi=>by
    rw [List.getElem?_take] at hi
    split at hi
    ·rename_i hc;exact ⟨hc,hi⟩
    ·cases hi
   exact {R with
    inj:=fun i j p q hi hj=>R.inj i j p q (hr i p hi).2 (hr j q hj).2
    dom:=fun i p hi=>by
     obtain ⟨g1,g2⟩:=hr i p hi
     have:=R.dom i p g2
     rw [List.length_take];omega
    sep:=fun i p hi=>R.sep i p (hr i p hi).2
    news:=fun i p hi=>R.news i p (hr i p hi).2
    bg:=fun i p hi=>by rw [hr' i (hkn i p hi)];exact R.bg i p hi
    fA:=fun i ps hi=>by
     obtain ⟨g1,g2⟩:=tk i _ hi
     have hu:=h2 _ (List.mem_of_getElem? hi)
     rcases R.fA i ps g2 with ⟨q1,q2⟩|⟨p,o,q1,q2,c,t,rfl,q3,q4,q5⟩
     ·exact .inl ⟨q1,by rw [hr' i g1];exact q2⟩
     ·exact .inr ⟨p,_,by rw [hr' i g1];exact q1,q2,c,t,rfl,q3,q4,PR.mono' (e:=e) (e':=e') (fun _ _ h=>h) (Nat.le_refl _) ps _ (fun j p pE hp=>up j p (de hu pE) hp) q5⟩
    gap:=fun i g hi=>by
     obtain ⟨g1,g2⟩:=tk i _ hi
     have hu:=h2 _ (List.mem_of_getElem? hi)
     refine ⟨by rw [hr' i g1];exact (R.gap i g g2).1,(R.gap i g g2).2.keep (fun _ _ h=>h) rfl fun L hL v v' hv PZ=>?_⟩
     subst hL
     have:=List.all_eq_true.1 hu (some v) hv
     exact VR.mono' (e:=e) (e':=e') (fun _ _ h=>h) (Nat.le_refl _) v v' (fun j p pE hp=>up j p (gX this pE) hp) PZ
    gL:=by have:=R.gL;rw [List.length_take];omega}
 ·cases h
def St.cut (live:List Nat) (n:Nat) (s:St):Option St:=(s.keep live).fN n
theorem aU.cut {k n:Nat} {live:List Nat} (hk:k≤n) {s s':St} (h:s.cut live n=some s'):aU k s s':=(aU.keep k live s).trans (aU.fN hk h)
section
variable {P:Program} {ro:Option Nat} {k:Nat}
theorem Tr.pre {c:Code} {s s1 s':St} {x:Exit} (h:Tr P ro k c s1 x s') (g:aU k s s1):Tr P ro k c s x s':=
 fun B e w t' d Q nn hB hl R hQ=>by
  obtain ⟨e1,h1,h2,h3⟩:=g B e w t' hB hl R
  rw [←h1]
  exact h B e1 w t' d Q nn hB h2 h3 hQ
theorem Tr.post {c:Code} {s s1 s':St} {x:Exit} (h:Tr P ro k c s x s1) (g:aU k s1 s'):Tr P ro k c s x s':=
 fun B e w t' d Q nn hB hl R hQ=>h B e w t' d Q nn hB hl R fun e2 w2 t2 lT R2=>by
  obtain ⟨e1,h1,h2,h3⟩:=g B e2 w2 t2 hB lT R2
  rw [←h1]
  exact hQ e1 w2 t2 h2 h3
theorem dy.pre {c:Code} {s s1 s':St} {x:Exit} (h:dy P ro k c s1 x s') (g:aU k s s1):dy P ro k c s x s':=by
 obtain ⟨m,hm⟩:=h
 refine ⟨m,fun B e w t' d Q nn hB hl R hQ=>?_⟩
 obtain ⟨e1,h1,h2,h3⟩:=g B e w t' hB hl R
 rw [←h1]
 exact hm B e1 w t' d Q nn hB h2 h3 hQ
theorem Tr.cut {Γ:bK} (hΓ:ag P Γ) (n:Nat) (live:List Nat) (m:Nat) (hm:k≤m) {c:Code} {s s':St} {x:Exit} (e:(Sy.exec P Γ n k c s).bind (fun r=>(r.2.cut live m).map fun q=>(r.1,q))=some (x,s')) (fu:s'.ob=true):Tr P ro k c s x s':=by
 obtain ⟨⟨y,s1⟩,h1,e⟩:=Option.bind_eq_some_iff.1 e
 obtain ⟨s2,h2,q⟩:=Option.map_eq_some_iff.1 e
 cases q
 refine (Tr.exec hΓ h1 ?_).post (aU.cut hm h2)
 unfold St.cut St.fN at h2
 split at h2
 ·cases h2;exact fu
 ·cases h2
theorem Tr.keep {Γ:bK} (hΓ:ag P Γ) (n:Nat) (live:List Nat) {c:Code} {s s':St} {x:Exit} (e:(Sy.exec P Γ n k c s).map (fun r=>(r.1,r.2.keep live))=some (x,s')) (fu:s'.ob=true):Tr P ro k c s x s':=by
 obtain ⟨⟨y,s1⟩,h1,q⟩:=Option.map_eq_some_iff.1 e
 simp only [Prod.mk.injEq] at q
 obtain ⟨rfl,rfl⟩:=q
 exact (Tr.exec hΓ h1 fu).post (aU.keep k live s1)
def aH (fn:Func):Code:=fn.body.getD .skip
def atoms:Code→List Code
 | .seq a b=>atoms a++atoms b
 |c=>[c]
def ak (n:Nat) (c:Code):Code:=(atoms c).getD n .skip
def inner:Code→Code
 | .block _ b=>b
 | .loop b=>b
 | .scope b=>b
 |c=>c
def kQ (id:Nat):Code→Bool
 | .block j (.loop _)=>j==id
 |_=>false
def aG (P:Program) (ro:Option Nat) (k:Nat):List Code→St→Exit→St→Prop
 | [],s,x,s'=>x= .normal∧s'=s
 |a::l,s,x,s'=>(∃s1,Tr P ro k a s .normal s1∧aG P ro k l s1 x s')∨(x≠.normal∧Tr P ro k a s x s')
theorem aG.append:∀(l1:List Code) {l2:List Code} {s s':St} {x:Exit},aG P ro k (l1++l2) s x s'→(∃s1,aG P ro k l1 s .normal s1∧aG P ro k l2 s1 x s')∨(x≠.normal∧aG P ro k l1 s x s')
 | [],_,s,_,_,h=>.inl ⟨s,⟨rfl,rfl⟩,h⟩
 |a::l1,l2,s,s',x,h=>by
  rcases h with ⟨s1,h1,h2⟩|⟨hx,h1⟩
  ·rcases aG.append l1 h2 with ⟨s2,h3,h4⟩|⟨hx,h3⟩
   ·exact .inl ⟨s2,.inl ⟨s1,h1,h3⟩,h4⟩
   ·exact .inr ⟨hx,.inl ⟨s1,h1,h3⟩⟩
  ·exact .inr ⟨hx,.inr ⟨hx,h1⟩⟩
theorem aG.single {c:Code} {s s':St} {x:Exit} (h:aG P ro k [c] s x s'):Tr P ro k c s x s':=by
 rcases h with ⟨s1,h1,rfl,rfl⟩|⟨_,h1⟩
 ·exact h1
 ·exact h1
theorem Tr.aD:∀{c:Code} {s s':St} {x:Exit},aG P ro k (atoms c) s x s'→Tr P ro k c s x s':=by
 intro c
 induction c with
 |seq a b iha ihb=>
  intro s s' x h
  rcases aG.append (atoms a) h with ⟨s1,h1,h2⟩|⟨hx,h1⟩
  ·exact Tr.seq (iha h1) (ihb h2)
  ·exact Tr.wQ (iha h1) hx
 |_=>intro s s' x h;exact aG.single h
def az (P:Program) (Γ:bK) (n k:Nat):Nat→List Code→St→Option St
 |0,_,s=>some s
 |m+1,a::l,s=>match exec P Γ n k a s with
  |some (.normal,s')=>az P Γ n k m l s'
  |_=>none
 |_+1,[],_=>none
def nY (P:Program) (Γ:bK) (n k:Nat):List Code→St→Option (Exit×St)
 | [],s=>some (.normal,s)
 |a::l,s=>match exec P Γ n k a s with
  |some (.normal,s')=>nY P Γ n k l s'
  |r=>r
theorem sg {Γ:bK} (hΓ:ag P Γ) (n:Nat):∀(m:Nat) {l:List Code} {s s1 s':St} {x:Exit},az P Γ n k m l s=some s1→s1.ob=true→aG P ro k (l.drop m) s1 x s'→aG P ro k l s x s'∧s.ob=true
 |0,l,s,s1,s',x,e,fu,h=>by simp only [az,Option.some.injEq] at e;subst e;exact ⟨by simpa using h,fu⟩
 |m+1,[],s,s1,s',x,e,_,_=>by simp [az] at e
 |m+1,a::l,s,s1,s',x,e,fu,h=>by
  simp only [az] at e
  split at e
  ·rename_i s2 h2
   obtain ⟨h3,h4⟩:=sg hΓ n m e fu (by simpa only [List.drop_succ_cons] using h)
   exact ⟨.inl ⟨s2,Tr.exec hΓ h2 h4,h3⟩,cU n k a s s2 _ h2 h4⟩
  ·cases e
theorem si {Γ:bK} (hΓ:ag P Γ) (n:Nat):∀{l:List Code} {s s':St} {x:Exit},nY P Γ n k l s=some (x,s')→s'.ob=true→aG P ro k l s x s'∧s.ob=true
 | [],s,s',x,e,fu=>by simp only [nY,Option.some.injEq,Prod.mk.injEq] at e;obtain ⟨rfl,rfl⟩:=e;exact ⟨⟨rfl,rfl⟩,fu⟩
 |a::l,s,s',x,e,fu=>by
  simp only [nY] at e
  split at e
  ·rename_i s2 h2
   obtain ⟨h3,h4⟩:=si hΓ n e fu
   exact ⟨.inl ⟨s2,Tr.exec hΓ h2 h4,h3⟩,cU n k a s s2 _ h2 h4⟩
  ·rename_i hne
   have hx:x≠.normal:=fun q=>by subst q;exact hne s' e
   exact ⟨.inr ⟨hx,Tr.exec hΓ e fu⟩,cU n k a s s' x e fu⟩
theorem aG.pre:∀{l:List Code} {s s1 s':St} {x:Exit},aG P ro k l s1 x s'→aU k s s1→l≠[]→aG P ro k l s x s'
 | [],_,_,_,_,_,_,h=>absurd rfl h
 |_::_,_,_,_,_,.inl ⟨s2,h1,h2⟩,g,_=>.inl ⟨s2,h1.pre g,h2⟩
 |_::_,_,_,_,_,.inr ⟨hx,h1⟩,g,_=>.inr ⟨hx,h1.pre g⟩
theorem aG.items {Γ:bK} (hΓ:ag P Γ) (n m:Nat) (live:List Nat) (j:Nat) (hj:k≤j) {l:List Code} {s s1 s':St} {x:Exit} (e:(az P Γ n k m l s).bind (St.cut live j)=some s1) (fu:s1.ob=true) (hl:m<l.length) (h:aG P ro k (l.drop m) s1 x s'):aG P ro k l s x s':=by
 obtain ⟨s2,h2,h3⟩:=Option.bind_eq_some_iff.1 e
 refine (sg hΓ n m h2 ?_ (h.pre (aU.cut hj h3) (by intro q;have:=congrArg List.length q;simp at this;omega))).1
 unfold St.cut St.fN at h3
 split at h3
 ·cases h3;exact fu
 ·cases h3
theorem aG.item (m:Nat) {c:Code} {s s1 s':St} {x:Exit} (hm:m<(atoms c).length) (h1:Tr P ro k (ak m c) s .normal s1) (h2:aG P ro k ((atoms c).drop (m+1)) s1 x s'):aG P ro k ((atoms c).drop m) s x s':=by
 rw [List.drop_eq_getElem_cons hm]
 refine .inl ⟨s1,?_,h2⟩
 have:ak m c=(atoms c)[m]:=by simp [ak,List.getD,List.getElem?_eq_getElem hm]
 rwa [this] at h1
theorem aG.leave (m:Nat) {c:Code} {s s':St} {x:Exit} (hm:m<(atoms c).length) (hx:x≠.normal) (h1:Tr P ro k (ak m c) s x s'):aG P ro k ((atoms c).drop m) s x s':=by
 rw [List.drop_eq_getElem_cons hm]
 refine .inr ⟨hx,?_⟩
 have:ak m c=(atoms c)[m]:=by simp [ak,List.getD,List.getElem?_eq_getElem hm]
 rwa [this] at h1
theorem aG.rest {Γ:bK} (hΓ:ag P Γ) (n:Nat) {l:List Code} {s s':St} {x:Exit} (e:nY P Γ n k l s=some (x,s')) (fu:s'.ob=true):aG P ro k l s x s':=(si hΓ n e fu).1
theorem Tr.loop (id:Nat) {c:Code} {s':St} (hc:kQ id c=true) (f:Nat→St) (N:Nat) (hb:∀i,i<N→Tr P ro k (inner (inner c)) (f i) .normal (f (i+1))) (hl:Tr P ro k (inner (inner c)) (f N) (.exit id) s'):Tr P ro k c (f 0) .normal s':=by
 cases c<;>simp [kQ] at hc
 rename_i j b
 cases b<;>simp at hc
 subst hc
 exact Tr.block (dy.loop (dy.for (by simp) f N hb hl))
theorem Tr.jt (id:Nat) {c:Code} {s s':St} (hc:kQ id c=true) (h:dy P ro k (inner (inner c)) s (.exit id) s'):Tr P ro k c s .normal s':=by
 cases c<;>simp [kQ] at hc
 rename_i j b
 cases b<;>simp at hc
 subst hc
 exact Tr.block (dy.loop h)
theorem Tr.sU (id:Nat) {c:Code} {s s':St} (hc:kQ id c=true) (h:dy P ro k (inner (inner c)) s .ret s'):Tr P ro k c s .ret s':=by
 cases c<;>simp [kQ] at hc
 rename_i j b
 cases b<;>simp at hc
 subst hc
 exact Tr.aQ (dy.loop h) (by simp)
theorem aj.mk {f:FuncId} {fn:Func} (hf:P.funcs[f]? =some fn) {args:List SV} {h:List Blk} {x:Exit} {s:St} {vs:List SV} (hb:fn.body.isSome=true) (ht:aG P none h.length (atoms (aH fn)) ⟨aT fn.ntmps args,h,true⟩ x s) (hx:x= .ret∨x= .normal)
  (hr:j0 P s.t s.h fn.results.toList=some (vs,true)):aj P f args h (oneOf vs) s.h:=by
 obtain ⟨c,hc⟩:=Option.isSome_iff_exists.1 hb
 exact aj.SZ hf hc hx (Tr.aD (by simpa [aH,hc] using ht)) hr
theorem aj.rest {Γ:bK} (hΓ:ag P Γ) (n m:Nat) {f:FuncId} {fn:Func} (hf:P.funcs[f]? =some fn) {args:List SV} {h h':List Blk} {s:St} {v:SV} {p:Bool} (hb:fn.body.isSome=true)
  (ht:∀s' x,aG P none h.length ((atoms (aH fn)).drop m) s x s'→aG P none h.length (atoms (aH fn)) ⟨aT fn.ntmps args,h,true⟩ x s')
  (e:((nY P Γ n h.length ((atoms (aH fn)).drop m) s).bind fun r=>match r.1 with
   | .ret| .normal=>(j0 P r.2.t r.2.h fn.results.toList).map fun q=>(oneOf q.1,r.2.h,aa r.2.ob q.2)
   |_=>none)=some (v,h',p)) (hp:p=true):aj P f args h v h':=by
 obtain ⟨⟨x,s'⟩,h1,e⟩:=Option.bind_eq_some_iff.1 e
 subst hp
 have key:∀(_:x= .ret∨x= .normal),((j0 P s'.t s'.h fn.results.toList).map fun q=>(oneOf q.1,s'.h,aa s'.ob q.2))=some (v,h',true)→aj P f args h v h':=fun hx e=>by
  obtain ⟨⟨vs,q⟩,hr,e⟩:=Option.map_eq_some_iff.1 e
  simp only [Prod.mk.injEq,au] at e
  obtain ⟨rfl,rfl,fu,rfl⟩:=e
  exact aj.mk hf hb (ht s' x (aG.rest hΓ n h1 fu)) hx hr
 cases x<;>simp only at e<;>first|exact key (by simp) e|cases e
theorem aj.post {f:FuncId} {args:List SV} {h h1 h2:List Blk} {v v2:SV} (g:aj P f args h v h1) (q:aU h.length ⟨[some v],h1,true⟩ ⟨[some v2],h2,true⟩):aj P f args h v2 h2:=by
 intro B e w args' hB hl R
 refine (g B e w args' hB hl R).mono ?_
 rintro en w' ⟨v',rfl,e1,hm,hv,R1⟩
 obtain ⟨e2,hm2,lT,R2⟩:=q B e1 w' [v'] hB ⟨rfl,fun i u u' h1 h2=>by
  have hi:=(List.getElem?_eq_some_iff.1 h1).1
  simp at hi;subst hi;simp at h1 h2;subst h1;subst h2;exact hv⟩ R1
 exact ⟨v',rfl,e2,hm2.trans hm,lT.2 0 v2 v' rfl rfl,R2⟩
theorem aj.pre {f:FuncId} {args args2:List SV} {h h2:List Blk} {h1:List Blk} {v:SV} (g:aj P f args2 h2 v h1) (hk:h.length=h2.length) (q:aU h.length ⟨args.map some,h,true⟩ ⟨args2.map some,h2,true⟩):aj P f args h v h1:=by
 intro B e w args' hB hl R
 have hlen:=hl.length
 obtain ⟨e2,hm2,lT,R2⟩:=q B e w args' hB ⟨by simp [hlen],fun i u u' h1 h2=>by
  rw [List.getElem?_map] at h1
  obtain ⟨x,hx,hxe⟩:=Option.map_eq_some_iff.1 h1
  cases hxe
  obtain ⟨y,hy,hv⟩:=hl.get hx
  rw [h2] at hy;cases hy;exact hv⟩ R
 have hl3:LR e2 args2 args':=by
  have:∀(as:List SV) (bs:List Value),as.length=bs.length→(∀(i:Nat) (v:SV) (v':Value),as[i]? =some v→bs[i]? =some v'→VR e2 v v')→LR e2 as bs:=by
   intro as
   induction as with
   |nil=>intro bs h _;cases bs<;>simp at h;rfl
   |cons a as ih=>
    intro bs h g
    cases bs with
    |nil=>simp at h
    |cons b bs=>exact ⟨b,bs,g 0 a b rfl rfl,ih bs (by simpa using h) (fun i v v' h1 h2=>g (i+1) v v' (by simpa using h1) (by simpa using h2)),rfl⟩
  refine this args2 args' (by simpa using lT.1) fun i v v' h1 h2=>lT.2 i v v' (by simp [h1]) h2
 refine (g B e2 w args' (by omega) hl3 R2).mono ?_
 rintro en w' ⟨v',rfl,e3,hm3,hv,R3⟩
 exact ⟨v',rfl,e3,hm3.trans hm2,hv,R3⟩
end
end Go.Sy
