/- This file proves the interpreter 'exec' sound, functions that are taken in among them. Conditions: those of the interpreter's own tests; the contracts that it uses are sound. -/
import Derived.Test.YtibfpjeeanppjaaGreatYMb
import Derived.RangeFuncLeaves
import Derived.RangeFuncRecord
import Derived.RangeFuncIn
set_option linter.all false
namespace Go.Sy
open Go
def QO (P:Program) (l:Nat) (vs:List SV) (h:List Blk) (v:SV) (h':List Blk):Prop:=∀(B:dL) (e:Env) (w:World) (args:List Value),LR e vs args→Rel B e h w→
 nT P (.yield l) ⟨args⟩ w fun v' w'=>∃e',VR e' v v'∧Rel B e' h' w'∧b9 e e' none
structure ag (P:Program) (Γ:bu):Prop where
 EI:∀l vs h v h',Γ.yc l vs h=some (v,h',true)→QO P l vs h v h'
 calls:R5 P Γ.g
 pure:lq Γ.pf (fnG Γ.g)
 inl:∀f fn,Γ.inl f=some fn→P.funcs[f]? =some fn∧fn.name≠"runtime.NumGoroutine"∧2≤Γ.pf f
def Env.bare (e:Env) (h:List Blk):Env:={e with m:=[],y:=fun i=>match o6 h i with|some _=>e.y i|none=>none}
theorem oR (e:Env) (h:List Blk):Env.Le e (e.bare h):=⟨fun _ _ h=>h,fun _ _ h=>h,Nat.le_refl _⟩
theorem GQ {h:List Blk} {i:Nat} {L:Lp} (g:h[i]? =some (.g (some L))):o6 h i=some L:=by unfold o6;rw [g]
theorem mo {h:List Blk} {i:Nat} {L:Lp} (g:o6 h i=some L):h[i]? =some (.g (some L)):=by
 unfold o6 at g
 split at g
 ·rename_i L' hq;cases g;exact hq
 ·cases g
theorem Yw {e:Env} {h:List Blk} {i:Nat} {L:Lp} (g:h[i]? =some (.g (some L))):(e.bare h).y i=e.y i:=by
 show (match o6 h i with|some _=>e.y i|none=>none)=e.y i
 rw [GQ g]
theorem Ab {e:Env} {h:List Blk} {i n:Nat} (g:(e.bare h).y i=some n):e.y i=some n∧∃L,h[i]? =some (.g (some L)):=by
 have g':(match o6 h i with|some _=>e.y i|none=>none)=some n:=g
 split at g'
 ·rename_i L hL;exact ⟨g',L,mo hL⟩
 ·cases g'
def Yx:Blk→Option Nat
 | .g (some L)=>some L.l
 |_=>none
def Ac (h:List Blk):List Nat:=h.filterMap Yx
theorem j4 {h:List Blk} {n:Nat}:n∈Ac h↔∃(i:Nat) (L:Lp),h[i]? =some (.g (some L))∧L.l=n:=by
 unfold Ac
 rw [List.mem_filterMap]
 constructor
 ·rintro ⟨b,hb,hq⟩
  obtain ⟨i,hi⟩:=List.mem_iff_getElem?.1 hb
  match b,hq with
  | .g (some L),hq=>exact ⟨i,L,hi,Option.some.inj hq⟩
 ·rintro ⟨i,L,hi,rfl⟩
  exact ⟨_,List.mem_of_getElem? hi,rfl⟩
section
variable {P:Program} {e:Env} {B:dL} {h:List Blk} {w:World}
def fP (e:Env) (h:List Blk) (w:World):dL:=⟨w,e.bare h,h.length,Ac h⟩
theorem Rel.self (R:Rel B e h w):Rel (fP e h w) (e.bare h) h w where
 os:=rfl
 tape:=rfl
 output:=rfl
 size:=Nat.le_refl _
 inj:=R.inj
 dom:=R.dom
 sep:=R.sep
 g6:=R.g6
 bz:=fun _ _ hz=>.inl hz
 news:=fun _ _ hi=>.inl hi
 bF:=fun _ _ hi=>hi
 bZ:=fun _ _ hz=>hz
 n0:=rfl
 cW:=by show e.n0≤w.heap.size;have:=R.n0;have:=R.cW;have:=R.size;omega
 gj:=fun i ps hi=>(R.gj i ps hi).imp id fun ⟨p,o,h1,h2,h3⟩=>⟨p,o,h1,h2,h3.mono (oR e h)⟩
 gap:=fun i g hi=>⟨(R.gap i g hi).1,by
  have hg:=(R.gap i g hi).2
  cases g with
  |none=>trivial
  |some L=>exact hg.le (fun _ _ h=>h) (Yw hi) (oR e h)⟩
 yi:=fun i j n hi hj=>R.yi i j n (Ab hi).1 (Ab hj).1
 yb:=fun i n hi=>by
  obtain ⟨h1,L,h2⟩:=Ab hi
  have:=(R.gap i _ h2).2.1
  rw [h1] at this;cases this
  exact .inl (j4.2 ⟨i,L,h2,rfl⟩)
 old:=fun _ _ _ _=>rfl
 win:=fun i p hi=>by
  obtain ⟨c,t,h1,_⟩:=R.fm hi
  exact ⟨_,_,h1,h1,c,c,t,(0,0),rfl,rfl,rfl,fun _ _=>rfl⟩
 kr:=fun i p hi=>R.dom i p hi
 iO:=Nat.le_refl _
 iZ:=fun r hr=>by cases hr
 kf:=List.nodup_nil
theorem qT.trans {a n:Nat} {x y z:Obj} (h:qT a n x y) (g:qT a n y z):qT a n x z:=by
 obtain ⟨c,c',t,fr,rfl,rfl,h1,h2⟩:=h
 obtain ⟨d,d',t',fr',q,rfl,h3,h4⟩:=g
 cases q
 exact ⟨c,d',t,fr,rfl,rfl,h3.trans h1,fun j hj=>(h4 j hj).trans (h2 j hj)⟩
theorem Rel.trans (R:Rel B e h w) {e':Env} {h':List Blk} {w':World} (S:Rel (fP e h w) e' h' w'):Rel B {e' with m:=e.m} h' w' where
 os:=S.os.trans R.os
 tape:=S.tape.trans R.tape
 output:=S.output.trans R.output
 size:=Nat.le_trans R.size S.size
 inj:=S.inj
 dom:=S.dom
 sep:=S.sep
 g6:=S.g6
 bz:=fun n x hz=>by
  rcases S.bz n x hz with g|g
  ·exact R.bz n x g
  ·exact .inr (Nat.le_trans R.size g)
 news:=fun i p hi=>by
  rcases S.news i p hi with g|g
  ·exact R.news i p g
  ·exact .inr (Nat.le_trans R.size g)
 bF:=fun i p hi=>S.bF i p (R.bF i p hi)
 bZ:=fun n x hz=>S.bZ n x (R.bZ n x hz)
 n0:=S.n0.trans R.n0
 cW:=R.cW
 gj:=fun i ps hi=>(S.gj i ps hi).imp id fun ⟨p,o,h1,h2,h3⟩=>⟨p,o,h1,h2,BR.mono (e:=e') (e':={e' with m:=e.m}) ⟨fun _ _ h=>h,fun _ _ h=>h,Nat.le_refl _⟩ h3⟩
 gap:=fun i g hi=>⟨(S.gap i g hi).1,(S.gap i g hi).2.le (fun _ _ h=>h) rfl ⟨fun _ _ h=>h,fun _ _ h=>h,Nat.le_refl _⟩⟩
 yi:=S.yi
 yb:=fun i n hi=>by
  rcases S.yb i n hi with g|g
  ·obtain ⟨i0,L,h1,rfl⟩:=j4.1 g
   exact R.yb i0 _ (R.gap i0 _ h1).2.1
  ·exact .inr (Nat.le_trans R.size g)
 old:=fun n hn hno qt=>by
  have hlt:n<w.heap.size:=by have:=R.size;omega
  rw [S.old n hlt (fun i p hi hp=>?_) (fun hl=>?_)]
  ·exact R.old n hn hno qt
  ·rcases R.news i p hi with g|g
   ·exact hno i p g hp
   ·omega
  ·obtain ⟨i0,L,h1,rfl⟩:=j4.1 hl
   rcases R.yb i0 _ (R.gap i0 _ h1).2.1 with g|g
   ·exact qt g
   ·omega
 win:=fun i p hi=>by
  obtain ⟨o,o',h1,h2,h3⟩:=R.win i p hi
  obtain ⟨x,x',g1,g2,g3⟩:=S.win i p (R.bF i p hi)
  have g1':w.heap[p.n]? =some x:=g1
  rw [h2] at g1';cases g1'
  exact ⟨o,x',h1,g2,h3.trans g3⟩
 kr:=R.kr
 iO:=Nat.le_trans R.iO S.iO
 iZ:=fun r hr=>by
  have hm:=R.iZ r hr
  refine ⟨?_,hm.2⟩
  rw [S.old r (Array.getElem?_eq_some_iff.1 hm.1).1 (fun i p hi hp=>?_) (fun hl=>?_)]
  ·exact hm.1
  ·subst hp
   obtain ⟨c,t,h1,_⟩:=R.fm hi
   have h2:=hm.1
   rw [h1] at h2;cases h2
  ·obtain ⟨i0,L,h1,rfl⟩:=j4.1 hl
   obtain ⟨_,r,h2,_⟩:=(R.gap i0 _ h1).2
   have h3:=hm.1
   rw [h2] at h3;cases h3
 kf:=R.kf
def s5 (t':List Value):ResultVar→Sem Value
 | .tmp i=>pure ((⟨t'⟩:Array Value).getD i undef)
 | .cell a ty=>do loadVar ty (←asAddr ((⟨t'⟩:Array Value).getD a undef))
theorem qb {t:List (Option SV)} {t':List Value} (hl:TR e t t') (R:Rel B e h w):∀(l:List ResultVar) (vs:List SV),kJ P t h l=some (vs,true)→
  ∃vs',(l.mapM (s5 t')).run P w= .ok vs' w∧LR e vs vs'
 | [],vs,g=>by simp [kJ] at g;subst g;exact ⟨[],by simp,rfl⟩
 | .tmp i::l,vs,g=>by
  simp only [kJ] at g
  split at g
  ·rename_i v us p hv hr
   simp only [Option.some.injEq,Prod.mk.injEq] at g
   obtain ⟨rfl,rfl⟩:=g
   obtain ⟨vs',hvs,hl'⟩:=qb hl R l us hr
   refine ⟨_,?_,_,_,aN (d:=[]) hl hv,hl',rfl⟩
   simp only [List.mapM_cons,s5,Sem.run_bind,hvs,Sem.run_pure,Result.andThen_ok,Act.eval]
  ·cases g
 | .cell a ty::l,vs,g=>by
  simp only [kJ] at g
  split at g
  ·rename_i x hx
   split at g
   ·rename_i v q us p hv Be
    simp only [Option.some.injEq,Prod.mk.injEq,av] at g
    obtain ⟨rfl,rfl,rfl⟩:=g
    obtain ⟨vs',Mi,hl'⟩:=qb hl R l us Be
    obtain ⟨ad,v',ha,hr,R9⟩:=tN (P:=P) R hv (aN (d:=[]) hl hx)
    have ha':(⟨t'⟩:Array Value).getD a undef= .pointer (some ad):=ha
    refine ⟨_,?_,_,_,R9,hl',rfl⟩
    simp only [List.mapM_cons,s5,Sem.run_bind,ha',asAddr,Sem.run_pure,Result.andThen_ok,hr,Mi]
   ·cases g
  ·cases g
theorem MK {vs:List SV} {vs':List Value} (h:LR e vs vs'):VR e (oneOf vs) (if g:(⟨vs'⟩:Array Value).size=1 then (⟨vs'⟩:Array Value)[0] else .tuple ⟨vs'⟩):=by
 match vs,h with
 | [],g=>rw [LR] at g;subst g;exact ⟨[],rfl,rfl⟩
 | [x],⟨y,zs,hy,hz,q⟩=>rw [LR] at hz;subst hz;subst q;simpa [oneOf] using hy
 |x::x'::xs,⟨y,zs,hy,hz,q⟩=>
  subst q
  have hlen:=hz.length
  have:¬(⟨y::zs⟩:Array Value).size=1:=by simp [List.size_toArray] at*;intro e;subst e;simp at hlen
  rw [dif_neg this]
  exact ⟨_,⟨y,zs,hy,hz,rfl⟩,rfl⟩
theorem x7 {t:List (Option SV)} {t':List Value} (hl:TR e t t') (R:Rel B e h w) {fn:Func} {vs:List SV} (g:kJ P t h fn.results.toList=some (vs,true)):
  ∃v',(results fn ⟨t'⟩).run P w= .ok v' w∧VR e (oneOf vs) v':=by
 obtain ⟨vs',hv,hl'⟩:=qb hl R fn.results.toList vs g
 refine ⟨_,?_,MK hl'⟩
 have ajt:results fn ⟨t'⟩=(do let vs ←fn.results.mapM (s5 t');pure (if h:vs.size=1 then vs[0] else .tuple vs)):=by
  unfold results
  have:∀g:ResultVar→Sem Value,(∀x,g x=s5 t' x)→g=s5 t':=fun g h=>funext h
  rw [this (fun x=>_) (fun x=>by cases x<;>rfl)]
 rw [ajt,Array.mapM_eq_mapM_toList]
 simp only [Sem.run_bind,Sem.run_map,hv,Result.andThen_ok]
 rfl
theorem TR.aO {args:List SV} {args':List Value} (h:LR e args args') (n:Nat):TR e (aO n args) (args'++List.replicate (n-args.length) undef):=by
 refine ⟨by simp [Sy.aO,h.length],fun i v v' g g'=>?_⟩
 unfold Sy.aO at g
 rcases Nat.lt_or_ge i args.length with h1|h1
 ·rw [List.getElem?_append_left (by simpa using h1),List.getElem?_map] at g
  rw [List.getElem?_append_left (by rw [h.length];exact h1)] at g'
  obtain ⟨x,hx,q⟩:=Option.map_eq_some_iff.1 g
  cases q
  obtain ⟨y,hy,hv⟩:=h.get hx
  rw [g'] at hy;cases hy
  exact hv
 ·rw [List.getElem?_append_right (by simpa using h1),List.getElem?_replicate] at g
  split at g<;>cases g
end
def mkD (m:List Nat):List Deferred:=m.map fun r=>{target:=.collected r,args:=#[]}
def Tr (P:Program) (ro:Option Nat) (k:Nat) (c:Code) (s:St) (x:Exit) (s':St):Prop:=
 ∀(B:dL) (e:Env) (w:World) (t':List Value) (d:List Deferred) (Q:Exit→Act→World→Prop) (nn:Nat),B.k≤k→TR e s.t t'→Rel B e s.h w→
  (∀e' w' t'',TR e' s'.t t''→Rel B e' s'.h w'→Q x ⟨⟨t''⟩,mkD e'.m++d⟩ w')→c.wpIn (wF ro) nn P Q ⟨⟨t'⟩,mkD e.m++d⟩ w
def iR (P:Program) (ro:Option Nat) (k:Nat) (b:Code) (s:St) (x:Exit) (s':St):Prop:=
 ∃m:Nat,∀(B:dL) (e:Env) (w:World) (t':List Value) (d:List Deferred) (Q:Exit→Act→World→Prop) (nn:Nat),B.k≤k→TR e s.t t'→Rel B e s.h w→
  (∀e' w' t'',TR e' s'.t t''→Rel B e' s'.h w'→Q x ⟨⟨t''⟩,mkD e'.m++d⟩ w')→Code.roundsIn (wF ro) nn P b Q m ⟨⟨t'⟩,mkD e.m++d⟩ w
section
variable {P:Program} {ro:Option Nat} {k:Nat}
theorem EJ {F:Fence} {n:Nat} {Q:Exit→Act→World→Prop} {a:Act} {w:World} {c:Code} (h:c.wpIn F n P (fun e a w=>(∀l,e≠.goto l)∧Q e a w) a w):(Code.scope c).wpIn F n P Q a w:=by
 intro b k cs hro hb hr
 have h0:(lone (b.atR a (.code (.scope c)::k)) cs w).fenced P F:=fenced_calm hb hr rfl
 have st:step P (lone (b.atR a (.code (.scope c)::k)) cs w)= .next (lone (b.atR a (.code c:: .inScope c::k)) cs w):=step_lone_go (by simp [stepG,stepG.exec,Frame.atR])
 obtain ⟨e,a₁,w₁,⟨hg,hq⟩,I5⟩:=h b (.inScope c::k) cs hro hb hr
 cases e with
 |normal=>exact ⟨.normal,a₁,w₁,hq,.head h0 st (StepsIn.trans I5 (.one (fenced_calm hb hr rfl) (step_lone_go (by simp [stepG,stepG.exec,Frame.atR]))))⟩
 |exit id=>
  have hx:exitTo id (.inScope c::k)=exitTo id k:=by simp [exitTo]
  exact ⟨.exit id,a₁,w₁,hq,fun k' hk=>.head h0 st (I5.1 k' (by rw [hx];exact hk)),fun hr' hk=>let ⟨k₁,h1,h2⟩:=I5.2 hr' (by rw [hx];exact hk);⟨k₁,h1,.head h0 st h2⟩⟩
 |goto l=>exact absurd rfl (hg l)
 |ret=>exact ⟨_,a₁,w₁,hq,.of_steps (.one h0 st) I5⟩
 |panic ch=>exact ⟨_,a₁,w₁,hq,.of_steps (.one h0 st) I5⟩
 |outgrown=>exact ⟨_,a₁,w₁,hq,.of_steps (.one h0 st) I5⟩
theorem Tr.scope {b:Code} {s s':St} {x:Exit} (h:Tr P ro k b s x s') (hx:∀l,x≠.goto l):Tr P ro k (.scope b) s x s':=
 fun B e w t' d Q nn hB hl R hQ=>EJ (h B e w t' d _ nn hB hl R fun e1 w1 t1 qu R1=>⟨hx,hQ e1 w1 t1 qu R1⟩)
theorem Tr.seq {a b:Code} {s s1 s':St} {x:Exit} (h1:Tr P ro k a s .normal s1) (h2:Tr P ro k b s1 x s'):Tr P ro k (.seq a b) s x s':=
 fun B e w t' d Q nn hB hl R hQ=>wpIn_seq (h1 B e w t' d _ nn hB hl R fun e1 w1 t1 qu R1=>h2 B e1 w1 t1 d Q nn hB qu R1 fun e2 w2 t2 mS R2=>hQ e2 w2 t2 mS R2)
theorem Tr.yH {a b:Code} {s s':St} {x:Exit} (h1:Tr P ro k a s x s') (hx:x≠.normal):Tr P ro k (.seq a b) s x s':=
 fun B e w t' d Q nn hB hl R hQ=>wpIn_seq (h1 B e w t' d _ nn hB hl R fun e1 w1 t1 qu R1=>by
  have:=hQ e1 w1 t1 qu R1
  cases x<;>first|exact absurd rfl hx|exact this)
theorem Tr.block {id:Nat} {b:Code} {s s':St} (h:Tr P ro k b s (.exit id) s'):Tr P ro k (.block id b) s .normal s':=
 fun B e w t' d Q nn hB hl R hQ=>wpIn_block (h B e w t' d _ nn hB hl R fun e1 w1 t1 qu R1=>by
  show (if id=id then Q .normal _ _ else _)
  rw [if_pos rfl];exact hQ e1 w1 t1 qu R1)
theorem Tr.fN {id:Nat} {b:Code} {s s':St} {x:Exit} (h:Tr P ro k b s x s') (hx:∀j,x≠.exit j):Tr P ro k (.block id b) s x s':=
 fun B e w t' d Q nn hB hl R hQ=>wpIn_block (h B e w t' d _ nn hB hl R fun e1 w1 t1 qu R1=>by
  have:=hQ e1 w1 t1 qu R1
  cases x<;>first|exact absurd rfl (hx _)|exact this)
theorem Tr.sx {id j:Nat} {b:Code} {s s':St} (h:Tr P ro k b s (.exit j) s') (hj:j≠id):Tr P ro k (.block id b) s (.exit j) s':=
 fun B e w t' d Q nn hB hl R hQ=>wpIn_block (h B e w t' d _ nn hB hl R fun e1 w1 t1 qu R1=>by
  show (if j=id then Q .normal _ _ else _)
  rw [if_neg hj];exact hQ e1 w1 t1 qu R1)
theorem Tr.cond_true {c:Operand} {a b:Code} {s s':St} {x:Exit} (hc:ev s.t c=some (.bool true)) (h:Tr P ro k a s x s'):Tr P ro k (.cond c a b) s x s':=
 fun B e w t' d Q nn hB hl R hQ=>wpIn_cond_true (aN hl hc) (h B e w t' d Q nn hB hl R hQ)
theorem Tr.cond_false {c:Operand} {a b:Code} {s s':St} {x:Exit} (hc:ev s.t c=some (.bool false)) (h:Tr P ro k b s x s'):Tr P ro k (.cond c a b) s x s':=
 fun B e w t' d Q nn hB hl R hQ=>wpIn_cond_false (aN hl hc) (h B e w t' d Q nn hB hl R hQ)
theorem iR.leave {b:Code} {s s':St} {x:Exit} (h:Tr P ro k b s x s') (hx:x≠.normal):iR P ro k b s x s':=
 ⟨1,fun B e w t' d Q nn hB hl R hQ=>by
  rw [roundsIn_succ]
  refine h B e w t' d _ nn hB hl R fun e1 w1 t1 qu R1=>?_
  have:=hQ e1 w1 t1 qu R1
  cases x<;>first|exact absurd rfl hx|exact this⟩
theorem iR.step {b:Code} {s s1 s':St} {x:Exit} (h:Tr P ro k b s .normal s1) (g:iR P ro k b s1 x s'):iR P ro k b s x s':=by
 obtain ⟨m,hm⟩:=g
 refine ⟨m+1,fun B e w t' d Q nn hB hl R hQ=>?_⟩
 rw [roundsIn_succ]
 exact h B e w t' d _ nn hB hl R fun e1 w1 t1 qu R1=>hm B e1 w1 t1 d Q nn hB qu R1 fun e2 w2 t2 mS R2=>hQ e2 w2 t2 mS R2
theorem iR.loop {b:Code} {s s':St} {x:Exit} (h:iR P ro k b s x s'):Tr P ro k (.loop b) s x s':=by
 obtain ⟨m,hm⟩:=h
 exact fun B e w t' d Q nn hB hl R hQ=>wpIn_loop_rounds m (hm B e w t' d Q nn hB hl R hQ)
theorem iR.for {b:Code} {x:Exit} {s':St} (hx:x≠.normal) (f:Nat→St) (N:Nat) (hb:∀i,i<N→Tr P ro k b (f i) .normal (f (i+1))) (ML:Tr P ro k b (f N) x s'):iR P ro k b (f 0) x s':=by
 have key:∀(m i:Nat),N=i+m→iR P ro k b (f i) x s':=by
  intro m
  induction m with
  |zero=>intro i hN;obtain rfl:N=i:=by omega
         exact iR.leave ML hx
  |succ m ih=>intro i hN;exact iR.step (hb i (by omega)) (ih (i+1) (by omega))
 exact key N 0 (by omega)
theorem Rel.Yy {B:dL} {e:Env} {h:List Blk} {w:World} (R:Rel B e h w) {r:Nat} {m:List Nat} (hm:e.m=r::m):Rel B {e with m:=m} h (w.putObj r (.deferred none)):=by
 obtain ⟨hr,hrB⟩:=R.iZ r (by rw [hm];simp)
 have cP:∀n,n≠r→(w.putObj r (.deferred none)).heap[n]? =w.heap[n]? :=fun n hn=>World.putObj_heap_other hn
 have le:Env.Le e {e with m:=m}:=⟨fun _ _ h=>h,fun _ _ h=>h,Nat.le_refl _⟩
 have qc:∀{n:Nat} {c:Array Value} {t:TypeId} {fr:Nat×Nat},w.heap[n]? =some (.cells c t fr)→(w.putObj r (.deferred none)).heap[n]? =some (.cells c t fr):=fun {n c t fr} h=>by
  rw [cP n (fun q=>by subst q;rw [hr] at h;cases h)];exact h
 exact {
  os:=R.os,tape:=R.tape,output:=R.output
  size:=by rw [World.putObj_size];exact R.size
  inj:=R.inj,dom:=R.dom,sep:=R.sep
  g6:=fun n c t fr hz=>qc (R.g6 n c t fr hz)
  bz:=R.bz,news:=R.news,bF:=R.bF,bZ:=R.bZ,n0:=R.n0,cW:=R.cW
  gj:=fun i ps hi=>(R.gj i ps hi).imp id fun ⟨p,o,h1,h2,h3⟩=>by
   obtain ⟨c,t,rfl,h4,h5,h6⟩:=h3
   exact ⟨p,_,h1,qc h2,c,t,rfl,h4,h5,h6.mono le⟩
  gap:=fun i g hi=>⟨(R.gap i g hi).1,(R.gap i g hi).2.le (fun n o hn=>by rw [cP n (fun q=>by subst q;rw [hr] at hn;cases hn)];exact hn) rfl le⟩
  yi:=R.yi,yb:=R.yb
  old:=fun n hn hno qt=>by rw [cP n (by omega)];exact R.old n hn hno qt
  win:=fun i p hi=>by
   obtain ⟨o,o',h1,h2,h3⟩:=R.win i p hi
   obtain ⟨c,c',t,fr,rfl,rfl,h4⟩:=h3
   exact ⟨_,_,h1,qc h2,c,c',t,fr,rfl,rfl,h4⟩
  kr:=R.kr,iO:=R.iO
  iZ:=fun q hq=>by
   have x5:=R.kf
   rw [hm,List.nodup_cons] at x5
   refine ⟨?_,(R.iZ q (by rw [hm];simp [hq])).2⟩
   rw [cP q (fun x=>by subst x;exact x5.1 hq)]
   exact (R.iZ q (by rw [hm];simp [hq])).1
  kf:=by have x5:=R.kf;rw [hm,List.nodup_cons] at x5;exact x5.2}
theorem rj {fn:Func} {t:List (Option SV)} {h:List Blk} {vs:List SV} (hr:kJ P t h fn.results.toList=some (vs,true)) {B:dL} {t'':List Value} {K:Ending→World→Prop}:∀(m:List Nat) (e:Env) (w:World),e.m=m→TR e t t''→Rel B e h w→
  (∀v' e' w',VR e' (oneOf vs) v'→Rel B e' h w'→K (.returned v') w')→LeavesInM (wF none) 0 P fn ⟨t''⟩ K (mkD m++[]) .returning w
 | [],e,w,_,hl,R,hK=>by
  obtain ⟨v',hv,R9⟩:=x7 hl R hr
  exact ⟨v',hv,hK v' e w R9 R⟩
 |r::m,e,w,hm,hl,R,hK=>by
  have I4:=(R.iZ r (by rw [hm];simp)).1
  refine ⟨by simp,.inl ⟨r,_,rfl,run_takeDeferred I4,?_⟩⟩
  exact rj hr m {e with m:=m} _ rfl (TR.mono (e:=e) (e':={e with m:=m}) ⟨fun _ _ h=>h,fun _ _ h=>h,Nat.le_refl _⟩ hl) (R.Yy hm) hK
theorem rm {f:FuncId} {fn:Func} (hf:P.funcs[f]? =some fn) {c:Code} (hb:fn.body=some c) {args:List SV} {h:List Blk} {x:Exit} {s:St} {vs:List SV} (hx:x= .ret∨x= .normal) {kk:Nat}
  (ht:Tr P none kk c ⟨aO fn.ntmps args,h,true⟩ x s) (hr:kJ P s.t s.h fn.results.toList=some (vs,true)) {B:dL} {e:Env} {w:World} {args':List Value} (hB:h.length≤kk) (hl:LR e args args') (R:Rel B e h w):
  Calls P f ⟨args'⟩ w fun en w'=>∃v',en= .returned v'∧∃e',VR e' (oneOf vs) v'∧Rel (fP e h w) e' s.h w':=by
 refine p9.1 (callsIn_of_wp_marks (F:=wF none) (n:=0) hf hb trivial ?_)
 have hlen:=hl.length
 have htm:((⟨args'⟩:Array Value)++Array.replicate (fn.ntmps-(⟨args'⟩:Array Value).size) undef)=⟨args'++List.replicate (fn.ntmps-args.length) undef⟩:=by
  apply Array.ext'
  simp [hlen]
 rw [htm]
 have key:=ht (fP e h w) (e.bare h) w (args'++List.replicate (fn.ntmps-args.length) undef) [] (bodyPostM (wF none) 0 P fn fun en w'=>∃v',en= .returned v'∧∃e',VR e' (oneOf vs) v'∧Rel (fP e h w) e' s.h w') 0 hB (TR.aO (hl.mono (oR e h)) fn.ntmps) R.self
 refine key fun e' w' t'' hl' R'=>?_
 have fin:=rj (fn:=fn) (K:=fun en w'=>∃v',en= .returned v'∧∃e',VR e' (oneOf vs) v'∧Rel (fP e h w) e' s.h w') hr e'.m e' w' rfl hl' R' fun v' e2 w2 hv R2=>⟨v',rfl,e2,hv,R2⟩
 rcases hx with rfl|rfl
 ·exact fin
 ·exact fin
theorem Cl {f:FuncId} {fn:Func} (hf:P.funcs[f]? =some fn) {c:Code} (hb:fn.body=some c) {args:List SV} {h:List Blk} {x:Exit} {s:St} {vs:List SV} (hx:x= .ret∨x= .normal) {kk:Nat}
  (ht:Tr P none kk c ⟨aO fn.ntmps args,h,true⟩ x s) (hr:kJ P s.t s.h fn.results.toList=some (vs,true)) {B:dL} {e:Env} {w:World} {args':List Value} (hB:h.length≤kk) (hl:LR e args args') (R:Rel B e h w):
  Calls P f ⟨args'⟩ w fun en w'=>∃v',en= .returned v'∧∃e',e'.m=e.m∧VR e' (oneOf vs) v'∧Rel B e' s.h w':=by
 refine (rm hf hb hx ht hr hB hl R).mono ?_
 rintro en w' ⟨v',rfl,e',hv,S⟩
 exact ⟨v',rfl,{e' with m:=e.m},rfl,VR.mono (e:=e') (e':={e' with m:=e.m}) ⟨fun _ _ h=>h,fun _ _ h=>h,Nat.le_refl _⟩ hv,R.trans S⟩
theorem eZ {f:FuncId} {fn:Func} (hf:P.funcs[f]? =some fn) (hn:fn.name≠"runtime.NumGoroutine") (hb:fn.body≠none) (args:Array Value) (w:World):(callFunc f args).run P w= .ok (.enter f args) w:=by
 cases hq:fn.body with
 |none=>exact absurd hq hb
 |some c=>simp [callFunc,hf,hn,hq]
theorem cZ {Γ:bu}:∀(n k:Nat) (c:Code) (s s':St) (x:Exit),exec P Γ n k c s=some (x,s')→s'.ob=true→s.ob=true
 |0,_,_,_,_,_,e,_=>by simp [exec] at e
 |n+1,k,c,s,s',x,e,h=>by
  cases c<;>simp only [exec] at e
  case skip=>cases e;exact h
  case label=>cases e;exact h
  case exit=>cases e;exact h
  case ret=>cases e;exact h
  case seq a b=>
   split at e
   ·rename_i s1 h1;exact cZ n k a s s1 _ h1 (cZ n k b s1 s' x e h)
   ·exact cZ n k a s s' x e h
  case cond c a b=>
   split at e
   ·exact cZ n k a s s' x e h
   ·exact cZ n k b s s' x e h
   ·cases e
  case block id b=>
   split at e
   ·rename_i j s1 h1
    split at e<;>(cases e;exact cZ n k b s _ _ h1 h)
   ·exact cZ n k b s s' x e h
  case loop b=>
   split at e
   ·rename_i s1 h1;exact cZ n k b s s1 _ h1 (cZ n k _ s1 s' x e h)
   ·exact cZ n k b s s' x e h
  case scope b=>
   split at e
   ·cases e
   ·exact cZ n k b s s' x e h
  case region id ops draw=>
   split at e
   ·split at e
    ·rename_i s1 fs hm h1
     split at e
     case h_2=>cases e
     cases e
     exact GP _ ⟨s.t,s.h++List.replicate (makes Γ.nb ops.toList) .gap,s.ob⟩ _ _ h1 h
    ·cases e
   ·obtain ⟨s1,h1,h2⟩:=Option.map_eq_some_iff.1 e
    cases h2
    exact oM _ _ _ h1 h
  all_goals cases e
theorem EK {Γ:bu} (hΓ:ag P Γ) (ex:Nat→Code→St→Option (Exit×St)):lq Γ.pf (tL P Γ ex):=by
 refine ⟨fun f hf vs h j v h' new p g=>?_,fun f hf vs h j v h' new p g=>?_⟩
 ·simp only [tL] at g ⊢
  cases hi:Γ.inl f with
  |some fn=>have:=(hΓ.inl f fn hi).2.2;omega
  |none=>rw [hi] at g;exact hΓ.pure.1 f hf vs h j v h' new p g
 ·simp only [tL] at g ⊢
  cases hi:Γ.inl f with
  |some fn=>have:=(hΓ.inl f fn hi).2.2;omega
  |none=>rw [hi] at g;exact hΓ.pure.2 f hf vs h j v h' new p g
theorem EL {h h1:List Blk} {j:Nat} (hle:h.length≤h1.length) (hc:(Nat.beq (h1.length-h.length) 0||Nat.beq j h.length)=true):b6 (h1.take h.length) j (h1.drop h.length)=h1:=by
 simp only [Bool.or_eq_true] at hc
 unfold b6
 have hlt:(h1.take h.length).length=h.length:=by simp;omega
 rcases hc with hc|hc
 ·have:=Nat.eq_of_beq_eq_true hc
  have hd:h1.drop h.length=[]:=List.drop_eq_nil_of_le (by omega)
  rw [hd]
  split
  ·rw [List.append_nil,List.take_of_length_le (by omega)]
  ·simp only [bU];rw [List.take_of_length_le (by omega)]
 ·have:=Nat.eq_of_beq_eq_true hc
  rw [if_pos (by rw [hlt];exact this),List.take_append_drop]
theorem qd {B:dL} {e e':Env} {h h1:List Blk} {w w':World} {j:Nat} {u:SV} {v':Value} (R:Rel B e h w) (S:Rel (fP e h w) e' h1 w') (hv:VR e' u v') (hc:(Nat.beq (h1.length-h.length) 0||Nat.beq j h.length)=true):
  ∃e2,VR e2 u v'∧Rel B e2 (b6 (h1.take h.length) j (h1.drop h.length)) w'∧b9 e e2 none:=by
 have T:=R.trans S
 refine ⟨{e' with m:=e.m},VR.mono (e:=e') (e':={e' with m:=e.m}) ⟨fun _ _ h=>h,fun _ _ h=>h,Nat.le_refl _⟩ hv,?_,⟨fun i p _ hi=>S.bF i p hi,fun n x hz=>S.bZ n x hz,by show e'.n0≤e.n0;rw [S.n0];exact Nat.le_refl _,rfl⟩⟩
 rw [EL S.iO hc]
 exact T
theorem Rel.rq {B:dL} {e:Env} {h:List Blk} {w:World} (R:Rel B e h w) {i:Nat} {L:Lp} (hi:h[i]? =some (.g (some L))) {r:Loop} (hr:w.heap[L.l]? =some (.loop r)) (st:LoopState) (fB:Option Code):
  Rel B e (h.set i (.g (some {L with st:=st,fB:=fB}))) (w.putObj L.l (.loop {r with state:=st,pending:=fB})):=by
 have R7:=(List.getElem?_eq_some_iff.1 hi).1
 have cP:∀n,n≠L.l→(w.putObj L.l (.loop {r with state:=st,pending:=fB})).heap[n]? =w.heap[n]? :=fun n hn=>World.putObj_heap_other hn
 have GB:(w.putObj L.l (.loop {r with state:=st,pending:=fB})).heap[L.l]? =some (.loop {r with state:=st,pending:=fB}):=World.putObj_heap_same (Array.getElem?_eq_some_iff.1 hr).1
 have qc:∀{n:Nat} {c:Array Value} {t:TypeId} {fr:Nat×Nat},w.heap[n]? =some (.cells c t fr)→(w.putObj L.l (.loop {r with state:=st,pending:=fB})).heap[n]? =some (.cells c t fr):=fun {n c t fr} h=>by
  rw [cP n (fun q=>by subst q;rw [hr] at h;cases h)];exact h
 obtain ⟨hn,hy,r0,h0,h1,h2,h3,h4,h5,h6⟩:=R.gap i _ hi
 rw [hr] at h0;cases h0
 exact {
  os:=R.os,tape:=R.tape,output:=R.output
  size:=by rw [World.putObj_size];exact R.size
  inj:=R.inj,dom:=fun i p hi=>by simpa using R.dom i p hi,sep:=R.sep
  g6:=fun n c t fr hz=>qc (R.g6 n c t fr hz)
  bz:=R.bz,news:=R.news,bF:=R.bF,bZ:=R.bZ,n0:=R.n0,cW:=R.cW
  gj:=fun j ps hj=>by
   by_cases hij:i=j
   ·subst hij;rw [List.getElem?_set_self R7] at hj;cases hj
   ·rw [List.getElem?_set_ne hij] at hj
    refine (R.gj j ps hj).imp id fun ⟨p,o,h1,h2,h3⟩=>?_
    obtain ⟨c,t,rfl,h4,h5,h6⟩:=h3
    exact ⟨p,_,h1,qc h2,c,t,rfl,h4,h5,h6⟩
  gap:=fun j g hj=>by
   by_cases hij:i=j
   ·subst hij
    rw [List.getElem?_set_self R7] at hj;cases hj
    exact ⟨hn,hy,_,GB,h1,h2,h3,rfl,rfl,h6⟩
   ·rw [List.getElem?_set_ne hij] at hj
    refine ⟨(R.gap j g hj).1,?_⟩
    have hg:=(R.gap j g hj).2
    cases g with
    |none=>trivial
    |some M=>
     obtain ⟨q1,r1,q2,q3⟩:=hg
     refine ⟨q1,r1,?_,q3⟩
     rw [cP M.l (fun x=>hij (R.yi i j L.l hy (by rw [q1,x])))];exact q2
  yi:=R.yi,yb:=R.yb
  old:=fun n hlt hno qt=>by
   rw [cP n (fun q=>?_)]
   ·exact R.old n hlt hno qt
   ·subst q
    rcases R.yb i _ hy with g|g
    ·exact qt g
    ·omega
  win:=fun i p hi=>by
   obtain ⟨o,o',h1,h2,h3⟩:=R.win i p hi
   obtain ⟨c,c',t,fr,rfl,rfl,h4⟩:=h3
   exact ⟨_,_,h1,qc h2,c,c',t,fr,rfl,rfl,h4⟩
  kr:=R.kr,iO:=by simpa using R.iO
  iZ:=fun q hq=>by
   refine ⟨?_,(R.iZ q hq).2⟩
   rw [cP q (fun x=>by subst x;have:=(R.iZ _ hq).1;rw [hr] at this;cases this)]
   exact (R.iZ q hq).1
  kf:=R.kf}
theorem qe:∀{h:List Blk} {i j:Nat} {L:Lp},sQ h j=some (i,L)→j≤i∧h[i-j]? =some (.g (some L))∧L.st= .ready
 | [],i,j,L,g=>by simp [sQ] at g
 |b::bs,i,j,L,g=>by
  simp only [sQ] at g
  split at g
  ·rename_i q hq
   cases g
   obtain ⟨h1,h2,h3⟩:=qe hq
   exact ⟨by omega,by rw [show i-j=(i-(j+1))+1 by omega,List.getElem?_cons_succ];exact h2,h3⟩
  ·split at g
   ·rename_i L'
    split at g
    ·rename_i hst
     cases g
     exact ⟨Nat.le_refl _,by rw [Nat.sub_self];rfl,hst⟩
    ·cases g
   ·cases g
theorem nX {e:Env}:∀(ps:List Tmp) (vs:List SV) (t:List (Option SV)) (t' ys:List Value),TR e t t'→LR e vs ys→ps.length=vs.length→
  TR e (vF t ps vs) ((ps.zip ys).foldl (fun (tm:Array Value) (q:Tmp×Value)=>tm.setIfInBounds q.1 q.2) ⟨t'⟩).toList
 | [],vs,t,t',ys,h,_,_=>by cases vs<;>simpa [vF] using h
 |i::is,[],t,t',ys,h,_,hl=>by simp at hl
 |i::is,v::vs,t,t',ys,h,⟨y,zs,h1,h2,q⟩,hl=>by
  subst q
  simp only [vF,List.zip_cons_cons,List.foldl_cons]
  have:=nX is vs (t.set i (some v)) (t'.set i y) zs (h.set h1 i) h2 (by simpa using hl)
  have hq:(⟨t'⟩:Array Value).setIfInBounds i y=⟨t'.set i y⟩:=by simp
  rw [hq];exact this
theorem Cm {Γ:bu} (hΓ:ag P Γ) {n:Nat} (hex:∀(ro:Option Nat) (k:Nat) (c:Code) (s s':St) (x:Exit),exec P Γ n k c s=some (x,s')→s'.ob=true→Tr P ro k c s x s'):p8 P (tL P Γ fun k=>exec P Γ n k):=by
 intro f vs h j v h' new g B e w args hl R hj
 cases f with
 |func f=>
  simp only [tL] at g
  cases hi:Γ.inl f with
  |none=>rw [hi] at g;exact hΓ.calls f vs h j v h' new g B e w args hl R hj
  |some fn=>
   obtain ⟨hf,hn,_⟩:=hΓ.inl f fn hi
   rw [hi] at g
   simp only at g
   split at g
   ·rename_i u h1 p lA
    split at g
    ·rename_i hc
     simp only [Option.some.injEq,Prod.mk.injEq] at g
     obtain ⟨rfl,rfl,rfl,rfl⟩:=g
     unfold GA at lA
     cases hb:fn.body with
     |none=>rw [hb] at lA;cases lA
     |some c=>
      rw [hb] at lA
      simp only at lA
      have key:∀(x:Exit) (s:St),(x= .ret∨x= .normal)→exec P Γ n h.length c ⟨aO fn.ntmps vs,h,true⟩=some (x,s)→((kJ P s.t s.h fn.results.toList).map fun q=>(oneOf q.1,s.h,aa s.ob q.2))=some (u,h1,true)→
        nT P (.func f) ⟨args⟩ w fun v' w'=>∃e',VR e' u v'∧Rel B e' (b6 (h1.take h.length) j (h1.drop h.length)) w'∧b9 e e' none:=fun x s hx hs hr=>by
       obtain ⟨⟨rs,q⟩,hres,h2⟩:=Option.map_eq_some_iff.1 hr
       simp only [Prod.mk.injEq,av] at h2
       obtain ⟨rfl,rfl,fL,rfl⟩:=h2
       refine .inr ⟨eZ hf hn (by rw [hb];simp) _ w,?_⟩
       refine (rm hf hb hx (hex none _ c _ s x hs fL) hres (Nat.le_refl _) hl R).mono ?_
       rintro en w' ⟨v',rfl,e',hv,S⟩
       exact ⟨v',rfl,qd R S hv hc⟩
      split at lA
      ·rename_i s hs;exact key _ s (.inl rfl) hs lA
      ·rename_i s hs;exact key _ s (.inr rfl) hs lA
      ·cases lA
    ·cases g
   ·cases g
 |yield l=>
  simp only [tL] at g
  split at g
  ·rename_i u h1 p hy
   simp only [Option.some.injEq,Prod.mk.injEq] at g
   obtain ⟨rfl,rfl,rfl,rfl⟩:=g
   exact (hΓ.EI l vs h u h1 hy B e w args hl R).mono fun v' w' ⟨e',h1,h2,h3⟩=>⟨e',h1,by rw [bM];exact h2,h3⟩
  split at g
  ·rename_i u h1 p hy
   split at g
   ·rename_i hc
    simp only [Option.some.injEq,Prod.mk.injEq] at g
    obtain ⟨rfl,rfl,rfl,rfl⟩:=g
    unfold Mh at hy
    split at hy
    ·cases hy
    ·rename_i i L hL
     obtain ⟨_,Sa,hst⟩:=qe hL
     rw [Nat.sub_zero] at Sa
     split at hy
     ·rename_i s1 hps Sb
      split at hy
      ·cases hy
      ·rename_i L1 MM
       have MM:=mo MM
       split at hy
       ·rename_i x s2 Yz hbody
        split at hy
        ·rename_i q L2 hq Sd
         have Sd:=mo Sd
         simp only [Option.some.injEq,Prod.mk.injEq,av,decide_eq_true_eq] at hy
         obtain ⟨rfl,rfl,aev,mS⟩:=hy
         have MN:=cZ n _ _ _ _ _ hbody aev
         simp only [av,decide_eq_true_eq] at MN
         obtain ⟨MN,qu⟩:=MN
         have Ei:L.l=l:=by have:=cZ n _ _ _ _ _ Sb MN;simpa using this
         have S0:=R.self
         obtain ⟨_,_,r,hr,hp,ha,hbd,_,_,hTR⟩:=S0.gap i _ Sa
         rw [Ei] at hr
         have II:=Nat.eq_of_beq_eq_true hps
         have hargs:(⟨args⟩:Array Value).size=r.params.size:=by rw [hp,II];exact hl.length
         refine ⟨r.fn,_,r.assign,r.body,run_yield hr hargs,fun ro nn=>?_⟩
         refine roundIn_of_wpIn (F:=wF ro) trivial ?_
         have htm:((r.params.zip ⟨args⟩).foldl (fun tmps (t,a)=>tmps.setIfInBounds t a) r.tmps)=⟨((L.ps.toList.zip args).foldl (fun (tm:Array Value) (q:Tmp×Value)=>tm.setIfInBounds q.1 q.2) ⟨r.tmps.toList⟩).toList⟩:=by
          rw [hp]
          apply Array.ext'
          rw [←Array.foldl_toList]
          simp
         rw [htm,ha,hbd]
         have YA:=nX L.ps.toList vs L.t r.tmps.toList args hTR (hl.mono (oR e h)) (by simpa using II)
         refine hex (some l) _ _ _ _ _ Sb MN (fP e h w) (e.bare h) w _ [] _ nn (Nat.le_refl _) YA S0 fun e1 w1 t1 YB S1=>?_
         obtain ⟨_,hy1,r1,I4,hp1,ha1,ajv,MO,_,ajw⟩:=S1.gap i _ MM
         rw [qu] at I4
         refine ⟨_,run_beginRound I4 (by rw [MO,Yz]),?_⟩
         have Cn:r1.pending=L1.fB:=by obtain ⟨_,_,r1',MP,_,_,_,_,h9,_⟩:=S1.gap i _ MM;rw [qu,I4] at MP;cases MP;exact h9
         have S1':Rel (fP e h w) e1 (s1.h.set i (.g (some {L1 with st:=.busy}))) (w1.putObj l (.loop {r1 with state:=.busy})):=by
          have:=S1.rq MM (r:=r1) (by rw [qu];exact I4) .busy L1.fB
          rw [←Cn] at this
          rw [qu] at this
          have wk:({L1 with st:=.busy}:Lp)={l:=l,t:=L1.t,ps:=L1.ps,qE:=L1.qE,body:=L1.body,st:=.busy,fB:=r1.pending}:=by rw [Cn, ←qu]
          rw [wk];exact this
         refine hex (some l) _ _ _ _ _ hbody aev (fP e h w) e1 _ t1 [] _ nn (Nat.le_refl _) YB S1' fun e2 w2 t2 ajy S2=>?_
         obtain ⟨_,hy2,r2,I6,_,_,_,_,_,_⟩:=S2.gap i _ Sd
         rw [mS] at I6
         have S3:=S2.rq Sd (r:=r2) (by rw [mS];exact I6) (if q.isNone then .ready else .done) q
         have fin:∃v w4,(Instr.endRound l q).run P w2= .ok v w4∧∃v',Ending.returned v= .returned v'∧∃e',VR e' (.bool q.isNone) v'∧Rel B e' (b6 ((s2.h.set i (.g (some {L2 with st:=if q.isNone then .ready else .done,fB:=q}))).take h.length) j ((s2.h.set i (.g (some {L2 with st:=if q.isNone then .ready else .done,fB:=q}))).drop h.length)) w4∧b9 e e' none:=by
          refine ⟨_,_,run_endRound q I6,_,rfl,?_⟩
          rw [mS] at S3
          have S3':Rel (fP e h w) e2 (s2.h.set i (.g (some {L2 with st:=if q.isNone then .ready else .done,fB:=q}))) (w2.putObj l (.loop {r2 with state:=if q.isNone then .ready else .done,pending:=q})):=by
           have wk:({L2 with st:=if q.isNone then .ready else .done,fB:=q}:Lp)={l:=l,t:=L2.t,ps:=L2.ps,qE:=L2.qE,body:=L2.body,st:=if q.isNone then .ready else .done,fB:=q}:=by rw [←mS]
           rw [wk];exact S3
          exact qd R S3' (v':=.bool q.isNone) rfl hc
         cases x<;>simp only [sR,Option.some.injEq,reduceCtorEq] at hq<;>subst hq<;>exact fin
        ·cases hy
       ·cases hy
     ·cases hy
   ·cases g
  ·cases g
 |_=>cases g
theorem EM {Γ:bu} (hΓ:ag P Γ):∀(n:Nat) (ro:Option Nat) (k:Nat),
  (∀(c:Code) (s s':St) (x:Exit),exec P Γ n k c s=some (x,s')→s'.ob=true→Tr P ro k c s x s')∧
  (∀(c:Code) (s s':St) (x:Exit),exec P Γ n k (.loop c) s=some (x,s')→s'.ob=true→iR P ro k c s x s'):=by
 intro n
 induction n with
 |zero=>exact fun ro k=>⟨fun _ _ _ _ e=>by simp [exec] at e,fun _ _ _ _ e=>by simp [exec] at e⟩
 |succ n ih=>
  intro ro k
  obtain ⟨MQ,ihB⟩:=ih ro k
  have hG:=Cm hΓ fun ro k c s s' x=>(ih ro k).1 c s s' x
  have hP:=EK hΓ fun k=>exec P Γ n k
  have hB:∀(c:Code) (s s':St) (x:Exit),exec P Γ (n+1) k (.loop c) s=some (x,s')→s'.ob=true→iR P ro k c s x s':=by
   intro c s s' x e fL
   simp only [exec] at e
   split at e
   ·rename_i s1 h1
    exact iR.step (MQ c s s1 .normal h1 (cZ n k _ s1 s' x e fL)) (ihB c s1 s' x e fL)
   ·rename_i hne
    have hx:x≠.normal:=fun q=>by subst q;exact hne s' e
    exact iR.leave (MQ c s s' x e fL) hx
  refine ⟨?_,hB⟩
  intro c s s' x e fL
  cases c
  case loop b=>exact iR.loop (hB b s s' x e fL)
  all_goals simp only [exec] at e
  case skip=>cases e;exact fun B e w t' d Q nn hB hl R hQ=>wpIn_skip (hQ e w t' hl R)
  case label=>cases e;exact fun B e w t' d Q nn hB hl R hQ=>wpIn_label (hQ e w t' hl R)
  case exit=>cases e;exact fun B e w t' d Q nn hB hl R hQ=>wpIn_exit (hQ e w t' hl R)
  case ret=>cases e;exact fun B e w t' d Q nn hB hl R hQ=>wpIn_ret (hQ e w t' hl R)
  case seq a b=>
   split at e
   ·rename_i s1 h1
    exact Tr.seq (MQ a s s1 .normal h1 (cZ n k _ s1 s' x e fL)) (MQ b s1 s' x e fL)
   ·rename_i hne
    have hx:x≠.normal:=fun q=>by subst q;exact hne s' e
    exact Tr.yH (MQ a s s' x e fL) hx
  case cond c a b=>
   split at e
   ·rename_i Yq;exact Tr.cond_true Yq (MQ a s s' x e fL)
   ·rename_i Yq;exact Tr.cond_false Yq (MQ b s s' x e fL)
   ·cases e
  case block id b=>
   split at e
   ·rename_i j s1 h1
    split at e
    ·rename_i hj
     cases e
     subst hj
     exact Tr.block (MQ b s s' _ h1 fL)
    ·rename_i hj
     cases e
     exact Tr.sx (MQ b s s' _ h1 fL) hj
   ·rename_i hne
    exact Tr.fN (MQ b s s' x e fL) fun j q=>by subst q;exact hne j s' e
  case scope b=>
   split at e
   ·cases e
   ·rename_i hne
    exact Tr.scope (MQ b s s' x e fL) fun l q=>by subst q;exact hne l s' e
  case region id ops draw=>
   split at e
   ·split at e
    ·rename_i s1 fs hm h1
     split at e
     case h_2=>cases e
     rename_i hd
     cases e
     exact fun B e w t' d Q nn hB hl R hQ=>ri hG hP hm hd h1 fL (fun i p hi=>Nat.lt_of_lt_of_le (R.kr i p hi) hB) hl R (fun e' w' t'' hm hl' R'=>by rw [←hm];exact hQ e' w' t'' hl' R') id
    ·cases e
   ·obtain ⟨s1,h1,h2⟩:=Option.map_eq_some_iff.1 e
    cases h2
    exact fun B e w t' d Q nn hB hl R hQ=>wpIn_region (mj hG _ _ _ h1 fL (fun i p hi=>Nat.lt_of_lt_of_le (R.kr i p hi) hB) hl R (fun e' w' t'' hm hl' R'=>by rw [←hm];exact hQ e' w' t'' hl' R'))
  all_goals cases e
theorem Tr.exec {Γ:bu} (hΓ:ag P Γ) {n:Nat} {c:Code} {s s':St} {x:Exit} (e:exec P Γ n k c s=some (x,s')) (fL:s'.ob=true):Tr P ro k c s x s':=(EM hΓ n ro k).1 c s s' x e fL
end
end Go.Sy
namespace Go.Sy
open Go
def ai (P:Program) (f:FuncId) (args:List SV) (h:List Blk) (v:SV) (h':List Blk):Prop:=
 ∀(B:dL) (e:Env) (w:World) (args':List Value),B.k≤h.length→LR e args args'→Rel B e h w→
  Calls P f ⟨args'⟩ w fun en w'=>∃v',en= .returned v'∧∃e',e'.m=e.m∧VR e' v v'∧Rel B e' h' w'
section
variable {P:Program}
theorem ai.Vx {f:FuncId} {fn:Func} (hf:P.funcs[f]? =some fn) {c:Code} (hb:fn.body=some c) {args:List SV} {h:List Blk} {x:Exit} {s:St} {vs:List SV} (hx:x= .ret∨x= .normal)
  (ht:Tr P none h.length c ⟨aO fn.ntmps args,h,true⟩ x s) (hr:kJ P s.t s.h fn.results.toList=some (vs,true)):ai P f args h (oneOf vs) s.h:=
 fun _ _ _ _ _ hl R=>Cl hf hb hx ht hr (Nat.le_refl _) hl R
theorem ai.dw {Γ:bu} (hΓ:ag P Γ) {f:FuncId} {fn:Func} (hf:P.funcs[f]? =some fn) {n:Nat} {args:List SV} {h h':List Blk} {v:SV} (g:br P Γ n fn args h=some (v,h',true)):ai P f args h v h':=by
 unfold br GA at g
 cases hb:fn.body with
 |none=>rw [hb] at g;cases g
 |some c=>
  rw [hb] at g
  simp only at g
  split at g
  all_goals (try (cases g;done))
  all_goals
   rename_i s hs
   obtain ⟨⟨vs,p⟩,hr,q⟩:=Option.map_eq_some_iff.1 g
   simp only [Prod.mk.injEq,av] at q
   obtain ⟨rfl,rfl,fL,rfl⟩:=q
   exact ai.Vx hf hb (by simp) (Tr.exec hΓ hs fL) hr
mutual
def de (l:List Nat):SV→Bool
 | .ptr b _ _=>l.contains b
 | .sl b _ _ _ _ _ _ _=>l.contains b
 | .agg ps=>ei l ps
 | .aT vs=>ei l vs
 | .iface _ x=>de l x
 | .fn _ a b=>ei l a&&ei l b
 |_=>true
def ei (l:List Nat):List SV→Bool
 | []=>true
 |x::xs=>de l x&&ei l xs
end
mutual
theorem iI {l:List Nat}:∀{v:SV} {j:Nat},de l v=true→uses j v=true→j∈l
 | .ptr b _ _,j,h,g=>by simp [de] at h;simp [uses] at g;subst g;exact h
 | .sl b _ _ _ _ _ _ _,j,h,g=>by simp [de] at h;simp [uses] at g;subst g;exact h
 | .agg ps,j,h,g=>dA (by simpa [de] using h) (by simpa [uses] using g)
 | .aT ps,j,h,g=>dA (by simpa [de] using h) (by simpa [uses] using g)
 | .iface _ x,j,h,g=>iI (v:=x) (by simpa [de] using h) (by simpa [uses] using g)
 | .fn _ a b,j,h,g=>by
  simp only [de,Bool.and_eq_true] at h
  simp only [uses,Bool.or_eq_true] at g
  rcases g with g|g
  ·exact dA h.1 g
  ·exact dA h.2 g
 | .bool _,_,_,g=>by simp [uses] at g
 | .int _ _,_,_,g=>by simp [uses] at g
 | .str _,_,_,g=>by simp [uses] at g
 | .nl _,_,_,g=>by simp [uses] at g
 | .ints _ _ _,_,_,g=>by simp [uses] at g
 | .ro _ _ _,_,_,g=>by simp [uses] at g
 | .iN _ _,_,_,g=>by simp [uses] at g
 | .oJ _ _ _ _,_,_,g=>by simp [uses] at g
 | .qQ _ _ _,_,_,g=>by simp [uses] at g
 | .uX _ _ _,_,_,g=>by simp [uses] at g
 | .o5 _ _ _ _ _ _ _,_,_,g=>by simp [uses] at g
theorem dA {l:List Nat}:∀{vs:List SV} {j:Nat},ei l vs=true→c6 j vs=true→j∈l
 | [],_,_,g=>by simp [c6] at g
 |x::xs,j,h,g=>by
  simp only [ei,Bool.and_eq_true] at h
  simp only [c6,Bool.or_eq_true] at g
  rcases g with g|g
  ·exact iI h.1 g
  ·exact dA h.2 g
end
def mO (h:List Blk):List Nat→Option (List (List SV))
 | []=>some []
 |i::is=>match h[i]?,mO h is with
  |some (.b ps),some l=>some (ps::l)
  |_,_=>none
theorem lB {h:List Blk}:∀{is:List Nat} {l:List (List SV)},mO h is=some l→l.length=is.length∧∀(j i:Nat),is[j]? =some i→∃ps,l[j]? =some ps∧h[i]? =some (.b ps)
 | [],l,g=>by simp only [mO,Option.some.injEq] at g;subst g;exact ⟨rfl,fun j i hj=>by simp at hj⟩
 |i::is,l,g=>by
  simp only [mO] at g
  split at g
  ·rename_i ps l' h1 h2
   cases g
   obtain ⟨h3,h4⟩:=lB h2
   refine ⟨by simp [h3],fun j a hj=>?_⟩
   cases j with
   |zero=>simp at hj;subst hj;exact ⟨ps,rfl,h1⟩
   |succ j=>simp at hj;obtain ⟨qs,h5,h6⟩:=h4 j a hj;exact ⟨qs,by simpa using h5,h6⟩
  ·cases g
def aew (is:List Nat) (v:SV) (h:List Blk):Option (SV×List Blk):=match mO h is with
 |some l=>if de is v&&l.all (ei is)&&decide is.Nodup then some (mL (fun b=>is.idxOf b) v,l.map fun ps=>.b (hU (fun b=>is.idxOf b) ps)) else none
 |none=>none
theorem cK (s:Nat→Nat):∀ps:List SV,aC (hU s ps)=aC ps
 | []=>rfl
 |x::xs=>by
  simp only [hU,aC,cK s xs]
  cases x<;>rfl
theorem ai.KE {f:FuncId} {args:List SV} {v u:SV} {h1 new:List Blk} (is:List Nat) (g:ai P f args [] v h1) (hs:aew is v h1=some (u,new)):ai P f args [] u new:=by
 unfold aew at hs
 split at hs
 ·rename_i l hl
  split at hs
  ·rename_i hc
   simp only [Bool.and_eq_true,decide_eq_true_eq,List.all_eq_true] at hc
   obtain ⟨⟨hv,hall⟩,x5⟩:=hc
   cases hs
   obtain ⟨hlen,wQ⟩:=lB hl
   intro B e w args' hB hl' R
   refine (g B e w args' hB hl' R).mono ?_
   rintro en w' ⟨v',rfl,e',hm,R9,S⟩
   have RV:∀i p,B.e.r i≠some p:=fun i p hi=>by have:=S.kr i p hi;simp at hB;omega
   let e2:Env:={e' with r:=fun j=>(is[j]?).bind e'.r}
   have hidx:∀i,i∈is→is[is.idxOf i]? =some i:=fun i hi=>by
    rw [List.getElem?_eq_getElem (List.idxOf_lt_length_of_mem hi)]
    simp
   have map:∀i p,i∈is→e'.r i=some p→e2.r (is.idxOf i)=some p:=fun i p hi hp=>by
    show (is[is.idxOf i]?).bind e'.r=some p
    rw [hidx i hi];exact hp
   have I6:∀j p,e2.r j=some p→∃i,is[j]? =some i∧e'.r i=some p:=fun j p hj=>Option.bind_eq_some_iff.1 hj
   refine ⟨v',rfl,e2,hm,VR.mL (e:=e') (e':=e2) (fun _ _ h=>h) (Nat.le_refl _) v v' (fun j p hu hp=>map j p (iI hv hu) hp) R9,?_⟩
   exact {
    os:=S.os,tape:=S.tape,output:=S.output,size:=S.size
    inj:=fun i j p q hi hj hpq=>by
     obtain ⟨a,h1,h2⟩:=I6 i p hi
     obtain ⟨b,h3,h4⟩:=I6 j q hj
     have:=S.inj a b p q h2 h4 hpq
     subst this
     exact (List.getElem?_inj (List.getElem?_eq_some_iff.1 h1).1 x5).1 (h1.trans h3.symm)
    dom:=fun i p hi=>by
     obtain ⟨a,h1,_⟩:=I6 i p hi
     have:=(List.getElem?_eq_some_iff.1 h1).1
     simpa [hlen] using this
    sep:=fun i p hi=>by obtain ⟨a,_,h2⟩:=I6 i p hi;exact S.sep a p h2
    g6:=S.g6,bz:=S.bz
    news:=fun i p hi=>by
     obtain ⟨a,_,h2⟩:=I6 i p hi
     rcases S.news a p h2 with h|h
     ·exact absurd h (RV a p)
     ·exact .inr h
    bF:=fun i p hi=>absurd hi (RV i p)
    bZ:=S.bZ,n0:=S.n0,cW:=S.cW
    gj:=fun j ps hj=>by
     simp only [List.getElem?_map] at hj
     cases hq:l[j]? with
     |none=>simp [hq] at hj
     |some qs=>
      simp only [hq,Option.map_some,Option.some.injEq,Blk.b.injEq] at hj
      subst hj
      have hjl:j<is.length:=by have:=(List.getElem?_eq_some_iff.1 hq).1;omega
      obtain ⟨qs',h1,h2⟩:=wQ j _ (List.getElem?_eq_getElem hjl)
      rw [hq] at h1;cases h1
      have Ad:e2.r j=e'.r is[j]:=by show (is[j]?).bind e'.r=_;rw [List.getElem?_eq_getElem hjl];rfl
      rcases S.gj _ qs h2 with ⟨g1,g2⟩|⟨p,o,g1,g2,c,t,rfl,g3,g4,g5⟩
      ·exact .inl ⟨by rw [cK];exact g1,by rw [Ad];exact g2⟩
      ·refine .inr ⟨p,_,by rw [Ad];exact g1,g2,c,t,rfl,g3,by rw [cK];exact g4,?_⟩
       rw [cK]
       exact PR.mL (e:=e') (e':=e2) (fun _ _ h=>h) (Nat.le_refl _) qs _ (fun b p hu hp=>map b p (dA (hall qs (List.mem_of_getElem? hq)) hu) hp) g5
    gap:=fun j g hj=>by
     simp only [List.getElem?_map] at hj
     cases hq:l[j]? with
     |none=>simp [hq] at hj
     |some qs=>simp [hq] at hj
    yi:=S.yi,yb:=S.yb,old:=S.old
    win:=fun i p hi=>absurd hi (RV i p)
    kr:=fun i p hi=>absurd hi (RV i p)
    iO:=by simp at hB;omega
    iZ:=S.iZ,kf:=S.kf}
  ·cases hs
 ·cases hs
def jq (w:World):Nat→Option (Array Value×TypeId×(Nat×Nat)):=fun n=>match w.heap[n]? with
 |some (.cells c t fr)=>some (c,t,fr)
 |_=>none
def ru (h:List Blk):List SV→Option (List (List Int)×Bool)
 | []=>some ([],true)
 |p::ps=>match p,ru h ps with
  | .ro _ .u8 xs,some (l,b)=>some (xs::l,b)
  | .sl c o i 1 len cap ex wh,some (l,b)=>match dI h (.sl c o i 1 len cap ex wh) with
   |some ([.ints .u8 n xs],q)=>some (xs::l,aa (aa b q) (decide (xs.length=n)))
   |_=>none
  | .nl (.slice none 0 0),some (l,b)=>some ([]::l,b)
  |_,_=>none
mutual
def mU:SV→SV
 | .ro _ k xs=>.ro false k xs
 | .iN _ xss=>.iN false xss
 | .oJ _ z len g=>.oJ false z len (fun i=>pJ (g i))
 | .uX _ xss i=>.uX false xss i
 | .o5 _ z len g e o i=>.o5 false z len (fun i=>pJ (g i)) e o i
 | .agg ps=>.agg (pJ ps)
 | .aT vs=>.aT (pJ vs)
 | .iface t x=>.iface t (mU x)
 | .fn f a b=>.fn f (pJ a) (pJ b)
 |v=>v
def pJ:List SV→List SV
 | []=>[]
 |x::xs=>mU x::pJ xs
end
mutual
def bQ (h:List Blk):SV→Option (SV×Bool×Bool)
 | .bool b=>some (.bool b,true,false)
 | .int k n=>some (.int k n,true,false)
 | .str s=>some (.str s,true,false)
 | .nl v=>some (.nl v,true,false)
 | .ints k n xs=>some (.ints k n xs,true,false)
 | .ro _ k xs=>some (.ro false k xs,true,false)
 | .iN _ xss=>some (.iN false xss,true,false)
 | .oJ _ z len g=>some (.oJ false z len (fun i=>pJ (g i)),true,false)
 | .sl b o i 1 len cap ex wh=>match dI h (.sl b o i 1 len cap ex wh) with
  |some ([.ints k n xs],p)=>some (.ro false k xs,aa p (decide (xs.length=n)),true)
  |some (ps,p)=>(ru h ps).map fun q=>(.iN false q.1,aa p q.2,true)
  |none=>none
 | .agg ps=>match kD h ps with
  |some (l,p,t)=>some (.agg l,p,t)
  |none=>none
 | .iface t x=>match bQ h x with
  |some (y,p,b)=>some (.iface t y,p,b)
  |none=>none
 |_=>none
def kD (h:List Blk):List SV→Option (List SV×Bool×Bool)
 | []=>some ([],true,false)
 |x::xs=>match bQ h x,kD h xs with
  |some (y,p,a),some (l,q,b)=>some (y::l,aa p q,a||b)
  |_,_=>none
end
theorem wT {h h2:List Blk} (hle:I1 h h2) {v:SV} {q:List SV×Bool} (g:dI h v=some q):dI h2 v=some q:=by
 cases v
 case sl b o i z len cap ex wh=>
  simp only [dI] at g ⊢
  cases hb:h[b]? with
  |none=>rw [hb] at g;cases g
  |some bl=>
  cases bl with
  |g _=>rw [hb] at g;cases g
  |b ps=>rw [hb] at g;rw [hle b ps hb];exact g
 all_goals first|exact g|(unfold dI at g ⊢;split at g<;>first|(cases g;done)|(rename_i q1;cases q1;done)|(rename_i q1;cases q1;exact g))
theorem rz {h h2:List Blk} (hle:I1 h h2):∀{ps:List SV} {q:List (List Int)×Bool},ru h ps=some q→ru h2 ps=some q
 | [],q,g=>g
 |p::ps,q,g=>by
  unfold ru at g ⊢
  split at g
  ·rename_i f xs l b hr;rw [rz hle hr];exact g
  ·rename_i c o i len cap ex wh l b hr
   rw [rz hle hr]
   split at g
   ·rename_i n xs q' hc;simp only [wT hle hc];exact g
   ·cases g
  ·rename_i l b hr;rw [rz hle hr];exact g
  ·cases g
mutual
theorem gB {h h2:List Blk} (hle:I1 h h2):∀{v:SV} {q:SV×Bool×Bool},bQ h v=some q→bQ h2 v=some q
 | .bool _,q,g=>by simp only [bQ] at g ⊢;exact g
 | .int _ _,q,g=>by simp only [bQ] at g ⊢;exact g
 | .str _,q,g=>by simp only [bQ] at g ⊢;exact g
 | .nl _,q,g=>by simp only [bQ] at g ⊢;exact g
 | .ints _ _ _,q,g=>by simp only [bQ] at g ⊢;exact g
 | .ro _ _ _,q,g=>by simp only [bQ] at g ⊢;exact g
 | .iN _ _,q,g=>by simp only [bQ] at g ⊢;exact g
 | .sl b o i z len cap ex wh,q,g=>by
  by_cases hz:z=1
  ·subst hz
   simp only [bQ] at g ⊢
   split at g
   ·rename_i k n xs p hc;simp only [wT hle hc];exact g
   ·rename_i ps p hno hc
    rw [wT hle hc]
    obtain ⟨x,hx,hq⟩:=Option.map_eq_some_iff.1 g
    split
    ·rename_i k n xs p' hc'
     cases hc'
     exact absurd rfl (hno _ _ _)
    ·rename_i hc'
     cases hc'
     rw [rz hle hx]
     exact congrArg some hq
    ·rename_i hc';cases hc'
   ·cases g
  ·exfalso
   unfold bQ at g
   split at g<;>first|(rename_i h1;cases h1;done)|skip
   all_goals first|(rename_i h1;cases h1;exact hz rfl)|(cases g)
 | .agg ps,q,g=>by
  simp only [bQ] at g ⊢
  split at g
  ·rename_i l p t hl;rw [Af hle hl];exact g
  ·cases g
 | .iface _ x,q,g=>by
  simp only [bQ] at g ⊢
  split at g
  ·rename_i y p t hl;rw [gB hle hl];exact g
  ·cases g
 | .ptr _ _ _,q,g=>by simp [bQ] at g
 | .oJ _ _ _ _,q,g=>by simp only [bQ] at g ⊢;exact g
 | .qQ _ _ _,q,g=>by simp [bQ] at g
 | .uX _ _ _,q,g=>by simp [bQ] at g
 | .o5 _ _ _ _ _ _ _,q,g=>by simp [bQ] at g
 | .aT _,q,g=>by simp [bQ] at g
 | .fn _ _ _,q,g=>by simp [bQ] at g
theorem Af {h h2:List Blk} (hle:I1 h h2):∀{v:List SV} {q:List SV×Bool×Bool},kD h v=some q→kD h2 v=some q
 | [],q,g=>by simp only [kD] at g ⊢;exact g
 |x::xs,q,g=>by
  simp only [kD] at g ⊢
  split at g
  ·rename_i y p a l q' b hx hl
   rw [gB hle hx,Af hle hl];exact g
  ·cases g
end
theorem rD {w:World} {n:Nat} {c:Array Value} {t:TypeId} {fr:Nat×Nat} (h:w.heap[n]? =some (.cells c t fr)):jq w n=some (c,t,fr):=by unfold jq;rw [h]
theorem s6 {w:World} {n:Nat} {c:Array Value} {t:TypeId} {fr:Nat×Nat} (h:jq w n=some (c,t,fr)):w.heap[n]? =some (.cells c t fr):=by
 unfold jq at h
 split at h
 ·rename_i c' t' fr' hq;cases h;exact hq
 ·cases h
def jr (z:Nat→Option (Array Value×TypeId×(Nat×Nat))) (n:Nat):Env:=⟨fun _=>none,z,n,[],fun _=>none⟩
section
variable {e:Env} {B:dL} {h:List Blk} {w:World}
theorem pz.any {e':Env} (hz:∀n o,e.z n=some o→e'.z n=some o) {f:Bool} {k:IntKind} {xs:List Int} {v:Value} (g:pz e f k xs v):pz e' false k xs v:=by
 rcases g with h|⟨n,o,cap,c,t,fr,h1,h2,h3,h4,h5,h6⟩
 ·exact .inl h
 ·exact .inr ⟨n,o,cap,c,t,fr,h1,hz _ _ h2,(fun q=>by cases q),h4,h5,h6⟩
theorem wU {b o i len cap:Nat} {ex wh:Bool} {q:List SV×Bool} (hc:dI h (.sl b o i 1 len cap ex wh)=some q) (h0:len≠0):h[b]? ≠some (.b []):=fun hb=>by
 have key:∀a n:Nat,n≠0→ID [] a n=none:=fun a n hn=>by
  cases a with
  |zero=>cases n with
   |zero=>exact absurd rfl hn
   |succ n=>rfl
  |succ a=>rfl
 simp only [dI,hb] at hc
 cases o with
 |succ o=>simp [kS] at hc
 |zero=>
  simp only [kS] at hc
  rw [key _ _ (by simpa using h0)] at hc
  cases hc
theorem MR (R:Rel B e h w) {zz:Nat→Option (Array Value×TypeId×(Nat×Nat))} (hZ:∀(i:Nat) (p:Pl) (c:Array Value) (t:TypeId),h[i]? ≠some (.b [])→e.r i=some p→w.heap[p.n]? =some (.cells c t (0,0))→zz p.n=some (c,t,(0,0))) {b o i len cap n:Nat} {ex wh:Bool} {k:IntKind} {xs:List Int} {v':Value} (hc:dI h (.sl b o i 1 len cap ex wh)=some ([.ints k n xs],true)) (hn:xs.length=n) (hv:VR e (.sl b o i 1 len cap ex wh) v') (m:Nat):
  pz (jr zz m) false k xs v':=by
 obtain ⟨ys,hys,u5,_,hf⟩:=bV (P:=default) (z:=1) R hc (n:=len) rfl hv rfl
 obtain ⟨us,Be,lg⟩:=hys
 rw [PR] at Be;subst Be
 rw [List.append_nil,aG hn] at lg
 rw [Nat.mul_one] at u5
 have uq:xs.length=len:=by rw [←u5,lg,az]
 have nil:len=0→xs=[]:=fun h0=>List.length_eq_zero_iff.1 (by omega)
 rcases hv with ⟨h0,_,a,rfl⟩|⟨p,cap',a,hp,rfl,ha,_,_,hlc,IV⟩
 ·exact .inl ⟨nil h0,a,0,rfl,fun _=>rfl⟩
 ·by_cases h0:len=0
  ·exact .inl ⟨nil h0,_,cap',by rw [h0],fun q=>by cases q⟩
  ·have hc0:cap'≠0:=by omega
   obtain ⟨c,t,hcell,hsz⟩:=R.fm hp
   have GD:=ha hc0
   have Yk:=IV hc0
   have hr:=hf len (Nat.le_refl _)
   rw [lf hcell (by omega),Nat.mul_one,List.take_of_length_le (l:=ys) (by omega)] at hr
   have fE:(c.toList.drop a).take len=ys:=congrArg Array.toList (Result.ok.inj hr).1
   exact .inr ⟨p.n,a,cap',c,t,(0,0),by rw [uq],hZ _ p c t (wU hc h0) hp hcell,(fun q=>by cases q),by rw [←lg, ←fE,uq],by omega,by omega⟩
theorem tW (R:Rel B e h w) {zz:Nat→Option (Array Value×TypeId×(Nat×Nat))} (hZ:∀(i:Nat) (p:Pl) (c:Array Value) (t:TypeId),h[i]? ≠some (.b [])→e.r i=some p→w.heap[p.n]? =some (.cells c t (0,0))→zz p.n=some (c,t,(0,0))) (ja:∀n x,e.z n=some x→zz n=some x) (m:Nat):∀{ps:List SV} {l:List (List Int)} {ys:List Value},ru h ps=some (l,true)→PR e ps ys→
  ys.length=l.length∧∀(i:Nat) (xs:List Int),l[i]? =some xs→∃y,ys[i]? =some y∧pz (jr zz m) false .u8 xs y
 | [],l,ys,g,hp=>by
  simp only [ru,Option.some.injEq,Prod.mk.injEq,and_true] at g
  subst g
  rw [PR] at hp;subst hp
  exact ⟨rfl,fun i xs hi=>by simp at hi⟩
 |p::ps,l,ys,g,hp=>by
  have fin:∀{xs:List Int} {l':List (List Int)},aU p=true→ru h ps=some (l',true)→l=xs::l'→(∀y,VR e p y→pz (jr zz m) false .u8 xs y)→
    ys.length=l.length∧∀(i:Nat) (xs:List Int),l[i]? =some xs→∃y,ys[i]? =some y∧pz (jr zz m) false .u8 xs y:=fun {xs l'} hn hr hl hy=>by
   subst hl
   obtain ⟨y,zs,h1,h2,rfl⟩:=(PR.cons hn).1 hp
   obtain ⟨h3,h4⟩:=tW R hZ ja m hr h2
   refine ⟨by simp [h3],fun i us hi=>?_⟩
   cases i with
   |zero=>simp at hi;subst hi;exact ⟨y,rfl,hy y h1⟩
   |succ i=>simp at hi;obtain ⟨u,hu,hv⟩:=h4 i us hi;exact ⟨u,by simpa using hu,hv⟩
  unfold ru at g
  split at g
  ·rename_i f xs l' b hr
   simp only [Option.some.injEq,Prod.mk.injEq] at g
   obtain ⟨rfl,rfl⟩:=g
   exact fin rfl hr rfl fun y hy=>pz.any (e:=e) ja hy
  ·rename_i c o i len cap ex wh l' b hr
   split at g
   ·rename_i n xs q hc
    simp only [Option.some.injEq,Prod.mk.injEq,av,decide_eq_true_eq] at g
    obtain ⟨rfl,⟨rfl,rfl⟩,hn⟩:=g
    exact fin rfl hr rfl fun y hy=>MR R hZ hc hn hy m
   ·cases g
  ·rename_i l' b hr
   simp only [Option.some.injEq,Prod.mk.injEq] at g
   obtain ⟨rfl,rfl⟩:=g
   exact fin rfl hr rfl fun y hy=>by rw [VR] at hy;subst hy;exact .inl ⟨rfl,none,0,rfl,fun _=>rfl⟩
  ·cases g
theorem YC (R:Rel B e h w) {zz:Nat→Option (Array Value×TypeId×(Nat×Nat))} (hZ:∀(i:Nat) (p:Pl) (c:Array Value) (t:TypeId),h[i]? ≠some (.b [])→e.r i=some p→w.heap[p.n]? =some (.cells c t (0,0))→zz p.n=some (c,t,(0,0))) (ja:∀n x,e.z n=some x→zz n=some x) {b o i len cap:Nat} {ex wh:Bool} {u:SV} {t:Bool} {v':Value} (g:bQ h (.sl b o i 1 len cap ex wh)=some (u,true,t)) (hv:VR e (.sl b o i 1 len cap ex wh) v') (m:Nat):t=true∧VR (jr zz m) u v':=by
 simp only [bQ] at g
 split at g
 ·rename_i k n xs p hc
  simp only [Option.some.injEq,Prod.mk.injEq,av,decide_eq_true_eq] at g
  obtain ⟨rfl,⟨rfl,hn⟩,rfl⟩:=g
  exact ⟨rfl,MR R hZ hc hn hv m⟩
 ·rename_i ps p _ hc
  obtain ⟨⟨l,q⟩,hr,h2⟩:=Option.map_eq_some_iff.1 g
  simp only [Prod.mk.injEq,av] at h2
  obtain ⟨rfl,⟨rfl,rfl⟩,rfl⟩:=h2
  refine ⟨rfl,?_⟩
  obtain ⟨ys,hys,u5,_,hf⟩:=bV (P:=default) (z:=1) R hc (n:=len) rfl hv rfl
  rw [Nat.mul_one] at u5
  obtain ⟨h3,h4⟩:=tW R hZ ja m hr hys
  have hll:l.length=len:=by omega
  have nil:len=0→l=[]:=fun h0=>List.length_eq_zero_iff.1 (by omega)
  show P0 _ _ _ _
  rcases hv with ⟨h0,_,a,rfl⟩|⟨p,cap',a,hp,rfl,ha,_,_,hlc,IV⟩
  ·exact .inl ⟨nil h0,a,0,rfl,fun _=>rfl⟩
  ·by_cases h0:len=0
   ·exact .inl ⟨nil h0,_,cap',by rw [h0],fun q=>by cases q⟩
   ·have hc0:cap'≠0:=by omega
    obtain ⟨c,t,hcell,hsz⟩:=R.fm hp
    have GD:=ha hc0
    have Yk:=IV hc0
    have hr:=hf len (Nat.le_refl _)
    rw [lf hcell (by omega),Nat.mul_one,List.take_of_length_le (l:=ys) (by omega)] at hr
    have fE:(c.toList.drop a).take len=ys:=congrArg Array.toList (Result.ok.inj hr).1
    refine .inr ⟨p.n,a,cap',c,t,(0,0),by rw [hll],hZ _ p c t (wU hc h0) hp hcell,(fun q=>by cases q),fun i xs hi=>?_,by omega,by omega⟩
    obtain ⟨y,hy,hro⟩:=h4 i xs hi
    rw [←fE] at hy
    have R7:i<len:=by rw [←hll];exact (List.getElem?_eq_some_iff.1 hi).1
    rw [List.getElem?_take_of_lt R7,List.getElem?_drop] at hy
    exact ⟨y,hy,hro⟩
 ·cases g
theorem nY {v u:SV} {p t:Bool} (g:bQ h v=some (u,p,t)) (hn:aU v=true):aU u=true:=by
 unfold bQ at g
 split at g
 case h_5=>cases hn
 case h_9=>
  split at g
  ·cases g;rfl
  ·obtain ⟨q,_,h2⟩:=Option.map_eq_some_iff.1 g;cases h2;rfl
  ·cases g
 all_goals first
  |(cases g;done)
  |(cases g;rfl)
  |(split at g<;>first|(cases g;rfl)|(cases g;done))
mutual
theorem VR.mU {e:Env} {zz:Nat→Option (Array Value×TypeId×(Nat×Nat))} (ja:∀n x,e.z n=some x→zz n=some x) (m:Nat) (hr:∀j,e.r j=none):∀{v:SV} {v':Value},VR e v v'→VR (jr zz m) (Sy.mU v) v'
 | .bool _,_,h=>h
 | .int _ _,_,h=>h
 | .str _,_,h=>h
 | .nl _,_,h=>h
 | .ints _ _ _,_,h=>h
 | .ptr b _ _,_,⟨p,h1,_⟩=>by rw [hr] at h1;cases h1
 | .sl b _ _ _ _ _ _ _,_,h=>by
  rcases h with h|⟨p,c,a,h1,h2⟩
  ·exact .inl h
  ·rw [hr] at h1;cases h1
 | .ro _ _ _,_,h=>pz.any (e:=e) ja h
 | .iN _ _,_,h=>by
  rcases h with h|⟨n,o,cap,c,t,fr,h1,h2,h3,h4,h5,h6⟩
  ·exact .inl h
  ·exact .inr ⟨n,o,cap,c,t,fr,h1,ja _ _ h2,(fun q=>by cases q),(fun i xs hi=>(h4 i xs hi).imp fun y ⟨a,b⟩=>⟨a,pz.any (e:=e) ja b⟩),h5,h6⟩
 | .oJ f z len g,_,h=>by
  rcases h with h|⟨n,o,cap,c,t,fr,h1,h2,h3,h4,h5,h6⟩
  ·exact .inl h
  ·exact .inr ⟨n,o,cap,c,t,fr,h1,ja _ _ h2,(fun q=>by cases q),(fun i hi=>PR.mU (e:=⟨fun _=>none,e.z,e.n0,[],fun _=>none⟩) ja m (fun _=>rfl) (h4 i hi)),h5,h6⟩
 | .qQ _ _ _,_,⟨n,o,c,t,fr,h1,h2,h3⟩=>⟨n,o,c,t,fr,h1,ja _ _ h2,h3⟩
 | .uX _ _ _,_,⟨n,o,c,t,fr,h1,h2,h3⟩=>⟨n,o,c,t,fr,h1,ja _ _ h2,fun i xs hi=>(h3 i xs hi).imp fun y ⟨a,b⟩=>⟨a,pz.any (e:=e) ja b⟩⟩
 | .o5 _ z len g el o i,_,⟨n,o0,c,t,fr,h1,h2,h3,h4⟩=>
  ⟨n,o0,c,t,fr,h1,ja _ _ h2,fun i hi=>PR.mU (e:=⟨fun _=>none,e.z,e.n0,[],fun _=>none⟩) ja m (fun _=>rfl) (h3 i hi),h4⟩
 | .agg ps,_,⟨ys,h1,h2⟩=>⟨ys,PR.mU ja m hr h1,h2⟩
 | .aT vs,_,⟨ys,h1,h2⟩=>⟨ys,LR.mU ja m hr h1,h2⟩
 | .iface _ x,_,⟨y,h1,h2⟩=>⟨y,VR.mU ja m hr h1,h2⟩
 | .fn _ a b,_,⟨ys,us,h1,h2,h3⟩=>⟨ys,us,LR.mU ja m hr h1,LR.mU ja m hr h2,h3⟩
theorem LR.mU {e:Env} {zz:Nat→Option (Array Value×TypeId×(Nat×Nat))} (ja:∀n x,e.z n=some x→zz n=some x) (m:Nat) (hr:∀j,e.r j=none):∀{vs:List SV} {ys:List Value},LR e vs ys→LR (jr zz m) (pJ vs) ys
 | [],_,h=>h
 |_::_,_,⟨y,zs,h1,h2,h3⟩=>⟨y,zs,VR.mU ja m hr h1,LR.mU ja m hr h2,h3⟩
theorem PR.mU {e:Env} {zz:Nat→Option (Array Value×TypeId×(Nat×Nat))} (ja:∀n x,e.z n=some x→zz n=some x) (m:Nat) (hr:∀j,e.r j=none):∀{vs:List SV} {ys:List Value},PR e vs ys→PR (jr zz m) (pJ vs) ys
 | [],_,h=>h
 |x::xs,_,h=>by
  have ih:=fun (zs:List Value) (h:PR e xs zs)=>PR.mU ja m hr h
  have iv:=fun (y:Value) (h:VR e x y)=>VR.mU ja m hr h
  cases x<;>first
   |(obtain ⟨zs,h1,h2⟩:=h;exact ⟨zs,ih zs h1,h2⟩)
   |(obtain ⟨y,zs,h1,h2,h3⟩:=h;exact ⟨y,zs,iv y h1,ih zs h2,h3⟩)
end
mutual
theorem mq (R:Rel B e h w) {zz:Nat→Option (Array Value×TypeId×(Nat×Nat))} (ja:∀n x,e.z n=some x→zz n=some x) {T:Bool} (hT:T=true→∀(i:Nat) (p:Pl) (c:Array Value) (t:TypeId),h[i]? ≠some (.b [])→e.r i=some p→w.heap[p.n]? =some (.cells c t (0,0))→zz p.n=some (c,t,(0,0))) (m:Nat):∀{v u:SV} {t:Bool} {v':Value},bQ h v=some (u,true,t)→(t=true→T=true)→VR e v v'→VR (jr zz m) u v'
 | .bool _,u,t,v',g,_,hv=>by simp only [bQ,Option.some.injEq,Prod.mk.injEq] at g;obtain ⟨rfl,_⟩:=g;exact hv
 | .int _ _,u,t,v',g,_,hv=>by simp only [bQ,Option.some.injEq,Prod.mk.injEq] at g;obtain ⟨rfl,_⟩:=g;exact hv
 | .str _,u,t,v',g,_,hv=>by simp only [bQ,Option.some.injEq,Prod.mk.injEq] at g;obtain ⟨rfl,_⟩:=g;exact hv
 | .nl _,u,t,v',g,_,hv=>by simp only [bQ,Option.some.injEq,Prod.mk.injEq] at g;obtain ⟨rfl,_⟩:=g;exact hv
 | .ints _ _ _,u,t,v',_,_,hv=>hv.elim
 | .ptr _ _ _,u,t,v',g,_,_=>by simp [bQ] at g
 | .sl b o i z len cap ex wh,u,t,v',g,ht,hv=>by
  by_cases hz:z=1
  ·subst hz
   have h1:t=true:=by
    simp only [bQ] at g
    split at g
    ·simp only [Option.some.injEq,Prod.mk.injEq] at g;exact g.2.2.symm
    ·obtain ⟨q,_,h2⟩:=Option.map_eq_some_iff.1 g;simp only [Prod.mk.injEq] at h2;exact h2.2.2.symm
    ·cases g
   exact (YC R (hT (ht h1)) ja g hv m).2
  ·exfalso
   unfold bQ at g
   split at g<;>first|(rename_i h1;cases h1;done)|skip
   all_goals first|(rename_i h1;cases h1;exact hz rfl)|(cases g)
 | .ro f k xs,u,t,v',g,_,hv=>by
  simp only [bQ,Option.some.injEq,Prod.mk.injEq] at g
  obtain ⟨rfl,_⟩:=g
  exact pz.any (e:=e) ja hv
 | .iN f xss,u,t,v',g,_,hv=>by
  simp only [bQ,Option.some.injEq,Prod.mk.injEq] at g
  obtain ⟨rfl,_⟩:=g
  rcases hv with h|⟨n,o,cap,c,t,fr,h1,h2,h3,h4,h5,h6⟩
  ·exact .inl h
  ·exact .inr ⟨n,o,cap,c,t,fr,h1,ja _ _ h2,(fun q=>by cases q),(fun i xs hi=>(h4 i xs hi).imp fun y ⟨a,b⟩=>⟨a,pz.any (e:=e) ja b⟩),h5,h6⟩
 | .oJ f z len gg,u,t,v',g,_,hv=>by
  simp only [bQ,Option.some.injEq,Prod.mk.injEq] at g
  obtain ⟨rfl,_⟩:=g
  rcases hv with h|⟨n,o,cap,c,t,fr,h1,h2,h3,h4,h5,h6⟩
  ·exact .inl h
  ·exact .inr ⟨n,o,cap,c,t,fr,h1,ja _ _ h2,(fun q=>by cases q),(fun i hi=>PR.mU (e:=⟨fun _=>none,e.z,e.n0,[],fun _=>none⟩) ja m (fun _=>rfl) (h4 i hi)),h5,h6⟩
 | .qQ _ _ _,u,t,v',g,_,_=>by simp [bQ] at g
 | .uX _ _ _,u,t,v',g,_,_=>by simp [bQ] at g
 | .o5 _ _ _ _ _ _ _,u,t,v',g,_,_=>by simp [bQ] at g
 | .agg ps,u,t,v',g,ht,hv=>by
  simp only [bQ] at g
  split at g
  ·rename_i l p t' hl
   simp only [Option.some.injEq,Prod.mk.injEq] at g
   obtain ⟨rfl,rfl,rfl⟩:=g
   obtain ⟨ys,hys,rfl⟩:=hv
   exact ⟨ys,qf R ja hT m hl ht hys,rfl⟩
  ·cases g
 | .aT _,u,t,v',g,_,_=>by simp [bQ] at g
 | .iface ty x,u,t,v',g,ht,hv=>by
  simp only [bQ] at g
  split at g
  ·rename_i y p t' hl
   simp only [Option.some.injEq,Prod.mk.injEq] at g
   obtain ⟨rfl,rfl,rfl⟩:=g
   obtain ⟨y',hy,rfl⟩:=hv
   exact ⟨y',mq R ja hT m hl ht hy,rfl⟩
  ·cases g
 | .fn _ _ _,u,t,v',g,_,_=>by simp [bQ] at g
theorem qf (R:Rel B e h w) {zz:Nat→Option (Array Value×TypeId×(Nat×Nat))} (ja:∀n x,e.z n=some x→zz n=some x) {T:Bool} (hT:T=true→∀(i:Nat) (p:Pl) (c:Array Value) (t:TypeId),h[i]? ≠some (.b [])→e.r i=some p→w.heap[p.n]? =some (.cells c t (0,0))→zz p.n=some (c,t,(0,0))) (m:Nat):∀{vs us:List SV} {t:Bool} {ys:List Value},kD h vs=some (us,true,t)→(t=true→T=true)→PR e vs ys→PR (jr zz m) us ys
 | [],us,t,ys,g,_,hv=>by simp only [kD,Option.some.injEq,Prod.mk.injEq] at g;obtain ⟨rfl,_⟩:=g;exact hv
 |x::xs,us,t,ys,g,ht,hv=>by
  simp only [kD] at g
  split at g
  ·rename_i y p a l q b hx hl
   simp only [Option.some.injEq,Prod.mk.injEq,av] at g
   obtain ⟨rfl,⟨rfl,rfl⟩,rfl⟩:=g
   have ha:a=true→T=true:=fun h=>ht (by rw [h];rfl)
   have hb:b=true→T=true:=fun h=>ht (by rw [h];exact Bool.or_true _)
   by_cases hn:aU x=true
   ·obtain ⟨y',zs,h1,h2,rfl⟩:=(PR.cons hn).1 hv
    exact (PR.cons (nY hx hn)).2 ⟨y',zs,mq R ja hT m hx ha h1,qf R ja hT m hl hb h2,rfl⟩
   ·cases x<;>simp [aU] at hn
    simp only [bQ,Option.some.injEq,Prod.mk.injEq] at hx
    obtain ⟨rfl,_⟩:=hx
    obtain ⟨zs,h2,rfl⟩:=hv
    exact ⟨zs,qf R ja hT m hl hb h2,rfl⟩
  ·cases g
end
theorem wV (R:Rel B e h w) {zz:Nat→Option (Array Value×TypeId×(Nat×Nat))} (ja:∀n x,e.z n=some x→zz n=some x) {T:Bool} (hT:T=true→∀(i:Nat) (p:Pl) (c:Array Value) (t:TypeId),h[i]? ≠some (.b [])→e.r i=some p→w.heap[p.n]? =some (.cells c t (0,0))→zz p.n=some (c,t,(0,0))) (m:Nat):∀{vs us:List SV} {t:Bool} {ys:List Value},kD h vs=some (us,true,t)→(t=true→T=true)→LR e vs ys→LR (jr zz m) us ys
 | [],us,t,ys,g,_,hv=>by simp only [kD,Option.some.injEq,Prod.mk.injEq] at g;obtain ⟨rfl,_⟩:=g;exact hv
 |x::xs,us,t,ys,g,ht,hv=>by
  simp only [kD] at g
  split at g
  ·rename_i y p a l q b hx hl
   simp only [Option.some.injEq,Prod.mk.injEq,av] at g
   obtain ⟨rfl,⟨rfl,rfl⟩,rfl⟩:=g
   obtain ⟨y',zs,h1,h2,rfl⟩:=hv
   exact ⟨y',zs,mq R ja hT m hx (fun h=>ht (by rw [h];rfl)) h1,wV R ja hT m hl (fun h=>ht (by rw [h];exact Bool.or_true _)) h2,rfl⟩
  ·cases g
end
end
end Go.Sy
namespace Go.Sy
open Go
mutual
def fJ:SV→Bool
 | .ro f _ _=>!f
 | .iN f _=>!f
 | .oJ _ _ _ _=>true
 | .qQ _ _ _=>true
 | .uX _ _ _=>true
 | .o5 _ _ _ _ _ _ _=>true
 | .agg ps=>iV ps
 | .aT vs=>iV vs
 | .iface _ x=>fJ x
 | .fn _ a b=>iV a||iV b
 |_=>false
def iV:List SV→Bool
 | []=>false
 |x::xs=>fJ x||iV xs
end
section
variable {e e':Env}
theorem pz.fresh (hz:∀n x,e.n0≤n→e.z n=some x→e'.z n=some x) (hn:e'.n0≤e.n0) {k:IntKind} {xs:List Int} {v:Value} (g:pz e true k xs v):pz e' true k xs v:=by
 rcases g with h|⟨n,o,cap,c,t,fr,h1,h2,h3,h4,h5,h6⟩
 ·exact .inl h
 ·exact .inr ⟨n,o,cap,c,t,fr,h1,hz _ _ (h3 rfl) h2,fun q=>Nat.le_trans hn (h3 q),h4,h5,h6⟩
theorem P0.fresh (hz:∀n x,e.n0≤n→e.z n=some x→e'.z n=some x) (hn:e'.n0≤e.n0) {xss:List (List Int)} {v:Value} (g:P0 e true xss v):P0 e' true xss v:=by
 rcases g with h|⟨n,o,cap,c,t,fr,h1,h2,h3,h4,h5,h6⟩
 ·exact .inl h
 ·exact .inr ⟨n,o,cap,c,t,fr,h1,hz _ _ (h3 rfl) h2,fun q=>Nat.le_trans hn (h3 q),fun i xs hi=>(h4 i xs hi).imp fun y ⟨a,b⟩=>⟨a,b.fresh hz hn⟩,h5,h6⟩
mutual
theorem VR.fresh (hr:e'.r=e.r) (hz:∀n x,e.n0≤n→e.z n=some x→e'.z n=some x) (hn:e'.n0≤e.n0):∀{v:SV} {v':Value},fJ v=false→VR e v v'→VR e' v v'
 | .bool _,_,_,h=>h
 | .int _ _,_,_,h=>h
 | .str _,_,_,h=>h
 | .nl _,_,_,h=>h
 | .ints _ _ _,_,_,h=>h
 | .ptr b _ _,_,_,⟨p,h1,h2⟩=>⟨p,by rw [hr];exact h1,h2⟩
 | .sl b _ _ _ _ _ _ _,_,_,h=>by
  rcases h with h|⟨p,c,a,h1,h2⟩
  ·exact .inl h
  ·exact .inr ⟨p,c,a,by rw [hr];exact h1,h2⟩
 | .ro true _ _,_,_,h=>pz.fresh hz hn h
 | .ro false _ _,_,g,_=>by simp [fJ] at g
 | .iN true _,_,_,h=>P0.fresh hz hn h
 | .iN false _,_,g,_=>by simp [fJ] at g
 | .oJ _ _ _ _,_,g,_=>by simp [fJ] at g
 | .qQ _ _ _,_,g,_=>by simp [fJ] at g
 | .uX _ _ _,_,g,_=>by simp [fJ] at g
 | .o5 _ _ _ _ _ _ _,_,g,_=>by simp [fJ] at g
 | .agg ps,_,g,⟨ys,h1,h2⟩=>⟨ys,PR.fresh hr hz hn (by simpa [fJ] using g) h1,h2⟩
 | .aT vs,_,g,⟨ys,h1,h2⟩=>⟨ys,LR.fresh hr hz hn (by simpa [fJ] using g) h1,h2⟩
 | .iface _ x,_,g,⟨y,h1,h2⟩=>⟨y,VR.fresh hr hz hn (v:=x) (by simpa [fJ] using g) h1,h2⟩
 | .fn _ a b,_,g,⟨ys,us,h1,h2,h3⟩=>by
  simp only [fJ,Bool.or_eq_false_iff] at g
  exact ⟨ys,us,LR.fresh hr hz hn g.1 h1,LR.fresh hr hz hn g.2 h2,h3⟩
theorem LR.fresh (hr:e'.r=e.r) (hz:∀n x,e.n0≤n→e.z n=some x→e'.z n=some x) (hn:e'.n0≤e.n0):∀{v:List SV} {v':List Value},iV v=false→LR e v v'→LR e' v v'
 | [],_,_,h=>h
 |x::xs,_,g,⟨y,zs,h1,h2,h3⟩=>by
  simp only [iV,Bool.or_eq_false_iff] at g
  exact ⟨y,zs,VR.fresh hr hz hn g.1 h1,LR.fresh hr hz hn g.2 h2,h3⟩
theorem PR.fresh (hr:e'.r=e.r) (hz:∀n x,e.n0≤n→e.z n=some x→e'.z n=some x) (hn:e'.n0≤e.n0):∀{v:List SV} {v':List Value},iV v=false→PR e v v'→PR e' v v'
 | [],_,_,h=>h
 |x::xs,ys,g,h=>by
  simp only [iV,Bool.or_eq_false_iff] at g
  by_cases hx:aU x=true
  ·obtain ⟨y,zs,h1,h2,h3⟩:=(PR.cons hx).1 h
   exact (PR.cons hx).2 ⟨y,zs,VR.fresh hr hz hn g.1 h1,PR.fresh hr hz hn g.2 h2,h3⟩
  ·cases x<;>simp [aU] at hx
   obtain ⟨zs,h1,h2⟩:=h
   exact ⟨zs,PR.fresh hr hz hn g.2 h1,h2⟩
end
end
def shB (j:Nat):Blk→Blk
 | .b ps=>.b (hU (fun b=>b+j) ps)
 | .g _=>.gap
def iW:Blk→Bool
 | .b ps=>iV ps
 | .g _=>false
theorem mu {h new:List Blk} {j:Nat} (hf:ld h j new.length) (i:Nat):(b6 h j new)[i]? =if j≤i∧i<j+new.length then new[i-j]? else h[i]? :=by
 unfold b6
 split
 ·rename_i hj
  rcases Nat.lt_or_ge i h.length with h1|h1
  ·rw [List.getElem?_append_left h1,if_neg (by omega)]
  ·rw [List.getElem?_append_right h1]
   by_cases h2:i<j+new.length
   ·rw [if_pos ⟨by omega,h2⟩,hj]
   ·rw [if_neg (by omega),List.getElem?_eq_none (by omega),List.getElem?_eq_none h1]
 ·rename_i hj
  have hg:=hf.resolve_left hj
  rw [fT]
  by_cases h2:j≤i∧i<j+new.length
  ·have:=(List.getElem?_eq_some_iff.1 (hg (i-j) (by omega))).1
   rw [if_pos ⟨h2.1,h2.2,by omega⟩,if_pos h2]
  ·rw [if_neg (by omega),if_neg h2]
theorem fK {h new:List Blk} {j:Nat}:h.length≤(b6 h j new).length:=by
 unfold b6;split
 ·simp
 ·rw [mc];exact Nat.le_refl _
theorem yI {h new:List Blk} {j i:Nat} (hf:ld h j new.length) (hi:i<new.length):j+i<(b6 h j new).length:=by
 have:=mu hf (j+i)
 rw [if_pos (by omega),Nat.add_sub_cancel_left,List.getElem?_eq_getElem hi] at this
 exact (List.getElem?_eq_some_iff.1 this).1
section
variable {P:Program}
theorem yJ {f:FuncId} {us:List SV} {v:SV} {new:List Blk} (g:ai P f us [] v new) {h:List Blk} {vs:List SV} {t:Bool} (hfz:kD h vs=some (us,true,t)) (hst:t=true→fJ v=false∧∀b∈new,iW b=false)
  {B:dL} {e:Env} {w:World} {args:List Value} {j:Nat} (hl:LR e vs args) (R:Rel B e h w) (hj:ld h j new.length):
  Calls P f ⟨args⟩ w fun en w'=>∃v',en= .returned v'∧∃e2,VR e2 (mL (fun b=>b+j) v) v'∧Rel B e2 (b6 h j (new.map (shB j))) w'∧b9 e e2 none:=by
 let zz:=if t=true then jq w else e.z
 have ja:∀n x,e.z n=some x→zz n=some x:=fun n x hx=>by
  show (if t=true then jq w else e.z) n=some x
  by_cases ht:t=true
  ·rw [if_pos ht];obtain ⟨c,ty,fr⟩:=x;exact rD (R.g6 n c ty fr hx)
  ·rw [if_neg ht];exact hx
 have hargs:=wV (zz:=zz) R ja (T:=t) (fun ht i p c ty _ _ hc=>by show (if t=true then jq w else e.z) p.n=_;rw [if_pos ht];exact rD hc) w.heap.size hfz id hl
 let B0:dL:=⟨w,jr zz w.heap.size,0,[]⟩
 have R0:Rel B0 (jr zz w.heap.size) [] w:={
  os:=rfl,tape:=rfl,output:=rfl,size:=Nat.le_refl _,inj:=(fun i j p q hi=>by cases hi),dom:=(fun i p hi=>by cases hi),sep:=(fun i p hi=>by cases hi)
  g6:=fun n c ty fr hx=>by
   have hx':(if t=true then jq w else e.z) n=some (c,ty,fr):=hx
   by_cases ht:t=true
   ·rw [if_pos ht] at hx';exact s6 hx'
   ·rw [if_neg ht] at hx';exact R.g6 n c ty fr hx'
  bz:=fun _ _ hx=>.inl hx,news:=fun _ _ hi=>.inl hi,bF:=fun _ _ hi=>hi,bZ:=fun _ _ hx=>hx,n0:=rfl,cW:=Nat.le_refl _
  gj:=fun i ps hi=>by simp at hi
  gap:=fun i g hi=>by simp at hi
  yi:=(fun i j n hi=>by cases hi),yb:=(fun i n hi=>by cases hi)
  old:=fun _ _ _ _=>rfl,win:=(fun i p hi=>by cases hi),kr:=(fun i p hi=>by cases hi),iO:=Nat.le_refl _,iZ:=(fun r hr=>by cases hr),kf:=List.nodup_nil}
 refine (g B0 _ w args (Nat.le_refl _) hargs R0).mono ?_
 rintro en w' ⟨v',rfl,e',_,hv,S⟩
 have Co:∀i p,e'.r i=some p→w.heap.size≤p.n:=fun i p hi=>(S.news i p hi).resolve_left (fun x=>by cases x)
 have s7:∀n,n<w.heap.size→w'.heap[n]? =w.heap[n]? :=fun n hn=>S.old n hn (fun i p hi=>by cases hi) (by simp [B0])
 have hn0:e'.n0=w.heap.size:=S.n0
 have hen:e.n0≤w.heap.size:=by have:=R.n0;have:=R.cW;have:=R.size;omega
 let z2:Nat→Option (Array Value×TypeId×(Nat×Nat)):=fun n=>if n<w.heap.size then e.z n else e'.z n
 let e2:Env:=⟨fun i=>if j≤i∧i<j+new.length then e'.r (i-j) else e.r i,z2,e.n0,e.m,e.y⟩
 have aez:∀i p,i<new.length→e'.r i=some p→e2.r (i+j)=some p:=fun i p hi hp=>by
  show (if j≤i+j∧i+j<j+new.length then e'.r (i+j-j) else e.r (i+j))=some p
  rw [if_pos (by omega),Nat.add_sub_cancel];exact hp
 have aeA:∀i p,e.r i=some p→e2.r i=some p∧¬(j≤i∧i<j+new.length):=fun i p hp=>by
  have hni:¬(j≤i∧i<j+new.length):=fun hi=>by
   rcases hj with rfl|hg
   ·have:=R.dom i p hp;omega
   ·have:=(R.gap i _ (by have:=hg (i-j) (by omega);rwa [show j+(i-j)=i by omega] at this)).1
    rw [hp] at this;cases this
  exact ⟨by show (if _ then _ else _)=some p;rw [if_neg hni];exact hp,hni⟩
 have MS:∀i p,e2.r i=some p→(¬(j≤i∧i<j+new.length)∧e.r i=some p)∨((j≤i∧i<j+new.length)∧e'.r (i-j)=some p):=fun i p hp=>by
  have GF:(if j≤i∧i<j+new.length then e'.r (i-j) else e.r i)=some p:=hp
  split at GF
  ·rename_i hc;exact .inr ⟨hc,GF⟩
  ·rename_i hc;exact .inl ⟨hc,GF⟩
 have aeB:∀n x,n<w.heap.size→e'.z n=some x→t=false→e.z n=some x:=fun n x hn hx ht=>by
  rcases S.bz n x hx with q|q
  ·have q':(if t=true then jq w else e.z) n=some x:=q
   rw [ht] at q'
   rw [if_neg (by simp)] at q';exact q'
  ·exact absurd q (by show ¬w.heap.size≤n;omega)
 -- the Cq ahj
 let e1:Env:={e' with z:=z2}
 have MT:∀{u:SV} {u':Value},(t=true→fJ u=false)→VR e' u u'→VR e1 u u':=fun {u u'} hs hu=>by
  cases ht:t with
  |true=>exact VR.fresh (e:=e') (e':=e1) rfl (fun n x hn hx=>by show (if n<w.heap.size then e.z n else e'.z n)=some x;rw [if_neg (by omega)];exact hx) (Nat.le_refl _) (hs ht) hu
  |false=>exact VR.mono' (e:=e') (e':=e1) (fun n x hx=>by
    show (if n<w.heap.size then e.z n else e'.z n)=some x
    by_cases hn:n<w.heap.size
    ·rw [if_pos hn];exact aeB n x hn hx ht
    ·rw [if_neg hn];exact hx) (Nat.le_refl _) u u' (fun _ _ _ h=>h) hu
 have MU:∀{u:List SV} {u':List Value},(t=true→iV u=false)→PR e' u u'→PR e1 u u':=fun {u u'} hs hu=>by
  cases ht:t with
  |true=>exact PR.fresh (e:=e') (e':=e1) rfl (fun n x hn hx=>by show (if n<w.heap.size then e.z n else e'.z n)=some x;rw [if_neg (by omega)];exact hx) (Nat.le_refl _) (hs ht) hu
  |false=>exact PR.mono' (e:=e') (e':=e1) (fun n x hx=>by
    show (if n<w.heap.size then e.z n else e'.z n)=some x
    by_cases hn:n<w.heap.size
    ·rw [if_pos hn];exact aeB n x hn hx ht
    ·rw [if_neg hn];exact hx) (Nat.le_refl _) u u' (fun _ _ _ h=>h) hu
 have Cr:e2.n0≤e1.n0:=by show e.n0≤e'.n0;omega
 have Vy:∀i p,e'.r i=some p→i<new.length:=S.dom
 have hle:Env.Le e e2:=⟨fun i p hp=>(aeA i p hp).1,fun n x hx=>by
  show (if n<w.heap.size then e.z n else e'.z n)=some x
  rw [if_pos (R.P1 hx)];exact hx,Nat.le_refl _⟩
 refine ⟨v',rfl,e2,VR.mL (e:=e1) (e':=e2) (fun _ _ h=>h) Cr v v' (fun i p _ hp=>aez i p (Vy i p hp) hp) (MT (fun ht=>(hst ht).1) hv),?_,b9.of_le hle rfl _⟩
 have hfm:ld h j (new.map (shB j)).length:=by simpa using hj
 exact {
  os:=S.os.trans R.os,tape:=S.tape.trans R.tape,output:=S.output.trans R.output,size:=Nat.le_trans R.size S.size
  inj:=fun i i' p q hi hi' hpq=>by
   rcases MS i p hi with ⟨c1,g1⟩|⟨c1,g1⟩<;>rcases MS i' q hi' with ⟨c2,g2⟩|⟨c2,g2⟩
   ·exact R.inj i i' p q g1 g2 hpq
   ·have:=R.lt g1;have:=Co _ _ g2;omega
   ·have:=R.lt g2;have:=Co _ _ g1;omega
   ·have:=S.inj _ _ p q g1 g2 hpq;omega
  dom:=fun i p hi=>by
   rcases MS i p hi with ⟨_,g1⟩|⟨c1,g1⟩
   ·exact Nat.lt_of_lt_of_le (R.dom i p g1) fK
   ·have:=yI hfm (i:=i-j) (by simp;omega)
    rwa [show j+(i-j)=i by omega] at this
  sep:=fun i p hi=>by
   show (if p.n<w.heap.size then e.z p.n else e'.z p.n)=none
   rcases MS i p hi with ⟨_,g1⟩|⟨_,g1⟩
   ·rw [if_pos (R.lt g1)];exact R.sep i p g1
   ·rw [if_neg (by have:=Co _ _ g1;omega)];exact S.sep _ p g1
  g6:=fun n c ty fr hx=>by
   have hx':(if n<w.heap.size then e.z n else e'.z n)=some (c,ty,fr):=hx
   split at hx'
   ·rename_i hn;rw [s7 n hn];exact R.g6 n c ty fr hx'
   ·exact S.g6 n c ty fr hx'
  bz:=fun n x hx=>by
   have hx':(if n<w.heap.size then e.z n else e'.z n)=some x:=hx
   split at hx'
   ·exact R.bz n x hx'
   ·exact .inr (by have:=R.size;omega)
  news:=fun i p hi=>by
   rcases MS i p hi with ⟨_,g1⟩|⟨_,g1⟩
   ·exact R.news i p g1
   ·exact .inr (by have:=R.size;have:=Co _ _ g1;omega)
  bF:=fun i p hi=>(aeA i p (R.bF i p hi)).1
  bZ:=fun n x hx=>hle.z n x (R.bZ n x hx)
  n0:=R.n0,cW:=R.cW
  gj:=fun i ps hi=>by
   rw [mu hfm,List.length_map] at hi
   split at hi
   ·rename_i hc
    rw [List.getElem?_map] at hi
    cases hq:new[i-j]? with
    |none=>rw [hq] at hi;cases hi
    |some b=>
     rw [hq] at hi
     simp only [Option.map_some,Option.some.injEq] at hi
     cases b with
     |g _=>cases hi
     |b qs=>
      simp only [shB,Blk.b.injEq] at hi
      subst hi
      have Ad:e2.r i=e'.r (i-j):=by show (if _ then _ else _)=_;rw [if_pos hc]
      rcases S.gj (i-j) qs hq with ⟨g1,g2⟩|⟨p,o,g1,g2,c,ty,rfl,g3,g4,g5⟩
      ·exact .inl ⟨by rw [cK];exact g1,by rw [Ad];exact g2⟩
      ·refine .inr ⟨p,_,by rw [Ad];exact g1,g2,c,ty,rfl,g3,by rw [cK];exact g4,?_⟩
       rw [cK]
       refine PR.mL (e:=e1) (e':=e2) (fun _ _ h=>h) Cr qs _ (fun b p _ hp=>aez b p (Vy b p hp) hp) (MU (fun ht=>?_) g5)
       have:=(hst ht).2 _ (List.mem_of_getElem? hq)
       exact this
   ·rename_i hc
    have Ad:e2.r i=e.r i:=by show (if _ then _ else _)=_;rw [if_neg hc]
    rcases R.gj i ps hi with ⟨g1,g2⟩|⟨p,o,g1,g2,g3⟩
    ·exact .inl ⟨g1,by rw [Ad];exact g2⟩
    ·exact .inr ⟨p,o,by rw [Ad];exact g1,by rw [s7 p.n (R.lt g1)];exact g2,g3.mono hle⟩
  gap:=fun i g hi=>by
   rw [mu hfm,List.length_map] at hi
   split at hi
   ·rename_i hc
    rw [List.getElem?_map] at hi
    cases hq:new[i-j]? with
    |none=>rw [hq] at hi;cases hi
    |some b=>
     cases b with
     |g g'=>
      rw [hq] at hi
      simp only [Option.map_some,shB,Option.some.injEq,Blk.g.injEq] at hi
      subst hi
      refine ⟨?_,trivial⟩
      show (if j≤i∧i<j+new.length then e'.r (i-j) else e.r i)=none
      rw [if_pos hc]
      exact (S.gap _ _ hq).1
     |b qs=>rw [hq] at hi;cases hi
   ·rename_i hc
    refine ⟨?_,(R.gap i g hi).2.le (fun n o hn=>by rw [s7 n (Array.getElem?_eq_some_iff.1 hn).1];exact hn) rfl hle⟩
    show (if j≤i∧i<j+new.length then e'.r (i-j) else e.r i)=none
    rw [if_neg hc];exact (R.gap i g hi).1
  yi:=R.yi,yb:=R.yb
  old:=fun n hn hno qt=>by rw [s7 n (by have:=R.size;omega)];exact R.old n hn hno qt
  win:=fun i p hi=>by
   obtain ⟨o,o',h1,h2,h3⟩:=R.win i p hi
   exact ⟨o,o',h1,by rw [s7 p.n (R.lt (R.bF i p hi))];exact h2,h3⟩
  kr:=R.kr
  iO:=Nat.le_trans R.iO fK
  iZ:=fun r hr=>by
   have:=R.iZ r hr
   rw [s7 r (Array.getElem?_eq_some_iff.1 this.1).1];exact this
  kf:=R.kf}
mutual
theorem yK {h:List Blk}:∀{v u:SV} {p t:Bool},bQ [] v=some (u,p,t)→bQ h v=some (u,p,t)∧t=false
 | .bool _,u,p,t,g=>by simp only [bQ,Option.some.injEq,Prod.mk.injEq] at g ⊢;exact ⟨g,g.2.2.symm⟩
 | .int _ _,u,p,t,g=>by simp only [bQ,Option.some.injEq,Prod.mk.injEq] at g ⊢;exact ⟨g,g.2.2.symm⟩
 | .str _,u,p,t,g=>by simp only [bQ,Option.some.injEq,Prod.mk.injEq] at g ⊢;exact ⟨g,g.2.2.symm⟩
 | .nl _,u,p,t,g=>by simp only [bQ,Option.some.injEq,Prod.mk.injEq] at g ⊢;exact ⟨g,g.2.2.symm⟩
 | .ints _ _ _,u,p,t,g=>by simp only [bQ,Option.some.injEq,Prod.mk.injEq] at g ⊢;exact ⟨g,g.2.2.symm⟩
 | .ro _ _ _,u,p,t,g=>by simp only [bQ,Option.some.injEq,Prod.mk.injEq] at g ⊢;exact ⟨g,g.2.2.symm⟩
 | .iN _ _,u,p,t,g=>by simp only [bQ,Option.some.injEq,Prod.mk.injEq] at g ⊢;exact ⟨g,g.2.2.symm⟩
 | .sl b o i z len cap ex wh,u,p,t,g=>by
  exfalso
  by_cases hz:z=1
  ·subst hz;simp [bQ,dI] at g
  ·unfold bQ at g
   split at g<;>first|(rename_i h1;cases h1;done)|skip
   all_goals first|(rename_i h1;cases h1;exact hz rfl)|(cases g)
 | .agg ps,u,p,t,g=>by
  simp only [bQ] at g ⊢
  split at g
  ·rename_i l q t' hl
   obtain ⟨h1,h2⟩:=s8 (h:=h) hl
   rw [h1]
   simp only [Option.some.injEq,Prod.mk.injEq] at g ⊢
   exact ⟨g,by rw [←g.2.2];exact h2⟩
  ·cases g
 | .iface ty x,u,p,t,g=>by
  simp only [bQ] at g ⊢
  split at g
  ·rename_i y q t' hl
   obtain ⟨h1,h2⟩:=yK (h:=h) hl
   rw [h1]
   simp only [Option.some.injEq,Prod.mk.injEq] at g ⊢
   exact ⟨g,by rw [←g.2.2];exact h2⟩
  ·cases g
 | .ptr _ _ _,u,p,t,g=>by simp [bQ] at g
 | .oJ _ _ _ _,u,p,t,g=>by simp only [bQ,Option.some.injEq,Prod.mk.injEq] at g ⊢;exact ⟨g,g.2.2.symm⟩
 | .qQ _ _ _,u,p,t,g=>by simp [bQ] at g
 | .uX _ _ _,u,p,t,g=>by simp [bQ] at g
 | .o5 _ _ _ _ _ _ _,u,p,t,g=>by simp [bQ] at g
 | .aT _,u,p,t,g=>by simp [bQ] at g
 | .fn _ _ _,u,p,t,g=>by simp [bQ] at g
theorem s8 {h:List Blk}:∀{v u:List SV} {p t:Bool},kD [] v=some (u,p,t)→kD h v=some (u,p,t)∧t=false
 | [],u,p,t,g=>by simp only [kD,Option.some.injEq,Prod.mk.injEq] at g ⊢;exact ⟨g,g.2.2.symm⟩
 |x::xs,u,p,t,g=>by
  simp only [kD] at g ⊢
  split at g
  ·rename_i y p1 a l q b hx hl
   obtain ⟨h1,h2⟩:=yK (h:=h) hx
   obtain ⟨h3,h4⟩:=s8 (h:=h) hl
   rw [h1,h3]
   simp only [Option.some.injEq,Prod.mk.injEq] at g ⊢
   exact ⟨g,by rw [←g.2.2,h2,h4];rfl⟩
  ·cases g
end
theorem MV {h:List Blk} {v u:List SV} {p t:Bool} (g:kD [] v=some (u,p,t)):kD h v=some (u,p,t)∧t=false:=s8 g
structure Entry (P:Program) where
 f:FuncId
 g:List SV→List Blk→Nat→Option (SV×List Blk×List Blk×Bool)
 pf:Nat
 nb:Nat
 ok:∀vs h j v h' new,g vs h j=some (v,h',new,true)→∀(B:dL) (e:Env) (w:World) (args:List Value),LR e vs args→Rel B e h w→ld h j new.length→
  nT P (.func f) ⟨args⟩ w fun v' w'=>∃e',VR e' v v'∧Rel B e' (b6 h' j new) w'∧b9 e e' none
 pu:(pf=0→∀vs h j v h' new p,g vs h j=some (v,h',new,p)→h'=h∧∀h2,g vs h2 j=some (v,h2,new,p))∧(pf=1→∀vs h j v h' new p,g vs h j=some (v,h',new,p)→h'=h∧∀h2,I1 h h2→g vs h2 j=some (v,h2,new,p))
def Entry.val (f:FuncId) (fn:Func) (hf:P.funcs[f]? =some fn) (hn:(fn.name != "runtime.NumGoroutine")=true) (hb:fn.body.isSome=true) (rd:Bool) (nb:Nat) (F:List SV→Option (SV×List Blk×Bool))
  (ok:∀vs v new,F vs=some (v,new,true)→ai P f vs [] v new):Entry P where
 f:=f
 g:=fun vs h j=>match kD (match rd with|true=>h|false=>[]) vs with
  |some (us,p,t)=>match F us with
   |some (v,new,q)=>match t&&(fJ v||new.any iW) with
    |true=>none
    |false=>some (mL (fun b=>b+j) v,h,new.map (shB j),aa p q)
   |none=>none
  |none=>none
 pf:=match rd with|true=>1|false=>0
 nb:=nb
 ok:=by
  intro vs h j v h' new g B e w args hl R hj
  split at g
  ·rename_i us p t hfz
   split at g
   ·rename_i u nw q hF
    split at g
    ·cases g
    ·rename_i hs
     simp only [Option.some.injEq,Prod.mk.injEq,av] at g
     obtain ⟨rfl,rfl,rfl,rfl,rfl⟩:=g
     have hst:t=true→fJ u=false∧∀b∈nw,iW b=false:=fun ht=>by
      rw [ht,Bool.true_and,Bool.or_eq_false_iff] at hs
      refine ⟨hs.1,fun b hb=>?_⟩
      cases hq:iW b with
      |false=>rfl
      |true=>
       have:nw.any iW=true:=List.any_eq_true.2 ⟨b,hb,hq⟩
       rw [this] at hs;cases hs.2
     have P3:fn.body≠none:=fun q=>by rw [q] at hb;cases hb
     refine .inr ⟨eZ hf (by simpa using hn) P3 _ w,?_⟩
     cases rd with
     |true=>exact yJ (ok us u nw hF) hfz hst hl R (by simpa using hj)
     |false=>
      -- no uZ slice was read: the blocks do not ajA
      have YD:kD h vs=some (us,true,t)∧t=false:=MV hfz
      exact yJ (ok us u nw hF) YD.1 hst hl R (by simpa using hj)
   ·cases g
  ·cases g
 pu:=by
  constructor
  ·intro h0 vs h j v h' new p g
   cases rd with
   |true=>cases h0
   |false=>
    simp only at g ⊢
    split at g
    ·rename_i us p1 t hfz
     split at g
     ·rename_i u nw q hF
      split at g
      ·cases g
      ·rename_i hs
       simp only [Option.some.injEq,Prod.mk.injEq] at g
       obtain ⟨rfl,rfl,rfl,rfl⟩:=g
       exact ⟨rfl,fun h2=>rfl⟩
     ·cases g
    ·cases g
  ·intro _ vs h j v h' new p g
   split at g
   ·rename_i us p1 t hfz
    split at g
    ·rename_i u nw q hF
     split at g
     ·cases g
     ·rename_i hs
      simp only [Option.some.injEq,Prod.mk.injEq] at g
      obtain ⟨rfl,rfl,rfl,rfl⟩:=g
      refine ⟨rfl,fun h2 hle=>?_⟩
      cases rd with
      |false=>rw [hfz];simp only;rw [hF];simp only;rw [hs]
      |true=>
       have YD:=Af hle hfz
       simp only
       rw [YD];simp only;rw [hF];simp only;rw [hs]
    ·cases g
   ·cases g
def Entry.ext (f:FuncId) (F:List SV→Option (SV×Bool)) (ok:∀vs v,F vs=some (v,true)→∀(e:Env) (w:World) (args:List Value),LR e vs args→∃v',(callFunc f ⟨args⟩).run P w= .ok (.value v') w∧VR e v v'):Entry P where
 f:=f
 g:=fun vs h _=>match F vs with
  |some (v,p)=>some (v,h,[],p)
  |none=>none
 pf:=0
 nb:=0
 ok:=by
  intro vs h j v h' new g B e w args hl R hj
  split at g
  ·rename_i u p hF
   simp only [Option.some.injEq,Prod.mk.injEq] at g
   obtain ⟨rfl,rfl,rfl,rfl⟩:=g
   obtain ⟨v',h1,h2⟩:=ok vs u hF e w args hl
   exact .inl ⟨v',w,h1,e,h2,by rw [bM];exact R,b9.refl _ _⟩
  ·cases g
 pu:=by
  refine ⟨fun _ vs h j v h' new p g=>?_,fun h=>by cases h⟩
  split at g
  ·simp only [Option.some.injEq,Prod.mk.injEq] at g
   rename_i hF
   obtain ⟨rfl,rfl,rfl,rfl⟩:=g
   exact ⟨rfl,fun h2=>rfl⟩
  ·cases g
def mk (es:List (Entry P)) (inl:List (FuncId×Func)) (sym:Tmp→Option Bool:=fun _=>none) (jk:Tmp→Bool:=fun _=>false):bu where
 sym:=sym
 jk:=jk
 g:=fun f vs h j=>match es.find? (fun e=>e.f==f) with
  |some e=>e.g vs h j
  |none=>none
 inl:=fun f=>(inl.find? fun e=>e.1==f).map (·.2)
 pf:=fun f=>match inl.find? (fun e=>e.1==f) with
  |some _=>2
  |none=>match es.find? (fun e=>e.f==f) with
   |some e=>e.pf
   |none=>2
 nb:=fun f=>match es.find? (fun e=>e.f==f) with
  |some e=>e.nb
  |none=>0
def au (P:Program) (inl:List (FuncId×Func)):Prop:=∀x∈inl,P.funcs[x.1]? =some x.2∧(x.2.name != "runtime.NumGoroutine")=true
theorem au.nil:au P []:=fun _ h=>by cases h
theorem au.cons {f:FuncId} {fn:Func} {l:List (FuncId×Func)} (hf:P.funcs[f]? =some fn) (hn:(fn.name != "runtime.NumGoroutine")=true) (h:au P l):au P ((f,fn)::l):=fun x hx=>by
 rcases List.mem_cons.1 hx with rfl|hx
 ·exact ⟨hf,hn⟩
 ·exact h x hx
theorem ah (es:List (Entry P)) {inl:List (FuncId×Func)} (hi:au P inl) (sym:Tmp→Option Bool) (jk:Tmp→Bool):ag P (mk es inl sym jk) where
 EI:=fun l vs h v h' g=>by cases g
 calls:=by
  intro f vs h j v h' new g
  simp only [mk] at g
  split at g
  ·rename_i x hx
   have:=List.find?_some hx
   simp only [beq_iff_eq] at this
   subst this
   exact x.ok vs h j v h' new g
  ·cases g
 pure:=by
  have key:∀(f:FuncId) (m:Nat),(mk es inl sym jk).pf f=m→m≠2→∃x:Entry P,es.find? (fun e=>e.f==f)=some x∧x.pf=m:=fun f m h hm=>by
   simp only [mk] at h
   split at h
   ·omega
   ·split at h
    ·rename_i x hx;exact ⟨x,hx,h⟩
    ·omega
  refine ⟨fun f hf vs h j v h' new p g=>?_,fun f hf vs h j v h' new p g=>?_⟩
  ·obtain ⟨x,hx,hp⟩:=key f 0 hf (by omega)
   simp only [fnG,mk,hx] at g ⊢
   exact x.pu.1 hp vs h j v h' new p g
  ·obtain ⟨x,hx,hp⟩:=key f 1 hf (by omega)
   simp only [fnG,mk,hx] at g ⊢
   exact x.pu.2 hp vs h j v h' new p g
 inl:=by
  intro f fn g
  simp only [mk] at g ⊢
  obtain ⟨x,hx,rfl⟩:=Option.map_eq_some_iff.1 g
  have h1:=List.find?_some hx
  simp only [beq_iff_eq] at h1
  subst h1
  obtain ⟨h2,h3⟩:=hi x (List.mem_of_find?_eq_some hx)
  refine ⟨h2,by simpa using h3,?_⟩
  rw [hx];simp
end
end Go.Sy
namespace Go.Sy
open Go
def slotsOf (n:Nat) (l:List (Nat×SV)):List (Option SV):=(List.range n).map fun i=>(l.find? fun p=>p.1==i).map (·.2)
def MW (live:List Nat) (t:List (Option SV)):List (Option SV):=t.zipIdx.map fun (v,i)=>if live.contains i then v else none
def St.keep (live:List Nat) (s:St):St:=⟨MW live s.t,s.h,s.ob⟩
def bq (k:Nat) (s s':St):Prop:=∀(B:dL) (e:Env) (w:World) (t':List Value),B.k≤k→TR e s.t t'→Rel B e s.h w→∃e',e'.m=e.m∧TR e' s'.t t'∧Rel B e' s'.h w
theorem bq.refl (k:Nat) (s:St):bq k s s:=fun _ e _ _ _ hl R=>⟨e,rfl,hl,R⟩
theorem bq.trans {k:Nat} {a b c:St} (h:bq k a b) (g:bq k b c):bq k a c:=fun B e w t' hB hl R=>by
 obtain ⟨e1,h1,h2,h3⟩:=h B e w t' hB hl R
 obtain ⟨e2,h4,h5,h6⟩:=g B e1 w t' hB h2 h3
 exact ⟨e2,h4.trans h1,h5,h6⟩
theorem bq.same {k:Nat} {s s':St} (h1:s.t=s'.t) (h2:s.h=s'.h):bq k s s':=fun _ e _ _ _ hl R=>⟨e,rfl,by rw [←h1];exact hl,by rw [←h2];exact R⟩
def VE (v v':SV):Prop:=∀(e:Env) (x:Value),VR e v x→VR e v' x
def PE (ps qs:List SV):Prop:=aC qs=aC ps∧∀(e:Env) (xs:List Value),PR e ps xs→PR e qs xs
theorem bq.mono {k:Nat} {s s':St} (hl:s.t.length=s'.t.length) (ht:∀(i:Nat) (v':SV),s'.t[i]? =some (some v')→∃v,s.t[i]? =some (some v)∧VE v v')
  (hn:s'.h.length=s.h.length) (hh:∀(i:Nat) (qs:List SV),s'.h[i]? =some (.b qs)→∃ps,s.h[i]? =some (.b ps)∧PE ps qs) (hg:∀(i:Nat) (g:Option Lp),s'.h[i]? =some (.g g)→s.h[i]? =some (.g g)):bq k s s':=
 fun B e w t' hB hlr R=>⟨e,rfl,⟨hl.symm.trans hlr.1,fun i v' x h1 h2=>by
  obtain ⟨v,h3,h4⟩:=ht i v' h1
  exact h4 e x (hlr.2 i v x h3 h2)⟩,{R with
   dom:=fun i p hi=>by rw [hn];exact R.dom i p hi
   gj:=fun i qs hi=>by
    obtain ⟨ps,h1,h2,h3⟩:=hh i qs hi
    rcases R.gj i ps h1 with ⟨g1,g2⟩|⟨p,o,g1,g2,c,t,rfl,g3,g4,g5⟩
    ·exact .inl ⟨by rw [h2];exact g1,g2⟩
    ·exact .inr ⟨p,_,g1,g2,c,t,rfl,g3,by rw [h2];exact g4,by rw [h2];exact h3 e _ g5⟩
   gap:=fun i g hi=>R.gap i g (hg i g hi)
   iO:=by rw [hn];exact R.iO}⟩
theorem bq.slots {k:Nat} {s s':St} (hl:s.t.length=s'.t.length) (ht:∀(i:Nat) (v':SV),s'.t[i]? =some (some v')→s.t[i]? =some (some v')) (hh:s.h=s'.h):bq k s s':=
 fun _ e _ _ _ hlr R=>⟨e,rfl,⟨hl.symm.trans hlr.1,fun i v' x h1 h2=>hlr.2 i v' x (ht i v' h1) h2⟩,by rw [←hh];exact R⟩
theorem bq.keep (k:Nat) (live:List Nat) (s:St):bq k s (s.keep live):=bq.slots (by simp [St.keep,MW]) (fun i v e=>by
  simp only [St.keep,MW,List.getElem?_map,List.getElem?_zipIdx] at e
  cases h:s.t[i]? with
  |none=>simp [h] at e
  |some x=>
   simp only [h,Option.map_some,Option.some.injEq] at e
   split at e
   ·rw [e]
   ·cases e) rfl
def MX (n:Nat):Blk→Bool
 | .b ps=>ei (List.range n) ps
 | .g (some L)=>L.t.all fun o=>match o with|some v=>de (List.range n) v|none=>true
 | .g none=>true
def St.gl (n:Nat) (s:St):Option St:=
 if s.t.all (fun o=>match o with|some v=>de (List.range n) v|none=>true)&&(s.h.take n).all (MX n) then some ⟨s.t,s.h.take n,s.ob⟩ else none
theorem bq.gl {k n:Nat} (hk:k≤n) {s s':St} (h:s.gl n=some s'):bq k s s':=by
 unfold St.gl at h
 split at h
 ·rename_i hc
  cases h
  simp only [Bool.and_eq_true,List.all_eq_true] at hc
  obtain ⟨h1,h2⟩:=hc
  intro B e w t' hB hl R
  let e':Env:={e with r:=fun i=>if i<n then e.r i else none}
  have hr:∀i p,e'.r i=some p→i<n∧e.r i=some p:=fun i p hi=>by
   have hi':(if i<n then e.r i else none)=some p:=hi
   split at hi'
   ·rename_i hc;exact ⟨hc,hi'⟩
   ·cases hi'
  have hr':∀i,i<n→e'.r i=e.r i:=fun i hi=>if_pos hi
  have up:∀j p,j∈List.range n→e.r j=some p→e'.r j=some p:=fun j p hj hp=>by rw [hr' j (List.mem_range.1 hj)];exact hp
  have hkn:∀i p,B.e.r i=some p→i<n:=fun i p hi=>by have:=R.kr i p hi;omega
  refine ⟨e',rfl,⟨hl.1,fun i v v' g1 g2=>?_⟩,?_⟩
  ·have:=h1 _ (List.mem_of_getElem? g1)
   exact VR.mono' (e:=e) (e':=e') (fun _ _ h=>h) (Nat.le_refl _) v v' (fun j p hu hp=>up j p (iI this hu) hp) (hl.2 i v v' g1 g2)
  ·have tk:∀i x,(s.h.take n)[i]? =some x→i<n∧s.h[i]? =some x:=fun i x hi=>by
    rw [List.getElem?_take] at hi
    split at hi
    ·rename_i hc;exact ⟨hc,hi⟩
    ·cases hi
   exact {R with
    inj:=fun i j p q hi hj=>R.inj i j p q (hr i p hi).2 (hr j q hj).2
    dom:=fun i p hi=>by
     obtain ⟨g1,g2⟩:=hr i p hi
     have:=R.dom i p g2
     rw [List.length_take];omega
    sep:=fun i p hi=>R.sep i p (hr i p hi).2
    news:=fun i p hi=>R.news i p (hr i p hi).2
    bF:=fun i p hi=>by rw [hr' i (hkn i p hi)];exact R.bF i p hi
    gj:=fun i ps hi=>by
     obtain ⟨g1,g2⟩:=tk i _ hi
     have hu:=h2 _ (List.mem_of_getElem? hi)
     rcases R.gj i ps g2 with ⟨q1,q2⟩|⟨p,o,q1,q2,c,t,rfl,q3,q4,q5⟩
     ·exact .inl ⟨q1,by rw [hr' i g1];exact q2⟩
     ·exact .inr ⟨p,_,by rw [hr' i g1];exact q1,q2,c,t,rfl,q3,q4,PR.mono' (e:=e) (e':=e') (fun _ _ h=>h) (Nat.le_refl _) ps _ (fun j p mT hp=>up j p (dA hu mT) hp) q5⟩
    gap:=fun i g hi=>by
     obtain ⟨g1,g2⟩:=tk i _ hi
     have hu:=h2 _ (List.mem_of_getElem? hi)
     refine ⟨by rw [hr' i g1];exact (R.gap i g g2).1,(R.gap i g g2).2.keep (fun _ _ h=>h) rfl fun L hL v v' hv R9=>?_⟩
     subst hL
     have:=List.all_eq_true.1 hu (some v) hv
     exact VR.mono' (e:=e) (e':=e') (fun _ _ h=>h) (Nat.le_refl _) v v' (fun j p mT hp=>up j p (iI this mT) hp) R9
    iO:=by have:=R.iO;rw [List.length_take];omega}
 ·cases h
def St.cut (live:List Nat) (n:Nat) (s:St):Option St:=(s.keep live).gl n
theorem bq.cut {k n:Nat} {live:List Nat} (hk:k≤n) {s s':St} (h:s.cut live n=some s'):bq k s s':=(bq.keep k live s).trans (bq.gl hk h)
section
variable {P:Program} {ro:Option Nat} {k:Nat}
theorem Tr.pre {c:Code} {s s1 s':St} {x:Exit} (h:Tr P ro k c s1 x s') (g:bq k s s1):Tr P ro k c s x s':=
 fun B e w t' d Q nn hB hl R hQ=>by
  obtain ⟨e1,h1,h2,h3⟩:=g B e w t' hB hl R
  rw [←h1]
  exact h B e1 w t' d Q nn hB h2 h3 hQ
theorem Tr.post {c:Code} {s s1 s':St} {x:Exit} (h:Tr P ro k c s x s1) (g:bq k s1 s'):Tr P ro k c s x s':=
 fun B e w t' d Q nn hB hl R hQ=>h B e w t' d Q nn hB hl R fun e2 w2 t2 mS R2=>by
  obtain ⟨e1,h1,h2,h3⟩:=g B e2 w2 t2 hB mS R2
  rw [←h1]
  exact hQ e1 w2 t2 h2 h3
theorem iR.pre {c:Code} {s s1 s':St} {x:Exit} (h:iR P ro k c s1 x s') (g:bq k s s1):iR P ro k c s x s':=by
 obtain ⟨m,hm⟩:=h
 refine ⟨m,fun B e w t' d Q nn hB hl R hQ=>?_⟩
 obtain ⟨e1,h1,h2,h3⟩:=g B e w t' hB hl R
 rw [←h1]
 exact hm B e1 w t' d Q nn hB h2 h3 hQ
theorem Tr.cut {Γ:bu} (hΓ:ag P Γ) (n:Nat) (live:List Nat) (m:Nat) (hm:k≤m) {c:Code} {s s':St} {x:Exit} (e:(Sy.exec P Γ n k c s).bind (fun r=>(r.2.cut live m).map fun q=>(r.1,q))=some (x,s')) (fL:s'.ob=true):Tr P ro k c s x s':=by
 obtain ⟨⟨y,s1⟩,h1,e⟩:=Option.bind_eq_some_iff.1 e
 obtain ⟨s2,h2,q⟩:=Option.map_eq_some_iff.1 e
 cases q
 refine (Tr.exec hΓ h1 ?_).post (bq.cut hm h2)
 unfold St.cut St.gl at h2
 split at h2
 ·cases h2;exact fL
 ·cases h2
theorem Tr.keep {Γ:bu} (hΓ:ag P Γ) (n:Nat) (live:List Nat) {c:Code} {s s':St} {x:Exit} (e:(Sy.exec P Γ n k c s).map (fun r=>(r.1,r.2.keep live))=some (x,s')) (fL:s'.ob=true):Tr P ro k c s x s':=by
 obtain ⟨⟨y,s1⟩,h1,q⟩:=Option.map_eq_some_iff.1 e
 simp only [Prod.mk.injEq] at q
 obtain ⟨rfl,rfl⟩:=q
 exact (Tr.exec hΓ h1 fL).post (bq.keep k live s1)
def aE (fn:Func):Code:=fn.body.getD .skip
def atoms:Code→List Code
 | .seq a b=>atoms a++atoms b
 |c=>[c]
def aA (n:Nat) (c:Code):Code:=(atoms c).getD n .skip
def inner:Code→Code
 | .block _ b=>b
 | .loop b=>b
 | .scope b=>b
 |c=>c
def lO (id:Nat):Code→Bool
 | .block j (.loop _)=>j==id
 |_=>false
def bf (P:Program) (ro:Option Nat) (k:Nat):List Code→St→Exit→St→Prop
 | [],s,x,s'=>x= .normal∧s'=s
 |a::l,s,x,s'=>(∃s1,Tr P ro k a s .normal s1∧bf P ro k l s1 x s')∨(x≠.normal∧Tr P ro k a s x s')
theorem bf.append:∀(l1:List Code) {l2:List Code} {s s':St} {x:Exit},bf P ro k (l1++l2) s x s'→(∃s1,bf P ro k l1 s .normal s1∧bf P ro k l2 s1 x s')∨(x≠.normal∧bf P ro k l1 s x s')
 | [],_,s,_,_,h=>.inl ⟨s,⟨rfl,rfl⟩,h⟩
 |a::l1,l2,s,s',x,h=>by
  rcases h with ⟨s1,h1,h2⟩|⟨hx,h1⟩
  ·rcases bf.append l1 h2 with ⟨s2,h3,h4⟩|⟨hx,h3⟩
   ·exact .inl ⟨s2,.inl ⟨s1,h1,h3⟩,h4⟩
   ·exact .inr ⟨hx,.inl ⟨s1,h1,h3⟩⟩
  ·exact .inr ⟨hx,.inr ⟨hx,h1⟩⟩
theorem bf.single {c:Code} {s s':St} {x:Exit} (h:bf P ro k [c] s x s'):Tr P ro k c s x s':=by
 rcases h with ⟨s1,h1,rfl,rfl⟩|⟨_,h1⟩
 ·exact h1
 ·exact h1
theorem Tr.ew:∀{c:Code} {s s':St} {x:Exit},bf P ro k (atoms c) s x s'→Tr P ro k c s x s':=by
 intro c
 induction c with
 |seq a b iha ihb=>
  intro s s' x h
  rcases bf.append (atoms a) h with ⟨s1,h1,h2⟩|⟨hx,h1⟩
  ·exact Tr.seq (iha h1) (ihb h2)
  ·exact Tr.yH (iha h1) hx
 |_=>intro s s' x h;exact bf.single h
def aW (P:Program) (Γ:bu) (n k:Nat):Nat→List Code→St→Option St
 |0,_,s=>some s
 |m+1,a::l,s=>match exec P Γ n k a s with
  |some (.normal,s')=>aW P Γ n k m l s'
  |_=>none
 |_+1,[],_=>none
def o9 (P:Program) (Γ:bu) (n k:Nat):List Code→St→Option (Exit×St)
 | [],s=>some (.normal,s)
 |a::l,s=>match exec P Γ n k a s with
  |some (.normal,s')=>o9 P Γ n k l s'
  |r=>r
theorem tX {Γ:bu} (hΓ:ag P Γ) (n:Nat):∀(m:Nat) {l:List Code} {s s1 s':St} {x:Exit},aW P Γ n k m l s=some s1→s1.ob=true→bf P ro k (l.drop m) s1 x s'→bf P ro k l s x s'∧s.ob=true
 |0,l,s,s1,s',x,e,fL,h=>by simp only [aW,Option.some.injEq] at e;subst e;exact ⟨by simpa using h,fL⟩
 |m+1,[],s,s1,s',x,e,_,_=>by simp [aW] at e
 |m+1,a::l,s,s1,s',x,e,fL,h=>by
  simp only [aW] at e
  split at e
  ·rename_i s2 h2
   obtain ⟨h3,h4⟩:=tX hΓ n m e fL (by simpa only [List.drop_succ_cons] using h)
   exact ⟨.inl ⟨s2,Tr.exec hΓ h2 h4,h3⟩,cZ n k a s s2 _ h2 h4⟩
  ·cases e
theorem tY {Γ:bu} (hΓ:ag P Γ) (n:Nat):∀{l:List Code} {s s':St} {x:Exit},o9 P Γ n k l s=some (x,s')→s'.ob=true→bf P ro k l s x s'∧s.ob=true
 | [],s,s',x,e,fL=>by simp only [o9,Option.some.injEq,Prod.mk.injEq] at e;obtain ⟨rfl,rfl⟩:=e;exact ⟨⟨rfl,rfl⟩,fL⟩
 |a::l,s,s',x,e,fL=>by
  simp only [o9] at e
  split at e
  ·rename_i s2 h2
   obtain ⟨h3,h4⟩:=tY hΓ n e fL
   exact ⟨.inl ⟨s2,Tr.exec hΓ h2 h4,h3⟩,cZ n k a s s2 _ h2 h4⟩
  ·rename_i hne
   have hx:x≠.normal:=fun q=>by subst q;exact hne s' e
   exact ⟨.inr ⟨hx,Tr.exec hΓ e fL⟩,cZ n k a s s' x e fL⟩
theorem bf.pre:∀{l:List Code} {s s1 s':St} {x:Exit},bf P ro k l s1 x s'→bq k s s1→l≠[]→bf P ro k l s x s'
 | [],_,_,_,_,_,_,h=>absurd rfl h
 |_::_,_,_,_,_,.inl ⟨s2,h1,h2⟩,g,_=>.inl ⟨s2,h1.pre g,h2⟩
 |_::_,_,_,_,_,.inr ⟨hx,h1⟩,g,_=>.inr ⟨hx,h1.pre g⟩
theorem bf.items {Γ:bu} (hΓ:ag P Γ) (n m:Nat) (live:List Nat) (j:Nat) (hj:k≤j) {l:List Code} {s s1 s':St} {x:Exit} (e:(aW P Γ n k m l s).bind (St.cut live j)=some s1) (fL:s1.ob=true) (hl:m<l.length) (h:bf P ro k (l.drop m) s1 x s'):bf P ro k l s x s':=by
 obtain ⟨s2,h2,h3⟩:=Option.bind_eq_some_iff.1 e
 refine (tX hΓ n m h2 ?_ (h.pre (bq.cut hj h3) (by intro q;have:=congrArg List.length q;simp at this;omega))).1
 unfold St.cut St.gl at h3
 split at h3
 ·cases h3;exact fL
 ·cases h3
theorem bf.item (m:Nat) {c:Code} {s s1 s':St} {x:Exit} (hm:m<(atoms c).length) (h1:Tr P ro k (aA m c) s .normal s1) (h2:bf P ro k ((atoms c).drop (m+1)) s1 x s'):bf P ro k ((atoms c).drop m) s x s':=by
 rw [List.drop_eq_getElem_cons hm]
 refine .inl ⟨s1,?_,h2⟩
 have:aA m c=(atoms c)[m]:=by simp [aA,List.getD,List.getElem?_eq_getElem hm]
 rwa [this] at h1
theorem bf.leave (m:Nat) {c:Code} {s s':St} {x:Exit} (hm:m<(atoms c).length) (hx:x≠.normal) (h1:Tr P ro k (aA m c) s x s'):bf P ro k ((atoms c).drop m) s x s':=by
 rw [List.drop_eq_getElem_cons hm]
 refine .inr ⟨hx,?_⟩
 have:aA m c=(atoms c)[m]:=by simp [aA,List.getD,List.getElem?_eq_getElem hm]
 rwa [this] at h1
theorem bf.rest {Γ:bu} (hΓ:ag P Γ) (n:Nat) {l:List Code} {s s':St} {x:Exit} (e:o9 P Γ n k l s=some (x,s')) (fL:s'.ob=true):bf P ro k l s x s':=(tY hΓ n e fL).1
theorem Tr.loop (id:Nat) {c:Code} {s':St} (hc:lO id c=true) (f:Nat→St) (N:Nat) (hb:∀i,i<N→Tr P ro k (inner (inner c)) (f i) .normal (f (i+1))) (hl:Tr P ro k (inner (inner c)) (f N) (.exit id) s'):Tr P ro k c (f 0) .normal s':=by
 cases c<;>simp [lO] at hc
 rename_i j b
 cases b<;>simp at hc
 subst hc
 exact Tr.block (iR.loop (iR.for (by simp) f N hb hl))
theorem Tr.Bk (id:Nat) {c:Code} {s s':St} (hc:lO id c=true) (h:iR P ro k (inner (inner c)) s (.exit id) s'):Tr P ro k c s .normal s':=by
 cases c<;>simp [lO] at hc
 rename_i j b
 cases b<;>simp at hc
 subst hc
 exact Tr.block (iR.loop h)
theorem Tr.qD (id:Nat) {c:Code} {s s':St} (hc:lO id c=true) (h:iR P ro k (inner (inner c)) s .ret s'):Tr P ro k c s .ret s':=by
 cases c<;>simp [lO] at hc
 rename_i j b
 cases b<;>simp at hc
 subst hc
 exact Tr.fN (iR.loop h) (by simp)
theorem ai.mk {f:FuncId} {fn:Func} (hf:P.funcs[f]? =some fn) {args:List SV} {h:List Blk} {x:Exit} {s:St} {vs:List SV} (hb:fn.body.isSome=true) (ht:bf P none h.length (atoms (aE fn)) ⟨aO fn.ntmps args,h,true⟩ x s) (hx:x= .ret∨x= .normal)
  (hr:kJ P s.t s.h fn.results.toList=some (vs,true)):ai P f args h (oneOf vs) s.h:=by
 obtain ⟨c,hc⟩:=Option.isSome_iff_exists.1 hb
 exact ai.Vx hf hc hx (Tr.ew (by simpa [aE,hc] using ht)) hr
theorem ai.rest {Γ:bu} (hΓ:ag P Γ) (n m:Nat) {f:FuncId} {fn:Func} (hf:P.funcs[f]? =some fn) {args:List SV} {h h':List Blk} {s:St} {v:SV} {p:Bool} (hb:fn.body.isSome=true)
  (ht:∀s' x,bf P none h.length ((atoms (aE fn)).drop m) s x s'→bf P none h.length (atoms (aE fn)) ⟨aO fn.ntmps args,h,true⟩ x s')
  (e:((o9 P Γ n h.length ((atoms (aE fn)).drop m) s).bind fun r=>match r.1 with
   | .ret| .normal=>(kJ P r.2.t r.2.h fn.results.toList).map fun q=>(oneOf q.1,r.2.h,aa r.2.ob q.2)
   |_=>none)=some (v,h',p)) (hp:p=true):ai P f args h v h':=by
 obtain ⟨⟨x,s'⟩,h1,e⟩:=Option.bind_eq_some_iff.1 e
 subst hp
 have key:∀(_:x= .ret∨x= .normal),((kJ P s'.t s'.h fn.results.toList).map fun q=>(oneOf q.1,s'.h,aa s'.ob q.2))=some (v,h',true)→ai P f args h v h':=fun hx e=>by
  obtain ⟨⟨vs,q⟩,hr,e⟩:=Option.map_eq_some_iff.1 e
  simp only [Prod.mk.injEq,av] at e
  obtain ⟨rfl,rfl,fL,rfl⟩:=e
  exact ai.mk hf hb (ht s' x (bf.rest hΓ n h1 fL)) hx hr
 cases x<;>simp only at e<;>first|exact key (by simp) e|cases e
theorem ai.post {f:FuncId} {args:List SV} {h h1 h2:List Blk} {v v2:SV} (g:ai P f args h v h1) (q:bq h.length ⟨[some v],h1,true⟩ ⟨[some v2],h2,true⟩):ai P f args h v2 h2:=by
 intro B e w args' hB hl R
 refine (g B e w args' hB hl R).mono ?_
 rintro en w' ⟨v',rfl,e1,hm,hv,R1⟩
 obtain ⟨e2,hm2,mS,R2⟩:=q B e1 w' [v'] hB ⟨rfl,fun i u u' h1 h2=>by
  have hi:=(List.getElem?_eq_some_iff.1 h1).1
  simp at hi;subst hi;simp at h1 h2;subst h1;subst h2;exact hv⟩ R1
 exact ⟨v',rfl,e2,hm2.trans hm,mS.2 0 v2 v' rfl rfl,R2⟩
theorem ai.pre {f:FuncId} {args args2:List SV} {h h2:List Blk} {h1:List Blk} {v:SV} (g:ai P f args2 h2 v h1) (hk:h.length=h2.length) (q:bq h.length ⟨args.map some,h,true⟩ ⟨args2.map some,h2,true⟩):ai P f args h v h1:=by
 intro B e w args' hB hl R
 have hlen:=hl.length
 obtain ⟨e2,hm2,mS,R2⟩:=q B e w args' hB ⟨by simp [hlen],fun i u u' h1 h2=>by
  rw [List.getElem?_map] at h1
  obtain ⟨x,hx,hxe⟩:=Option.map_eq_some_iff.1 h1
  cases hxe
  obtain ⟨y,hy,hv⟩:=hl.get hx
  rw [h2] at hy;cases hy;exact hv⟩ R
 have hl3:LR e2 args2 args':=by
  have:∀(as:List SV) (bs:List Value),as.length=bs.length→(∀(i:Nat) (v:SV) (v':Value),as[i]? =some v→bs[i]? =some v'→VR e2 v v')→LR e2 as bs:=by
   intro as
   induction as with
   |nil=>intro bs h _;cases bs<;>simp at h;rfl
   |cons a as ih=>
    intro bs h g
    cases bs with
    |nil=>simp at h
    |cons b bs=>exact ⟨b,bs,g 0 a b rfl rfl,ih bs (by simpa using h) (fun i v v' h1 h2=>g (i+1) v v' (by simpa using h1) (by simpa using h2)),rfl⟩
  refine this args2 args' (by simpa using mS.1) fun i v v' h1 h2=>mS.2 i v v' (by simp [h1]) h2
 refine (g B e2 w args' (by omega) hl3 R2).mono ?_
 rintro en w' ⟨v',rfl,e3,hm3,hv,R3⟩
 exact ⟨v',rfl,e3,hm3.trans hm2,hv,R3⟩
end
end Go.Sy
