/- This file proves the interpreter 'exec' sound, functions that are taken in among them. Conditions: those of the interpreter's own tests; the contracts that it uses are sound. -/
import Derived.Test.YthlnlcijnoadcaaGreatDoorBMb
import Derived.RangeFuncLeaves
import Derived.RangeFuncRecord
import Derived.RangeFuncIn
set_option linter.all false
namespace Go.Sy
open Go
def YTr (P:Program) (l:Nat) (vs:List SV) (h:List Blk) (v:SV) (h':List Blk):Prop:=∀(B:Base) (e:Env) (w:World) (args:List Value),LR e vs args→Rel B e h w→
 CallOK P (.yield l) ⟨args⟩ w fun v' w'=>∃e',VR e' v v'∧Rel B e' h' w'∧EStep e e' none
structure CtrSound (P:Program) (Γ:Ctr):Prop where
 yields:∀l vs h v h',Γ.yc l vs h=some (v,h',true)→YTr P l vs h v h'
 calls:GSoundF P Γ.g
 pure:PureC Γ.pf (fnG Γ.g)
 inl:∀f fn,Γ.inl f=some fn→P.funcs[f]? =some fn∧fn.name≠ "runtime.NumGoroutine"∧2≤Γ.pf f
def Env.bare (e:Env) (h:List Blk):Env:={e with m:=[],y:=fun i=>match lpAt h i with|some _=>e.y i|none=>none}
theorem bare_le (e:Env) (h:List Blk):Env.Le e (e.bare h):=⟨fun _ _ h=>h,fun _ _ h=>h,Nat.le_refl _⟩
theorem lpAt_of {h:List Blk} {i:Nat} {L:Lp} (g:h[i]? =some (.g (some L))):lpAt h i=some L:=by unfold lpAt;rw [g]
theorem lpAt_eq {h:List Blk} {i:Nat} {L:Lp} (g:lpAt h i=some L):h[i]? =some (.g (some L)):=by
 unfold lpAt at g
 split at g
 ·rename_i L' hq;cases g;exact hq
 ·cases g
theorem bare_y {e:Env} {h:List Blk} {i:Nat} {L:Lp} (g:h[i]? =some (.g (some L))):(e.bare h).y i=e.y i:=by
 show (match lpAt h i with|some _=>e.y i|none=>none)=e.y i
 rw [lpAt_of g]
theorem bare_y' {e:Env} {h:List Blk} {i n:Nat} (g:(e.bare h).y i=some n):e.y i=some n∧∃L,h[i]? =some (.g (some L)):=by
 have g':(match lpAt h i with|some _=>e.y i|none=>none)=some n:=g
 split at g'
 ·rename_i L hL;exact ⟨g',L,lpAt_eq hL⟩
 ·cases g'
def loopOf:Blk→Option Nat
 | .g (some L)=>some L.l
 |_=>none
def loopsOf (h:List Blk):List Nat:=h.filterMap loopOf
theorem loopsOf_mem {h:List Blk} {n:Nat}:n∈loopsOf h↔∃(i:Nat) (L:Lp),h[i]? =some (.g (some L))∧L.l=n:=by
 unfold loopsOf
 rw [List.mem_filterMap]
 constructor
 ·rintro ⟨b,hb,hq⟩
  obtain ⟨i,hi⟩:=List.mem_iff_getElem?.1 hb
  match b,hq with
  | .g (some L),hq=>exact ⟨i,L,hi,Option.some.inj hq⟩
 ·rintro ⟨i,L,hi,rfl⟩
  exact ⟨_,List.mem_of_getElem? hi,rfl⟩
section
variable {P:Program} {e:Env} {B:Base} {h:List Blk} {w:World}
def baseOf (e:Env) (h:List Blk) (w:World):Base:=⟨w,e.bare h,h.length,loopsOf h⟩
theorem Rel.self (R:Rel B e h w):Rel (baseOf e h w) (e.bare h) h w where
 os:=rfl
 tape:=rfl
 output:=rfl
 size:=Nat.le_refl _
 inj:=R.inj
 dom:=R.dom
 sep:=R.sep
 zok:=R.zok
 zfresh:=fun _ _ hz=>.inl hz
 glb:=R.glb
 news:=fun _ _ hi=>.inl hi
 keepr:=fun _ _ hi=>hi
 keepz:=fun _ _ hz=>hz
 n0:=rfl
 n0le:=by show e.n0≤w.heap.size;have:=R.n0;have:=R.n0le;have:=R.size;omega
 blk:=fun i ps hi=>(R.blk i ps hi).imp id fun ⟨p,o,h1,h2,h3⟩=>⟨p,o,h1,h2,h3.mono (bare_le e h)⟩
 gap:=fun i g hi=>⟨(R.gap i g hi).1,by
  have hg:=(R.gap i g hi).2
  cases g with
  |none=>trivial
  |some L=>exact hg.le (fun _ _ h=>h) (bare_y hi) (bare_le e h)⟩
 yi:=fun i j n hi hj=>R.yi i j n (bare_y' hi).1 (bare_y' hj).1
 yb:=fun i n hi=>by
  obtain ⟨h1,L,h2⟩:=bare_y' hi
  have:=(R.gap i _ h2).2.1
  rw [h1] at this;cases this
  exact .inl (loopsOf_mem.2 ⟨i,L,h2,rfl⟩)
 old:=fun _ _ _ _=>rfl
 win:=fun i p hi=>by
  obtain ⟨c,t,h1,_⟩:=R.isCells hi
  exact ⟨_,_,h1,h1,c,c,t,(0,0),rfl,rfl,rfl,fun _ _=>rfl⟩
 kr:=fun i p hi=>R.dom i p hi
 kle:=Nat.le_refl _
 mks:=fun r hr=>by cases hr
 mnd:=List.nodup_nil
theorem SameOut.trans {a n:Nat} {x y z:Obj} (h:SameOut a n x y) (g:SameOut a n y z):SameOut a n x z:=by
 obtain ⟨c,c',t,fr,rfl,rfl,h1,h2⟩:=h
 obtain ⟨d,d',t',fr',q,rfl,h3,h4⟩:=g
 cases q
 exact ⟨c,d',t,fr,rfl,rfl,h3.trans h1,fun j hj=>(h4 j hj).trans (h2 j hj)⟩
theorem Rel.trans (R:Rel B e h w) {e':Env} {h':List Blk} {w':World} (S:Rel (baseOf e h w) e' h' w'):Rel B {e' with m:=e.m} h' w' where
 os:=S.os.trans R.os
 tape:=S.tape.trans R.tape
 output:=S.output.trans R.output
 size:=Nat.le_trans R.size S.size
 inj:=S.inj
 dom:=S.dom
 sep:=S.sep
 zok:=S.zok
 zfresh:=fun n x hz=>by
  rcases S.zfresh n x hz with g|g
  ·exact R.zfresh n x g
  ·exact .inr (Nat.le_trans R.size g)
 glb:=S.glb
 news:=fun i p hi=>by
  rcases S.news i p hi with g|g
  ·exact R.news i p g
  ·exact .inr (Nat.le_trans R.size g)
 keepr:=fun i p hi=>S.keepr i p (R.keepr i p hi)
 keepz:=fun n x hz=>S.keepz n x (R.keepz n x hz)
 n0:=S.n0.trans R.n0
 n0le:=R.n0le
 blk:=fun i ps hi=>(S.blk i ps hi).imp id fun ⟨p,o,h1,h2,h3⟩=>⟨p,o,h1,h2,BR.mono (e:=e') (e':={e' with m:=e.m}) ⟨fun _ _ h=>h,fun _ _ h=>h,Nat.le_refl _⟩ h3⟩
 gap:=fun i g hi=>⟨(S.gap i g hi).1,(S.gap i g hi).2.le (fun _ _ h=>h) rfl ⟨fun _ _ h=>h,fun _ _ h=>h,Nat.le_refl _⟩⟩
 yi:=S.yi
 yb:=fun i n hi=>by
  rcases S.yb i n hi with g|g
  ·obtain ⟨i0,L,h1,rfl⟩:=loopsOf_mem.1 g
   exact R.yb i0 _ (R.gap i0 _ h1).2.1
  ·exact .inr (Nat.le_trans R.size g)
 old:=fun n hn hno hnl=>by
  have hlt:n<w.heap.size:=by have:=R.size;omega
  rw [S.old n hlt (fun i p hi hp=>?_) (fun hl=>?_)]
  ·exact R.old n hn hno hnl
  ·rcases R.news i p hi with g|g
   ·exact hno i p g hp
   ·omega
  ·obtain ⟨i0,L,h1,rfl⟩:=loopsOf_mem.1 hl
   rcases R.yb i0 _ (R.gap i0 _ h1).2.1 with g|g
   ·exact hnl g
   ·omega
 win:=fun i p hi=>by
  obtain ⟨o,o',h1,h2,h3⟩:=R.win i p hi
  obtain ⟨x,x',g1,g2,g3⟩:=S.win i p (R.keepr i p hi)
  have g1':w.heap[p.n]? =some x:=g1
  rw [h2] at g1';cases g1'
  exact ⟨o,x',h1,g2,h3.trans g3⟩
 kr:=R.kr
 kle:=Nat.le_trans R.kle S.kle
 mks:=fun r hr=>by
  have hm:=R.mks r hr
  refine ⟨?_,hm.2⟩
  rw [S.old r (Array.getElem?_eq_some_iff.1 hm.1).1 (fun i p hi hp=>?_) (fun hl=>?_)]
  ·exact hm.1
  ·subst hp
   obtain ⟨c,t,h1,_⟩:=R.isCells hi
   have h2:=hm.1
   rw [h1] at h2;cases h2
  ·obtain ⟨i0,L,h1,rfl⟩:=loopsOf_mem.1 hl
   obtain ⟨_,r,h2,_⟩:=(R.gap i0 _ h1).2
   have h3:=hm.1
   rw [h2] at h3;cases h3
 mnd:=R.mnd
def resOne (t':List Value):ResultVar→Sem Value
 | .tmp i=>pure ((⟨t'⟩:Array Value).getD i undef)
 | .cell a ty=>do loadVar ty (←asAddr ((⟨t'⟩:Array Value).getD a undef))
theorem resS_sound {t:List (Option SV)} {t':List Value} (hl:TR e t t') (R:Rel B e h w):∀(l:List ResultVar) (vs:List SV),resS P t h l=some (vs,true)→
  ∃vs',(l.mapM (resOne t')).run P w= .ok vs' w∧LR e vs vs'
 | [],vs,g=>by simp [resS] at g;subst g;exact ⟨[],by simp,rfl⟩
 | .tmp i::l,vs,g=>by
  simp only [resS] at g
  split at g
  ·rename_i v us p hv hr
   simp only [Option.some.injEq,Prod.mk.injEq] at g
   obtain ⟨rfl,rfl⟩:=g
   obtain ⟨vs',hvs,hl'⟩:=resS_sound hl R l us hr
   refine ⟨_,?_,_,_,ev_sound (d:=[]) hl hv,hl',rfl⟩
   simp only [List.mapM_cons,resOne,Sem.run_bind,hvs,Sem.run_pure,Result.andThen_ok,Act.eval]
  ·cases g
 | .cell a ty::l,vs,g=>by
  simp only [resS] at g
  split at g
  ·rename_i x hx
   split at g
   ·rename_i v q us p hv hus
    simp only [Option.some.injEq,Prod.mk.injEq,andT_iff] at g
    obtain ⟨rfl,rfl,rfl⟩:=g
    obtain ⟨vs',hv',hl'⟩:=resS_sound hl R l us hus
    obtain ⟨ad,v',ha,hr,hvr⟩:=loadS_sound (P:=P) R hv (ev_sound (d:=[]) hl hx)
    have ha':(⟨t'⟩:Array Value).getD a undef= .pointer (some ad):=ha
    refine ⟨_,?_,_,_,hvr,hl',rfl⟩
    simp only [List.mapM_cons,resOne,Sem.run_bind,ha',asAddr,Sem.run_pure,Result.andThen_ok,hr,hv']
   ·cases g
  ·cases g
theorem oneOf_VR {vs:List SV} {vs':List Value} (h:LR e vs vs'):VR e (oneOf vs) (if g:(⟨vs'⟩:Array Value).size=1 then (⟨vs'⟩:Array Value)[0] else .tuple ⟨vs'⟩):=by
 match vs,h with
 | [],g=>rw [LR] at g;subst g;exact ⟨[],rfl,rfl⟩
 | [x],⟨y,zs,hy,hz,q⟩=>rw [LR] at hz;subst hz;subst q;simpa [oneOf] using hy
 |x::x'::xs,⟨y,zs,hy,hz,q⟩=>
  subst q
  have hlen:=hz.length
  have:¬(⟨y::zs⟩:Array Value).size=1:=by simp [List.size_toArray] at*;intro e;subst e;simp at hlen
  rw [dif_neg this]
  exact ⟨_,⟨y,zs,hy,hz,rfl⟩,rfl⟩
theorem results_sound {t:List (Option SV)} {t':List Value} (hl:TR e t t') (R:Rel B e h w) {fn:Func} {vs:List SV} (g:resS P t h fn.results.toList=some (vs,true)):
  ∃v',(results fn ⟨t'⟩).run P w= .ok v' w∧VR e (oneOf vs) v':=by
 obtain ⟨vs',hv,hl'⟩:=resS_sound hl R fn.results.toList vs g
 refine ⟨_,?_,oneOf_VR hl'⟩
 have hfun:results fn ⟨t'⟩=(do let vs ←fn.results.mapM (resOne t');pure (if h:vs.size=1 then vs[0] else .tuple vs)):=by
  unfold results
  have:∀g:ResultVar→Sem Value,(∀x,g x=resOne t' x)→g=resOne t':=fun g h=>funext h
  rw [this (fun x=>_) (fun x=>by cases x<;>rfl)]
 rw [hfun,Array.mapM_eq_mapM_toList]
 simp only [Sem.run_bind,Sem.run_map,hv,Result.andThen_ok]
 rfl
theorem TR.slots0 {args:List SV} {args':List Value} (h:LR e args args') (n:Nat):TR e (slots0 n args) (args'++List.replicate (n-args.length) undef):=by
 refine ⟨by simp [Sy.slots0,h.length],fun i v v' g g'=>?_⟩
 unfold Sy.slots0 at g
 rcases Nat.lt_or_ge i args.length with h1|h1
 ·rw [List.getElem?_append_left (by simpa using h1),List.getElem?_map] at g
  rw [List.getElem?_append_left (by rw [h.length];exact h1)] at g'
  obtain ⟨x,hx,q⟩:=Option.map_eq_some_iff.1 g
  cases q
  obtain ⟨y,hy,hv⟩:=h.get hx
  rw [g'] at hy;cases hy
  exact hv
 ·rw [List.getElem?_append_right (by simpa using h1),List.getElem?_replicate] at g
  split at g<;>cases g
end
def mkD (m:List Nat):List Deferred:=m.map fun r=>{target:=.collected r,args:=#[]}
def Tr (P:Program) (ro:Option Nat) (k:Nat) (c:Code) (s:St) (x:Exit) (s':St):Prop:=
 ∀(B:Base) (e:Env) (w:World) (t':List Value) (d:List Deferred) (Q:Exit→Act→World→Prop) (nn:Nat),B.k≤k→TR e s.t t'→Rel B e s.h w→
  (∀e' w' t'',TR e' s'.t t''→Rel B e' s'.h w'→Q x ⟨⟨t''⟩,mkD e'.m++d⟩ w')→c.wpIn (wF ro) nn P Q ⟨⟨t'⟩,mkD e.m++d⟩ w
def TrR (P:Program) (ro:Option Nat) (k:Nat) (b:Code) (s:St) (x:Exit) (s':St):Prop:=
 ∃m:Nat,∀(B:Base) (e:Env) (w:World) (t':List Value) (d:List Deferred) (Q:Exit→Act→World→Prop) (nn:Nat),B.k≤k→TR e s.t t'→Rel B e s.h w→
  (∀e' w' t'',TR e' s'.t t''→Rel B e' s'.h w'→Q x ⟨⟨t''⟩,mkD e'.m++d⟩ w')→Code.roundsIn (wF ro) nn P b Q m ⟨⟨t'⟩,mkD e.m++d⟩ w
section
variable {P:Program} {ro:Option Nat} {k:Nat}
theorem wpIn_scope {F:Fence} {n:Nat} {Q:Exit→Act→World→Prop} {a:Act} {w:World} {c:Code} (h:c.wpIn F n P (fun e a w=>(∀l,e≠.goto l)∧Q e a w) a w):(Code.scope c).wpIn F n P Q a w:=by
 intro b k cs hro hb hr
 have h0:(lone (b.atR a (.code (.scope c)::k)) cs w).fenced P F:=fenced_calm hb hr rfl
 have st:step P (lone (b.atR a (.code (.scope c)::k)) cs w)= .next (lone (b.atR a (.code c:: .inScope c::k)) cs w):=step_lone_go (by simp [stepG,stepG.exec,Frame.atR])
 obtain ⟨e,a₁,w₁,⟨hg,hq⟩,harr⟩:=h b (.inScope c::k) cs hro hb hr
 cases e with
 |normal=>exact ⟨.normal,a₁,w₁,hq,.head h0 st (StepsIn.trans harr (.one (fenced_calm hb hr rfl) (step_lone_go (by simp [stepG,stepG.exec,Frame.atR]))))⟩
 |exit id=>
  have hx:exitTo id (.inScope c::k)=exitTo id k:=by simp [exitTo]
  exact ⟨.exit id,a₁,w₁,hq,fun k' hk=>.head h0 st (harr.1 k' (by rw [hx];exact hk)),fun hr' hk=>let ⟨k₁,h1,h2⟩:=harr.2 hr' (by rw [hx];exact hk);⟨k₁,h1,.head h0 st h2⟩⟩
 |goto l=>exact absurd rfl (hg l)
 |ret=>exact ⟨_,a₁,w₁,hq,.of_steps (.one h0 st) harr⟩
 |panic ch=>exact ⟨_,a₁,w₁,hq,.of_steps (.one h0 st) harr⟩
 |outgrown=>exact ⟨_,a₁,w₁,hq,.of_steps (.one h0 st) harr⟩
theorem Tr.scope {b:Code} {s s':St} {x:Exit} (h:Tr P ro k b s x s') (hx:∀l,x≠.goto l):Tr P ro k (.scope b) s x s':=
 fun B e w t' d Q nn hB hl R hQ=>wpIn_scope (h B e w t' d _ nn hB hl R fun e1 w1 t1 hl1 R1=>⟨hx,hQ e1 w1 t1 hl1 R1⟩)
theorem Tr.seq {a b:Code} {s s1 s':St} {x:Exit} (h1:Tr P ro k a s .normal s1) (h2:Tr P ro k b s1 x s'):Tr P ro k (.seq a b) s x s':=
 fun B e w t' d Q nn hB hl R hQ=>wpIn_seq (h1 B e w t' d _ nn hB hl R fun e1 w1 t1 hl1 R1=>h2 B e1 w1 t1 d Q nn hB hl1 R1 fun e2 w2 t2 hl2 R2=>hQ e2 w2 t2 hl2 R2)
theorem Tr.seq_leave {a b:Code} {s s':St} {x:Exit} (h1:Tr P ro k a s x s') (hx:x≠.normal):Tr P ro k (.seq a b) s x s':=
 fun B e w t' d Q nn hB hl R hQ=>wpIn_seq (h1 B e w t' d _ nn hB hl R fun e1 w1 t1 hl1 R1=>by
  have:=hQ e1 w1 t1 hl1 R1
  cases x<;>first|exact absurd rfl hx|exact this)
theorem Tr.block {id:Nat} {b:Code} {s s':St} (h:Tr P ro k b s (.exit id) s'):Tr P ro k (.block id b) s .normal s':=
 fun B e w t' d Q nn hB hl R hQ=>wpIn_block (h B e w t' d _ nn hB hl R fun e1 w1 t1 hl1 R1=>by
  show (if id=id then Q .normal _ _ else _)
  rw [if_pos rfl];exact hQ e1 w1 t1 hl1 R1)
theorem Tr.block_pass {id:Nat} {b:Code} {s s':St} {x:Exit} (h:Tr P ro k b s x s') (hx:∀j,x≠.exit j):Tr P ro k (.block id b) s x s':=
 fun B e w t' d Q nn hB hl R hQ=>wpIn_block (h B e w t' d _ nn hB hl R fun e1 w1 t1 hl1 R1=>by
  have:=hQ e1 w1 t1 hl1 R1
  cases x<;>first|exact absurd rfl (hx _)|exact this)
theorem Tr.block_out {id j:Nat} {b:Code} {s s':St} (h:Tr P ro k b s (.exit j) s') (hj:j≠id):Tr P ro k (.block id b) s (.exit j) s':=
 fun B e w t' d Q nn hB hl R hQ=>wpIn_block (h B e w t' d _ nn hB hl R fun e1 w1 t1 hl1 R1=>by
  show (if j=id then Q .normal _ _ else _)
  rw [if_neg hj];exact hQ e1 w1 t1 hl1 R1)
theorem Tr.cond_true {c:Operand} {a b:Code} {s s':St} {x:Exit} (hc:ev s.t c=some (.bool true)) (h:Tr P ro k a s x s'):Tr P ro k (.cond c a b) s x s':=
 fun B e w t' d Q nn hB hl R hQ=>wpIn_cond_true (ev_sound hl hc) (h B e w t' d Q nn hB hl R hQ)
theorem Tr.cond_false {c:Operand} {a b:Code} {s s':St} {x:Exit} (hc:ev s.t c=some (.bool false)) (h:Tr P ro k b s x s'):Tr P ro k (.cond c a b) s x s':=
 fun B e w t' d Q nn hB hl R hQ=>wpIn_cond_false (ev_sound hl hc) (h B e w t' d Q nn hB hl R hQ)
theorem TrR.leave {b:Code} {s s':St} {x:Exit} (h:Tr P ro k b s x s') (hx:x≠.normal):TrR P ro k b s x s':=
 ⟨1,fun B e w t' d Q nn hB hl R hQ=>by
  rw [roundsIn_succ]
  refine h B e w t' d _ nn hB hl R fun e1 w1 t1 hl1 R1=>?_
  have:=hQ e1 w1 t1 hl1 R1
  cases x<;>first|exact absurd rfl hx|exact this⟩
theorem TrR.step {b:Code} {s s1 s':St} {x:Exit} (h:Tr P ro k b s .normal s1) (g:TrR P ro k b s1 x s'):TrR P ro k b s x s':=by
 obtain ⟨m,hm⟩:=g
 refine ⟨m+1,fun B e w t' d Q nn hB hl R hQ=>?_⟩
 rw [roundsIn_succ]
 exact h B e w t' d _ nn hB hl R fun e1 w1 t1 hl1 R1=>hm B e1 w1 t1 d Q nn hB hl1 R1 fun e2 w2 t2 hl2 R2=>hQ e2 w2 t2 hl2 R2
theorem TrR.loop {b:Code} {s s':St} {x:Exit} (h:TrR P ro k b s x s'):Tr P ro k (.loop b) s x s':=by
 obtain ⟨m,hm⟩:=h
 exact fun B e w t' d Q nn hB hl R hQ=>wpIn_loop_rounds m (hm B e w t' d Q nn hB hl R hQ)
theorem TrR.for {b:Code} {x:Exit} {s':St} (hx:x≠.normal) (f:Nat→St) (N:Nat) (hb:∀i,i<N→Tr P ro k b (f i) .normal (f (i+1))) (hlast:Tr P ro k b (f N) x s'):TrR P ro k b (f 0) x s':=by
 have key:∀(m i:Nat),N=i+m→TrR P ro k b (f i) x s':=by
  intro m
  induction m with
  |zero=>intro i hN;obtain rfl:N=i:=by omega
         exact TrR.leave hlast hx
  |succ m ih=>intro i hN;exact TrR.step (hb i (by omega)) (ih (i+1) (by omega))
 exact key N 0 (by omega)
theorem Rel.unmark {B:Base} {e:Env} {h:List Blk} {w:World} (R:Rel B e h w) {r:Nat} {m:List Nat} (hm:e.m=r::m):Rel B {e with m:=m} h (w.putObj r (.deferred none)):=by
 obtain ⟨hr,hrB⟩:=R.mks r (by rw [hm];simp)
 have hother:∀n,n≠r→(w.putObj r (.deferred none)).heap[n]? =w.heap[n]? :=fun n hn=>World.putObj_heap_other hn
 have le:Env.Le e {e with m:=m}:=⟨fun _ _ h=>h,fun _ _ h=>h,Nat.le_refl _⟩
 have cellsK:∀{n:Nat} {c:Array Value} {t:TypeId} {fr:Nat×Nat},w.heap[n]? =some (.cells c t fr)→(w.putObj r (.deferred none)).heap[n]? =some (.cells c t fr):=fun {n c t fr} h=>by
  rw [hother n (fun q=>by subst q;rw [hr] at h;cases h)];exact h
 exact {
  os:=R.os,tape:=R.tape,output:=R.output
  size:=by rw [World.putObj_size];exact R.size
  inj:=R.inj,dom:=R.dom,sep:=R.sep
  zok:=fun n c t fr hz=>cellsK (R.zok n c t fr hz)
  zfresh:=R.zfresh,glb:=R.glb,news:=R.news,keepr:=R.keepr,keepz:=R.keepz,n0:=R.n0,n0le:=R.n0le
  blk:=fun i ps hi=>(R.blk i ps hi).imp id fun ⟨p,o,h1,h2,h3⟩=>by
   obtain ⟨c,t,rfl,h4,h5,h6⟩:=h3
   exact ⟨p,_,h1,cellsK h2,c,t,rfl,h4,h5,h6.mono le⟩
  gap:=fun i g hi=>⟨(R.gap i g hi).1,(R.gap i g hi).2.le (fun n o hn=>by rw [hother n (fun q=>by subst q;rw [hr] at hn;cases hn)];exact hn) rfl le⟩
  yi:=R.yi,yb:=R.yb
  old:=fun n hn hno hnl=>by rw [hother n (by omega)];exact R.old n hn hno hnl
  win:=fun i p hi=>by
   obtain ⟨o,o',h1,h2,h3⟩:=R.win i p hi
   obtain ⟨c,c',t,fr,rfl,rfl,h4⟩:=h3
   exact ⟨_,_,h1,cellsK h2,c,c',t,fr,rfl,rfl,h4⟩
  kr:=R.kr,kle:=R.kle
  mks:=fun q hq=>by
   have hnd:=R.mnd
   rw [hm,List.nodup_cons] at hnd
   refine ⟨?_,(R.mks q (by rw [hm];simp [hq])).2⟩
   rw [hother q (fun x=>by subst x;exact hnd.1 hq)]
   exact (R.mks q (by rw [hm];simp [hq])).1
  mnd:=by have hnd:=R.mnd;rw [hm,List.nodup_cons] at hnd;exact hnd.2}
theorem leaves_marks {fn:Func} {t:List (Option SV)} {h:List Blk} {vs:List SV} (hr:resS P t h fn.results.toList=some (vs,true)) {B:Base} {t'':List Value} {K:Ending→World→Prop}:∀(m:List Nat) (e:Env) (w:World),e.m=m→TR e t t''→Rel B e h w→
  (∀v' e' w',VR e' (oneOf vs) v'→Rel B e' h w'→K (.returned v') w')→LeavesInM (wF none) 0 P fn ⟨t''⟩ K (mkD m++[]) .returning w
 | [],e,w,_,hl,R,hK=>by
  obtain ⟨v',hv,hvr⟩:=results_sound hl R hr
  exact ⟨v',hv,hK v' e w hvr R⟩
 |r::m,e,w,hm,hl,R,hK=>by
  have hr1:=(R.mks r (by rw [hm];simp)).1
  refine ⟨by simp,.inl ⟨r,_,rfl,run_takeDeferred hr1,?_⟩⟩
  exact leaves_marks hr m {e with m:=m} _ rfl (TR.mono (e:=e) (e':={e with m:=m}) ⟨fun _ _ h=>h,fun _ _ h=>h,Nat.le_refl _⟩ hl) (R.unmark hm) hK
theorem calls_of_TrS {f:FuncId} {fn:Func} (hf:P.funcs[f]? =some fn) {c:Code} (hb:fn.body=some c) {args:List SV} {h:List Blk} {x:Exit} {s:St} {vs:List SV} (hx:x= .ret∨x= .normal) {kk:Nat}
  (ht:Tr P none kk c ⟨slots0 fn.ntmps args,h,true⟩ x s) (hr:resS P s.t s.h fn.results.toList=some (vs,true)) {B:Base} {e:Env} {w:World} {args':List Value} (hB:h.length≤kk) (hl:LR e args args') (R:Rel B e h w):
  Calls P f ⟨args'⟩ w fun en w'=>∃v',en= .returned v'∧∃e',VR e' (oneOf vs) v'∧Rel (baseOf e h w) e' s.h w':=by
 refine callsIn_wF.1 (callsIn_of_wp_marks (F:=wF none) (n:=0) hf hb trivial ?_)
 have hlen:=hl.length
 have htm:((⟨args'⟩:Array Value)++Array.replicate (fn.ntmps-(⟨args'⟩:Array Value).size) undef)=⟨args'++List.replicate (fn.ntmps-args.length) undef⟩:=by
  apply Array.ext'
  simp [hlen]
 rw [htm]
 have key:=ht (baseOf e h w) (e.bare h) w (args'++List.replicate (fn.ntmps-args.length) undef) [] (bodyPostM (wF none) 0 P fn fun en w'=>∃v',en= .returned v'∧∃e',VR e' (oneOf vs) v'∧Rel (baseOf e h w) e' s.h w') 0 hB (TR.slots0 (hl.mono (bare_le e h)) fn.ntmps) R.self
 refine key fun e' w' t'' hl' R'=>?_
 have fin:=leaves_marks (fn:=fn) (K:=fun en w'=>∃v',en= .returned v'∧∃e',VR e' (oneOf vs) v'∧Rel (baseOf e h w) e' s.h w') hr e'.m e' w' rfl hl' R' fun v' e2 w2 hv R2=>⟨v',rfl,e2,hv,R2⟩
 rcases hx with rfl|rfl
 ·exact fin
 ·exact fin
theorem calls_of_Tr {f:FuncId} {fn:Func} (hf:P.funcs[f]? =some fn) {c:Code} (hb:fn.body=some c) {args:List SV} {h:List Blk} {x:Exit} {s:St} {vs:List SV} (hx:x= .ret∨x= .normal) {kk:Nat}
  (ht:Tr P none kk c ⟨slots0 fn.ntmps args,h,true⟩ x s) (hr:resS P s.t s.h fn.results.toList=some (vs,true)) {B:Base} {e:Env} {w:World} {args':List Value} (hB:h.length≤kk) (hl:LR e args args') (R:Rel B e h w):
  Calls P f ⟨args'⟩ w fun en w'=>∃v',en= .returned v'∧∃e',e'.m=e.m∧VR e' (oneOf vs) v'∧Rel B e' s.h w':=by
 refine (calls_of_TrS hf hb hx ht hr hB hl R).mono ?_
 rintro en w' ⟨v',rfl,e',hv,S⟩
 exact ⟨v',rfl,{e' with m:=e.m},rfl,VR.mono (e:=e') (e':={e' with m:=e.m}) ⟨fun _ _ h=>h,fun _ _ h=>h,Nat.le_refl _⟩ hv,R.trans S⟩
theorem callFunc_enter {f:FuncId} {fn:Func} (hf:P.funcs[f]? =some fn) (hn:fn.name≠ "runtime.NumGoroutine") (hb:fn.body≠none) (args:Array Value) (w:World):(callFunc f args).run P w= .ok (.enter f args) w:=by
 cases hq:fn.body with
 |none=>exact absurd hq hb
 |some c=>simp [callFunc,hf,hn,hq]
theorem exec_ob {Γ:Ctr}:∀(n k:Nat) (c:Code) (s s':St) (x:Exit),exec P Γ n k c s=some (x,s')→s'.ob=true→s.ob=true
 |0,_,_,_,_,_,e,_=>by simp [exec] at e
 |n+1,k,c,s,s',x,e,h=>by
  cases c<;>simp only [exec] at e
  case skip=>cases e;exact h
  case label=>cases e;exact h
  case exit=>cases e;exact h
  case ret=>cases e;exact h
  case seq a b=>
   split at e
   ·rename_i s1 h1;exact exec_ob n k a s s1 _ h1 (exec_ob n k b s1 s' x e h)
   ·exact exec_ob n k a s s' x e h
  case cond c a b=>
   split at e
   ·exact exec_ob n k a s s' x e h
   ·exact exec_ob n k b s s' x e h
   ·cases e
  case block id b=>
   split at e
   ·rename_i j s1 h1
    split at e<;>(cases e;exact exec_ob n k b s _ _ h1 h)
   ·exact exec_ob n k b s s' x e h
  case loop b=>
   split at e
   ·rename_i s1 h1;exact exec_ob n k b s s1 _ h1 (exec_ob n k _ s1 s' x e h)
   ·exact exec_ob n k b s s' x e h
  case scope b=>
   split at e
   ·cases e
   ·exact exec_ob n k b s s' x e h
  case region id ops draw=>
   split at e
   ·split at e
    ·rename_i s1 fs hm h1
     split at e
     case h_2=>cases e
     cases e
     exact runD_ob _ ⟨s.t,s.h++List.replicate (makes Γ.nb ops.toList) .gap,s.ob⟩ _ _ h1 h
    ·cases e
   ·obtain ⟨s1,h1,h2⟩:=Option.map_eq_some_iff.1 e
    cases h2
    exact runOps_ob _ _ _ h1 h
  all_goals cases e
theorem callG_pure {Γ:Ctr} (hΓ:CtrSound P Γ) (ex:Nat→Code→St→Option (Exit×St)):PureC Γ.pf (callG P Γ ex):=by
 refine ⟨fun f hf vs h j v h' new p g=>?_,fun f hf vs h j v h' new p g=>?_⟩
 ·simp only [callG] at g ⊢
  cases hi:Γ.inl f with
  |some fn=>have:=(hΓ.inl f fn hi).2.2;omega
  |none=>rw [hi] at g;exact hΓ.pure.1 f hf vs h j v h' new p g
 ·simp only [callG] at g ⊢
  cases hi:Γ.inl f with
  |some fn=>have:=(hΓ.inl f fn hi).2.2;omega
  |none=>rw [hi] at g;exact hΓ.pure.2 f hf vs h j v h' new p g
theorem place_back {h h1:List Blk} {j:Nat} (hle:h.length≤h1.length) (hc:(Nat.beq (h1.length-h.length) 0||Nat.beq j h.length)=true):placeH (h1.take h.length) j (h1.drop h.length)=h1:=by
 simp only [Bool.or_eq_true] at hc
 unfold placeH
 have hlt:(h1.take h.length).length=h.length:=by simp;omega
 rcases hc with hc|hc
 ·have:=Nat.eq_of_beq_eq_true hc
  have hd:h1.drop h.length=[]:=List.drop_eq_nil_of_le (by omega)
  rw [hd]
  split
  ·rw [List.append_nil,List.take_of_length_le (by omega)]
  ·simp only [fillH];rw [List.take_of_length_le (by omega)]
 ·have:=Nat.eq_of_beq_eq_true hc
  rw [if_pos (by rw [hlt];exact this),List.take_append_drop]
theorem back_sound {B:Base} {e e':Env} {h h1:List Blk} {w w':World} {j:Nat} {u:SV} {v':Value} (R:Rel B e h w) (S:Rel (baseOf e h w) e' h1 w') (hv:VR e' u v') (hc:(Nat.beq (h1.length-h.length) 0||Nat.beq j h.length)=true):
  ∃e2,VR e2 u v'∧Rel B e2 (placeH (h1.take h.length) j (h1.drop h.length)) w'∧EStep e e2 none:=by
 have T:=R.trans S
 refine ⟨{e' with m:=e.m},VR.mono (e:=e') (e':={e' with m:=e.m}) ⟨fun _ _ h=>h,fun _ _ h=>h,Nat.le_refl _⟩ hv,?_,⟨fun i p _ hi=>S.keepr i p hi,fun n x hz=>S.keepz n x hz,by show e'.n0≤e.n0;rw [S.n0];exact Nat.le_refl _,rfl⟩⟩
 rw [place_back S.kle hc]
 exact T
theorem Rel.setLoop {B:Base} {e:Env} {h:List Blk} {w:World} (R:Rel B e h w) {i:Nat} {L:Lp} (hi:h[i]? =some (.g (some L))) {r:Loop} (hr:w.heap[L.l]? =some (.loop r)) (st:LoopState) (pend:Option Code):
  Rel B e (h.set i (.g (some {L with st:=st,pend:=pend}))) (w.putObj L.l (.loop {r with state:=st,pending:=pend})):=by
 have hil:=(List.getElem?_eq_some_iff.1 hi).1
 have hother:∀n,n≠L.l→(w.putObj L.l (.loop {r with state:=st,pending:=pend})).heap[n]? =w.heap[n]? :=fun n hn=>World.putObj_heap_other hn
 have hself:(w.putObj L.l (.loop {r with state:=st,pending:=pend})).heap[L.l]? =some (.loop {r with state:=st,pending:=pend}):=World.putObj_heap_same (Array.getElem?_eq_some_iff.1 hr).1
 have cellsK:∀{n:Nat} {c:Array Value} {t:TypeId} {fr:Nat×Nat},w.heap[n]? =some (.cells c t fr)→(w.putObj L.l (.loop {r with state:=st,pending:=pend})).heap[n]? =some (.cells c t fr):=fun {n c t fr} h=>by
  rw [hother n (fun q=>by subst q;rw [hr] at h;cases h)];exact h
 obtain ⟨hn,hy,r0,h0,h1,h2,h3,h4,h5,h6⟩:=R.gap i _ hi
 rw [hr] at h0;cases h0
 exact {
  os:=R.os,tape:=R.tape,output:=R.output
  size:=by rw [World.putObj_size];exact R.size
  inj:=R.inj,dom:=fun i p hi=>by simpa using R.dom i p hi,sep:=R.sep
  zok:=fun n c t fr hz=>cellsK (R.zok n c t fr hz)
  zfresh:=R.zfresh,glb:=R.glb,news:=R.news,keepr:=R.keepr,keepz:=R.keepz,n0:=R.n0,n0le:=R.n0le
  blk:=fun j ps hj=>by
   by_cases hij:i=j
   ·subst hij;rw [List.getElem?_set_self hil] at hj;cases hj
   ·rw [List.getElem?_set_ne hij] at hj
    refine (R.blk j ps hj).imp id fun ⟨p,o,h1,h2,h3⟩=>?_
    obtain ⟨c,t,rfl,h4,h5,h6⟩:=h3
    exact ⟨p,_,h1,cellsK h2,c,t,rfl,h4,h5,h6⟩
  gap:=fun j g hj=>by
   by_cases hij:i=j
   ·subst hij
    rw [List.getElem?_set_self hil] at hj;cases hj
    exact ⟨hn,hy,_,hself,h1,h2,h3,rfl,rfl,h6⟩
   ·rw [List.getElem?_set_ne hij] at hj
    refine ⟨(R.gap j g hj).1,?_⟩
    have hg:=(R.gap j g hj).2
    cases g with
    |none=>trivial
    |some M=>
     obtain ⟨q1,r1,q2,q3⟩:=hg
     refine ⟨q1,r1,?_,q3⟩
     rw [hother M.l (fun x=>hij (R.yi i j L.l hy (by rw [q1,x])))];exact q2
  yi:=R.yi,yb:=R.yb
  old:=fun n hlt hno hnl=>by
   rw [hother n (fun q=>?_)]
   ·exact R.old n hlt hno hnl
   ·subst q
    rcases R.yb i _ hy with g|g
    ·exact hnl g
    ·omega
  win:=fun i p hi=>by
   obtain ⟨o,o',h1,h2,h3⟩:=R.win i p hi
   obtain ⟨c,c',t,fr,rfl,rfl,h4⟩:=h3
   exact ⟨_,_,h1,cellsK h2,c,c',t,fr,rfl,rfl,h4⟩
  kr:=R.kr,kle:=by simpa using R.kle
  mks:=fun q hq=>by
   refine ⟨?_,(R.mks q hq).2⟩
   rw [hother q (fun x=>by subst x;have:=(R.mks _ hq).1;rw [hr] at this;cases this)]
   exact (R.mks q hq).1
  mnd:=R.mnd}
theorem readyL_get:∀{h:List Blk} {i j:Nat} {L:Lp},readyL h j=some (i,L)→j≤i∧h[i-j]? =some (.g (some L))∧L.st= .ready
 | [],i,j,L,g=>by simp [readyL] at g
 |b::bs,i,j,L,g=>by
  simp only [readyL] at g
  split at g
  ·rename_i q hq
   cases g
   obtain ⟨h1,h2,h3⟩:=readyL_get hq
   exact ⟨by omega,by rw [show i-j=(i-(j+1))+1 by omega,List.getElem?_cons_succ];exact h2,h3⟩
  ·split at g
   ·rename_i L'
    split at g
    ·rename_i hst
     cases g
     exact ⟨Nat.le_refl _,by rw [Nat.sub_self];rfl,hst⟩
    ·cases g
   ·cases g
theorem setTs_sound {e:Env}:∀(ps:List Tmp) (vs:List SV) (t:List (Option SV)) (t' ys:List Value),TR e t t'→LR e vs ys→ps.length=vs.length→
  TR e (setTs t ps vs) ((ps.zip ys).foldl (fun (tm:Array Value) (q:Tmp×Value)=>tm.setIfInBounds q.1 q.2) ⟨t'⟩).toList
 | [],vs,t,t',ys,h,_,_=>by cases vs<;>simpa [setTs] using h
 |i::is,[],t,t',ys,h,_,hl=>by simp at hl
 |i::is,v::vs,t,t',ys,h,⟨y,zs,h1,h2,q⟩,hl=>by
  subst q
  simp only [setTs,List.zip_cons_cons,List.foldl_cons]
  have:=setTs_sound is vs (t.set i (some v)) (t'.set i y) zs (h.set h1 i) h2 (by simpa using hl)
  have hq:(⟨t'⟩:Array Value).setIfInBounds i y=⟨t'.set i y⟩:=by simp
  rw [hq];exact this
theorem callG_sound {Γ:Ctr} (hΓ:CtrSound P Γ) {n:Nat} (hex:∀(ro:Option Nat) (k:Nat) (c:Code) (s s':St) (x:Exit),exec P Γ n k c s=some (x,s')→s'.ob=true→Tr P ro k c s x s'):GSound P (callG P Γ fun k=>exec P Γ n k):=by
 intro f vs h j v h' new g B e w args hl R hj
 cases f with
 |func f=>
  simp only [callG] at g
  cases hi:Γ.inl f with
  |none=>rw [hi] at g;exact hΓ.calls f vs h j v h' new g B e w args hl R hj
  |some fn=>
   obtain ⟨hf,hn,_⟩:=hΓ.inl f fn hi
   rw [hi] at g
   simp only at g
   split at g
   ·rename_i u h1 p hcall
    split at g
    ·rename_i hc
     simp only [Option.some.injEq,Prod.mk.injEq] at g
     obtain ⟨rfl,rfl,rfl,rfl⟩:=g
     unfold callW at hcall
     cases hb:fn.body with
     |none=>rw [hb] at hcall;cases hcall
     |some c=>
      rw [hb] at hcall
      simp only at hcall
      have key:∀(x:Exit) (s:St),(x= .ret∨x= .normal)→exec P Γ n h.length c ⟨slots0 fn.ntmps vs,h,true⟩=some (x,s)→((resS P s.t s.h fn.results.toList).map fun q=>(oneOf q.1,s.h,andT s.ob q.2))=some (u,h1,true)→
        CallOK P (.func f) ⟨args⟩ w fun v' w'=>∃e',VR e' u v'∧Rel B e' (placeH (h1.take h.length) j (h1.drop h.length)) w'∧EStep e e' none:=fun x s hx hs hr=>by
       obtain ⟨⟨rs,q⟩,hres,h2⟩:=Option.map_eq_some_iff.1 hr
       simp only [Prod.mk.injEq,andT_iff] at h2
       obtain ⟨rfl,rfl,hob,rfl⟩:=h2
       refine .inr ⟨callFunc_enter hf hn (by rw [hb];simp) _ w,?_⟩
       refine (calls_of_TrS hf hb hx (hex none _ c _ s x hs hob) hres (Nat.le_refl _) hl R).mono ?_
       rintro en w' ⟨v',rfl,e',hv,S⟩
       exact ⟨v',rfl,back_sound R S hv hc⟩
      split at hcall
      ·rename_i s hs;exact key _ s (.inl rfl) hs hcall
      ·rename_i s hs;exact key _ s (.inr rfl) hs hcall
      ·cases hcall
    ·cases g
   ·cases g
 |yield l=>
  simp only [callG] at g
  split at g
  ·rename_i u h1 p hy
   simp only [Option.some.injEq,Prod.mk.injEq] at g
   obtain ⟨rfl,rfl,rfl,rfl⟩:=g
   exact (hΓ.yields l vs h u h1 hy B e w args hl R).mono fun v' w' ⟨e',h1,h2,h3⟩=>⟨e',h1,by rw [placeH_nil];exact h2,h3⟩
  split at g
  ·rename_i u h1 p hy
   split at g
   ·rename_i hc
    simp only [Option.some.injEq,Prod.mk.injEq] at g
    obtain ⟨rfl,rfl,rfl,rfl⟩:=g
    unfold yieldW at hy
    split at hy
    ·cases hy
    ·rename_i i L hL
     obtain ⟨_,hLi,hst⟩:=readyL_get hL
     rw [Nat.sub_zero] at hLi
     split at hy
     ·rename_i s1 hps hasg
      split at hy
      ·cases hy
      ·rename_i L1 hL1
       have hL1:=lpAt_eq hL1
       split at hy
       ·rename_i x s2 hst1 hbody
        split at hy
        ·rename_i q L2 hq hL2
         have hL2:=lpAt_eq hL2
         simp only [Option.some.injEq,Prod.mk.injEq,andT_iff,decide_eq_true_eq] at hy
         obtain ⟨rfl,rfl,hob2,hl2⟩:=hy
         have hob1:=exec_ob n _ _ _ _ _ hbody hob2
         simp only [andT_iff,decide_eq_true_eq] at hob1
         obtain ⟨hob1,hl1⟩:=hob1
         have hl0:L.l=l:=by have:=exec_ob n _ _ _ _ _ hasg hob1;simpa using this
         have S0:=R.self
         obtain ⟨_,_,r,hr,hp,ha,hbd,_,_,hTR⟩:=S0.gap i _ hLi
         rw [hl0] at hr
         have hps':=Nat.eq_of_beq_eq_true hps
         have hargs:(⟨args⟩:Array Value).size=r.params.size:=by rw [hp,hps'];exact hl.length
         refine ⟨r.fn,_,r.assign,r.body,run_yield hr hargs,fun ro nn=>?_⟩
         refine roundIn_of_wpIn (F:=wF ro) trivial ?_
         have htm:((r.params.zip ⟨args⟩).foldl (fun tmps (t,a)=>tmps.setIfInBounds t a) r.tmps)=⟨((L.ps.toList.zip args).foldl (fun (tm:Array Value) (q:Tmp×Value)=>tm.setIfInBounds q.1 q.2) ⟨r.tmps.toList⟩).toList⟩:=by
          rw [hp]
          apply Array.ext'
          rw [←Array.foldl_toList]
          simp
         rw [htm,ha,hbd]
         have hTR':=setTs_sound L.ps.toList vs L.t r.tmps.toList args hTR (hl.mono (bare_le e h)) (by simpa using hps')
         refine hex (some l) _ _ _ _ _ hasg hob1 (baseOf e h w) (e.bare h) w _ [] _ nn (Nat.le_refl _) hTR' S0 fun e1 w1 t1 hl1' S1=>?_
         obtain ⟨_,hy1,r1,hr1,hp1,ha1,hbd1,hst1',_,hTR1⟩:=S1.gap i _ hL1
         rw [hl1] at hr1
         refine ⟨_,run_beginRound hr1 (by rw [hst1',hst1]),?_⟩
         have hpend:r1.pending=L1.pend:=by obtain ⟨_,_,r1',hr1',_,_,_,_,h9,_⟩:=S1.gap i _ hL1;rw [hl1,hr1] at hr1';cases hr1';exact h9
         have S1':Rel (baseOf e h w) e1 (s1.h.set i (.g (some {L1 with st:=.busy}))) (w1.putObj l (.loop {r1 with state:=.busy})):=by
          have:=S1.setLoop hL1 (r:=r1) (by rw [hl1];exact hr1) .busy L1.pend
          rw [←hpend] at this
          rw [hl1] at this
          have hset:({L1 with st:=.busy}:Lp)={l:=l,t:=L1.t,ps:=L1.ps,asg:=L1.asg,body:=L1.body,st:=.busy,pend:=r1.pending}:=by rw [hpend, ←hl1]
          rw [hset];exact this
         refine hex (some l) _ _ _ _ _ hbody hob2 (baseOf e h w) e1 _ t1 [] _ nn (Nat.le_refl _) hl1' S1' fun e2 w2 t2 hl2' S2=>?_
         obtain ⟨_,hy2,r2,hr2,_,_,_,_,_,_⟩:=S2.gap i _ hL2
         rw [hl2] at hr2
         have S3:=S2.setLoop hL2 (r:=r2) (by rw [hl2];exact hr2) (if q.isNone then .ready else .done) q
         have fin:∃v w4,(Instr.endRound l q).run P w2= .ok v w4∧∃v',Ending.returned v= .returned v'∧∃e',VR e' (.bool q.isNone) v'∧Rel B e' (placeH ((s2.h.set i (.g (some {L2 with st:=if q.isNone then .ready else .done,pend:=q}))).take h.length) j ((s2.h.set i (.g (some {L2 with st:=if q.isNone then .ready else .done,pend:=q}))).drop h.length)) w4∧EStep e e' none:=by
          refine ⟨_,_,run_endRound q hr2,_,rfl,?_⟩
          rw [hl2] at S3
          have S3':Rel (baseOf e h w) e2 (s2.h.set i (.g (some {L2 with st:=if q.isNone then .ready else .done,pend:=q}))) (w2.putObj l (.loop {r2 with state:=if q.isNone then .ready else .done,pending:=q})):=by
           have hset:({L2 with st:=if q.isNone then .ready else .done,pend:=q}:Lp)={l:=l,t:=L2.t,ps:=L2.ps,asg:=L2.asg,body:=L2.body,st:=if q.isNone then .ready else .done,pend:=q}:=by rw [←hl2]
           rw [hset];exact S3
          exact back_sound R S3' (v':=.bool q.isNone) rfl hc
         cases x<;>simp only [jumpOf,Option.some.injEq,reduceCtorEq] at hq<;>subst hq<;>exact fin
        ·cases hy
       ·cases hy
     ·cases hy
   ·cases g
  ·cases g
 |_=>cases g
theorem exec_sound {Γ:Ctr} (hΓ:CtrSound P Γ):∀(n:Nat) (ro:Option Nat) (k:Nat),
  (∀(c:Code) (s s':St) (x:Exit),exec P Γ n k c s=some (x,s')→s'.ob=true→Tr P ro k c s x s')∧
  (∀(c:Code) (s s':St) (x:Exit),exec P Γ n k (.loop c) s=some (x,s')→s'.ob=true→TrR P ro k c s x s'):=by
 intro n
 induction n with
 |zero=>exact fun ro k=>⟨fun _ _ _ _ e=>by simp [exec] at e,fun _ _ _ _ e=>by simp [exec] at e⟩
 |succ n ih=>
  intro ro k
  obtain ⟨ihA,ihB⟩:=ih ro k
  have hG:=callG_sound hΓ fun ro k c s s' x=>(ih ro k).1 c s s' x
  have hP:=callG_pure hΓ fun k=>exec P Γ n k
  have hB:∀(c:Code) (s s':St) (x:Exit),exec P Γ (n+1) k (.loop c) s=some (x,s')→s'.ob=true→TrR P ro k c s x s':=by
   intro c s s' x e hob
   simp only [exec] at e
   split at e
   ·rename_i s1 h1
    exact TrR.step (ihA c s s1 .normal h1 (exec_ob n k _ s1 s' x e hob)) (ihB c s1 s' x e hob)
   ·rename_i hne
    have hx:x≠.normal:=fun q=>by subst q;exact hne s' e
    exact TrR.leave (ihA c s s' x e hob) hx
  refine ⟨?_,hB⟩
  intro c s s' x e hob
  cases c
  case loop b=>exact TrR.loop (hB b s s' x e hob)
  all_goals simp only [exec] at e
  case skip=>cases e;exact fun B e w t' d Q nn hB hl R hQ=>wpIn_skip (hQ e w t' hl R)
  case label=>cases e;exact fun B e w t' d Q nn hB hl R hQ=>wpIn_label (hQ e w t' hl R)
  case exit=>cases e;exact fun B e w t' d Q nn hB hl R hQ=>wpIn_exit (hQ e w t' hl R)
  case ret=>cases e;exact fun B e w t' d Q nn hB hl R hQ=>wpIn_ret (hQ e w t' hl R)
  case seq a b=>
   split at e
   ·rename_i s1 h1
    exact Tr.seq (ihA a s s1 .normal h1 (exec_ob n k _ s1 s' x e hob)) (ihA b s1 s' x e hob)
   ·rename_i hne
    have hx:x≠.normal:=fun q=>by subst q;exact hne s' e
    exact Tr.seq_leave (ihA a s s' x e hob) hx
  case cond c a b=>
   split at e
   ·rename_i hcv;exact Tr.cond_true hcv (ihA a s s' x e hob)
   ·rename_i hcv;exact Tr.cond_false hcv (ihA b s s' x e hob)
   ·cases e
  case block id b=>
   split at e
   ·rename_i j s1 h1
    split at e
    ·rename_i hj
     cases e
     subst hj
     exact Tr.block (ihA b s s' _ h1 hob)
    ·rename_i hj
     cases e
     exact Tr.block_out (ihA b s s' _ h1 hob) hj
   ·rename_i hne
    exact Tr.block_pass (ihA b s s' x e hob) fun j q=>by subst q;exact hne j s' e
  case scope b=>
   split at e
   ·cases e
   ·rename_i hne
    exact Tr.scope (ihA b s s' x e hob) fun l q=>by subst q;exact hne l s' e
  case region id ops draw=>
   split at e
   ·split at e
    ·rename_i s1 fs hm h1
     split at e
     case h_2=>cases e
     rename_i hd
     cases e
     exact fun B e w t' d Q nn hB hl R hQ=>region_draw_sound hG hP hm hd h1 hob (fun i p hi=>Nat.lt_of_lt_of_le (R.kr i p hi) hB) hl R (fun e' w' t'' hm hl' R'=>by rw [←hm];exact hQ e' w' t'' hl' R') id
    ·cases e
   ·obtain ⟨s1,h1,h2⟩:=Option.map_eq_some_iff.1 e
    cases h2
    exact fun B e w t' d Q nn hB hl R hQ=>wpIn_region (runOps_sound hG _ _ _ h1 hob (fun i p hi=>Nat.lt_of_lt_of_le (R.kr i p hi) hB) hl R (fun e' w' t'' hm hl' R'=>by rw [←hm];exact hQ e' w' t'' hl' R'))
  all_goals cases e
theorem Tr.exec {Γ:Ctr} (hΓ:CtrSound P Γ) {n:Nat} {c:Code} {s s':St} {x:Exit} (e:exec P Γ n k c s=some (x,s')) (hob:s'.ob=true):Tr P ro k c s x s':=(exec_sound hΓ n ro k).1 c s s' x e hob
end
end Go.Sy
namespace Go.Sy
open Go
def FnTr (P:Program) (f:FuncId) (args:List SV) (h:List Blk) (v:SV) (h':List Blk):Prop:=
 ∀(B:Base) (e:Env) (w:World) (args':List Value),B.k≤h.length→LR e args args'→Rel B e h w→
  Calls P f ⟨args'⟩ w fun en w'=>∃v',en= .returned v'∧∃e',e'.m=e.m∧VR e' v v'∧Rel B e' h' w'
section
variable {P:Program}
theorem FnTr.of_Tr {f:FuncId} {fn:Func} (hf:P.funcs[f]? =some fn) {c:Code} (hb:fn.body=some c) {args:List SV} {h:List Blk} {x:Exit} {s:St} {vs:List SV} (hx:x= .ret∨x= .normal)
  (ht:Tr P none h.length c ⟨slots0 fn.ntmps args,h,true⟩ x s) (hr:resS P s.t s.h fn.results.toList=some (vs,true)):FnTr P f args h (oneOf vs) s.h:=
 fun _ _ _ _ _ hl R=>calls_of_Tr hf hb hx ht hr (Nat.le_refl _) hl R
theorem FnTr.of_callS {Γ:Ctr} (hΓ:CtrSound P Γ) {f:FuncId} {fn:Func} (hf:P.funcs[f]? =some fn) {n:Nat} {args:List SV} {h h':List Blk} {v:SV} (g:callS P Γ n fn args h=some (v,h',true)):FnTr P f args h v h':=by
 unfold callS callW at g
 cases hb:fn.body with
 |none=>rw [hb] at g;cases g
 |some c=>
  rw [hb] at g
  simp only at g
  split at g
  all_goals (try (cases g;done))
  all_goals
   rename_i s hs
   obtain ⟨⟨vs,p⟩,hr,q⟩:=Option.map_eq_some_iff.1 g
   simp only [Prod.mk.injEq,andT_iff] at q
   obtain ⟨rfl,rfl,hob,rfl⟩:=q
   exact FnTr.of_Tr hf hb (by simp) (Tr.exec hΓ hs hob) hr
mutual
def refsIn (l:List Nat):SV→Bool
 | .ptr b _ _=>l.contains b
 | .sl b _ _ _ _ _ _ _=>l.contains b
 | .agg ps=>refsInL l ps
 | .tup vs=>refsInL l vs
 | .iface _ x=>refsIn l x
 | .fn _ a b=>refsInL l a&&refsInL l b
 | .rsl b _ _ _ _=>l.contains b
 | .rptr b _ _ _ _=>l.contains b
 | .mpv b=>l.contains b
 |_=>true
def refsInL (l:List Nat):List SV→Bool
 | []=>true
 |x::xs=>refsIn l x&&refsInL l xs
end
mutual
theorem refsIn_uses {l:List Nat}:∀{v:SV} {j:Nat},refsIn l v=true→uses j v=true→j∈l
 | .ptr b _ _,j,h,g=>by simp [refsIn] at h;simp [uses] at g;subst g;exact h
 | .sl b _ _ _ _ _ _ _,j,h,g=>by simp [refsIn] at h;simp [uses] at g;subst g;exact h
 | .agg ps,j,h,g=>refsInL_uses (by simpa [refsIn] using h) (by simpa [uses] using g)
 | .tup ps,j,h,g=>refsInL_uses (by simpa [refsIn] using h) (by simpa [uses] using g)
 | .iface _ x,j,h,g=>refsIn_uses (v:=x) (by simpa [refsIn] using h) (by simpa [uses] using g)
 | .fn _ a b,j,h,g=>by
  simp only [refsIn,Bool.and_eq_true] at h
  simp only [uses,Bool.or_eq_true] at g
  rcases g with g|g
  ·exact refsInL_uses h.1 g
  ·exact refsInL_uses h.2 g
 | .bool _,_,_,g=>by simp [uses] at g
 | .int _ _,_,_,g=>by simp [uses] at g
 | .str _,_,_,g=>by simp [uses] at g
 | .nl _,_,_,g=>by simp [uses] at g
 | .ints _ _ _,_,_,g=>by simp [uses] at g
 | .ro _ _ _,_,_,g=>by simp [uses] at g
 | .rob _ _,_,_,g=>by simp [uses] at g
 | .rol _ _ _ _,_,_,g=>by simp [uses] at g
 | .rpi _ _ _,_,_,g=>by simp [uses] at g
 | .rpb _ _ _,_,_,g=>by simp [uses] at g
 | .rpl _ _ _ _ _ _ _,_,_,g=>by simp [uses] at g
 | .rows _ _ _,_,_,g=>by simp [uses] at g
 | .rsl b _ _ _ _,j,h,g=>by simp [refsIn] at h;simp [uses] at g;subst g;exact h
 | .rptr b _ _ _ _,j,h,g=>by simp [refsIn] at h;simp [uses] at g;subst g;exact h
 | .mpv b,j,h,g=>by simp [refsIn] at h;simp [uses] at g;subst g;exact h
 | .glb _ _,_,_,g=>by simp [uses] at g
theorem refsInL_uses {l:List Nat}:∀{vs:List SV} {j:Nat},refsInL l vs=true→usesL j vs=true→j∈l
 | [],_,_,g=>by simp [usesL] at g
 |x::xs,j,h,g=>by
  simp only [refsInL,Bool.and_eq_true] at h
  simp only [usesL,Bool.or_eq_true] at g
  rcases g with g|g
  ·exact refsIn_uses h.1 g
  ·exact refsInL_uses h.2 g
end
def pickH (h:List Blk):List Nat→Option (List (List SV))
 | []=>some []
 |i::is=>match h[i]?,pickH h is with
  |some (.b ps),some l=>some (ps::l)
  |_,_=>none
theorem pickH_get {h:List Blk}:∀{is:List Nat} {l:List (List SV)},pickH h is=some l→l.length=is.length∧∀(j i:Nat),is[j]? =some i→∃ps,l[j]? =some ps∧h[i]? =some (.b ps)
 | [],l,g=>by simp only [pickH,Option.some.injEq] at g;subst g;exact ⟨rfl,fun j i hj=>by simp at hj⟩
 |i::is,l,g=>by
  simp only [pickH] at g
  split at g
  ·rename_i ps l' h1 h2
   cases g
   obtain ⟨h3,h4⟩:=pickH_get h2
   refine ⟨by simp [h3],fun j a hj=>?_⟩
   cases j with
   |zero=>simp at hj;subst hj;exact ⟨ps,rfl,h1⟩
   |succ j=>simp at hj;obtain ⟨qs,h5,h6⟩:=h4 j a hj;exact ⟨qs,by simpa using h5,h6⟩
  ·cases g
def selS (is:List Nat) (v:SV) (h:List Blk):Option (SV×List Blk):=match pickH h is with
 |some l=>if refsIn is v&&l.all (refsInL is)&&decide is.Nodup then some (ren (fun b=>is.idxOf b) v,l.map fun ps=>.b (renL (fun b=>is.idxOf b) ps)) else none
 |none=>none
theorem psize_renL (s:Nat→Nat):∀ps:List SV,psize (renL s ps)=psize ps
 | []=>rfl
 |x::xs=>by
  simp only [renL,psize,psize_renL s xs]
  cases x<;>rfl
theorem FnTr.sel {f:FuncId} {args:List SV} {v u:SV} {h1 new:List Blk} (is:List Nat) (g:FnTr P f args [] v h1) (hs:selS is v h1=some (u,new)):FnTr P f args [] u new:=by
 unfold selS at hs
 split at hs
 ·rename_i l hl
  split at hs
  ·rename_i hc
   simp only [Bool.and_eq_true,decide_eq_true_eq,List.all_eq_true] at hc
   obtain ⟨⟨hv,hall⟩,hnd⟩:=hc
   cases hs
   obtain ⟨hlen,hget⟩:=pickH_get hl
   intro B e w args' hB hl' R
   refine (g B e w args' hB hl' R).mono ?_
   rintro en w' ⟨v',rfl,e',hm,hvr,S⟩
   have hr0:∀i p,B.e.r i≠some p:=fun i p hi=>by have:=S.kr i p hi;simp at hB;omega
   let e2:Env:={e' with r:=fun j=>(is[j]?).bind e'.r}
   have hidx:∀i,i∈is→is[is.idxOf i]? =some i:=fun i hi=>by
    rw [List.getElem?_eq_getElem (List.idxOf_lt_length_of_mem hi)]
    simp
   have map:∀i p,i∈is→e'.r i=some p→e2.r (is.idxOf i)=some p:=fun i p hi hp=>by
    show (is[is.idxOf i]?).bind e'.r=some p
    rw [hidx i hi];exact hp
   have hr2:∀j p,e2.r j=some p→∃i,is[j]? =some i∧e'.r i=some p:=fun j p hj=>Option.bind_eq_some_iff.1 hj
   refine ⟨v',rfl,e2,hm,VR.ren (e:=e') (e':=e2) (fun _ _ h=>h) (Nat.le_refl _) v v' (fun j p hu hp=>map j p (refsIn_uses hv hu) hp) hvr,?_⟩
   exact {
    os:=S.os,tape:=S.tape,output:=S.output,size:=S.size
    inj:=fun i j p q hi hj hpq=>by
     obtain ⟨a,h1,h2⟩:=hr2 i p hi
     obtain ⟨b,h3,h4⟩:=hr2 j q hj
     have:=S.inj a b p q h2 h4 hpq
     subst this
     exact (List.getElem?_inj (List.getElem?_eq_some_iff.1 h1).1 hnd).1 (h1.trans h3.symm)
    dom:=fun i p hi=>by
     obtain ⟨a,h1,_⟩:=hr2 i p hi
     have:=(List.getElem?_eq_some_iff.1 h1).1
     simpa [hlen] using this
    sep:=fun i p hi=>by obtain ⟨a,_,h2⟩:=hr2 i p hi;exact S.sep a p h2
    zok:=S.zok,zfresh:=S.zfresh,glb:=S.glb
    news:=fun i p hi=>by
     obtain ⟨a,_,h2⟩:=hr2 i p hi
     rcases S.news a p h2 with h|h
     ·exact absurd h (hr0 a p)
     ·exact .inr h
    keepr:=fun i p hi=>absurd hi (hr0 i p)
    keepz:=S.keepz,n0:=S.n0,n0le:=S.n0le
    blk:=fun j ps hj=>by
     simp only [List.getElem?_map] at hj
     cases hq:l[j]? with
     |none=>simp [hq] at hj
     |some qs=>
      simp only [hq,Option.map_some,Option.some.injEq,Blk.b.injEq] at hj
      subst hj
      have hjl:j<is.length:=by have:=(List.getElem?_eq_some_iff.1 hq).1;omega
      obtain ⟨qs',h1,h2⟩:=hget j _ (List.getElem?_eq_getElem hjl)
      rw [hq] at h1;cases h1
      have hre:e2.r j=e'.r is[j]:=by show (is[j]?).bind e'.r=_;rw [List.getElem?_eq_getElem hjl];rfl
      rcases S.blk _ qs h2 with ⟨g1,g2⟩|⟨p,o,g1,g2,c,t,rfl,g3,g4,g5⟩
      ·exact .inl ⟨by rw [psize_renL];exact g1,by rw [hre];exact g2⟩
      ·refine .inr ⟨p,_,by rw [hre];exact g1,g2,c,t,rfl,g3,by rw [psize_renL];exact g4,?_⟩
       rw [psize_renL]
       exact PR.ren (e:=e') (e':=e2) (fun _ _ h=>h) (Nat.le_refl _) qs _ (fun b p hu hp=>map b p (refsInL_uses (hall qs (List.mem_of_getElem? hq)) hu) hp) g5
    gap:=fun j g hj=>by
     simp only [List.getElem?_map] at hj
     cases hq:l[j]? with
     |none=>simp [hq] at hj
     |some qs=>simp [hq] at hj
    yi:=S.yi,yb:=S.yb,old:=S.old
    win:=fun i p hi=>absurd hi (hr0 i p)
    kr:=fun i p hi=>absurd hi (hr0 i p)
    kle:=by simp at hB;omega
    mks:=S.mks,mnd:=S.mnd}
  ·cases hs
 ·cases hs
def allZ (w:World):Nat→Option (Array Value×TypeId×(Nat×Nat)):=fun n=>match w.heap[n]? with
 |some (.cells c t fr)=>some (c,t,fr)
 |_=>none
def robOf (h:List Blk):List SV→Option (List (List Int)×Bool)
 | []=>some ([],true)
 |p::ps=>match p,robOf h ps with
  | .ro _ .u8 xs,some (l,b)=>some (xs::l,b)
  | .sl c o i 1 len cap ex wh,some (l,b)=>match contS h (.sl c o i 1 len cap ex wh) with
   |some ([.ints .u8 n xs],q)=>some (xs::l,andT (andT b q) (decide (xs.length=n)))
   |_=>none
  | .nl (.slice none 0 0),some (l,b)=>some ([]::l,b)
  |_,_=>none
mutual
def cool:SV→SV
 | .ro _ k xs=>.ro false k xs
 | .rob _ xss=>.rob false xss
 | .rol _ z len g=>.rol false z len (fun i=>coolL (g i))
 | .rpb _ xss i=>.rpb false xss i
 | .rpl _ z len g e o i=>.rpl false z len (fun i=>coolL (g i)) e o i
 | .rows z n g=>.rows z n (fun i=>coolL (g i))
 | .agg ps=>.agg (coolL ps)
 | .tup vs=>.tup (coolL vs)
 | .iface t x=>.iface t (cool x)
 | .fn f a b=>.fn f (coolL a) (coolL b)
 |v=>v
def coolL:List SV→List SV
 | []=>[]
 |x::xs=>cool x::coolL xs
end
mutual
def frzS (h:List Blk):SV→Option (SV×Bool×Bool)
 | .bool b=>some (.bool b,true,false)
 | .int k n=>some (.int k n,true,false)
 | .str s=>some (.str s,true,false)
 | .nl v=>some (.nl v,true,false)
 | .ints k n xs=>some (.ints k n xs,true,false)
 | .ro _ k xs=>some (.ro false k xs,true,false)
 | .rob _ xss=>some (.rob false xss,true,false)
 | .rol _ z len g=>some (.rol false z len (fun i=>coolL (g i)),true,false)
 | .sl b o i 1 len cap ex wh=>match contS h (.sl b o i 1 len cap ex wh) with
  |some ([.ints k n xs],p)=>some (.ro false k xs,andT p (decide (xs.length=n)),true)
  |some (ps,p)=>(robOf h ps).map fun q=>(.rob false q.1,andT p q.2,true)
  |none=>none
 | .agg ps=>match frzL h ps with
  |some (l,p,t)=>some (.agg l,p,t)
  |none=>none
 | .iface t x=>match frzS h x with
  |some (y,p,b)=>some (.iface t y,p,b)
  |none=>none
 | .rsl b z len _ _=>match h[b]? with
  |some (.b [.rows z' n g])=>match Nat.beq z' z with
   |true=>some (.rol false z len (fun i=>coolL (g i)),decide (len≤n),true)
   |false=>none
  |_=>none
 |_=>none
def frzL (h:List Blk):List SV→Option (List SV×Bool×Bool)
 | []=>some ([],true,false)
 |x::xs=>match frzS h x,frzL h xs with
  |some (y,p,a),some (l,q,b)=>some (y::l,andT p q,a||b)
  |_,_=>none
end
theorem contS_le {h h2:List Blk} (hle:BLe h h2) {v:SV} {q:List SV×Bool} (g:contS h v=some q):contS h2 v=some q:=by
 cases v
 case sl b o i z len cap ex wh=>
  simp only [contS] at g ⊢
  cases hb:h[b]? with
  |none=>rw [hb] at g;cases g
  |some bl=>
  cases bl with
  |g _=>rw [hb] at g;cases g
  |b ps=>rw [hb] at g;rw [hle b ps hb];exact g
 case rsl b z len cap ex=>
  simp only [contS] at g ⊢
  cases hb:h[b]? with
  |none=>rw [hb] at g;cases g
  |some bl=>
  cases bl with
  |g _=>rw [hb] at g;cases g
  |b ps=>rw [hb] at g;rw [hle b ps hb];exact g
 all_goals first|exact g|(unfold contS at g ⊢;split at g<;>first|(cases g;done)|(rename_i q1;cases q1;done)|(rename_i q1;cases q1;exact g))
theorem robOf_le {h h2:List Blk} (hle:BLe h h2):∀{ps:List SV} {q:List (List Int)×Bool},robOf h ps=some q→robOf h2 ps=some q
 | [],q,g=>g
 |p::ps,q,g=>by
  unfold robOf at g ⊢
  split at g
  ·rename_i f xs l b hr;rw [robOf_le hle hr];exact g
  ·rename_i c o i len cap ex wh l b hr
   rw [robOf_le hle hr]
   split at g
   ·rename_i n xs q' hc;simp only [contS_le hle hc];exact g
   ·cases g
  ·rename_i l b hr;rw [robOf_le hle hr];exact g
  ·cases g
mutual
theorem frzS_le {h h2:List Blk} (hle:BLe h h2):∀{v:SV} {q:SV×Bool×Bool},frzS h v=some q→frzS h2 v=some q
 | .bool _,q,g=>by simp only [frzS] at g ⊢;exact g
 | .int _ _,q,g=>by simp only [frzS] at g ⊢;exact g
 | .str _,q,g=>by simp only [frzS] at g ⊢;exact g
 | .nl _,q,g=>by simp only [frzS] at g ⊢;exact g
 | .ints _ _ _,q,g=>by simp only [frzS] at g ⊢;exact g
 | .ro _ _ _,q,g=>by simp only [frzS] at g ⊢;exact g
 | .rob _ _,q,g=>by simp only [frzS] at g ⊢;exact g
 | .sl b o i z len cap ex wh,q,g=>by
  by_cases hz:z=1
  ·subst hz
   simp only [frzS] at g ⊢
   split at g
   ·rename_i k n xs p hc;simp only [contS_le hle hc];exact g
   ·rename_i ps p hno hc
    rw [contS_le hle hc]
    obtain ⟨x,hx,hq⟩:=Option.map_eq_some_iff.1 g
    split
    ·rename_i k n xs p' hc'
     cases hc'
     exact absurd rfl (hno _ _ _)
    ·rename_i hc'
     cases hc'
     rw [robOf_le hle hx]
     exact congrArg some hq
    ·rename_i hc';cases hc'
   ·cases g
  ·exfalso
   unfold frzS at g
   split at g<;>first|(rename_i h1;cases h1;done)|skip
   all_goals first|(rename_i h1;cases h1;exact hz rfl)|(cases g)
 | .agg ps,q,g=>by
  simp only [frzS] at g ⊢
  split at g
  ·rename_i l p t hl;rw [frzL_le hle hl];exact g
  ·cases g
 | .iface _ x,q,g=>by
  simp only [frzS] at g ⊢
  split at g
  ·rename_i y p t hl;rw [frzS_le hle hl];exact g
  ·cases g
 | .ptr _ _ _,q,g=>by simp [frzS] at g
 | .rol _ _ _ _,q,g=>by simp only [frzS] at g ⊢;exact g
 | .rpi _ _ _,q,g=>by simp [frzS] at g
 | .rpb _ _ _,q,g=>by simp [frzS] at g
 | .rpl _ _ _ _ _ _ _,q,g=>by simp [frzS] at g
 | .tup _,q,g=>by simp [frzS] at g
 | .fn _ _ _,q,g=>by simp [frzS] at g
 | .rows _ _ _,q,g=>by simp [frzS] at g
 | .rptr _ _ _ _ _,q,g=>by simp [frzS] at g
 | .mpv _,q,g=>by simp [frzS] at g
 | .glb _ _,q,g=>by simp [frzS] at g
 | .rsl b z len cap ex,q,g=>by
  simp only [frzS] at g ⊢
  split at g
  ·rename_i z' n gg hb;rw [hle b _ hb];exact g
  ·cases g
theorem frzL_le {h h2:List Blk} (hle:BLe h h2):∀{v:List SV} {q:List SV×Bool×Bool},frzL h v=some q→frzL h2 v=some q
 | [],q,g=>by simp only [frzL] at g ⊢;exact g
 |x::xs,q,g=>by
  simp only [frzL] at g ⊢
  split at g
  ·rename_i y p a l q' b hx hl
   rw [frzS_le hle hx,frzL_le hle hl];exact g
  ·cases g
end
theorem allZ_eq {w:World} {n:Nat} {c:Array Value} {t:TypeId} {fr:Nat×Nat} (h:w.heap[n]? =some (.cells c t fr)):allZ w n=some (c,t,fr):=by unfold allZ;rw [h]
theorem allZ_heap {w:World} {n:Nat} {c:Array Value} {t:TypeId} {fr:Nat×Nat} (h:allZ w n=some (c,t,fr)):w.heap[n]? =some (.cells c t fr):=by
 unfold allZ at h
 split at h
 ·rename_i c' t' fr' hq;cases h;exact hq
 ·cases h
def env0 (z:Nat→Option (Array Value×TypeId×(Nat×Nat))) (n:Nat):Env:=⟨fun _=>none,z,n,[],fun _=>none⟩
section
variable {e:Env} {B:Base} {h:List Blk} {w:World}
theorem RoI.any {e':Env} (hz:∀n o,e.z n=some o→e'.z n=some o) {f:Bool} {k:IntKind} {xs:List Int} {v:Value} (g:RoI e f k xs v):RoI e' false k xs v:=by
 rcases g with h|⟨n,o,cap,c,t,fr,h1,h2,h3,h4,h5,h6⟩
 ·exact .inl h
 ·exact .inr ⟨n,o,cap,c,t,fr,h1,hz _ _ h2,(fun q=>by cases q),h4,h5,h6⟩
theorem contS_some {b o i len cap:Nat} {ex wh:Bool} {q:List SV×Bool} (hc:contS h (.sl b o i 1 len cap ex wh)=some q) (h0:len≠0):h[b]? ≠some (.b []):=fun hb=>by
 have key:∀a n:Nat,n≠0→subP [] a n=none:=fun a n hn=>by
  cases a with
  |zero=>cases n with
   |zero=>exact absurd rfl hn
   |succ n=>rfl
  |succ a=>rfl
 simp only [contS,hb] at hc
 cases o with
 |succ o=>simp [dropP] at hc
 |zero=>
  simp only [dropP] at hc
  rw [key _ _ (by simpa using h0)] at hc
  cases hc
theorem sl_RoI (R:Rel B e h w) {zz:Nat→Option (Array Value×TypeId×(Nat×Nat))} (hZ:∀(i:Nat) (p:Pl) (c:Array Value) (t:TypeId),h[i]? ≠some (.b [])→e.r i=some p→w.heap[p.n]? =some (.cells c t (0,0))→zz p.n=some (c,t,(0,0))) {b o i len cap n:Nat} {ex wh:Bool} {k:IntKind} {xs:List Int} {v':Value} (hc:contS h (.sl b o i 1 len cap ex wh)=some ([.ints k n xs],true)) (hn:xs.length=n) (hv:VR e (.sl b o i 1 len cap ex wh) v') (m:Nat):
  RoI (env0 zz m) false k xs v':=by
 obtain ⟨ys,hys,hyl,_,hf⟩:=contS_sound (P:=default) (z:=1) R hc (n:=len) rfl hv rfl
 obtain ⟨us,hus,hyeq⟩:=hys
 rw [PR] at hus;subst hus
 rw [List.append_nil,lst_eq hn] at hyeq
 rw [Nat.mul_one] at hyl
 have hxl:xs.length=len:=by rw [←hyl,hyeq,intsV_length]
 have nil:len=0→xs=[]:=fun h0=>List.length_eq_zero_iff.1 (by omega)
 rcases hv with ⟨h0,_,a,rfl⟩|⟨p,cap',a,hp,rfl,ha,_,_,hlc,hft⟩
 ·exact .inl ⟨nil h0,a,0,rfl,fun _=>rfl⟩
 ·by_cases h0:len=0
  ·exact .inl ⟨nil h0,_,cap',by rw [h0],fun q=>by cases q⟩
  ·have hc0:cap'≠0:=by omega
   obtain ⟨c,t,hcell,hsz⟩:=R.isCells hp
   have ha2:=ha hc0
   have hft2:=hft hc0
   have hr:=hf len (Nat.le_refl _)
   rw [run_first hcell (by omega),Nat.mul_one,List.take_of_length_le (l:=ys) (by omega)] at hr
   have hcells:(c.toList.drop a).take len=ys:=congrArg Array.toList (Result.ok.inj hr).1
   exact .inr ⟨p.n,a,cap',c,t,(0,0),by rw [hxl],hZ _ p c t (contS_some hc h0) hp hcell,(fun q=>by cases q),by rw [←hyeq, ←hcells,hxl],by omega,by omega⟩
theorem robOf_sound (R:Rel B e h w) {zz:Nat→Option (Array Value×TypeId×(Nat×Nat))} (hZ:∀(i:Nat) (p:Pl) (c:Array Value) (t:TypeId),h[i]? ≠some (.b [])→e.r i=some p→w.heap[p.n]? =some (.cells c t (0,0))→zz p.n=some (c,t,(0,0))) (hzz:∀n x,e.z n=some x→zz n=some x) (m:Nat):∀{ps:List SV} {l:List (List Int)} {ys:List Value},robOf h ps=some (l,true)→PR e ps ys→
  ys.length=l.length∧∀(i:Nat) (xs:List Int),l[i]? =some xs→∃y,ys[i]? =some y∧RoI (env0 zz m) false .u8 xs y
 | [],l,ys,g,hp=>by
  simp only [robOf,Option.some.injEq,Prod.mk.injEq,and_true] at g
  subst g
  rw [PR] at hp;subst hp
  exact ⟨rfl,fun i xs hi=>by simp at hi⟩
 |p::ps,l,ys,g,hp=>by
  have fin:∀{xs:List Int} {l':List (List Int)},notInts p=true→robOf h ps=some (l',true)→l=xs::l'→(∀y,VR e p y→RoI (env0 zz m) false .u8 xs y)→
    ys.length=l.length∧∀(i:Nat) (xs:List Int),l[i]? =some xs→∃y,ys[i]? =some y∧RoI (env0 zz m) false .u8 xs y:=fun {xs l'} hn hr hl hy=>by
   subst hl
   obtain ⟨y,zs,h1,h2,rfl⟩:=(PR.cons hn).1 hp
   obtain ⟨h3,h4⟩:=robOf_sound R hZ hzz m hr h2
   refine ⟨by simp [h3],fun i us hi=>?_⟩
   cases i with
   |zero=>simp at hi;subst hi;exact ⟨y,rfl,hy y h1⟩
   |succ i=>simp at hi;obtain ⟨u,hu,hv⟩:=h4 i us hi;exact ⟨u,by simpa using hu,hv⟩
  unfold robOf at g
  split at g
  ·rename_i f xs l' b hr
   simp only [Option.some.injEq,Prod.mk.injEq] at g
   obtain ⟨rfl,rfl⟩:=g
   exact fin rfl hr rfl fun y hy=>RoI.any (e:=e) hzz hy
  ·rename_i c o i len cap ex wh l' b hr
   split at g
   ·rename_i n xs q hc
    simp only [Option.some.injEq,Prod.mk.injEq,andT_iff,decide_eq_true_eq] at g
    obtain ⟨rfl,⟨rfl,rfl⟩,hn⟩:=g
    exact fin rfl hr rfl fun y hy=>sl_RoI R hZ hc hn hy m
   ·cases g
  ·rename_i l' b hr
   simp only [Option.some.injEq,Prod.mk.injEq] at g
   obtain ⟨rfl,rfl⟩:=g
   exact fin rfl hr rfl fun y hy=>by rw [VR] at hy;subst hy;exact .inl ⟨rfl,none,0,rfl,fun _=>rfl⟩
  ·cases g
theorem frz_sl (R:Rel B e h w) {zz:Nat→Option (Array Value×TypeId×(Nat×Nat))} (hZ:∀(i:Nat) (p:Pl) (c:Array Value) (t:TypeId),h[i]? ≠some (.b [])→e.r i=some p→w.heap[p.n]? =some (.cells c t (0,0))→zz p.n=some (c,t,(0,0))) (hzz:∀n x,e.z n=some x→zz n=some x) {b o i len cap:Nat} {ex wh:Bool} {u:SV} {t:Bool} {v':Value} (g:frzS h (.sl b o i 1 len cap ex wh)=some (u,true,t)) (hv:VR e (.sl b o i 1 len cap ex wh) v') (m:Nat):t=true∧VR (env0 zz m) u v':=by
 simp only [frzS] at g
 split at g
 ·rename_i k n xs p hc
  simp only [Option.some.injEq,Prod.mk.injEq,andT_iff,decide_eq_true_eq] at g
  obtain ⟨rfl,⟨rfl,hn⟩,rfl⟩:=g
  exact ⟨rfl,sl_RoI R hZ hc hn hv m⟩
 ·rename_i ps p _ hc
  obtain ⟨⟨l,q⟩,hr,h2⟩:=Option.map_eq_some_iff.1 g
  simp only [Prod.mk.injEq,andT_iff] at h2
  obtain ⟨rfl,⟨rfl,rfl⟩,rfl⟩:=h2
  refine ⟨rfl,?_⟩
  obtain ⟨ys,hys,hyl,_,hf⟩:=contS_sound (P:=default) (z:=1) R hc (n:=len) rfl hv rfl
  rw [Nat.mul_one] at hyl
  obtain ⟨h3,h4⟩:=robOf_sound R hZ hzz m hr hys
  have hll:l.length=len:=by omega
  have nil:len=0→l=[]:=fun h0=>List.length_eq_zero_iff.1 (by omega)
  show RoB _ _ _ _
  rcases hv with ⟨h0,_,a,rfl⟩|⟨p,cap',a,hp,rfl,ha,_,_,hlc,hft⟩
  ·exact .inl ⟨nil h0,a,0,rfl,fun _=>rfl⟩
  ·by_cases h0:len=0
   ·exact .inl ⟨nil h0,_,cap',by rw [h0],fun q=>by cases q⟩
   ·have hc0:cap'≠0:=by omega
    obtain ⟨c,t,hcell,hsz⟩:=R.isCells hp
    have ha2:=ha hc0
    have hft2:=hft hc0
    have hr:=hf len (Nat.le_refl _)
    rw [run_first hcell (by omega),Nat.mul_one,List.take_of_length_le (l:=ys) (by omega)] at hr
    have hcells:(c.toList.drop a).take len=ys:=congrArg Array.toList (Result.ok.inj hr).1
    refine .inr ⟨p.n,a,cap',c,t,(0,0),by rw [hll],hZ _ p c t (contS_some hc h0) hp hcell,(fun q=>by cases q),fun i xs hi=>?_,by omega,by omega⟩
    obtain ⟨y,hy,hro⟩:=h4 i xs hi
    rw [←hcells] at hy
    have hil:i<len:=by rw [←hll];exact (List.getElem?_eq_some_iff.1 hi).1
    rw [List.getElem?_take_of_lt hil,List.getElem?_drop] at hy
    exact ⟨y,hy,hro⟩
 ·cases g
theorem frz_notInts {v u:SV} {p t:Bool} (g:frzS h v=some (u,p,t)) (hn:notInts v=true):notInts u=true:=by
 unfold frzS at g
 split at g
 case h_5=>cases hn
 case h_9=>
  split at g
  ·cases g;rfl
  ·obtain ⟨q,_,h2⟩:=Option.map_eq_some_iff.1 g;cases h2;rfl
  ·cases g
 all_goals first
  |(cases g;done)
  |(cases g;rfl)
  |(split at g<;>first|(cases g;rfl)|(cases g;done))
  |(split at g<;>first|(cases g;done)|(split at g<;>first|(cases g;rfl)|(cases g;done)))
mutual
theorem VR.cool {e:Env} {zz:Nat→Option (Array Value×TypeId×(Nat×Nat))} (hzz:∀n x,e.z n=some x→zz n=some x) (m:Nat) (hr:∀j,e.r j=none):∀{v:SV} {v':Value},VR e v v'→VR (env0 zz m) (Sy.cool v) v'
 | .bool _,_,h=>h
 | .int _ _,_,h=>h
 | .str _,_,h=>h
 | .nl _,_,h=>h
 | .ints _ _ _,_,h=>h
 | .ptr b _ _,_,⟨p,h1,_⟩=>by rw [hr] at h1;cases h1
 | .sl b _ _ _ _ _ _ _,_,h=>by
  rcases h with h|⟨p,c,a,h1,h2⟩
  ·exact .inl h
  ·rw [hr] at h1;cases h1
 | .ro _ _ _,_,h=>RoI.any (e:=e) hzz h
 | .rob _ _,_,h=>by
  rcases h with h|⟨n,o,cap,c,t,fr,h1,h2,h3,h4,h5,h6⟩
  ·exact .inl h
  ·exact .inr ⟨n,o,cap,c,t,fr,h1,hzz _ _ h2,(fun q=>by cases q),(fun i xs hi=>(h4 i xs hi).imp fun y ⟨a,b⟩=>⟨a,RoI.any (e:=e) hzz b⟩),h5,h6⟩
 | .rol f z len g,_,h=>by
  rcases h with h|⟨n,o,cap,c,t,fr,h1,h2,h3,h4,h5,h6⟩
  ·exact .inl h
  ·exact .inr ⟨n,o,cap,c,t,fr,h1,hzz _ _ h2,(fun q=>by cases q),(fun i hi=>PR.cool (e:=⟨fun _=>none,e.z,e.n0,[],fun _=>none⟩) hzz m (fun _=>rfl) (h4 i hi)),h5,h6⟩
 | .rpi _ _ _,_,⟨n,o,c,t,fr,h1,h2,h3⟩=>⟨n,o,c,t,fr,h1,hzz _ _ h2,h3⟩
 | .rpb _ _ _,_,⟨n,o,c,t,fr,h1,h2,h3⟩=>⟨n,o,c,t,fr,h1,hzz _ _ h2,fun i xs hi=>(h3 i xs hi).imp fun y ⟨a,b⟩=>⟨a,RoI.any (e:=e) hzz b⟩⟩
 | .rpl _ z len g el o i,_,⟨n,o0,c,t,fr,h1,h2,h3,h4⟩=>
  ⟨n,o0,c,t,fr,h1,hzz _ _ h2,fun i hi=>PR.cool (e:=⟨fun _=>none,e.z,e.n0,[],fun _=>none⟩) hzz m (fun _=>rfl) (h3 i hi),h4⟩
 | .agg ps,_,⟨ys,h1,h2⟩=>⟨ys,PR.cool hzz m hr h1,h2⟩
 | .tup vs,_,⟨ys,h1,h2⟩=>⟨ys,LR.cool hzz m hr h1,h2⟩
 | .iface _ x,_,⟨y,h1,h2⟩=>⟨y,VR.cool hzz m hr h1,h2⟩
 | .fn _ a b,_,⟨ys,us,h1,h2,h3⟩=>⟨ys,us,LR.cool hzz m hr h1,LR.cool hzz m hr h2,h3⟩
 | .rows _ _ _,_,h=>h
 | .rsl b _ _ _ _,_,h=>by
  rcases h with h|⟨p,c,a,h1,h2⟩
  ·exact .inl h
  ·rw [hr] at h1;cases h1
 | .rptr b _ _ _ _,_,⟨p,h1,_⟩=>by rw [hr] at h1;cases h1
 | .mpv b,_,⟨p,h1,_⟩=>by rw [hr] at h1;cases h1
 | .glb _ _,_,h=>h
theorem LR.cool {e:Env} {zz:Nat→Option (Array Value×TypeId×(Nat×Nat))} (hzz:∀n x,e.z n=some x→zz n=some x) (m:Nat) (hr:∀j,e.r j=none):∀{vs:List SV} {ys:List Value},LR e vs ys→LR (env0 zz m) (coolL vs) ys
 | [],_,h=>h
 |_::_,_,⟨y,zs,h1,h2,h3⟩=>⟨y,zs,VR.cool hzz m hr h1,LR.cool hzz m hr h2,h3⟩
theorem PR.cool {e:Env} {zz:Nat→Option (Array Value×TypeId×(Nat×Nat))} (hzz:∀n x,e.z n=some x→zz n=some x) (m:Nat) (hr:∀j,e.r j=none):∀{vs:List SV} {ys:List Value},PR e vs ys→PR (env0 zz m) (coolL vs) ys
 | [],_,h=>h
 |x::xs,_,h=>by
  have ih:=fun (zs:List Value) (h:PR e xs zs)=>PR.cool hzz m hr h
  have iv:=fun (y:Value) (h:VR e x y)=>VR.cool hzz m hr h
  cases x<;>first
   |(obtain ⟨zs,h1,h2⟩:=h;exact ⟨zs,ih zs h1,h2⟩)
   |(rename_i z n gg;obtain ⟨us,zs,h0,h1,h2,h3⟩:=h;exact ⟨us,zs,h0,fun i hi=>PR.cool (e:=⟨fun _=>none,e.z,e.n0,[],fun _=>none⟩) hzz m (fun _=>rfl) (h1 i hi),ih zs h2,h3⟩)
   |(obtain ⟨y,zs,h1,h2,h3⟩:=h;exact ⟨y,zs,iv y h1,ih zs h2,h3⟩)
end
mutual
theorem frzS_sound (R:Rel B e h w) {zz:Nat→Option (Array Value×TypeId×(Nat×Nat))} (hzz:∀n x,e.z n=some x→zz n=some x) {T:Bool} (hT:T=true→∀(i:Nat) (p:Pl) (c:Array Value) (t:TypeId),h[i]? ≠some (.b [])→e.r i=some p→w.heap[p.n]? =some (.cells c t (0,0))→zz p.n=some (c,t,(0,0))) (m:Nat):∀{v u:SV} {t:Bool} {v':Value},frzS h v=some (u,true,t)→(t=true→T=true)→VR e v v'→VR (env0 zz m) u v'
 | .bool _,u,t,v',g,_,hv=>by simp only [frzS,Option.some.injEq,Prod.mk.injEq] at g;obtain ⟨rfl,_⟩:=g;exact hv
 | .int _ _,u,t,v',g,_,hv=>by simp only [frzS,Option.some.injEq,Prod.mk.injEq] at g;obtain ⟨rfl,_⟩:=g;exact hv
 | .str _,u,t,v',g,_,hv=>by simp only [frzS,Option.some.injEq,Prod.mk.injEq] at g;obtain ⟨rfl,_⟩:=g;exact hv
 | .nl _,u,t,v',g,_,hv=>by simp only [frzS,Option.some.injEq,Prod.mk.injEq] at g;obtain ⟨rfl,_⟩:=g;exact hv
 | .ints _ _ _,u,t,v',_,_,hv=>hv.elim
 | .ptr _ _ _,u,t,v',g,_,_=>by simp [frzS] at g
 | .sl b o i z len cap ex wh,u,t,v',g,ht,hv=>by
  by_cases hz:z=1
  ·subst hz
   have h1:t=true:=by
    simp only [frzS] at g
    split at g
    ·simp only [Option.some.injEq,Prod.mk.injEq] at g;exact g.2.2.symm
    ·obtain ⟨q,_,h2⟩:=Option.map_eq_some_iff.1 g;simp only [Prod.mk.injEq] at h2;exact h2.2.2.symm
    ·cases g
   exact (frz_sl R (hT (ht h1)) hzz g hv m).2
  ·exfalso
   unfold frzS at g
   split at g<;>first|(rename_i h1;cases h1;done)|skip
   all_goals first|(rename_i h1;cases h1;exact hz rfl)|(cases g)
 | .ro f k xs,u,t,v',g,_,hv=>by
  simp only [frzS,Option.some.injEq,Prod.mk.injEq] at g
  obtain ⟨rfl,_⟩:=g
  exact RoI.any (e:=e) hzz hv
 | .rob f xss,u,t,v',g,_,hv=>by
  simp only [frzS,Option.some.injEq,Prod.mk.injEq] at g
  obtain ⟨rfl,_⟩:=g
  rcases hv with h|⟨n,o,cap,c,t,fr,h1,h2,h3,h4,h5,h6⟩
  ·exact .inl h
  ·exact .inr ⟨n,o,cap,c,t,fr,h1,hzz _ _ h2,(fun q=>by cases q),(fun i xs hi=>(h4 i xs hi).imp fun y ⟨a,b⟩=>⟨a,RoI.any (e:=e) hzz b⟩),h5,h6⟩
 | .rol f z len gg,u,t,v',g,_,hv=>by
  simp only [frzS,Option.some.injEq,Prod.mk.injEq] at g
  obtain ⟨rfl,_⟩:=g
  rcases hv with h|⟨n,o,cap,c,t,fr,h1,h2,h3,h4,h5,h6⟩
  ·exact .inl h
  ·exact .inr ⟨n,o,cap,c,t,fr,h1,hzz _ _ h2,(fun q=>by cases q),(fun i hi=>PR.cool (e:=⟨fun _=>none,e.z,e.n0,[],fun _=>none⟩) hzz m (fun _=>rfl) (h4 i hi)),h5,h6⟩
 | .rpi _ _ _,u,t,v',g,_,_=>by simp [frzS] at g
 | .rpb _ _ _,u,t,v',g,_,_=>by simp [frzS] at g
 | .rpl _ _ _ _ _ _ _,u,t,v',g,_,_=>by simp [frzS] at g
 | .agg ps,u,t,v',g,ht,hv=>by
  simp only [frzS] at g
  split at g
  ·rename_i l p t' hl
   simp only [Option.some.injEq,Prod.mk.injEq] at g
   obtain ⟨rfl,rfl,rfl⟩:=g
   obtain ⟨ys,hys,rfl⟩:=hv
   exact ⟨ys,frzP_sound R hzz hT m hl ht hys,rfl⟩
  ·cases g
 | .tup _,u,t,v',g,_,_=>by simp [frzS] at g
 | .iface ty x,u,t,v',g,ht,hv=>by
  simp only [frzS] at g
  split at g
  ·rename_i y p t' hl
   simp only [Option.some.injEq,Prod.mk.injEq] at g
   obtain ⟨rfl,rfl,rfl⟩:=g
   obtain ⟨y',hy,rfl⟩:=hv
   exact ⟨y',frzS_sound R hzz hT m hl ht hy,rfl⟩
  ·cases g
 | .fn _ _ _,u,t,v',g,_,_=>by simp [frzS] at g
 | .rows _ _ _,u,t,v',g,_,_=>by simp [frzS] at g
 | .rptr _ _ _ _ _,u,t,v',g,_,_=>by simp [frzS] at g
 | .mpv _,u,t,v',g,_,_=>by simp [frzS] at g
 | .glb _ _,u,t,v',g,_,_=>by simp [frzS] at g
 | .rsl b z len cap ex,u,t,v',g,ht,hv=>by
  simp only [frzS] at g
  split at g
  ·rename_i z' n gg hb
   cases hz:Nat.beq z' z with
   |false=>rw [hz] at g;cases g
   |true=>
    rw [hz] at g
    obtain rfl:=Nat.eq_of_beq_eq_true hz
    simp only [Option.some.injEq,Prod.mk.injEq,decide_eq_true_eq] at g
    obtain ⟨rfl,hln,rfl⟩:=g
    rcases hv with ⟨h0,_,a,rfl⟩|⟨p,cap',a,hp,rfl,ha,_,_,hlc,hft⟩
    ·exact .inl ⟨h0,a,0,rfl,fun _=>rfl⟩
    ·by_cases h0:len=0
     ·exact .inl ⟨h0,_,cap',by rw [h0],fun q=>by cases q⟩
     ·have hc0:cap'≠0:=by omega
      obtain ⟨c,ty,hcell,hsz,hps,hpr⟩:=R.block hp hb
      obtain ⟨us,zs,k1,k2,k3,k4⟩:=hpr
      rw [PR] at k3;subst k3
      rw [List.append_nil] at k4
      have ha2:=ha hc0
      have hft2:=hft hc0
      have hps0:psize [SV.rows z' n gg]=n*z':=by simp [psize,psz]
      rw [hps0] at k4 hps
      refine .inr ⟨p.n,a,cap',c,ty,(0,0),rfl,hT (ht rfl) b p c ty (by rw [hb];simp) hp hcell,(fun q=>by cases q),fun i hi=>?_,hlc,by omega⟩
      have k:=k2 i (by omega)
      have hi2:i*z'+z'≤n*z':=by
       have:=Nat.mul_le_mul_right z' (show i+1≤n by omega)
       rw [Nat.succ_mul] at this;exact this
      rw [←k4,List.drop_take,List.take_take,List.drop_drop,Nat.min_eq_left (by omega), ←ha2] at k
      exact PR.cool (e:=⟨fun _=>none,e.z,e.n0,[],fun _=>none⟩) hzz m (fun _=>rfl) k
  ·cases g
theorem frzP_sound (R:Rel B e h w) {zz:Nat→Option (Array Value×TypeId×(Nat×Nat))} (hzz:∀n x,e.z n=some x→zz n=some x) {T:Bool} (hT:T=true→∀(i:Nat) (p:Pl) (c:Array Value) (t:TypeId),h[i]? ≠some (.b [])→e.r i=some p→w.heap[p.n]? =some (.cells c t (0,0))→zz p.n=some (c,t,(0,0))) (m:Nat):∀{vs us:List SV} {t:Bool} {ys:List Value},frzL h vs=some (us,true,t)→(t=true→T=true)→PR e vs ys→PR (env0 zz m) us ys
 | [],us,t,ys,g,_,hv=>by simp only [frzL,Option.some.injEq,Prod.mk.injEq] at g;obtain ⟨rfl,_⟩:=g;exact hv
 |x::xs,us,t,ys,g,ht,hv=>by
  simp only [frzL] at g
  split at g
  ·rename_i y p a l q b hx hl
   simp only [Option.some.injEq,Prod.mk.injEq,andT_iff] at g
   obtain ⟨rfl,⟨rfl,rfl⟩,rfl⟩:=g
   have ha:a=true→T=true:=fun h=>ht (by rw [h];rfl)
   have hb:b=true→T=true:=fun h=>ht (by rw [h];exact Bool.or_true _)
   by_cases hn:notInts x=true
   ·obtain ⟨y',zs,h1,h2,rfl⟩:=(PR.cons hn).1 hv
    exact (PR.cons (frz_notInts hx hn)).2 ⟨y',zs,frzS_sound R hzz hT m hx ha h1,frzP_sound R hzz hT m hl hb h2,rfl⟩
   ·cases x<;>simp [notInts] at hn
    case rows=>simp [frzS] at hx
    simp only [frzS,Option.some.injEq,Prod.mk.injEq] at hx
    obtain ⟨rfl,_⟩:=hx
    obtain ⟨zs,h2,rfl⟩:=hv
    exact ⟨zs,frzP_sound R hzz hT m hl hb h2,rfl⟩
  ·cases g
end
theorem frzL_sound (R:Rel B e h w) {zz:Nat→Option (Array Value×TypeId×(Nat×Nat))} (hzz:∀n x,e.z n=some x→zz n=some x) {T:Bool} (hT:T=true→∀(i:Nat) (p:Pl) (c:Array Value) (t:TypeId),h[i]? ≠some (.b [])→e.r i=some p→w.heap[p.n]? =some (.cells c t (0,0))→zz p.n=some (c,t,(0,0))) (m:Nat):∀{vs us:List SV} {t:Bool} {ys:List Value},frzL h vs=some (us,true,t)→(t=true→T=true)→LR e vs ys→LR (env0 zz m) us ys
 | [],us,t,ys,g,_,hv=>by simp only [frzL,Option.some.injEq,Prod.mk.injEq] at g;obtain ⟨rfl,_⟩:=g;exact hv
 |x::xs,us,t,ys,g,ht,hv=>by
  simp only [frzL] at g
  split at g
  ·rename_i y p a l q b hx hl
   simp only [Option.some.injEq,Prod.mk.injEq,andT_iff] at g
   obtain ⟨rfl,⟨rfl,rfl⟩,rfl⟩:=g
   obtain ⟨y',zs,h1,h2,rfl⟩:=hv
   exact ⟨y',zs,frzS_sound R hzz hT m hx (fun h=>ht (by rw [h];rfl)) h1,frzL_sound R hzz hT m hl (fun h=>ht (by rw [h];exact Bool.or_true _)) h2,rfl⟩
  ·cases g
end
end
end Go.Sy
namespace Go.Sy
open Go
mutual
def stale:SV→Bool
 | .ro f _ _=>!f
 | .rob f _=>!f
 | .rol _ _ _ _=>true
 | .rpi _ _ _=>true
 | .rpb _ _ _=>true
 | .rpl _ _ _ _ _ _ _=>true
 | .rows _ _ _=>true
 | .agg ps=>staleL ps
 | .tup vs=>staleL vs
 | .iface _ x=>stale x
 | .fn _ a b=>staleL a||staleL b
 |_=>false
def staleL:List SV→Bool
 | []=>false
 |x::xs=>stale x||staleL xs
end
section
variable {e e':Env}
theorem RoI.fresh (hz:∀n x,e.n0≤n→e.z n=some x→e'.z n=some x) (hn:e'.n0≤e.n0) {k:IntKind} {xs:List Int} {v:Value} (g:RoI e true k xs v):RoI e' true k xs v:=by
 rcases g with h|⟨n,o,cap,c,t,fr,h1,h2,h3,h4,h5,h6⟩
 ·exact .inl h
 ·exact .inr ⟨n,o,cap,c,t,fr,h1,hz _ _ (h3 rfl) h2,fun q=>Nat.le_trans hn (h3 q),h4,h5,h6⟩
theorem RoB.fresh (hz:∀n x,e.n0≤n→e.z n=some x→e'.z n=some x) (hn:e'.n0≤e.n0) {xss:List (List Int)} {v:Value} (g:RoB e true xss v):RoB e' true xss v:=by
 rcases g with h|⟨n,o,cap,c,t,fr,h1,h2,h3,h4,h5,h6⟩
 ·exact .inl h
 ·exact .inr ⟨n,o,cap,c,t,fr,h1,hz _ _ (h3 rfl) h2,fun q=>Nat.le_trans hn (h3 q),fun i xs hi=>(h4 i xs hi).imp fun y ⟨a,b⟩=>⟨a,b.fresh hz hn⟩,h5,h6⟩
mutual
theorem VR.fresh (hr:e'.r=e.r) (hz:∀n x,e.n0≤n→e.z n=some x→e'.z n=some x) (hn:e'.n0≤e.n0):∀{v:SV} {v':Value},stale v=false→VR e v v'→VR e' v v'
 | .bool _,_,_,h=>h
 | .int _ _,_,_,h=>h
 | .str _,_,_,h=>h
 | .nl _,_,_,h=>h
 | .ints _ _ _,_,_,h=>h
 | .ptr b _ _,_,_,⟨p,h1,h2⟩=>⟨p,by rw [hr];exact h1,h2⟩
 | .sl b _ _ _ _ _ _ _,_,_,h=>by
  rcases h with h|⟨p,c,a,h1,h2⟩
  ·exact .inl h
  ·exact .inr ⟨p,c,a,by rw [hr];exact h1,h2⟩
 | .ro true _ _,_,_,h=>RoI.fresh hz hn h
 | .ro false _ _,_,g,_=>by simp [stale] at g
 | .rob true _,_,_,h=>RoB.fresh hz hn h
 | .rob false _,_,g,_=>by simp [stale] at g
 | .rol _ _ _ _,_,g,_=>by simp [stale] at g
 | .rpi _ _ _,_,g,_=>by simp [stale] at g
 | .rpb _ _ _,_,g,_=>by simp [stale] at g
 | .rpl _ _ _ _ _ _ _,_,g,_=>by simp [stale] at g
 | .agg ps,_,g,⟨ys,h1,h2⟩=>⟨ys,PR.fresh hr hz hn (by simpa [stale] using g) h1,h2⟩
 | .tup vs,_,g,⟨ys,h1,h2⟩=>⟨ys,LR.fresh hr hz hn (by simpa [stale] using g) h1,h2⟩
 | .iface _ x,_,g,⟨y,h1,h2⟩=>⟨y,VR.fresh hr hz hn (v:=x) (by simpa [stale] using g) h1,h2⟩
 | .fn _ a b,_,g,⟨ys,us,h1,h2,h3⟩=>by
  simp only [stale,Bool.or_eq_false_iff] at g
  exact ⟨ys,us,LR.fresh hr hz hn g.1 h1,LR.fresh hr hz hn g.2 h2,h3⟩
 | .rows _ _ _,_,_,h=>h.elim
 | .rsl b _ _ _ _,_,_,h=>by
  rcases h with h|⟨p,c,a,h1,h2⟩
  ·exact .inl h
  ·exact .inr ⟨p,c,a,by rw [hr];exact h1,h2⟩
 | .rptr b _ _ _ _,_,_,⟨p,h1,h2⟩=>⟨p,by rw [hr];exact h1,h2⟩
 | .mpv b,_,_,⟨p,h1,h2⟩=>⟨p,by rw [hr];exact h1,h2⟩
 | .glb _ _,_,_,h=>h
theorem LR.fresh (hr:e'.r=e.r) (hz:∀n x,e.n0≤n→e.z n=some x→e'.z n=some x) (hn:e'.n0≤e.n0):∀{v:List SV} {v':List Value},staleL v=false→LR e v v'→LR e' v v'
 | [],_,_,h=>h
 |x::xs,_,g,⟨y,zs,h1,h2,h3⟩=>by
  simp only [staleL,Bool.or_eq_false_iff] at g
  exact ⟨y,zs,VR.fresh hr hz hn g.1 h1,LR.fresh hr hz hn g.2 h2,h3⟩
theorem PR.fresh (hr:e'.r=e.r) (hz:∀n x,e.n0≤n→e.z n=some x→e'.z n=some x) (hn:e'.n0≤e.n0):∀{v:List SV} {v':List Value},staleL v=false→PR e v v'→PR e' v v'
 | [],_,_,h=>h
 |x::xs,ys,g,h=>by
  simp only [staleL,Bool.or_eq_false_iff] at g
  by_cases hx:notInts x=true
  ·obtain ⟨y,zs,h1,h2,h3⟩:=(PR.cons hx).1 h
   exact (PR.cons hx).2 ⟨y,zs,VR.fresh hr hz hn g.1 h1,PR.fresh hr hz hn g.2 h2,h3⟩
  ·cases x<;>simp [notInts] at hx
   case rows=>simp [stale] at g
   obtain ⟨zs,h1,h2⟩:=h
   exact ⟨zs,PR.fresh hr hz hn g.2 h1,h2⟩
end
end
def shB (j:Nat):Blk→Blk
 | .b ps=>.b (renL (fun b=>b+j) ps)
 | .g _=>.gap
def staleB:Blk→Bool
 | .b ps=>staleL ps
 | .g _=>false
theorem placeH_get {h new:List Blk} {j:Nat} (hf:Free h j new.length) (i:Nat):(placeH h j new)[i]? =if j≤i∧i<j+new.length then new[i-j]? else h[i]? :=by
 unfold placeH
 split
 ·rename_i hj
  rcases Nat.lt_or_ge i h.length with h1|h1
  ·rw [List.getElem?_append_left h1,if_neg (by omega)]
  ·rw [List.getElem?_append_right h1]
   by_cases h2:i<j+new.length
   ·rw [if_pos ⟨by omega,h2⟩,hj]
   ·rw [if_neg (by omega),List.getElem?_eq_none (by omega),List.getElem?_eq_none h1]
 ·rename_i hj
  have hg:=hf.resolve_left hj
  rw [fillH_get]
  by_cases h2:j≤i∧i<j+new.length
  ·have:=(List.getElem?_eq_some_iff.1 (hg (i-j) (by omega))).1
   rw [if_pos ⟨h2.1,h2.2,by omega⟩,if_pos h2]
  ·rw [if_neg (by omega),if_neg h2]
theorem placeH_length {h new:List Blk} {j:Nat}:h.length≤(placeH h j new).length:=by
 unfold placeH;split
 ·simp
 ·rw [fillH_length];exact Nat.le_refl _
theorem placeH_in {h new:List Blk} {j i:Nat} (hf:Free h j new.length) (hi:i<new.length):j+i<(placeH h j new).length:=by
 have:=placeH_get hf (j+i)
 rw [if_pos (by omega),Nat.add_sub_cancel_left,List.getElem?_eq_getElem hi] at this
 exact (List.getElem?_eq_some_iff.1 this).1
section
variable {P:Program}
theorem pure_call {f:FuncId} {us:List SV} {v:SV} {new:List Blk} (g:FnTr P f us [] v new) {h:List Blk} {vs:List SV} {t:Bool} (hfz:frzL h vs=some (us,true,t)) (hst:t=true→stale v=false∧∀b∈new,staleB b=false)
  {B:Base} {e:Env} {w:World} {args:List Value} {j:Nat} (hl:LR e vs args) (R:Rel B e h w) (hj:Free h j new.length):
  Calls P f ⟨args⟩ w fun en w'=>∃v',en= .returned v'∧∃e2,VR e2 (ren (fun b=>b+j) v) v'∧Rel B e2 (placeH h j (new.map (shB j))) w'∧EStep e e2 none:=by
 let zz:=if t=true then allZ w else e.z
 have hzz:∀n x,e.z n=some x→zz n=some x:=fun n x hx=>by
  show (if t=true then allZ w else e.z) n=some x
  by_cases ht:t=true
  ·rw [if_pos ht];obtain ⟨c,ty,fr⟩:=x;exact allZ_eq (R.zok n c ty fr hx)
  ·rw [if_neg ht];exact hx
 have hargs:=frzL_sound (zz:=zz) R hzz (T:=t) (fun ht i p c ty _ _ hc=>by show (if t=true then allZ w else e.z) p.n=_;rw [if_pos ht];exact allZ_eq hc) w.heap.size hfz id hl
 let B0:Base:=⟨w,env0 zz w.heap.size,0,[]⟩
 have R0:Rel B0 (env0 zz w.heap.size) [] w:={
  os:=rfl,tape:=rfl,output:=rfl,size:=Nat.le_refl _,inj:=(fun i j p q hi=>by cases hi),dom:=(fun i p hi=>by cases hi),sep:=(fun i p hi=>by cases hi)
  zok:=fun n c ty fr hx=>by
   have hx':(if t=true then allZ w else e.z) n=some (c,ty,fr):=hx
   by_cases ht:t=true
   ·rw [if_pos ht] at hx';exact allZ_heap hx'
   ·rw [if_neg ht] at hx';exact R.zok n c ty fr hx'
  zfresh:=fun _ _ hx=>.inl hx,glb:=fun g k xs hg=>(R.glb g k xs hg).imp fun c ⟨t,fr,h1,h2⟩=>⟨t,fr,hzz _ _ h1,h2⟩,news:=fun _ _ hi=>.inl hi,keepr:=fun _ _ hi=>hi,keepz:=fun _ _ hx=>hx,n0:=rfl,n0le:=Nat.le_refl _
  blk:=fun i ps hi=>by simp at hi
  gap:=fun i g hi=>by simp at hi
  yi:=(fun i j n hi=>by cases hi),yb:=(fun i n hi=>by cases hi)
  old:=fun _ _ _ _=>rfl,win:=(fun i p hi=>by cases hi),kr:=(fun i p hi=>by cases hi),kle:=Nat.le_refl _,mks:=(fun r hr=>by cases hr),mnd:=List.nodup_nil}
 refine (g B0 _ w args (Nat.le_refl _) hargs R0).mono ?_
 rintro en w' ⟨v',rfl,e',_,hv,S⟩
 have snew:∀i p,e'.r i=some p→w.heap.size≤p.n:=fun i p hi=>(S.news i p hi).resolve_left (fun x=>by cases x)
 have sold:∀n,n<w.heap.size→w'.heap[n]? =w.heap[n]? :=fun n hn=>S.old n hn (fun i p hi=>by cases hi) (by simp [B0])
 have hn0:e'.n0=w.heap.size:=S.n0
 have hen:e.n0≤w.heap.size:=by have:=R.n0;have:=R.n0le;have:=R.size;omega
 let z2:Nat→Option (Array Value×TypeId×(Nat×Nat)):=fun n=>if n<w.heap.size then e.z n else e'.z n
 let e2:Env:=⟨fun i=>if j≤i∧i<j+new.length then e'.r (i-j) else e.r i,z2,e.n0,e.m,e.y⟩
 have hr2n:∀i p,i<new.length→e'.r i=some p→e2.r (i+j)=some p:=fun i p hi hp=>by
  show (if j≤i+j∧i+j<j+new.length then e'.r (i+j-j) else e.r (i+j))=some p
  rw [if_pos (by omega),Nat.add_sub_cancel];exact hp
 have hr2o:∀i p,e.r i=some p→e2.r i=some p∧¬(j≤i∧i<j+new.length):=fun i p hp=>by
  have hni:¬(j≤i∧i<j+new.length):=fun hi=>by
   rcases hj with rfl|hg
   ·have:=R.dom i p hp;omega
   ·have:=(R.gap i _ (by have:=hg (i-j) (by omega);rwa [show j+(i-j)=i by omega] at this)).1
    rw [hp] at this;cases this
  exact ⟨by show (if _ then _ else _)=some p;rw [if_neg hni];exact hp,hni⟩
 have hr2c:∀i p,e2.r i=some p→(¬(j≤i∧i<j+new.length)∧e.r i=some p)∨((j≤i∧i<j+new.length)∧e'.r (i-j)=some p):=fun i p hp=>by
  have hp':(if j≤i∧i<j+new.length then e'.r (i-j) else e.r i)=some p:=hp
  split at hp'
  ·rename_i hc;exact .inr ⟨hc,hp'⟩
  ·rename_i hc;exact .inl ⟨hc,hp'⟩
 have zold:∀n x,n<w.heap.size→e'.z n=some x→t=false→e.z n=some x:=fun n x hn hx ht=>by
  rcases S.zfresh n x hx with q|q
  ·have q':(if t=true then allZ w else e.z) n=some x:=q
   rw [ht] at q'
   rw [if_neg (by simp)] at q';exact q'
  ·exact absurd q (by show ¬w.heap.size≤n;omega)
 let e1:Env:={e' with z:=z2}
 have toE1V:∀{u:SV} {u':Value},(t=true→stale u=false)→VR e' u u'→VR e1 u u':=fun {u u'} hs hu=>by
  cases ht:t with
  |true=>exact VR.fresh (e:=e') (e':=e1) rfl (fun n x hn hx=>by show (if n<w.heap.size then e.z n else e'.z n)=some x;rw [if_neg (by omega)];exact hx) (Nat.le_refl _) (hs ht) hu
  |false=>exact VR.mono' (e:=e') (e':=e1) (fun n x hx=>by
    show (if n<w.heap.size then e.z n else e'.z n)=some x
    by_cases hn:n<w.heap.size
    ·rw [if_pos hn];exact zold n x hn hx ht
    ·rw [if_neg hn];exact hx) (Nat.le_refl _) u u' (fun _ _ _ h=>h) hu
 have toE1P:∀{u:List SV} {u':List Value},(t=true→staleL u=false)→PR e' u u'→PR e1 u u':=fun {u u'} hs hu=>by
  cases ht:t with
  |true=>exact PR.fresh (e:=e') (e':=e1) rfl (fun n x hn hx=>by show (if n<w.heap.size then e.z n else e'.z n)=some x;rw [if_neg (by omega)];exact hx) (Nat.le_refl _) (hs ht) hu
  |false=>exact PR.mono' (e:=e') (e':=e1) (fun n x hx=>by
    show (if n<w.heap.size then e.z n else e'.z n)=some x
    by_cases hn:n<w.heap.size
    ·rw [if_pos hn];exact zold n x hn hx ht
    ·rw [if_neg hn];exact hx) (Nat.le_refl _) u u' (fun _ _ _ h=>h) hu
 have hle12:e2.n0≤e1.n0:=by show e.n0≤e'.n0;omega
 have hdomS:∀i p,e'.r i=some p→i<new.length:=S.dom
 have hle:Env.Le e e2:=⟨fun i p hp=>(hr2o i p hp).1,fun n x hx=>by
  show (if n<w.heap.size then e.z n else e'.z n)=some x
  rw [if_pos (R.zlt hx)];exact hx,Nat.le_refl _⟩
 refine ⟨v',rfl,e2,VR.ren (e:=e1) (e':=e2) (fun _ _ h=>h) hle12 v v' (fun i p _ hp=>hr2n i p (hdomS i p hp) hp) (toE1V (fun ht=>(hst ht).1) hv),?_,EStep.of_le hle rfl _⟩
 have hfm:Free h j (new.map (shB j)).length:=by simpa using hj
 exact {
  os:=S.os.trans R.os,tape:=S.tape.trans R.tape,output:=S.output.trans R.output,size:=Nat.le_trans R.size S.size
  inj:=fun i i' p q hi hi' hpq=>by
   rcases hr2c i p hi with ⟨c1,g1⟩|⟨c1,g1⟩<;>rcases hr2c i' q hi' with ⟨c2,g2⟩|⟨c2,g2⟩
   ·exact R.inj i i' p q g1 g2 hpq
   ·have:=R.lt g1;have:=snew _ _ g2;omega
   ·have:=R.lt g2;have:=snew _ _ g1;omega
   ·have:=S.inj _ _ p q g1 g2 hpq;omega
  dom:=fun i p hi=>by
   rcases hr2c i p hi with ⟨_,g1⟩|⟨c1,g1⟩
   ·exact Nat.lt_of_lt_of_le (R.dom i p g1) placeH_length
   ·have:=placeH_in hfm (i:=i-j) (by simp;omega)
    rwa [show j+(i-j)=i by omega] at this
  sep:=fun i p hi=>by
   show (if p.n<w.heap.size then e.z p.n else e'.z p.n)=none
   rcases hr2c i p hi with ⟨_,g1⟩|⟨_,g1⟩
   ·rw [if_pos (R.lt g1)];exact R.sep i p g1
   ·rw [if_neg (by have:=snew _ _ g1;omega)];exact S.sep _ p g1
  zok:=fun n c ty fr hx=>by
   have hx':(if n<w.heap.size then e.z n else e'.z n)=some (c,ty,fr):=hx
   split at hx'
   ·rename_i hn;rw [sold n hn];exact R.zok n c ty fr hx'
   ·exact S.zok n c ty fr hx'
  zfresh:=fun n x hx=>by
   have hx':(if n<w.heap.size then e.z n else e'.z n)=some x:=hx
   split at hx'
   ·exact R.zfresh n x hx'
   ·exact .inr (by have:=R.size;omega)
  glb:=fun g k xs hg=>(R.glb g k xs hg).imp fun c ⟨t,fr,h1,h2⟩=>⟨t,fr,hle.z _ _ h1,h2⟩
  news:=fun i p hi=>by
   rcases hr2c i p hi with ⟨_,g1⟩|⟨_,g1⟩
   ·exact R.news i p g1
   ·exact .inr (by have:=R.size;have:=snew _ _ g1;omega)
  keepr:=fun i p hi=>(hr2o i p (R.keepr i p hi)).1
  keepz:=fun n x hx=>hle.z n x (R.keepz n x hx)
  n0:=R.n0,n0le:=R.n0le
  blk:=fun i ps hi=>by
   rw [placeH_get hfm,List.length_map] at hi
   split at hi
   ·rename_i hc
    rw [List.getElem?_map] at hi
    cases hq:new[i-j]? with
    |none=>rw [hq] at hi;cases hi
    |some b=>
     rw [hq] at hi
     simp only [Option.map_some,Option.some.injEq] at hi
     cases b with
     |g _=>cases hi
     |b qs=>
      simp only [shB,Blk.b.injEq] at hi
      subst hi
      have hre:e2.r i=e'.r (i-j):=by show (if _ then _ else _)=_;rw [if_pos hc]
      rcases S.blk (i-j) qs hq with ⟨g1,g2⟩|⟨p,o,g1,g2,c,ty,rfl,g3,g4,g5⟩
      ·exact .inl ⟨by rw [psize_renL];exact g1,by rw [hre];exact g2⟩
      ·refine .inr ⟨p,_,by rw [hre];exact g1,g2,c,ty,rfl,g3,by rw [psize_renL];exact g4,?_⟩
       rw [psize_renL]
       refine PR.ren (e:=e1) (e':=e2) (fun _ _ h=>h) hle12 qs _ (fun b p _ hp=>hr2n b p (hdomS b p hp) hp) (toE1P (fun ht=>?_) g5)
       have:=(hst ht).2 _ (List.mem_of_getElem? hq)
       exact this
   ·rename_i hc
    have hre:e2.r i=e.r i:=by show (if _ then _ else _)=_;rw [if_neg hc]
    rcases R.blk i ps hi with ⟨g1,g2⟩|⟨p,o,g1,g2,g3⟩
    ·exact .inl ⟨g1,by rw [hre];exact g2⟩
    ·exact .inr ⟨p,o,by rw [hre];exact g1,by rw [sold p.n (R.lt g1)];exact g2,g3.mono hle⟩
  gap:=fun i g hi=>by
   rw [placeH_get hfm,List.length_map] at hi
   split at hi
   ·rename_i hc
    rw [List.getElem?_map] at hi
    cases hq:new[i-j]? with
    |none=>rw [hq] at hi;cases hi
    |some b=>
     cases b with
     |g g'=>
      rw [hq] at hi
      simp only [Option.map_some,shB,Option.some.injEq,Blk.g.injEq] at hi
      subst hi
      refine ⟨?_,trivial⟩
      show (if j≤i∧i<j+new.length then e'.r (i-j) else e.r i)=none
      rw [if_pos hc]
      exact (S.gap _ _ hq).1
     |b qs=>rw [hq] at hi;cases hi
   ·rename_i hc
    refine ⟨?_,(R.gap i g hi).2.le (fun n o hn=>by rw [sold n (Array.getElem?_eq_some_iff.1 hn).1];exact hn) rfl hle⟩
    show (if j≤i∧i<j+new.length then e'.r (i-j) else e.r i)=none
    rw [if_neg hc];exact (R.gap i g hi).1
  yi:=R.yi,yb:=R.yb
  old:=fun n hn hno hnl=>by rw [sold n (by have:=R.size;omega)];exact R.old n hn hno hnl
  win:=fun i p hi=>by
   obtain ⟨o,o',h1,h2,h3⟩:=R.win i p hi
   exact ⟨o,o',h1,by rw [sold p.n (R.lt (R.keepr i p hi))];exact h2,h3⟩
  kr:=R.kr
  kle:=Nat.le_trans R.kle placeH_length
  mks:=fun r hr=>by
   have:=R.mks r hr
   rw [sold r (Array.getElem?_eq_some_iff.1 this.1).1];exact this
  mnd:=R.mnd}
mutual
theorem frzS_none {h:List Blk}:∀{v u:SV} {p t:Bool},frzS [] v=some (u,p,t)→frzS h v=some (u,p,t)∧t=false
 | .bool _,u,p,t,g=>by simp only [frzS,Option.some.injEq,Prod.mk.injEq] at g ⊢;exact ⟨g,g.2.2.symm⟩
 | .int _ _,u,p,t,g=>by simp only [frzS,Option.some.injEq,Prod.mk.injEq] at g ⊢;exact ⟨g,g.2.2.symm⟩
 | .str _,u,p,t,g=>by simp only [frzS,Option.some.injEq,Prod.mk.injEq] at g ⊢;exact ⟨g,g.2.2.symm⟩
 | .nl _,u,p,t,g=>by simp only [frzS,Option.some.injEq,Prod.mk.injEq] at g ⊢;exact ⟨g,g.2.2.symm⟩
 | .ints _ _ _,u,p,t,g=>by simp only [frzS,Option.some.injEq,Prod.mk.injEq] at g ⊢;exact ⟨g,g.2.2.symm⟩
 | .ro _ _ _,u,p,t,g=>by simp only [frzS,Option.some.injEq,Prod.mk.injEq] at g ⊢;exact ⟨g,g.2.2.symm⟩
 | .rob _ _,u,p,t,g=>by simp only [frzS,Option.some.injEq,Prod.mk.injEq] at g ⊢;exact ⟨g,g.2.2.symm⟩
 | .sl b o i z len cap ex wh,u,p,t,g=>by
  exfalso
  by_cases hz:z=1
  ·subst hz;simp [frzS,contS] at g
  ·unfold frzS at g
   split at g<;>first|(rename_i h1;cases h1;done)|skip
   all_goals first|(rename_i h1;cases h1;exact hz rfl)|(cases g)
 | .agg ps,u,p,t,g=>by
  simp only [frzS] at g ⊢
  split at g
  ·rename_i l q t' hl
   obtain ⟨h1,h2⟩:=frzL_none (h:=h) hl
   rw [h1]
   simp only [Option.some.injEq,Prod.mk.injEq] at g ⊢
   exact ⟨g,by rw [←g.2.2];exact h2⟩
  ·cases g
 | .iface ty x,u,p,t,g=>by
  simp only [frzS] at g ⊢
  split at g
  ·rename_i y q t' hl
   obtain ⟨h1,h2⟩:=frzS_none (h:=h) hl
   rw [h1]
   simp only [Option.some.injEq,Prod.mk.injEq] at g ⊢
   exact ⟨g,by rw [←g.2.2];exact h2⟩
  ·cases g
 | .ptr _ _ _,u,p,t,g=>by simp [frzS] at g
 | .rol _ _ _ _,u,p,t,g=>by simp only [frzS,Option.some.injEq,Prod.mk.injEq] at g ⊢;exact ⟨g,g.2.2.symm⟩
 | .rpi _ _ _,u,p,t,g=>by simp [frzS] at g
 | .rpb _ _ _,u,p,t,g=>by simp [frzS] at g
 | .rpl _ _ _ _ _ _ _,u,p,t,g=>by simp [frzS] at g
 | .tup _,u,p,t,g=>by simp [frzS] at g
 | .fn _ _ _,u,p,t,g=>by simp [frzS] at g
 | .rows _ _ _,u,p,t,g=>by simp [frzS] at g
 | .rsl _ _ _ _ _,u,p,t,g=>by simp [frzS] at g
 | .rptr _ _ _ _ _,u,p,t,g=>by simp [frzS] at g
 | .mpv _,u,p,t,g=>by simp [frzS] at g
 | .glb _ _,u,p,t,g=>by simp [frzS] at g
theorem frzL_none {h:List Blk}:∀{v u:List SV} {p t:Bool},frzL [] v=some (u,p,t)→frzL h v=some (u,p,t)∧t=false
 | [],u,p,t,g=>by simp only [frzL,Option.some.injEq,Prod.mk.injEq] at g ⊢;exact ⟨g,g.2.2.symm⟩
 |x::xs,u,p,t,g=>by
  simp only [frzL] at g ⊢
  split at g
  ·rename_i y p1 a l q b hx hl
   obtain ⟨h1,h2⟩:=frzS_none (h:=h) hx
   obtain ⟨h3,h4⟩:=frzL_none (h:=h) hl
   rw [h1,h3]
   simp only [Option.some.injEq,Prod.mk.injEq] at g ⊢
   exact ⟨g,by rw [←g.2.2,h2,h4];rfl⟩
  ·cases g
end
theorem frz_none {h:List Blk} {v u:List SV} {p t:Bool} (g:frzL [] v=some (u,p,t)):frzL h v=some (u,p,t)∧t=false:=frzL_none g
structure Entry (P:Program) where
 f:FuncId
 g:List SV→List Blk→Nat→Option (SV×List Blk×List Blk×Bool)
 pf:Nat
 nb:Nat
 ok:∀vs h j v h' new,g vs h j=some (v,h',new,true)→∀(B:Base) (e:Env) (w:World) (args:List Value),LR e vs args→Rel B e h w→Free h j new.length→
  CallOK P (.func f) ⟨args⟩ w fun v' w'=>∃e',VR e' v v'∧Rel B e' (placeH h' j new) w'∧EStep e e' none
 pu:(pf=0→∀vs h j v h' new p,g vs h j=some (v,h',new,p)→h'=h∧∀h2,g vs h2 j=some (v,h2,new,p))∧(pf=1→∀vs h j v h' new p,g vs h j=some (v,h',new,p)→h'=h∧∀h2,BLe h h2→g vs h2 j=some (v,h2,new,p))
def Entry.val (f:FuncId) (fn:Func) (hf:P.funcs[f]? =some fn) (hn:(fn.name != "runtime.NumGoroutine")=true) (hb:fn.body.isSome=true) (rd:Bool) (nb:Nat) (F:List SV→Option (SV×List Blk×Bool))
  (ok:∀vs v new,F vs=some (v,new,true)→FnTr P f vs [] v new):Entry P where
 f:=f
 g:=fun vs h j=>match frzL (match rd with|true=>h|false=>[]) vs with
  |some (us,p,t)=>match F us with
   |some (v,new,q)=>match t&&(stale v||new.any staleB) with
    |true=>none
    |false=>some (ren (fun b=>b+j) v,h,new.map (shB j),andT p q)
   |none=>none
  |none=>none
 pf:=match rd with|true=>1|false=>0
 nb:=nb
 ok:=by
  intro vs h j v h' new g B e w args hl R hj
  split at g
  ·rename_i us p t hfz
   split at g
   ·rename_i u nw q hF
    split at g
    ·cases g
    ·rename_i hs
     simp only [Option.some.injEq,Prod.mk.injEq,andT_iff] at g
     obtain ⟨rfl,rfl,rfl,rfl,rfl⟩:=g
     have hst:t=true→stale u=false∧∀b∈nw,staleB b=false:=fun ht=>by
      rw [ht,Bool.true_and,Bool.or_eq_false_iff] at hs
      refine ⟨hs.1,fun b hb=>?_⟩
      cases hq:staleB b with
      |false=>rfl
      |true=>
       have:nw.any staleB=true:=List.any_eq_true.2 ⟨b,hb,hq⟩
       rw [this] at hs;cases hs.2
     have hbn:fn.body≠none:=fun q=>by rw [q] at hb;cases hb
     refine .inr ⟨callFunc_enter hf (by simpa using hn) hbn _ w,?_⟩
     cases rd with
     |true=>exact pure_call (ok us u nw hF) hfz hst hl R (by simpa using hj)
     |false=>
      have hfz':frzL h vs=some (us,true,t)∧t=false:=frz_none hfz
      exact pure_call (ok us u nw hF) hfz'.1 hst hl R (by simpa using hj)
   ·cases g
  ·cases g
 pu:=by
  constructor
  ·intro h0 vs h j v h' new p g
   cases rd with
   |true=>cases h0
   |false=>
    simp only at g ⊢
    split at g
    ·rename_i us p1 t hfz
     split at g
     ·rename_i u nw q hF
      split at g
      ·cases g
      ·rename_i hs
       simp only [Option.some.injEq,Prod.mk.injEq] at g
       obtain ⟨rfl,rfl,rfl,rfl⟩:=g
       exact ⟨rfl,fun h2=>rfl⟩
     ·cases g
    ·cases g
  ·intro _ vs h j v h' new p g
   split at g
   ·rename_i us p1 t hfz
    split at g
    ·rename_i u nw q hF
     split at g
     ·cases g
     ·rename_i hs
      simp only [Option.some.injEq,Prod.mk.injEq] at g
      obtain ⟨rfl,rfl,rfl,rfl⟩:=g
      refine ⟨rfl,fun h2 hle=>?_⟩
      cases rd with
      |false=>rw [hfz];simp only;rw [hF];simp only;rw [hs]
      |true=>
       have hfz':=frzL_le hle hfz
       simp only
       rw [hfz'];simp only;rw [hF];simp only;rw [hs]
    ·cases g
   ·cases g
def mk (es:List (Entry P)) (inl:List (FuncId×Func)) (sym:Tmp→Option Bool:=fun _=>none) (inp:Tmp→Bool:=fun _=>false):Ctr where
 sym:=sym
 inp:=inp
 g:=fun f vs h j=>match es.find? (fun e=>e.f==f) with
  |some e=>e.g vs h j
  |none=>none
 inl:=fun f=>(inl.find? fun e=>e.1==f).map (·.2)
 pf:=fun f=>match inl.find? (fun e=>e.1==f) with
  |some _=>2
  |none=>match es.find? (fun e=>e.f==f) with
   |some e=>e.pf
   |none=>2
 nb:=fun f=>match es.find? (fun e=>e.f==f) with
  |some e=>e.nb
  |none=>0
def InlOK (P:Program) (inl:List (FuncId×Func)):Prop:=∀x∈inl,P.funcs[x.1]? =some x.2∧(x.2.name != "runtime.NumGoroutine")=true
theorem InlOK.nil:InlOK P []:=fun _ h=>by cases h
theorem InlOK.cons {f:FuncId} {fn:Func} {l:List (FuncId×Func)} (hf:P.funcs[f]? =some fn) (hn:(fn.name != "runtime.NumGoroutine")=true) (h:InlOK P l):InlOK P ((f,fn)::l):=fun x hx=>by
 rcases List.mem_cons.1 hx with rfl|hx
 ·exact ⟨hf,hn⟩
 ·exact h x hx
theorem mk_sound (es:List (Entry P)) {inl:List (FuncId×Func)} (hi:InlOK P inl) (sym:Tmp→Option Bool) (inp:Tmp→Bool):CtrSound P (mk es inl sym inp) where
 yields:=fun l vs h v h' g=>by cases g
 calls:=by
  intro f vs h j v h' new g
  simp only [mk] at g
  split at g
  ·rename_i x hx
   have:=List.find?_some hx
   simp only [beq_iff_eq] at this
   subst this
   exact x.ok vs h j v h' new g
  ·cases g
 pure:=by
  have key:∀(f:FuncId) (m:Nat),(mk es inl sym inp).pf f=m→m≠2→∃x:Entry P,es.find? (fun e=>e.f==f)=some x∧x.pf=m:=fun f m h hm=>by
   simp only [mk] at h
   split at h
   ·omega
   ·split at h
    ·rename_i x hx;exact ⟨x,hx,h⟩
    ·omega
  refine ⟨fun f hf vs h j v h' new p g=>?_,fun f hf vs h j v h' new p g=>?_⟩
  ·obtain ⟨x,hx,hp⟩:=key f 0 hf (by omega)
   simp only [fnG,mk,hx] at g ⊢
   exact x.pu.1 hp vs h j v h' new p g
  ·obtain ⟨x,hx,hp⟩:=key f 1 hf (by omega)
   simp only [fnG,mk,hx] at g ⊢
   exact x.pu.2 hp vs h j v h' new p g
 inl:=by
  intro f fn g
  simp only [mk] at g ⊢
  obtain ⟨x,hx,rfl⟩:=Option.map_eq_some_iff.1 g
  have h1:=List.find?_some hx
  simp only [beq_iff_eq] at h1
  subst h1
  obtain ⟨h2,h3⟩:=hi x (List.mem_of_find?_eq_some hx)
  refine ⟨h2,by simpa using h3,?_⟩
  rw [hx];simp
end
end Go.Sy
namespace Go.Sy
open Go
def slotsOf (n:Nat) (l:List (Nat×SV)):List (Option SV):=(List.range n).map fun i=>(l.find? fun p=>p.1==i).map (·.2)
def keepT (live:List Nat) (t:List (Option SV)):List (Option SV):=t.zipIdx.map fun (v,i)=>if live.contains i then v else none
def St.keep (live:List Nat) (s:St):St:=⟨keepT live s.t,s.h,s.ob⟩
def Ent (k:Nat) (s s':St):Prop:=∀(B:Base) (e:Env) (w:World) (t':List Value),B.k≤k→TR e s.t t'→Rel B e s.h w→∃e',e'.m=e.m∧TR e' s'.t t'∧Rel B e' s'.h w
theorem Ent.refl (k:Nat) (s:St):Ent k s s:=fun _ e _ _ _ hl R=>⟨e,rfl,hl,R⟩
theorem Ent.trans {k:Nat} {a b c:St} (h:Ent k a b) (g:Ent k b c):Ent k a c:=fun B e w t' hB hl R=>by
 obtain ⟨e1,h1,h2,h3⟩:=h B e w t' hB hl R
 obtain ⟨e2,h4,h5,h6⟩:=g B e1 w t' hB h2 h3
 exact ⟨e2,h4.trans h1,h5,h6⟩
theorem Ent.same {k:Nat} {s s':St} (h1:s.t=s'.t) (h2:s.h=s'.h):Ent k s s':=fun _ e _ _ _ hl R=>⟨e,rfl,by rw [←h1];exact hl,by rw [←h2];exact R⟩
def VE (v v':SV):Prop:=∀(e:Env) (x:Value),VR e v x→VR e v' x
def PE (ps qs:List SV):Prop:=psize qs=psize ps∧∀(e:Env) (xs:List Value),PR e ps xs→PR e qs xs
theorem Ent.mono {k:Nat} {s s':St} (hl:s.t.length=s'.t.length) (ht:∀(i:Nat) (v':SV),s'.t[i]? =some (some v')→∃v,s.t[i]? =some (some v)∧VE v v')
  (hn:s'.h.length=s.h.length) (hh:∀(i:Nat) (qs:List SV),s'.h[i]? =some (.b qs)→∃ps,s.h[i]? =some (.b ps)∧PE ps qs) (hg:∀(i:Nat) (g:Option Lp),s'.h[i]? =some (.g g)→s.h[i]? =some (.g g)):Ent k s s':=
 fun B e w t' hB hlr R=>⟨e,rfl,⟨hl.symm.trans hlr.1,fun i v' x h1 h2=>by
  obtain ⟨v,h3,h4⟩:=ht i v' h1
  exact h4 e x (hlr.2 i v x h3 h2)⟩,{R with
   dom:=fun i p hi=>by rw [hn];exact R.dom i p hi
   blk:=fun i qs hi=>by
    obtain ⟨ps,h1,h2,h3⟩:=hh i qs hi
    rcases R.blk i ps h1 with ⟨g1,g2⟩|⟨p,o,g1,g2,c,t,rfl,g3,g4,g5⟩
    ·exact .inl ⟨by rw [h2];exact g1,g2⟩
    ·exact .inr ⟨p,_,g1,g2,c,t,rfl,g3,by rw [h2];exact g4,by rw [h2];exact h3 e _ g5⟩
   gap:=fun i g hi=>R.gap i g (hg i g hi)
   kle:=by rw [hn];exact R.kle}⟩
theorem Ent.slots {k:Nat} {s s':St} (hl:s.t.length=s'.t.length) (ht:∀(i:Nat) (v':SV),s'.t[i]? =some (some v')→s.t[i]? =some (some v')) (hh:s.h=s'.h):Ent k s s':=
 fun _ e _ _ _ hlr R=>⟨e,rfl,⟨hl.symm.trans hlr.1,fun i v' x h1 h2=>hlr.2 i v' x (ht i v' h1) h2⟩,by rw [←hh];exact R⟩
theorem Ent.keep (k:Nat) (live:List Nat) (s:St):Ent k s (s.keep live):=Ent.slots (by simp [St.keep,keepT]) (fun i v e=>by
  simp only [St.keep,keepT,List.getElem?_map,List.getElem?_zipIdx] at e
  cases h:s.t[i]? with
  |none=>simp [h] at e
  |some x=>
   simp only [h,Option.map_some,Option.some.injEq] at e
   split at e
   ·rw [e]
   ·cases e) rfl
def blkIn (n:Nat):Blk→Bool
 | .b ps=>refsInL (List.range n) ps
 | .g (some L)=>L.t.all fun o=>match o with|some v=>refsIn (List.range n) v|none=>true
 | .g none=>true
def St.trunc (n:Nat) (s:St):Option St:=
 if s.t.all (fun o=>match o with|some v=>refsIn (List.range n) v|none=>true)&&(s.h.take n).all (blkIn n) then some ⟨s.t,s.h.take n,s.ob⟩ else none
theorem Ent.trunc {k n:Nat} (hk:k≤n) {s s':St} (h:s.trunc n=some s'):Ent k s s':=by
 unfold St.trunc at h
 split at h
 ·rename_i hc
  cases h
  simp only [Bool.and_eq_true,List.all_eq_true] at hc
  obtain ⟨h1,h2⟩:=hc
  intro B e w t' hB hl R
  let e':Env:={e with r:=fun i=>if i<n then e.r i else none}
  have hr:∀i p,e'.r i=some p→i<n∧e.r i=some p:=fun i p hi=>by
   have hi':(if i<n then e.r i else none)=some p:=hi
   split at hi'
   ·rename_i hc;exact ⟨hc,hi'⟩
   ·cases hi'
  have hr':∀i,i<n→e'.r i=e.r i:=fun i hi=>if_pos hi
  have up:∀j p,j∈List.range n→e.r j=some p→e'.r j=some p:=fun j p hj hp=>by rw [hr' j (List.mem_range.1 hj)];exact hp
  have hkn:∀i p,B.e.r i=some p→i<n:=fun i p hi=>by have:=R.kr i p hi;omega
  refine ⟨e',rfl,⟨hl.1,fun i v v' g1 g2=>?_⟩,?_⟩
  ·have:=h1 _ (List.mem_of_getElem? g1)
   exact VR.mono' (e:=e) (e':=e') (fun _ _ h=>h) (Nat.le_refl _) v v' (fun j p hu hp=>up j p (refsIn_uses this hu) hp) (hl.2 i v v' g1 g2)
  ·have tk:∀i x,(s.h.take n)[i]? =some x→i<n∧s.h[i]? =some x:=fun i x hi=>by
    rw [List.getElem?_take] at hi
    split at hi
    ·rename_i hc;exact ⟨hc,hi⟩
    ·cases hi
   exact {R with
    inj:=fun i j p q hi hj=>R.inj i j p q (hr i p hi).2 (hr j q hj).2
    dom:=fun i p hi=>by
     obtain ⟨g1,g2⟩:=hr i p hi
     have:=R.dom i p g2
     rw [List.length_take];omega
    sep:=fun i p hi=>R.sep i p (hr i p hi).2
    news:=fun i p hi=>R.news i p (hr i p hi).2
    keepr:=fun i p hi=>by rw [hr' i (hkn i p hi)];exact R.keepr i p hi
    blk:=fun i ps hi=>by
     obtain ⟨g1,g2⟩:=tk i _ hi
     have hu:=h2 _ (List.mem_of_getElem? hi)
     rcases R.blk i ps g2 with ⟨q1,q2⟩|⟨p,o,q1,q2,c,t,rfl,q3,q4,q5⟩
     ·exact .inl ⟨q1,by rw [hr' i g1];exact q2⟩
     ·exact .inr ⟨p,_,by rw [hr' i g1];exact q1,q2,c,t,rfl,q3,q4,PR.mono' (e:=e) (e':=e') (fun _ _ h=>h) (Nat.le_refl _) ps _ (fun j p hu' hp=>up j p (refsInL_uses hu hu') hp) q5⟩
    gap:=fun i g hi=>by
     obtain ⟨g1,g2⟩:=tk i _ hi
     have hu:=h2 _ (List.mem_of_getElem? hi)
     refine ⟨by rw [hr' i g1];exact (R.gap i g g2).1,(R.gap i g g2).2.keep (fun _ _ h=>h) rfl fun L hL v v' hv hvr=>?_⟩
     subst hL
     have:=List.all_eq_true.1 hu (some v) hv
     exact VR.mono' (e:=e) (e':=e') (fun _ _ h=>h) (Nat.le_refl _) v v' (fun j p hu' hp=>up j p (refsIn_uses this hu') hp) hvr
    kle:=by have:=R.kle;rw [List.length_take];omega}
 ·cases h
def St.cut (live:List Nat) (n:Nat) (s:St):Option St:=(s.keep live).trunc n
theorem Ent.cut {k n:Nat} {live:List Nat} (hk:k≤n) {s s':St} (h:s.cut live n=some s'):Ent k s s':=(Ent.keep k live s).trans (Ent.trunc hk h)
section
variable {P:Program} {ro:Option Nat} {k:Nat}
theorem Tr.pre {c:Code} {s s1 s':St} {x:Exit} (h:Tr P ro k c s1 x s') (g:Ent k s s1):Tr P ro k c s x s':=
 fun B e w t' d Q nn hB hl R hQ=>by
  obtain ⟨e1,h1,h2,h3⟩:=g B e w t' hB hl R
  rw [←h1]
  exact h B e1 w t' d Q nn hB h2 h3 hQ
theorem Tr.post {c:Code} {s s1 s':St} {x:Exit} (h:Tr P ro k c s x s1) (g:Ent k s1 s'):Tr P ro k c s x s':=
 fun B e w t' d Q nn hB hl R hQ=>h B e w t' d Q nn hB hl R fun e2 w2 t2 hl2 R2=>by
  obtain ⟨e1,h1,h2,h3⟩:=g B e2 w2 t2 hB hl2 R2
  rw [←h1]
  exact hQ e1 w2 t2 h2 h3
theorem TrR.pre {c:Code} {s s1 s':St} {x:Exit} (h:TrR P ro k c s1 x s') (g:Ent k s s1):TrR P ro k c s x s':=by
 obtain ⟨m,hm⟩:=h
 refine ⟨m,fun B e w t' d Q nn hB hl R hQ=>?_⟩
 obtain ⟨e1,h1,h2,h3⟩:=g B e w t' hB hl R
 rw [←h1]
 exact hm B e1 w t' d Q nn hB h2 h3 hQ
theorem Tr.cut {Γ:Ctr} (hΓ:CtrSound P Γ) (n:Nat) (live:List Nat) (m:Nat) (hm:k≤m) {c:Code} {s s':St} {x:Exit} (e:(Sy.exec P Γ n k c s).bind (fun r=>(r.2.cut live m).map fun q=>(r.1,q))=some (x,s')) (hob:s'.ob=true):Tr P ro k c s x s':=by
 obtain ⟨⟨y,s1⟩,h1,e⟩:=Option.bind_eq_some_iff.1 e
 obtain ⟨s2,h2,q⟩:=Option.map_eq_some_iff.1 e
 cases q
 refine (Tr.exec hΓ h1 ?_).post (Ent.cut hm h2)
 unfold St.cut St.trunc at h2
 split at h2
 ·cases h2;exact hob
 ·cases h2
theorem Tr.keep {Γ:Ctr} (hΓ:CtrSound P Γ) (n:Nat) (live:List Nat) {c:Code} {s s':St} {x:Exit} (e:(Sy.exec P Γ n k c s).map (fun r=>(r.1,r.2.keep live))=some (x,s')) (hob:s'.ob=true):Tr P ro k c s x s':=by
 obtain ⟨⟨y,s1⟩,h1,q⟩:=Option.map_eq_some_iff.1 e
 simp only [Prod.mk.injEq] at q
 obtain ⟨rfl,rfl⟩:=q
 exact (Tr.exec hΓ h1 hob).post (Ent.keep k live s1)
def bodyOf (fn:Func):Code:=fn.body.getD .skip
def atoms:Code→List Code
 | .seq a b=>atoms a++atoms b
 |c=>[c]
def nthC (n:Nat) (c:Code):Code:=(atoms c).getD n .skip
def inner:Code→Code
 | .block _ b=>b
 | .loop b=>b
 | .scope b=>b
 |c=>c
def isLoop (id:Nat):Code→Bool
 | .block j (.loop _)=>j==id
 |_=>false
def TrL (P:Program) (ro:Option Nat) (k:Nat):List Code→St→Exit→St→Prop
 | [],s,x,s'=>x= .normal∧s'=s
 |a::l,s,x,s'=>(∃s1,Tr P ro k a s .normal s1∧TrL P ro k l s1 x s')∨(x≠.normal∧Tr P ro k a s x s')
theorem TrL.append:∀(l1:List Code) {l2:List Code} {s s':St} {x:Exit},TrL P ro k (l1++l2) s x s'→(∃s1,TrL P ro k l1 s .normal s1∧TrL P ro k l2 s1 x s')∨(x≠.normal∧TrL P ro k l1 s x s')
 | [],_,s,_,_,h=>.inl ⟨s,⟨rfl,rfl⟩,h⟩
 |a::l1,l2,s,s',x,h=>by
  rcases h with ⟨s1,h1,h2⟩|⟨hx,h1⟩
  ·rcases TrL.append l1 h2 with ⟨s2,h3,h4⟩|⟨hx,h3⟩
   ·exact .inl ⟨s2,.inl ⟨s1,h1,h3⟩,h4⟩
   ·exact .inr ⟨hx,.inl ⟨s1,h1,h3⟩⟩
  ·exact .inr ⟨hx,.inr ⟨hx,h1⟩⟩
theorem TrL.single {c:Code} {s s':St} {x:Exit} (h:TrL P ro k [c] s x s'):Tr P ro k c s x s':=by
 rcases h with ⟨s1,h1,rfl,rfl⟩|⟨_,h1⟩
 ·exact h1
 ·exact h1
theorem Tr.of_atoms:∀{c:Code} {s s':St} {x:Exit},TrL P ro k (atoms c) s x s'→Tr P ro k c s x s':=by
 intro c
 induction c with
 |seq a b iha ihb=>
  intro s s' x h
  rcases TrL.append (atoms a) h with ⟨s1,h1,h2⟩|⟨hx,h1⟩
  ·exact Tr.seq (iha h1) (ihb h2)
  ·exact Tr.seq_leave (iha h1) hx
 |_=>intro s s' x h;exact TrL.single h
def execL (P:Program) (Γ:Ctr) (n k:Nat):Nat→List Code→St→Option St
 |0,_,s=>some s
 |m+1,a::l,s=>match exec P Γ n k a s with
  |some (.normal,s')=>execL P Γ n k m l s'
  |_=>none
 |_+1,[],_=>none
def execA (P:Program) (Γ:Ctr) (n k:Nat):List Code→St→Option (Exit×St)
 | [],s=>some (.normal,s)
 |a::l,s=>match exec P Γ n k a s with
  |some (.normal,s')=>execA P Γ n k l s'
  |r=>r
theorem execL_sound {Γ:Ctr} (hΓ:CtrSound P Γ) (n:Nat):∀(m:Nat) {l:List Code} {s s1 s':St} {x:Exit},execL P Γ n k m l s=some s1→s1.ob=true→TrL P ro k (l.drop m) s1 x s'→TrL P ro k l s x s'∧s.ob=true
 |0,l,s,s1,s',x,e,hob,h=>by simp only [execL,Option.some.injEq] at e;subst e;exact ⟨by simpa using h,hob⟩
 |m+1,[],s,s1,s',x,e,_,_=>by simp [execL] at e
 |m+1,a::l,s,s1,s',x,e,hob,h=>by
  simp only [execL] at e
  split at e
  ·rename_i s2 h2
   obtain ⟨h3,h4⟩:=execL_sound hΓ n m e hob (by simpa only [List.drop_succ_cons] using h)
   exact ⟨.inl ⟨s2,Tr.exec hΓ h2 h4,h3⟩,exec_ob n k a s s2 _ h2 h4⟩
  ·cases e
theorem execA_sound {Γ:Ctr} (hΓ:CtrSound P Γ) (n:Nat):∀{l:List Code} {s s':St} {x:Exit},execA P Γ n k l s=some (x,s')→s'.ob=true→TrL P ro k l s x s'∧s.ob=true
 | [],s,s',x,e,hob=>by simp only [execA,Option.some.injEq,Prod.mk.injEq] at e;obtain ⟨rfl,rfl⟩:=e;exact ⟨⟨rfl,rfl⟩,hob⟩
 |a::l,s,s',x,e,hob=>by
  simp only [execA] at e
  split at e
  ·rename_i s2 h2
   obtain ⟨h3,h4⟩:=execA_sound hΓ n e hob
   exact ⟨.inl ⟨s2,Tr.exec hΓ h2 h4,h3⟩,exec_ob n k a s s2 _ h2 h4⟩
  ·rename_i hne
   have hx:x≠.normal:=fun q=>by subst q;exact hne s' e
   exact ⟨.inr ⟨hx,Tr.exec hΓ e hob⟩,exec_ob n k a s s' x e hob⟩
theorem TrL.pre:∀{l:List Code} {s s1 s':St} {x:Exit},TrL P ro k l s1 x s'→Ent k s s1→l≠[]→TrL P ro k l s x s'
 | [],_,_,_,_,_,_,h=>absurd rfl h
 |_::_,_,_,_,_,.inl ⟨s2,h1,h2⟩,g,_=>.inl ⟨s2,h1.pre g,h2⟩
 |_::_,_,_,_,_,.inr ⟨hx,h1⟩,g,_=>.inr ⟨hx,h1.pre g⟩
theorem TrL.items {Γ:Ctr} (hΓ:CtrSound P Γ) (n m:Nat) (live:List Nat) (j:Nat) (hj:k≤j) {l:List Code} {s s1 s':St} {x:Exit} (e:(execL P Γ n k m l s).bind (St.cut live j)=some s1) (hob:s1.ob=true) (hl:m<l.length) (h:TrL P ro k (l.drop m) s1 x s'):TrL P ro k l s x s':=by
 obtain ⟨s2,h2,h3⟩:=Option.bind_eq_some_iff.1 e
 refine (execL_sound hΓ n m h2 ?_ (h.pre (Ent.cut hj h3) (by intro q;have:=congrArg List.length q;simp at this;omega))).1
 unfold St.cut St.trunc at h3
 split at h3
 ·cases h3;exact hob
 ·cases h3
theorem TrL.item (m:Nat) {c:Code} {s s1 s':St} {x:Exit} (hm:m<(atoms c).length) (h1:Tr P ro k (nthC m c) s .normal s1) (h2:TrL P ro k ((atoms c).drop (m+1)) s1 x s'):TrL P ro k ((atoms c).drop m) s x s':=by
 rw [List.drop_eq_getElem_cons hm]
 refine .inl ⟨s1,?_,h2⟩
 have:nthC m c=(atoms c)[m]:=by simp [nthC,List.getD,List.getElem?_eq_getElem hm]
 rwa [this] at h1
theorem TrL.leave (m:Nat) {c:Code} {s s':St} {x:Exit} (hm:m<(atoms c).length) (hx:x≠.normal) (h1:Tr P ro k (nthC m c) s x s'):TrL P ro k ((atoms c).drop m) s x s':=by
 rw [List.drop_eq_getElem_cons hm]
 refine .inr ⟨hx,?_⟩
 have:nthC m c=(atoms c)[m]:=by simp [nthC,List.getD,List.getElem?_eq_getElem hm]
 rwa [this] at h1
theorem TrL.rest {Γ:Ctr} (hΓ:CtrSound P Γ) (n:Nat) {l:List Code} {s s':St} {x:Exit} (e:execA P Γ n k l s=some (x,s')) (hob:s'.ob=true):TrL P ro k l s x s':=(execA_sound hΓ n e hob).1
theorem Tr.loop (id:Nat) {c:Code} {s':St} (hc:isLoop id c=true) (f:Nat→St) (N:Nat) (hb:∀i,i<N→Tr P ro k (inner (inner c)) (f i) .normal (f (i+1))) (hl:Tr P ro k (inner (inner c)) (f N) (.exit id) s'):Tr P ro k c (f 0) .normal s':=by
 cases c<;>simp [isLoop] at hc
 rename_i j b
 cases b<;>simp at hc
 subst hc
 exact Tr.block (TrR.loop (TrR.for (by simp) f N hb hl))
theorem Tr.loopRet (id:Nat) {c:Code} {s s':St} (hc:isLoop id c=true) (h:TrR P ro k (inner (inner c)) s .ret s'):Tr P ro k c s .ret s':=by
 cases c<;>simp [isLoop] at hc
 rename_i j b
 cases b<;>simp at hc
 subst hc
 exact Tr.block_pass (TrR.loop h) (by simp)
theorem FnTr.mk {f:FuncId} {fn:Func} (hf:P.funcs[f]? =some fn) {args:List SV} {h:List Blk} {x:Exit} {s:St} {vs:List SV} (hb:fn.body.isSome=true) (ht:TrL P none h.length (atoms (bodyOf fn)) ⟨slots0 fn.ntmps args,h,true⟩ x s) (hx:x= .ret∨x= .normal)
  (hr:resS P s.t s.h fn.results.toList=some (vs,true)):FnTr P f args h (oneOf vs) s.h:=by
 obtain ⟨c,hc⟩:=Option.isSome_iff_exists.1 hb
 exact FnTr.of_Tr hf hc hx (Tr.of_atoms (by simpa [bodyOf,hc] using ht)) hr
theorem FnTr.rest {Γ:Ctr} (hΓ:CtrSound P Γ) (n m:Nat) {f:FuncId} {fn:Func} (hf:P.funcs[f]? =some fn) {args:List SV} {h h':List Blk} {s:St} {v:SV} {p:Bool} (hb:fn.body.isSome=true)
  (ht:∀s' x,TrL P none h.length ((atoms (bodyOf fn)).drop m) s x s'→TrL P none h.length (atoms (bodyOf fn)) ⟨slots0 fn.ntmps args,h,true⟩ x s')
  (e:((execA P Γ n h.length ((atoms (bodyOf fn)).drop m) s).bind fun r=>match r.1 with
   | .ret| .normal=>(resS P r.2.t r.2.h fn.results.toList).map fun q=>(oneOf q.1,r.2.h,andT r.2.ob q.2)
   |_=>none)=some (v,h',p)) (hp:p=true):FnTr P f args h v h':=by
 obtain ⟨⟨x,s'⟩,h1,e⟩:=Option.bind_eq_some_iff.1 e
 subst hp
 have key:∀(_:x= .ret∨x= .normal),((resS P s'.t s'.h fn.results.toList).map fun q=>(oneOf q.1,s'.h,andT s'.ob q.2))=some (v,h',true)→FnTr P f args h v h':=fun hx e=>by
  obtain ⟨⟨vs,q⟩,hr,e⟩:=Option.map_eq_some_iff.1 e
  simp only [Prod.mk.injEq,andT_iff] at e
  obtain ⟨rfl,rfl,hob,rfl⟩:=e
  exact FnTr.mk hf hb (ht s' x (TrL.rest hΓ n h1 hob)) hx hr
 cases x<;>simp only at e<;>first|exact key (by simp) e|cases e
theorem FnTr.post {f:FuncId} {args:List SV} {h h1 h2:List Blk} {v v2:SV} (g:FnTr P f args h v h1) (q:Ent h.length ⟨[some v],h1,true⟩ ⟨[some v2],h2,true⟩):FnTr P f args h v2 h2:=by
 intro B e w args' hB hl R
 refine (g B e w args' hB hl R).mono ?_
 rintro en w' ⟨v',rfl,e1,hm,hv,R1⟩
 obtain ⟨e2,hm2,hl2,R2⟩:=q B e1 w' [v'] hB ⟨rfl,fun i u u' h1 h2=>by
  have hi:=(List.getElem?_eq_some_iff.1 h1).1
  simp at hi;subst hi;simp at h1 h2;subst h1;subst h2;exact hv⟩ R1
 exact ⟨v',rfl,e2,hm2.trans hm,hl2.2 0 v2 v' rfl rfl,R2⟩
theorem FnTr.pre {f:FuncId} {args args2:List SV} {h h2:List Blk} {h1:List Blk} {v:SV} (g:FnTr P f args2 h2 v h1) (hk:h.length=h2.length) (q:Ent h.length ⟨args.map some,h,true⟩ ⟨args2.map some,h2,true⟩):FnTr P f args h v h1:=by
 intro B e w args' hB hl R
 have hlen:=hl.length
 obtain ⟨e2,hm2,hl2,R2⟩:=q B e w args' hB ⟨by simp [hlen],fun i u u' h1 h2=>by
  rw [List.getElem?_map] at h1
  obtain ⟨x,hx,hxe⟩:=Option.map_eq_some_iff.1 h1
  cases hxe
  obtain ⟨y,hy,hv⟩:=hl.get hx
  rw [h2] at hy;cases hy;exact hv⟩ R
 have hl3:LR e2 args2 args':=by
  have:∀(as:List SV) (bs:List Value),as.length=bs.length→(∀(i:Nat) (v:SV) (v':Value),as[i]? =some v→bs[i]? =some v'→VR e2 v v')→LR e2 as bs:=by
   intro as
   induction as with
   |nil=>intro bs h _;cases bs<;>simp at h;rfl
   |cons a as ih=>
    intro bs h g
    cases bs with
    |nil=>simp at h
    |cons b bs=>exact ⟨b,bs,g 0 a b rfl rfl,ih bs (by simpa using h) (fun i v v' h1 h2=>g (i+1) v v' (by simpa using h1) (by simpa using h2)),rfl⟩
  refine this args2 args' (by simpa using hl2.1) fun i v v' h1 h2=>hl2.2 i v v' (by simp [h1]) h2
 refine (g B e2 w args' (by omega) hl3 R2).mono ?_
 rintro en w' ⟨v',rfl,e3,hm3,hv,R3⟩
 exact ⟨v',rfl,e3,hm3.trans hm2,hv,R3⟩
end
end Go.Sy
