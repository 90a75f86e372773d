/- This file proves the interpreter 'exec' sound, functions that are taken in among them. Conditions: those of the interpreter's own tests; the contracts that it uses are sound. -/
import Derived.Test.YthlnlcijnoadcaaGreatDoorGMb
import Derived.RangeFuncLeaves
import Derived.RangeFuncRecord
import Derived.RangeFuncIn
noncomputable section
set_option linter.all false
namespace Go.Sy
open Go
def YTr (P:Program) (l:Nat) (vs:List SV) (h:List Blk) (v:SV) (h':List Blk):Prop:=∀(B:cP) (e:Env) (w:World) (args:List Value),LR e vs args->Rel B e h w->
 mh P (.yield l) ⟨args⟩ w λv' w'=>∃e',VR e' v v'/\Rel B e' h' w'/\bW e e' none
structure ak (P:Program) (Γ:bO):Prop where
 wV:∀l vs h v h',Γ.yc l vs h=some (v,h',true)->YTr P l vs h v h'
 calls:Km P Γ.g
 pure:j4 Γ.pf (fnG Γ.g)
 inl:∀f fn,Γ.inl f=some fn->P.funcs[f]? =some fn/\fn.name≠"runtime.NumGoroutine"/\2<=Γ.pf f
def Env.bare (e:Env) (h:List Blk):Env:={e with m:=[],y:=λi=>match oL h i with|some _=>e.y i|none=>none}
theorem jE (e:Env) (h:List Blk):Env.Le e (e.bare h):=⟨λ_ _ h=>h,λ_ _ h=>h,aaf _⟩
theorem B4 {h:List Blk} {i:Nat} {L:Lp} (g:h[i]? =some (.g (some L))):oL h i=some L:=by unfold oL;rw [g]
theorem o8 {h:List Blk} {i:Nat} {L:Lp} (g:oL h i=some L):h[i]? =some (.g (some L)):=by
 unfold oL at g
 split at g
 ·rename_i L' hq;cases g;exact hq
 ·cases g
theorem PX {e:Env} {h:List Blk} {i:Nat} {L:Lp} (g:h[i]? =some (.g (some L))):(e.bare h).y i=e.y i:=by
 show (match oL h i with|some _=>e.y i|none=>none)=e.y i
 rw [B4 g]
theorem wW {e:Env} {h:List Blk} {i n:Nat} (g:(e.bare h).y i=some n):e.y i=some n/\∃L,h[i]? =some (.g (some L)):=by
 have g':(match oL h i with|some _=>e.y i|none=>none)=some n:=g
 split at g'
 ·rename_i L hL;exact ⟨g',L,o8 hL⟩
 ·cases g'
def PY:Blk->Option Nat
 | .g (some L)=>some L.l
 |_=>none
def wX (h:List Blk):List Nat:=h.filterMap PY
theorem gV {h:List Blk} {n:Nat}:n∈wX h↔∃(i:Nat) (L:Lp),h[i]? =some (.g (some L))/\L.l=n:=by
 unfold wX
 rw [List.mem_filterMap]
 constructor
 ·rintro ⟨b,hb,hq⟩
  obtain ⟨i,hi⟩:=aep.1 hb
  match b,hq with
  | .g (some L),hq=>exact ⟨i,L,hi,ael hq⟩
 ·rintro ⟨i,L,hi,rfl⟩
  exact ⟨_,aaG hi,rfl⟩
section
variable {P:Program} {e:Env} {B:cP} {h:List Blk} {w:World}
def e7 (e:Env) (h:List Blk) (w:World):cP:=⟨w,e.bare h,h.length,wX h⟩
theorem Rel.self (R:Rel B e h w):Rel (e7 e h w) (e.bare h) h w where
 os:=rfl
 tape:=rfl
 output:=rfl
 size:=aaf _
 inj:=R.inj
 dom:=R.dom
 sep:=R.sep
 eU:=R.eU
 bp:=λ_ _ hz=>.inl hz
 dU:=R.dU
 news:=λ_ _ hi=>.inl hi
 bA:=λ_ _ hi=>hi
 bM:=λ_ _ hz=>hz
 n0:=rfl
 cI:=by show e.n0<=w.heap.size;have:=R.n0;have:=R.cI;have:=R.size;omega
 ew:=λi ps hi=>(R.ew i ps hi).imp id λ⟨p,o,h1,h2,h3⟩=>⟨p,o,h1,h2,h3.mono (jE e h)⟩
 gap:=λi g hi=>⟨(R.gap i g hi).1,by
  have hg:=(R.gap i g hi).2
  cases g with
  |none=>trivial
  |some L=>exact hg.le (λ_ _ h=>h) (PX hi) (jE e h)⟩
 yi:=λi j n hi hj=>R.yi i j n (wW hi).1 (wW hj).1
 yb:=λi n hi=>by
  obtain ⟨h1,L,h2⟩:=wW hi
  have:=(R.gap i _ h2).2.1
  rw [h1] at this;cases this
  exact .inl (gV.2 ⟨i,L,h2,rfl⟩)
 old:=λ_ _ _ _=>rfl
 win:=λi p hi=>by
  obtain ⟨c,t,h1,_⟩:=R.eA hi
  exact ⟨_,_,h1,h1,c,c,t,(0,0),rfl,rfl,rfl,λ_ _=>rfl⟩
 kr:=λi p hi=>R.dom i p hi
 fO:=aaf _
 fc:=λr hr=>by cases hr
 gJ:=List.nodup_nil
theorem oJ.trans {a n:Nat} {x y z:Obj} (h:oJ a n x y) (g:oJ a n y z):oJ a n x z:=by
 obtain ⟨c,c',t,fr,rfl,rfl,h1,h2⟩:=h
 obtain ⟨d,d',t',fr',q,rfl,h3,h4⟩:=g
 cases q
 exact ⟨c,d',t,fr,rfl,rfl,h3.trans h1,λj hj=>(h4 j hj).trans (h2 j hj)⟩
theorem Rel.trans (R:Rel B e h w) {e':Env} {h':List Blk} {w':World} (S:Rel (e7 e h w) e' h' w'):Rel B {e' with m:=e.m} h' w' where
 os:=S.os.trans R.os
 tape:=S.tape.trans R.tape
 output:=S.output.trans R.output
 size:=abi R.size S.size
 inj:=S.inj
 dom:=S.dom
 sep:=S.sep
 eU:=S.eU
 bp:=λn x hz=>by
  rcases S.bp n x hz with g|g
  ·exact R.bp n x g
  ·exact .inr (abi R.size g)
 dU:=S.dU
 news:=λi p hi=>by
  rcases S.news i p hi with g|g
  ·exact R.news i p g
  ·exact .inr (abi R.size g)
 bA:=λi p hi=>S.bA i p (R.bA i p hi)
 bM:=λn x hz=>S.bM n x (R.bM n x hz)
 n0:=S.n0.trans R.n0
 cI:=R.cI
 ew:=λi ps hi=>(S.ew i ps hi).imp id λ⟨p,o,h1,h2,h3⟩=>⟨p,o,h1,h2,BR.mono (e:=e') (e':={e' with m:=e.m}) ⟨λ_ _ h=>h,λ_ _ h=>h,aaf _⟩ h3⟩
 gap:=λi g hi=>⟨(S.gap i g hi).1,(S.gap i g hi).2.le (λ_ _ h=>h) rfl ⟨λ_ _ h=>h,λ_ _ h=>h,aaf _⟩⟩
 yi:=S.yi
 yb:=λi n hi=>by
  rcases S.yb i n hi with g|g
  ·obtain ⟨i0,L,h1,rfl⟩:=gV.1 g
   exact R.yb i0 _ (R.gap i0 _ h1).2.1
  ·exact .inr (abi R.size g)
 old:=λn hn hno nI=>by
  have hlt:n<w.heap.size:=by have:=R.size;omega
  rw [S.old n hlt (λi p hi hp=>?_) (λhl=>?_)]
  ·exact R.old n hn hno nI
  ·rcases R.news i p hi with g|g
   ·exact hno i p g hp
   ·omega
  ·obtain ⟨i0,L,h1,rfl⟩:=gV.1 hl
   rcases R.yb i0 _ (R.gap i0 _ h1).2.1 with g|g
   ·exact nI g
   ·omega
 win:=λi p hi=>by
  obtain ⟨o,o',h1,h2,h3⟩:=R.win i p hi
  obtain ⟨x,x',g1,g2,g3⟩:=S.win i p (R.bA i p hi)
  have UG:w.heap[p.n]? =some x:=g1
  rw [h2] at UG;cases UG
  exact ⟨o,x',h1,g2,h3.trans g3⟩
 kr:=R.kr
 fO:=abi R.fO S.fO
 fc:=λr hr=>by
  have hm:=R.fc r hr
  refine ⟨?_,hm.2⟩
  rw [S.old r (aav.1 hm.1).1 (λi p hi hp=>?_) (λhl=>?_)]
  ·exact hm.1
  ·subst hp
   obtain ⟨c,t,h1,_⟩:=R.eA hi
   have h2:=hm.1
   rw [h1] at h2;cases h2
  ·obtain ⟨i0,L,h1,rfl⟩:=gV.1 hl
   obtain ⟨_,r,h2,_⟩:=(R.gap i0 _ h1).2
   have h3:=hm.1
   rw [h2] at h3;cases h3
 gJ:=R.gJ
def ql (t':List Value):ResultVar->Sem Value
 | .tmp i=>pure ((⟨t'⟩:Array Value).getD i undef)
 | .cell a ty=>do loadVar ty (<-asAddr ((⟨t'⟩:Array Value).getD a undef))
theorem n6 {t:List (Option SV)} {t':List Value} (hl:TR e t t') (R:Rel B e h w):∀(l:List ResultVar) (vs:List SV),iD P t h l=some (vs,true)->
  ∃vs',(l.mapM (ql t')).run P w= .ok vs' w/\LR e vs vs'
 | [],vs,g=>by simp [iD] at g;subst g;exact ⟨[],by simp,rfl⟩
 | .tmp i::l,vs,g=>by
  simp only [iD] at g
  split at g
  ·rename_i v us p hv hr
   simp only [No,aae] at g
   obtain ⟨rfl,rfl⟩:=g
   obtain ⟨vs',hvs,hl'⟩:=n6 hl R l us hr
   refine ⟨_,?_,_,_,aK (d:=[]) hl hv,hl',rfl⟩
   simp only [List.mapM_cons,ql,aaq,hvs,aax,aak,Act.eval]
  ·cases g
 | .cell a ty::l,vs,g=>by
  simp only [iD] at g
  split at g
  ·rename_i x hx
   split at g
   ·rename_i v q us p hv gj
    simp only [No,aae,aC] at g
    obtain ⟨rfl,rfl,rfl⟩:=g
    obtain ⟨vs',Kb,hl'⟩:=n6 hl R l us gj
    obtain ⟨ad,v',ha,hr,DB⟩:=qU (P:=P) R hv (aK (d:=[]) hl hx)
    have N9:(⟨t'⟩:Array Value).getD a undef= .pointer (some ad):=ha
    refine ⟨_,?_,_,_,DB,hl',rfl⟩
    simp only [List.mapM_cons,ql,aaq,N9,asAddr,aax,aak,hr,Kb]
   ·cases g
  ·cases g
theorem FX {vs:List SV} {vs':List Value} (h:LR e vs vs'):VR e (oneOf vs) (if g:(⟨vs'⟩:Array Value).size=1 then (⟨vs'⟩:Array Value)[0] else .tuple ⟨vs'⟩):=by
 match vs,h with
 | [],g=>rw [LR] at g;subst g;exact ⟨[],rfl,rfl⟩
 | [x],⟨y,zs,hy,hz,q⟩=>rw [LR] at hz;subst hz;subst q;simpa [oneOf] using hy
 |x::x'::xs,⟨y,zs,hy,hz,q⟩=>
  subst q
  have hlen:=hz.length
  have:¬(⟨y::zs⟩:Array Value).size=1:=by simp [List.size_toArray] at*;intro e;subst e;simp at hlen
  rw [dif_neg this]
  exact ⟨_,⟨y,zs,hy,hz,rfl⟩,rfl⟩
theorem va {t:List (Option SV)} {t':List Value} (hl:TR e t t') (R:Rel B e h w) {fn:Func} {vs:List SV} (g:iD P t h fn.results.toList=some (vs,true)):
  ∃v',(results fn ⟨t'⟩).run P w= .ok v' w/\VR e (oneOf vs) v':=by
 obtain ⟨vs',hv,hl'⟩:=n6 hl R fn.results.toList vs g
 refine ⟨_,?_,FX hl'⟩
 have hfun:results fn ⟨t'⟩=(do let vs <-fn.results.mapM (ql t');pure (if h:vs.size=1 then vs[0] else .tuple vs)):=by
  unfold results
  have:∀g:ResultVar->Sem Value,(∀x,g x=ql t' x)->g=ql t':=λg h=>funext h
  rw [this (λx=>_) (λx=>by cases x<;>rfl)]
 rw [hfun,Array.mapM_eq_mapM_toList]
 simp only [aaq,Sem.run_map,hv,aak]
 rfl
theorem TR.aD {args:List SV} {args':List Value} (h:LR e args args') (n:Nat):TR e (aD n args) (args'++List.replicate (n-args.length) undef):=by
 refine ⟨by simp [Sy.aD,h.length],λi v v' g g'=>?_⟩
 unfold Sy.aD at g
 rcases acf i args.length with h1|h1
 ·rw [aaR (by simpa using h1),aaO] at g
  rw [aaR (by rw [h.length];exact h1)] at g'
  obtain ⟨x,hx,q⟩:=aag.1 g
  cases q
  obtain ⟨y,hy,hv⟩:=h.get hx
  rw [g'] at hy;cases hy
  exact hv
 ·rw [aaV (by simpa using h1),List.getElem?_replicate] at g
  split at g<;>cases g
end
def p8 (m:List Nat):List Deferred:=m.map λr=>{target:=.collected r,args:=#[]}
def Tr (P:Program) (ro:Option Nat) (k:Nat) (c:Code) (s:St) (x:Exit) (s':St):Prop:=
 ∀(B:cP) (e:Env) (w:World) (t':List Value) (d:List Deferred) (Q:Exit->Act->World->Prop) (nn:Nat),B.k<=k->TR e s.t t'->Rel B e s.h w->
  (∀e' w' t'',TR e' s'.t t''->Rel B e' s'.h w'->Q x ⟨⟨t''⟩,p8 e'.m++d⟩ w')->c.wpIn (wF ro) nn P Q ⟨⟨t'⟩,p8 e.m++d⟩ w
def TrR (P:Program) (ro:Option Nat) (k:Nat) (b:Code) (s:St) (x:Exit) (s':St):Prop:=
 ∃m:Nat,∀(B:cP) (e:Env) (w:World) (t':List Value) (d:List Deferred) (Q:Exit->Act->World->Prop) (nn:Nat),B.k<=k->TR e s.t t'->Rel B e s.h w->
  (∀e' w' t'',TR e' s'.t t''->Rel B e' s'.h w'->Q x ⟨⟨t''⟩,p8 e'.m++d⟩ w')->Code.roundsIn (wF ro) nn P b Q m ⟨⟨t'⟩,p8 e.m++d⟩ w
section
variable {P:Program} {ro:Option Nat} {k:Nat}
theorem tc {F:Fence} {n:Nat} {Q:Exit->Act->World->Prop} {a:Act} {w:World} {c:Code} (h:c.wpIn F n P (λe a w=>(∀l,e≠.goto l)/\Q e a w) a w):(Code.scope c).wpIn F n P Q a w:=by
 intro b k cs hro hb hr
 have h0:(lone (b.atR a (.code (.scope c)::k)) cs w).fenced P F:=fenced_calm hb hr rfl
 have st:step P (lone (b.atR a (.code (.scope c)::k)) cs w)= .next (lone (b.atR a (.code c:: .inScope c::k)) cs w):=step_lone_go (by simp [stepG,stepG.exec,Frame.atR])
 obtain ⟨e,a₁,w₁,⟨hg,hq⟩,DC⟩:=h b (.inScope c::k) cs hro hb hr
 cases e with
 |normal=>exact ⟨.normal,a₁,w₁,hq,.head h0 st (StepsIn.trans DC (.one (fenced_calm hb hr rfl) (step_lone_go (by simp [stepG,stepG.exec,Frame.atR]))))⟩
 |exit id=>
  have hx:exitTo id (.inScope c::k)=exitTo id k:=by simp [exitTo]
  exact ⟨.exit id,a₁,w₁,hq,λk' hk=>.head h0 st (DC.1 k' (by rw [hx];exact hk)),λhr' hk=>let ⟨k₁,h1,h2⟩:=DC.2 hr' (by rw [hx];exact hk);⟨k₁,h1,.head h0 st h2⟩⟩
 |goto l=>exact absurd rfl (hg l)
 |ret=>exact ⟨_,a₁,w₁,hq,.of_steps (.one h0 st) DC⟩
 |panic ch=>exact ⟨_,a₁,w₁,hq,.of_steps (.one h0 st) DC⟩
 |outgrown=>exact ⟨_,a₁,w₁,hq,.of_steps (.one h0 st) DC⟩
theorem Tr.scope {b:Code} {s s':St} {x:Exit} (h:Tr P ro k b s x s') (hx:∀l,x≠.goto l):Tr P ro k (.scope b) s x s':=
 λB e w t' d Q nn hB hl R hQ=>tc (h B e w t' d _ nn hB hl R λe1 w1 t1 jn R1=>⟨hx,hQ e1 w1 t1 jn R1⟩)
theorem Tr.seq {a b:Code} {s s1 s':St} {x:Exit} (h1:Tr P ro k a s .normal s1) (h2:Tr P ro k b s1 x s'):Tr P ro k (.seq a b) s x s':=
 λB e w t' d Q nn hB hl R hQ=>wpIn_seq (h1 B e w t' d _ nn hB hl R λe1 w1 t1 jn R1=>h2 B e1 w1 t1 d Q nn hB jn R1 λe2 w2 t2 iI R2=>hQ e2 w2 t2 iI R2)
theorem Tr.j7 {a b:Code} {s s':St} {x:Exit} (h1:Tr P ro k a s x s') (hx:x≠.normal):Tr P ro k (.seq a b) s x s':=
 λB e w t' d Q nn hB hl R hQ=>wpIn_seq (h1 B e w t' d _ nn hB hl R λe1 w1 t1 jn R1=>by
  have:=hQ e1 w1 t1 jn R1
  cases x<;>first|exact absurd rfl hx|exact this)
theorem Tr.block {id:Nat} {b:Code} {s s':St} (h:Tr P ro k b s (.exit id) s'):Tr P ro k (.block id b) s .normal s':=
 λB e w t' d Q nn hB hl R hQ=>wpIn_block (h B e w t' d _ nn hB hl R λe1 w1 t1 jn R1=>by
  show (if id=id then Q .normal _ _ else _)
  rw [aaM rfl];exact hQ e1 w1 t1 jn R1)
theorem Tr.b8 {id:Nat} {b:Code} {s s':St} {x:Exit} (h:Tr P ro k b s x s') (hx:∀j,x≠.exit j):Tr P ro k (.block id b) s x s':=
 λB e w t' d Q nn hB hl R hQ=>wpIn_block (h B e w t' d _ nn hB hl R λe1 w1 t1 jn R1=>by
  have:=hQ e1 w1 t1 jn R1
  cases x<;>first|exact absurd rfl (hx _)|exact this)
theorem Tr.DD {id j:Nat} {b:Code} {s s':St} (h:Tr P ro k b s (.exit j) s') (hj:j≠id):Tr P ro k (.block id b) s (.exit j) s':=
 λB e w t' d Q nn hB hl R hQ=>wpIn_block (h B e w t' d _ nn hB hl R λe1 w1 t1 jn R1=>by
  show (if j=id then Q .normal _ _ else _)
  rw [aaC hj];exact hQ e1 w1 t1 jn R1)
theorem Tr.cond_true {c:Operand} {a b:Code} {s s':St} {x:Exit} (hc:ev s.t c=some (.bool true)) (h:Tr P ro k a s x s'):Tr P ro k (.cond c a b) s x s':=
 λB e w t' d Q nn hB hl R hQ=>wpIn_cond_true (aK hl hc) (h B e w t' d Q nn hB hl R hQ)
theorem Tr.cond_false {c:Operand} {a b:Code} {s s':St} {x:Exit} (hc:ev s.t c=some (.bool false)) (h:Tr P ro k b s x s'):Tr P ro k (.cond c a b) s x s':=
 λB e w t' d Q nn hB hl R hQ=>wpIn_cond_false (aK hl hc) (h B e w t' d Q nn hB hl R hQ)
theorem TrR.leave {b:Code} {s s':St} {x:Exit} (h:Tr P ro k b s x s') (hx:x≠.normal):TrR P ro k b s x s':=
 ⟨1,λB e w t' d Q nn hB hl R hQ=>by
  rw [roundsIn_succ]
  refine h B e w t' d _ nn hB hl R λe1 w1 t1 jn R1=>?_
  have:=hQ e1 w1 t1 jn R1
  cases x<;>first|exact absurd rfl hx|exact this⟩
theorem TrR.step {b:Code} {s s1 s':St} {x:Exit} (h:Tr P ro k b s .normal s1) (g:TrR P ro k b s1 x s'):TrR P ro k b s x s':=by
 obtain ⟨m,hm⟩:=g
 refine ⟨m+1,λB e w t' d Q nn hB hl R hQ=>?_⟩
 rw [roundsIn_succ]
 exact h B e w t' d _ nn hB hl R λe1 w1 t1 jn R1=>hm B e1 w1 t1 d Q nn hB jn R1 λe2 w2 t2 iI R2=>hQ e2 w2 t2 iI R2
theorem TrR.loop {b:Code} {s s':St} {x:Exit} (h:TrR P ro k b s x s'):Tr P ro k (.loop b) s x s':=by
 obtain ⟨m,hm⟩:=h
 exact λB e w t' d Q nn hB hl R hQ=>wpIn_loop_rounds m (hm B e w t' d Q nn hB hl R hQ)
theorem TrR.for {b:Code} {x:Exit} {s':St} (hx:x≠.normal) (f:Nat->St) (N:Nat) (hb:∀i,i<N->Tr P ro k b (f i) .normal (f (i+1))) (FY:Tr P ro k b (f N) x s'):TrR P ro k b (f 0) x s':=by
 have key:∀(m i:Nat),N=i+m->TrR P ro k b (f i) x s':=by
  intro m
  induction m with
  |zero=>intro i hN;obtain rfl:N=i:=by omega
         exact TrR.leave FY hx
  |succ m ih=>intro i hN;exact TrR.step (hb i (by omega)) (ih (i+1) (by omega))
 exact key N 0 (by omega)
theorem Rel.PZ {B:cP} {e:Env} {h:List Blk} {w:World} (R:Rel B e h w) {r:Nat} {m:List Nat} (hm:e.m=r::m):Rel B {e with m:=m} h (w.putObj r (.deferred none)):=by
 obtain ⟨hr,hrB⟩:=R.fc r (by rw [hm];simp)
 have cV:∀n,n≠r->(w.putObj r (.deferred none)).heap[n]? =w.heap[n]? :=λn hn=>World.putObj_heap_other hn
 have le:Env.Le e {e with m:=m}:=⟨λ_ _ h=>h,λ_ _ h=>h,aaf _⟩
 have n7:∀{n:Nat} {c:Array Value} {t:TypeId} {fr:Nat×Nat},w.heap[n]? =some (.cells c t fr)->(w.putObj r (.deferred none)).heap[n]? =some (.cells c t fr):=λ{n c t fr} h=>by
  rw [cV n (λq=>by subst q;rw [hr] at h;cases h)];exact h
 exact {
  os:=R.os,tape:=R.tape,output:=R.output
  size:=by rw [World.putObj_size];exact R.size
  inj:=R.inj,dom:=R.dom,sep:=R.sep
  eU:=λn c t fr hz=>n7 (R.eU n c t fr hz)
  bp:=R.bp,dU:=R.dU,news:=R.news,bA:=R.bA,bM:=R.bM,n0:=R.n0,cI:=R.cI
  ew:=λi ps hi=>(R.ew i ps hi).imp id λ⟨p,o,h1,h2,h3⟩=>by
   obtain ⟨c,t,rfl,h4,h5,h6⟩:=h3
   exact ⟨p,_,h1,n7 h2,c,t,rfl,h4,h5,h6.mono le⟩
  gap:=λi g hi=>⟨(R.gap i g hi).1,(R.gap i g hi).2.le (λn o hn=>by rw [cV n (λq=>by subst q;rw [hr] at hn;cases hn)];exact hn) rfl le⟩
  yi:=R.yi,yb:=R.yb
  old:=λn hn hno nI=>by rw [cV n (by omega)];exact R.old n hn hno nI
  win:=λi p hi=>by
   obtain ⟨o,o',h1,h2,h3⟩:=R.win i p hi
   obtain ⟨c,c',t,fr,rfl,rfl,h4⟩:=h3
   exact ⟨_,_,h1,n7 h2,c,c',t,fr,rfl,rfl,h4⟩
  kr:=R.kr,fO:=R.fO
  fc:=λq hq=>by
   have s3:=R.gJ
   rw [hm,List.nodup_cons] at s3
   refine ⟨?_,(R.fc q (by rw [hm];simp [hq])).2⟩
   rw [cV q (λx=>by subst x;exact s3.1 hq)]
   exact (R.fc q (by rw [hm];simp [hq])).1
  gJ:=by have s3:=R.gJ;rw [hm,List.nodup_cons] at s3;exact s3.2}
theorem o9 {fn:Func} {t:List (Option SV)} {h:List Blk} {vs:List SV} (hr:iD P t h fn.results.toList=some (vs,true)) {B:cP} {t'':List Value} {K:Ending->World->Prop}:∀(m:List Nat) (e:Env) (w:World),e.m=m->TR e t t''->Rel B e h w->
  (∀v' e' w',VR e' (oneOf vs) v'->Rel B e' h w'->K (.returned v') w')->LeavesInM (wF none) 0 P fn ⟨t''⟩ K (p8 m++[]) .returning w
 | [],e,w,_,hl,R,hK=>by
  obtain ⟨v',hv,DB⟩:=va hl R hr
  exact ⟨v',hv,hK v' e w DB R⟩
 |r::m,e,w,hm,hl,R,hK=>by
  have Oh:=(R.fc r (by rw [hm];simp)).1
  refine ⟨by simp,.inl ⟨r,_,rfl,run_takeDeferred Oh,?_⟩⟩
  exact o9 hr m {e with m:=m} _ rfl (TR.mono (e:=e) (e':={e with m:=m}) ⟨λ_ _ h=>h,λ_ _ h=>h,aaf _⟩ hl) (R.PZ hm) hK
theorem pg {f:FuncId} {fn:Func} (hf:P.funcs[f]? =some fn) {c:Code} (hb:fn.body=some c) {args:List SV} {h:List Blk} {x:Exit} {s:St} {vs:List SV} (hx:x= .ret\/x= .normal) {kk:Nat}
  (ht:Tr P none kk c ⟨aD fn.ntmps args,h,true⟩ x s) (hr:iD P s.t s.h fn.results.toList=some (vs,true)) {B:cP} {e:Env} {w:World} {args':List Value} (hB:h.length<=kk) (hl:LR e args args') (R:Rel B e h w):
  Calls P f ⟨args'⟩ w λen w'=>∃v',en= .returned v'/\∃e',VR e' (oneOf vs) v'/\Rel (e7 e h w) e' s.h w':=by
 refine n4.1 (callsIn_of_wp_marks (F:=wF none) (n:=0) hf hb trivial ?_)
 have hlen:=hl.length
 have htm:((⟨args'⟩:Array Value)++Array.replicate (fn.ntmps-(⟨args'⟩:Array Value).size) undef)=⟨args'++List.replicate (fn.ntmps-args.length) undef⟩:=by
  apply adV
  simp [hlen]
 rw [htm]
 have key:=ht (e7 e h w) (e.bare h) w (args'++List.replicate (fn.ntmps-args.length) undef) [] (bodyPostM (wF none) 0 P fn λen w'=>∃v',en= .returned v'/\∃e',VR e' (oneOf vs) v'/\Rel (e7 e h w) e' s.h w') 0 hB (TR.aD (hl.mono (jE e h)) fn.ntmps) R.self
 refine key λe' w' t'' hl' R'=>?_
 have fin:=o9 (fn:=fn) (K:=λen w'=>∃v',en= .returned v'/\∃e',VR e' (oneOf vs) v'/\Rel (e7 e h w) e' s.h w') hr e'.m e' w' rfl hl' R' λv' e2 w2 hv R2=>⟨v',rfl,e2,hv,R2⟩
 rcases hx with rfl|rfl
 ·exact fin
 ·exact fin
theorem yM {f:FuncId} {fn:Func} (hf:P.funcs[f]? =some fn) {c:Code} (hb:fn.body=some c) {args:List SV} {h:List Blk} {x:Exit} {s:St} {vs:List SV} (hx:x= .ret\/x= .normal) {kk:Nat}
  (ht:Tr P none kk c ⟨aD fn.ntmps args,h,true⟩ x s) (hr:iD P s.t s.h fn.results.toList=some (vs,true)) {B:cP} {e:Env} {w:World} {args':List Value} (hB:h.length<=kk) (hl:LR e args args') (R:Rel B e h w):
  Calls P f ⟨args'⟩ w λen w'=>∃v',en= .returned v'/\∃e',e'.m=e.m/\VR e' (oneOf vs) v'/\Rel B e' s.h w':=by
 refine (pg hf hb hx ht hr hB hl R).mono ?_
 rintro en w' ⟨v',rfl,e',hv,S⟩
 exact ⟨v',rfl,{e' with m:=e.m},rfl,VR.mono (e:=e') (e':={e' with m:=e.m}) ⟨λ_ _ h=>h,λ_ _ h=>h,aaf _⟩ hv,R.trans S⟩
theorem eK {f:FuncId} {fn:Func} (hf:P.funcs[f]? =some fn) (hn:fn.name≠"runtime.NumGoroutine") (hb:fn.body≠none) (args:Array Value) (w:World):(callFunc f args).run P w= .ok (.enter f args) w:=by
 cases hq:fn.body with
 |none=>exact absurd hq hb
 |some c=>simp [callFunc,hf,hn,hq]
theorem dz {Γ:bO}:∀(n k:Nat) (c:Code) (s s':St) (x:Exit),exec P Γ n k c s=some (x,s')->s'.ob=true->s.ob=true
 |0,_,_,_,_,_,e,_=>by simp [exec] at e
 |n+1,k,c,s,s',x,e,h=>by
  cases c<;>simp only [exec] at e
  case skip=>cases e;exact h
  case label=>cases e;exact h
  case exit=>cases e;exact h
  case ret=>cases e;exact h
  case seq a b=>
   split at e
   ·rename_i s1 h1;exact dz n k a s s1 _ h1 (dz n k b s1 s' x e h)
   ·exact dz n k a s s' x e h
  case cond c a b=>
   split at e
   ·exact dz n k a s s' x e h
   ·exact dz n k b s s' x e h
   ·cases e
  case block id b=>
   split at e
   ·rename_i j s1 h1
    split at e<;>(cases e;exact dz n k b s _ _ h1 h)
   ·exact dz n k b s s' x e h
  case loop b=>
   split at e
   ·rename_i s1 h1;exact dz n k b s s1 _ h1 (dz n k _ s1 s' x e h)
   ·exact dz n k b s s' x e h
  case scope b=>
   split at e
   ·cases e
   ·exact dz n k b s s' x e h
  case region id ops draw=>
   split at e
   ·split at e
    ·rename_i s1 fs hm h1
     split at e
     case h_2=>cases e
     cases e
     exact B3 _ ⟨s.t,s.h++List.replicate (makes Γ.nb ops.toList) .gap,s.ob⟩ _ _ h1 h
    ·cases e
   ·obtain ⟨s1,h1,h2⟩:=aag.1 e
    cases h2
    exact j0 _ _ _ h1 h
  all_goals cases e
theorem AI {Γ:bO} (hΓ:ak P Γ) (ex:Nat->Code->St->Option (Exit×St)):j4 Γ.pf (dH P Γ ex):=by
 refine ⟨λf hf vs h j v h' new p g=>?_,λf hf vs h j v h' new p g=>?_⟩
 ·simp only [dH] at g ⊢
  cases hi:Γ.inl f with
  |some fn=>have:=(hΓ.inl f fn hi).2.2;omega
  |none=>rw [hi] at g;exact hΓ.pure.1 f hf vs h j v h' new p g
 ·simp only [dH] at g ⊢
  cases hi:Γ.inl f with
  |some fn=>have:=(hΓ.inl f fn hi).2.2;omega
  |none=>rw [hi] at g;exact hΓ.pure.2 f hf vs h j v h' new p g
theorem AJ {h h1:List Blk} {j:Nat} (hle:h.length<=h1.length) (hc:(Nat.beq (h1.length-h.length) 0||Nat.beq j h.length)=true):bI (h1.take h.length) j (h1.drop h.length)=h1:=by
 simp only [adS] at hc
 unfold bI
 have hlt:(h1.take h.length).length=h.length:=by simp;omega
 rcases hc with hc|hc
 ·have:=aaA hc
  have hd:h1.drop h.length=[]:=adB (by omega)
  rw [hd]
  split
  ·rw [aaz,aao (by omega)]
  ·simp only [bV];rw [aao (by omega)]
 ·have:=aaA hc
  rw [aaM (by rw [hlt];exact this),abr]
theorem td {B:cP} {e e':Env} {h h1:List Blk} {w w':World} {j:Nat} {u:SV} {v':Value} (R:Rel B e h w) (S:Rel (e7 e h w) e' h1 w') (hv:VR e' u v') (hc:(Nat.beq (h1.length-h.length) 0||Nat.beq j h.length)=true):
  ∃e2,VR e2 u v'/\Rel B e2 (bI (h1.take h.length) j (h1.drop h.length)) w'/\bW e e2 none:=by
 have T:=R.trans S
 refine ⟨{e' with m:=e.m},VR.mono (e:=e') (e':={e' with m:=e.m}) ⟨λ_ _ h=>h,λ_ _ h=>h,aaf _⟩ hv,?_,⟨λi p _ hi=>S.bA i p hi,λn x hz=>S.bM n x hz,by show e'.n0<=e.n0;rw [S.n0];exact aaf _,rfl⟩⟩
 rw [AJ S.fO hc]
 exact T
theorem Rel.wY {B:cP} {e:Env} {h:List Blk} {w:World} (R:Rel B e h w) {i:Nat} {L:Lp} (hi:h[i]? =some (.g (some L))) {r:Loop} (hr:w.heap[L.l]? =some (.loop r)) (st:LoopState) (iQ:Option Code):
  Rel B e (h.set i (.g (some {L with st:=st,iQ:=iQ}))) (w.putObj L.l (.loop {r with state:=st,pending:=iQ})):=by
 have Ko:=(aal.1 hi).1
 have cV:∀n,n≠L.l->(w.putObj L.l (.loop {r with state:=st,pending:=iQ})).heap[n]? =w.heap[n]? :=λn hn=>World.putObj_heap_other hn
 have BM:(w.putObj L.l (.loop {r with state:=st,pending:=iQ})).heap[L.l]? =some (.loop {r with state:=st,pending:=iQ}):=World.putObj_heap_same (aav.1 hr).1
 have n7:∀{n:Nat} {c:Array Value} {t:TypeId} {fr:Nat×Nat},w.heap[n]? =some (.cells c t fr)->(w.putObj L.l (.loop {r with state:=st,pending:=iQ})).heap[n]? =some (.cells c t fr):=λ{n c t fr} h=>by
  rw [cV n (λq=>by subst q;rw [hr] at h;cases h)];exact h
 obtain ⟨hn,hy,r0,h0,h1,h2,h3,h4,h5,h6⟩:=R.gap i _ hi
 rw [hr] at h0;cases h0
 exact {
  os:=R.os,tape:=R.tape,output:=R.output
  size:=by rw [World.putObj_size];exact R.size
  inj:=R.inj,dom:=λi p hi=>by simpa using R.dom i p hi,sep:=R.sep
  eU:=λn c t fr hz=>n7 (R.eU n c t fr hz)
  bp:=R.bp,dU:=R.dU,news:=R.news,bA:=R.bA,bM:=R.bM,n0:=R.n0,cI:=R.cI
  ew:=λj ps hj=>by
   by_cases hij:i=j
   ·subst hij;rw [aay Ko] at hj;cases hj
   ·rw [aau hij] at hj
    refine (R.ew j ps hj).imp id λ⟨p,o,h1,h2,h3⟩=>?_
    obtain ⟨c,t,rfl,h4,h5,h6⟩:=h3
    exact ⟨p,_,h1,n7 h2,c,t,rfl,h4,h5,h6⟩
  gap:=λj g hj=>by
   by_cases hij:i=j
   ·subst hij
    rw [aay Ko] at hj;cases hj
    exact ⟨hn,hy,_,BM,h1,h2,h3,rfl,rfl,h6⟩
   ·rw [aau hij] at hj
    refine ⟨(R.gap j g hj).1,?_⟩
    have hg:=(R.gap j g hj).2
    cases g with
    |none=>trivial
    |some M=>
     obtain ⟨q1,r1,q2,q3⟩:=hg
     refine ⟨q1,r1,?_,q3⟩
     rw [cV M.l (λx=>hij (R.yi i j L.l hy (by rw [q1,x])))];exact q2
  yi:=R.yi,yb:=R.yb
  old:=λn hlt hno nI=>by
   rw [cV n (λq=>?_)]
   ·exact R.old n hlt hno nI
   ·subst q
    rcases R.yb i _ hy with g|g
    ·exact nI g
    ·omega
  win:=λi p hi=>by
   obtain ⟨o,o',h1,h2,h3⟩:=R.win i p hi
   obtain ⟨c,c',t,fr,rfl,rfl,h4⟩:=h3
   exact ⟨_,_,h1,n7 h2,c,c',t,fr,rfl,rfl,h4⟩
  kr:=R.kr,fO:=by simpa using R.fO
  fc:=λq hq=>by
   refine ⟨?_,(R.fc q hq).2⟩
   rw [cV q (λx=>by subst x;have:=(R.fc _ hq).1;rw [hr] at this;cases this)]
   exact (R.fc q hq).1
  gJ:=R.gJ}
theorem tf:∀{h:List Blk} {i j:Nat} {L:Lp},sK h j=some (i,L)->j<=i/\h[i-j]? =some (.g (some L))/\L.st= .ready
 | [],i,j,L,g=>by simp [sK] at g
 |b::bs,i,j,L,g=>by
  simp only [sK] at g
  split at g
  ·rename_i q hq
   cases g
   obtain ⟨h1,h2,h3⟩:=tf hq
   exact ⟨by omega,by rw [show i-j=(i-(j+1))+1 by omega,acD];exact h2,h3⟩
  ·split at g
   ·rename_i L'
    split at g
    ·rename_i hst
     cases g
     exact ⟨aaf _,by rw [Nat.sub_self];rfl,hst⟩
    ·cases g
   ·cases g
theorem qX {e:Env}:∀(ps:List Tmp) (vs:List SV) (t:List (Option SV)) (t' ys:List Value),TR e t t'->LR e vs ys->ps.length=vs.length->
  TR e (ym t ps vs) ((ps.zip ys).foldl (λ(tm:Array Value) (q:Tmp×Value)=>tm.setIfInBounds q.1 q.2) ⟨t'⟩).toList
 | [],vs,t,t',ys,h,_,_=>by cases vs<;>simpa [ym] using h
 |i::is,[],t,t',ys,h,_,hl=>by simp at hl
 |i::is,v::vs,t,t',ys,h,⟨y,zs,h1,h2,q⟩,hl=>by
  subst q
  simp only [ym,List.zip_cons_cons,List.foldl_cons]
  have:=qX is vs (t.set i (some v)) (t'.set i y) zs (h.set h1 i) h2 (by simpa using hl)
  have hq:(⟨t'⟩:Array Value).setIfInBounds i y=⟨t'.set i y⟩:=by simp
  rw [hq];exact this
theorem mw {Γ:bO} (hΓ:ak P Γ) {n:Nat} (hex:∀(ro:Option Nat) (k:Nat) (c:Code) (s s':St) (x:Exit),exec P Γ n k c s=some (x,s')->s'.ob=true->Tr P ro k c s x s'):mj P (dH P Γ λk=>exec P Γ n k):=by
 intro f vs h j v h' new g B e w args hl R hj
 cases f with
 |func f=>
  simp only [dH] at g
  cases hi:Γ.inl f with
  |none=>rw [hi] at g;exact hΓ.calls f vs h j v h' new g B e w args hl R hj
  |some fn=>
   obtain ⟨hf,hn,_⟩:=hΓ.inl f fn hi
   rw [hi] at g
   simp only at g
   split at g
   ·rename_i u h1 p j8
    split at g
    ·rename_i hc
     simp only [No,aae] at g
     obtain ⟨rfl,rfl,rfl,rfl⟩:=g
     unfold BL at j8
     cases hb:fn.body with
     |none=>rw [hb] at j8;cases j8
     |some c=>
      rw [hb] at j8
      simp only at j8
      have key:∀(x:Exit) (s:St),(x= .ret\/x= .normal)->exec P Γ n h.length c ⟨aD fn.ntmps vs,h,true⟩=some (x,s)->((iD P s.t s.h fn.results.toList).map λq=>(oneOf q.1,s.h,aa s.ob q.2))=some (u,h1,true)->
        mh P (.func f) ⟨args⟩ w λv' w'=>∃e',VR e' u v'/\Rel B e' (bI (h1.take h.length) j (h1.drop h.length)) w'/\bW e e' none:=λx s hx hs hr=>by
       obtain ⟨⟨rs,q⟩,hres,h2⟩:=aag.1 hr
       simp only [aae,aC] at h2
       obtain ⟨rfl,rfl,cA,rfl⟩:=h2
       refine .inr ⟨eK hf hn (by rw [hb];simp) _ w,?_⟩
       refine (pg hf hb hx (hex none _ c _ s x hs cA) hres (aaf _) hl R).mono ?_
       rintro en w' ⟨v',rfl,e',hv,S⟩
       exact ⟨v',rfl,td R S hv hc⟩
      split at j8
      ·rename_i s hs;exact key _ s (.inl rfl) hs j8
      ·rename_i s hs;exact key _ s (.inr rfl) hs j8
      ·cases j8
    ·cases g
   ·cases g
 |yield l=>
  simp only [dH] at g
  split at g
  ·rename_i u h1 p hy
   simp only [No,aae] at g
   obtain ⟨rfl,rfl,rfl,rfl⟩:=g
   exact (hΓ.wV l vs h u h1 hy B e w args hl R).mono λv' w' ⟨e',h1,h2,h3⟩=>⟨e',h1,by rw [bz];exact h2,h3⟩
  split at g
  ·rename_i u h1 p hy
   split at g
   ·rename_i hc
    simp only [No,aae] at g
    obtain ⟨rfl,rfl,rfl,rfl⟩:=g
    unfold Fy at hy
    split at hy
    ·cases hy
    ·rename_i i L hL
     obtain ⟨_,UN,hst⟩:=tf hL
     rw [Nat.sub_zero] at UN
     split at hy
     ·rename_i s1 hps Vu
      split at hy
      ·cases hy
      ·rename_i L1 Vv
       have Vv:=o8 Vv
       split at hy
       ·rename_i x s2 abc hbody
        split at hy
        ·rename_i q L2 hq UO
         have UO:=o8 UO
         simp only [No,aae,aC,aab] at hy
         obtain ⟨rfl,rfl,Vw,iI⟩:=hy
         have FZ:=dz n _ _ _ _ _ hbody Vw
         simp only [aC,aab] at FZ
         obtain ⟨FZ,jn⟩:=FZ
         have An:L.l=l:=by have:=dz n _ _ _ _ _ Vu FZ;simpa using this
         have S0:=R.self
         obtain ⟨_,_,r,hr,hp,ha,hbd,_,_,hTR⟩:=S0.gap i _ UN
         rw [An] at hr
         have Di:=aaA hps
         have hargs:(⟨args⟩:Array Value).size=r.params.size:=by rw [hp,Di];exact hl.length
         refine ⟨r.fn,_,r.assign,r.body,run_yield hr hargs,λro nn=>?_⟩
         refine roundIn_of_wpIn (F:=wF ro) trivial ?_
         have htm:((r.params.zip ⟨args⟩).foldl (λtmps (t,a)=>tmps.setIfInBounds t a) r.tmps)=⟨((L.ps.toList.zip args).foldl (λ(tm:Array Value) (q:Tmp×Value)=>tm.setIfInBounds q.1 q.2) ⟨r.tmps.toList⟩).toList⟩:=by
          rw [hp]
          apply adV
          rw [<-Array.foldl_toList]
          simp
         rw [htm,ha,hbd]
         have abd:=qX L.ps.toList vs L.t r.tmps.toList args hTR (hl.mono (jE e h)) (by simpa using Di)
         refine hex (some l) _ _ _ _ _ Vu FZ (e7 e h w) (e.bare h) w _ [] _ nn (aaf _) abd S0 λe1 w1 t1 abe S1=>?_
         obtain ⟨_,hy1,r1,Oh,hp1,ha1,agU,Vx,_,agV⟩:=S1.gap i _ Vv
         rw [jn] at Oh
         refine ⟨_,run_beginRound Oh (by rw [Vx,abc]),?_⟩
         have Oi:r1.pending=L1.iQ:=by obtain ⟨_,_,r1',Vy,_,_,_,_,h9,_⟩:=S1.gap i _ Vv;rw [jn,Oh] at Vy;cases Vy;exact h9
         have S1':Rel (e7 e h w) e1 (s1.h.set i (.g (some {L1 with st:=.busy}))) (w1.putObj l (.loop {r1 with state:=.busy})):=by
          have:=S1.wY Vv (r:=r1) (by rw [jn];exact Oh) .busy L1.iQ
          rw [<-Oi] at this
          rw [jn] at this
          have rG:({L1 with st:=.busy}:Lp)={l:=l,t:=L1.t,ps:=L1.ps,sw:=L1.sw,body:=L1.body,st:=.busy,iQ:=r1.pending}:=by rw [Oi, <-jn]
          rw [rG];exact this
         refine hex (some l) _ _ _ _ _ hbody Vw (e7 e h w) e1 _ t1 [] _ nn (aaf _) abe S1' λe2 w2 t2 agX S2=>?_
         obtain ⟨_,Z9,r2,Kq,_,_,_,_,_,_⟩:=S2.gap i _ UO
         rw [iI] at Kq
         have S3:=S2.wY UO (r:=r2) (by rw [iI];exact Kq) (if q.isNone then .ready else .done) q
         have fin:∃v w4,(Instr.endRound l q).run P w2= .ok v w4/\∃v',Ending.returned v= .returned v'/\∃e',VR e' (.bool q.isNone) v'/\Rel B e' (bI ((s2.h.set i (.g (some {L2 with st:=if q.isNone then .ready else .done,iQ:=q}))).take h.length) j ((s2.h.set i (.g (some {L2 with st:=if q.isNone then .ready else .done,iQ:=q}))).drop h.length)) w4/\bW e e' none:=by
          refine ⟨_,_,run_endRound q Kq,_,rfl,?_⟩
          rw [iI] at S3
          have S3':Rel (e7 e h w) e2 (s2.h.set i (.g (some {L2 with st:=if q.isNone then .ready else .done,iQ:=q}))) (w2.putObj l (.loop {r2 with state:=if q.isNone then .ready else .done,pending:=q})):=by
           have rG:({L2 with st:=if q.isNone then .ready else .done,iQ:=q}:Lp)={l:=l,t:=L2.t,ps:=L2.ps,sw:=L2.sw,body:=L2.body,st:=if q.isNone then .ready else .done,iQ:=q}:=by rw [<-iI]
           rw [rG];exact S3
          exact td R S3' (v':=.bool q.isNone) rfl hc
         cases x<;>simp only [wH,No,reduceCtorEq] at hq<;>subst hq<;>exact fin
        ·cases hy
       ·cases hy
     ·cases hy
   ·cases g
  ·cases g
 |_=>cases g
theorem kX {Γ:bO} (hΓ:ak P Γ):∀(n:Nat) (ro:Option Nat) (k:Nat),
  (∀(c:Code) (s s':St) (x:Exit),exec P Γ n k c s=some (x,s')->s'.ob=true->Tr P ro k c s x s')/\
  (∀(c:Code) (s s':St) (x:Exit),exec P Γ n k (.loop c) s=some (x,s')->s'.ob=true->TrR P ro k c s x s'):=by
 intro n
 induction n with
 |zero=>exact λro k=>⟨λ_ _ _ _ e=>by simp [exec] at e,λ_ _ _ _ e=>by simp [exec] at e⟩
 |succ n ih=>
  intro ro k
  obtain ⟨F0,ihB⟩:=ih ro k
  have hG:=mw hΓ λro k c s s' x=>(ih ro k).1 c s s' x
  have hP:=AI hΓ λk=>exec P Γ n k
  have hB:∀(c:Code) (s s':St) (x:Exit),exec P Γ (n+1) k (.loop c) s=some (x,s')->s'.ob=true->TrR P ro k c s x s':=by
   intro c s s' x e cA
   simp only [exec] at e
   split at e
   ·rename_i s1 h1
    exact TrR.step (F0 c s s1 .normal h1 (dz n k _ s1 s' x e cA)) (ihB c s1 s' x e cA)
   ·rename_i hne
    have hx:x≠.normal:=λq=>by subst q;exact hne s' e
    exact TrR.leave (F0 c s s' x e cA) hx
  refine ⟨?_,hB⟩
  intro c s s' x e cA
  cases c
  case loop b=>exact TrR.loop (hB b s s' x e cA)
  all_goals simp only [exec] at e
  case skip=>cases e;exact λB e w t' d Q nn hB hl R hQ=>wpIn_skip (hQ e w t' hl R)
  case label=>cases e;exact λB e w t' d Q nn hB hl R hQ=>wpIn_label (hQ e w t' hl R)
  case exit=>cases e;exact λB e w t' d Q nn hB hl R hQ=>wpIn_exit (hQ e w t' hl R)
  case ret=>cases e;exact λB e w t' d Q nn hB hl R hQ=>wpIn_ret (hQ e w t' hl R)
  case seq a b=>
   split at e
   ·rename_i s1 h1
    exact Tr.seq (F0 a s s1 .normal h1 (dz n k _ s1 s' x e cA)) (F0 b s1 s' x e cA)
   ·rename_i hne
    have hx:x≠.normal:=λq=>by subst q;exact hne s' e
    exact Tr.j7 (F0 a s s' x e cA) hx
  case cond c a b=>
   split at e
   ·rename_i PM;exact Tr.cond_true PM (F0 a s s' x e cA)
   ·rename_i PM;exact Tr.cond_false PM (F0 b s s' x e cA)
   ·cases e
  case block id b=>
   split at e
   ·rename_i j s1 h1
    split at e
    ·rename_i hj
     cases e
     subst hj
     exact Tr.block (F0 b s s' _ h1 cA)
    ·rename_i hj
     cases e
     exact Tr.DD (F0 b s s' _ h1 cA) hj
   ·rename_i hne
    exact Tr.b8 (F0 b s s' x e cA) λj q=>by subst q;exact hne j s' e
  case scope b=>
   split at e
   ·cases e
   ·rename_i hne
    exact Tr.scope (F0 b s s' x e cA) λl q=>by subst q;exact hne l s' e
  case region id ops draw=>
   split at e
   ·split at e
    ·rename_i s1 fs hm h1
     split at e
     case h_2=>cases e
     rename_i hd
     cases e
     exact λB e w t' d Q nn hB hl R hQ=>o7 hG hP hm hd h1 cA (λi p hi=>Nat.lt_of_lt_of_le (R.kr i p hi) hB) hl R (λe' w' t'' hm hl' R'=>by rw [<-hm];exact hQ e' w' t'' hl' R') id
    ·cases e
   ·obtain ⟨s1,h1,h2⟩:=aag.1 e
    cases h2
    exact λB e w t' d Q nn hB hl R hQ=>wpIn_region (kW hG _ _ _ h1 cA (λi p hi=>Nat.lt_of_lt_of_le (R.kr i p hi) hB) hl R (λe' w' t'' hm hl' R'=>by rw [<-hm];exact hQ e' w' t'' hl' R'))
  all_goals cases e
theorem Tr.exec {Γ:bO} (hΓ:ak P Γ) {n:Nat} {c:Code} {s s':St} {x:Exit} (e:exec P Γ n k c s=some (x,s')) (cA:s'.ob=true):Tr P ro k c s x s':=(kX hΓ n ro k).1 c s s' x e cA
end
end Go.Sy
namespace Go.Sy
open Go
def ai (P:Program) (f:FuncId) (args:List SV) (h:List Blk) (v:SV) (h':List Blk):Prop:=
 ∀(B:cP) (e:Env) (w:World) (args':List Value),B.k<=h.length->LR e args args'->Rel B e h w->
  Calls P f ⟨args'⟩ w λen w'=>∃v',en= .returned v'/\∃e',e'.m=e.m/\VR e' v v'/\Rel B e' h' w'
section
variable {P:Program}
theorem ai.F1 {f:FuncId} {fn:Func} (hf:P.funcs[f]? =some fn) {c:Code} (hb:fn.body=some c) {args:List SV} {h:List Blk} {x:Exit} {s:St} {vs:List SV} (hx:x= .ret\/x= .normal)
  (ht:Tr P none h.length c ⟨aD fn.ntmps args,h,true⟩ x s) (hr:iD P s.t s.h fn.results.toList=some (vs,true)):ai P f args h (oneOf vs) s.h:=
 λ_ _ _ _ _ hl R=>yM hf hb hx ht hr (aaf _) hl R
theorem ai.bg {Γ:bO} (hΓ:ak P Γ) {f:FuncId} {fn:Func} (hf:P.funcs[f]? =some fn) {n:Nat} {args:List SV} {h h':List Blk} {v:SV} (g:aG P Γ n fn args h=some (v,h',true)):ai P f args h v h':=by
 unfold aG BL at g
 cases hb:fn.body with
 |none=>rw [hb] at g;cases g
 |some c=>
  rw [hb] at g
  simp only at g
  split at g
  all_goals (try (cases g;done))
  all_goals
   rename_i s hs
   obtain ⟨⟨vs,p⟩,hr,q⟩:=aag.1 g
   simp only [aae,aC] at q
   obtain ⟨rfl,rfl,cA,rfl⟩:=q
   exact ai.F1 hf hb (by simp) (Tr.exec hΓ hs cA) hr
mutual
def cC (l:List Nat):SV->Bool
 | .ptr b _ _=>l.contains b
 | .sl b _ _ _ _ _ _ _=>l.contains b
 | .agg ps=>dY l ps
 | .bC vs=>dY l vs
 | .iface _ x=>cC l x
 | .fn _ a b=>dY l a&&dY l b
 | .bK b _ _ _ _=>l.contains b
 | .dm b _ _ _ _=>l.contains b
 | .qQ b=>l.contains b
 |_=>true
def dY (l:List Nat):List SV->Bool
 | []=>true
 |x::xs=>cC l x&&dY l xs
end
mutual
theorem gW {l:List Nat}:∀{v:SV} {j:Nat},cC l v=true->uses j v=true->j∈l
 | .ptr b _ _,j,h,g=>by simp [cC] at h;simp [uses] at g;subst g;exact h
 | .sl b _ _ _ _ _ _ _,j,h,g=>by simp [cC] at h;simp [uses] at g;subst g;exact h
 | .agg ps,j,h,g=>dJ (by simpa [cC] using h) (by simpa [uses] using g)
 | .bC ps,j,h,g=>dJ (by simpa [cC] using h) (by simpa [uses] using g)
 | .iface _ x,j,h,g=>gW (v:=x) (by simpa [cC] using h) (by simpa [uses] using g)
 | .fn _ a b,j,h,g=>by
  simp only [cC,aac] at h
  simp only [uses,adS] at g
  rcases g with g|g
  ·exact dJ h.1 g
  ·exact dJ h.2 g
 | .bool _,_,_,g=>by simp [uses] at g
 | .int _ _,_,_,g=>by simp [uses] at g
 | .str _,_,_,g=>by simp [uses] at g
 | .nl _,_,_,g=>by simp [uses] at g
 | .ints _ _ _,_,_,g=>by simp [uses] at g
 | .ro _ _ _,_,_,g=>by simp [uses] at g
 | .gf _ _,_,_,g=>by simp [uses] at g
 | .aJ _ _ _ _,_,_,g=>by simp [uses] at g
 | .oF _ _ _,_,_,g=>by simp [uses] at g
 | .rE _ _ _,_,_,g=>by simp [uses] at g
 | .lX _ _ _ _ _ _ _,_,_,g=>by simp [uses] at g
 | .rows _ _ _,_,_,g=>by simp [uses] at g
 | .bK b _ _ _ _,j,h,g=>by simp [cC] at h;simp [uses] at g;subst g;exact h
 | .dm b _ _ _ _,j,h,g=>by simp [cC] at h;simp [uses] at g;subst g;exact h
 | .qQ b,j,h,g=>by simp [cC] at h;simp [uses] at g;subst g;exact h
 | .dU _ _,_,_,g=>by simp [uses] at g
theorem dJ {l:List Nat}:∀{vs:List SV} {j:Nat},dY l vs=true->c6 j vs=true->j∈l
 | [],_,_,g=>by simp [c6] at g
 |x::xs,j,h,g=>by
  simp only [dY,aac] at h
  simp only [c6,adS] at g
  rcases g with g|g
  ·exact gW h.1 g
  ·exact dJ h.2 g
end
def lI (h:List Blk):List Nat->Option (List (List SV))
 | []=>some []
 |i::is=>match h[i]?,lI h is with
  |some (.b ps),some l=>some (ps::l)
  |_,_=>none
theorem j9 {h:List Blk}:∀{is:List Nat} {l:List (List SV)},lI h is=some l->l.length=is.length/\∀(j i:Nat),is[j]? =some i->∃ps,l[j]? =some ps/\h[i]? =some (.b ps)
 | [],l,g=>by simp only [lI,No] at g;subst g;exact ⟨rfl,λj i hj=>by simp at hj⟩
 |i::is,l,g=>by
  simp only [lI] at g
  split at g
  ·rename_i ps l' h1 h2
   cases g
   obtain ⟨h3,h4⟩:=j9 h2
   refine ⟨by simp [h3],λj a hj=>?_⟩
   cases j with
   |zero=>simp at hj;subst hj;exact ⟨ps,rfl,h1⟩
   |succ j=>simp at hj;obtain ⟨qs,h5,h6⟩:=h4 j a hj;exact ⟨qs,by simpa using h5,h6⟩
  ·cases g
def P0 (is:List Nat) (v:SV) (h:List Blk):Option (SV×List Blk):=match lI h is with
 |some l=>if cC is v&&l.all (dY is)&&decide is.Nodup then some (jm (λb=>is.idxOf b) v,l.map λps=>.b (fM (λb=>is.idxOf b) ps)) else none
 |none=>none
theorem b9 (s:Nat->Nat):∀ps:List SV,av (fM s ps)=av ps
 | []=>rfl
 |x::xs=>by
  simp only [fM,av,b9 s xs]
  cases x<;>rfl
theorem ai.yN {f:FuncId} {args:List SV} {v u:SV} {h1 new:List Blk} (is:List Nat) (g:ai P f args [] v h1) (hs:P0 is v h1=some (u,new)):ai P f args [] u new:=by
 unfold P0 at hs
 split at hs
 ·rename_i l hl
  split at hs
  ·rename_i hc
   simp only [aac,aab,aah] at hc
   obtain ⟨⟨hv,hall⟩,s3⟩:=hc
   cases hs
   obtain ⟨hlen,yO⟩:=j9 hl
   intro B e w args' hB hl' R
   refine (g B e w args' hB hl' R).mono ?_
   rintro en w' ⟨v',rfl,e',hm,DB,S⟩
   have Kh:∀i p,B.e.r i≠some p:=λi p hi=>by have:=S.kr i p hi;simp at hB;omega
   let e2:Env:={e' with r:=λj=>(is[j]?).bind e'.r}
   have hidx:∀i,i∈is->is[is.idxOf i]? =some i:=λi hi=>by
    rw [aai (List.idxOf_lt_length_of_mem hi)]
    simp
   have map:∀i p,i∈is->e'.r i=some p->e2.r (is.idxOf i)=some p:=λi p hi hp=>by
    show (is[is.idxOf i]?).bind e'.r=some p
    rw [hidx i hi];exact hp
   have Kq:∀j p,e2.r j=some p->∃i,is[j]? =some i/\e'.r i=some p:=λj p hj=>aaF.1 hj
   refine ⟨v',rfl,e2,hm,VR.jm (e:=e') (e':=e2) (λ_ _ h=>h) (aaf _) v v' (λj p hu hp=>map j p (gW hv hu) hp) DB,?_⟩
   exact {
    os:=S.os,tape:=S.tape,output:=S.output,size:=S.size
    inj:=λi j p q hi hj hpq=>by
     obtain ⟨a,h1,h2⟩:=Kq i p hi
     obtain ⟨b,h3,h4⟩:=Kq j q hj
     have:=S.inj a b p q h2 h4 hpq
     subst this
     exact (List.getElem?_inj (aal.1 h1).1 s3).1 (h1.trans h3.symm)
    dom:=λi p hi=>by
     obtain ⟨a,h1,_⟩:=Kq i p hi
     have:=(aal.1 h1).1
     simpa [hlen] using this
    sep:=λi p hi=>by obtain ⟨a,_,h2⟩:=Kq i p hi;exact S.sep a p h2
    eU:=S.eU,bp:=S.bp,dU:=S.dU
    news:=λi p hi=>by
     obtain ⟨a,_,h2⟩:=Kq i p hi
     rcases S.news a p h2 with h|h
     ·exact absurd h (Kh a p)
     ·exact .inr h
    bA:=λi p hi=>absurd hi (Kh i p)
    bM:=S.bM,n0:=S.n0,cI:=S.cI
    ew:=λj ps hj=>by
     simp only [aaO] at hj
     cases hq:l[j]? with
     |none=>simp [hq] at hj
     |some qs=>
      simp only [hq,aaH,No,Blk.b.injEq] at hj
      subst hj
      have hjl:j<is.length:=by have:=(aal.1 hq).1;omega
      obtain ⟨qs',h1,h2⟩:=yO j _ (aai hjl)
      rw [hq] at h1;cases h1
      have wZ:e2.r j=e'.r is[j]:=by show (is[j]?).bind e'.r=_;rw [aai hjl];rfl
      rcases S.ew _ qs h2 with ⟨g1,g2⟩|⟨p,o,g1,g2,c,t,rfl,g3,g4,g5⟩
      ·exact .inl ⟨by rw [b9];exact g1,by rw [wZ];exact g2⟩
      ·refine .inr ⟨p,_,by rw [wZ];exact g1,g2,c,t,rfl,g3,by rw [b9];exact g4,?_⟩
       rw [b9]
       exact PR.jm (e:=e') (e':=e2) (λ_ _ h=>h) (aaf _) qs _ (λb p hu hp=>map b p (dJ (hall qs (aaG hq)) hu) hp) g5
    gap:=λj g hj=>by
     simp only [aaO] at hj
     cases hq:l[j]? with
     |none=>simp [hq] at hj
     |some qs=>simp [hq] at hj
    yi:=S.yi,yb:=S.yb,old:=S.old
    win:=λi p hi=>absurd hi (Kh i p)
    kr:=λi p hi=>absurd hi (Kh i p)
    fO:=by simp at hB;omega
    fc:=S.fc,gJ:=S.gJ}
  ·cases hs
 ·cases hs
def e8 (w:World):Nat->Option (Array Value×TypeId×(Nat×Nat)):=λn=>match w.heap[n]? with
 |some (.cells c t fr)=>some (c,t,fr)
 |_=>none
def pn (h:List Blk):List SV->Option (List (List Int)×Bool)
 | []=>some ([],true)
 |p::ps=>match p,pn h ps with
  | .ro _ .u8 xs,some (l,b)=>some (xs::l,b)
  | .sl c o i 1 len cap ex wh,some (l,b)=>match cu h (.sl c o i 1 len cap ex wh) with
   |some ([.ints .u8 n xs],q)=>some (xs::l,aa (aa b q) (decide (xs.length=n)))
   |_=>none
  | .nl (.slice none 0 0),some (l,b)=>some ([]::l,b)
  |_,_=>none
mutual
def ke:SV->SV
 | .ro _ k xs=>.ro false k xs
 | .gf _ xss=>.gf false xss
 | .aJ _ z len g=>.aJ false z len (λi=>af (g i))
 | .rE _ xss i=>.rE false xss i
 | .lX _ z len g e o i=>.lX false z len (λi=>af (g i)) e o i
 | .rows z n g=>.rows z n (λi=>af (g i))
 | .agg ps=>.agg (af ps)
 | .bC vs=>.bC (af vs)
 | .iface t x=>.iface t (ke x)
 | .fn f a b=>.fn f (af a) (af b)
 |v=>v
def af:List SV->List SV
 | []=>[]
 |x::xs=>ke x::af xs
end
mutual
def bB (h:List Blk):SV->Option (SV×Bool×Bool)
 | .bool b=>some (.bool b,true,false)
 | .int k n=>some (.int k n,true,false)
 | .str s=>some (.str s,true,false)
 | .nl v=>some (.nl v,true,false)
 | .ints k n xs=>some (.ints k n xs,true,false)
 | .ro _ k xs=>some (.ro false k xs,true,false)
 | .gf _ xss=>some (.gf false xss,true,false)
 | .aJ _ z len g=>some (.aJ false z len (λi=>af (g i)),true,false)
 | .sl b o i 1 len cap ex wh=>match cu h (.sl b o i 1 len cap ex wh) with
  |some ([.ints k n xs],p)=>some (.ro false k xs,aa p (decide (xs.length=n)),true)
  |some (ps,p)=>(pn h ps).map λq=>(.gf false q.1,aa p q.2,true)
  |none=>none
 | .agg ps=>match ja h ps with
  |some (l,p,t)=>some (.agg l,p,t)
  |none=>none
 | .iface t x=>match bB h x with
  |some (y,p,b)=>some (.iface t y,p,b)
  |none=>none
 | .bK b z len _ _=>match h[b]? with
  |some (.b [.rows z' n g])=>match Nat.beq z' z with
   |true=>some (.aJ false z len (λi=>af (g i)),decide (len<=n),true)
   |false=>none
  |_=>none
 |_=>none
def ja (h:List Blk):List SV->Option (List SV×Bool×Bool)
 | []=>some ([],true,false)
 |x::xs=>match bB h x,ja h xs with
  |some (y,p,a),some (l,q,b)=>some (y::l,aa p q,a||b)
  |_,_=>none
end
theorem tg {h h2:List Blk} (hle:Dy h h2) {v:SV} {q:List SV×Bool} (g:cu h v=some q):cu h2 v=some q:=by
 cases v
 case sl b o i z len cap ex wh=>
  simp only [cu] at g ⊢
  cases hb:h[b]? with
  |none=>rw [hb] at g;cases g
  |some bl=>
  cases bl with
  |g _=>rw [hb] at g;cases g
  |b ps=>rw [hb] at g;rw [hle b ps hb];exact g
 case bK b z len cap ex=>
  simp only [cu] at g ⊢
  cases hb:h[b]? with
  |none=>rw [hb] at g;cases g
  |some bl=>
  cases bl with
  |g _=>rw [hb] at g;cases g
  |b ps=>rw [hb] at g;rw [hle b ps hb];exact g
 all_goals first|exact g|(unfold cu at g ⊢;split at g<;>first|(cases g;done)|(rename_i q1;cases q1;done)|(rename_i q1;cases q1;exact g))
theorem pz {h h2:List Blk} (hle:Dy h h2):∀{ps:List SV} {q:List (List Int)×Bool},pn h ps=some q->pn h2 ps=some q
 | [],q,g=>g
 |p::ps,q,g=>by
  unfold pn at g ⊢
  split at g
  ·rename_i f xs l b hr;rw [pz hle hr];exact g
  ·rename_i c o i len cap ex wh l b hr
   rw [pz hle hr]
   split at g
   ·rename_i n xs q' hc;simp only [tg hle hc];exact g
   ·cases g
  ·rename_i l b hr;rw [pz hle hr];exact g
  ·cases g
mutual
theorem fm {h h2:List Blk} (hle:Dy h h2):∀{v:SV} {q:SV×Bool×Bool},bB h v=some q->bB h2 v=some q
 | .bool _,q,g=>by simp only [bB] at g ⊢;exact g
 | .int _ _,q,g=>by simp only [bB] at g ⊢;exact g
 | .str _,q,g=>by simp only [bB] at g ⊢;exact g
 | .nl _,q,g=>by simp only [bB] at g ⊢;exact g
 | .ints _ _ _,q,g=>by simp only [bB] at g ⊢;exact g
 | .ro _ _ _,q,g=>by simp only [bB] at g ⊢;exact g
 | .gf _ _,q,g=>by simp only [bB] at g ⊢;exact g
 | .sl b o i z len cap ex wh,q,g=>by
  by_cases hz:z=1
  ·subst hz
   simp only [bB] at g ⊢
   split at g
   ·rename_i k n xs p hc;simp only [tg hle hc];exact g
   ·rename_i ps p hno hc
    rw [tg hle hc]
    obtain ⟨x,hx,hq⟩:=aag.1 g
    split
    ·rename_i k n xs p' UM
     cases UM
     exact absurd rfl (hno _ _ _)
    ·rename_i UM
     cases UM
     rw [pz hle hx]
     exact adX some hq
    ·rename_i UM;cases UM
   ·cases g
  ·exfalso
   unfold bB at g
   split at g<;>first|(rename_i h1;cases h1;done)|skip
   all_goals first|(rename_i h1;cases h1;exact hz rfl)|(cases g)
 | .agg ps,q,g=>by
  simp only [bB] at g ⊢
  split at g
  ·rename_i l p t hl;rw [w5 hle hl];exact g
  ·cases g
 | .iface _ x,q,g=>by
  simp only [bB] at g ⊢
  split at g
  ·rename_i y p t hl;rw [fm hle hl];exact g
  ·cases g
 | .ptr _ _ _,q,g=>by simp [bB] at g
 | .aJ _ _ _ _,q,g=>by simp only [bB] at g ⊢;exact g
 | .oF _ _ _,q,g=>by simp [bB] at g
 | .rE _ _ _,q,g=>by simp [bB] at g
 | .lX _ _ _ _ _ _ _,q,g=>by simp [bB] at g
 | .bC _,q,g=>by simp [bB] at g
 | .fn _ _ _,q,g=>by simp [bB] at g
 | .rows _ _ _,q,g=>by simp [bB] at g
 | .dm _ _ _ _ _,q,g=>by simp [bB] at g
 | .qQ _,q,g=>by simp [bB] at g
 | .dU _ _,q,g=>by simp [bB] at g
 | .bK b z len cap ex,q,g=>by
  simp only [bB] at g ⊢
  split at g
  ·rename_i z' n gg hb;rw [hle b _ hb];exact g
  ·cases g
theorem w5 {h h2:List Blk} (hle:Dy h h2):∀{v:List SV} {q:List SV×Bool×Bool},ja h v=some q->ja h2 v=some q
 | [],q,g=>by simp only [ja] at g ⊢;exact g
 |x::xs,q,g=>by
  simp only [ja] at g ⊢
  split at g
  ·rename_i y p a l q' b hx hl
   rw [fm hle hx,w5 hle hl];exact g
  ·cases g
end
theorem kY {w:World} {n:Nat} {c:Array Value} {t:TypeId} {fr:Nat×Nat} (h:w.heap[n]? =some (.cells c t fr)):e8 w n=some (c,t,fr):=by unfold e8;rw [h]
theorem qm {w:World} {n:Nat} {c:Array Value} {t:TypeId} {fr:Nat×Nat} (h:e8 w n=some (c,t,fr)):w.heap[n]? =some (.cells c t fr):=by
 unfold e8 at h
 split at h
 ·rename_i c' t' fr' hq;cases h;exact hq
 ·cases h
def gX (z:Nat->Option (Array Value×TypeId×(Nat×Nat))) (n:Nat):Env:=⟨λ_=>none,z,n,[],λ_=>none⟩
section
variable {e:Env} {B:cP} {h:List Blk} {w:World}
theorem lV.any {e':Env} (hz:∀n o,e.z n=some o->e'.z n=some o) {f:Bool} {k:IntKind} {xs:List Int} {v:Value} (g:lV e f k xs v):lV e' false k xs v:=by
 rcases g with h|⟨n,o,cap,c,t,fr,h1,h2,h3,h4,h5,h6⟩
 ·exact .inl h
 ·exact .inr ⟨n,o,cap,c,t,fr,h1,hz _ _ h2,(λq=>by cases q),h4,h5,h6⟩
theorem th {b o i len cap:Nat} {ex wh:Bool} {q:List SV×Bool} (hc:cu h (.sl b o i 1 len cap ex wh)=some q) (h0:len≠0):h[b]? ≠some (.b []):=λhb=>by
 have key:∀a n:Nat,n≠0->Da [] a n=none:=λa n hn=>by
  cases a with
  |zero=>cases n with
   |zero=>exact absurd rfl hn
   |succ n=>rfl
  |succ a=>rfl
 simp only [cu,hb] at hc
 cases o with
 |succ o=>simp [jv] at hc
 |zero=>
  simp only [jv] at hc
  rw [key _ _ (by simpa using h0)] at hc
  cases hc
theorem F2 (R:Rel B e h w) {zz:Nat->Option (Array Value×TypeId×(Nat×Nat))} (hZ:∀(i:Nat) (p:Pl) (c:Array Value) (t:TypeId),h[i]? ≠some (.b [])->e.r i=some p->w.heap[p.n]? =some (.cells c t (0,0))->zz p.n=some (c,t,(0,0))) {b o i len cap n:Nat} {ex wh:Bool} {k:IntKind} {xs:List Int} {v':Value} (hc:cu h (.sl b o i 1 len cap ex wh)=some ([.ints k n xs],true)) (hn:xs.length=n) (hv:VR e (.sl b o i 1 len cap ex wh) v') (m:Nat):
  lV (gX zz m) false k xs v':=by
 obtain ⟨ys,hys,gk,_,hf⟩:=aY (P:=default) (z:=1) R hc (n:=len) rfl hv rfl
 obtain ⟨us,gj,jZ⟩:=hys
 rw [PR] at gj;subst gj
 rw [aaz,bN hn] at jZ
 rw [ad3] at gk
 have gl:xs.length=len:=by rw [<-gk,jZ,aF]
 have nil:len=0->xs=[]:=λh0=>aaw.1 (by omega)
 rcases hv with ⟨h0,_,a,rfl⟩|⟨p,cap',a,hp,rfl,ha,_,_,hlc,hft⟩
 ·exact .inl ⟨nil h0,a,0,rfl,λ_=>rfl⟩
 ·by_cases h0:len=0
  ·exact .inl ⟨nil h0,_,cap',by rw [h0],λq=>by cases q⟩
  ·have hc0:cap'≠0:=by omega
   obtain ⟨c,t,hcell,hsz⟩:=R.eA hp
   have uJ:=ha hc0
   have Ds:=hft hc0
   have hr:=hf len (aaf _)
   rw [eO hcell (by omega),ad3,aao (l:=ys) (by omega)] at hr
   have hcells:(c.toList.drop a).take len=ys:=adX Array.toList (Result.ok.inj hr).1
   exact .inr ⟨p.n,a,cap',c,t,(0,0),by rw [gl],hZ _ p c t (th hc h0) hp hcell,(λq=>by cases q),by rw [<-jZ, <-hcells,gl],by omega,by omega⟩
theorem qY (R:Rel B e h w) {zz:Nat->Option (Array Value×TypeId×(Nat×Nat))} (hZ:∀(i:Nat) (p:Pl) (c:Array Value) (t:TypeId),h[i]? ≠some (.b [])->e.r i=some p->w.heap[p.n]? =some (.cells c t (0,0))->zz p.n=some (c,t,(0,0))) (fR:∀n x,e.z n=some x->zz n=some x) (m:Nat):∀{ps:List SV} {l:List (List Int)} {ys:List Value},pn h ps=some (l,true)->PR e ps ys->
  ys.length=l.length/\∀(i:Nat) (xs:List Int),l[i]? =some xs->∃y,ys[i]? =some y/\lV (gX zz m) false .u8 xs y
 | [],l,ys,g,hp=>by
  simp only [pn,No,aae,aeJ] at g
  subst g
  rw [PR] at hp;subst hp
  exact ⟨rfl,λi xs hi=>by simp at hi⟩
 |p::ps,l,ys,g,hp=>by
  have fin:∀{xs:List Int} {l':List (List Int)},bn p=true->pn h ps=some (l',true)->l=xs::l'->(∀y,VR e p y->lV (gX zz m) false .u8 xs y)->
    ys.length=l.length/\∀(i:Nat) (xs:List Int),l[i]? =some xs->∃y,ys[i]? =some y/\lV (gX zz m) false .u8 xs y:=λ{xs l'} hn hr hl hy=>by
   subst hl
   obtain ⟨y,zs,h1,h2,rfl⟩:=(PR.cons hn).1 hp
   obtain ⟨h3,h4⟩:=qY R hZ fR m hr h2
   refine ⟨by simp [h3],λi us hi=>?_⟩
   cases i with
   |zero=>simp at hi;subst hi;exact ⟨y,rfl,hy y h1⟩
   |succ i=>simp at hi;obtain ⟨u,hu,hv⟩:=h4 i us hi;exact ⟨u,by simpa using hu,hv⟩
  unfold pn at g
  split at g
  ·rename_i f xs l' b hr
   simp only [No,aae] at g
   obtain ⟨rfl,rfl⟩:=g
   exact fin rfl hr rfl λy hy=>lV.any (e:=e) fR hy
  ·rename_i c o i len cap ex wh l' b hr
   split at g
   ·rename_i n xs q hc
    simp only [No,aae,aC,aab] at g
    obtain ⟨rfl,⟨rfl,rfl⟩,hn⟩:=g
    exact fin rfl hr rfl λy hy=>F2 R hZ hc hn hy m
   ·cases g
  ·rename_i l' b hr
   simp only [No,aae] at g
   obtain ⟨rfl,rfl⟩:=g
   exact fin rfl hr rfl λy hy=>by rw [VR] at hy;subst hy;exact .inl ⟨rfl,none,0,rfl,λ_=>rfl⟩
  ·cases g
theorem P1 (R:Rel B e h w) {zz:Nat->Option (Array Value×TypeId×(Nat×Nat))} (hZ:∀(i:Nat) (p:Pl) (c:Array Value) (t:TypeId),h[i]? ≠some (.b [])->e.r i=some p->w.heap[p.n]? =some (.cells c t (0,0))->zz p.n=some (c,t,(0,0))) (fR:∀n x,e.z n=some x->zz n=some x) {b o i len cap:Nat} {ex wh:Bool} {u:SV} {t:Bool} {v':Value} (g:bB h (.sl b o i 1 len cap ex wh)=some (u,true,t)) (hv:VR e (.sl b o i 1 len cap ex wh) v') (m:Nat):t=true/\VR (gX zz m) u v':=by
 simp only [bB] at g
 split at g
 ·rename_i k n xs p hc
  simp only [No,aae,aC,aab] at g
  obtain ⟨rfl,⟨rfl,hn⟩,rfl⟩:=g
  exact ⟨rfl,F2 R hZ hc hn hv m⟩
 ·rename_i ps p _ hc
  obtain ⟨⟨l,q⟩,hr,h2⟩:=aag.1 g
  simp only [aae,aC] at h2
  obtain ⟨rfl,⟨rfl,rfl⟩,rfl⟩:=h2
  refine ⟨rfl,?_⟩
  obtain ⟨ys,hys,gk,_,hf⟩:=aY (P:=default) (z:=1) R hc (n:=len) rfl hv rfl
  rw [ad3] at gk
  obtain ⟨h3,h4⟩:=qY R hZ fR m hr hys
  have hll:l.length=len:=by omega
  have nil:len=0->l=[]:=λh0=>aaw.1 (by omega)
  show BF _ _ _ _
  rcases hv with ⟨h0,_,a,rfl⟩|⟨p,cap',a,hp,rfl,ha,_,_,hlc,hft⟩
  ·exact .inl ⟨nil h0,a,0,rfl,λ_=>rfl⟩
  ·by_cases h0:len=0
   ·exact .inl ⟨nil h0,_,cap',by rw [h0],λq=>by cases q⟩
   ·have hc0:cap'≠0:=by omega
    obtain ⟨c,t,hcell,hsz⟩:=R.eA hp
    have uJ:=ha hc0
    have Ds:=hft hc0
    have hr:=hf len (aaf _)
    rw [eO hcell (by omega),ad3,aao (l:=ys) (by omega)] at hr
    have hcells:(c.toList.drop a).take len=ys:=adX Array.toList (Result.ok.inj hr).1
    refine .inr ⟨p.n,a,cap',c,t,(0,0),by rw [hll],hZ _ p c t (th hc h0) hp hcell,(λq=>by cases q),λi xs hi=>?_,by omega,by omega⟩
    obtain ⟨y,hy,hro⟩:=h4 i xs hi
    rw [<-hcells] at hy
    have Ko:i<len:=by rw [<-hll];exact (aal.1 hi).1
    rw [aa9 Ko,aaQ] at hy
    exact ⟨y,hy,hro⟩
 ·cases g
theorem jF {v u:SV} {p t:Bool} (g:bB h v=some (u,p,t)) (hn:bn v=true):bn u=true:=by
 unfold bB at g
 split at g
 case h_5=>cases hn
 case h_9=>
  split at g
  ·cases g;rfl
  ·obtain ⟨q,_,h2⟩:=aag.1 g;cases h2;rfl
  ·cases g
 all_goals first
  |(cases g;done)
  |(cases g;rfl)
  |(split at g<;>first|(cases g;rfl)|(cases g;done))
  |(split at g<;>first|(cases g;done)|(split at g<;>first|(cases g;rfl)|(cases g;done)))
mutual
theorem VR.ke {e:Env} {zz:Nat->Option (Array Value×TypeId×(Nat×Nat))} (fR:∀n x,e.z n=some x->zz n=some x) (m:Nat) (hr:∀j,e.r j=none):∀{v:SV} {v':Value},VR e v v'->VR (gX zz m) (Sy.ke v) v'
 | .bool _,_,h=>h
 | .int _ _,_,h=>h
 | .str _,_,h=>h
 | .nl _,_,h=>h
 | .ints _ _ _,_,h=>h
 | .ptr b _ _,_,⟨p,h1,_⟩=>by rw [hr] at h1;cases h1
 | .sl b _ _ _ _ _ _ _,_,h=>by
  rcases h with h|⟨p,c,a,h1,h2⟩
  ·exact .inl h
  ·rw [hr] at h1;cases h1
 | .ro _ _ _,_,h=>lV.any (e:=e) fR h
 | .gf _ _,_,h=>by
  rcases h with h|⟨n,o,cap,c,t,fr,h1,h2,h3,h4,h5,h6⟩
  ·exact .inl h
  ·exact .inr ⟨n,o,cap,c,t,fr,h1,fR _ _ h2,(λq=>by cases q),(λi xs hi=>(h4 i xs hi).imp λy ⟨a,b⟩=>⟨a,lV.any (e:=e) fR b⟩),h5,h6⟩
 | .aJ f z len g,_,h=>by
  rcases h with h|⟨n,o,cap,c,t,fr,h1,h2,h3,h4,h5,h6⟩
  ·exact .inl h
  ·exact .inr ⟨n,o,cap,c,t,fr,h1,fR _ _ h2,(λq=>by cases q),(λi hi=>PR.ke (e:=⟨λ_=>none,e.z,e.n0,[],λ_=>none⟩) fR m (λ_=>rfl) (h4 i hi)),h5,h6⟩
 | .oF _ _ _,_,⟨n,o,c,t,fr,h1,h2,h3⟩=>⟨n,o,c,t,fr,h1,fR _ _ h2,h3⟩
 | .rE _ _ _,_,⟨n,o,c,t,fr,h1,h2,h3⟩=>⟨n,o,c,t,fr,h1,fR _ _ h2,λi xs hi=>(h3 i xs hi).imp λy ⟨a,b⟩=>⟨a,lV.any (e:=e) fR b⟩⟩
 | .lX _ z len g el o i,_,⟨n,o0,c,t,fr,h1,h2,h3,h4⟩=>
  ⟨n,o0,c,t,fr,h1,fR _ _ h2,λi hi=>PR.ke (e:=⟨λ_=>none,e.z,e.n0,[],λ_=>none⟩) fR m (λ_=>rfl) (h3 i hi),h4⟩
 | .agg ps,_,⟨ys,h1,h2⟩=>⟨ys,PR.ke fR m hr h1,h2⟩
 | .bC vs,_,⟨ys,h1,h2⟩=>⟨ys,LR.ke fR m hr h1,h2⟩
 | .iface _ x,_,⟨y,h1,h2⟩=>⟨y,VR.ke fR m hr h1,h2⟩
 | .fn _ a b,_,⟨ys,us,h1,h2,h3⟩=>⟨ys,us,LR.ke fR m hr h1,LR.ke fR m hr h2,h3⟩
 | .rows _ _ _,_,h=>h
 | .bK b _ _ _ _,_,h=>by
  rcases h with h|⟨p,c,a,h1,h2⟩
  ·exact .inl h
  ·rw [hr] at h1;cases h1
 | .dm b _ _ _ _,_,⟨p,h1,_⟩=>by rw [hr] at h1;cases h1
 | .qQ b,_,⟨p,h1,_⟩=>by rw [hr] at h1;cases h1
 | .dU _ _,_,h=>h
theorem LR.ke {e:Env} {zz:Nat->Option (Array Value×TypeId×(Nat×Nat))} (fR:∀n x,e.z n=some x->zz n=some x) (m:Nat) (hr:∀j,e.r j=none):∀{vs:List SV} {ys:List Value},LR e vs ys->LR (gX zz m) (af vs) ys
 | [],_,h=>h
 |_::_,_,⟨y,zs,h1,h2,h3⟩=>⟨y,zs,VR.ke fR m hr h1,LR.ke fR m hr h2,h3⟩
theorem PR.ke {e:Env} {zz:Nat->Option (Array Value×TypeId×(Nat×Nat))} (fR:∀n x,e.z n=some x->zz n=some x) (m:Nat) (hr:∀j,e.r j=none):∀{vs:List SV} {ys:List Value},PR e vs ys->PR (gX zz m) (af vs) ys
 | [],_,h=>h
 |x::xs,_,h=>by
  have ih:=λ(zs:List Value) (h:PR e xs zs)=>PR.ke fR m hr h
  have iv:=λ(y:Value) (h:VR e x y)=>VR.ke fR m hr h
  cases x<;>first
   |(obtain ⟨zs,h1,h2⟩:=h;exact ⟨zs,ih zs h1,h2⟩)
   |(rename_i z n gg;obtain ⟨us,zs,h0,h1,h2,h3⟩:=h;exact ⟨us,zs,h0,λi hi=>PR.ke (e:=⟨λ_=>none,e.z,e.n0,[],λ_=>none⟩) fR m (λ_=>rfl) (h1 i hi),ih zs h2,h3⟩)
   |(obtain ⟨y,zs,h1,h2,h3⟩:=h;exact ⟨y,zs,iv y h1,ih zs h2,h3⟩)
end
mutual
theorem kZ (R:Rel B e h w) {zz:Nat->Option (Array Value×TypeId×(Nat×Nat))} (fR:∀n x,e.z n=some x->zz n=some x) {T:Bool} (hT:T=true->∀(i:Nat) (p:Pl) (c:Array Value) (t:TypeId),h[i]? ≠some (.b [])->e.r i=some p->w.heap[p.n]? =some (.cells c t (0,0))->zz p.n=some (c,t,(0,0))) (m:Nat):∀{v u:SV} {t:Bool} {v':Value},bB h v=some (u,true,t)->(t=true->T=true)->VR e v v'->VR (gX zz m) u v'
 | .bool _,u,t,v',g,_,hv=>by simp only [bB,No,aae] at g;obtain ⟨rfl,_⟩:=g;exact hv
 | .int _ _,u,t,v',g,_,hv=>by simp only [bB,No,aae] at g;obtain ⟨rfl,_⟩:=g;exact hv
 | .str _,u,t,v',g,_,hv=>by simp only [bB,No,aae] at g;obtain ⟨rfl,_⟩:=g;exact hv
 | .nl _,u,t,v',g,_,hv=>by simp only [bB,No,aae] at g;obtain ⟨rfl,_⟩:=g;exact hv
 | .ints _ _ _,u,t,v',_,_,hv=>hv.elim
 | .ptr _ _ _,u,t,v',g,_,_=>by simp [bB] at g
 | .sl b o i z len cap ex wh,u,t,v',g,ht,hv=>by
  by_cases hz:z=1
  ·subst hz
   have h1:t=true:=by
    simp only [bB] at g
    split at g
    ·simp only [No,aae] at g;exact g.2.2.symm
    ·obtain ⟨q,_,h2⟩:=aag.1 g;simp only [aae] at h2;exact h2.2.2.symm
    ·cases g
   exact (P1 R (hT (ht h1)) fR g hv m).2
  ·exfalso
   unfold bB at g
   split at g<;>first|(rename_i h1;cases h1;done)|skip
   all_goals first|(rename_i h1;cases h1;exact hz rfl)|(cases g)
 | .ro f k xs,u,t,v',g,_,hv=>by
  simp only [bB,No,aae] at g
  obtain ⟨rfl,_⟩:=g
  exact lV.any (e:=e) fR hv
 | .gf f xss,u,t,v',g,_,hv=>by
  simp only [bB,No,aae] at g
  obtain ⟨rfl,_⟩:=g
  rcases hv with h|⟨n,o,cap,c,t,fr,h1,h2,h3,h4,h5,h6⟩
  ·exact .inl h
  ·exact .inr ⟨n,o,cap,c,t,fr,h1,fR _ _ h2,(λq=>by cases q),(λi xs hi=>(h4 i xs hi).imp λy ⟨a,b⟩=>⟨a,lV.any (e:=e) fR b⟩),h5,h6⟩
 | .aJ f z len gg,u,t,v',g,_,hv=>by
  simp only [bB,No,aae] at g
  obtain ⟨rfl,_⟩:=g
  rcases hv with h|⟨n,o,cap,c,t,fr,h1,h2,h3,h4,h5,h6⟩
  ·exact .inl h
  ·exact .inr ⟨n,o,cap,c,t,fr,h1,fR _ _ h2,(λq=>by cases q),(λi hi=>PR.ke (e:=⟨λ_=>none,e.z,e.n0,[],λ_=>none⟩) fR m (λ_=>rfl) (h4 i hi)),h5,h6⟩
 | .oF _ _ _,u,t,v',g,_,_=>by simp [bB] at g
 | .rE _ _ _,u,t,v',g,_,_=>by simp [bB] at g
 | .lX _ _ _ _ _ _ _,u,t,v',g,_,_=>by simp [bB] at g
 | .agg ps,u,t,v',g,ht,hv=>by
  simp only [bB] at g
  split at g
  ·rename_i l p t' hl
   simp only [No,aae] at g
   obtain ⟨rfl,rfl,rfl⟩:=g
   obtain ⟨ys,hys,rfl⟩:=hv
   exact ⟨ys,n8 R fR hT m hl ht hys,rfl⟩
  ·cases g
 | .bC _,u,t,v',g,_,_=>by simp [bB] at g
 | .iface ty x,u,t,v',g,ht,hv=>by
  simp only [bB] at g
  split at g
  ·rename_i y p t' hl
   simp only [No,aae] at g
   obtain ⟨rfl,rfl,rfl⟩:=g
   obtain ⟨y',hy,rfl⟩:=hv
   exact ⟨y',kZ R fR hT m hl ht hy,rfl⟩
  ·cases g
 | .fn _ _ _,u,t,v',g,_,_=>by simp [bB] at g
 | .rows _ _ _,u,t,v',g,_,_=>by simp [bB] at g
 | .dm _ _ _ _ _,u,t,v',g,_,_=>by simp [bB] at g
 | .qQ _,u,t,v',g,_,_=>by simp [bB] at g
 | .dU _ _,u,t,v',g,_,_=>by simp [bB] at g
 | .bK b z len cap ex,u,t,v',g,ht,hv=>by
  simp only [bB] at g
  split at g
  ·rename_i z' n gg hb
   cases hz:Nat.beq z' z with
   |false=>rw [hz] at g;cases g
   |true=>
    rw [hz] at g
    obtain rfl:=aaA hz
    simp only [No,aae,aab] at g
    obtain ⟨rfl,uU,rfl⟩:=g
    rcases hv with ⟨h0,_,a,rfl⟩|⟨p,cap',a,hp,rfl,ha,_,_,hlc,hft⟩
    ·exact .inl ⟨h0,a,0,rfl,λ_=>rfl⟩
    ·by_cases h0:len=0
     ·exact .inl ⟨h0,_,cap',by rw [h0],λq=>by cases q⟩
     ·have hc0:cap'≠0:=by omega
      obtain ⟨c,ty,hcell,hsz,hps,nt⟩:=R.block hp hb
      obtain ⟨us,zs,k1,k2,k3,k4⟩:=nt
      rw [PR] at k3;subst k3
      rw [aaz] at k4
      have uJ:=ha hc0
      have Ds:=hft hc0
      have yq:av [SV.rows z' n gg]=n*z':=by simp [av,gS]
      rw [yq] at k4 hps
      refine .inr ⟨p.n,a,cap',c,ty,(0,0),rfl,hT (ht rfl) b p c ty (by rw [hb];simp) hp hcell,(λq=>by cases q),λi hi=>?_,hlc,by omega⟩
      have k:=k2 i (by omega)
      have hi2:i*z'+z'<=n*z':=by
       have:=aaD z' (show i+1<=n by omega)
       rw [Nat.succ_mul] at this;exact this
      rw [<-k4,adi,adD,aa4,ab6 (by omega), <-uJ] at k
      exact PR.ke (e:=⟨λ_=>none,e.z,e.n0,[],λ_=>none⟩) fR m (λ_=>rfl) k
  ·cases g
theorem n8 (R:Rel B e h w) {zz:Nat->Option (Array Value×TypeId×(Nat×Nat))} (fR:∀n x,e.z n=some x->zz n=some x) {T:Bool} (hT:T=true->∀(i:Nat) (p:Pl) (c:Array Value) (t:TypeId),h[i]? ≠some (.b [])->e.r i=some p->w.heap[p.n]? =some (.cells c t (0,0))->zz p.n=some (c,t,(0,0))) (m:Nat):∀{vs us:List SV} {t:Bool} {ys:List Value},ja h vs=some (us,true,t)->(t=true->T=true)->PR e vs ys->PR (gX zz m) us ys
 | [],us,t,ys,g,_,hv=>by simp only [ja,No,aae] at g;obtain ⟨rfl,_⟩:=g;exact hv
 |x::xs,us,t,ys,g,ht,hv=>by
  simp only [ja] at g
  split at g
  ·rename_i y p a l q b hx hl
   simp only [No,aae,aC] at g
   obtain ⟨rfl,⟨rfl,rfl⟩,rfl⟩:=g
   have ha:a=true->T=true:=λh=>ht (by rw [h];rfl)
   have hb:b=true->T=true:=λh=>ht (by rw [h];exact Bool.or_true _)
   by_cases hn:bn x=true
   ·obtain ⟨y',zs,h1,h2,rfl⟩:=(PR.cons hn).1 hv
    exact (PR.cons (jF hx hn)).2 ⟨y',zs,kZ R fR hT m hx ha h1,n8 R fR hT m hl hb h2,rfl⟩
   ·cases x<;>simp [bn] at hn
    case rows=>simp [bB] at hx
    simp only [bB,No,aae] at hx
    obtain ⟨rfl,_⟩:=hx
    obtain ⟨zs,h2,rfl⟩:=hv
    exact ⟨zs,n8 R fR hT m hl hb h2,rfl⟩
  ·cases g
end
theorem tj (R:Rel B e h w) {zz:Nat->Option (Array Value×TypeId×(Nat×Nat))} (fR:∀n x,e.z n=some x->zz n=some x) {T:Bool} (hT:T=true->∀(i:Nat) (p:Pl) (c:Array Value) (t:TypeId),h[i]? ≠some (.b [])->e.r i=some p->w.heap[p.n]? =some (.cells c t (0,0))->zz p.n=some (c,t,(0,0))) (m:Nat):∀{vs us:List SV} {t:Bool} {ys:List Value},ja h vs=some (us,true,t)->(t=true->T=true)->LR e vs ys->LR (gX zz m) us ys
 | [],us,t,ys,g,_,hv=>by simp only [ja,No,aae] at g;obtain ⟨rfl,_⟩:=g;exact hv
 |x::xs,us,t,ys,g,ht,hv=>by
  simp only [ja] at g
  split at g
  ·rename_i y p a l q b hx hl
   simp only [No,aae,aC] at g
   obtain ⟨rfl,⟨rfl,rfl⟩,rfl⟩:=g
   obtain ⟨y',zs,h1,h2,rfl⟩:=hv
   exact ⟨y',zs,kZ R fR hT m hx (λh=>ht (by rw [h];rfl)) h1,tj R fR hT m hl (λh=>ht (by rw [h];exact Bool.or_true _)) h2,rfl⟩
  ·cases g
end
end
end Go.Sy
namespace Go.Sy
open Go
mutual
def eB:SV->Bool
 | .ro f _ _=>!f
 | .gf f _=>!f
 | .aJ _ _ _ _=>true
 | .oF _ _ _=>true
 | .rE _ _ _=>true
 | .lX _ _ _ _ _ _ _=>true
 | .rows _ _ _=>true
 | .agg ps=>hO ps
 | .bC vs=>hO vs
 | .iface _ x=>eB x
 | .fn _ a b=>hO a||hO b
 |_=>false
def hO:List SV->Bool
 | []=>false
 |x::xs=>eB x||hO xs
end
section
variable {e e':Env}
theorem lV.fresh (hz:∀n x,e.n0<=n->e.z n=some x->e'.z n=some x) (hn:e'.n0<=e.n0) {k:IntKind} {xs:List Int} {v:Value} (g:lV e true k xs v):lV e' true k xs v:=by
 rcases g with h|⟨n,o,cap,c,t,fr,h1,h2,h3,h4,h5,h6⟩
 ·exact .inl h
 ·exact .inr ⟨n,o,cap,c,t,fr,h1,hz _ _ (h3 rfl) h2,λq=>abi hn (h3 q),h4,h5,h6⟩
theorem BF.fresh (hz:∀n x,e.n0<=n->e.z n=some x->e'.z n=some x) (hn:e'.n0<=e.n0) {xss:List (List Int)} {v:Value} (g:BF e true xss v):BF e' true xss v:=by
 rcases g with h|⟨n,o,cap,c,t,fr,h1,h2,h3,h4,h5,h6⟩
 ·exact .inl h
 ·exact .inr ⟨n,o,cap,c,t,fr,h1,hz _ _ (h3 rfl) h2,λq=>abi hn (h3 q),λi xs hi=>(h4 i xs hi).imp λy ⟨a,b⟩=>⟨a,b.fresh hz hn⟩,h5,h6⟩
mutual
theorem VR.fresh (hr:e'.r=e.r) (hz:∀n x,e.n0<=n->e.z n=some x->e'.z n=some x) (hn:e'.n0<=e.n0):∀{v:SV} {v':Value},eB v=false->VR e v v'->VR e' v v'
 | .bool _,_,_,h=>h
 | .int _ _,_,_,h=>h
 | .str _,_,_,h=>h
 | .nl _,_,_,h=>h
 | .ints _ _ _,_,_,h=>h
 | .ptr b _ _,_,_,⟨p,h1,h2⟩=>⟨p,by rw [hr];exact h1,h2⟩
 | .sl b _ _ _ _ _ _ _,_,_,h=>by
  rcases h with h|⟨p,c,a,h1,h2⟩
  ·exact .inl h
  ·exact .inr ⟨p,c,a,by rw [hr];exact h1,h2⟩
 | .ro true _ _,_,_,h=>lV.fresh hz hn h
 | .ro false _ _,_,g,_=>by simp [eB] at g
 | .gf true _,_,_,h=>BF.fresh hz hn h
 | .gf false _,_,g,_=>by simp [eB] at g
 | .aJ _ _ _ _,_,g,_=>by simp [eB] at g
 | .oF _ _ _,_,g,_=>by simp [eB] at g
 | .rE _ _ _,_,g,_=>by simp [eB] at g
 | .lX _ _ _ _ _ _ _,_,g,_=>by simp [eB] at g
 | .agg ps,_,g,⟨ys,h1,h2⟩=>⟨ys,PR.fresh hr hz hn (by simpa [eB] using g) h1,h2⟩
 | .bC vs,_,g,⟨ys,h1,h2⟩=>⟨ys,LR.fresh hr hz hn (by simpa [eB] using g) h1,h2⟩
 | .iface _ x,_,g,⟨y,h1,h2⟩=>⟨y,VR.fresh hr hz hn (v:=x) (by simpa [eB] using g) h1,h2⟩
 | .fn _ a b,_,g,⟨ys,us,h1,h2,h3⟩=>by
  simp only [eB,adZ] at g
  exact ⟨ys,us,LR.fresh hr hz hn g.1 h1,LR.fresh hr hz hn g.2 h2,h3⟩
 | .rows _ _ _,_,_,h=>h.elim
 | .bK b _ _ _ _,_,_,h=>by
  rcases h with h|⟨p,c,a,h1,h2⟩
  ·exact .inl h
  ·exact .inr ⟨p,c,a,by rw [hr];exact h1,h2⟩
 | .dm b _ _ _ _,_,_,⟨p,h1,h2⟩=>⟨p,by rw [hr];exact h1,h2⟩
 | .qQ b,_,_,⟨p,h1,h2⟩=>⟨p,by rw [hr];exact h1,h2⟩
 | .dU _ _,_,_,h=>h
theorem LR.fresh (hr:e'.r=e.r) (hz:∀n x,e.n0<=n->e.z n=some x->e'.z n=some x) (hn:e'.n0<=e.n0):∀{v:List SV} {v':List Value},hO v=false->LR e v v'->LR e' v v'
 | [],_,_,h=>h
 |x::xs,_,g,⟨y,zs,h1,h2,h3⟩=>by
  simp only [hO,adZ] at g
  exact ⟨y,zs,VR.fresh hr hz hn g.1 h1,LR.fresh hr hz hn g.2 h2,h3⟩
theorem PR.fresh (hr:e'.r=e.r) (hz:∀n x,e.n0<=n->e.z n=some x->e'.z n=some x) (hn:e'.n0<=e.n0):∀{v:List SV} {v':List Value},hO v=false->PR e v v'->PR e' v v'
 | [],_,_,h=>h
 |x::xs,ys,g,h=>by
  simp only [hO,adZ] at g
  by_cases hx:bn x=true
  ·obtain ⟨y,zs,h1,h2,h3⟩:=(PR.cons hx).1 h
   exact (PR.cons hx).2 ⟨y,zs,VR.fresh hr hz hn g.1 h1,PR.fresh hr hz hn g.2 h2,h3⟩
  ·cases x<;>simp [bn] at hx
   case rows=>simp [eB] at g
   obtain ⟨zs,h1,h2⟩:=h
   exact ⟨zs,PR.fresh hr hz hn g.2 h1,h2⟩
end
end
def P2 (j:Nat):Blk->Blk
 | .b ps=>.b (fM (λb=>b+j) ps)
 | .g _=>.gap
def hY:Blk->Bool
 | .b ps=>hO ps
 | .g _=>false
theorem ld {h new:List Blk} {j:Nat} (hf:jO h j new.length) (i:Nat):(bI h j new)[i]? =if j<=i/\i<j+new.length then new[i-j]? else h[i]? :=by
 unfold bI
 split
 ·rename_i hj
  rcases acf i h.length with h1|h1
  ·rw [aaR h1,aaC (by omega)]
  ·rw [aaV h1]
   by_cases h2:i<j+new.length
   ·rw [aaM ⟨by omega,h2⟩,hj]
   ·rw [aaC (by omega),aaJ (by omega),aaJ h1]
 ·rename_i hj
  have hg:=hf.resolve_left hj
  rw [fF]
  by_cases h2:j<=i/\i<j+new.length
  ·have:=(aal.1 (hg (i-j) (by omega))).1
   rw [aaM ⟨h2.1,h2.2,by omega⟩,aaM h2]
  ·rw [aaC (by omega),aaC h2]
theorem fe {h new:List Blk} {j:Nat}:h.length<=(bI h j new).length:=by
 unfold bI;split
 ·simp
 ·rw [kS];exact aaf _
theorem vD {h new:List Blk} {j i:Nat} (hf:jO h j new.length) (hi:i<new.length):j+i<(bI h j new).length:=by
 have:=ld hf (j+i)
 rw [aaM (by omega),adP,aai hi] at this
 exact (aal.1 this).1
section
variable {P:Program}
theorem mZ {f:FuncId} {us:List SV} {v:SV} {new:List Blk} (g:ai P f us [] v new) {h:List Blk} {vs:List SV} {t:Bool} (hfz:ja h vs=some (us,true,t)) (hst:t=true->eB v=false/\∀b∈new,hY b=false)
  {B:cP} {e:Env} {w:World} {args:List Value} {j:Nat} (hl:LR e vs args) (R:Rel B e h w) (hj:jO h j new.length):
  Calls P f ⟨args⟩ w λen w'=>∃v',en= .returned v'/\∃e2,VR e2 (jm (λb=>b+j) v) v'/\Rel B e2 (bI h j (new.map (P2 j))) w'/\bW e e2 none:=by
 let zz:=if t=true then e8 w else e.z
 have fR:∀n x,e.z n=some x->zz n=some x:=λn x hx=>by
  show (if t=true then e8 w else e.z) n=some x
  by_cases ht:t=true
  ·rw [aaM ht];obtain ⟨c,ty,fr⟩:=x;exact kY (R.eU n c ty fr hx)
  ·rw [aaC ht];exact hx
 have hargs:=tj (zz:=zz) R fR (T:=t) (λht i p c ty _ _ hc=>by show (if t=true then e8 w else e.z) p.n=_;rw [aaM ht];exact kY hc) w.heap.size hfz id hl
 let B0:cP:=⟨w,gX zz w.heap.size,0,[]⟩
 have R0:Rel B0 (gX zz w.heap.size) [] w:={
  os:=rfl,tape:=rfl,output:=rfl,size:=aaf _,inj:=(λi j p q hi=>by cases hi),dom:=(λi p hi=>by cases hi),sep:=(λi p hi=>by cases hi)
  eU:=λn c ty fr hx=>by
   have hx':(if t=true then e8 w else e.z) n=some (c,ty,fr):=hx
   by_cases ht:t=true
   ·rw [aaM ht] at hx';exact qm hx'
   ·rw [aaC ht] at hx';exact R.eU n c ty fr hx'
  bp:=λ_ _ hx=>.inl hx,dU:=λg k xs hg=>(R.dU g k xs hg).imp λc ⟨t,fr,h1,h2⟩=>⟨t,fr,fR _ _ h1,h2⟩,news:=λ_ _ hi=>.inl hi,bA:=λ_ _ hi=>hi,bM:=λ_ _ hx=>hx,n0:=rfl,cI:=aaf _
  ew:=λi ps hi=>by simp at hi
  gap:=λi g hi=>by simp at hi
  yi:=(λi j n hi=>by cases hi),yb:=(λi n hi=>by cases hi)
  old:=λ_ _ _ _=>rfl,win:=(λi p hi=>by cases hi),kr:=(λi p hi=>by cases hi),fO:=aaf _,fc:=(λr hr=>by cases hr),gJ:=List.nodup_nil}
 refine (g B0 _ w args (aaf _) hargs R0).mono ?_
 rintro en w' ⟨v',rfl,e',_,hv,S⟩
 have yP:∀i p,e'.r i=some p->w.heap.size<=p.n:=λi p hi=>(S.news i p hi).resolve_left (λx=>by cases x)
 have qn:∀n,n<w.heap.size->w'.heap[n]? =w.heap[n]? :=λn hn=>S.old n hn (λi p hi=>by cases hi) (by simp [B0])
 have hn0:e'.n0=w.heap.size:=S.n0
 have hen:e.n0<=w.heap.size:=by have:=R.n0;have:=R.cI;have:=R.size;omega
 let z2:Nat->Option (Array Value×TypeId×(Nat×Nat)):=λn=>if n<w.heap.size then e.z n else e'.z n
 let e2:Env:=⟨λi=>if j<=i/\i<j+new.length then e'.r (i-j) else e.r i,z2,e.n0,e.m,e.y⟩
 have Vz:∀i p,i<new.length->e'.r i=some p->e2.r (i+j)=some p:=λi p hi hp=>by
  show (if j<=i+j/\i+j<j+new.length then e'.r (i+j-j) else e.r (i+j))=some p
  rw [aaM (by omega),Nat.add_sub_cancel];exact hp
 have VA:∀i p,e.r i=some p->e2.r i=some p/\¬(j<=i/\i<j+new.length):=λi p hp=>by
  have hni:¬(j<=i/\i<j+new.length):=λhi=>by
   rcases hj with rfl|hg
   ·have:=R.dom i p hp;omega
   ·have:=(R.gap i _ (by have:=hg (i-j) (by omega);rwa [show j+(i-j)=i by omega] at this)).1
    rw [hp] at this;cases this
  exact ⟨by show (if _ then _ else _)=some p;rw [aaC hni];exact hp,hni⟩
 have F3:∀i p,e2.r i=some p->(¬(j<=i/\i<j+new.length)/\e.r i=some p)\/((j<=i/\i<j+new.length)/\e'.r (i-j)=some p):=λi p hp=>by
  have hp':(if j<=i/\i<j+new.length then e'.r (i-j) else e.r i)=some p:=hp
  split at hp'
  ·rename_i hc;exact .inr ⟨hc,hp'⟩
  ·rename_i hc;exact .inl ⟨hc,hp'⟩
 have VB:∀n x,n<w.heap.size->e'.z n=some x->t=false->e.z n=some x:=λn x hn hx ht=>by
  rcases S.bp n x hx with q|q
  ·have q':(if t=true then e8 w else e.z) n=some x:=q
   rw [ht] at q'
   rw [aaC (by simp)] at q';exact q'
  ·exact absurd q (by show ¬w.heap.size<=n;omega)
 -- the yQ aad
 let e1:Env:={e' with z:=z2}
 have F4:∀{u:SV} {u':Value},(t=true->eB u=false)->VR e' u u'->VR e1 u u':=λ{u u'} hs hu=>by
  cases ht:t with
  |true=>exact VR.fresh (e:=e') (e':=e1) rfl (λn x hn hx=>by show (if n<w.heap.size then e.z n else e'.z n)=some x;rw [aaC (by omega)];exact hx) (aaf _) (hs ht) hu
  |false=>exact VR.mono' (e:=e') (e':=e1) (λn x hx=>by
    show (if n<w.heap.size then e.z n else e'.z n)=some x
    by_cases hn:n<w.heap.size
    ·rw [aaM hn];exact VB n x hn hx ht
    ·rw [aaC hn];exact hx) (aaf _) u u' (λ_ _ _ h=>h) hu
 have F5:∀{u:List SV} {u':List Value},(t=true->hO u=false)->PR e' u u'->PR e1 u u':=λ{u u'} hs hu=>by
  cases ht:t with
  |true=>exact PR.fresh (e:=e') (e':=e1) rfl (λn x hn hx=>by show (if n<w.heap.size then e.z n else e'.z n)=some x;rw [aaC (by omega)];exact hx) (aaf _) (hs ht) hu
  |false=>exact PR.mono' (e:=e') (e':=e1) (λn x hx=>by
    show (if n<w.heap.size then e.z n else e'.z n)=some x
    by_cases hn:n<w.heap.size
    ·rw [aaM hn];exact VB n x hn hx ht
    ·rw [aaC hn];exact hx) (aaf _) u u' (λ_ _ _ h=>h) hu
 have yR:e2.n0<=e1.n0:=by show e.n0<=e'.n0;omega
 have Oj:∀i p,e'.r i=some p->i<new.length:=S.dom
 have hle:Env.Le e e2:=⟨λi p hp=>(VA i p hp).1,λn x hx=>by
  show (if n<w.heap.size then e.z n else e'.z n)=some x
  rw [aaM (R.JQ hx)];exact hx,aaf _⟩
 refine ⟨v',rfl,e2,VR.jm (e:=e1) (e':=e2) (λ_ _ h=>h) yR v v' (λi p _ hp=>Vz i p (Oj i p hp) hp) (F4 (λht=>(hst ht).1) hv),?_,bW.of_le hle rfl _⟩
 have hfm:jO h j (new.map (P2 j)).length:=by simpa using hj
 exact {
  os:=S.os.trans R.os,tape:=S.tape.trans R.tape,output:=S.output.trans R.output,size:=abi R.size S.size
  inj:=λi i' p q hi hi' hpq=>by
   rcases F3 i p hi with ⟨c1,g1⟩|⟨c1,g1⟩<;>rcases F3 i' q hi' with ⟨c2,g2⟩|⟨c2,g2⟩
   ·exact R.inj i i' p q g1 g2 hpq
   ·have:=R.lt g1;have:=yP _ _ g2;omega
   ·have:=R.lt g2;have:=yP _ _ g1;omega
   ·have:=S.inj _ _ p q g1 g2 hpq;omega
  dom:=λi p hi=>by
   rcases F3 i p hi with ⟨_,g1⟩|⟨c1,g1⟩
   ·exact Nat.lt_of_lt_of_le (R.dom i p g1) fe
   ·have:=vD hfm (i:=i-j) (by simp;omega)
    rwa [show j+(i-j)=i by omega] at this
  sep:=λi p hi=>by
   show (if p.n<w.heap.size then e.z p.n else e'.z p.n)=none
   rcases F3 i p hi with ⟨_,g1⟩|⟨_,g1⟩
   ·rw [aaM (R.lt g1)];exact R.sep i p g1
   ·rw [aaC (by have:=yP _ _ g1;omega)];exact S.sep _ p g1
  eU:=λn c ty fr hx=>by
   have hx':(if n<w.heap.size then e.z n else e'.z n)=some (c,ty,fr):=hx
   split at hx'
   ·rename_i hn;rw [qn n hn];exact R.eU n c ty fr hx'
   ·exact S.eU n c ty fr hx'
  bp:=λn x hx=>by
   have hx':(if n<w.heap.size then e.z n else e'.z n)=some x:=hx
   split at hx'
   ·exact R.bp n x hx'
   ·exact .inr (by have:=R.size;omega)
  dU:=λg k xs hg=>(R.dU g k xs hg).imp λc ⟨t,fr,h1,h2⟩=>⟨t,fr,hle.z _ _ h1,h2⟩
  news:=λi p hi=>by
   rcases F3 i p hi with ⟨_,g1⟩|⟨_,g1⟩
   ·exact R.news i p g1
   ·exact .inr (by have:=R.size;have:=yP _ _ g1;omega)
  bA:=λi p hi=>(VA i p (R.bA i p hi)).1
  bM:=λn x hx=>hle.z n x (R.bM n x hx)
  n0:=R.n0,cI:=R.cI
  ew:=λi ps hi=>by
   rw [ld hfm,List.length_map] at hi
   split at hi
   ·rename_i hc
    rw [aaO] at hi
    cases hq:new[i-j]? with
    |none=>rw [hq] at hi;cases hi
    |some b=>
     rw [hq] at hi
     simp only [aaH,No] at hi
     cases b with
     |g _=>cases hi
     |b qs=>
      simp only [P2,Blk.b.injEq] at hi
      subst hi
      have wZ:e2.r i=e'.r (i-j):=by show (if _ then _ else _)=_;rw [aaM hc]
      rcases S.ew (i-j) qs hq with ⟨g1,g2⟩|⟨p,o,g1,g2,c,ty,rfl,g3,g4,g5⟩
      ·exact .inl ⟨by rw [b9];exact g1,by rw [wZ];exact g2⟩
      ·refine .inr ⟨p,_,by rw [wZ];exact g1,g2,c,ty,rfl,g3,by rw [b9];exact g4,?_⟩
       rw [b9]
       refine PR.jm (e:=e1) (e':=e2) (λ_ _ h=>h) yR qs _ (λb p _ hp=>Vz b p (Oj b p hp) hp) (F5 (λht=>?_) g5)
       have:=(hst ht).2 _ (aaG hq)
       exact this
   ·rename_i hc
    have wZ:e2.r i=e.r i:=by show (if _ then _ else _)=_;rw [aaC hc]
    rcases R.ew i ps hi with ⟨g1,g2⟩|⟨p,o,g1,g2,g3⟩
    ·exact .inl ⟨g1,by rw [wZ];exact g2⟩
    ·exact .inr ⟨p,o,by rw [wZ];exact g1,by rw [qn p.n (R.lt g1)];exact g2,g3.mono hle⟩
  gap:=λi g hi=>by
   rw [ld hfm,List.length_map] at hi
   split at hi
   ·rename_i hc
    rw [aaO] at hi
    cases hq:new[i-j]? with
    |none=>rw [hq] at hi;cases hi
    |some b=>
     cases b with
     |g g'=>
      rw [hq] at hi
      simp only [aaH,P2,No,Blk.g.injEq] at hi
      subst hi
      refine ⟨?_,trivial⟩
      show (if j<=i/\i<j+new.length then e'.r (i-j) else e.r i)=none
      rw [aaM hc]
      exact (S.gap _ _ hq).1
     |b qs=>rw [hq] at hi;cases hi
   ·rename_i hc
    refine ⟨?_,(R.gap i g hi).2.le (λn o hn=>by rw [qn n (aav.1 hn).1];exact hn) rfl hle⟩
    show (if j<=i/\i<j+new.length then e'.r (i-j) else e.r i)=none
    rw [aaC hc];exact (R.gap i g hi).1
  yi:=R.yi,yb:=R.yb
  old:=λn hn hno nI=>by rw [qn n (by have:=R.size;omega)];exact R.old n hn hno nI
  win:=λi p hi=>by
   obtain ⟨o,o',h1,h2,h3⟩:=R.win i p hi
   exact ⟨o,o',h1,by rw [qn p.n (R.lt (R.bA i p hi))];exact h2,h3⟩
  kr:=R.kr
  fO:=abi R.fO fe
  fc:=λr hr=>by
   have:=R.fc r hr
   rw [qn r (aav.1 this.1).1];exact this
  gJ:=R.gJ}
mutual
theorem vG {h:List Blk}:∀{v u:SV} {p t:Bool},bB [] v=some (u,p,t)->bB h v=some (u,p,t)/\t=false
 | .bool _,u,p,t,g=>by simp only [bB,No,aae] at g ⊢;exact ⟨g,g.2.2.symm⟩
 | .int _ _,u,p,t,g=>by simp only [bB,No,aae] at g ⊢;exact ⟨g,g.2.2.symm⟩
 | .str _,u,p,t,g=>by simp only [bB,No,aae] at g ⊢;exact ⟨g,g.2.2.symm⟩
 | .nl _,u,p,t,g=>by simp only [bB,No,aae] at g ⊢;exact ⟨g,g.2.2.symm⟩
 | .ints _ _ _,u,p,t,g=>by simp only [bB,No,aae] at g ⊢;exact ⟨g,g.2.2.symm⟩
 | .ro _ _ _,u,p,t,g=>by simp only [bB,No,aae] at g ⊢;exact ⟨g,g.2.2.symm⟩
 | .gf _ _,u,p,t,g=>by simp only [bB,No,aae] at g ⊢;exact ⟨g,g.2.2.symm⟩
 | .sl b o i z len cap ex wh,u,p,t,g=>by
  exfalso
  by_cases hz:z=1
  ·subst hz;simp [bB,cu] at g
  ·unfold bB at g
   split at g<;>first|(rename_i h1;cases h1;done)|skip
   all_goals first|(rename_i h1;cases h1;exact hz rfl)|(cases g)
 | .agg ps,u,p,t,g=>by
  simp only [bB] at g ⊢
  split at g
  ·rename_i l q t' hl
   obtain ⟨h1,h2⟩:=qo (h:=h) hl
   rw [h1]
   simp only [No,aae] at g ⊢
   exact ⟨g,by rw [<-g.2.2];exact h2⟩
  ·cases g
 | .iface ty x,u,p,t,g=>by
  simp only [bB] at g ⊢
  split at g
  ·rename_i y q t' hl
   obtain ⟨h1,h2⟩:=vG (h:=h) hl
   rw [h1]
   simp only [No,aae] at g ⊢
   exact ⟨g,by rw [<-g.2.2];exact h2⟩
  ·cases g
 | .ptr _ _ _,u,p,t,g=>by simp [bB] at g
 | .aJ _ _ _ _,u,p,t,g=>by simp only [bB,No,aae] at g ⊢;exact ⟨g,g.2.2.symm⟩
 | .oF _ _ _,u,p,t,g=>by simp [bB] at g
 | .rE _ _ _,u,p,t,g=>by simp [bB] at g
 | .lX _ _ _ _ _ _ _,u,p,t,g=>by simp [bB] at g
 | .bC _,u,p,t,g=>by simp [bB] at g
 | .fn _ _ _,u,p,t,g=>by simp [bB] at g
 | .rows _ _ _,u,p,t,g=>by simp [bB] at g
 | .bK _ _ _ _ _,u,p,t,g=>by simp [bB] at g
 | .dm _ _ _ _ _,u,p,t,g=>by simp [bB] at g
 | .qQ _,u,p,t,g=>by simp [bB] at g
 | .dU _ _,u,p,t,g=>by simp [bB] at g
theorem qo {h:List Blk}:∀{v u:List SV} {p t:Bool},ja [] v=some (u,p,t)->ja h v=some (u,p,t)/\t=false
 | [],u,p,t,g=>by simp only [ja,No,aae] at g ⊢;exact ⟨g,g.2.2.symm⟩
 |x::xs,u,p,t,g=>by
  simp only [ja] at g ⊢
  split at g
  ·rename_i y p1 a l q b hx hl
   obtain ⟨h1,h2⟩:=vG (h:=h) hx
   obtain ⟨h3,h4⟩:=qo (h:=h) hl
   rw [h1,h3]
   simp only [No,aae] at g ⊢
   exact ⟨g,by rw [<-g.2.2,h2,h4];rfl⟩
  ·cases g
end
theorem F6 {h:List Blk} {v u:List SV} {p t:Bool} (g:ja [] v=some (u,p,t)):ja h v=some (u,p,t)/\t=false:=qo g
structure Entry (P:Program) where
 f:FuncId
 g:List SV->List Blk->Nat->Option (SV×List Blk×List Blk×Bool)
 pf:Nat
 nb:Nat
 ok:∀vs h j v h' new,g vs h j=some (v,h',new,true)->∀(B:cP) (e:Env) (w:World) (args:List Value),LR e vs args->Rel B e h w->jO h j new.length->
  mh P (.func f) ⟨args⟩ w λv' w'=>∃e',VR e' v v'/\Rel B e' (bI h' j new) w'/\bW e e' none
 pu:(pf=0->∀vs h j v h' new p,g vs h j=some (v,h',new,p)->h'=h/\∀h2,g vs h2 j=some (v,h2,new,p))/\(pf=1->∀vs h j v h' new p,g vs h j=some (v,h',new,p)->h'=h/\∀h2,Dy h h2->g vs h2 j=some (v,h2,new,p))
def Entry.val (f:FuncId) (fn:Func) (hf:P.funcs[f]? =some fn) (hn:(fn.name != "runtime.NumGoroutine")=true) (hb:fn.body.isSome=true) (rd:Bool) (nb:Nat) (F:List SV->Option (SV×List Blk×Bool))
  (ok:∀vs v new,F vs=some (v,new,true)->ai P f vs [] v new):Entry P where
 f:=f
 g:=λvs h j=>match ja (match rd with|true=>h|false=>[]) vs with
  |some (us,p,t)=>match F us with
   |some (v,new,q)=>match t&&(eB v||new.any hY) with
    |true=>none
    |false=>some (jm (λb=>b+j) v,h,new.map (P2 j),aa p q)
   |none=>none
  |none=>none
 pf:=match rd with|true=>1|false=>0
 nb:=nb
 ok:=by
  intro vs h j v h' new g B e w args hl R hj
  split at g
  ·rename_i us p t hfz
   split at g
   ·rename_i u nw q hF
    split at g
    ·cases g
    ·rename_i hs
     simp only [No,aae,aC] at g
     obtain ⟨rfl,rfl,rfl,rfl,rfl⟩:=g
     have hst:t=true->eB u=false/\∀b∈nw,hY b=false:=λht=>by
      rw [ht,abb,adZ] at hs
      refine ⟨hs.1,λb hb=>?_⟩
      cases hq:hY b with
      |false=>rfl
      |true=>
       have:nw.any hY=true:=aaT.2 ⟨b,hb,hq⟩
       rw [this] at hs;cases hs.2
     have JT:fn.body≠none:=λq=>by rw [q] at hb;cases hb
     refine .inr ⟨eK hf (by simpa using hn) JT _ w,?_⟩
     cases rd with
     |true=>exact mZ (ok us u nw hF) hfz hst hl R (by simpa using hj)
     |false=>
      -- no tracked slice was read: the blocks do not abg
      have P3:ja h vs=some (us,true,t)/\t=false:=F6 hfz
      exact mZ (ok us u nw hF) P3.1 hst hl R (by simpa using hj)
   ·cases g
  ·cases g
 pu:=by
  constructor
  ·intro h0 vs h j v h' new p g
   cases rd with
   |true=>cases h0
   |false=>
    simp only at g ⊢
    split at g
    ·rename_i us p1 t hfz
     split at g
     ·rename_i u nw q hF
      split at g
      ·cases g
      ·rename_i hs
       simp only [No,aae] at g
       obtain ⟨rfl,rfl,rfl,rfl⟩:=g
       exact ⟨rfl,λh2=>rfl⟩
     ·cases g
    ·cases g
  ·intro _ vs h j v h' new p g
   split at g
   ·rename_i us p1 t hfz
    split at g
    ·rename_i u nw q hF
     split at g
     ·cases g
     ·rename_i hs
      simp only [No,aae] at g
      obtain ⟨rfl,rfl,rfl,rfl⟩:=g
      refine ⟨rfl,λh2 hle=>?_⟩
      cases rd with
      |false=>rw [hfz];simp only;rw [hF];simp only;rw [hs]
      |true=>
       have P3:=w5 hle hfz
       simp only
       rw [P3];simp only;rw [hF];simp only;rw [hs]
    ·cases g
   ·cases g
def mk (es:List (Entry P)) (inl:List (FuncId×Func)) (sym:Tmp->Option Bool:=λ_=>none) (ey:Tmp->Bool:=λ_=>false):bO where
 sym:=sym
 ey:=ey
 g:=λf vs h j=>match es.find? (λe=>e.f==f) with
  |some e=>e.g vs h j
  |none=>none
 inl:=λf=>(inl.find? λe=>e.1==f).map (·.2)
 pf:=λf=>match inl.find? (λe=>e.1==f) with
  |some _=>2
  |none=>match es.find? (λe=>e.f==f) with
   |some e=>e.pf
   |none=>2
 nb:=λf=>match es.find? (λe=>e.f==f) with
  |some e=>e.nb
  |none=>0
def aL (P:Program) (inl:List (FuncId×Func)):Prop:=∀x∈inl,P.funcs[x.1]? =some x.2/\(x.2.name != "runtime.NumGoroutine")=true
theorem aL.nil:aL P []:=λ_ h=>by cases h
theorem aL.cons {f:FuncId} {fn:Func} {l:List (FuncId×Func)} (hf:P.funcs[f]? =some fn) (hn:(fn.name != "runtime.NumGoroutine")=true) (h:aL P l):aL P ((f,fn)::l):=λx hx=>by
 rcases ad2.1 hx with rfl|hx
 ·exact ⟨hf,hn⟩
 ·exact h x hx
theorem az (es:List (Entry P)) {inl:List (FuncId×Func)} (hi:aL P inl) (sym:Tmp->Option Bool) (ey:Tmp->Bool):ak P (mk es inl sym ey) where
 wV:=λl vs h v h' g=>by cases g
 calls:=by
  intro f vs h j v h' new g
  simp only [mk] at g
  split at g
  ·rename_i x hx
   have:=List.find?_some hx
   simp only [aaS] at this
   subst this
   exact x.ok vs h j v h' new g
  ·cases g
 pure:=by
  have key:∀(f:FuncId) (m:Nat),(mk es inl sym ey).pf f=m->m≠2->∃x:Entry P,es.find? (λe=>e.f==f)=some x/\x.pf=m:=λf m h hm=>by
   simp only [mk] at h
   split at h
   ·omega
   ·split at h
    ·rename_i x hx;exact ⟨x,hx,h⟩
    ·omega
  refine ⟨λf hf vs h j v h' new p g=>?_,λf hf vs h j v h' new p g=>?_⟩
  ·obtain ⟨x,hx,hp⟩:=key f 0 hf (by omega)
   simp only [fnG,mk,hx] at g ⊢
   exact x.pu.1 hp vs h j v h' new p g
  ·obtain ⟨x,hx,hp⟩:=key f 1 hf (by omega)
   simp only [fnG,mk,hx] at g ⊢
   exact x.pu.2 hp vs h j v h' new p g
 inl:=by
  intro f fn g
  simp only [mk] at g ⊢
  obtain ⟨x,hx,rfl⟩:=aag.1 g
  have h1:=List.find?_some hx
  simp only [aaS] at h1
  subst h1
  obtain ⟨h2,h3⟩:=hi x (List.mem_of_find?_eq_some hx)
  refine ⟨h2,by simpa using h3,?_⟩
  rw [hx];simp
end
end Go.Sy
namespace Go.Sy
open Go
def slotsOf (n:Nat) (l:List (Nat×SV)):List (Option SV):=(List.range n).map λi=>(l.find? λp=>p.1==i).map (·.2)
def F7 (live:List Nat) (t:List (Option SV)):List (Option SV):=t.zipIdx.map λ(v,i)=>if live.contains i then v else none
def St.keep (live:List Nat) (s:St):St:=⟨F7 live s.t,s.h,s.ob⟩
def bE (k:Nat) (s s':St):Prop:=∀(B:cP) (e:Env) (w:World) (t':List Value),B.k<=k->TR e s.t t'->Rel B e s.h w->∃e',e'.m=e.m/\TR e' s'.t t'/\Rel B e' s'.h w
theorem bE.refl (k:Nat) (s:St):bE k s s:=λ_ e _ _ _ hl R=>⟨e,rfl,hl,R⟩
theorem bE.trans {k:Nat} {a b c:St} (h:bE k a b) (g:bE k b c):bE k a c:=λB e w t' hB hl R=>by
 obtain ⟨e1,h1,h2,h3⟩:=h B e w t' hB hl R
 obtain ⟨e2,h4,h5,h6⟩:=g B e1 w t' hB h2 h3
 exact ⟨e2,h4.trans h1,h5,h6⟩
theorem bE.same {k:Nat} {s s':St} (h1:s.t=s'.t) (h2:s.h=s'.h):bE k s s':=λ_ e _ _ _ hl R=>⟨e,rfl,by rw [<-h1];exact hl,by rw [<-h2];exact R⟩
def VE (v v':SV):Prop:=∀(e:Env) (x:Value),VR e v x->VR e v' x
def PE (ps qs:List SV):Prop:=av qs=av ps/\∀(e:Env) (xs:List Value),PR e ps xs->PR e qs xs
theorem bE.mono {k:Nat} {s s':St} (hl:s.t.length=s'.t.length) (ht:∀(i:Nat) (v':SV),s'.t[i]? =some (some v')->∃v,s.t[i]? =some (some v)/\VE v v')
  (hn:s'.h.length=s.h.length) (hh:∀(i:Nat) (qs:List SV),s'.h[i]? =some (.b qs)->∃ps,s.h[i]? =some (.b ps)/\PE ps qs) (hg:∀(i:Nat) (g:Option Lp),s'.h[i]? =some (.g g)->s.h[i]? =some (.g g)):bE k s s':=
 λB e w t' hB hlr R=>⟨e,rfl,⟨hl.symm.trans hlr.1,λi v' x h1 h2=>by
  obtain ⟨v,h3,h4⟩:=ht i v' h1
  exact h4 e x (hlr.2 i v x h3 h2)⟩,{R with
   dom:=λi p hi=>by rw [hn];exact R.dom i p hi
   ew:=λi qs hi=>by
    obtain ⟨ps,h1,h2,h3⟩:=hh i qs hi
    rcases R.ew i ps h1 with ⟨g1,g2⟩|⟨p,o,g1,g2,c,t,rfl,g3,g4,g5⟩
    ·exact .inl ⟨by rw [h2];exact g1,g2⟩
    ·exact .inr ⟨p,_,g1,g2,c,t,rfl,g3,by rw [h2];exact g4,by rw [h2];exact h3 e _ g5⟩
   gap:=λi g hi=>R.gap i g (hg i g hi)
   fO:=by rw [hn];exact R.fO}⟩
theorem bE.slots {k:Nat} {s s':St} (hl:s.t.length=s'.t.length) (ht:∀(i:Nat) (v':SV),s'.t[i]? =some (some v')->s.t[i]? =some (some v')) (hh:s.h=s'.h):bE k s s':=
 λ_ e _ _ _ hlr R=>⟨e,rfl,⟨hl.symm.trans hlr.1,λi v' x h1 h2=>hlr.2 i v' x (ht i v' h1) h2⟩,by rw [<-hh];exact R⟩
theorem bE.keep (k:Nat) (live:List Nat) (s:St):bE k s (s.keep live):=bE.slots (by simp [St.keep,F7]) (λi v e=>by
  simp only [St.keep,F7,aaO,List.getElem?_zipIdx] at e
  cases h:s.t[i]? with
  |none=>simp [h] at e
  |some x=>
   simp only [h,aaH,No] at e
   split at e
   ·rw [e]
   ·cases e) rfl
def F8 (n:Nat):Blk->Bool
 | .b ps=>dY (List.range n) ps
 | .g (some L)=>L.t.all λo=>match o with|some v=>cC (List.range n) v|none=>true
 | .g none=>true
def St.dn (n:Nat) (s:St):Option St:=
 if s.t.all (λo=>match o with|some v=>cC (List.range n) v|none=>true)&&(s.h.take n).all (F8 n) then some ⟨s.t,s.h.take n,s.ob⟩ else none
theorem bE.dn {k n:Nat} (hk:k<=n) {s s':St} (h:s.dn n=some s'):bE k s s':=by
 unfold St.dn at h
 split at h
 ·rename_i hc
  cases h
  simp only [aac,aah] at hc
  obtain ⟨h1,h2⟩:=hc
  intro B e w t' hB hl R
  let e':Env:={e with r:=λi=>if i<n then e.r i else none}
  have hr:∀i p,e'.r i=some p->i<n/\e.r i=some p:=λi p hi=>by
   have hi':(if i<n then e.r i else none)=some p:=hi
   split at hi'
   ·rename_i hc;exact ⟨hc,hi'⟩
   ·cases hi'
  have hr':∀i,i<n->e'.r i=e.r i:=λi hi=>aaM hi
  have up:∀j p,j∈List.range n->e.r j=some p->e'.r j=some p:=λj p hj hp=>by rw [hr' j (aan.1 hj)];exact hp
  have hkn:∀i p,B.e.r i=some p->i<n:=λi p hi=>by have:=R.kr i p hi;omega
  refine ⟨e',rfl,⟨hl.1,λi v v' g1 g2=>?_⟩,?_⟩
  ·have:=h1 _ (aaG g1)
   exact VR.mono' (e:=e) (e':=e') (λ_ _ h=>h) (aaf _) v v' (λj p hu hp=>up j p (gW this hu) hp) (hl.2 i v v' g1 g2)
  ·have tk:∀i x,(s.h.take n)[i]? =some x->i<n/\s.h[i]? =some x:=λi x hi=>by
    rw [aa8] at hi
    split at hi
    ·rename_i hc;exact ⟨hc,hi⟩
    ·cases hi
   exact {R with
    inj:=λi j p q hi hj=>R.inj i j p q (hr i p hi).2 (hr j q hj).2
    dom:=λi p hi=>by
     obtain ⟨g1,g2⟩:=hr i p hi
     have:=R.dom i p g2
     rw [aaU];omega
    sep:=λi p hi=>R.sep i p (hr i p hi).2
    news:=λi p hi=>R.news i p (hr i p hi).2
    bA:=λi p hi=>by rw [hr' i (hkn i p hi)];exact R.bA i p hi
    ew:=λi ps hi=>by
     obtain ⟨g1,g2⟩:=tk i _ hi
     have hu:=h2 _ (aaG hi)
     rcases R.ew i ps g2 with ⟨q1,q2⟩|⟨p,o,q1,q2,c,t,rfl,q3,q4,q5⟩
     ·exact .inl ⟨q1,by rw [hr' i g1];exact q2⟩
     ·exact .inr ⟨p,_,by rw [hr' i g1];exact q1,q2,c,t,rfl,q3,q4,PR.mono' (e:=e) (e':=e') (λ_ _ h=>h) (aaf _) ps _ (λj p lG hp=>up j p (dJ hu lG) hp) q5⟩
    gap:=λi g hi=>by
     obtain ⟨g1,g2⟩:=tk i _ hi
     have hu:=h2 _ (aaG hi)
     refine ⟨by rw [hr' i g1];exact (R.gap i g g2).1,(R.gap i g g2).2.keep (λ_ _ h=>h) rfl λL hL v v' hv DB=>?_⟩
     subst hL
     have:=aah.1 hu (some v) hv
     exact VR.mono' (e:=e) (e':=e') (λ_ _ h=>h) (aaf _) v v' (λj p lG hp=>up j p (gW this lG) hp) DB
    fO:=by have:=R.fO;rw [aaU];omega}
 ·cases h
def St.cut (live:List Nat) (n:Nat) (s:St):Option St:=(s.keep live).dn n
theorem bE.cut {k n:Nat} {live:List Nat} (hk:k<=n) {s s':St} (h:s.cut live n=some s'):bE k s s':=(bE.keep k live s).trans (bE.dn hk h)
section
variable {P:Program} {ro:Option Nat} {k:Nat}
theorem Tr.pre {c:Code} {s s1 s':St} {x:Exit} (h:Tr P ro k c s1 x s') (g:bE k s s1):Tr P ro k c s x s':=
 λB e w t' d Q nn hB hl R hQ=>by
  obtain ⟨e1,h1,h2,h3⟩:=g B e w t' hB hl R
  rw [<-h1]
  exact h B e1 w t' d Q nn hB h2 h3 hQ
theorem Tr.post {c:Code} {s s1 s':St} {x:Exit} (h:Tr P ro k c s x s1) (g:bE k s1 s'):Tr P ro k c s x s':=
 λB e w t' d Q nn hB hl R hQ=>h B e w t' d Q nn hB hl R λe2 w2 t2 iI R2=>by
  obtain ⟨e1,h1,h2,h3⟩:=g B e2 w2 t2 hB iI R2
  rw [<-h1]
  exact hQ e1 w2 t2 h2 h3
theorem TrR.pre {c:Code} {s s1 s':St} {x:Exit} (h:TrR P ro k c s1 x s') (g:bE k s s1):TrR P ro k c s x s':=by
 obtain ⟨m,hm⟩:=h
 refine ⟨m,λB e w t' d Q nn hB hl R hQ=>?_⟩
 obtain ⟨e1,h1,h2,h3⟩:=g B e w t' hB hl R
 rw [<-h1]
 exact hm B e1 w t' d Q nn hB h2 h3 hQ
theorem Tr.cut {Γ:bO} (hΓ:ak P Γ) (n:Nat) (live:List Nat) (m:Nat) (hm:k<=m) {c:Code} {s s':St} {x:Exit} (e:(Sy.exec P Γ n k c s).bind (λr=>(r.2.cut live m).map λq=>(r.1,q))=some (x,s')) (cA:s'.ob=true):Tr P ro k c s x s':=by
 obtain ⟨⟨y,s1⟩,h1,e⟩:=aaF.1 e
 obtain ⟨s2,h2,q⟩:=aag.1 e
 cases q
 refine (Tr.exec hΓ h1 ?_).post (bE.cut hm h2)
 unfold St.cut St.dn at h2
 split at h2
 ·cases h2;exact cA
 ·cases h2
theorem Tr.keep {Γ:bO} (hΓ:ak P Γ) (n:Nat) (live:List Nat) {c:Code} {s s':St} {x:Exit} (e:(Sy.exec P Γ n k c s).map (λr=>(r.1,r.2.keep live))=some (x,s')) (cA:s'.ob=true):Tr P ro k c s x s':=by
 obtain ⟨⟨y,s1⟩,h1,q⟩:=aag.1 e
 simp only [aae] at q
 obtain ⟨rfl,rfl⟩:=q
 exact (Tr.exec hΓ h1 cA).post (bE.keep k live s1)
def aP (fn:Func):Code:=fn.body.getD .skip
def atoms:Code->List Code
 | .seq a b=>atoms a++atoms b
 |c=>[c]
def au (n:Nat) (c:Code):Code:=(atoms c).getD n .skip
def inner:Code->Code
 | .block _ b=>b
 | .loop b=>b
 | .scope b=>b
 |c=>c
def n9 (id:Nat):Code->Bool
 | .block j (.loop _)=>j==id
 |_=>false
def aV (P:Program) (ro:Option Nat) (k:Nat):List Code->St->Exit->St->Prop
 | [],s,x,s'=>x= .normal/\s'=s
 |a::l,s,x,s'=>(∃s1,Tr P ro k a s .normal s1/\aV P ro k l s1 x s')\/(x≠.normal/\Tr P ro k a s x s')
theorem aV.append:∀(l1:List Code) {l2:List Code} {s s':St} {x:Exit},aV P ro k (l1++l2) s x s'->(∃s1,aV P ro k l1 s .normal s1/\aV P ro k l2 s1 x s')\/(x≠.normal/\aV P ro k l1 s x s')
 | [],_,s,_,_,h=>.inl ⟨s,⟨rfl,rfl⟩,h⟩
 |a::l1,l2,s,s',x,h=>by
  rcases h with ⟨s1,h1,h2⟩|⟨hx,h1⟩
  ·rcases aV.append l1 h2 with ⟨s2,h3,h4⟩|⟨hx,h3⟩
   ·exact .inl ⟨s2,.inl ⟨s1,h1,h3⟩,h4⟩
   ·exact .inr ⟨hx,.inl ⟨s1,h1,h3⟩⟩
  ·exact .inr ⟨hx,.inr ⟨hx,h1⟩⟩
theorem aV.single {c:Code} {s s':St} {x:Exit} (h:aV P ro k [c] s x s'):Tr P ro k c s x s':=by
 rcases h with ⟨s1,h1,rfl,rfl⟩|⟨_,h1⟩
 ·exact h1
 ·exact h1
theorem Tr.dr:∀{c:Code} {s s':St} {x:Exit},aV P ro k (atoms c) s x s'->Tr P ro k c s x s':=by
 intro c
 induction c with
 |seq a b iha ihb=>
  intro s s' x h
  rcases aV.append (atoms a) h with ⟨s1,h1,h2⟩|⟨hx,h1⟩
  ·exact Tr.seq (iha h1) (ihb h2)
  ·exact Tr.j7 (iha h1) hx
 |_=>intro s s' x h;exact aV.single h
def aE (P:Program) (Γ:bO) (n k:Nat):Nat->List Code->St->Option St
 |0,_,s=>some s
 |m+1,a::l,s=>match exec P Γ n k a s with
  |some (.normal,s')=>aE P Γ n k m l s'
  |_=>none
 |_+1,[],_=>none
def cn (P:Program) (Γ:bO) (n k:Nat):List Code->St->Option (Exit×St)
 | [],s=>some (.normal,s)
 |a::l,s=>match exec P Γ n k a s with
  |some (.normal,s')=>cn P Γ n k l s'
  |r=>r
theorem mA {Γ:bO} (hΓ:ak P Γ) (n:Nat):∀(m:Nat) {l:List Code} {s s1 s':St} {x:Exit},aE P Γ n k m l s=some s1->s1.ob=true->aV P ro k (l.drop m) s1 x s'->aV P ro k l s x s'/\s.ob=true
 |0,l,s,s1,s',x,e,cA,h=>by simp only [aE,No] at e;subst e;exact ⟨by simpa using h,cA⟩
 |m+1,[],s,s1,s',x,e,_,_=>by simp [aE] at e
 |m+1,a::l,s,s1,s',x,e,cA,h=>by
  simp only [aE] at e
  split at e
  ·rename_i s2 h2
   obtain ⟨h3,h4⟩:=mA hΓ n m e cA (by simpa only [List.drop_succ_cons] using h)
   exact ⟨.inl ⟨s2,Tr.exec hΓ h2 h4,h3⟩,dz n k a s s2 _ h2 h4⟩
  ·cases e
theorem qZ {Γ:bO} (hΓ:ak P Γ) (n:Nat):∀{l:List Code} {s s':St} {x:Exit},cn P Γ n k l s=some (x,s')->s'.ob=true->aV P ro k l s x s'/\s.ob=true
 | [],s,s',x,e,cA=>by simp only [cn,No,aae] at e;obtain ⟨rfl,rfl⟩:=e;exact ⟨⟨rfl,rfl⟩,cA⟩
 |a::l,s,s',x,e,cA=>by
  simp only [cn] at e
  split at e
  ·rename_i s2 h2
   obtain ⟨h3,h4⟩:=qZ hΓ n e cA
   exact ⟨.inl ⟨s2,Tr.exec hΓ h2 h4,h3⟩,dz n k a s s2 _ h2 h4⟩
  ·rename_i hne
   have hx:x≠.normal:=λq=>by subst q;exact hne s' e
   exact ⟨.inr ⟨hx,Tr.exec hΓ e cA⟩,dz n k a s s' x e cA⟩
theorem aV.pre:∀{l:List Code} {s s1 s':St} {x:Exit},aV P ro k l s1 x s'->bE k s s1->l≠[]->aV P ro k l s x s'
 | [],_,_,_,_,_,_,h=>absurd rfl h
 |_::_,_,_,_,_,.inl ⟨s2,h1,h2⟩,g,_=>.inl ⟨s2,h1.pre g,h2⟩
 |_::_,_,_,_,_,.inr ⟨hx,h1⟩,g,_=>.inr ⟨hx,h1.pre g⟩
theorem aV.items {Γ:bO} (hΓ:ak P Γ) (n m:Nat) (live:List Nat) (j:Nat) (hj:k<=j) {l:List Code} {s s1 s':St} {x:Exit} (e:(aE P Γ n k m l s).bind (St.cut live j)=some s1) (cA:s1.ob=true) (hl:m<l.length) (h:aV P ro k (l.drop m) s1 x s'):aV P ro k l s x s':=by
 obtain ⟨s2,h2,h3⟩:=aaF.1 e
 refine (mA hΓ n m h2 ?_ (h.pre (bE.cut hj h3) (by intro q;have:=adX List.length q;simp at this;omega))).1
 unfold St.cut St.dn at h3
 split at h3
 ·cases h3;exact cA
 ·cases h3
theorem aV.item (m:Nat) {c:Code} {s s1 s':St} {x:Exit} (hm:m<(atoms c).length) (h1:Tr P ro k (au m c) s .normal s1) (h2:aV P ro k ((atoms c).drop (m+1)) s1 x s'):aV P ro k ((atoms c).drop m) s x s':=by
 rw [List.drop_eq_getElem_cons hm]
 refine .inl ⟨s1,?_,h2⟩
 have:au m c=(atoms c)[m]:=by simp [au,List.getD,aai hm]
 rwa [this] at h1
theorem aV.leave (m:Nat) {c:Code} {s s':St} {x:Exit} (hm:m<(atoms c).length) (hx:x≠.normal) (h1:Tr P ro k (au m c) s x s'):aV P ro k ((atoms c).drop m) s x s':=by
 rw [List.drop_eq_getElem_cons hm]
 refine .inr ⟨hx,?_⟩
 have:au m c=(atoms c)[m]:=by simp [au,List.getD,aai hm]
 rwa [this] at h1
theorem aV.rest {Γ:bO} (hΓ:ak P Γ) (n:Nat) {l:List Code} {s s':St} {x:Exit} (e:cn P Γ n k l s=some (x,s')) (cA:s'.ob=true):aV P ro k l s x s':=(qZ hΓ n e cA).1
theorem Tr.loop (id:Nat) {c:Code} {s':St} (hc:n9 id c=true) (f:Nat->St) (N:Nat) (hb:∀i,i<N->Tr P ro k (inner (inner c)) (f i) .normal (f (i+1))) (hl:Tr P ro k (inner (inner c)) (f N) (.exit id) s'):Tr P ro k c (f 0) .normal s':=by
 cases c<;>simp [n9] at hc
 rename_i j b
 cases b<;>simp at hc
 subst hc
 exact Tr.block (TrR.loop (TrR.for (by simp) f N hb hl))
theorem Tr.rZ (id:Nat) {c:Code} {s s':St} (hc:n9 id c=true) (h:TrR P ro k (inner (inner c)) s .ret s'):Tr P ro k c s .ret s':=by
 cases c<;>simp [n9] at hc
 rename_i j b
 cases b<;>simp at hc
 subst hc
 exact Tr.b8 (TrR.loop h) (by simp)
theorem ai.mk {f:FuncId} {fn:Func} (hf:P.funcs[f]? =some fn) {args:List SV} {h:List Blk} {x:Exit} {s:St} {vs:List SV} (hb:fn.body.isSome=true) (ht:aV P none h.length (atoms (aP fn)) ⟨aD fn.ntmps args,h,true⟩ x s) (hx:x= .ret\/x= .normal)
  (hr:iD P s.t s.h fn.results.toList=some (vs,true)):ai P f args h (oneOf vs) s.h:=by
 obtain ⟨c,hc⟩:=Option.isSome_iff_exists.1 hb
 exact ai.F1 hf hc hx (Tr.dr (by simpa [aP,hc] using ht)) hr
theorem ai.rest {Γ:bO} (hΓ:ak P Γ) (n m:Nat) {f:FuncId} {fn:Func} (hf:P.funcs[f]? =some fn) {args:List SV} {h h':List Blk} {s:St} {v:SV} {p:Bool} (hb:fn.body.isSome=true)
  (ht:∀s' x,aV P none h.length ((atoms (aP fn)).drop m) s x s'->aV P none h.length (atoms (aP fn)) ⟨aD fn.ntmps args,h,true⟩ x s')
  (e:((cn P Γ n h.length ((atoms (aP fn)).drop m) s).bind λr=>match r.1 with
   | .ret| .normal=>(iD P r.2.t r.2.h fn.results.toList).map λq=>(oneOf q.1,r.2.h,aa r.2.ob q.2)
   |_=>none)=some (v,h',p)) (hp:p=true):ai P f args h v h':=by
 obtain ⟨⟨x,s'⟩,h1,e⟩:=aaF.1 e
 subst hp
 have key:∀(_:x= .ret\/x= .normal),((iD P s'.t s'.h fn.results.toList).map λq=>(oneOf q.1,s'.h,aa s'.ob q.2))=some (v,h',true)->ai P f args h v h':=λhx e=>by
  obtain ⟨⟨vs,q⟩,hr,e⟩:=aag.1 e
  simp only [aae,aC] at e
  obtain ⟨rfl,rfl,cA,rfl⟩:=e
  exact ai.mk hf hb (ht s' x (aV.rest hΓ n h1 cA)) hx hr
 cases x<;>simp only at e<;>first|exact key (by simp) e|cases e
theorem ai.post {f:FuncId} {args:List SV} {h h1 h2:List Blk} {v v2:SV} (g:ai P f args h v h1) (q:bE h.length ⟨[some v],h1,true⟩ ⟨[some v2],h2,true⟩):ai P f args h v2 h2:=by
 intro B e w args' hB hl R
 refine (g B e w args' hB hl R).mono ?_
 rintro en w' ⟨v',rfl,e1,hm,hv,R1⟩
 obtain ⟨e2,hm2,iI,R2⟩:=q B e1 w' [v'] hB ⟨rfl,λi u u' h1 h2=>by
  have hi:=(aal.1 h1).1
  simp at hi;subst hi;simp at h1 h2;subst h1;subst h2;exact hv⟩ R1
 exact ⟨v',rfl,e2,hm2.trans hm,iI.2 0 v2 v' rfl rfl,R2⟩
theorem ai.pre {f:FuncId} {args args2:List SV} {h h2:List Blk} {h1:List Blk} {v:SV} (g:ai P f args2 h2 v h1) (hk:h.length=h2.length) (q:bE h.length ⟨args.map some,h,true⟩ ⟨args2.map some,h2,true⟩):ai P f args h v h1:=by
 intro B e w args' hB hl R
 have hlen:=hl.length
 obtain ⟨e2,hm2,iI,R2⟩:=q B e w args' hB ⟨by simp [hlen],λi u u' h1 h2=>by
  rw [aaO] at h1
  obtain ⟨x,hx,hxe⟩:=aag.1 h1
  cases hxe
  obtain ⟨y,hy,hv⟩:=hl.get hx
  rw [h2] at hy;cases hy;exact hv⟩ R
 have hl3:LR e2 args2 args':=by
  have:∀(as:List SV) (bs:List Value),as.length=bs.length->(∀(i:Nat) (v:SV) (v':Value),as[i]? =some v->bs[i]? =some v'->VR e2 v v')->LR e2 as bs:=by
   intro as
   induction as with
   |nil=>intro bs h _;cases bs<;>simp at h;rfl
   |cons a as ih=>
    intro bs h g
    cases bs with
    |nil=>simp at h
    |cons b bs=>exact ⟨b,bs,g 0 a b rfl rfl,ih bs (by simpa using h) (λi v v' h1 h2=>g (i+1) v v' (by simpa using h1) (by simpa using h2)),rfl⟩
  refine this args2 args' (by simpa using iI.1) λi v v' h1 h2=>iI.2 i v v' (by simp [h1]) h2
 refine (g B e2 w args' (by omega) hl3 R2).mono ?_
 rintro en w' ⟨v',rfl,e3,hm3,hv,R3⟩
 exact ⟨v',rfl,e3,hm3.trans hm2,hv,R3⟩
end
end Go.Sy
