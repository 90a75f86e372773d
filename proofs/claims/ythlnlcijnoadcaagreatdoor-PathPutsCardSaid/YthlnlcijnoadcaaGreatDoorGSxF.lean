/- This file holds the texts SxD, SxE, SxF, a section each. No conditions beyond those in the theorems. -/
import Derived.Test.YthlnlcijnoadcaaGreatDoorGSxC
noncomputable section
set_option linter.all false
section
namespace Go.Sy
open Go
section
variable {P:Program} {ro:Option Nat} {k:Nat}
def aA (r:Option (Exit×St)):Option (Exit×List (Option SV)×List Blk):=r.map λq=>(q.1,q.2.t,q.2.h)
def aZ (r:Option (Exit×St)):Bool:=match r with
 |some q=>q.2.ob
 |none=>false
def ah (live:List Nat) (m:Nat) (r:Option (Exit×St)):Option (Exit×St):=r.bind λq=>(q.2.cut live m).map λs=>(q.1,s)
theorem Tr.aR {Γ:bO} (hΓ:ak P Γ) (n:Nat) (live:List Nat) (m:Nat) (hm:k<=m) {c:Code} {s s':St} {x:Exit} (ob:Bool) (e:aA (ah live m (Sy.exec P Γ n k c s))=some (x,s'.t,s'.h)) (cA:aZ (ah live m (Sy.exec P Γ n k c s))=ob) (h:ob=true):Tr P ro k c s x s':=by
 unfold aA ah at e
 unfold aZ ah at cA
 cases hr:(Sy.exec P Γ n k c s).bind λq=>(q.2.cut live m).map λs=>(q.1,s) with
 |none=>rw [hr] at e;cases e
 |some q=>
  obtain ⟨y,s1⟩:=q
  rw [hr] at e cA
  simp only [aaH,No,aae] at e
  obtain ⟨rfl,h1,h2⟩:=e
  exact Tr.post (Tr.cut hΓ n live m hm hr (cA.trans h)) (bE.same h1 h2)
theorem aV.bk {Γ:bO} (hΓ:ak P Γ) (n m:Nat) (live:List Nat) (j:Nat) (hj:k<=j) {l:List Code} {s s1 s':St} {x:Exit} (ob:Bool) (e:aA (ah live j ((aE P Γ n k m l s).map λs=>(Exit.normal,s)))=some (.normal,s1.t,s1.h))
  (cA:aZ (ah live j ((aE P Γ n k m l s).map λs=>(Exit.normal,s)))=ob) (h:ob=true) (hl:m<l.length) (hs:s1.ob=true) (g:aV P ro k (l.drop m) s1 x s'):aV P ro k l s x s':=by
 unfold aA ah at e
 unfold aZ ah at cA
 cases hr:aE P Γ n k m l s with
 |none=>rw [hr] at e;cases e
 |some q=>
  rw [hr] at e cA
  simp only [aaH,Option.bind_some] at e cA
  cases hc:q.cut live j with
  |none=>rw [hc] at e;cases e
  |some q2=>
   rw [hc] at e cA
   simp only [aaH,No,aae,true_and] at e cA
   obtain ⟨h1,h2⟩:=e
   have:q2=s1:=by
    obtain ⟨t,b,o⟩:=q2
    obtain ⟨t1,b1,o1⟩:=s1
    simp only at h1 h2 hs cA
    subst h1 h2 hs cA h
    rfl
   subst this
   exact aV.items hΓ n m live j hj (by rw [hr];exact hc) hs hl g
def b6 (b:Nat->Bool) (N:Nat):Option Nat:=(List.range N).find? λi=>!b i
theorem cS {b:Nat->Bool} {N:Nat} (h:b6 b N=none):∀i,i<N->b i=true:=λi hi=>by
 have:=List.find?_eq_none.1 h i (aan.2 hi)
 simpa using this
theorem cX {b:Nat->Bool}:∀{N i:Nat},b6 b N=some i->i<N/\b i=false/\∀j,j<i->b j=true:=by
 intro N
 induction N with
 |zero=>intro i h;simp [b6] at h
 |succ N ih=>
  intro i h
  unfold b6 at h ih
  rw [List.range_succ,List.find?_append] at h
  cases hq:(List.range N).find? (λi=>!b i) with
  |some j=>
   rw [hq] at h
   simp only [Option.some_or,No] at h
   subst h
   obtain ⟨h1,h2,h3⟩:=ih hq
   exact ⟨by omega,h2,h3⟩
  |none=>
   rw [hq] at h
   simp only [Option.none_or,List.find?_cons,List.find?_nil] at h
   split at h
   ·rename_i hb
    cases h
    exact ⟨by omega,by simpa using hb,λj hj=>cS hq j hj⟩
   ·cases h
theorem cY (b:Nat->Bool) (N:Nat):(b6 b N).isNone=(List.range N).all b:=by
 unfold b6
 cases h:(List.range N).all b with
 |true=>
  have:=aah.1 h
  rw [show (List.range N).find? (λi=>!b i)=none from List.find?_eq_none.2 λi hi=>by simp [this i hi]]
  rfl
 |false=>
  cases hq:(List.range N).find? (λi=>!b i) with
  |some j=>rfl
  |none=>
   exfalso
   have:(List.range N).all b=true:=aah.2 λi hi=>by
    have:=List.find?_eq_none.1 hq i hi
    simpa using this
   rw [h] at this;cases this
def bP {α:Type} (b:Nat->Bool) (N:Nat) (vF:Nat->α) (vE:α):α:=match b6 b N with
 |some i=>vF i
 |none=>vE
theorem ai.scan {f:FuncId} {fn:Func} (hf:P.funcs[f]? =some fn) (hb:fn.body.isSome=true) {args:List SV} {h h':List Blk} (m id:Nat) (S:Nat->St) (b:Nat->Bool) (N:Nat)
  (head:∀x s',aV P none h.length ((atoms (aP fn)).drop m) (S 0) x s'->aV P none h.length (atoms (aP fn)) ⟨aD fn.ntmps args,h,true⟩ x s')
  (hm:m<(atoms (aP fn)).length) (hl:n9 id (au m (aP fn))=true)
  (step:∀i,i<N->b i=true->(∀j,j<i->b j=true)->Tr P none h.length (inner (inner (au m (aP fn)))) (S i) .normal (S (i+1)))
  (sF:Nat->St) (vF:Nat->List SV) (out:∀i,i<N->b i=false->(∀j,j<i->b j=true)->Tr P none h.length (inner (inner (au m (aP fn)))) (S i) .ret (sF i)/\iD P (sF i).t (sF i).h fn.results.toList=some (vF i,true)/\(sF i).h=h')
  {sE uM:St} {vE:List SV} {xE:Exit} (fin:(∀i,i<N->b i=true)->Tr P none h.length (inner (inner (au m (aP fn)))) (S N) (.exit id) sE)
  (rest:(∀i,i<N->b i=true)->aV P none h.length ((atoms (aP fn)).drop (m+1)) sE xE uM/\(xE= .ret\/xE= .normal)/\iD P uM.t uM.h fn.results.toList=some (vE,true)/\uM.h=h'):
  ai P f args h (oneOf (bP b N vF vE)) h':=by
 unfold bP
 cases hq:b6 b N with
 |some i=>
  obtain ⟨h1,h2,h3⟩:=cX hq
  obtain ⟨g1,g2,g3⟩:=out i h1 h2 h3
  rw [<-g3]
  refine ai.mk hf hb (x:=.ret) (s:=sF i) (head _ _ ?_) (.inl rfl) g2
  exact aV.leave m hm (by simp) (Tr.rZ id hl (TrR.for (by simp) S i (λj hj=>step j (by omega) (h3 j hj) λa ha=>h3 a (by omega)) g1))
 |none=>
  have ha:=cS hq
  obtain ⟨r1,r2,r3,r4⟩:=rest ha
  rw [<-r4]
  refine ai.mk hf hb (x:=xE) (s:=uM) (head _ _ ?_) r2 r3
  exact aV.item m hm (s1:=sE) (Tr.loop id hl S N (λj hj=>step j hj (ha j hj) λa N9=>ha a (by omega)) (fin ha)) r1
theorem ai.Mn {f:FuncId} {fn:Func} (hf:P.funcs[f]? =some fn) (hb:fn.body.isSome=true) {args:List SV} {h:List Blk} (m id:Nat) (S:Nat->St) (i:Nat)
  (head:∀x s',aV P none h.length ((atoms (aP fn)).drop m) (S 0) x s'->aV P none h.length (atoms (aP fn)) ⟨aD fn.ntmps args,h,true⟩ x s')
  (hm:m<(atoms (aP fn)).length) (hl:n9 id (au m (aP fn))=true) (step:∀j,j<i->Tr P none h.length (inner (inner (au m (aP fn)))) (S j) .normal (S (j+1)))
  {sF:St} {vF:List SV} (out:Tr P none h.length (inner (inner (au m (aP fn)))) (S i) .ret sF) (res:iD P sF.t sF.h fn.results.toList=some (vF,true)):ai P f args h (oneOf vF) sF.h:=
 ai.mk hf hb (x:=.ret) (s:=sF) (head _ _ (aV.leave m hm (by simp) (Tr.rZ id hl (TrR.for (by simp) S i step out)))) (.inl rfl) res
theorem ai.toEnd {f:FuncId} {fn:Func} (hf:P.funcs[f]? =some fn) (hb:fn.body.isSome=true) {args:List SV} {h:List Blk} (m id:Nat) (S:Nat->St) (N:Nat)
  (head:∀x s',aV P none h.length ((atoms (aP fn)).drop m) (S 0) x s'->aV P none h.length (atoms (aP fn)) ⟨aD fn.ntmps args,h,true⟩ x s')
  (hm:m<(atoms (aP fn)).length) (hl:n9 id (au m (aP fn))=true) (step:∀j,j<N->Tr P none h.length (inner (inner (au m (aP fn)))) (S j) .normal (S (j+1)))
  {sE s':St} {x:Exit} {v:List SV} (fin:Tr P none h.length (inner (inner (au m (aP fn)))) (S N) (.exit id) sE)
  (rest:aV P none h.length ((atoms (aP fn)).drop (m+1)) sE x s') (hx:x= .ret\/x= .normal) (res:iD P s'.t s'.h fn.results.toList=some (v,true)):ai P f args h (oneOf v) s'.h:=
 ai.mk hf hb (x:=x) (s:=s') (head _ _ (aV.item m hm (s1:=sE) (Tr.loop id hl S N step fin) rest)) hx res
end
end Go.Sy
end
section
namespace Go.Sy
open Go
variable {P:Program}
theorem ai.mF {f:FuncId} {args:List SV} {h h1:List Blk} (g:ai P f args h (.nl (.slice none 0 0)) h1) (K:IntKind) (ex wh:Bool):ai P f args h (.sl h1.length 0 0 1 0 0 ex wh) (h1++[.b [.ints K 0 []]]):=
 g.post λB e w t' _ hl R=>⟨e,rfl,⟨hl.1,λi v v' a c=>by
  cases i with
  |zero=>
   simp only [aa2,No] at a
   subst a
   have h1:v'= .slice none 0 0:=hl.2 0 _ v' rfl c
   exact .inl ⟨rfl,rfl,none,h1⟩
  |succ i=>simp at a⟩,by
  have:=R.nothing (j:=h1.length) (ps:=[.ints K 0 []]) (.inl rfl) rfl
  unfold bI at this
  rw [aaM rfl] at this
  exact this⟩
theorem VE.Ik (b o i z len cap:Nat) (wh:Bool):VE (.sl b o i z len cap true wh) (.sl b o i z len cap false wh):=λe x h=>by
 rcases h with h|⟨p,c,a,h1,h2,h3,h4,_,h6,h7⟩
 ·exact .inl h
 ·exact .inr ⟨p,c,a,h1,h2,h3,h4,(by simp),h6,h7⟩
theorem bE.slot {k:Nat} {t:List (Option SV)} {h:List Blk} {o o':Bool} (i:Nat) {v v':SV} (hv:t[i]? =some (some v)) (g:VE v v'):bE k ⟨t,h,o⟩ ⟨t.set i (some v'),h,o'⟩:=by
 have hlt:i<t.length:=(aal.1 hv).1
 refine bE.mono (by simp) (λj w hj=>?_) rfl (λj qs hj=>⟨qs,hj,rfl,λ_ _ h=>h⟩) (λj q hj=>hj)
 by_cases hij:i=j
 ·subst hij
  have q:(t.set i (some v'))[i]? =some (some v'):=aay hlt
  have e:some (some w)=some (some v'):=hj.symm.trans q
  cases e
  exact ⟨v,hv,g⟩
 ·have q:(t.set i (some v'))[j]? =t[j]? :=aau hij
  exact ⟨w,q.symm.trans hj,λ_ _ h=>h⟩
end Go.Sy
end
section
namespace Go.Sy
open Go
section
variable {P:Program} {ro:Option Nat} {k:Nat} {e:Env} {B:cP} {h:List Blk} {w:World}
def lM (i j:Nat) (b:Nat):Nat:=match Nat.beq b i with
 |true=>j
 |false=>match Nat.beq b j with
  |true=>i
  |false=>b
theorem CO (i j:Nat):lM i j i=j:=by unfold lM;rw [Nat.beq_refl]
theorem CP (i j:Nat):lM i j j=i:=by
 unfold lM
 cases q:Nat.beq j i with
 |true=>exact aaA q
 |false=>rw [Nat.beq_refl]
theorem vZ {i j b:Nat} (h1:b≠i) (h2:b≠j):lM i j b=b:=by
 unfold lM
 cases q:Nat.beq b i with
 |true=>exact absurd (aaA q) h1
 |false=>
  cases q2:Nat.beq b j with
  |true=>exact absurd (aaA q2) h2
  |false=>rfl
theorem qG (i j b:Nat):lM i j (lM i j b)=b:=by
 by_cases h1:b=i
 ·subst h1;rw [CO,CP]
 ·by_cases h2:b=j
  ·subst h2;rw [CP,CO]
  ·rw [vZ h1 h2,vZ h1 h2]
def swB (s:Nat->Nat):Blk->Blk
 | .b ps=>.b (fM s ps)
 | .g g=>.g g
def noG (i j:Nat):Blk->Bool
 | .b _=>true
 | .g none=>true
 | .g (some L)=>L.t.all λo=>hJ i o&&hJ j o
def Il:Option Blk->Bool
 |some (.b _)=>true
 |_=>false
def UX (i j:Nat) (h:List Blk):List Blk:=(List.range h.length).map λb=>swB (lM i j) ((h[lM i j b]?).getD (.b []))
def UR (i j:Nat) (t:List (Option SV)):List (Option SV):=t.map λx=>x.map (jm (lM i j))
theorem CQ {i j b:Nat} (hb:b<h.length) (hs:lM i j b<h.length):(UX i j h)[b]? =(h[lM i j b]?).map (swB (lM i j)):=by
 unfold UX
 rw [aaO,List.getElem?_range hb]
 show some (swB (lM i j) ((h[lM i j b]?).getD (.b [])))=_
 rw [aai hs];rfl
theorem Rel.swap (R:Rel B e h w) {i j:Nat} (hi:B.k<=i) (hj:B.k<=j) (N4:Il h[i]? =true) (UY:Il h[j]? =true) (hg:h.all (noG i j)=true):
  Rel B {e with r:=λb=>e.r (lM i j b)} (UX i j h) w:=by
 have li:i<h.length:=by cases q:h[i]? with|none=>rw [q] at N4;cases N4|some _=>exact (aal.1 q).1
 have lj:j<h.length:=by cases q:h[j]? with|none=>rw [q] at UY;cases UY|some _=>exact (aal.1 q).1
 have lt:∀{b},b<h.length->lM i j b<h.length:=λ{b} hb=>by
  by_cases h1:b=i
  ·subst h1;rw [CO];exact lj
  ·by_cases h2:b=j
   ·subst h2;rw [CP];exact li
   ·rw [vZ h1 h2];exact hb
 have len:(UX i j h).length=h.length:=by simp [UX]
 have low:∀{b},b<B.k->lM i j b=b:=λ{b} hb=>vZ (by omega) (by omega)
 have ad4:∀{a b},lM i j a=lM i j b->a=b:=λ{a b} q=>by have:=adX (lM i j) q;rwa [qG,qG] at this
 exact {
  os:=R.os,tape:=R.tape,output:=R.output,size:=R.size
  inj:=λa b p q h1 h2 h3=>ad4 (R.inj _ _ p q h1 h2 h3)
  dom:=λb p hb=>by
   have:=lt (R.dom _ p hb)
   rw [qG] at this
   rw [len];exact this
  sep:=λb p hb=>R.sep _ p hb
  eU:=R.eU,bp:=R.bp,dU:=R.dU
  news:=λb p hb=>by
   rcases R.news _ p hb with g|g
   ·have hk:=R.kr _ p g
    have:lM i j b=b:=by
     have:=low hk
     rw [qG] at this
     exact this.symm
    rw [this] at g
    exact .inl g
   ·exact .inr g
  bA:=λb p hb=>by
   show e.r (lM i j b)=some p
   rw [low (R.kr b p hb)];exact R.bA b p hb
  bM:=R.bM,n0:=R.n0,cI:=R.cI
  ew:=λb ps hb=>by
   have hlt:b<h.length:=by have:=(aal.1 hb).1;rwa [len] at this
   rw [CQ hlt (lt hlt)] at hb
   obtain ⟨x,hx,q⟩:=aag.1 hb
   cases x with
   |g g=>cases q
   |b qs=>
    have q':ps=fM (lM i j) qs:=by have:=q;simp only [swB,Blk.b.injEq] at this;exact this.symm
    subst q'
    rcases R.ew _ qs hx with ⟨g1,g2⟩|⟨p,o,g1,g2,c,t,rfl,g3,g4,g5⟩
    ·exact .inl ⟨by rw [b9];exact g1,g2⟩
    ·refine .inr ⟨p,_,g1,g2,c,t,rfl,g3,by rw [b9];exact g4,?_⟩
     rw [b9]
     exact PR.jm (s:=lM i j) (e:=e) (e':={e with r:=λb=>e.r (lM i j b)}) (λ_ _ h=>h) (aaf _) qs _ (λa p _ ha=>by show e.r (lM i j (lM i j a))=some p;rw [qG];exact ha) g5
  gap:=λb g hb=>by
   have hlt:b<h.length:=by have:=(aal.1 hb).1;rwa [len] at this
   rw [CQ hlt (lt hlt)] at hb
   obtain ⟨x,hx,q⟩:=aag.1 hb
   cases x with
   |b qs=>cases q
   |g g'=>
    cases q
    have hn:=aah.1 hg _ (aaG hx)
    obtain ⟨g1,g2⟩:=R.gap _ g hx
    have hbe:lM i j b=b:=by
     by_cases h1:b=i
     ·subst h1;rw [CO] at hx;rw [hx] at UY;cases UY
     ·by_cases h2:b=j
      ·subst h2;rw [CP] at hx;rw [hx] at N4;cases N4
      ·exact vZ h1 h2
    refine ⟨g1,?_⟩
    rw [hbe] at g2
    refine g2.keep (e:=e) (e':={e with r:=λb=>e.r (lM i j b)}) (λ_ _ q=>q) rfl λL hL v v' hv DB=>VR.mono' (e:=e) (e':={e with r:=λb=>e.r (lM i j b)}) (λ_ _ q=>q) (aaf _) v v' (λa p hu ha=>?_) DB
    subst hL
    have hz:=aah.1 hn _ hv
    simp only [hJ,aac,aaY] at hz
    show e.r (lM i j a)=some p
    rw [vZ (λq=>by rw [q,hz.1] at hu;cases hu) (λq=>by rw [q,hz.2] at hu;cases hu)]
    exact ha
  yi:=R.yi,yb:=R.yb,old:=R.old,win:=R.win
  kr:=R.kr
  fO:=by rw [len];exact R.fO
  fc:=R.fc,gJ:=R.gJ}
theorem bE.swap {t:List (Option SV)} {o o':Bool} (i j:Nat) (hi:k<=i) (hj:k<=j) (N4:Il h[i]? =true) (UY:Il h[j]? =true) (hg:h.all (noG i j)=true):bE k ⟨t,h,o⟩ ⟨UR i j t,UX i j h,o'⟩:=λB e w t' hB hl R=>by
 refine ⟨{e with r:=λb=>e.r (lM i j b)},rfl,⟨by show (UR i j t).length=_;rw [UR,List.length_map];exact hl.1,λa v v' h1 h2=>?_⟩,R.swap (abi hB hi) (abi hB hj) N4 UY hg⟩
 have h1':(UR i j t)[a]? =some (some v):=h1
 rw [UR,aaO] at h1'
 obtain ⟨x,hx,q⟩:=aag.1 h1'
 cases x with
 |none=>cases q
 |some u=>
  cases q
  exact VR.jm (s:=lM i j) (e:=e) (e':={e with r:=λb=>e.r (lM i j b)}) (λ_ _ h=>h) (aaf _) u v' (λa p _ ha=>by show e.r (lM i j (lM i j a))=some p;rw [qG];exact ha) (hl.2 a u v' hx h2)
theorem Rel.Gg (R:Rel B e h w) {b:Nat} {ps ps':List SV} (hb:h[b]? =some (.b ps)) (q:∀p o,e.r b=some p->w.heap[p.n]? =some o->BR e p ps o->BR e p ps' o) (h0:av ps=0->av ps'=0):Rel B e (h.set b (.b ps')) w:=by
 have hlt:=(aal.1 hb).1
 exact {
  os:=R.os,tape:=R.tape,output:=R.output,size:=R.size,inj:=R.inj,dom:=λi p hi=>by simpa using R.dom i p hi,sep:=R.sep,eU:=R.eU,bp:=R.bp,dU:=R.dU,news:=R.news,bA:=R.bA,bM:=R.bM,n0:=R.n0,cI:=R.cI
  ew:=λi qs hi=>by
   by_cases jt:b=i
   ·subst jt
    rw [aay hlt] at hi;cases hi
    rcases R.ew b ps hb with ⟨g1,g2⟩|⟨p,o,g1,g2,g3⟩
    ·exact .inl ⟨h0 g1,g2⟩
    ·exact .inr ⟨p,o,g1,g2,q p o g1 g2 g3⟩
   ·rw [aau jt] at hi;exact R.ew i qs hi
  gap:=λi g hi=>by
   by_cases jt:b=i
   ·subst jt;rw [aay hlt] at hi;cases hi
   ·rw [aau jt] at hi;exact R.gap i g hi
  yi:=R.yi,yb:=R.yb,old:=R.old,win:=R.win,kr:=R.kr,fO:=by simpa using R.fO,fc:=R.fc,gJ:=R.gJ}
theorem Rel.Fm (R:Rel B e h w) {b:Nat} {pre post:List SV} {b' o i z len cap:Nat} {wh:Bool} (hb:h[b]? =some (.b (pre++ .sl b' o i z len cap false wh::post))):∃c,len<=c/\Rel B e (h.set b (.b (pre++ .sl b' o i z len c true wh::post))) w:=by
 have hs:∀c ex,av (pre++ .sl b' o i z len c ex wh::post)=av pre+(1+av post):=λc ex=>by rw [c8];rfl
 rcases R.ew b _ hb with ⟨g1,_⟩|⟨p,o',g1,g2,c,t,rfl,g3,g4,g5⟩
 ·rw [hs] at g1;omega
 ·obtain ⟨y1,y2,hy,q1,q2⟩:=g5.split
  obtain ⟨v,zs,q3,q4,rfl⟩:=q2
  have RR:∃c,len<=c/\VR e (.sl b' o i z len c true wh) v:=by
   rcases q3 with ⟨rfl,_,a,rfl⟩|⟨p,c,a,h1,h2,h3,_,_,h4,h5⟩
   ·exact ⟨0,aaf _,.inl ⟨rfl,rfl,a,rfl⟩⟩
   ·exact ⟨c,h4,.inr ⟨p,c,a,h1,h2,h3,aaf _,λ_=>rfl,h4,h5⟩⟩
  obtain ⟨k,hk,q5⟩:=RR
  refine ⟨k,hk,R.Gg hb (λp2 o2 r1 r2 _=>?_) (λq=>by rw [hs] at q;omega)⟩
  rw [g1] at r1;cases r1
  rw [g2] at r2;cases r2
  refine ⟨c,t,rfl,g3,by rw [hs] at g4 ⊢;exact g4,?_⟩
  rw [hs] at hy ⊢
  rw [hy]
  exact q1.append ⟨v,zs,q5,q4,rfl⟩
theorem bE.forget {t:List (Option SV)} {o o':Bool} (b:Nat) (hb:Il h[b]? =true):bE k ⟨t,h,o⟩ ⟨t,h.set b (.b []),o'⟩:=λB e w t' hB hl R=>by
 cases q:h[b]? with
 |none=>rw [q] at hb;cases hb
 |some x=>
  cases x with
  |g g=>rw [q] at hb;cases hb
  |b ps=>exact ⟨e,rfl,hl,R.Gg q (λp o _ _ ⟨c,t,h1,h2,_,_⟩=>⟨c,t,h1,h2,aap _,rfl⟩) (λ_=>rfl)⟩
theorem Rel.QG (R:Rel B e h w) {b:Nat} {pre post:List SV} {b' z len cap:Nat} (hb:h[b]? =some (.b (pre++ .bK b' z len cap false::post))):∃c,len<=c/\Rel B e (h.set b (.b (pre++ .bK b' z len c true::post))) w:=by
 have hs:∀c ex,av (pre++ .bK b' z len c ex::post)=av pre+(1+av post):=λc ex=>by rw [c8];rfl
 rcases R.ew b _ hb with ⟨g1,_⟩|⟨p,o',g1,g2,c,t,rfl,g3,g4,g5⟩
 ·rw [hs] at g1;omega
 ·obtain ⟨y1,y2,hy,q1,q2⟩:=g5.split
  obtain ⟨v,zs,q3,q4,rfl⟩:=q2
  have RR:∃c,len<=c/\VR e (.bK b' z len c true) v:=by
   rcases q3 with ⟨rfl,_,a,rfl⟩|⟨p,c,a,h1,h2,h3,_,_,h4,h5⟩
   ·exact ⟨0,aaf _,.inl ⟨rfl,rfl,a,rfl⟩⟩
   ·exact ⟨c,h4,.inr ⟨p,c,a,h1,h2,h3,aaf _,λ_=>rfl,h4,h5⟩⟩
  obtain ⟨k,hk,q5⟩:=RR
  refine ⟨k,hk,R.Gg hb (λp2 o2 r1 r2 _=>?_) (λq=>by rw [hs] at q;omega)⟩
  rw [g1] at r1;cases r1
  rw [g2] at r2;cases r2
  refine ⟨c,t,rfl,g3,by rw [hs] at g4 ⊢;exact g4,?_⟩
  rw [hs] at hy ⊢
  rw [hy]
  exact q1.append ⟨v,zs,q5,q4,rfl⟩
theorem Tr.acr {c:Code} {t:List (Option SV)} {ob:Bool} {s':St} {x:Exit} {b:Nat} {pre post:List SV} {b' z len cap:Nat} (hb:h[b]? =some (.b (pre++ .bK b' z len cap false::post)))
  (g:∀cc,len<=cc->Tr P ro k c ⟨t,h.set b (.b (pre++ .bK b' z len cc true::post)),ob⟩ x s'):Tr P ro k c ⟨t,h,ob⟩ x s':=λB e w t' d Q nn hB hl R hQ=>by
 obtain ⟨cc,h1,R'⟩:=Rel.QG R hb
 exact g cc h1 B e w t' d Q nn hB hl R' hQ
theorem Tr.Yk {c:Code} {t:List (Option SV)} {ob:Bool} {s':St} {x:Exit} {b:Nat} {pre post:List SV} {b' o i z len cap:Nat} {wh:Bool} (hb:h[b]? =some (.b (pre++ .sl b' o i z len cap false wh::post)))
  (g:∀cc,len<=cc->Tr P ro k c ⟨t,h.set b (.b (pre++ .sl b' o i z len cc true wh::post)),ob⟩ x s'):Tr P ro k c ⟨t,h,ob⟩ x s':=λB e w t' d Q nn hB hl R hQ=>by
 obtain ⟨cc,h1,R'⟩:=Rel.Fm R hb
 exact g cc h1 B e w t' d Q nn hB hl R' hQ
end
end Go.Sy
end
