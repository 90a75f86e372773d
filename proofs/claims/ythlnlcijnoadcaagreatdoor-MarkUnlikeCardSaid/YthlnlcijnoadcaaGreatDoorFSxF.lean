/- This file holds the texts SxD, SxE, SxF, a section each. No conditions beyond those in the theorems. -/
import Derived.Test.YthlnlcijnoadcaaGreatDoorFSxC
set_option linter.all false
section
namespace Go.Sy
open Go
section
variable {P:Program} {ro:Option Nat} {k:Nat}
def resX (r:Option (Exit×St)):Option (Exit×List (Option SV)×List Blk):=r.map fun q=>(q.1,q.2.t,q.2.h)
def obX (r:Option (Exit×St)):Bool:=match r with
 |some q=>q.2.ob
 |none=>false
def cutR (live:List Nat) (m:Nat) (r:Option (Exit×St)):Option (Exit×St):=r.bind fun q=>(q.2.cut live m).map fun s=>(q.1,s)
theorem Tr.cutX {Γ:Ctr} (hΓ:CtrSound P Γ) (n:Nat) (live:List Nat) (m:Nat) (hm:k≤m) {c:Code} {s s':St} {x:Exit} (ob:Bool) (e:resX (cutR live m (Sy.exec P Γ n k c s))=some (x,s'.t,s'.h)) (hob:obX (cutR live m (Sy.exec P Γ n k c s))=ob) (h:ob=true):Tr P ro k c s x s':=by
 unfold resX cutR at e
 unfold obX cutR at hob
 cases hr:(Sy.exec P Γ n k c s).bind fun q=>(q.2.cut live m).map fun s=>(q.1,s) with
 |none=>rw [hr] at e;cases e
 |some q=>
  obtain ⟨y,s1⟩:=q
  rw [hr] at e hob
  simp only [Option.map_some,Option.some.injEq,Prod.mk.injEq] at e
  obtain ⟨rfl,h1,h2⟩:=e
  exact Tr.post (Tr.cut hΓ n live m hm hr (hob.trans h)) (Ent.same h1 h2)
theorem TrL.itemsX {Γ:Ctr} (hΓ:CtrSound P Γ) (n m:Nat) (live:List Nat) (j:Nat) (hj:k≤j) {l:List Code} {s s1 s':St} {x:Exit} (ob:Bool) (e:resX (cutR live j ((execL P Γ n k m l s).map fun s=>(Exit.normal,s)))=some (.normal,s1.t,s1.h))
  (hob:obX (cutR live j ((execL P Γ n k m l s).map fun s=>(Exit.normal,s)))=ob) (h:ob=true) (hl:m<l.length) (hs:s1.ob=true) (g:TrL P ro k (l.drop m) s1 x s'):TrL P ro k l s x s':=by
 unfold resX cutR at e
 unfold obX cutR at hob
 cases hr:execL P Γ n k m l s with
 |none=>rw [hr] at e;cases e
 |some q=>
  rw [hr] at e hob
  simp only [Option.map_some,Option.bind_some] at e hob
  cases hc:q.cut live j with
  |none=>rw [hc] at e;cases e
  |some q2=>
   rw [hc] at e hob
   simp only [Option.map_some,Option.some.injEq,Prod.mk.injEq,true_and] at e hob
   obtain ⟨h1,h2⟩:=e
   have:q2=s1:=by
    obtain ⟨t,b,o⟩:=q2
    obtain ⟨t1,b1,o1⟩:=s1
    simp only at h1 h2 hs hob
    subst h1 h2 hs hob h
    rfl
   subst this
   exact TrL.items hΓ n m live j hj (by rw [hr];exact hc) hs hl g
def firstN (b:Nat→Bool) (N:Nat):Option Nat:=(List.range N).find? fun i=>!b i
theorem firstN_none {b:Nat→Bool} {N:Nat} (h:firstN b N=none):∀i,i<N→b i=true:=fun i hi=>by
 have:=List.find?_eq_none.1 h i (List.mem_range.2 hi)
 simpa using this
theorem find_range {b:Nat→Bool}:∀{N i:Nat},firstN b N=some i→i<N∧b i=false∧∀j,j<i→b j=true:=by
 intro N
 induction N with
 |zero=>intro i h;simp [firstN] at h
 |succ N ih=>
  intro i h
  unfold firstN at h ih
  rw [List.range_succ,List.find?_append] at h
  cases hq:(List.range N).find? (fun i=>!b i) with
  |some j=>
   rw [hq] at h
   simp only [Option.some_or,Option.some.injEq] at h
   subst h
   obtain ⟨h1,h2,h3⟩:=ih hq
   exact ⟨by omega,h2,h3⟩
  |none=>
   rw [hq] at h
   simp only [Option.none_or,List.find?_cons,List.find?_nil] at h
   split at h
   ·rename_i hb
    cases h
    exact ⟨by omega,by simpa using hb,fun j hj=>firstN_none hq j hj⟩
   ·cases h
theorem firstN_all (b:Nat→Bool) (N:Nat):(firstN b N).isNone=(List.range N).all b:=by
 unfold firstN
 cases h:(List.range N).all b with
 |true=>
  have:=List.all_eq_true.1 h
  rw [show (List.range N).find? (fun i=>!b i)=none from List.find?_eq_none.2 fun i hi=>by simp [this i hi]]
  rfl
 |false=>
  cases hq:(List.range N).find? (fun i=>!b i) with
  |some j=>rfl
  |none=>
   exfalso
   have:(List.range N).all b=true:=List.all_eq_true.2 fun i hi=>by
    have:=List.find?_eq_none.1 hq i hi
    simpa using this
   rw [h] at this;cases this
def scanV {α:Type} (b:Nat→Bool) (N:Nat) (vF:Nat→α) (vE:α):α:=match firstN b N with
 |some i=>vF i
 |none=>vE
theorem FnTr.scan {f:FuncId} {fn:Func} (hf:P.funcs[f]? =some fn) (hb:fn.body.isSome=true) {args:List SV} {h h':List Blk} (m id:Nat) (S:Nat→St) (b:Nat→Bool) (N:Nat)
  (head:∀x s',TrL P none h.length ((atoms (bodyOf fn)).drop m) (S 0) x s'→TrL P none h.length (atoms (bodyOf fn)) ⟨slots0 fn.ntmps args,h,true⟩ x s')
  (hm:m<(atoms (bodyOf fn)).length) (hl:isLoop id (nthC m (bodyOf fn))=true)
  (step:∀i,i<N→b i=true→(∀j,j<i→b j=true)→Tr P none h.length (inner (inner (nthC m (bodyOf fn)))) (S i) .normal (S (i+1)))
  (sF:Nat→St) (vF:Nat→List SV) (out:∀i,i<N→b i=false→(∀j,j<i→b j=true)→Tr P none h.length (inner (inner (nthC m (bodyOf fn)))) (S i) .ret (sF i)∧resS P (sF i).t (sF i).h fn.results.toList=some (vF i,true)∧(sF i).h=h')
  {sE sE':St} {vE:List SV} {xE:Exit} (fin:(∀i,i<N→b i=true)→Tr P none h.length (inner (inner (nthC m (bodyOf fn)))) (S N) (.exit id) sE)
  (rest:(∀i,i<N→b i=true)→TrL P none h.length ((atoms (bodyOf fn)).drop (m+1)) sE xE sE'∧(xE= .ret∨xE= .normal)∧resS P sE'.t sE'.h fn.results.toList=some (vE,true)∧sE'.h=h'):
  FnTr P f args h (oneOf (scanV b N vF vE)) h':=by
 unfold scanV
 cases hq:firstN b N with
 |some i=>
  obtain ⟨h1,h2,h3⟩:=find_range hq
  obtain ⟨g1,g2,g3⟩:=out i h1 h2 h3
  rw [←g3]
  refine FnTr.mk hf hb (x:=.ret) (s:=sF i) (head _ _ ?_) (.inl rfl) g2
  exact TrL.leave m hm (by simp) (Tr.loopRet id hl (TrR.for (by simp) S i (fun j hj=>step j (by omega) (h3 j hj) fun a ha=>h3 a (by omega)) g1))
 |none=>
  have ha:=firstN_none hq
  obtain ⟨r1,r2,r3,r4⟩:=rest ha
  rw [←r4]
  refine FnTr.mk hf hb (x:=xE) (s:=sE') (head _ _ ?_) r2 r3
  exact TrL.item m hm (s1:=sE) (Tr.loop id hl S N (fun j hj=>step j hj (ha j hj) fun a ha'=>ha a (by omega)) (fin ha)) r1
theorem FnTr.leaveAt {f:FuncId} {fn:Func} (hf:P.funcs[f]? =some fn) (hb:fn.body.isSome=true) {args:List SV} {h:List Blk} (m id:Nat) (S:Nat→St) (i:Nat)
  (head:∀x s',TrL P none h.length ((atoms (bodyOf fn)).drop m) (S 0) x s'→TrL P none h.length (atoms (bodyOf fn)) ⟨slots0 fn.ntmps args,h,true⟩ x s')
  (hm:m<(atoms (bodyOf fn)).length) (hl:isLoop id (nthC m (bodyOf fn))=true) (step:∀j,j<i→Tr P none h.length (inner (inner (nthC m (bodyOf fn)))) (S j) .normal (S (j+1)))
  {sF:St} {vF:List SV} (out:Tr P none h.length (inner (inner (nthC m (bodyOf fn)))) (S i) .ret sF) (res:resS P sF.t sF.h fn.results.toList=some (vF,true)):FnTr P f args h (oneOf vF) sF.h:=
 FnTr.mk hf hb (x:=.ret) (s:=sF) (head _ _ (TrL.leave m hm (by simp) (Tr.loopRet id hl (TrR.for (by simp) S i step out)))) (.inl rfl) res
theorem FnTr.toEnd {f:FuncId} {fn:Func} (hf:P.funcs[f]? =some fn) (hb:fn.body.isSome=true) {args:List SV} {h:List Blk} (m id:Nat) (S:Nat→St) (N:Nat)
  (head:∀x s',TrL P none h.length ((atoms (bodyOf fn)).drop m) (S 0) x s'→TrL P none h.length (atoms (bodyOf fn)) ⟨slots0 fn.ntmps args,h,true⟩ x s')
  (hm:m<(atoms (bodyOf fn)).length) (hl:isLoop id (nthC m (bodyOf fn))=true) (step:∀j,j<N→Tr P none h.length (inner (inner (nthC m (bodyOf fn)))) (S j) .normal (S (j+1)))
  {sE s':St} {x:Exit} {v:List SV} (fin:Tr P none h.length (inner (inner (nthC m (bodyOf fn)))) (S N) (.exit id) sE)
  (rest:TrL P none h.length ((atoms (bodyOf fn)).drop (m+1)) sE x s') (hx:x= .ret∨x= .normal) (res:resS P s'.t s'.h fn.results.toList=some (v,true)):FnTr P f args h (oneOf v) s'.h:=
 FnTr.mk hf hb (x:=x) (s:=s') (head _ _ (TrL.item m hm (s1:=sE) (Tr.loop id hl S N step fin) rest)) hx res
end
end Go.Sy
end
section
namespace Go.Sy
open Go
variable {P:Program}
theorem FnTr.nilBlk {f:FuncId} {args:List SV} {h h1:List Blk} (g:FnTr P f args h (.nl (.slice none 0 0)) h1) (K:IntKind) (ex wh:Bool):FnTr P f args h (.sl h1.length 0 0 1 0 0 ex wh) (h1++[.b [.ints K 0 []]]):=
 g.post fun B e w t' _ hl R=>⟨e,rfl,⟨hl.1,fun i v v' a c=>by
  cases i with
  |zero=>
   simp only [List.getElem?_cons_zero,Option.some.injEq] at a
   subst a
   have h1:v'= .slice none 0 0:=hl.2 0 _ v' rfl c
   exact .inl ⟨rfl,rfl,none,h1⟩
  |succ i=>simp at a⟩,by
  have:=R.nothing (j:=h1.length) (ps:=[.ints K 0 []]) (.inl rfl) rfl
  unfold placeH at this
  rw [if_pos rfl] at this
  exact this⟩
theorem VE.anyCap (b o i z len cap:Nat) (wh:Bool):VE (.sl b o i z len cap true wh) (.sl b o i z len cap false wh):=fun e x h=>by
 rcases h with h|⟨p,c,a,h1,h2,h3,h4,_,h6,h7⟩
 ·exact .inl h
 ·exact .inr ⟨p,c,a,h1,h2,h3,h4,(by simp),h6,h7⟩
theorem Ent.slot {k:Nat} {t:List (Option SV)} {h:List Blk} {o o':Bool} (i:Nat) {v v':SV} (hv:t[i]? =some (some v)) (g:VE v v'):Ent k ⟨t,h,o⟩ ⟨t.set i (some v'),h,o'⟩:=by
 have hlt:i<t.length:=(List.getElem?_eq_some_iff.1 hv).1
 refine Ent.mono (by simp) (fun j w hj=>?_) rfl (fun j qs hj=>⟨qs,hj,rfl,fun _ _ h=>h⟩) (fun j q hj=>hj)
 by_cases hij:i=j
 ·subst hij
  have q:(t.set i (some v'))[i]? =some (some v'):=List.getElem?_set_self hlt
  have e:some (some w)=some (some v'):=hj.symm.trans q
  cases e
  exact ⟨v,hv,g⟩
 ·have q:(t.set i (some v'))[j]? =t[j]? :=List.getElem?_set_ne hij
  exact ⟨w,q.symm.trans hj,fun _ _ h=>h⟩
end Go.Sy
end
section
namespace Go.Sy
open Go
section
variable {P:Program} {ro:Option Nat} {k:Nat} {e:Env} {B:Base} {h:List Blk} {w:World}
def swN (i j:Nat) (b:Nat):Nat:=match Nat.beq b i with
 |true=>j
 |false=>match Nat.beq b j with
  |true=>i
  |false=>b
theorem swN_i (i j:Nat):swN i j i=j:=by unfold swN;rw [Nat.beq_refl]
theorem swN_j (i j:Nat):swN i j j=i:=by
 unfold swN
 cases q:Nat.beq j i with
 |true=>exact Nat.eq_of_beq_eq_true q
 |false=>rw [Nat.beq_refl]
theorem swN_o {i j b:Nat} (h1:b≠i) (h2:b≠j):swN i j b=b:=by
 unfold swN
 cases q:Nat.beq b i with
 |true=>exact absurd (Nat.eq_of_beq_eq_true q) h1
 |false=>
  cases q2:Nat.beq b j with
  |true=>exact absurd (Nat.eq_of_beq_eq_true q2) h2
  |false=>rfl
theorem swN_sw (i j b:Nat):swN i j (swN i j b)=b:=by
 by_cases h1:b=i
 ·subst h1;rw [swN_i,swN_j]
 ·by_cases h2:b=j
  ·subst h2;rw [swN_j,swN_i]
  ·rw [swN_o h1 h2,swN_o h1 h2]
def swB (s:Nat→Nat):Blk→Blk
 | .b ps=>.b (renL s ps)
 | .g g=>.g g
def noG:Blk→Bool
 | .b _=>true
 | .g none=>true
 |_=>false
def isBk:Option Blk→Bool
 |some (.b _)=>true
 |_=>false
def swH (i j:Nat) (h:List Blk):List Blk:=(List.range h.length).map fun b=>swB (swN i j) ((h[swN i j b]?).getD (.b []))
def swT (i j:Nat) (t:List (Option SV)):List (Option SV):=t.map fun x=>x.map (ren (swN i j))
theorem swH_get {i j b:Nat} (hb:b<h.length) (hs:swN i j b<h.length):(swH i j h)[b]? =(h[swN i j b]?).map (swB (swN i j)):=by
 unfold swH
 rw [List.getElem?_map,List.getElem?_range hb]
 show some (swB (swN i j) ((h[swN i j b]?).getD (.b [])))=_
 rw [List.getElem?_eq_getElem hs];rfl
theorem Rel.swap (R:Rel B e h w) {i j:Nat} (hi:B.k≤i) (hj:B.k≤j) (hib:isBk h[i]? =true) (hjb:isBk h[j]? =true) (hg:h.all noG=true):
  Rel B {e with r:=fun b=>e.r (swN i j b)} (swH i j h) w:=by
 have li:i<h.length:=by cases q:h[i]? with|none=>rw [q] at hib;cases hib|some _=>exact (List.getElem?_eq_some_iff.1 q).1
 have lj:j<h.length:=by cases q:h[j]? with|none=>rw [q] at hjb;cases hjb|some _=>exact (List.getElem?_eq_some_iff.1 q).1
 have lt:∀{b},b<h.length→swN i j b<h.length:=fun {b} hb=>by
  by_cases h1:b=i
  ·subst h1;rw [swN_i];exact lj
  ·by_cases h2:b=j
   ·subst h2;rw [swN_j];exact li
   ·rw [swN_o h1 h2];exact hb
 have len:(swH i j h).length=h.length:=by simp [swH]
 have low:∀{b},b<B.k→swN i j b=b:=fun {b} hb=>swN_o (by omega) (by omega)
 have sinj:∀{a b},swN i j a=swN i j b→a=b:=fun {a b} q=>by have:=congrArg (swN i j) q;rwa [swN_sw,swN_sw] at this
 exact {
  os:=R.os,tape:=R.tape,output:=R.output,size:=R.size
  inj:=fun a b p q h1 h2 h3=>sinj (R.inj _ _ p q h1 h2 h3)
  dom:=fun b p hb=>by
   have:=lt (R.dom _ p hb)
   rw [swN_sw] at this
   rw [len];exact this
  sep:=fun b p hb=>R.sep _ p hb
  zok:=R.zok,zfresh:=R.zfresh,glb:=R.glb
  news:=fun b p hb=>by
   rcases R.news _ p hb with g|g
   ·have hk:=R.kr _ p g
    have:swN i j b=b:=by
     have:=low hk
     rw [swN_sw] at this
     exact this.symm
    rw [this] at g
    exact .inl g
   ·exact .inr g
  keepr:=fun b p hb=>by
   show e.r (swN i j b)=some p
   rw [low (R.kr b p hb)];exact R.keepr b p hb
  keepz:=R.keepz,n0:=R.n0,n0le:=R.n0le
  blk:=fun b ps hb=>by
   have hlt:b<h.length:=by have:=(List.getElem?_eq_some_iff.1 hb).1;rwa [len] at this
   rw [swH_get hlt (lt hlt)] at hb
   obtain ⟨x,hx,q⟩:=Option.map_eq_some_iff.1 hb
   cases x with
   |g g=>cases q
   |b qs=>
    have q':ps=renL (swN i j) qs:=by have:=q;simp only [swB,Blk.b.injEq] at this;exact this.symm
    subst q'
    rcases R.blk _ qs hx with ⟨g1,g2⟩|⟨p,o,g1,g2,c,t,rfl,g3,g4,g5⟩
    ·exact .inl ⟨by rw [psize_renL];exact g1,g2⟩
    ·refine .inr ⟨p,_,g1,g2,c,t,rfl,g3,by rw [psize_renL];exact g4,?_⟩
     rw [psize_renL]
     exact PR.ren (s:=swN i j) (e:=e) (e':={e with r:=fun b=>e.r (swN i j b)}) (fun _ _ h=>h) (Nat.le_refl _) qs _ (fun a p _ ha=>by show e.r (swN i j (swN i j a))=some p;rw [swN_sw];exact ha) g5
  gap:=fun b g hb=>by
   have hlt:b<h.length:=by have:=(List.getElem?_eq_some_iff.1 hb).1;rwa [len] at this
   rw [swH_get hlt (lt hlt)] at hb
   obtain ⟨x,hx,q⟩:=Option.map_eq_some_iff.1 hb
   cases x with
   |b qs=>cases q
   |g g'=>
    cases q
    have hn:=List.all_eq_true.1 hg _ (List.mem_of_getElem? hx)
    cases g with
    |some L=>cases hn
    |none=>exact ⟨(R.gap _ none hx).1,trivial⟩
  yi:=R.yi,yb:=R.yb,old:=R.old,win:=R.win
  kr:=R.kr
  kle:=by rw [len];exact R.kle
  mks:=R.mks,mnd:=R.mnd}
theorem Ent.swap {t:List (Option SV)} {o o':Bool} (i j:Nat) (hi:k≤i) (hj:k≤j) (hib:isBk h[i]? =true) (hjb:isBk h[j]? =true) (hg:h.all noG=true):Ent k ⟨t,h,o⟩ ⟨swT i j t,swH i j h,o'⟩:=fun B e w t' hB hl R=>by
 refine ⟨{e with r:=fun b=>e.r (swN i j b)},rfl,⟨by show (swT i j t).length=_;rw [swT,List.length_map];exact hl.1,fun a v v' h1 h2=>?_⟩,R.swap (Nat.le_trans hB hi) (Nat.le_trans hB hj) hib hjb hg⟩
 have h1':(swT i j t)[a]? =some (some v):=h1
 rw [swT,List.getElem?_map] at h1'
 obtain ⟨x,hx,q⟩:=Option.map_eq_some_iff.1 h1'
 cases x with
 |none=>cases q
 |some u=>
  cases q
  exact VR.ren (s:=swN i j) (e:=e) (e':={e with r:=fun b=>e.r (swN i j b)}) (fun _ _ h=>h) (Nat.le_refl _) u v' (fun a p _ ha=>by show e.r (swN i j (swN i j a))=some p;rw [swN_sw];exact ha) (hl.2 a u v' hx h2)
theorem Rel.setW (R:Rel B e h w) {b:Nat} {ps ps':List SV} (hb:h[b]? =some (.b ps)) (q:∀p o,e.r b=some p→w.heap[p.n]? =some o→BR e p ps o→BR e p ps' o) (h0:psize ps=0→psize ps'=0):Rel B e (h.set b (.b ps')) w:=by
 have hlt:=(List.getElem?_eq_some_iff.1 hb).1
 exact {
  os:=R.os,tape:=R.tape,output:=R.output,size:=R.size,inj:=R.inj,dom:=fun i p hi=>by simpa using R.dom i p hi,sep:=R.sep,zok:=R.zok,zfresh:=R.zfresh,glb:=R.glb,news:=R.news,keepr:=R.keepr,keepz:=R.keepz,n0:=R.n0,n0le:=R.n0le
  blk:=fun i qs hi=>by
   by_cases hbi:b=i
   ·subst hbi
    rw [List.getElem?_set_self hlt] at hi;cases hi
    rcases R.blk b ps hb with ⟨g1,g2⟩|⟨p,o,g1,g2,g3⟩
    ·exact .inl ⟨h0 g1,g2⟩
    ·exact .inr ⟨p,o,g1,g2,q p o g1 g2 g3⟩
   ·rw [List.getElem?_set_ne hbi] at hi;exact R.blk i qs hi
  gap:=fun i g hi=>by
   by_cases hbi:b=i
   ·subst hbi;rw [List.getElem?_set_self hlt] at hi;cases hi
   ·rw [List.getElem?_set_ne hbi] at hi;exact R.gap i g hi
  yi:=R.yi,yb:=R.yb,old:=R.old,win:=R.win,kr:=R.kr,kle:=by simpa using R.kle,mks:=R.mks,mnd:=R.mnd}
theorem Rel.capS (R:Rel B e h w) {b:Nat} {pre post:List SV} {b' o i z len cap:Nat} {wh:Bool} (hb:h[b]? =some (.b (pre++ .sl b' o i z len cap false wh::post))):∃c,len≤c∧Rel B e (h.set b (.b (pre++ .sl b' o i z len c true wh::post))) w:=by
 have hs:∀c ex,psize (pre++ .sl b' o i z len c ex wh::post)=psize pre+(1+psize post):=fun c ex=>by rw [psize_append];rfl
 rcases R.blk b _ hb with ⟨g1,_⟩|⟨p,o',g1,g2,c,t,rfl,g3,g4,g5⟩
 ·rw [hs] at g1;omega
 ·obtain ⟨y1,y2,hy,q1,q2⟩:=g5.split
  obtain ⟨v,zs,q3,q4,rfl⟩:=q2
  have capX:∃c,len≤c∧VR e (.sl b' o i z len c true wh) v:=by
   rcases q3 with ⟨rfl,_,a,rfl⟩|⟨p,c,a,h1,h2,h3,_,_,h4,h5⟩
   ·exact ⟨0,Nat.le_refl _,.inl ⟨rfl,rfl,a,rfl⟩⟩
   ·exact ⟨c,h4,.inr ⟨p,c,a,h1,h2,h3,Nat.le_refl _,fun _=>rfl,h4,h5⟩⟩
  obtain ⟨k,hk,q5⟩:=capX
  refine ⟨k,hk,R.setW hb (fun p2 o2 r1 r2 _=>?_) (fun q=>by rw [hs] at q;omega)⟩
  rw [g1] at r1;cases r1
  rw [g2] at r2;cases r2
  refine ⟨c,t,rfl,g3,by rw [hs] at g4 ⊢;exact g4,?_⟩
  rw [hs] at hy ⊢
  rw [hy]
  exact q1.append ⟨v,zs,q5,q4,rfl⟩
theorem Ent.forget {t:List (Option SV)} {o o':Bool} (b:Nat) (hb:isBk h[b]? =true):Ent k ⟨t,h,o⟩ ⟨t,h.set b (.b []),o'⟩:=fun B e w t' hB hl R=>by
 cases q:h[b]? with
 |none=>rw [q] at hb;cases hb
 |some x=>
  cases x with
  |g g=>rw [q] at hb;cases hb
  |b ps=>exact ⟨e,rfl,hl,R.setW q (fun p o _ _ ⟨c,t,h1,h2,_,_⟩=>⟨c,t,h1,h2,Nat.zero_le _,rfl⟩) (fun _=>rfl)⟩
theorem Tr.anyC {c:Code} {t:List (Option SV)} {ob:Bool} {s':St} {x:Exit} {b:Nat} {pre post:List SV} {b' o i z len cap:Nat} {wh:Bool} (hb:h[b]? =some (.b (pre++ .sl b' o i z len cap false wh::post)))
  (g:∀cc,len≤cc→Tr P ro k c ⟨t,h.set b (.b (pre++ .sl b' o i z len cc true wh::post)),ob⟩ x s'):Tr P ro k c ⟨t,h,ob⟩ x s':=fun B e w t' d Q nn hB hl R hQ=>by
 obtain ⟨cc,h1,R'⟩:=Rel.capS R hb
 exact g cc h1 B e w t' d Q nn hB hl R' hQ
end
end Go.Sy
end
