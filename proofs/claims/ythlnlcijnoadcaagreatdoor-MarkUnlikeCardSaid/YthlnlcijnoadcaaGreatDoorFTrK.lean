/- This file holds the texts TrI, TrJ, TrK, a section each. No conditions beyond those in the theorems. -/
import Derived.Test.YthlnlcijnoadcaaGreatDoorFSxC
import Derived.ChangeMaps5
import Derived.Test.YthlnlcijnoadcaaGreatDoorFSxF
set_option linter.all false
section
namespace Go.Sy
open Go
section
variable {P:Program} {w:World}
def encE (l:List (Int×Int)):List (Value×Value):=l.map fun p=>(.int .i64 p.1,.int .i64 p.2)
def kvs (es:Array MapEntry):List (Value×Value):=es.toList.map fun e=>(e.key,e.val)
def getI:List (Int×Int)→Int→Int
 | [],_=>0
 |p::l,k=>bif k==p.1 then p.2 else getI l k
def setL:List (Int×Int)→Int→Int→List (Int×Int)
 | [],k,v=>[(k,v)]
 |p::l,k,v=>bif k==p.1 then (k,v)::l else p::setL l k v
theorem getI_set (l:List (Int×Int)) (k v j:Int):getI (setL l k v) j=bif j==k then v else getI l j:=by
 induction l with
 |nil=>simp [setL,getI]
 |cons p l ih=>
  simp only [setL,getI]
  cases h:(k==p.1) with
  |true=>
   simp only [cond_true,getI]
   have hk:k=p.1:=by simpa using h
   cases h2:(j==k) with
   |true=>rfl
   |false=>rw [←hk,h2];rfl
  |false=>
   simp only [cond_false,getI,ih]
   cases h2:(j==p.1) with
   |true=>
    have hj:j=p.1:=by simpa using h2
    have:(j==k)=false:=by
     rw [hj]
     cases h3:(p.1==k) with
     |true=>rw [eq_of_beq h3,beq_self_eq_true] at h;exact h
     |false=>rfl
    rw [this];rfl
   |false=>rfl
def findL:List (Int×Int)→Int→Nat→Option (Nat×Value)
 | [],_,_=>none
 |p::l,k,i=>bif k==p.1 then some (i,.int .i64 p.2) else findL l k (i+1)
theorem findNow_int (q:IntKind) (k:Int):∀(es:List MapEntry) (l:List (Int×Int)) (i:Nat),es.map (fun e=>(e.key,e.val))=encE l→Instr.findNow (.int q) (.int .i64 k) es i=some (findL l k i)
 | [],[],i,_=>rfl
 | [],_::_,_,h=>by simp [encE] at h
 |_::_,[],_,h=>by simp [encE] at h
 |e::es,p::l,i,h=>by
  simp only [encE,List.map_cons,List.cons.injEq,Prod.mk.injEq] at h
  obtain ⟨⟨h1,h2⟩,h3⟩:=h
  have ih:=findNow_int q k es l (i+1) h3
  unfold Instr.findNow
  rw [h1]
  simp only [Instr.sameNow,if_true,findL]
  cases hk:(k==p.1) with
  |true=>simp [h2]
  |false=>simpa using ih
theorem findL_get (l:List (Int×Int)) (k:Int):∀i,(match findL l k i with|some (_,v)=>v|none=>.int .i64 0)= .int .i64 (getI l k):=by
 induction l with
 |nil=>intro i;rfl
 |cons p l ih=>
  intro i
  simp only [findL,getI]
  cases k==p.1 with
  |true=>rfl
  |false=>exact ih (i+1)
theorem run_findKey {kt:TypeId} (hk:P.underlying kt=some (.int .i64)) {es:Array MapEntry} {l:List (Int×Int)} (hl:kvs es=encE l) (k:Int):(Instr.findKey kt (.int .i64 k) es.toList).run P w= .ok (findL l k 0) w:=by
 unfold Instr.findKey
 simp only [Sem.run_bind,run_underlying hk,Result.andThen_ok,findNow_int .i64 k es.toList l 0 hl,Sem.run_pure]
theorem run_checkKey {kt:TypeId} (hk:P.underlying kt=some (.int .i64)) (b:Bool) (k:Int):(Instr.checkKey b 10000 kt (.int .i64 k)).run P w= .ok () w:=by
 unfold Instr.checkKey
 simp only [Sem.run_bind,run_underlying hk,Result.andThen_ok,Sem.run_pure]
theorem run_lookupI {t kt et:TypeId} {m ck:Nat} {es:Array MapEntry} {l:List (Int×Int)} (ht:P.underlying t=some (.map kt et)) (hk:P.underlying kt=some (.int .i64)) (hz:(zeroValue et).run P w= .ok (.int .i64 0) w) (hm:w.heap[m]? =some (.map es ck)) (hl:kvs es=encE l) (k:Int):
  (Instr.lookup t (.map (some m)) (.int .i64 k) false).run P w= .ok (.int .i64 (getI l k)) w:=by
 unfold Instr.lookup
 simp only [Sem.run_bind,run_underlying ht,Result.andThen_ok,MapKept.run_getObj_map hm,Sem.run_pure,run_checkKey hk,run_findKey hk hl]
 have:=findL_get l k 0
 cases hq:findL l k 0 with
 |none=>rw [hq] at this;simp only [Sem.run_bind,hz,Result.andThen_ok,Sem.run_pure];simpa using this
 |some q=>rw [hq] at this;simp only [Sem.run_pure,Result.andThen_ok];simpa using this
theorem findL_set {l:List (Int×Int)} {k v:Int}:∀{i j:Nat} {u:Value},findL l k i=some (j,u)→i≤j∧(∀es:List MapEntry,es.map (fun e=>(e.key,e.val))=encE l→((es.modify (j-i) fun e=>{e with key:=.int .i64 k,val:=.int .i64 v}).map fun e=>(e.key,e.val))=encE (setL l k v)):=by
 induction l with
 |nil=>intro i j u h;simp [findL] at h
 |cons p l ih=>
  intro i j u h
  simp only [findL] at h
  cases hk:(k==p.1) with
  |true=>
   rw [hk] at h
   simp only [cond_true,Option.some.injEq,Prod.mk.injEq] at h
   obtain ⟨rfl,_⟩:=h
   refine ⟨Nat.le_refl _,fun es hes=>?_⟩
   cases es with
   |nil=>simp [encE] at hes
   |cons e es=>
    simp only [encE,List.map_cons,List.cons.injEq] at hes
    simp only [Nat.sub_self,List.modify_zero_cons,List.map_cons,setL,hk,cond_true,encE,List.cons.injEq]
    exact ⟨trivial,hes.2⟩
  |false=>
   rw [hk] at h
   obtain ⟨h1,h2⟩:=ih h
   refine ⟨by omega,fun es hes=>?_⟩
   cases es with
   |nil=>simp [encE] at hes
   |cons e es=>
    simp only [encE,List.map_cons,List.cons.injEq] at hes
    rw [show j-i=(j-(i+1))+1 by omega]
    simp only [List.modify_succ_cons,List.map_cons,setL,hk,cond_false,encE,List.cons.injEq]
    exact ⟨hes.1,h2 es hes.2⟩
theorem findL_none {l:List (Int×Int)} {k v:Int}:∀{i:Nat},findL l k i=none→setL l k v=l++[(k,v)]:=by
 induction l with
 |nil=>intro i _;rfl
 |cons p l ih=>
  intro i h
  simp only [findL] at h
  cases hk:(k==p.1) with
  |true=>rw [hk] at h;simp at h
  |false=>
   rw [hk] at h
   simp only [setL,hk,cond_false,ih (i:=i+1) h,List.cons_append]
theorem findL_key {l:List (Int×Int)} {k:Int}:∀{i j:Nat} {u:Value},findL l k i=some (j,u)→∀es:List MapEntry,es.map (fun e=>(e.key,e.val))=encE l→(es[j-i]?).map (·.key)=some (.int .i64 k):=by
 induction l with
 |nil=>intro i j u h;simp [findL] at h
 |cons p l ih=>
  intro i j u h es hes
  cases es with
  |nil=>simp [encE] at hes
  |cons e es=>
   simp only [encE,List.map_cons,List.cons.injEq,Prod.mk.injEq] at hes
   simp only [findL] at h
   cases hk:(k==p.1) with
   |true=>
    rw [hk] at h
    simp only [cond_true,Option.some.injEq,Prod.mk.injEq] at h
    obtain ⟨rfl,_⟩:=h
    have:k=p.1:=by simpa using hk
    simp [hes.1.1,this]
   |false=>
    rw [hk] at h
    have hle:=(findL_set (v:=0) h).1
    have:=ih h es hes.2
    rw [show j-i=(j-(i+1))+1 by omega]
    simpa using this
theorem run_updateI {t kt et:TypeId} {m ck:Nat} {es:Array MapEntry} {l:List (Int×Int)} (ht:P.underlying t=some (.map kt et)) (hk:P.underlying kt=some (.int .i64)) (hm:w.heap[m]? =some (.map es ck)) (hl:kvs es=encE l) (k v:Int):
  ∃es' ck',(Instr.mapUpdate t (.map (some m)) (.int .i64 k) (.int .i64 v)).run P w= .ok () (w.putObj m (.map es' ck'))∧kvs es'=encE (setL l k v):=by
 unfold Instr.mapUpdate
 simp only [Sem.run_bind,run_underlying ht,Result.andThen_ok,MapKept.run_getObj_map hm,run_checkKey hk,run_findKey hk hl]
 cases hq:findL l k 0 with
 |none=>
  refine ⟨_,_,MapKept.run_setObj_map _ hm,?_⟩
  rw [findL_none hq]
  unfold kvs at hl ⊢
  simp [encE,hl]
 |some q=>
  obtain ⟨j,u⟩:=q
  have hkey:=findL_key hq es.toList hl
  have hset:=(findL_set (v:=v) hq).2 es.toList hl
  rw [Nat.sub_zero] at hkey hset
  have hst:(Instr.keyThatStays (((es[j]?).map (·.key)).getD (.int .i64 k)) (.int .i64 k)).run P w= .ok (.int .i64 k) w:=by
   rw [show es[j]? =es.toList[j]? by simp,hkey]
   simp [Instr.keyThatStays,Instr.sameBits]
  simp only [Sem.run_bind,hst,Result.andThen_ok]
  refine ⟨_,_,MapKept.run_setObj_map _ hm,?_⟩
  unfold kvs
  rw [Array.toList_modify]
  exact hset
end
end Go.Sy
end
section
namespace Go.Sy
open Go
section
variable {P:Program} {ro:Option Nat} {k:Nat}
theorem Rel.kept {B:Base} {e:Env} {h:List Blk} {w w':World} {m:Nat} (R:Rel B e h w) (h1:w'.os=w.os) (h2:w'.tape=w.tape) (h3:w'.output=w.output) (hs:w.heap.size≤w'.heap.size) (hk:∀n,n<w.heap.size→n≠m→w'.heap[n]? =w.heap[n]?) (hB:B.w.heap.size≤m)
  (hm:w.heap[m]? =none∨∃es ck,w.heap[m]? =some (.map es ck)):Rel B e h w':=by
 have keep:∀{n:Nat} {o:Obj},w.heap[n]? =some o→(∀es ck,o≠.map es ck)→w'.heap[n]? =some o:=fun {n o} ho hn=>by
  rw [hk n (Array.getElem?_eq_some_iff.1 ho).1 (fun q=>by
   subst q
   rcases hm with hm|⟨es,ck,hm⟩<;>rw [hm] at ho
   ·cases ho
   ·cases ho;exact hn _ _ rfl)];exact ho
 exact {
  os:=h1.trans R.os,tape:=h2.trans R.tape,output:=h3.trans R.output
  size:=Nat.le_trans R.size hs
  inj:=R.inj,dom:=R.dom,sep:=R.sep
  zok:=fun n c t fr hz=>keep (R.zok n c t fr hz) (by simp)
  zfresh:=R.zfresh,glb:=R.glb,news:=R.news,keepr:=R.keepr,keepz:=R.keepz,n0:=R.n0,n0le:=R.n0le
  blk:=fun i ps hi=>(R.blk i ps hi).imp id fun ⟨p,o,g1,g2,g3⟩=>by
   obtain ⟨c,t,rfl,h4,h5,h6⟩:=g3
   exact ⟨p,_,g1,keep g2 (by simp),c,t,rfl,h4,h5,h6⟩
  gap:=fun i g hi=>⟨(R.gap i g hi).1,(R.gap i g hi).2.le (fun n o hn=>keep hn (by simp)) rfl ⟨fun _ _ h=>h,fun _ _ h=>h,Nat.le_refl _⟩⟩
  yi:=R.yi,yb:=R.yb
  old:=fun n hn hno hnl=>by rw [hk n (by have:=R.size;omega) (by omega)];exact R.old n hn hno hnl
  win:=fun i p hi=>by
   obtain ⟨o,o',g1,g2,g3⟩:=R.win i p hi
   obtain ⟨c,c',t,fr,rfl,rfl,h4⟩:=g3
   exact ⟨_,_,g1,keep g2 (by simp),c,c',t,fr,rfl,rfl,h4⟩
  kr:=R.kr,kle:=R.kle
  mks:=fun q hq=>⟨keep (R.mks q hq).1 (by simp),(R.mks q hq).2⟩
  mnd:=R.mnd}
def MapH (m:Nat) (l:List (Int×Int)):HP:=fun B e w=>B.w.heap.size≤m∧∃es ck,w.heap[m]? =some (.map es ck)∧kvs es=encE l
theorem MapH.keeps (m:Nat) (l:List (Int×Int)):Keeps (MapH m l):=fun B _ h w e' h' w' ms R ⟨h1,es,ck,h2,h3⟩ S=>by
 refine ⟨h1,es,ck,?_,h3⟩
 have hlt:m<w.heap.size:=(Array.getElem?_eq_some_iff.1 h2).1
 rw [S.old m hlt (fun i p hi q=>?_) (fun hl=>?_)]
 ·exact h2
 ·obtain ⟨c,t,g,_⟩:=R.isCells (b:=i) (p:=p) hi
  rw [q,h2] at g;cases g
 ·obtain ⟨i,L,g1,rfl⟩:=loopsOf_mem.1 hl
  obtain ⟨_,_,r,g2,_⟩:=R.gap i _ g1
  rw [h2] at g2;cases g2
theorem OX.op {ops:Array Oper} {i:Nat} {o:Oper} {s:St} {H H':HP} {v:SV} (hi:ops[i]? =some o) (hd:∀c,o.op≠.defer c) (hw:wantS ops s.t o=some true)
  (g:∀(B:Base) (e:Env) (w:World) (t':List Value) (d:List Deferred),TR e s.t t'→Rel B e s.h w→H B e w→∃v' w',(execOp (Act.eval ⟨⟨t'⟩,d⟩) o).run P w= .ok (.value v') w'∧VR e v v'∧Rel B e s.h w'∧H' B e w'):OX P ro k ops [i] s H ⟨putT s.t o.dst v,s.h,s.ob⟩ H':=by
 intro B e w t' d Q nn rest hB hl R hh hQ
 rw [List.singleton_append,wpOpsIn_cons]
 unfold wpOpIn
 rw [hi]
 simp only []
 rw [if_pos (wantS_sound hl hw)]
 obtain ⟨v',w',hr,hv,R',hh'⟩:=g B e w t' (mkD e.m++d) hl R hh
 refine ⟨fun _ _=>trivial,?_⟩
 rw [Oper.semAt_eq _ _ _ hd,hr]
 obtain ⟨t'',q,hl'⟩:=TR.put (d:=mkD e.m++d) (o:=o.dst) hl hv
 show wpOpsIn _ _ _ _ _ _ (Act.put _ _ _) _
 rw [q]
 exact hQ e w' t'' hl' R' hh'
theorem OX.opU {ops:Array Oper} {i:Nat} {o:Oper} {s:St} {H H':HP} (hi:ops[i]? =some o) (hd:∀c,o.op≠.defer c) (hn:o.dst=none) (hw:wantS ops s.t o=some true)
  (g:∀(B:Base) (e:Env) (w:World) (t':List Value) (d:List Deferred),TR e s.t t'→Rel B e s.h w→H B e w→∃w',(execOp (Act.eval ⟨⟨t'⟩,d⟩) o).run P w= .ok .skip w'∧Rel B e s.h w'∧H' B e w'):OX P ro k ops [i] s H s H':=by
 intro B e w t' d Q nn rest hB hl R hh hQ
 rw [List.singleton_append,wpOpsIn_cons]
 unfold wpOpIn
 rw [hi]
 simp only []
 rw [if_pos (wantS_sound hl hw)]
 obtain ⟨w',hr,R',hh'⟩:=g B e w t' (mkD e.m++d) hl R hh
 refine ⟨fun _ _=>trivial,?_⟩
 rw [Oper.semAt_eq _ _ _ hd,hr]
 show wpOpsIn _ _ _ _ _ _ (Act.put _ _ _) _
 rw [hn]
 exact hQ e w' t' hl R' hh'
theorem OX.ask {ops:Array Oper} {i:Nat} {dst:Option Tmp} {s:St} {t kt et:TypeId} {xm xk:Operand} {m:Nat} {l:List (Int×Int)} {x:Int} (hi:(ops[i]?).map (fun o=>(o.dst,o.op))=some (dst,.lookup t xm xk false)) (hw:(ops[i]?).bind (wantS ops s.t)=some true) (ht:P.underlying t=some (.map kt et)) (hk:P.underlying kt=some (.int .i64)) (hz:zeroOf P et=some (.int .i64 0))
  (h1:ev s.t xm=some (.nl (.map (some m)))) (h2:ev s.t xk=some (.int .i64 x)):OX P ro k ops [i] s (MapH m l) ⟨putT s.t dst (.int .i64 (getI l x)),s.h,s.ob⟩ (MapH m l):=by
 obtain ⟨o,hj,hw⟩:=Option.bind_eq_some_iff.1 hw
 have hi0:=hi
 rw [hj] at hi0
 clear hi
 have hi:=hj
 simp only [Option.map_some,Option.some.injEq,Prod.mk.injEq] at hi0
 obtain ⟨rfl,ho⟩:=hi0
 refine OX.op hi (by rw [ho];simp) hw fun B _ w t' d hl R hh=>?_
 obtain ⟨hB,es,ck,h3,h4⟩:=hh
 have e1:Act.eval ⟨⟨t'⟩,d⟩ xm= .map (some m):=ev_sound (d:=d) hl h1
 have e2:Act.eval ⟨⟨t'⟩,d⟩ xk= .int .i64 x:=ev_sound (d:=d) hl h2
 refine ⟨.int .i64 (getI l x),w,?_,rfl,R,hB,es,ck,h3,h4⟩
 unfold execOp
 rw [ho]
 simp only [Sem.run_bind]
 rw [e1,e2,run_lookupI ht hk (zeroOf_run hz w) h3 h4]
 rfl
theorem OX.write {ops:Array Oper} {i:Nat} {s:St} {t kt et:TypeId} {xm xk xv:Operand} {m:Nat} {l:List (Int×Int)} {x v:Int} (hi:(ops[i]?).map (fun o=>(o.dst,o.op))=some (none,.mapUpdate t xm xk xv)) (hw:(ops[i]?).bind (wantS ops s.t)=some true) (ht:P.underlying t=some (.map kt et)) (hk:P.underlying kt=some (.int .i64))
  (h1:ev s.t xm=some (.nl (.map (some m)))) (h2:ev s.t xk=some (.int .i64 x)) (h3:ev s.t xv=some (.int .i64 v)):OX P ro k ops [i] s (MapH m l) s (MapH m (setL l x v)):=by
 obtain ⟨o,hj,hw⟩:=Option.bind_eq_some_iff.1 hw
 have hi0:=hi
 rw [hj] at hi0
 clear hi
 have hi:=hj
 simp only [Option.map_some,Option.some.injEq,Prod.mk.injEq] at hi0
 obtain ⟨hd,ho⟩:=hi0
 refine OX.opU hi (by rw [ho];simp) hd hw fun B _ w t' d hl R hh=>?_
 obtain ⟨hB,es,ck,h4,h5⟩:=hh
 have e1:Act.eval ⟨⟨t'⟩,d⟩ xm= .map (some m):=ev_sound (d:=d) hl h1
 have e2:Act.eval ⟨⟨t'⟩,d⟩ xk= .int .i64 x:=ev_sound (d:=d) hl h2
 have e3:Act.eval ⟨⟨t'⟩,d⟩ xv= .int .i64 v:=ev_sound (d:=d) hl h3
 obtain ⟨es',ck',hr,hs⟩:=run_updateI ht hk h4 h5 x v
 refine ⟨w.putObj m (.map es' ck'),?_,?_,hB,es',ck',?_,hs⟩
 ·unfold execOp
  rw [ho]
  simp only [Sem.run_bind]
  rw [e1,e2,e3,hr]
  rfl
 ·exact R.kept (m:=m) rfl rfl rfl (by rw [World.putObj_size];exact Nat.le_refl _) (fun n _ hn=>World.putObj_heap_other hn) hB (.inr ⟨es,ck,h4⟩)
 ·have:=(Array.getElem?_eq_some_iff.1 h4).1
  simp [World.putObj,this]
def OXE (P:Program) (ro:Option Nat) (k:Nat) (ops:Array Oper) (is:List Nat) (s:St) (H:HP) (F:Nat→St) (G:Nat→HP):Prop:=
 ∀(B:Base) (e:Env) (w:World) (t':List Value) (d:List Deferred) (Q:Exit→Act→World→Prop) (nn:Nat) (rest:List Nat),B.k≤k→TR e s.t t'→Rel B e s.h w→H B e w→
  (∀m e' w' t'',TR e' (F m).t t''→Rel B e' (F m).h w'→G m B e' w'→wpOpsIn (wF ro) nn P ops Q rest ⟨⟨t''⟩,mkD e'.m++d⟩ w')→wpOpsIn (wF ro) nn P ops Q (is++rest) ⟨⟨t'⟩,mkD e.m++d⟩ w
theorem OXE.append {ops:Array Oper} {is js:List Nat} {s:St} {H:HP} {F F':Nat→St} {G G':Nat→HP} (h1:OXE P ro k ops is s H F G) (h2:∀m,OX P ro k ops js (F m) (G m) (F' m) (G' m)):OXE P ro k ops (is++js) s H F' G':=
 fun B e w t' d Q nn rest hB hl R hh hQ=>by
  rw [List.append_assoc]
  exact h1 B e w t' d Q nn (js++rest) hB hl R hh fun m e1 w1 t1 hl1 R1 g1=>h2 m B e1 w1 t1 d Q nn rest hB hl1 R1 g1 (hQ m)
theorem OXE.region {ops:Array Oper} {s s':St} {H H':HP} {F:Nat→St} {G:Nat→HP} {b:Code} {x:Exit} (id:Nat) (h:OXE P ro k ops (List.range ops.size) s H F G) (g:∀m,TrX P ro k b (F m) (G m) x s' H'):TrX P ro k (.seq (.region id ops false) b) s H x s' H':=
 fun B e w t' d Q nn hB hl R hh hQ=>wpIn_seq (wpIn_region (by
  have:=h B e w t' d (Exit.then (b.wpIn (wF ro) nn P Q) Q) nn [] hB hl R hh fun m e1 w1 t1 hl1 R1 g1=>g m B e1 w1 t1 d Q nn hB hl1 R1 g1 hQ
  rwa [List.append_nil] at this))
theorem OXE.make {ops:Array Oper} {i:Nat} {dst:Option Tmp} {s:St} {t:TypeId} (hi:(ops[i]?).map (fun o=>(o.dst,o.op))=some (dst,.makeMap t none)) (hw:(ops[i]?).bind (wantS ops s.t)=some true):OXE P ro k ops [i] s (fun _ _ _=>True) (fun m=>⟨putT s.t dst (.nl (.map (some m))),s.h,s.ob⟩) (fun m=>MapH m []):=by
 obtain ⟨o,hj,hw⟩:=Option.bind_eq_some_iff.1 hw
 have hi0:=hi
 rw [hj] at hi0
 clear hi
 have hi:=hj
 simp only [Option.map_some,Option.some.injEq,Prod.mk.injEq] at hi0
 obtain ⟨rfl,ho⟩:=hi0
 intro B e w t' d Q nn rest hB hl R hh hQ
 rw [List.singleton_append,wpOpsIn_cons]
 unfold wpOpIn
 rw [hi]
 simp only []
 rw [if_pos (wantS_sound hl hw)]
 refine ⟨fun _ _=>trivial,?_⟩
 rw [Oper.semAt_eq _ _ _ (by rw [ho];simp)]
 have hr:(execOp (Act.eval ⟨⟨t'⟩,mkD e.m++d⟩) o).run P w= .ok (.value (.map (some w.heap.size))) (w.alloc (.map #[] 0)):=by
  unfold execOp
  rw [ho]
  simp [Instr.makeMap,newObj,Sem.run]
 rw [hr]
 obtain ⟨t'',q,hl'⟩:=TR.put (d:=mkD e.m++d) (o:=o.dst) hl (show VR e (.nl (.map (some w.heap.size))) (.map (some w.heap.size)) from rfl)
 show wpOpsIn _ _ _ _ _ _ (Act.put _ _ _) _
 rw [q]
 refine hQ _ e _ t'' hl' (R.kept (m:=w.heap.size) rfl rfl rfl (by rw [World.size_alloc];omega) (fun n hn _=>heap_alloc_old w _ n hn) R.size (.inl (by simp))) ⟨R.size,_,_,heap_alloc_new w _,rfl⟩
end
end Go.Sy
end
section
namespace Go.Sy
open Go
section
variable {P:Program} {ro:Option Nat} {k:Nat} {H H1 H':HP}
def Free' (H:HP):Prop:=∀B e e' w,H B e w→H B e' w
theorem MapH.free (m:Nat) (l:List (Int×Int)):Free' (MapH m l):=fun _ _ _ _ h=>h
theorem TrX.ent (hE:Free' H') {c:Code} {s s1 s':St} {x:Exit} (h:TrX P ro k c s H x s1 H') (g:Ent k s1 s'):TrX P ro k c s H x s' H':=
 TrX.post h fun B e w t' hB hl R hh=>by
  obtain ⟨e',h1,h2,h3⟩:=g B e w t' hB hl R
  exact ⟨e',h1,h2,h3,hE _ _ _ _ hh⟩
theorem TrX.weak {c:Code} {s s':St} {x:Exit} (h:TrX P ro k c s H x s' H1) (g:∀B e w,H1 B e w→H' B e w):TrX P ro k c s H x s' H':=
 fun B e w t' d Q nn hB hl R hh hQ=>h B e w t' d Q nn hB hl R hh fun e2 w2 t2 hl2 R2 g2=>hQ e2 w2 t2 hl2 R2 (g _ _ _ g2)
theorem TrX.pre (hE:Free' H) {c:Code} {s s1 s':St} {x:Exit} (h:TrX P ro k c s1 H x s' H') (g:Ent k s s1):TrX P ro k c s H x s' H':=
 fun B e w t' d Q nn hB hl R hh hQ=>by
  obtain ⟨e1,h1,h2,h3⟩:=g B e w t' hB hl R
  rw [←h1]
  exact h B e1 w t' d Q nn hB h2 h3 (hE _ _ _ _ hh) hQ
theorem TrX.frames (hH:Keeps H) {b:Code} {s':St} {x:Exit} {l:List Code} {s s1:St} (g:TrL P ro s.h.length l s .normal s1) (h:TrX P ro k b s1 H x s' H'):TrX P ro k (l.foldr .seq b) s H x s' H':=by
 intro B e w t' d Q nn hB hl R hh hQ
 have key:∀(l:List Code) (s0:St),TrL P ro s.h.length l s0 .normal s1→∀(e':Env) (w':World) (t2:List Value),TR e' s0.t t2→Rel (baseOf e s.h w) e' s0.h w'→(l.foldr Code.seq b).wpIn (wF ro) nn P Q ⟨⟨t2⟩,mkD e'.m++(mkD e.m++d)⟩ w':=by
  intro l
  induction l with
  |nil=>
   intro s0 g e' w' t2 hl' R'
   obtain ⟨_,rfl⟩:=g
   have:=h B {e' with m:=e'.m++e.m} w' t2 d Q nn hB (TR.mono (e:=e') (e':={e' with m:=e'.m++e.m}) ⟨fun _ _ h=>h,fun _ _ h=>h,Nat.le_refl _⟩ hl') (R.transM R') (hH B e s.h w e' _ w' _ R hh R') hQ
   rw [mkD_append,List.append_assoc] at this
   exact this
  |cons a l ih=>
   intro s0 g e' w' t2 hl' R'
   rcases g with ⟨s2,g1,g2⟩|⟨hx,_⟩
   ·exact wpIn_seq (g1 _ e' w' t2 _ _ nn (Nat.le_refl _) hl' R' fun e3 w3 t3 hl3 R3=>ih s2 g2 e3 w3 t3 hl3 R3)
   ·exact absurd rfl hx
 have:=key l s g (e.bare s.h) w t' (hl.mono (bare_le e s.h)) R.self
 exact this
theorem TrX.heads {Γ:Ctr} (hΓ:CtrSound P Γ) (hH:Keeps H) (hE:Free' H) (n:Nat) (live:List Nat) (m:Nat) (hm:k≤m) {l:List Code} {b:Code} {s s1 s':St} {x:Exit} (ob:Bool)
  (e:resX (cutR live m ((execL P Γ n s.h.length l.length l s).map fun s=>(Exit.normal,s)))=some (.normal,s1.t,s1.h)) (hob:obX (cutR live m ((execL P Γ n s.h.length l.length l s).map fun s=>(Exit.normal,s)))=ob) (h:ob=true)
  (g:TrX P ro k b s1 H x s' H'):TrX P ro k (l.foldr .seq b) s H x s' H':=by
 unfold resX cutR at e
 unfold obX cutR at hob
 cases hr:execL P Γ n s.h.length l.length l s with
 |none=>rw [hr] at e;cases e
 |some q=>
  rw [hr] at e hob
  simp only [Option.map_some,Option.bind_some] at e hob
  cases hc:q.cut live m with
  |none=>rw [hc] at e;cases e
  |some q2=>
   rw [hc] at e hob
   simp only [Option.map_some,Option.some.injEq,Prod.mk.injEq,true_and] at e hob
   obtain ⟨h1,h2⟩:=e
   have hq:q.ob=true:=by
    unfold St.cut St.trunc at hc
    split at hc
    ·cases hc;exact hob.trans h
    ·cases hc
   have:=(execL_sound hΓ n l.length (ro:=ro) (s':=q) (x:=.normal) hr hq (by rw [List.drop_length];exact ⟨rfl,rfl⟩)).1
   exact TrX.frames hH this (g.pre hE ((Ent.cut hm hc).trans (Ent.same h1 h2)))
theorem TrX.cutX {Γ:Ctr} (hΓ:CtrSound P Γ) (hH:Keeps H) (hE:Free' H) (n:Nat) (live:List Nat) (m:Nat) (hm:k≤m) {c:Code} {s s':St} {x:Exit} (ob:Bool) (e:resX (cutR live m (Sy.exec P Γ n s.h.length c s))=some (x,s'.t,s'.h)) (hob:obX (cutR live m (Sy.exec P Γ n s.h.length c s))=ob) (h:ob=true):TrX P ro k c s H x s' H:=by
 unfold resX cutR at e
 unfold obX cutR at hob
 cases hr:Sy.exec P Γ n s.h.length c s with
 |none=>rw [hr] at e;cases e
 |some q=>
  obtain ⟨y,q⟩:=q
  rw [hr] at e hob
  simp only [Option.bind_some] at e hob
  cases hc:q.cut live m with
  |none=>rw [hc] at e;cases e
  |some q2=>
   rw [hc] at e hob
   simp only [Option.map_some,Option.some.injEq,Prod.mk.injEq] at e hob
   obtain ⟨rfl,h1,h2⟩:=e
   have hq:q.ob=true:=by
    unfold St.cut St.trunc at hc
    split at hc
    ·cases hc;exact hob.trans h
    ·cases hc
   exact TrX.ent hE (TrX.frame hH ((exec_sound hΓ n ro s.h.length).1 _ _ _ _ hr hq)) ((Ent.cut hm hc).trans (Ent.same h1 h2))
theorem OX.ent (hE:Free' H') {ops:Array Oper} {is:List Nat} {s s1 s':St} (h:OX P ro k ops is s H s1 H') (g:Ent k s1 s'):OX P ro k ops is s H s' H':=
 fun B e w t' d Q nn rest hB hl R hh hQ=>h B e w t' d Q nn rest hB hl R hh fun e2 w2 t2 hl2 R2 g2=>by
  obtain ⟨e1,h1,h2,h3⟩:=g B e2 w2 t2 hB hl2 R2
  rw [←h1]
  exact hQ e1 w2 t2 h2 h3 (hE _ _ _ _ g2)
theorem OX.runX {Γ:Ctr} (hΓ:CtrSound P Γ) (hH:Keeps H) (hE:Free' H) (n:Nat) (live:List Nat) (m:Nat) (hm:k≤m) {ops:Array Oper} {is:List Nat} {s s':St} (ob:Bool)
  (e:resX (cutR live m ((runOps P (callG P Γ fun k=>Sy.exec P Γ n k) Γ.sym Γ.inp s.h.length ops is s).map fun s=>(Exit.normal,s)))=some (.normal,s'.t,s'.h)) (hob:obX (cutR live m ((runOps P (callG P Γ fun k=>Sy.exec P Γ n k) Γ.sym Γ.inp s.h.length ops is s).map fun s=>(Exit.normal,s)))=ob) (h:ob=true):OX P ro k ops is s H s' H:=by
 unfold resX cutR at e
 unfold obX cutR at hob
 cases hr:runOps P (callG P Γ fun k=>Sy.exec P Γ n k) Γ.sym Γ.inp s.h.length ops is s with
 |none=>rw [hr] at e;cases e
 |some q=>
  rw [hr] at e hob
  simp only [Option.map_some,Option.bind_some] at e hob
  cases hc:q.cut live m with
  |none=>rw [hc] at e;cases e
  |some q2=>
   rw [hc] at e hob
   simp only [Option.map_some,Option.some.injEq,Prod.mk.injEq,true_and] at e hob
   obtain ⟨h1,h2⟩:=e
   have hq:q.ob=true:=by
    unfold St.cut St.trunc at hc
    split at hc
    ·cases hc;exact hob.trans h
    ·cases hc
   exact OX.ent hE (OX.run hΓ hH n hr hq) ((Ent.cut hm hc).trans (Ent.same h1 h2))
def sqA:Code→Code
 | .seq a _=>a
 |c=>c
def sqB:Code→Code
 | .seq _ b=>b
 |c=>c
def cdA:Code→Code
 | .cond _ a _=>a
 |c=>c
def cdB:Code→Code
 | .cond _ _ b=>b
 |c=>c
def opsOf:Code→Array Oper
 | .region _ ops _=>ops
 |_=>#[]
end
end Go.Sy
end
