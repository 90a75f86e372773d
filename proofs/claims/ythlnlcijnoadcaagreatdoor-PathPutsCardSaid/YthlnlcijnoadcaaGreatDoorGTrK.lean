/- This file holds the texts TrI, TrJ, TrK, a section each. No conditions beyond those in the theorems. -/
import Derived.Test.YthlnlcijnoadcaaGreatDoorGSxC
import Derived.ChangeMaps5
import Derived.Test.YthlnlcijnoadcaaGreatDoorGSxF
noncomputable section
set_option linter.all false
section
namespace Go.Sy
open Go
section
variable {P:Program} {w:World}
def jQ (l:List (Int×Int)):List (Value×Value):=l.map λp=>(.int .i64 p.1,.int .i64 p.2)
def kvs (es:Array MapEntry):List (Value×Value):=es.toList.map λe=>(e.key,e.val)
def iq:List (Int×Int)->Int->Int
 | [],_=>0
 |p::l,k=>bif k==p.1 then p.2 else iq l k
def lU:List (Int×Int)->Int->Int->List (Int×Int)
 | [],k,v=>[(k,v)]
 |p::l,k,v=>bif k==p.1 then (k,v)::l else p::lU l k v
theorem IM (l:List (Int×Int)) (k v j:Int):iq (lU l k v) j=bif j==k then v else iq l j:=by
 induction l with
 |nil=>simp [lU,iq]
 |cons p l ih=>
  simp only [lU,iq]
  cases h:(k==p.1) with
  |true=>
   simp only [aeL,iq]
   have hk:k=p.1:=by simpa using h
   cases h2:(j==k) with
   |true=>rfl
   |false=>rw [<-hk,h2];rfl
  |false=>
   simp only [cond_false,iq,ih]
   cases h2:(j==p.1) with
   |true=>
    have hj:j=p.1:=by simpa using h2
    have:(j==k)=false:=by
     rw [hj]
     cases h3:(p.1==k) with
     |true=>rw [eq_of_beq h3,beq_self_eq_true] at h;exact h
     |false=>rfl
    rw [this];rfl
   |false=>rfl
def iA:List (Int×Int)->Int->Nat->Option (Nat×Value)
 | [],_,_=>none
 |p::l,k,i=>bif k==p.1 then some (i,.int .i64 p.2) else iA l k (i+1)
theorem rD (q:IntKind) (k:Int):∀(es:List MapEntry) (l:List (Int×Int)) (i:Nat),es.map (λe=>(e.key,e.val))=jQ l->Instr.findNow (.int q) (.int .i64 k) es i=some (iA l k i)
 | [],[],i,_=>rfl
 | [],_::_,_,h=>by simp [jQ] at h
 |_::_,[],_,h=>by simp [jQ] at h
 |e::es,p::l,i,h=>by
  simp only [jQ,List.map_cons,List.cons.injEq,aae] at h
  obtain ⟨⟨h1,h2⟩,h3⟩:=h
  have ih:=rD q k es l (i+1) h3
  unfold Instr.findNow
  rw [h1]
  simp only [Instr.sameNow,if_true,iA]
  cases hk:(k==p.1) with
  |true=>simp [h2]
  |false=>simpa using ih
theorem EB (l:List (Int×Int)) (k:Int):∀i,(match iA l k i with|some (_,v)=>v|none=>.int .i64 0)= .int .i64 (iq l k):=by
 induction l with
 |nil=>intro i;rfl
 |cons p l ih=>
  intro i
  simp only [iA,iq]
  cases k==p.1 with
  |true=>rfl
  |false=>exact ih (i+1)
theorem run_findKey {kt:TypeId} (hk:P.underlying kt=some (.int .i64)) {es:Array MapEntry} {l:List (Int×Int)} (hl:kvs es=jQ l) (k:Int):(Instr.findKey kt (.int .i64 k) es.toList).run P w= .ok (iA l k 0) w:=by
 unfold Instr.findKey
 simp only [aaq,aas hk,aak,rD .i64 k es.toList l 0 hl,aax]
theorem run_checkKey {kt:TypeId} (hk:P.underlying kt=some (.int .i64)) (b:Bool) (k:Int):(Instr.checkKey b 10000 kt (.int .i64 k)).run P w= .ok () w:=by
 unfold Instr.checkKey
 simp only [aaq,aas hk,aak,aax]
theorem zM {t kt et:TypeId} {m ck:Nat} {es:Array MapEntry} {l:List (Int×Int)} (ht:P.underlying t=some (.map kt et)) (hk:P.underlying kt=some (.int .i64)) (hz:(zeroValue et).run P w= .ok (.int .i64 0) w) (hm:w.heap[m]? =some (.map es ck)) (hl:kvs es=jQ l) (k:Int):
  (Instr.lookup t (.map (some m)) (.int .i64 k) false).run P w= .ok (.int .i64 (iq l k)) w:=by
 unfold Instr.lookup
 simp only [aaq,aas ht,aak,MapKept.run_getObj_map hm,aax,run_checkKey hk,run_findKey hk hl]
 have:=EB l k 0
 cases hq:iA l k 0 with
 |none=>rw [hq] at this;simp only [aaq,hz,aak,aax];simpa using this
 |some q=>rw [hq] at this;simp only [aax,aak];simpa using this
theorem we {l:List (Int×Int)} {k v:Int}:∀{i j:Nat} {u:Value},iA l k i=some (j,u)->i<=j/\(∀es:List MapEntry,es.map (λe=>(e.key,e.val))=jQ l->((es.modify (j-i) λe=>{e with key:=.int .i64 k,val:=.int .i64 v}).map λe=>(e.key,e.val))=jQ (lU l k v)):=by
 induction l with
 |nil=>intro i j u h;simp [iA] at h
 |cons p l ih=>
  intro i j u h
  simp only [iA] at h
  cases hk:(k==p.1) with
  |true=>
   rw [hk] at h
   simp only [aeL,No,aae] at h
   obtain ⟨rfl,_⟩:=h
   refine ⟨aaf _,λes z5=>?_⟩
   cases es with
   |nil=>simp [jQ] at z5
   |cons e es=>
    simp only [jQ,List.map_cons,List.cons.injEq] at z5
    simp only [Nat.sub_self,List.modify_zero_cons,List.map_cons,lU,hk,aeL,jQ,List.cons.injEq]
    exact ⟨trivial,z5.2⟩
  |false=>
   rw [hk] at h
   obtain ⟨h1,h2⟩:=ih h
   refine ⟨by omega,λes z5=>?_⟩
   cases es with
   |nil=>simp [jQ] at z5
   |cons e es=>
    simp only [jQ,List.map_cons,List.cons.injEq] at z5
    rw [show j-i=(j-(i+1))+1 by omega]
    simp only [List.modify_succ_cons,List.map_cons,lU,hk,cond_false,jQ,List.cons.injEq]
    exact ⟨z5.1,h2 es z5.2⟩
theorem Bv {l:List (Int×Int)} {k v:Int}:∀{i:Nat},iA l k i=none->lU l k v=l++[(k,v)]:=by
 induction l with
 |nil=>intro i _;rfl
 |cons p l ih=>
  intro i h
  simp only [iA] at h
  cases hk:(k==p.1) with
  |true=>rw [hk] at h;simp at h
  |false=>
   rw [hk] at h
   simp only [lU,hk,cond_false,ih (i:=i+1) h,List.cons_append]
theorem EC {l:List (Int×Int)} {k:Int}:∀{i j:Nat} {u:Value},iA l k i=some (j,u)->∀es:List MapEntry,es.map (λe=>(e.key,e.val))=jQ l->(es[j-i]?).map (·.key)=some (.int .i64 k):=by
 induction l with
 |nil=>intro i j u h;simp [iA] at h
 |cons p l ih=>
  intro i j u h es z5
  cases es with
  |nil=>simp [jQ] at z5
  |cons e es=>
   simp only [jQ,List.map_cons,List.cons.injEq,aae] at z5
   simp only [iA] at h
   cases hk:(k==p.1) with
   |true=>
    rw [hk] at h
    simp only [aeL,No,aae] at h
    obtain ⟨rfl,_⟩:=h
    have:k=p.1:=by simpa using hk
    simp [z5.1.1,this]
   |false=>
    rw [hk] at h
    have hle:=(we (v:=0) h).1
    have:=ih h es z5.2
    rw [show j-i=(j-(i+1))+1 by omega]
    simpa using this
theorem zN {t kt et:TypeId} {m ck:Nat} {es:Array MapEntry} {l:List (Int×Int)} (ht:P.underlying t=some (.map kt et)) (hk:P.underlying kt=some (.int .i64)) (hm:w.heap[m]? =some (.map es ck)) (hl:kvs es=jQ l) (k v:Int):
  ∃es' ck',(Instr.mapUpdate t (.map (some m)) (.int .i64 k) (.int .i64 v)).run P w= .ok () (w.putObj m (.map es' ck'))/\kvs es'=jQ (lU l k v):=by
 unfold Instr.mapUpdate
 simp only [aaq,aas ht,aak,MapKept.run_getObj_map hm,run_checkKey hk,run_findKey hk hl]
 cases hq:iA l k 0 with
 |none=>
  refine ⟨_,_,MapKept.run_setObj_map _ hm,?_⟩
  rw [Bv hq]
  unfold kvs at hl ⊢
  simp [jQ,hl]
 |some q=>
  obtain ⟨j,u⟩:=q
  have hkey:=EC hq es.toList hl
  have rG:=(we (v:=v) hq).2 es.toList hl
  rw [Nat.sub_zero] at hkey rG
  have hst:(Instr.keyThatStays (((es[j]?).map (·.key)).getD (.int .i64 k)) (.int .i64 k)).run P w= .ok (.int .i64 k) w:=by
   rw [show es[j]? =es.toList[j]? by simp,hkey]
   simp [Instr.keyThatStays,Instr.sameBits]
  simp only [aaq,hst,aak]
  refine ⟨_,_,MapKept.run_setObj_map _ hm,?_⟩
  unfold kvs
  rw [Array.toList_modify]
  exact rG
end
end Go.Sy
end
section
namespace Go.Sy
open Go
section
variable {P:Program} {ro:Option Nat} {k:Nat}
theorem Rel.kept {B:cP} {e:Env} {h:List Blk} {w w':World} {m:Nat} (R:Rel B e h w) (h1:w'.os=w.os) (h2:w'.tape=w.tape) (h3:w'.output=w.output) (hs:w.heap.size<=w'.heap.size) (hk:∀n,n<w.heap.size->n≠m->w'.heap[n]? =w.heap[n]?) (hB:B.w.heap.size<=m)
  (hm:w.heap[m]? =none\/∃es ck,w.heap[m]? =some (.map es ck)):Rel B e h w':=by
 have keep:∀{n:Nat} {o:Obj},w.heap[n]? =some o->(∀es ck,o≠.map es ck)->w'.heap[n]? =some o:=λ{n o} ho hn=>by
  rw [hk n (aav.1 ho).1 (λq=>by
   subst q
   rcases hm with hm|⟨es,ck,hm⟩<;>rw [hm] at ho
   ·cases ho
   ·cases ho;exact hn _ _ rfl)];exact ho
 exact {
  os:=h1.trans R.os,tape:=h2.trans R.tape,output:=h3.trans R.output
  size:=abi R.size hs
  inj:=R.inj,dom:=R.dom,sep:=R.sep
  eU:=λn c t fr hz=>keep (R.eU n c t fr hz) (by simp)
  bp:=R.bp,dU:=R.dU,news:=R.news,bA:=R.bA,bM:=R.bM,n0:=R.n0,cI:=R.cI
  ew:=λi ps hi=>(R.ew i ps hi).imp id λ⟨p,o,g1,g2,g3⟩=>by
   obtain ⟨c,t,rfl,h4,h5,h6⟩:=g3
   exact ⟨p,_,g1,keep g2 (by simp),c,t,rfl,h4,h5,h6⟩
  gap:=λi g hi=>⟨(R.gap i g hi).1,(R.gap i g hi).2.le (λn o hn=>keep hn (by simp)) rfl ⟨λ_ _ h=>h,λ_ _ h=>h,aaf _⟩⟩
  yi:=R.yi,yb:=R.yb
  old:=λn hn hno nI=>by rw [hk n (by have:=R.size;omega) (by omega)];exact R.old n hn hno nI
  win:=λi p hi=>by
   obtain ⟨o,o',g1,g2,g3⟩:=R.win i p hi
   obtain ⟨c,c',t,fr,rfl,rfl,h4⟩:=g3
   exact ⟨_,_,g1,keep g2 (by simp),c,c',t,fr,rfl,rfl,h4⟩
  kr:=R.kr,fO:=R.fO
  fc:=λq hq=>⟨keep (R.fc q hq).1 (by simp),(R.fc q hq).2⟩
  gJ:=R.gJ}
def eN (m:Nat) (l:List (Int×Int)):HP:=λB e w=>B.w.heap.size<=m/\∃es ck,w.heap[m]? =some (.map es ck)/\kvs es=jQ l
theorem eN.keeps (m:Nat) (l:List (Int×Int)):ru (eN m l):=λB _ h w e' h' w' ms R ⟨h1,es,ck,h2,h3⟩ S=>by
 refine ⟨h1,es,ck,?_,h3⟩
 have hlt:m<w.heap.size:=(aav.1 h2).1
 rw [S.old m hlt (λi p hi q=>?_) (λhl=>?_)]
 ·exact h2
 ·obtain ⟨c,t,g,_⟩:=R.eA (b:=i) (p:=p) hi
  rw [q,h2] at g;cases g
 ·obtain ⟨i,L,g1,rfl⟩:=gV.1 hl
  obtain ⟨_,_,r,g2,_⟩:=R.gap i _ g1
  rw [h2] at g2;cases g2
theorem OX.op {ops:Array Oper} {i:Nat} {o:Oper} {s:St} {H H':HP} {v:SV} (hi:ops[i]? =some o) (hd:∀c,o.op≠.defer c) (hw:eV ops s.t o=some true)
  (g:∀(B:cP) (e:Env) (w:World) (t':List Value) (d:List Deferred),TR e s.t t'->Rel B e s.h w->H B e w->∃v' w',(execOp (Act.eval ⟨⟨t'⟩,d⟩) o).run P w= .ok (.value v') w'/\VR e v v'/\Rel B e s.h w'/\H' B e w'):OX P ro k ops [i] s H ⟨bw s.t o.dst v,s.h,s.ob⟩ H':=by
 intro B e w t' d Q nn rest hB hl R hh hQ
 rw [List.singleton_append,wpOpsIn_cons]
 unfold wpOpIn
 rw [hi]
 simp only []
 rw [aaM (eI hl hw)]
 obtain ⟨v',w',hr,hv,R',hh'⟩:=g B e w t' (p8 e.m++d) hl R hh
 refine ⟨λ_ _=>trivial,?_⟩
 rw [Oper.semAt_eq _ _ _ hd,hr]
 obtain ⟨t'',q,hl'⟩:=TR.put (d:=p8 e.m++d) (o:=o.dst) hl hv
 show wpOpsIn _ _ _ _ _ _ (Act.put _ _ _) _
 rw [q]
 exact hQ e w' t'' hl' R' hh'
theorem OX.opU {ops:Array Oper} {i:Nat} {o:Oper} {s:St} {H H':HP} (hi:ops[i]? =some o) (hd:∀c,o.op≠.defer c) (hn:o.dst=none) (hw:eV ops s.t o=some true)
  (g:∀(B:cP) (e:Env) (w:World) (t':List Value) (d:List Deferred),TR e s.t t'->Rel B e s.h w->H B e w->∃w',(execOp (Act.eval ⟨⟨t'⟩,d⟩) o).run P w= .ok .skip w'/\Rel B e s.h w'/\H' B e w'):OX P ro k ops [i] s H s H':=by
 intro B e w t' d Q nn rest hB hl R hh hQ
 rw [List.singleton_append,wpOpsIn_cons]
 unfold wpOpIn
 rw [hi]
 simp only []
 rw [aaM (eI hl hw)]
 obtain ⟨w',hr,R',hh'⟩:=g B e w t' (p8 e.m++d) hl R hh
 refine ⟨λ_ _=>trivial,?_⟩
 rw [Oper.semAt_eq _ _ _ hd,hr]
 show wpOpsIn _ _ _ _ _ _ (Act.put _ _ _) _
 rw [hn]
 exact hQ e w' t' hl R' hh'
theorem OX.ask {ops:Array Oper} {i:Nat} {dst:Option Tmp} {s:St} {t kt et:TypeId} {xm xk:Operand} {m:Nat} {l:List (Int×Int)} {x:Int} (hi:(ops[i]?).map (λo=>(o.dst,o.op))=some (dst,.lookup t xm xk false)) (hw:(ops[i]?).bind (eV ops s.t)=some true) (ht:P.underlying t=some (.map kt et)) (hk:P.underlying kt=some (.int .i64)) (hz:zeroOf P et=some (.int .i64 0))
  (h1:ev s.t xm=some (.nl (.map (some m)))) (h2:ev s.t xk=some (.int .i64 x)):OX P ro k ops [i] s (eN m l) ⟨bw s.t dst (.int .i64 (iq l x)),s.h,s.ob⟩ (eN m l):=by
 obtain ⟨o,hj,hw⟩:=aaF.1 hw
 have rY:=hi
 rw [hj] at rY
 clear hi
 have hi:=hj
 simp only [aaH,No,aae] at rY
 obtain ⟨rfl,ho⟩:=rY
 refine OX.op hi (by rw [ho];simp) hw λB _ w t' d hl R hh=>?_
 obtain ⟨hB,es,ck,h3,h4⟩:=hh
 have e1:Act.eval ⟨⟨t'⟩,d⟩ xm= .map (some m):=aK (d:=d) hl h1
 have e2:Act.eval ⟨⟨t'⟩,d⟩ xk= .int .i64 x:=aK (d:=d) hl h2
 refine ⟨.int .i64 (iq l x),w,?_,rfl,R,hB,es,ck,h3,h4⟩
 unfold execOp
 rw [ho]
 simp only [aaq]
 rw [e1,e2,zM ht hk (fy hz w) h3 h4]
 rfl
theorem OX.write {ops:Array Oper} {i:Nat} {s:St} {t kt et:TypeId} {xm xk xv:Operand} {m:Nat} {l:List (Int×Int)} {x v:Int} (hi:(ops[i]?).map (λo=>(o.dst,o.op))=some (none,.mapUpdate t xm xk xv)) (hw:(ops[i]?).bind (eV ops s.t)=some true) (ht:P.underlying t=some (.map kt et)) (hk:P.underlying kt=some (.int .i64))
  (h1:ev s.t xm=some (.nl (.map (some m)))) (h2:ev s.t xk=some (.int .i64 x)) (h3:ev s.t xv=some (.int .i64 v)):OX P ro k ops [i] s (eN m l) s (eN m (lU l x v)):=by
 obtain ⟨o,hj,hw⟩:=aaF.1 hw
 have rY:=hi
 rw [hj] at rY
 clear hi
 have hi:=hj
 simp only [aaH,No,aae] at rY
 obtain ⟨hd,ho⟩:=rY
 refine OX.opU hi (by rw [ho];simp) hd hw λB _ w t' d hl R hh=>?_
 obtain ⟨hB,es,ck,h4,h5⟩:=hh
 have e1:Act.eval ⟨⟨t'⟩,d⟩ xm= .map (some m):=aK (d:=d) hl h1
 have e2:Act.eval ⟨⟨t'⟩,d⟩ xk= .int .i64 x:=aK (d:=d) hl h2
 have e3:Act.eval ⟨⟨t'⟩,d⟩ xv= .int .i64 v:=aK (d:=d) hl h3
 obtain ⟨es',ck',hr,hs⟩:=zN ht hk h4 h5 x v
 refine ⟨w.putObj m (.map es' ck'),?_,?_,hB,es',ck',?_,hs⟩
 ·unfold execOp
  rw [ho]
  simp only [aaq]
  rw [e1,e2,e3,hr]
  rfl
 ·exact R.kept (m:=m) rfl rfl rfl (by rw [World.putObj_size];exact aaf _) (λn _ hn=>World.putObj_heap_other hn) hB (.inr ⟨es,ck,h4⟩)
 ·have:=(aav.1 h4).1
  simp [World.putObj,this]
def J3 (P:Program) (ro:Option Nat) (k:Nat) (ops:Array Oper) (is:List Nat) (s:St) (H:HP) (F:Nat->St) (G:Nat->HP):Prop:=
 ∀(B:cP) (e:Env) (w:World) (t':List Value) (d:List Deferred) (Q:Exit->Act->World->Prop) (nn:Nat) (rest:List Nat),B.k<=k->TR e s.t t'->Rel B e s.h w->H B e w->
  (∀m e' w' t'',TR e' (F m).t t''->Rel B e' (F m).h w'->G m B e' w'->wpOpsIn (wF ro) nn P ops Q rest ⟨⟨t''⟩,p8 e'.m++d⟩ w')->wpOpsIn (wF ro) nn P ops Q (is++rest) ⟨⟨t'⟩,p8 e.m++d⟩ w
theorem J3.append {ops:Array Oper} {is js:List Nat} {s:St} {H:HP} {F F':Nat->St} {G G':Nat->HP} (h1:J3 P ro k ops is s H F G) (h2:∀m,OX P ro k ops js (F m) (G m) (F' m) (G' m)):J3 P ro k ops (is++js) s H F' G':=
 λB e w t' d Q nn rest hB hl R hh hQ=>by
  rw [aaE]
  exact h1 B e w t' d Q nn (js++rest) hB hl R hh λm e1 w1 t1 jn R1 g1=>h2 m B e1 w1 t1 d Q nn rest hB jn R1 g1 (hQ m)
theorem J3.region {ops:Array Oper} {s s':St} {H H':HP} {F:Nat->St} {G:Nat->HP} {b:Code} {x:Exit} (id:Nat) (h:J3 P ro k ops (List.range ops.size) s H F G) (g:∀m,TrX P ro k b (F m) (G m) x s' H'):TrX P ro k (.seq (.region id ops false) b) s H x s' H':=
 λB e w t' d Q nn hB hl R hh hQ=>wpIn_seq (wpIn_region (by
  have:=h B e w t' d (Exit.then (b.wpIn (wF ro) nn P Q) Q) nn [] hB hl R hh λm e1 w1 t1 jn R1 g1=>g m B e1 w1 t1 d Q nn hB jn R1 g1 hQ
  rwa [aaz] at this))
theorem J3.make {ops:Array Oper} {i:Nat} {dst:Option Tmp} {s:St} {t:TypeId} (hi:(ops[i]?).map (λo=>(o.dst,o.op))=some (dst,.makeMap t none)) (hw:(ops[i]?).bind (eV ops s.t)=some true):J3 P ro k ops [i] s (λ_ _ _=>True) (λm=>⟨bw s.t dst (.nl (.map (some m))),s.h,s.ob⟩) (λm=>eN m []):=by
 obtain ⟨o,hj,hw⟩:=aaF.1 hw
 have rY:=hi
 rw [hj] at rY
 clear hi
 have hi:=hj
 simp only [aaH,No,aae] at rY
 obtain ⟨rfl,ho⟩:=rY
 intro B e w t' d Q nn rest hB hl R hh hQ
 rw [List.singleton_append,wpOpsIn_cons]
 unfold wpOpIn
 rw [hi]
 simp only []
 rw [aaM (eI hl hw)]
 refine ⟨λ_ _=>trivial,?_⟩
 rw [Oper.semAt_eq _ _ _ (by rw [ho];simp)]
 have hr:(execOp (Act.eval ⟨⟨t'⟩,p8 e.m++d⟩) o).run P w= .ok (.value (.map (some w.heap.size))) (w.alloc (.map #[] 0)):=by
  unfold execOp
  rw [ho]
  simp [Instr.makeMap,newObj,Sem.run]
 rw [hr]
 obtain ⟨t'',q,hl'⟩:=TR.put (d:=p8 e.m++d) (o:=o.dst) hl (show VR e (.nl (.map (some w.heap.size))) (.map (some w.heap.size)) from rfl)
 show wpOpsIn _ _ _ _ _ _ (Act.put _ _ _) _
 rw [q]
 refine hQ _ e _ t'' hl' (R.kept (m:=w.heap.size) rfl rfl rfl (by rw [World.size_alloc];omega) (λn hn _=>heap_alloc_old w _ n hn) R.size (.inl (by simp))) ⟨R.size,_,_,heap_alloc_new w _,rfl⟩
end
end Go.Sy
end
section
namespace Go.Sy
open Go
section
variable {P:Program} {ro:Option Nat} {k:Nat} {H H1 H':HP}
def uy (H:HP):Prop:=∀B e e' w,H B e w->H B e' w
theorem eN.free (m:Nat) (l:List (Int×Int)):uy (eN m l):=λ_ _ _ _ h=>h
theorem TrX.V0 (hE:uy H') {c:Code} {s s1 s':St} {x:Exit} (h:TrX P ro k c s H x s1 H') (g:bE k s1 s'):TrX P ro k c s H x s' H':=
 TrX.post h λB e w t' hB hl R hh=>by
  obtain ⟨e',h1,h2,h3⟩:=g B e w t' hB hl R
  exact ⟨e',h1,h2,h3,hE _ _ _ _ hh⟩
theorem TrX.weak {c:Code} {s s':St} {x:Exit} (h:TrX P ro k c s H x s' H1) (g:∀B e w,H1 B e w->H' B e w):TrX P ro k c s H x s' H':=
 λB e w t' d Q nn hB hl R hh hQ=>h B e w t' d Q nn hB hl R hh λe2 w2 t2 iI R2 g2=>hQ e2 w2 t2 iI R2 (g _ _ _ g2)
theorem TrX.pre (hE:uy H) {c:Code} {s s1 s':St} {x:Exit} (h:TrX P ro k c s1 H x s' H') (g:bE k s s1):TrX P ro k c s H x s' H':=
 λB e w t' d Q nn hB hl R hh hQ=>by
  obtain ⟨e1,h1,h2,h3⟩:=g B e w t' hB hl R
  rw [<-h1]
  exact h B e1 w t' d Q nn hB h2 h3 (hE _ _ _ _ hh) hQ
theorem TrX.frames (hH:ru H) {b:Code} {s':St} {x:Exit} {l:List Code} {s s1:St} (g:aV P ro s.h.length l s .normal s1) (h:TrX P ro k b s1 H x s' H'):TrX P ro k (l.foldr .seq b) s H x s' H':=by
 intro B e w t' d Q nn hB hl R hh hQ
 have key:∀(l:List Code) (s0:St),aV P ro s.h.length l s0 .normal s1->∀(e':Env) (w':World) (t2:List Value),TR e' s0.t t2->Rel (e7 e s.h w) e' s0.h w'->(l.foldr Code.seq b).wpIn (wF ro) nn P Q ⟨⟨t2⟩,p8 e'.m++(p8 e.m++d)⟩ w':=by
  intro l
  induction l with
  |nil=>
   intro s0 g e' w' t2 hl' R'
   obtain ⟨_,rfl⟩:=g
   have:=h B {e' with m:=e'.m++e.m} w' t2 d Q nn hB (TR.mono (e:=e') (e':={e' with m:=e'.m++e.m}) ⟨λ_ _ h=>h,λ_ _ h=>h,aaf _⟩ hl') (R.Bo R') (hH B e s.h w e' _ w' _ R hh R') hQ
   rw [uq,aaE] at this
   exact this
  |cons a l ih=>
   intro s0 g e' w' t2 hl' R'
   rcases g with ⟨s2,g1,g2⟩|⟨hx,_⟩
   ·exact wpIn_seq (g1 _ e' w' t2 _ _ nn (aaf _) hl' R' λe3 w3 t3 hl3 R3=>ih s2 g2 e3 w3 t3 hl3 R3)
   ·exact absurd rfl hx
 have:=key l s g (e.bare s.h) w t' (hl.mono (jE e s.h)) R.self
 exact this
theorem TrX.pZ {Γ:bO} (hΓ:ak P Γ) (hH:ru H) (hE:uy H) (n:Nat) (live:List Nat) (m:Nat) (hm:k<=m) {l:List Code} {b:Code} {s s1 s':St} {x:Exit} (ob:Bool)
  (e:aA (ah live m ((aE P Γ n s.h.length l.length l s).map λs=>(Exit.normal,s)))=some (.normal,s1.t,s1.h)) (cA:aZ (ah live m ((aE P Γ n s.h.length l.length l s).map λs=>(Exit.normal,s)))=ob) (h:ob=true)
  (g:TrX P ro k b s1 H x s' H'):TrX P ro k (l.foldr .seq b) s H x s' H':=by
 unfold aA ah at e
 unfold aZ ah at cA
 cases hr:aE P Γ n s.h.length l.length l s with
 |none=>rw [hr] at e;cases e
 |some q=>
  rw [hr] at e cA
  simp only [aaH,Option.bind_some] at e cA
  cases hc:q.cut live m with
  |none=>rw [hc] at e;cases e
  |some q2=>
   rw [hc] at e cA
   simp only [aaH,No,aae,true_and] at e cA
   obtain ⟨h1,h2⟩:=e
   have hq:q.ob=true:=by
    unfold St.cut St.dn at hc
    split at hc
    ·cases hc;exact cA.trans h
    ·cases hc
   have:=(mA hΓ n l.length (ro:=ro) (s':=q) (x:=.normal) hr hq (by rw [List.drop_length];exact ⟨rfl,rfl⟩)).1
   exact TrX.frames hH this (g.pre hE ((bE.cut hm hc).trans (bE.same h1 h2)))
theorem TrX.aR {Γ:bO} (hΓ:ak P Γ) (hH:ru H) (hE:uy H) (n:Nat) (live:List Nat) (m:Nat) (hm:k<=m) {c:Code} {s s':St} {x:Exit} (ob:Bool) (e:aA (ah live m (Sy.exec P Γ n s.h.length c s))=some (x,s'.t,s'.h)) (cA:aZ (ah live m (Sy.exec P Γ n s.h.length c s))=ob) (h:ob=true):TrX P ro k c s H x s' H:=by
 unfold aA ah at e
 unfold aZ ah at cA
 cases hr:Sy.exec P Γ n s.h.length c s with
 |none=>rw [hr] at e;cases e
 |some q=>
  obtain ⟨y,q⟩:=q
  rw [hr] at e cA
  simp only [Option.bind_some] at e cA
  cases hc:q.cut live m with
  |none=>rw [hc] at e;cases e
  |some q2=>
   rw [hc] at e cA
   simp only [aaH,No,aae] at e cA
   obtain ⟨rfl,h1,h2⟩:=e
   have hq:q.ob=true:=by
    unfold St.cut St.dn at hc
    split at hc
    ·cases hc;exact cA.trans h
    ·cases hc
   exact TrX.V0 hE (TrX.frame hH ((kX hΓ n ro s.h.length).1 _ _ _ _ hr hq)) ((bE.cut hm hc).trans (bE.same h1 h2))
theorem OX.V0 (hE:uy H') {ops:Array Oper} {is:List Nat} {s s1 s':St} (h:OX P ro k ops is s H s1 H') (g:bE k s1 s'):OX P ro k ops is s H s' H':=
 λB e w t' d Q nn rest hB hl R hh hQ=>h B e w t' d Q nn rest hB hl R hh λe2 w2 t2 iI R2 g2=>by
  obtain ⟨e1,h1,h2,h3⟩:=g B e2 w2 t2 hB iI R2
  rw [<-h1]
  exact hQ e1 w2 t2 h2 h3 (hE _ _ _ _ g2)
theorem OX.ED {Γ:bO} (hΓ:ak P Γ) (hH:ru H) (hE:uy H) (n:Nat) (live:List Nat) (m:Nat) (hm:k<=m) {ops:Array Oper} {is:List Nat} {s s':St} (ob:Bool)
  (e:aA (ah live m ((b7 P (dH P Γ λk=>Sy.exec P Γ n k) Γ.sym Γ.ey s.h.length ops is s).map λs=>(Exit.normal,s)))=some (.normal,s'.t,s'.h)) (cA:aZ (ah live m ((b7 P (dH P Γ λk=>Sy.exec P Γ n k) Γ.sym Γ.ey s.h.length ops is s).map λs=>(Exit.normal,s)))=ob) (h:ob=true):OX P ro k ops is s H s' H:=by
 unfold aA ah at e
 unfold aZ ah at cA
 cases hr:b7 P (dH P Γ λk=>Sy.exec P Γ n k) Γ.sym Γ.ey s.h.length ops is s with
 |none=>rw [hr] at e;cases e
 |some q=>
  rw [hr] at e cA
  simp only [aaH,Option.bind_some] at e cA
  cases hc:q.cut live m with
  |none=>rw [hc] at e;cases e
  |some q2=>
   rw [hc] at e cA
   simp only [aaH,No,aae,true_and] at e cA
   obtain ⟨h1,h2⟩:=e
   have hq:q.ob=true:=by
    unfold St.cut St.dn at hc
    split at hc
    ·cases hc;exact cA.trans h
    ·cases hc
   exact OX.V0 hE (OX.run hΓ hH n hr hq) ((bE.cut hm hc).trans (bE.same h1 h2))
def iB:Code->Code
 | .seq a _=>a
 |c=>c
def ej:Code->Code
 | .seq _ b=>b
 |c=>c
def Yy:Code->Code
 | .cond _ a _=>a
 |c=>c
def cdB:Code->Code
 | .cond _ _ b=>b
 |c=>c
def opsOf:Code->Array Oper
 | .region _ ops _=>ops
 |_=>#[]
end
end Go.Sy
end
