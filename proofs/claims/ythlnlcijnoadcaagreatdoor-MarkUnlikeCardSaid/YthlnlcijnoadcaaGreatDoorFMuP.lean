/- This file holds the texts MuA, MuB, MuP, a section each. No conditions beyond those in the theorems. -/
import Derived.Test.YthlnlcijnoadcaaGreatDoorFTrK
import Derived.Test.YthlnlcijnoadcaaGreatDoorFMkG
set_option linter.all false
section
namespace Go.Sy
open Go
section
variable {P:Program} {w:World}
def encS:List MapEntry→List (List Int×List Int)→Prop
 | [],[]=>True
 |e::es,p::l=>(e.key=aggI .u8 p.1∧p.1.length=32)∧(∃s,e.val= .string s∧p.2=strL s)∧encS es l
 |_,_=>False
def getS:List (List Int×List Int)→List Int→Option (List Int)
 | [],_=>none
 |p::l,d=>bif decide (d=p.1) then some p.2 else getS l d
def setS:List (List Int×List Int)→List Int→List Int→List (List Int×List Int)
 | [],d,x=>[(d,x)]
 |p::l,d,x=>bif decide (d=p.1) then (d,x)::l else p::setS l d x
theorem getS_set (l:List (List Int×List Int)) (d x c:List Int):getS (setS l d x) c=bif decide (c=d) then some x else getS l c:=by
 induction l with
 |nil=>rfl
 |cons p l ih=>
  unfold setS
  by_cases h:d=p.1
  ·rw [decide_eq_true h]
   subst h
   show (bif decide (c=p.1) then some x else getS l c)=bif decide (c=p.1) then some x else (bif decide (c=p.1) then some p.2 else getS l c)
   cases decide (c=p.1)<;>rfl
  ·rw [decide_eq_false h]
   show (bif decide (c=p.1) then some p.2 else getS (setS l d x) c)=bif decide (c=d) then some x else (bif decide (c=p.1) then some p.2 else getS l c)
   rw [ih]
   by_cases h2:c=p.1
   ·rw [decide_eq_true h2,decide_eq_false (fun q:c=d=>h (q.symm.trans h2))];rfl
   ·rw [decide_eq_false h2];rfl
structure KeyS (P:Program) (kt e:TypeId):Prop where
 un:P.underlying kt=some (.array 32 e)
 el:P.underlying e=some (.int .u8)
 sz:szOf P e=some 1
 ag:aggB P kt=some true
 fl:flatK P 3 kt=some (.u8,32)
 ae:aggB P e=some false
theorem sameBits_self (n:Nat) (d:List Int):Instr.sameBits (n+1) (aggI .u8 d) (aggI .u8 d)=true:=by
 unfold aggI
 simp only [Instr.sameBits,beq_self_eq_true,Bool.true_and,List.all_eq_true]
 intro x hx
 have:∀(l:List Value),(∀v∈l,∃z,v= .int .u8 z)→∀q∈l.zip l,Instr.sameBits n q.1 q.2=true:=by
  intro l
  induction l with
  |nil=>intro _ q hq;simp at hq
  |cons a l ih=>
   intro h q hq
   simp only [List.zip_cons_cons,List.mem_cons] at hq
   rcases hq with rfl|hq
   ·obtain ⟨z,rfl⟩:=h a (by simp)
    unfold Instr.sameBits
    simp
   ·exact ih (fun v hv=>h v (by simp [hv])) q hq
 exact this _ (fun v hv=>by
  unfold intsV at hv
  obtain ⟨z,_,rfl⟩:=List.mem_map.1 hv
  exact ⟨z,rfl⟩) x hx
variable {kt e:TypeId}
theorem run_checkKeyS (K:KeyS P kt e) (b:Bool) {d:List Int} (hd:d.length=32):(Instr.checkKey b 10000 kt (aggI .u8 d)).run P w= .ok () w:=by
 rw [show (10000:Nat)=9998+1+1 from rfl]
 unfold aggI
 rw [Instr.checkKey]
 simp only [Sem.run_bind,run_underlying K.un,Result.andThen_ok]
 simp only [Std.Legacy.Range.forIn_eq_forIn_range',Std.Legacy.Range.size,Nat.sub_zero,Nat.add_one_sub_one,Nat.div_one]
 have each:∀j∈List.range' 0 32,j<32:=fun j hj=>by simp at hj;exact hj
 generalize List.range' 0 32=is at each
 induction is with
 |nil=>simp
 |cons j is ih=>
  have hj:=each j (by simp)
  have p1:=part_flat (P:=P) (k:=.u8) (o:=j*1) (l:=d) K.sz (by rw [K.el];rfl) (fun _=>rfl) (by omega) w
  have hv:flatV P e .u8 ((d.drop (j*1)).take 1)= .int .u8 (((d.drop (j*1)).take 1).getD 0 0):=by unfold flatV;rw [K.ae]
  have p2:∀v,(Instr.checkKey b (9998+1) e (.int .u8 v)).run P w= .ok () w:=fun v=>by
   unfold Instr.checkKey
   simp only [Sem.run_bind,run_underlying K.el,Result.andThen_ok,Sem.run_pure]
  rw [hv] at p1
  simp only [List.forIn_cons,Sem.run_bind,szOf_run K.sz,Result.andThen_ok,p1,p2,Sem.run_pure]
  exact ih (fun y hy=>each y (by simp [hy]))
theorem run_equalS (K:KeyS P kt e) {a b:List Int} (ha:a.length=32) (hb:b.length=32):(Op.equal kt (aggI .u8 a) (aggI .u8 b)).run P w= .ok (decide (a=b)) w:=by
 have h:=equal_flat 3 kt .u8 32 K.fl 10000 (by decide) a b ha hb w
 have hv:∀l,flatV P kt .u8 l=aggI .u8 l:=fun l=>by unfold flatV;rw [K.ag]
 rw [hv,hv] at h
 exact h
theorem run_findS (K:KeyS P kt e) {d:List Int} (hd:d.length=32):∀(es:List MapEntry) (l:List (List Int×List Int)) (i:Nat),encS es l→∃r,(Instr.findAsking kt (aggI .u8 d) es i).run P w= .ok r w∧
  ((getS l d=none∧r=none∧∀(e':MapEntry) (s':ByteArray),e'.key=aggI .u8 d→e'.val= .string s'→encS (es++[e']) (setS l d (strL s')))∨
   ∃j s,getS l d=some (strL s)∧r=some (i+j,.string s)∧(es[j]?).map (·.key)=some (aggI .u8 d)∧∀s':ByteArray,encS (es.modify j fun q=>{q with key:=aggI .u8 d,val:=.string s'}) (setS l d (strL s'))):=by
 intro es
 induction es with
 |nil=>
  intro l i h
  cases l with
  |cons p l=>exact absurd h (by simp [encS])
  |nil=>
   refine ⟨none,by simp [Instr.findAsking],.inl ⟨rfl,rfl,fun e' s' h1 h2=>?_⟩⟩
   exact ⟨⟨h1,hd⟩,⟨s',h2,rfl⟩,trivial⟩
 |cons q es ih=>
  intro l i h
  cases l with
  |nil=>exact absurd h (by simp [encS])
  |cons p l=>
   obtain ⟨⟨h1,h1'⟩,⟨s,h2,h3⟩,h4⟩:=h
   have he:=run_equalS (w:=w) K hd h1'
   rw [←h1] at he
   by_cases hp:d=p.1
   ·rw [decide_eq_true hp] at he
    refine ⟨some (i,q.val),by simp only [Instr.findAsking,Sem.run_bind,he,Result.andThen_ok,Sem.run_ite,if_true,Sem.run_pure],.inr ⟨0,s,?_,by rw [h2];rfl,by simp [h1,hp],fun s'=>?_⟩⟩
    ·unfold getS;rw [decide_eq_true hp,h3];rfl
    ·unfold setS;rw [decide_eq_true hp]
     simp only [List.modify_zero_cons,cond_true]
     exact ⟨⟨rfl,hd⟩,⟨s',rfl,rfl⟩,h4⟩
   ·rw [decide_eq_false hp] at he
    obtain ⟨r,g1,g2⟩:=ih l (i+1) h4
    refine ⟨r,by simp only [Instr.findAsking,Sem.run_bind,he,Result.andThen_ok,Sem.run_ite,Bool.false_eq_true,if_false,g1],?_⟩
    rcases g2 with ⟨k1,k2,k3⟩|⟨j,s1,k1,k2,k3,k4⟩
    ·refine .inl ⟨by unfold getS;rw [decide_eq_false hp];exact k1,k2,fun e' s' a b=>?_⟩
     unfold setS;rw [decide_eq_false hp]
     exact ⟨⟨h1,h1'⟩,⟨s,h2,h3⟩,k3 e' s' a b⟩
    ·refine .inr ⟨j+1,s1,by unfold getS;rw [decide_eq_false hp];exact k1,by rw [k2];congr 2;omega,by simpa using k3,fun s'=>?_⟩
     unfold setS;rw [decide_eq_false hp]
     simp only [List.modify_succ_cons,cond_false]
     exact ⟨⟨h1,h1'⟩,⟨s,h2,h3⟩,k4 s'⟩
theorem run_findKeyS (K:KeyS P kt e) (x:Value) (es:List MapEntry):(Instr.findKey kt x es).run P w=(Instr.findAsking kt x es).run P w:=by
 cases es with
 |nil=>simp [Instr.findKey,run_underlying K.un,Instr.findNow,Instr.findAsking]
 |cons q es=>simp [Instr.findKey,run_underlying K.un,Instr.findNow,Instr.sameNow]
theorem run_lookupS (K:KeyS P kt e) {t et:TypeId} {m ck:Nat} {es:Array MapEntry} {l:List (List Int×List Int)} {s0:ByteArray} (ht:P.underlying t=some (.map kt et)) (hz:(zeroValue et).run P w= .ok (.string s0) w) (h0:strL s0=[]) (hm:w.heap[m]? =some (.map es ck)) (hl:encS es.toList l) {d:List Int} (hd:d.length=32):
  ∃s,(Instr.lookup t (.map (some m)) (aggI .u8 d) true).run P w= .ok (.tuple #[.string s,.bool (getS l d).isSome]) w∧strL s=(getS l d).getD []:=by
 obtain ⟨r,g1,g2⟩:=run_findS (w:=w) K hd es.toList l 0 hl
 unfold Instr.lookup
 simp only [Sem.run_bind,run_underlying ht,Result.andThen_ok,MapKept.run_getObj_map hm,Sem.run_pure,run_checkKeyS K _ hd,run_findKeyS K,g1]
 rcases g2 with ⟨k1,rfl,_⟩|⟨j,s,k1,rfl,_⟩
 ·refine ⟨s0,?_,by rw [k1];exact h0⟩
  rw [k1]
  simp only [Sem.run_bind,hz,Result.andThen_ok,Sem.run_pure]
  rfl
 ·refine ⟨s,?_,by rw [k1];rfl⟩
  rw [k1]
  simp only [Sem.run_pure,Result.andThen_ok]
  rfl
theorem run_updateS (K:KeyS P kt e) {t et:TypeId} {m ck:Nat} {es:Array MapEntry} {l:List (List Int×List Int)} (ht:P.underlying t=some (.map kt et)) (hm:w.heap[m]? =some (.map es ck)) (hl:encS es.toList l) {d:List Int} (hd:d.length=32) (s:ByteArray):
  ∃es' ck',(Instr.mapUpdate t (.map (some m)) (aggI .u8 d) (.string s)).run P w= .ok () (w.putObj m (.map es' ck'))∧encS es'.toList (setS l d (strL s)):=by
 obtain ⟨r,g1,g2⟩:=run_findS (w:=w) K hd es.toList l 0 hl
 unfold Instr.mapUpdate
 simp only [Sem.run_bind,run_underlying ht,Result.andThen_ok,MapKept.run_getObj_map hm,run_checkKeyS K _ hd,run_findKeyS K,g1]
 rcases g2 with ⟨k1,rfl,k3⟩|⟨j,s1,k1,rfl,k3,k4⟩
 ·refine ⟨_,_,MapKept.run_setObj_map _ hm,?_⟩
  rw [Array.toList_push]
  exact k3 _ s rfl rfl
 ·have hst:(Instr.keyThatStays (((es[j]?).map (·.key)).getD (aggI .u8 d)) (aggI .u8 d)).run P w= .ok (aggI .u8 d) w:=by
   rw [show es[j]? =es.toList[j]? by simp,k3]
   simp only [Option.getD_some,Instr.keyThatStays,sameBits_self,if_true,Sem.run_pure]
  simp only [Nat.zero_add,Sem.run_bind,hst,Result.andThen_ok]
  refine ⟨_,_,MapKept.run_setObj_map _ hm,?_⟩
  rw [Array.toList_modify]
  exact k4 s
end
end Go.Sy
end
section
namespace Go.Sy
open Go
section
variable {P:Program} {ro:Option Nat} {k:Nat}
def MapS (m:Nat) (l:List (List Int×List Int)):HP:=fun B _ w=>B.w.heap.size≤m∧∃es ck,w.heap[m]? =some (.map es ck)∧encS es.toList l
theorem MapS.keeps (m:Nat) (l:List (List Int×List Int)):Keeps (MapS m l):=fun B _ h w e' h' w' ms R ⟨h1,es,ck,h2,h3⟩ S=>by
 refine ⟨h1,es,ck,?_,h3⟩
 have hlt:m<w.heap.size:=(Array.getElem?_eq_some_iff.1 h2).1
 rw [S.old m hlt (fun i p hi q=>?_) (fun hl=>?_)]
 ·exact h2
 ·obtain ⟨c,t,g,_⟩:=R.isCells (b:=i) (p:=p) hi
  rw [q,h2] at g;cases g
 ·obtain ⟨i,L,g1,rfl⟩:=loopsOf_mem.1 hl
  obtain ⟨_,_,r,g2,_⟩:=R.gap i _ g1
  rw [h2] at g2;cases g2
theorem MapS.free (m:Nat) (l:List (List Int×List Int)):Free' (MapS m l):=fun _ _ _ _ h=>h
theorem OX.askS {ops:Array Oper} {i:Nat} {dst:Option Tmp} {s:St} {t kt et el:TypeId} {xm xk:Operand} {m:Nat} {l:List (List Int×List Int)} {d:List Int} (K:KeyS P kt el) (hi:(ops[i]?).map (fun o=>(o.dst,o.op))=some (dst,.lookup t xm xk true)) (hw:(ops[i]?).bind (wantS ops s.t)=some true) (ht:P.underlying t=some (.map kt et)) {s0:ByteArray} (hz:zeroOf P et=some (.string s0)) (h0:strL s0=[])
  (h1:ev s.t xm=some (.nl (.map (some m)))) (h2:ev s.t xk=some (.agg [.ints .u8 32 d])) (hd:d.length=32):OX P ro k ops [i] s (MapS m l) ⟨putT s.t dst (.tup [.str ((getS l d).getD []),.bool (getS l d).isSome]),s.h,s.ob⟩ (MapS m l):=by
 obtain ⟨o,hj,hw⟩:=Option.bind_eq_some_iff.1 hw
 have hi0:=hi
 rw [hj] at hi0
 clear hi
 have hi:=hj
 simp only [Option.map_some,Option.some.injEq,Prod.mk.injEq] at hi0
 obtain ⟨rfl,ho⟩:=hi0
 refine OX.op hi (by rw [ho];simp) hw fun B e w t' dd hl R hh=>?_
 obtain ⟨hB,es,ck,h3,h4⟩:=hh
 have e1:Act.eval ⟨⟨t'⟩,dd⟩ xm= .map (some m):=ev_sound (d:=dd) hl h1
 have e2:VR e (.agg [.ints .u8 32 d]) (Act.eval ⟨⟨t'⟩,dd⟩ xk):=ev_sound (d:=dd) hl h2
 have e3:Act.eval ⟨⟨t'⟩,dd⟩ xk=aggI .u8 d:=by
  obtain ⟨ys,⟨us,hus,rfl⟩,hv⟩:=e2
  rw [PR] at hus
  subst hus
  rw [List.append_nil,lst_eq hd] at hv
  exact hv
 obtain ⟨s1,hr,hs⟩:=run_lookupS (w:=w) K ht (zeroOf_run hz w) h0 h3 h4 hd
 refine ⟨.tuple #[.string s1,.bool (getS l d).isSome],w,?_,?_,R,hB,es,ck,h3,h4⟩
 ·unfold execOp
  rw [ho]
  simp only [Sem.run_bind]
  rw [e1,e3,hr]
  rfl
 ·exact ⟨_,⟨_,_,⟨s1,rfl,hs.symm⟩,⟨_,_,rfl,rfl,rfl⟩,rfl⟩,rfl⟩
theorem OX.writeS {ops:Array Oper} {i:Nat} {s:St} {t kt et el:TypeId} {xm xk xv:Operand} {m:Nat} {l:List (List Int×List Int)} {d v:List Int} (K:KeyS P kt el) (hi:(ops[i]?).map (fun o=>(o.dst,o.op))=some (none,.mapUpdate t xm xk xv)) (hw:(ops[i]?).bind (wantS ops s.t)=some true) (ht:P.underlying t=some (.map kt et))
  (h1:ev s.t xm=some (.nl (.map (some m)))) (h2:ev s.t xk=some (.agg [.ints .u8 32 d])) (h3:ev s.t xv=some (.str v)) (hd:d.length=32):OX P ro k ops [i] s (MapS m l) s (MapS m (setS l d v)):=by
 obtain ⟨o,hj,hw⟩:=Option.bind_eq_some_iff.1 hw
 have hi0:=hi
 rw [hj] at hi0
 clear hi
 have hi:=hj
 simp only [Option.map_some,Option.some.injEq,Prod.mk.injEq] at hi0
 obtain ⟨hdst,ho⟩:=hi0
 refine OX.opU hi (by rw [ho];simp) hdst hw fun B e w t' dd hl R hh=>?_
 obtain ⟨hB,es,ck,h4,h5⟩:=hh
 have e1:Act.eval ⟨⟨t'⟩,dd⟩ xm= .map (some m):=ev_sound (d:=dd) hl h1
 have e2:VR e (.agg [.ints .u8 32 d]) (Act.eval ⟨⟨t'⟩,dd⟩ xk):=ev_sound (d:=dd) hl h2
 have e3:Act.eval ⟨⟨t'⟩,dd⟩ xk=aggI .u8 d:=by
  obtain ⟨ys,⟨us,hus,rfl⟩,hv⟩:=e2
  rw [PR] at hus
  subst hus
  rw [List.append_nil,lst_eq hd] at hv
  exact hv
 obtain ⟨s1,e4,hv⟩:∃s1,Act.eval ⟨⟨t'⟩,dd⟩ xv= .string s1∧v=strL s1:=ev_sound (d:=dd) hl h3
 obtain ⟨es',ck',hr,hs⟩:=run_updateS (w:=w) K ht h4 h5 hd s1
 rw [←hv] at hs
 refine ⟨w.putObj m (.map es' ck'),?_,?_,hB,es',ck',?_,hs⟩
 ·unfold execOp
  rw [ho]
  simp only [Sem.run_bind]
  rw [e1,e3,e4,hr]
  rfl
 ·exact R.kept (m:=m) rfl rfl rfl (by rw [World.putObj_size];exact Nat.le_refl _) (fun n _ hn=>World.putObj_heap_other hn) hB (.inr ⟨es,ck,h4⟩)
 ·have:=(Array.getElem?_eq_some_iff.1 h4).1
  simp [World.putObj,this]
theorem OXE.makeS {ops:Array Oper} {i:Nat} {dst:Option Tmp} {s:St} {t:TypeId} (hi:(ops[i]?).map (fun o=>(o.dst,o.op))=some (dst,.makeMap t none)) (hw:(ops[i]?).bind (wantS ops s.t)=some true):OXE P ro k ops [i] s (fun _ _ _=>True) (fun m=>⟨putT s.t dst (.nl (.map (some m))),s.h,s.ob⟩) (fun m=>MapS m []):=by
 intro B e w t' d Q nn rest hB hl R hh hQ
 refine OXE.make hi hw B e w t' d Q nn rest hB hl R hh fun m e1 w1 t1 hl1 R1 g=>hQ m e1 w1 t1 hl1 R1 ?_
 obtain ⟨g1,es,ck,g2,g3⟩:=g
 refine ⟨g1,es,ck,g2,?_⟩
 have:es.toList=[]:=by
  unfold kvs at g3
  simpa [encE] using g3
 rw [this]
 trivial
end
end Go.Sy
end
section
namespace Go.Proofs.YthlnlcijnoadcaaGreatDoor.Mk
open Go Go.Sy Tr Wi S2
open Q2 (shortQ)
theorem wrap_all {l:List Int} (hl:unOK l=true):l.map IntKind.u8.wrap=l:=by
 conv=>rhs;rw [←List.map_id l]
 exact List.map_congr_left fun u hu=>by
  have:=List.all_eq_true.1 hl u hu
  simp only [Bool.and_eq_true,decide_eq_true_eq] at this
  exact (byN_of this.1 (by omega)).2
theorem refNd_inj {n m:Nod} (hn:nodB n n.un=true) (hm:nodB m m.un=true) (h:refNd n n.un=refNd m m.un):n=m:=by
 unfold nodB Wi.nodeB at hn hm
 simp only [Bool.and_eq_true,decide_eq_true_eq] at hn hm
 obtain ⟨⟨⟨⟨⟨⟨⟨⟨a1,a2⟩,a3⟩,a4⟩,a5⟩,a6⟩,a7⟩,a8⟩,a9⟩:=hn
 obtain ⟨⟨⟨⟨⟨⟨⟨⟨b1,b2⟩,b3⟩,b4⟩,b5⟩,b6⟩,b7⟩,b8⟩,b9⟩:=hm
 unfold refNd refN rnP at h
 rw [wrap_all a6,wrap_all b6,(byN_of a4 a5).2,(byN_of b4 b5).2] at h
 obtain ⟨h1,h2⟩:=List.append_inj h (by simp [a1,a2,a3,b1,b2,b3])
 obtain ⟨h3,_⟩:=List.append_inj' h1 rfl
 obtain ⟨h5,h6⟩:=List.append_inj h3 (by simp [a1,a2,b1,b2])
 obtain ⟨h7,h8⟩:=List.append_inj h5 (by simp [a1,b1])
 obtain ⟨h9,h10⟩:=List.append_inj h7 rfl
 simp only [List.cons.injEq,and_true] at h9
 obtain ⟨u1,n1,k1,s1,p1,l1⟩:=n
 obtain ⟨u2,n2,k2,s2,p2,l2⟩:=m
 simp only at h2 h6 h8 h9 h10
 have:u1=u2:=by
  cases u1<;>cases u2<;>simp at h9 ⊢
 subst this
 rw [h9.2,h10,h8,h6,h2]
theorem rkept_nil (un:List Int):rkept un []=un:=List.filter_eq_self.2 fun _ _=>rfl
theorem rtx_zero (t:Nat→Nod) (x:Nat):rtxL t [] 0 x=[1,((x/2:Nat):Int)]++refNd (t x) (t x).un:=rfl
theorem rtx_succ (t:Nat→Nod) (k x:Nat):rtxL t [] (k+1) x=(([2]++refNd (t x) (t x).un)++shortQ (rtxL t [] k (x-2^k)))++shortQ (rtxL t [] k (x+2^k)):=by rw [rtxL,rkept_nil]
section
variable {N M n m:Nat} {t u:Nat→Nod}
theorem same_below (hn:n∈sizes) (hN:N=2*n-1) (hm:m∈sizes) (hM:M=2*m-1) (ht:∀i,i<N→nodB (t i) (t i).un=true) (hu:∀i,i<M→nodB (u i) (u i).un=true)
  (U:∀x y:Nat,x<N→y<M→shortQ (rtxV t [] x)=shortQ (rtxV u [] y)→rtxV t [] x=rtxV u [] y):
  ∀k k' x y:Nat,x<N→y<M→lvN 7 x=k→lvN 7 y=k'→shortQ (rtxL t [] k x)=shortQ (rtxL u [] k' y)→k=k'∧∀z,x<z+2^k→z<x+2^k→t z=u (y+z-x):=by
 intro k
 induction k with
 |zero=>
  intro k' x y hx hy e1 e2 h
  have q:=U x y hx hy (by unfold rtxV;rw [Int.toNat_natCast,Int.toNat_natCast,e1,e2];exact h)
  unfold rtxV at q
  rw [Int.toNat_natCast,Int.toNat_natCast,e1,e2,rtx_zero] at q
  cases k' with
  |succ k'=>
   rw [rtx_succ] at q
   simp only [List.append_assoc,List.cons_append,List.cons.injEq] at q
   omega
  |zero=>
   rw [rtx_zero] at q
   obtain ⟨_,q⟩:=List.append_inj q rfl
   refine ⟨rfl,fun z h1 h2=>?_⟩
   obtain rfl:z=x:=by omega
   rw [show y+z-z=y by omega]
   exact refNd_inj (ht z hx) (hu y hy) q
 |succ k ih=>
  intro k' x y hx hy e1 e2 h
  have q:=U x y hx hy (by unfold rtxV;rw [Int.toNat_natCast,Int.toNat_natCast,e1,e2];exact h)
  unfold rtxV at q
  rw [Int.toNat_natCast,Int.toNat_natCast,e1,e2,rtx_succ] at q
  cases k' with
  |zero=>
   rw [rtx_zero] at q
   simp only [List.append_assoc,List.cons_append,List.cons.injEq] at q
   omega
  |succ k'=>
   rw [rtx_succ] at q
   obtain ⟨q1,q4⟩:=List.append_inj' q (by rw [shortQ_len,shortQ_len])
   obtain ⟨q2,q3⟩:=List.append_inj' q1 (by rw [shortQ_len,shortQ_len])
   obtain ⟨_,q2⟩:=List.append_inj q2 rfl
   obtain ⟨_,_,a3,a4,a5,a6,a7⟩:=kid_succ hn (hN▸hx) e1
   obtain ⟨_,_,b3,b4,b5,b6,b7⟩:=kid_succ hm (hM▸hy) e2
   obtain ⟨rfl,l⟩:=ih k' (x-2^k) (y-2^k') (by omega) (by omega) a5 b5 q3
   obtain ⟨_,r⟩:=ih k (x+2^k) (y+2^k) (by omega) (by omega) a6 b6 q4
   have e:2^(k+1)=2*2^k:=by rw [Nat.pow_succ];omega
   refine ⟨rfl,fun z h1 h2=>?_⟩
   rw [e] at h1 h2
   rcases Nat.lt_trichotomy z x with hz|rfl|hz
   ·rw [l z (by omega) (by omega)]
    congr 1;omega
   ·rw [show y+z-z=y by omega]
    exact refNd_inj (ht z hx) (hu y hy) q2
   ·rw [r z (by omega) (by omega)]
    congr 1;omega
theorem rootL:(sizes.all fun n=>sizes.all fun m=>decide (2^lvN 7 (n-1)=n)&&(decide (n=m)||!(lvN 7 (n-1)==lvN 7 (m-1))))=true:=by decide+kernel
theorem root_at (hn:n∈sizes) (hm:m∈sizes):2^lvN 7 (n-1)=n∧(lvN 7 (n-1)=lvN 7 (m-1)→n=m):=by
 have h:=List.all_eq_true.1 (List.all_eq_true.1 rootL n hn) m hm
 simp only [Bool.and_eq_true,Bool.or_eq_true,decide_eq_true_eq,Bool.not_eq_true',beq_eq_false_iff_ne] at h
 exact ⟨h.1,fun q=>h.2.resolve_right fun r=>r q⟩
theorem same_of (hn:n∈sizes) (hN:N=2*n-1) (hm:m∈sizes) (hM:M=2*m-1) (ht:∀i,i<N→nodB (t i) (t i).un=true) (hu:∀i,i<M→nodB (u i) (u i).un=true)
  (U:∀x y:Nat,x<N→y<M→shortQ (rtxV t [] x)=shortQ (rtxV u [] y)→rtxV t [] x=rtxV u [] y) (h:shortQ (rtxV t [] ((N/2:Nat):Int))=shortQ (rtxV u [] ((M/2:Nat):Int))):N=M∧∀z,z<N→t z=u z:=by
 have s1:=sizes_le hn
 have s2:=sizes_le hm
 obtain ⟨g1,g2⟩:=root_at hn hm
 unfold rtxV at h
 rw [Int.toNat_natCast,Int.toNat_natCast,show N/2=n-1 by omega,show M/2=m-1 by omega] at h
 obtain ⟨e,k⟩:=same_below hn hN hm hM ht hu U _ _ (n-1) (m-1) (by omega) (by omega) rfl rfl h
 obtain rfl:=g2 e
 rw [g1] at k
 refine ⟨by omega,fun z hz=>?_⟩
 rw [k z (by omega) (by omega)]
 congr 1;omega
end
end Go.Proofs.YthlnlcijnoadcaaGreatDoor.Mk
end
