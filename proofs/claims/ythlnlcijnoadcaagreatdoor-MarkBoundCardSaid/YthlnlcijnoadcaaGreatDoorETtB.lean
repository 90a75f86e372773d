/- This file proves the contracts of tree's Resolution, of the reference's and of burrownum's Ints. Conditions: trees of 71 nodes at most. -/
import Derived.Test.YthlnlcijnoadcaaGreatDoorETtA
set_option linter.all false
set_option maxRecDepth 100000
namespace Go.Proofs.YthlnlcijnoadcaaGreatDoor.Tr
open Go Go.Sy
noncomputable def rnC (b:Bool) (l:List (Nat×Bool)):Ctr:=mk (P:=Tryz.prog) [checkE b,resE 8 (resolve_fn 8)] [] (uT l)
theorem rnC_ok (b:Bool) (l:List (Nat×Bool)):CtrSound Tryz.prog (rnC b l):=mk_sound _ InlOK.nil _ _
theorem rn_a (N:Nat) (t:Nat→Nod) (x:Int):(callS Tryz.prog (rnC true [(6,true)]) 60 Tryz.f105 [.rol false 99 N (tng t),.int .i64 x] []).map (fun x=>(x.1,x.2.2))=some (.nl (.slice none 0 0),andT true (decide (x<0))):=by kernel_rfl
theorem rn_b (N:Nat) (t:Nat→Nod) (x:Int):(callS Tryz.prog (rnC true [(6,false),(11,true)]) 60 Tryz.f105 [.rol false 99 N (tng t),.int .i64 x] []).map (fun x=>(x.1,x.2.2))=some (.nl (.slice none 0 0),andT (andT true !decide (x<0)) (decide (x≥((N:Nat):Int)))):=by kernel_rfl
theorem rn_c (N:Nat) (t:Nat→Nod) (x:Int):(callS Tryz.prog (rnC false [(6,false),(11,false)]) 60 Tryz.f105 [.rol false 99 N (tng t),.int .i64 x] []).map (fun x=>(x.1,x.2.2))=some (.nl (.slice none 0 0),andT (andT (andT true !decide (x<0)) !decide (x≥((N:Nat):Int))) (andT true ((okT N fun i=>coolL (tng t i))&&decide (N≤71)&&checkB N (treeOf fun i=>coolL (tng t i))==false))):=by kernel_rfl
theorem rn_d (N:Nat) (t:Nat→Nod) (x:Int):(callS Tryz.prog (rnC true [(6,false),(11,false)]) 60 Tryz.f105 [.rol false 99 N (tng t),.int .i64 x] [])=some (.sl 0 0 0 1 (resV t x).length (resV t x).length false true,[.b [.ints .i64 (resV t x).length (resV t x)]],andT (andT (andT (andT true !decide (x<0)) !decide (x≥((N:Nat):Int))) (andT true ((okT N fun i=>coolL (tng t i))&&decide (N≤71)&&checkB N (treeOf fun i=>coolL (tng t i))==true))) (andT true ((okT N fun i=>coolL (tng t i))&&decide (N≤71)&&resOK N (treeOf fun i=>coolL (tng t i)) x 8))):=by kernel_rfl
noncomputable def noL (l:List (Nat×Bool)):Ctr:=mk (P:=Tryz.prog) [] [] (uT l)
theorem noL_ok (l:List (Nat×Bool)):CtrSound Tryz.prog (noL l):=mk_sound _ InlOK.nil _ _
def RresFn (k:Nat):Prop:=∀(N:Nat) (t:Nat→Nod) (x:Int),TOK N t→resOK N t x k=true→
 FnTr Tryz.prog 74 [.rol false 99 N (tng t),.int .i64 x] [] (.sl 0 0 0 1 (resV t x).length (resV t x).length false true) [.b [.ints .i64 (resV t x).length (resV t x)]]
noncomputable def rresE (k:Nat) (ih:RresFn k):Entry Tryz.prog:=.val 74 _ Tryz.func74 (by decide) rfl true 1 (resF k) fun vs v new e=>by
 unfold resF at e
 split at e
 ·simp only [Option.some.injEq,Prod.mk.injEq,Bool.and_eq_true,decide_eq_true_eq] at e
  obtain ⟨rfl,rfl,⟨h1,h2⟩,h3⟩:=e
  exact FnTr.conv (ih _ _ _ (TOK.of h1 h2) h3) ⟨VE.tree h1,VE.refl _,trivial⟩ trivial (VE.refl _) ⟨PE.refl _,trivial⟩
 ·cases e
noncomputable def qvC (k:Nat) (ih:RresFn k) (l:List (Nat×Bool)):Ctr:=mk (P:=Tryz.prog) [rChildrenE,rresE k ih] [] (uT l)
theorem qvC_ok (k:Nat) (ih:RresFn k) (l:List (Nat×Bool)):CtrSound Tryz.prog (qvC k ih l):=mk_sound _ InlOK.nil _ _
noncomputable def qvB:Code:=bodyOf Tryz.f74
noncomputable def qvA:Code:=cdA (nthC 2 qvB)
noncomputable def qv0 (N:Nat) (t:Nat→Nod) (x:Int):St:=⟨slotsOf 53 [(0,.rol false 99 N (tng t)),(1,.int .i64 x),(13,.bool true)],[],true⟩
noncomputable def qvS (N:Nat) (t:Nat→Nod) (x:Int) (xs:List Int) (n:Nat) (ex:Bool) (j:Int):St:=⟨slotsOf 53 [(0,.rol false 99 N (tng t)),(1,.int .i64 x),(5,.sl 0 0 0 1 n n ex true),(6,.int .i64 j)],[.b [.ints .i64 n xs]],true⟩
theorem qv_head (N:Nat) (t:Nat→Nod) (x:Int) (k:Nat) (ih:RresFn k):resX (cutR [0,1,13] 0 ((execL Tryz.prog (qvC k ih [(13,true)]) 60 0 2 (atoms qvB) ⟨slots0 Tryz.f74.ntmps [.rol false 99 N (tng t),.int .i64 x],[],true⟩).map fun s=>(Exit.normal,s)))=some (.normal,(qv0 N t x).t,[]):=by kernel_rfl
theorem qv_head' (N:Nat) (t:Nat→Nod) (x:Int) (k:Nat) (ih:RresFn k):obX (cutR [0,1,13] 0 ((execL Tryz.prog (qvC k ih [(13,true)]) 60 0 2 (atoms qvB) ⟨slots0 Tryz.f74.ntmps [.rol false 99 N (tng t),.int .i64 x],[],true⟩).map fun s=>(Exit.normal,s)))=(andT (andT (andT true (inB x N)) (true&&(decide (x.toNat<N)&&true))) (t x.toNat).1):=by kernel_rfl
theorem qv_mid (N:Nat) (t:Nat→Nod) (x:Int) (k:Nat) (ih:RresFn k):resX (cutR [0,1,5,6] 1 ((execL Tryz.prog (qvC k ih []) 60 0 2 (atoms qvA) (qv0 N t x)).map fun s=>(Exit.normal,s)))=some (.normal,(qvS N t x [x] 1 true 0).t,(qvS N t x [x] 1 true 0).h):=by kernel_rfl
theorem qv_mid' (N:Nat) (t:Nat→Nod) (x:Int) (k:Nat) (ih:RresFn k):obX (cutR [0,1,5,6] 1 ((execL Tryz.prog (qvC k ih []) 60 0 2 (atoms qvA) (qv0 N t x)).map fun s=>(Exit.normal,s)))=(true):=by kernel_rfl
theorem qv_one (N:Nat) (t:Nat→Nod) (x:Int) (xs:List Int) (n:Nat) (j:Int) (k:Nat) (ih:RresFn k):resX (cutR [0,1,5,6] 1 (exec Tryz.prog (qvC k ih [(23,true)]) 60 0 (inner (inner (nthC 2 qvA))) (qvS N t x xs n false j)))=some (.normal,(qvS N t x (xs++[IntKind.i64.wrap (2*(t x.toNat).un.getD j.toNat 0)]) (n+1) false (IntKind.i64.wrap (j+1))).t,(qvS N t x (xs++[IntKind.i64.wrap (2*(t x.toNat).un.getD j.toNat 0)]) (n+1) false (IntKind.i64.wrap (j+1))).h):=by kernel_rfl
theorem qv_one' (N:Nat) (t:Nat→Nod) (x:Int) (xs:List Int) (n:Nat) (j:Int) (k:Nat) (ih:RresFn k):obX (cutR [0,1,5,6] 1 (exec Tryz.prog (qvC k ih [(23,true)]) 60 0 (inner (inner (nthC 2 qvA))) (qvS N t x xs n false j)))=(andT (andT (andT (andT (andT (andT (andT (andT true (inB x N)) (true&&(decide (x.toNat<N)&&true))) (decide (j<(((t x.toNat).un.length:Nat):Int)))) (inB x N)) (true&&(decide (x.toNat<N)&&true))) (inB j (t x.toNat).un.length)) (decide (j.toNat<(t x.toNat).un.length))) (andT (andT (andT (andT (decide (((List.replicate 1 0).set 0 (IntKind.i64.wrap (2*(t x.toNat).un.getD j.toNat 0))).length=1)&&true) (decide (xs.length=n)&&(decide (n≤n)&&true))) (decide (xs.length=n))) true) (decide (n+1≤2^38)))):=by kernel_rfl
theorem qv_end (N:Nat) (t:Nat→Nod) (x:Int) (xs:List Int) (n:Nat) (j:Int) (k:Nat) (ih:RresFn k):resX (cutR [5] 1 (exec Tryz.prog (qvC k ih [(23,false)]) 60 0 (inner (inner (nthC 2 qvA))) (qvS N t x xs n false j)))=some (.exit 0,slotsOf 53 [(5,.sl 0 0 0 1 n n false true)],[.b [.ints .i64 n xs]]):=by kernel_rfl
theorem qv_end' (N:Nat) (t:Nat→Nod) (x:Int) (xs:List Int) (n:Nat) (j:Int) (k:Nat) (ih:RresFn k):obX (cutR [5] 1 (exec Tryz.prog (qvC k ih [(23,false)]) 60 0 (inner (inner (nthC 2 qvA))) (qvS N t x xs n false j)))=(andT (andT (andT true (inB x N)) (true&&(decide (x.toNat<N)&&true))) !decide (j<(((t x.toNat).un.length:Nat):Int))):=by kernel_rfl
theorem qv_nil (N:Nat) (t:Nat→Nod) (x:Int) (k:Nat) (ih:RresFn k):(callS Tryz.prog (qvC k ih [(13,false),(45,true)]) 60 Tryz.f74 [.rol false 99 N (tng t),.int .i64 x] []).map (fun x=>(x.1,x.2.2))=some (.nl (.slice none 0 0),andT (andT (andT (andT (andT true (inB x N)) (true&&(decide (x.toNat<N)&&true))) !(t x.toNat).1) (andT true (decide (0≤x)&&decide (x<64)))) (decide (leftV x<0))):=by kernel_rfl
theorem qv_rec (N:Nat) (t:Nat→Nod) (x:Int) (k:Nat) (ih:RresFn k):(callS Tryz.prog (qvC k ih [(13,false),(45,false)]) 60 Tryz.f74 [.rol false 99 N (tng t),.int .i64 x] [])=some (.sl 0 0 0 1 ((resV t (leftV x)).length+(resV t (rightV x)).length) ((resV t (leftV x)).length+(resV t (rightV x)).length) false true,[.b [.ints .i64 ((resV t (leftV x)).length+(resV t (rightV x)).length) (resV t (leftV x)++resV t (rightV x))],.b [.ints .i64 (resV t (rightV x)).length (resV t (rightV x))]],andT (andT (andT (andT (andT (andT (andT (andT true (inB x N)) (true&&(decide (x.toNat<N)&&true))) !(t x.toNat).1) (andT true (decide (0≤x)&&decide (x<64)))) !decide (leftV x<0)) (andT true ((okT N fun i=>coolL (tng t i))&&decide (N≤71)&&resOK N (treeOf fun i=>coolL (tng t i)) (leftV x) k))) (andT true ((okT N fun i=>coolL (tng t i))&&decide (N≤71)&&resOK N (treeOf fun i=>coolL (tng t i)) (rightV x) k))) (andT (andT (andT (decide ((resV (treeOf fun i=>coolL (tng t i)) (rightV x)).length=(resV (treeOf fun i=>coolL (tng t i)) (rightV x)).length)&&(decide ((resV (treeOf fun i=>coolL (tng t i)) (rightV x)).length≤(resV (treeOf fun i=>coolL (tng t i)) (rightV x)).length)&&true)) (decide ((resV (treeOf fun i=>coolL (tng t i)) (leftV x)).length=(resV (treeOf fun i=>coolL (tng t i)) (leftV x)).length)&&(decide ((resV (treeOf fun i=>coolL (tng t i)) (leftV x)).length≤(resV (treeOf fun i=>coolL (tng t i)) (leftV x)).length)&&true))) (decide ((resV (treeOf fun i=>coolL (tng t i)) (leftV x)).length=(resV (treeOf fun i=>coolL (tng t i)) (leftV x)).length))) (decide ((resV (treeOf fun i=>coolL (tng t i)) (leftV x)).length+(resV (treeOf fun i=>coolL (tng t i)) (rightV x)).length≤2^38)))):=by kernel_rfl
section
variable {N n k:Nat} {t:Nat→Nod} {x:Nat}
theorem qv_used (ih:RresFn k) (hT:TOK N t) (hu:unB N t=true) (hx:x<N) (h:(t x).used=true):
  FnTr Tryz.prog 74 [.rol false 99 N (tng t),.int .i64 x] [] (.sl 0 0 0 1 (resV t x).length (resV t x).length false true) [.b [.ints .i64 (resV t x).length (resV t x)]]:=by
 obtain ⟨hl,hr⟩:=un_of hu hx
 have hR:resV t x=(x:Int)::(t x).un.map (2* ·):=resL_used h
 have hlen:(resV t x).length=1+(t x).un.length:=by rw [hR,List.length_cons,List.length_map];omega
 have hin:inB (x:Int) N=true:=inBN hx
 rw [hlen,hR]
 refine FnTr.mk (vs:=[.sl 0 0 0 1 (1+(t x).un.length) (1+(t x).un.length) false true]) Tryz.func74 rfl (x:=.ret) (s:=⟨slotsOf 53 [(5,.sl 0 0 0 1 (1+(t x).un.length) (1+(t x).un.length) false true),(38,.sl 0 0 0 1 (1+(t x).un.length) (1+(t x).un.length) false true),(4,.sl 0 0 0 1 (1+(t x).un.length) (1+(t x).un.length) false true)],[.b [.ints .i64 (1+(t x).un.length) ((x:Int)::(t x).un.map (2* ·))]],true⟩) ?_ (.inl rfl) (by kernel_rfl)
 refine TrL.itemsX (qvC_ok k ih [(13,true)]) 60 2 _ 0 (Nat.le_refl _) (s1:=qv0 N t x) _ (qv_head N t x k ih) (qv_head' N t x k ih) (by rw [Int.toNat_natCast,hin,decide_eq_true hx,show (t x).1=true from h];rfl) (by decide) rfl ?_
 refine TrL.leave 2 (by decide) (by simp) ?_
 rw [show nthC 2 (bodyOf Tryz.f74)= .cond (.tmp 13) qvA .skip by kernel_rfl]
 refine Tr.cond_true rfl (Tr.of_atoms ?_)
 have em:=qv_mid N t x k ih
 refine TrL.itemsX (qvC_ok k ih []) 60 2 _ 1 (Nat.zero_le _) (s1:=qvS N t (x:Int) [(x:Int)] 1 true 0) _ em (qv_mid' N t x k ih) rfl (by decide) rfl ?_
 refine TrL.pre (s1:=qvS N t (x:Int) ((x:Int)::((t x).un.take 0).map (2* ·)) (1+0) false ((0:Nat):Int)) ?_ ?_ (by intro q;cases q)
 ·refine TrL.item 2 (by decide) (s1:=⟨slotsOf 53 [(5,.sl 0 0 0 1 (1+(t x).un.length) (1+(t x).un.length) false true)],[.b [.ints .i64 (1+(t x).un.length) ((x:Int)::(t x).un.map (2* ·))]],true⟩) (Tr.loop 0 (by kernel_rfl) (fun j=>qvS N t (x:Int) ((x:Int)::((t x).un.take j).map (2* ·)) (1+j) false ((j:Nat):Int)) (t x).un.length (fun j hj=>?_) ?_) ?_
  ·have e:=qv_one N t (x:Int) ((x:Int)::((t x).un.take j).map (2* ·)) (1+j) j k ih
   have hg:=hr ((t x).un.getD j 0) (by rw [getD_get hj];exact List.getElem_mem hj)
   rw [Int.toNat_natCast,Int.toNat_natCast,wrapI (by omega) (by omega),wrapS (by omega),List.cons_append,getD_map hj,show 1+j+1=1+(j+1) by omega] at e
   refine Tr.cutX (qvC_ok k ih [(23,true)]) 60 _ 1 (Nat.zero_le _) (s':=qvS N t (x:Int) ((x:Int)::((t x).un.take (j+1)).map (2* ·)) (1+(j+1)) false ((j+1:Nat):Int)) _ e (qv_one' _ _ _ _ _ _ k ih) ?_
   rw [Int.toNat_natCast,Int.toNat_natCast,hin,decide_eq_true hx,ltN hj,inBN hj,decide_eq_true hj,decide_eq_true (Nat.le_refl (1+j)),decide_eq_true (show ((x:Int)::((t x).un.take j).map (2* ·)).length=1+j by simp;omega),decide_eq_true (show 1+j+1≤2^38 by omega)]
   rfl
  ·have e:=qv_end N t (x:Int) ((x:Int)::((t x).un.take (t x).un.length).map (2* ·)) (1+(t x).un.length) (t x).un.length k ih
   rw [List.take_length] at e
   rw [List.take_length]
   exact Tr.cutX (qvC_ok k ih [(23,false)]) 60 _ 1 (Nat.zero_le _) _ e (qv_end' N t (x:Int) ((x:Int)::(t x).un.map (2* ·)) (1+(t x).un.length) (t x).un.length k ih) (by rw [Int.toNat_natCast,hin,decide_eq_true hx,nltN (Nat.le_refl _)];rfl)
  ·exact TrL.rest (qvC_ok k ih []) 60 (by kernel_rfl) rfl
 ·exact Ent.slot (t:=(qvS N t (x:Int) [(x:Int)] 1 true 0).t) 5 (v:=.sl 0 0 0 1 1 1 true true) rfl (VE.anyCap 0 0 0 1 1 1 true)
theorem rResolve_fn:∀k,RresFn k:=by
 intro k
 induction k with
 |zero=>
  intro N t x hT h
  simp [resOK] at h
 |succ k ih=>
  intro N t x hT h
  unfold resOK at h
  simp only [Bool.and_eq_true,decide_eq_true_eq] at h
  obtain ⟨⟨⟨⟨hu,ht⟩,h0⟩,hx⟩,hk⟩:=h
  obtain ⟨y,rfl⟩:=Int.eq_ofNat_of_zero_le h0
  rw [Int.toNat_natCast] at hk
  have hx:y<N:=by omega
  obtain ⟨n,hn,hN⟩:=treeN_iff ht
  have hs:=sizes_le hn
  have hin:inB (y:Int) N=true:=inBN hx
  cases hus:(t y).used with
  |true=>exact qv_used ih hT hu hx hus
  |false=>
   cases hl:lvN 7 y with
   |zero=>
    have hV:resV t (y:Int)=[]:=by unfold resV;rw [Int.toNat_natCast,hl];exact resL_zero hus
    rw [hV]
    refine FnTr.nilBlk (h1:=[]) (call0 (qvC_ok k ih [(13,false),(45,true)]) 60 Tryz.func74 (qv_nil N t y k ih) ?_ rfl) .i64 false true
    rw [Int.toNat_natCast,hin,decide_eq_true hx,show (t y).1=false from hus,(kid_zero hn (hN▸hx) hl).1,decide_eq_true (show (0:Int)≤y by omega),decide_eq_true (show (y:Int)<64 by omega)]
    rfl
   |succ j=>
    obtain ⟨h1,h2,h3,h4,h5,h6,h7⟩:=kid_succ hn (hN▸hx) hl
    have hV:resV t (y:Int)=resV t ((y-2^j:Nat):Int)++resV t ((y+2^j:Nat):Int):=by
     unfold resV;rw [Int.toNat_natCast,Int.toNat_natCast,Int.toNat_natCast,hl,h5,h6];exact resL_succ hus
    have l1:=resL_len hu hn hN j (y-2^j) (by omega) h5
    have l2:=resL_len hu hn hN j (y+2^j) (by omega) h6
    have hj:2^j≤2^7:=Nat.pow_le_pow_right (by decide) (by have:=lvN_le 7 y;omega)
    have e1:resV t ((y-2^j:Nat):Int)=resL t j (y-2^j):=by unfold resV;rw [Int.toNat_natCast,h5]
    have e2:resV t ((y+2^j:Nat):Int)=resL t j (y+2^j):=by unfold resV;rw [Int.toNat_natCast,h6]
    have hok:okT N (fun i=>coolL (tng t i))=true:=okT_tng hT
    have e:=qv_rec N t y k ih
    rw [h1,h2] at e
    rw [hV,List.length_append]
    refine FnTr.sel (v:=.sl 0 0 0 1 ((resV t ((y-2^j:Nat):Int)).length+(resV t ((y+2^j:Nat):Int)).length) ((resV t ((y-2^j:Nat):Int)).length+(resV t ((y+2^j:Nat):Int)).length) false true) (h1:=[.b [.ints .i64 ((resV t ((y-2^j:Nat):Int)).length+(resV t ((y+2^j:Nat):Int)).length) (resV t ((y-2^j:Nat):Int)++resV t ((y+2^j:Nat):Int))],.b [.ints .i64 (resV t ((y+2^j:Nat):Int)).length (resV t ((y+2^j:Nat):Int))]]) [0] ?_ rfl
    refine FnTr.of_callS (qvC_ok k ih [(13,false),(45,false)]) Tryz.func74 (n:=60) (e.trans ?_)
    have r1:resOK N (treeOf fun i=>coolL (tng t i)) ((y-2^j:Nat):Int) k=true:=resOK_mk (t:=t) hu ht (by omega) (by omega)
    have r2:resOK N (treeOf fun i=>coolL (tng t i)) ((y+2^j:Nat):Int) k=true:=resOK_mk (t:=t) hu ht (by omega) (by omega)
    have q:∀x:Int,resV (treeOf fun i=>coolL (tng t i)) x=resV t x:=fun _=>rfl
    rw [Int.toNat_natCast,hin,decide_eq_true hx,show (t y).1=false from hus,decide_eq_true (show (0:Int)≤y by omega),decide_eq_true (show (y:Int)<64 by omega),hok,decide_eq_true hT.le,r1,r2,decide_eq_false (show ¬((y-2^j:Nat):Int)<0 by omega),q,q]
    rw [decide_eq_true (Nat.le_refl _),decide_eq_true (Nat.le_refl _),decide_eq_true (Eq.refl (resV t ((y-2^j:Nat):Int)).length),decide_eq_true (Eq.refl (resV t ((y+2^j:Nat):Int)).length),decide_eq_true (show (resV t ((y-2^j:Nat):Int)).length+(resV t ((y+2^j:Nat):Int)).length≤2^38 by rw [e1,e2];omega)]
    rfl
def rsnV (N:Nat) (t:Nat→Nod) (x:Int):List Int:=bif decide (0≤x)&&decide (x<N)&&checkB N t then resV t x else []
theorem check_parts (hT:TOK N t) (h:checkB N t=true):∃n∈sizes,leavesV N=(n:Int)∧N=2*n-1∧∀x,x<N→goodJ t n x=true:=by
 unfold checkB at h
 simp only [Bool.and_eq_true,Bool.not_eq_true'] at h
 obtain ⟨n,hn,h1,h2⟩:=leaves_sizes hT.le h.1
 refine ⟨n,hn,h1,h2,fun x hx=>?_⟩
 have:=List.all_eq_true.1 h.2.1 x (List.mem_range.2 hx)
 rwa [h1,Int.toNat_natCast] at this
theorem upJ_at {x:Int} {un:List Int} {j:Nat} (h:upJ t x n un j=true):bef un j<un.getD j 0∧firstV x≤un.getD j 0∧un.getD j 0≤lastV x:=by
 unfold upJ at h
 simp only [Bool.and_eq_true,Bool.not_eq_true',decide_eq_false_iff_not] at h
 omega
theorem upper_un {x:Nat} (hn:n∈sizes) (hx:x<2*n-1) (h:upperB t x n=true):(∀u∈(t x).un,0≤u∧u<n)∧(t x).un.length≤n:=by
 unfold upperB at h
 simp only [Bool.and_eq_true,Int.toNat_natCast] at h
 obtain ⟨_,h⟩:=h
 have q:nodeB (x:Int) n=true:=List.any_eq_true.2 ⟨n,hn,by simp;omega⟩
 obtain ⟨b1,b2⟩:=below_ok q
 have r:∀j,j<(t x).un.length→bef (t x).un j<(t x).un.getD j 0∧0≤(t x).un.getD j 0∧(t x).un.getD j 0<n:=fun j hj=>by
  have:=upJ_at (List.all_eq_true.1 h j (List.mem_range.2 hj))
  omega
 refine ⟨fun u hu=>?_,?_⟩
 ·obtain ⟨j,hj,rfl⟩:=List.getElem_of_mem hu
  have:=r j hj
  rw [getD_get hj] at this
  exact this.2
 ·have g:∀j,j<(t x).un.length→(j:Int)≤(t x).un.getD j 0:=by
   intro j
   induction j with
   |zero=>intro hj;exact (r 0 hj).2.1
   |succ j ih=>
    intro hj
    have a:=ih (by omega)
    have b:(t x).un.getD j 0<(t x).un.getD (j+1) 0:=(r (j+1) hj).1
    omega
  cases hl:(t x).un.length with
  |zero=>omega
  |succ k=>
   have a:=g k (by omega)
   have b:=r k (by omega)
   omega
theorem check_un (hT:TOK N t) (h:checkB N t=true):unB N t=true∧treeN N=true:=by
 obtain ⟨n,hn,h1,hN,hg⟩:=check_parts hT h
 have hs:=sizes_le hn
 refine ⟨List.all_eq_true.2 fun x hx=>?_,List.any_eq_true.2 ⟨n,hn,decide_eq_true hN⟩⟩
 have hx:=List.mem_range.1 hx
 have g:=hg x hx
 have key:(∀u∈(t x).un,0≤u∧u<n)∧(t x).un.length≤n:=by
  unfold goodJ at g
  cases hu:(t x).used with
  |false=>
   rw [hu] at g
   have:(t x).un=[]:=by
    unfold blankB sameB at g
    simp only [Bool.not_false,cond_true,Bool.and_eq_true,decide_eq_true_eq] at g
    exact g.2
   rw [this];exact ⟨fun _ q=>by simp at q,Nat.zero_le _⟩
  |true=>
   rw [hu] at g
   cases hp:(x%2==0) with
   |true=>
    rw [hp] at g
    have:(t x).un=[]:=by
     unfold lfB at g
     simp only [Bool.not_true,cond_false,cond_true,Bool.and_eq_true,beq_iff_eq] at g
     have:=g.1.2
     exact List.length_eq_zero_iff.1 (by omega)
    rw [this];exact ⟨fun _ q=>by simp at q,Nat.zero_le _⟩
   |false=>
    rw [hp] at g
    exact upper_un hn (hN▸hx) g
 simp only [Bool.and_eq_true,decide_eq_true_eq,List.all_eq_true]
 refine ⟨by omega,fun u hu=>?_⟩
 have:=key.1 u hu
 omega
theorem rn_resOK (hT:TOK N t) (h:checkB N t=true) {x:Int} (h0:0≤x) (h1:x<N):resOK N t x 8=true:=by
 obtain ⟨hu,ht⟩:=check_un hT h
 obtain ⟨y,rfl⟩:=Int.eq_ofNat_of_zero_le h0
 exact resOK_mk hu ht (by omega) (by have:=lvN_le 7 y;omega)
theorem resolution_fn {x:Int} (hT:TOK N t):FnTr Tryz.prog 105 [.rol false 99 N (tng t),.int .i64 x] [] (.ro true .i64 (rsnV N t x)) []:=by
 have hok:okT N (fun i=>coolL (tng t i))=true:=okT_tng hT
 have nil:FnTr Tryz.prog 105 [.rol false 99 N (tng t),.int .i64 x] [] (.nl (.slice none 0 0)) []→FnTr Tryz.prog 105 [.rol false 99 N (tng t),.int .i64 x] [] (.ro true .i64 []) []:=fun g=>FnTr.conv g ⟨VE.refl _,VE.refl _,trivial⟩ trivial (VE.nilRo true .i64) trivial
 unfold rsnV
 by_cases h0:x<0
 ·rw [decide_eq_false (show ¬0≤x by omega)]
  exact nil (call0 (rnC_ok _ _) 60 Tryz.func105 (rn_a N t x) (by rw [decide_eq_true h0];rfl) rfl)
 ·by_cases h1:x≥N
  ·rw [decide_eq_false (show ¬x<(N:Int) by omega),Bool.and_false,Bool.false_and]
   exact nil (call0 (rnC_ok _ _) 60 Tryz.func105 (rn_b N t x) (by rw [decide_eq_false h0,decide_eq_true h1];rfl) rfl)
  ·rw [decide_eq_true (show 0≤x by omega),decide_eq_true (show x<(N:Int) by omega)]
   cases hc:checkB N t with
   |false=>exact nil (call0 (rnC_ok _ _) 60 Tryz.func105 (rn_c N t x) (by rw [decide_eq_false h0,decide_eq_false h1,hok,decide_eq_true hT.le,show checkB N (treeOf fun i=>coolL (tng t i))=false from hc];rfl) rfl)
   |true=>
    have hr:resOK N (treeOf fun i=>coolL (tng t i)) x 8=true:=rn_resOK (t:=t) hT hc (by omega) (by omega)
    refine FnTr.frozenI (ex:=false) (wh:=true) (N:=(resV t x).length) (FnTr.of_callS (rnC_ok true [(6,false),(11,false)]) Tryz.func105 (n:=60) ((rn_d N t x).trans ?_)) rfl
    rw [decide_eq_false h0,decide_eq_false h1,hok,decide_eq_true hT.le,show checkB N (treeOf fun i=>coolL (tng t i))=true from hc,hr]
    rfl
noncomputable def resolutionE:Entry Tryz.prog:=.val 105 _ Tryz.func105 (by decide) rfl true 0 (fun vs=>match vs with
 | [.rol false 99 N g,.int .i64 x]=>some (.ro true .i64 (rsnV N (treeOf g) x),[],okT N g&&decide (N≤71))
 |_=>none) fun vs v new e=>by
 split at e
 ·simp only [Option.some.injEq,Prod.mk.injEq,Bool.and_eq_true,decide_eq_true_eq] at e
  obtain ⟨rfl,rfl,h1,h2⟩:=e
  exact FnTr.conv (resolution_fn (TOK.of h1 h2)) ⟨VE.tree h1,VE.refl _,trivial⟩ trivial (VE.refl _) trivial
 ·cases e
end
end Go.Proofs.YthlnlcijnoadcaaGreatDoor.Tr
