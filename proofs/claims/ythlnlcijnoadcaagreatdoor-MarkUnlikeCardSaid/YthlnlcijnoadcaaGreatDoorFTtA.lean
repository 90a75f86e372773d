/- This file proves the contract of tree's resolve and Resolution. Conditions: trees in form, of 32 leaves at most. -/
import Derived.Test.YthlnlcijnoadcaaGreatDoorFTsN
import Derived.Test.YthlnlcijnoadcaaGreatDoorFSxF
set_option linter.all false
set_option maxRecDepth 100000
namespace Go.Proofs.YthlnlcijnoadcaaGreatDoor.Tr
open Go Go.Sy
def resL (t:Nat→Nod):Nat→Nat→List Int
 |0,x=>bif (t x).used then ((x:Nat):Int)::(t x).un.map (2* ·) else []
 |k+1,x=>bif (t x).used then ((x:Nat):Int)::(t x).un.map (2* ·) else resL t k (x-2^k)++resL t k (x+2^k)
def resV (t:Nat→Nod) (x:Int):List Int:=resL t (lvN 7 x.toNat) x.toNat
def unB (N:Nat) (t:Nat→Nod):Bool:=(List.range N).all fun x=>decide ((t x).un.length≤64)&&(t x).un.all fun u=>decide (0≤u)&&decide (u<64)
def treeN (N:Nat):Bool:=sizes.any fun m=>decide (N=2*m-1)
def resOK (N:Nat) (t:Nat→Nod) (x:Int) (k:Nat):Bool:=unB N t&&treeN N&&decide (0≤x)&&decide (x<N)&&decide (lvN 7 x.toNat<k)
noncomputable def resF (k:Nat):List SV→Option (SV×List Blk×Bool)
 | [.rol false 99 N g,.int .i64 x]=>some (.sl 0 0 0 1 (resV (treeOf g) x).length (resV (treeOf g) x).length false true,[.b [.ints .i64 (resV (treeOf g) x).length (resV (treeOf g) x)]],okT N g&&decide (N≤71)&&resOK N (treeOf g) x k)
 |_=>none
def ResFn (k:Nat):Prop:=∀(N:Nat) (t:Nat→Nod) (x:Int),TOK N t→resOK N t x k=true→
 FnTr Tryz.prog 148 [.rol false 99 N (tng t),.int .i64 x] [] (.sl 0 0 0 1 (resV t x).length (resV t x).length false true) [.b [.ints .i64 (resV t x).length (resV t x)]]
noncomputable def resE (k:Nat) (ih:ResFn k):Entry Tryz.prog:=.val 148 _ Tryz.func148 (by decide) rfl true 1 (resF k) fun vs v new e=>by
 unfold resF at e
 split at e
 ·simp only [Option.some.injEq,Prod.mk.injEq,Bool.and_eq_true,decide_eq_true_eq] at e
  obtain ⟨rfl,rfl,⟨h1,h2⟩,h3⟩:=e
  exact FnTr.conv (ih _ _ _ (TOK.of h1 h2) h3) ⟨VE.tree h1,VE.refl _,trivial⟩ trivial (VE.refl _) ⟨PE.refl _,trivial⟩
 ·cases e
noncomputable def rvC (k:Nat) (ih:ResFn k) (l:List (Nat×Bool)):Ctr:=mk (P:=Tryz.prog) [childrenE,resE k ih] [] (uT l)
theorem rvC_ok (k:Nat) (ih:ResFn k) (l:List (Nat×Bool)):CtrSound Tryz.prog (rvC k ih l):=mk_sound _ InlOK.nil _ _
noncomputable def rvB:Code:=bodyOf Tryz.f148
noncomputable def rvA:Code:=cdA (nthC 2 rvB)
noncomputable def rv0 (N:Nat) (t:Nat→Nod) (x:Int):St:=⟨slotsOf 48 [(0,.rol false 99 N (tng t)),(1,.int .i64 x),(14,.bool true)],[],true⟩
noncomputable def rvS (un xs:List Int) (n:Nat) (ex:Bool) (j:Int):St:=⟨slotsOf 48 [(5,.sl 0 0 0 1 n n ex true),(21,.ro false .i64 un),(22,.int .i64 un.length),(23,.int .i64 j)],[.b [.ints .i64 n xs]],true⟩
theorem rv_head (N:Nat) (t:Nat→Nod) (x:Int) (k:Nat) (ih:ResFn k):resX (cutR [0,1,14] 0 ((execL Tryz.prog (rvC k ih [(14,true)]) 60 0 2 (atoms rvB) ⟨slots0 Tryz.f148.ntmps [.rol false 99 N (tng t),.int .i64 x],[],true⟩).map fun s=>(Exit.normal,s)))=some (.normal,(rv0 N t x).t,[]):=by kernel_rfl
theorem rv_head' (N:Nat) (t:Nat→Nod) (x:Int) (k:Nat) (ih:ResFn k):obX (cutR [0,1,14] 0 ((execL Tryz.prog (rvC k ih [(14,true)]) 60 0 2 (atoms rvB) ⟨slots0 Tryz.f148.ntmps [.rol false 99 N (tng t),.int .i64 x],[],true⟩).map fun s=>(Exit.normal,s)))=(andT (andT (andT true (inB x N)) (true&&(decide (x.toNat<N)&&true))) (t x.toNat).1):=by kernel_rfl
theorem rv_mid (N:Nat) (t:Nat→Nod) (x:Int) (k:Nat) (ih:ResFn k):resX (cutR [5,21,22,23] 1 ((execL Tryz.prog (rvC k ih []) 60 0 2 (atoms rvA) (rv0 N t x)).map fun s=>(Exit.normal,s)))=some (.normal,(rvS (t x.toNat).un [x] 1 true 0).t,(rvS (t x.toNat).un [x] 1 true 0).h):=by kernel_rfl
theorem rv_mid' (N:Nat) (t:Nat→Nod) (x:Int) (k:Nat) (ih:ResFn k):obX (cutR [5,21,22,23] 1 ((execL Tryz.prog (rvC k ih []) 60 0 2 (atoms rvA) (rv0 N t x)).map fun s=>(Exit.normal,s)))=(andT (andT true (inB x N)) (true&&(decide (x.toNat<N)&&true))):=by kernel_rfl
theorem rv_one (un xs:List Int) (n:Nat) (j:Int) (k:Nat) (ih:ResFn k):resX (cutR [5,21,22,23] 1 (exec Tryz.prog (rvC k ih [(24,true)]) 60 0 (inner (inner (nthC 2 rvA))) (rvS un xs n false j)))=some (.normal,(rvS un (xs++[IntKind.i64.wrap (2*un.getD j.toNat 0)]) (n+1) false (IntKind.i64.wrap (j+1))).t,(rvS un (xs++[IntKind.i64.wrap (2*un.getD j.toNat 0)]) (n+1) false (IntKind.i64.wrap (j+1))).h):=by kernel_rfl
theorem rv_one' (un xs:List Int) (n:Nat) (j:Int) (k:Nat) (ih:ResFn k):obX (cutR [5,21,22,23] 1 (exec Tryz.prog (rvC k ih [(24,true)]) 60 0 (inner (inner (nthC 2 rvA))) (rvS un xs n false j)))=(andT (andT (andT (andT true (decide (j<((un.length:Nat):Int)))) (inB j un.length)) (decide (j.toNat<un.length))) (andT (andT (andT (andT (decide (((List.replicate 1 0).set 0 (IntKind.i64.wrap (2*un.getD j.toNat 0))).length=1)&&true) (decide (xs.length=n)&&(decide (n≤n)&&true))) (decide (xs.length=n))) true) (decide (n+1≤2^38)))):=by kernel_rfl
theorem rv_end (un xs:List Int) (n:Nat) (j:Int) (k:Nat) (ih:ResFn k):resX (cutR [5] 1 (exec Tryz.prog (rvC k ih [(24,false)]) 60 0 (inner (inner (nthC 2 rvA))) (rvS un xs n false j)))=some (.exit 0,slotsOf 48 [(5,.sl 0 0 0 1 n n false true)],[.b [.ints .i64 n xs]]):=by kernel_rfl
theorem rv_end' (un xs:List Int) (n:Nat) (j:Int) (k:Nat) (ih:ResFn k):obX (cutR [5] 1 (exec Tryz.prog (rvC k ih [(24,false)]) 60 0 (inner (inner (nthC 2 rvA))) (rvS un xs n false j)))=(andT true !decide (j<((un.length:Nat):Int))):=by kernel_rfl
theorem rv_nil (N:Nat) (t:Nat→Nod) (x:Int) (k:Nat) (ih:ResFn k):(callS Tryz.prog (rvC k ih [(14,false),(40,true)]) 60 Tryz.f148 [.rol false 99 N (tng t),.int .i64 x] []).map (fun x=>(x.1,x.2.2))=some (.nl (.slice none 0 0),andT (andT (andT (andT (andT true (inB x N)) (true&&(decide (x.toNat<N)&&true))) !(t x.toNat).1) (andT true (decide (0≤x)&&decide (x<64)))) (decide (leftV x<0))):=by kernel_rfl
theorem rv_rec (N:Nat) (t:Nat→Nod) (x:Int) (k:Nat) (ih:ResFn k):(callS Tryz.prog (rvC k ih [(14,false),(40,false)]) 60 Tryz.f148 [.rol false 99 N (tng t),.int .i64 x] [])=some (.sl 0 0 0 1 ((resV t (leftV x)).length+(resV t (rightV x)).length) ((resV t (leftV x)).length+(resV t (rightV x)).length) false true,[.b [.ints .i64 ((resV t (leftV x)).length+(resV t (rightV x)).length) (resV t (leftV x)++resV t (rightV x))],.b [.ints .i64 (resV t (rightV x)).length (resV t (rightV x))]],andT (andT (andT (andT (andT (andT (andT (andT true (inB x N)) (true&&(decide (x.toNat<N)&&true))) !(t x.toNat).1) (andT true (decide (0≤x)&&decide (x<64)))) !decide (leftV x<0)) (andT true ((okT N fun i=>coolL (tng t i))&&decide (N≤71)&&resOK N (treeOf fun i=>coolL (tng t i)) (leftV x) k))) (andT true ((okT N fun i=>coolL (tng t i))&&decide (N≤71)&&resOK N (treeOf fun i=>coolL (tng t i)) (rightV x) k))) (andT (andT (andT (decide ((resV (treeOf fun i=>coolL (tng t i)) (rightV x)).length=(resV (treeOf fun i=>coolL (tng t i)) (rightV x)).length)&&(decide ((resV (treeOf fun i=>coolL (tng t i)) (rightV x)).length≤(resV (treeOf fun i=>coolL (tng t i)) (rightV x)).length)&&true)) (decide ((resV (treeOf fun i=>coolL (tng t i)) (leftV x)).length=(resV (treeOf fun i=>coolL (tng t i)) (leftV x)).length)&&(decide ((resV (treeOf fun i=>coolL (tng t i)) (leftV x)).length≤(resV (treeOf fun i=>coolL (tng t i)) (leftV x)).length)&&true))) (decide ((resV (treeOf fun i=>coolL (tng t i)) (leftV x)).length=(resV (treeOf fun i=>coolL (tng t i)) (leftV x)).length))) (decide ((resV (treeOf fun i=>coolL (tng t i)) (leftV x)).length+(resV (treeOf fun i=>coolL (tng t i)) (rightV x)).length≤2^38)))):=by kernel_rfl
theorem resL_used {t:Nat→Nod} {k x:Nat} (h:(t x).used=true):resL t k x=((x:Nat):Int)::(t x).un.map (2* ·):=by
 cases k<;>(unfold resL;rw [h];rfl)
theorem resL_zero {t:Nat→Nod} {x:Nat} (h:(t x).used=false):resL t 0 x=[]:=by unfold resL;rw [h];rfl
theorem resL_succ {t:Nat→Nod} {k x:Nat} (h:(t x).used=false):resL t (k+1) x=resL t k (x-2^k)++resL t k (x+2^k):=by rw [resL,h];rfl
def kidB (n x:Nat):Bool:=match lvN 7 x with
 |0=>leftV ((x:Nat):Int)==-1&&rightV ((x:Nat):Int)==-1
 |k+1=>leftV ((x:Nat):Int)==((x-2^k:Nat):Int)&&rightV ((x:Nat):Int)==((x+2^k:Nat):Int)&&decide (x-2^k<2*n-1)&&decide (x+2^k<2*n-1)&&lvN 7 (x-2^k)==k&&lvN 7 (x+2^k)==k&&decide (2^k≤x)
theorem kid_all:(sizes.all fun n=>(List.range (2*n-1)).all fun x=>kidB n x)=true:=by decide+kernel
theorem kid_zero {n x:Nat} (hn:n∈sizes) (hx:x<2*n-1) (hk:lvN 7 x=0):leftV (x:Int)=-1∧rightV (x:Int)=-1:=by
 have h:=List.all_eq_true.1 (List.all_eq_true.1 kid_all n hn) x (List.mem_range.2 hx)
 unfold kidB at h
 rw [hk] at h
 simpa using h
theorem kid_succ {n x k:Nat} (hn:n∈sizes) (hx:x<2*n-1) (hk:lvN 7 x=k+1):leftV (x:Int)=((x-2^k:Nat):Int)∧rightV (x:Int)=((x+2^k:Nat):Int)∧x-2^k<2*n-1∧x+2^k<2*n-1∧lvN 7 (x-2^k)=k∧lvN 7 (x+2^k)=k∧2^k≤x:=by
 have h:=List.all_eq_true.1 (List.all_eq_true.1 kid_all n hn) x (List.mem_range.2 hx)
 unfold kidB at h
 rw [hk] at h
 simp only [Bool.and_eq_true,beq_iff_eq,decide_eq_true_eq] at h
 obtain ⟨⟨⟨⟨⟨⟨h1,h2⟩,h3⟩,h4⟩,h5⟩,h6⟩,h7⟩:=h
 exact ⟨h1,h2,h3,h4,h5,h6,h7⟩
theorem un_of {N:Nat} {t:Nat→Nod} (h:unB N t=true) {x:Nat} (hx:x<N):(t x).un.length≤64∧∀u∈(t x).un,0≤u∧u<64:=by
 have g:=List.all_eq_true.1 h x (List.mem_range.2 hx)
 simp only [Bool.and_eq_true,decide_eq_true_eq,List.all_eq_true] at g
 exact g
theorem resL_len {N:Nat} {t:Nat→Nod} {n:Nat} (hu:unB N t=true) (hn:n∈sizes) (hN:N=2*n-1):∀(k x:Nat),x<N→lvN 7 x=k→(resL t k x).length≤65*2^k:=by
 intro k
 induction k with
 |zero=>
  intro x hx hk
  cases h:(t x).used with
  |true=>rw [resL_used h];have:=(un_of hu hx).1;simp;omega
  |false=>rw [resL_zero h];simp
 |succ k ih=>
  intro x hx hk
  cases h:(t x).used with
  |true=>
   rw [resL_used h];have:=(un_of hu hx).1
   have:1≤2^(k+1):=Nat.one_le_two_pow
   simp;omega
  |false=>
   obtain ⟨_,_,h3,h4,h5,h6,_⟩:=kid_succ hn (hN▸hx) hk
   rw [resL_succ h,List.length_append]
   have a:=ih _ (by omega) h5
   have b:=ih _ (by omega) h6
   rw [Nat.pow_succ];omega
theorem lvN_le:∀f x,lvN f x≤f:=by
 intro f
 induction f with
 |zero=>intro x;exact Nat.le_refl _
 |succ f ih=>intro x;unfold lvN;split<;>(have:=ih (x/2);omega)
theorem getD_map {l:List Int} {j:Nat} (h:j<l.length):(l.take j).map (2* ·)++[2*l.getD j 0]=(l.take (j+1)).map (2* ·):=by
 rw [List.take_add_one,List.getElem?_eq_getElem h,List.map_append,getD_get h];rfl
section
variable {N n k:Nat} {t:Nat→Nod} {x:Nat}
theorem rv_used (ih:ResFn k) (hT:TOK N t) (hu:unB N t=true) (hx:x<N) (h:(t x).used=true):
  FnTr Tryz.prog 148 [.rol false 99 N (tng t),.int .i64 x] [] (.sl 0 0 0 1 (resV t x).length (resV t x).length false true) [.b [.ints .i64 (resV t x).length (resV t x)]]:=by
 obtain ⟨hl,hr⟩:=un_of hu hx
 have hR:resV t x=(x:Int)::(t x).un.map (2* ·):=resL_used h
 have hlen:(resV t x).length=1+(t x).un.length:=by rw [hR,List.length_cons,List.length_map];omega
 have hin:inB (x:Int) N=true:=inBN hx
 rw [hlen,hR]
 refine FnTr.mk (vs:=[.sl 0 0 0 1 (1+(t x).un.length) (1+(t x).un.length) false true]) Tryz.func148 rfl (x:=.ret) (s:=⟨slotsOf 48 [(5,.sl 0 0 0 1 (1+(t x).un.length) (1+(t x).un.length) false true),(33,.sl 0 0 0 1 (1+(t x).un.length) (1+(t x).un.length) false true),(4,.sl 0 0 0 1 (1+(t x).un.length) (1+(t x).un.length) false true)],[.b [.ints .i64 (1+(t x).un.length) ((x:Int)::(t x).un.map (2* ·))]],true⟩) ?_ (.inl rfl) (by kernel_rfl)
 refine TrL.itemsX (rvC_ok k ih [(14,true)]) 60 2 _ 0 (Nat.le_refl _) (s1:=rv0 N t x) _ (rv_head N t x k ih) (rv_head' N t x k ih) (by rw [Int.toNat_natCast,hin,decide_eq_true hx,show (t x).1=true from h];rfl) (by decide) rfl ?_
 refine TrL.leave 2 (by decide) (by simp) ?_
 rw [show nthC 2 (bodyOf Tryz.f148)= .cond (.tmp 14) rvA .skip by kernel_rfl]
 refine Tr.cond_true rfl (Tr.of_atoms ?_)
 have em:=rv_mid N t x k ih
 rw [Int.toNat_natCast] at em
 refine TrL.itemsX (rvC_ok k ih []) 60 2 _ 1 (Nat.zero_le _) (s1:=rvS (t x).un [(x:Int)] 1 true 0) _ em (rv_mid' N t x k ih) (by rw [Int.toNat_natCast,hin,decide_eq_true hx];rfl) (by decide) rfl ?_
 refine TrL.pre (s1:=rvS (t x).un ((x:Int)::((t x).un.take 0).map (2* ·)) (1+0) false ((0:Nat):Int)) ?_ ?_ (by intro q;cases q)
 ·refine TrL.item 2 (by decide) (s1:=⟨slotsOf 48 [(5,.sl 0 0 0 1 (1+(t x).un.length) (1+(t x).un.length) false true)],[.b [.ints .i64 (1+(t x).un.length) ((x:Int)::(t x).un.map (2* ·))]],true⟩) (Tr.loop 0 (by kernel_rfl) (fun j=>rvS (t x).un ((x:Int)::((t x).un.take j).map (2* ·)) (1+j) false ((j:Nat):Int)) (t x).un.length (fun j hj=>?_) ?_) ?_
  ·have e:=rv_one (t x).un ((x:Int)::((t x).un.take j).map (2* ·)) (1+j) j k ih
   have hg:=hr ((t x).un.getD j 0) (by rw [getD_get hj];exact List.getElem_mem hj)
   rw [Int.toNat_natCast,wrapI (by omega) (by omega),wrapS (by omega),List.cons_append,getD_map hj,show 1+j+1=1+(j+1) by omega] at e
   refine Tr.cutX (rvC_ok k ih [(24,true)]) 60 _ 1 (Nat.zero_le _) (s':=rvS (t x).un ((x:Int)::((t x).un.take (j+1)).map (2* ·)) (1+(j+1)) false ((j+1:Nat):Int)) _ e (rv_one' _ _ _ _ k ih) ?_
   rw [ltN hj,inBN hj,Int.toNat_natCast,decide_eq_true hj,decide_eq_true (Nat.le_refl (1+j)),decide_eq_true (show ((x:Int)::((t x).un.take j).map (2* ·)).length=1+j by simp;omega),decide_eq_true (show 1+j+1≤2^38 by omega)]
   rfl
  ·have e:=rv_end (t x).un ((x:Int)::((t x).un.take (t x).un.length).map (2* ·)) (1+(t x).un.length) (t x).un.length k ih
   rw [List.take_length] at e
   rw [List.take_length]
   exact Tr.cutX (rvC_ok k ih [(24,false)]) 60 _ 1 (Nat.zero_le _) _ e (rv_end' (t x).un ((x:Int)::(t x).un.map (2* ·)) (1+(t x).un.length) (t x).un.length k ih) (by rw [nltN (Nat.le_refl _)];rfl)
  ·exact TrL.rest (rvC_ok k ih []) 60 (by kernel_rfl) rfl
 ·exact Ent.slot (t:=(rvS (t x).un [(x:Int)] 1 true 0).t) 5 (v:=.sl 0 0 0 1 1 1 true true) rfl (VE.anyCap 0 0 0 1 1 1 true)
theorem treeN_iff {N:Nat} (h:treeN N=true):∃n∈sizes,N=2*n-1:=by
 obtain ⟨n,hn,q⟩:=List.any_eq_true.1 h
 exact ⟨n,hn,of_decide_eq_true q⟩
theorem resOK_mk (hu:unB N t=true) (ht:treeN N=true) {y:Nat} (hy:y<N) (hk:lvN 7 y<k):resOK N t (y:Int) k=true:=by
 unfold resOK
 rw [hu,ht,Int.toNat_natCast,decide_eq_true hk,decide_eq_true (show (y:Int)<N by omega),decide_eq_true (show (0:Int)≤y by omega)];rfl
theorem resolve_fn:∀k,ResFn k:=by
 intro k
 induction k with
 |zero=>
  intro N t x hT h
  simp [resOK] at h
 |succ k ih=>
  intro N t x hT h
  unfold resOK at h
  simp only [Bool.and_eq_true,decide_eq_true_eq] at h
  obtain ⟨⟨⟨⟨hu,ht⟩,h0⟩,hx⟩,hk⟩:=h
  obtain ⟨y,rfl⟩:=Int.eq_ofNat_of_zero_le h0
  rw [Int.toNat_natCast] at hk
  have hx:y<N:=by omega
  obtain ⟨n,hn,hN⟩:=treeN_iff ht
  have hs:=sizes_le hn
  have hin:inB (y:Int) N=true:=inBN hx
  cases hus:(t y).used with
  |true=>exact rv_used ih hT hu hx hus
  |false=>
   cases hl:lvN 7 y with
   |zero=>
    have hV:resV t (y:Int)=[]:=by unfold resV;rw [Int.toNat_natCast,hl];exact resL_zero hus
    rw [hV]
    refine FnTr.nilBlk (h1:=[]) (call0 (rvC_ok k ih [(14,false),(40,true)]) 60 Tryz.func148 (rv_nil N t y k ih) ?_ rfl) .i64 false true
    rw [Int.toNat_natCast,hin,decide_eq_true hx,show (t y).1=false from hus,(kid_zero hn (hN▸hx) hl).1,decide_eq_true (show (0:Int)≤y by omega),decide_eq_true (show (y:Int)<64 by omega)]
    rfl
   |succ j=>
    obtain ⟨h1,h2,h3,h4,h5,h6,h7⟩:=kid_succ hn (hN▸hx) hl
    have hV:resV t (y:Int)=resV t ((y-2^j:Nat):Int)++resV t ((y+2^j:Nat):Int):=by
     unfold resV;rw [Int.toNat_natCast,Int.toNat_natCast,Int.toNat_natCast,hl,h5,h6];exact resL_succ hus
    have l1:=resL_len hu hn hN j (y-2^j) (by omega) h5
    have l2:=resL_len hu hn hN j (y+2^j) (by omega) h6
    have hj:2^j≤2^7:=Nat.pow_le_pow_right (by decide) (by have:=lvN_le 7 y;omega)
    have e1:resV t ((y-2^j:Nat):Int)=resL t j (y-2^j):=by unfold resV;rw [Int.toNat_natCast,h5]
    have e2:resV t ((y+2^j:Nat):Int)=resL t j (y+2^j):=by unfold resV;rw [Int.toNat_natCast,h6]
    have hok:okT N (fun i=>coolL (tng t i))=true:=okT_tng hT
    have e:=rv_rec N t y k ih
    rw [h1,h2] at e
    rw [hV,List.length_append]
    refine FnTr.sel (v:=.sl 0 0 0 1 ((resV t ((y-2^j:Nat):Int)).length+(resV t ((y+2^j:Nat):Int)).length) ((resV t ((y-2^j:Nat):Int)).length+(resV t ((y+2^j:Nat):Int)).length) false true) (h1:=[.b [.ints .i64 ((resV t ((y-2^j:Nat):Int)).length+(resV t ((y+2^j:Nat):Int)).length) (resV t ((y-2^j:Nat):Int)++resV t ((y+2^j:Nat):Int))],.b [.ints .i64 (resV t ((y+2^j:Nat):Int)).length (resV t ((y+2^j:Nat):Int))]]) [0] ?_ rfl
    refine FnTr.of_callS (rvC_ok k ih [(14,false),(40,false)]) Tryz.func148 (n:=60) (e.trans ?_)
    have r1:resOK N (treeOf fun i=>coolL (tng t i)) ((y-2^j:Nat):Int) k=true:=resOK_mk (t:=t) hu ht (by omega) (by omega)
    have r2:resOK N (treeOf fun i=>coolL (tng t i)) ((y+2^j:Nat):Int) k=true:=resOK_mk (t:=t) hu ht (by omega) (by omega)
    have q:∀x:Int,resV (treeOf fun i=>coolL (tng t i)) x=resV t x:=fun _=>rfl
    rw [Int.toNat_natCast,hin,decide_eq_true hx,show (t y).1=false from hus,decide_eq_true (show (0:Int)≤y by omega),decide_eq_true (show (y:Int)<64 by omega),hok,decide_eq_true hT.le,r1,r2,decide_eq_false (show ¬((y-2^j:Nat):Int)<0 by omega),q,q]
    rw [decide_eq_true (Nat.le_refl _),decide_eq_true (Nat.le_refl _),decide_eq_true (Eq.refl (resV t ((y-2^j:Nat):Int)).length),decide_eq_true (Eq.refl (resV t ((y+2^j:Nat):Int)).length),decide_eq_true (show (resV t ((y-2^j:Nat):Int)).length+(resV t ((y+2^j:Nat):Int)).length≤2^38 by rw [e1,e2];omega)]
    rfl
end
end Go.Proofs.YthlnlcijnoadcaaGreatDoor.Tr
