/- This file holds the texts TtC, TtF, TtG, TtH, a section each. No conditions beyond those in the theorems. -/
import Derived.Test.YthlnlcijnoadcaaGreatDoorDTtB
set_option linter.all false
set_option maxRecDepth 100000
section
namespace Go.Proofs.YthlnlcijnoadcaaGreatDoor.Tr
open Go Go.Sy
section
variable {N:Nat} {t:Nat→Nod} {x:Int}
end
end Go.Proofs.YthlnlcijnoadcaaGreatDoor.Tr
end
section
namespace Go.Proofs.YthlnlcijnoadcaaGreatDoor.Tr
open Go Go.Sy
noncomputable def rbC (l:List (Nat×Bool)):Ctr:=mk (P:=Tryz.prog) [rNodeE true,rAboveE] [] (uT l)
theorem rbC_ok (l:List (Nat×Bool)):CtrSound Tryz.prog (rbC l):=mk_sound _ InlOK.nil _ _
noncomputable def rbB:Code:=bodyOf Tryz.f43
noncomputable def rbS (x n f l i:Int):St:=⟨slotsOf 30 [(0,.int .i64 x),(1,.int .i64 n),(6,.int .i64 f),(7,.int .i64 l),(8,.int .i64 i)],[],true⟩
theorem rb_head (x n:Int):resX (cutR [0,1,6,7,8] 0 ((execL Tryz.prog (rbC []) 60 0 4 (atoms rbB) ⟨slots0 Tryz.f43.ntmps [.int .i64 x,.int .i64 n],[],true⟩).map fun s=>(Exit.normal,s)))=some (.normal,(rbS x n (-1) (-1) 0).t,[]):=by kernel_rfl
theorem rb_head' (x n:Int):obX (cutR [0,1,6,7,8] 0 ((execL Tryz.prog (rbC []) 60 0 4 (atoms rbB) ⟨slots0 Tryz.f43.ntmps [.int .i64 x,.int .i64 n],[],true⟩).map fun s=>(Exit.normal,s)))=(true):=by kernel_rfl
theorem rb_no (x n f l i:Int):resX (cutR [0,1,6,7,8] 0 (exec Tryz.prog (rbC [(11,true),(23,false)]) 60 0 (inner (inner (nthC 4 rbB))) (rbS x n f l i)))=some (.normal,(rbS x n f l (IntKind.i64.wrap (i+1))).t,[]):=by kernel_rfl
theorem rb_no' (x n f l i:Int):obX (cutR [0,1,6,7,8] 0 (exec Tryz.prog (rbC [(11,true),(23,false)]) 60 0 (inner (inner (nthC 4 rbB))) (rbS x n f l i)))=(andT (andT (andT (andT true (decide (i<n))) (andT true (sizeB n&&nodeB x n==true))) (andT true (decide (0≤n)&&nodeB x n&&nodeB (IntKind.i64.wrap (2*i)) n))) !abvB x (IntKind.i64.wrap (2*i)) n.toNat):=by kernel_rfl
theorem rb_in (x n f l i:Int):resX (cutR [0,1,6,7,8] 0 (exec Tryz.prog (rbC [(11,true),(23,true),(25,true)]) 60 0 (inner (inner (nthC 4 rbB))) (rbS x n f l i)))=some (.normal,(rbS x n i i (IntKind.i64.wrap (i+1))).t,[]):=by kernel_rfl
theorem rb_in' (x n f l i:Int):obX (cutR [0,1,6,7,8] 0 (exec Tryz.prog (rbC [(11,true),(23,true),(25,true)]) 60 0 (inner (inner (nthC 4 rbB))) (rbS x n f l i)))=(andT (andT (andT (andT (andT true (decide (i<n))) (andT true (sizeB n&&nodeB x n==true))) (andT true (decide (0≤n)&&nodeB x n&&nodeB (IntKind.i64.wrap (2*i)) n))) (abvB x (IntKind.i64.wrap (2*i)) n.toNat)) (decide (f<0))):=by kernel_rfl
theorem rb_on (x n f l i:Int):resX (cutR [0,1,6,7,8] 0 (exec Tryz.prog (rbC [(11,true),(23,true),(25,false)]) 60 0 (inner (inner (nthC 4 rbB))) (rbS x n f l i)))=some (.normal,(rbS x n f i (IntKind.i64.wrap (i+1))).t,[]):=by kernel_rfl
theorem rb_on' (x n f l i:Int):obX (cutR [0,1,6,7,8] 0 (exec Tryz.prog (rbC [(11,true),(23,true),(25,false)]) 60 0 (inner (inner (nthC 4 rbB))) (rbS x n f l i)))=(andT (andT (andT (andT (andT true (decide (i<n))) (andT true (sizeB n&&nodeB x n==true))) (andT true (decide (0≤n)&&nodeB x n&&nodeB (IntKind.i64.wrap (2*i)) n))) (abvB x (IntKind.i64.wrap (2*i)) n.toNat)) !decide (f<0)):=by kernel_rfl
theorem rb_end (x n f l i:Int):resX (cutR [6,7] 0 (exec Tryz.prog (rbC [(11,false)]) 60 0 (inner (inner (nthC 4 rbB))) (rbS x n f l i)))=some (.exit 0,slotsOf 30 [(6,.int .i64 f),(7,.int .i64 l)],[]):=by kernel_rfl
theorem rb_end' (x n f l i:Int):obX (cutR [6,7] 0 (exec Tryz.prog (rbC [(11,false)]) 60 0 (inner (inner (nthC 4 rbB))) (rbS x n f l i)))=(andT true !decide (i<n)):=by kernel_rfl
theorem below_two:(sizes.all fun n=>(List.range (2*n-1)).all fun x=>decide (0≤firstV (x:Nat))&&decide (firstV (x:Nat)≤lastV (x:Nat))&&decide (lastV (x:Nat)<n))=true:=by decide+kernel
theorem below_at {x:Int} {n:Nat} (h:nodeB x n=true):0≤firstV x∧firstV x≤lastV x∧lastV x<n:=by
 obtain ⟨m,hm,y,h1,rfl,hy⟩:=nodeB_iff h
 have:n=m:=by omega
 subst this
 have h:=List.all_eq_true.1 (List.all_eq_true.1 below_two n hm) y (List.mem_range.2 hy)
 simp only [Bool.and_eq_true,decide_eq_true_eq] at h
 omega
theorem abv_at {x:Int} {n i:Nat} (h:nodeB x n=true) (hi:i<n):abvB x (2*(i:Int)) n=(decide (firstV x≤(i:Int))&&decide ((i:Int)≤lastV x)):=by
 obtain ⟨m,hm,y,h1,rfl,hy⟩:=nodeB_iff h
 have:n=m:=by omega
 subst this
 have h:=List.all_eq_true.1 (List.all_eq_true.1 (List.all_eq_true.1 abv_all n hm) y (List.mem_range.2 hy)) i (List.mem_range.2 hi)
 exact eq_of_beq h
def bwF (x:Int) (i:Nat):Int:=if (i:Int)≤firstV x then-1 else firstV x
def bwL (x:Int) (i:Nat):Int:=if (i:Int)≤firstV x then-1 else if (i:Int)≤lastV x then (i:Int)-1 else lastV x
theorem rBelow_fn {x:Int} {n:Nat} (h:nodeB x n=true):FnTr Tryz.prog 43 [.int .i64 x,.int .i64 ((n:Nat):Int)] [] (.tup [.int .i64 (firstV x),.int .i64 (lastV x)]) []:=by
 obtain ⟨b1,b2,b3⟩:=below_at h
 have hn:n∈sizes:=by obtain ⟨m,hm,y,h1,_,_⟩:=nodeB_iff h;rwa [show n=m by omega]
 have hs:=sizes_le hn
 have e0:bwF x 0=-1:=if_pos b1
 have e1:bwL x 0=-1:=if_pos b1
 have eN:bwF x n=firstV x:=if_neg (by omega)
 have eM:bwL x n=lastV x:=by unfold bwL;rw [if_neg (by omega),if_neg (by omega)]
 refine FnTr.toEnd (h:=[]) Tryz.func43 rfl 4 0 (fun i=>rbS x n (bwF x i) (bwL x i) ((i:Nat):Int)) n
  (fun y s' g=>TrL.itemsX (rbC_ok []) 60 4 _ 0 (Nat.zero_le _) (s1:=rbS x n (bwF x 0) (bwL x 0) ((0:Nat):Int)) _ (by rw [e0,e1];exact rb_head x n) (rb_head' x n) rfl (by decide) rfl g) (by decide) (by kernel_rfl)
  (fun i hi=>?_) (sE:=⟨slotsOf 30 [(6,.int .i64 (firstV x)),(7,.int .i64 (lastV x))],[],true⟩) (s':=⟨slotsOf 30 [(6,.int .i64 (firstV x)),(7,.int .i64 (lastV x)),(28,.int .i64 (firstV x)),(29,.int .i64 (lastV x)),(4,.int .i64 (firstV x)),(5,.int .i64 (lastV x))],[],true⟩) (x:=.ret) (v:=[.int .i64 (firstV x),.int .i64 (lastV x)]) ?_ ?_ (.inl rfl) (by kernel_rfl)
 ·have hw:IntKind.i64.wrap ((i:Int)+1)=((i+1:Nat):Int):=wrapS (by omega)
  have hw2:IntKind.i64.wrap (2*(i:Int))=2*(i:Int):=wrapI (by omega) (by omega)
  have hz:sizeB (n:Int)=true:=List.any_eq_true.2 ⟨n,hn,decide_eq_true rfl⟩
  have hn0:decide ((0:Int)≤(n:Int))=true:=decide_eq_true (by omega)
  have hl:nodeB (2*(i:Int)) n=true:=leaf_node hn (by omega) (by omega)
  have ha:=abv_at h hi
  have q0:decide ((i:Int)<(n:Int))=true:=decide_eq_true (by omega)
  by_cases c1:(i:Int)<firstV x
  ·have e:=rb_no x n (bwF x i) (bwL x i) i
   have f1:bwF x i=bwF x (i+1):=by unfold bwF;rw [if_pos (by omega),if_pos (by omega)]
   have f2:bwL x i=bwL x (i+1):=by unfold bwL;rw [if_pos (by omega),if_pos (by omega)]
   rw [hw,f1,f2] at e
   rw [f1,f2]
   exact Tr.cutX (rbC_ok [(11,true),(23,false)]) 60 _ 0 (Nat.zero_le _) _ e (rb_no' x n _ _ i) (by rw [hw2,q0,hz,h,hl,hn0,Int.toNat_natCast,ha,decide_eq_false (show ¬firstV x≤(i:Int) by omega)];rfl)
  ·by_cases c2:(i:Int)≤lastV x
   ·have f2:bwL x (i+1)=(i:Int):=by unfold bwL;rw [if_neg (by omega)];split<;>omega
    by_cases c3:(i:Int)=firstV x
    ·have e:=rb_in x n (bwF x i) (bwL x i) i
     have f1:bwF x (i+1)=(i:Int):=by unfold bwF;rw [if_neg (by omega)];exact c3.symm
     rw [hw] at e
     rw [f1,f2]
     exact Tr.cutX (rbC_ok [(11,true),(23,true),(25,true)]) 60 _ 0 (Nat.zero_le _) _ e (rb_in' x n _ _ i) (by rw [hw2,q0,hz,h,hl,hn0,Int.toNat_natCast,ha,decide_eq_true (show firstV x≤(i:Int) by omega),decide_eq_true c2,show bwF x i=-1 from if_pos (by omega)];rfl)
    ·have e:=rb_on x n (bwF x i) (bwL x i) i
     have f1:bwF x i=bwF x (i+1):=by unfold bwF;rw [if_neg (by omega),if_neg (by omega)]
     rw [hw] at e
     rw [f2, ←f1]
     exact Tr.cutX (rbC_ok [(11,true),(23,true),(25,false)]) 60 _ 0 (Nat.zero_le _) _ e (rb_on' x n _ _ i) (by rw [hw2,q0,hz,h,hl,hn0,Int.toNat_natCast,ha,decide_eq_true (show firstV x≤(i:Int) by omega),decide_eq_true c2,show bwF x i=firstV x from if_neg (by omega),decide_eq_false (show ¬firstV x<0 by omega)];rfl)
   ·have e:=rb_no x n (bwF x i) (bwL x i) i
    have f1:bwF x i=bwF x (i+1):=by unfold bwF;rw [if_neg (by omega),if_neg (by omega)]
    have f2:bwL x i=bwL x (i+1):=by unfold bwL;rw [if_neg (by omega),if_neg (by omega),if_neg (by omega),if_neg (by omega)]
    rw [hw,f1,f2] at e
    rw [f1,f2]
    exact Tr.cutX (rbC_ok [(11,true),(23,false)]) 60 _ 0 (Nat.zero_le _) _ e (rb_no' x n _ _ i) (by rw [hw2,q0,hz,h,hl,hn0,Int.toNat_natCast,ha,decide_eq_false c2,Bool.and_false];rfl)
 ·have e:=rb_end x n (bwF x n) (bwL x n) n
  rw [eN,eM] at e ⊢
  exact Tr.cutX (rbC_ok [(11,false)]) 60 _ 0 (Nat.zero_le _) _ e (rb_end' x n _ _ n) (by rw [decide_eq_false (show ¬(n:Int)<(n:Int) by omega)];rfl)
 ·exact TrL.rest (rbC_ok []) 60 (by kernel_rfl) rfl
noncomputable def rBelowE:Entry Tryz.prog:=.val 43 _ Tryz.func43 (by decide) rfl false 0 (fun vs=>match vs with
 | [.int .i64 x,.int .i64 n]=>some (.tup [.int .i64 (firstV x),.int .i64 (lastV x)],[],decide (0≤n)&&nodeB x n)
 |_=>none) fun vs v new e=>by
 split at e
 ·simp only [Option.some.injEq,Prod.mk.injEq,Bool.and_eq_true,decide_eq_true_eq] at e
  obtain ⟨rfl,rfl,h1,h2⟩:=e
  obtain ⟨m,rfl⟩:=Int.eq_ofNat_of_zero_le h1
  exact rBelow_fn h2
 ·cases e
end Go.Proofs.YthlnlcijnoadcaaGreatDoor.Tr
end
section
namespace Go.Proofs.YthlnlcijnoadcaaGreatDoor.Tr
open Go Go.Sy
end Go.Proofs.YthlnlcijnoadcaaGreatDoor.Tr
end
section
namespace Go.Proofs.YthlnlcijnoadcaaGreatDoor.Tr
open Go Go.Sy
structure NodF (t:Nat→Nod) (n x:Nat):Prop where
 un:∀u∈(t x).un,0≤u∧u<n
 no:(t x).used=false→(t x).un=[]
 ev:x%2=0→(t x).un=[]
 rg:∀u∈(t x).un,firstV (x:Int)≤u∧u≤lastV (x:Int)
 nd:(t x).un.Nodup
section
variable {N n k:Nat} {t:Nat→Nod} {x:Nat}
theorem node_mk {z:Nat} (hn:n∈sizes) (hz:z<2*n-1):nodeB (z:Int) n=true:=List.any_eq_true.2 ⟨n,hn,by simp;omega⟩
end
end Go.Proofs.YthlnlcijnoadcaaGreatDoor.Tr
end
