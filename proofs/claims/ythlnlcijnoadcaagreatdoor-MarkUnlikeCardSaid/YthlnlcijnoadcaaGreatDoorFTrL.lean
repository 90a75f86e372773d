/- This file proves the contract of tree's Check. Conditions: a tree of 71 nodes at most. -/
import Derived.Test.YthlnlcijnoadcaaGreatDoorFTrH
import Derived.Test.YthlnlcijnoadcaaGreatDoorFTrK
set_option linter.all false
set_option maxRecDepth 100000
namespace Go.Proofs.YthlnlcijnoadcaaGreatDoor.Tr
open Go Go.Sy
def seatOK (N:Nat) (x n:Int):Bool:=sizes.any fun m=>decide (n=m)&&decide (N=2*m-1)&&nodeB x m
theorem seatOK_iff {N:Nat} {x n:Int} (h:seatOK N x n=true):∃m∈sizes,n=(m:Int)∧N=2*m-1∧nodeB x m=true:=by
 obtain ⟨m,hm,h⟩:=List.any_eq_true.1 h
 simp only [Bool.and_eq_true,decide_eq_true_eq] at h
 exact ⟨m,hm,h.1.1,h.1.2,h.2⟩
noncomputable def upperF:List SV→Option (SV×List Blk×Bool)
 | [.rol false 99 N g,.int .i64 x,.int .i64 n]=>some (.bool (upperB (treeOf g) x n.toNat),[],okT N g&&seatOK N x n)
 |_=>none
noncomputable def upperE:Entry Tryz.prog:=.val 116 _ Tryz.func116 (by decide) rfl true 0 upperF fun vs v new e=>by
 unfold upperF at e
 split at e
 ·simp only [Option.some.injEq,Prod.mk.injEq,Bool.and_eq_true] at e
  obtain ⟨rfl,rfl,h1,h2⟩:=e
  obtain ⟨m,hm,rfl,hN,hx⟩:=seatOK_iff h2
  exact FnTr.conv (upper_fn (t:=treeOf _) (TOK.of h1 (by have:=sizes_le hm;omega)) hm hN hx) ⟨VE.tree h1,VE.refl _,VE.refl _,trivial⟩ trivial (VE.refl _) trivial
 ·cases e
noncomputable def emptyF:List SV→Option (SV×List Blk×Bool)
 | [.rol false 99 N g,.int .i64 fr]=>some (.bool (emptyB N (treeOf g) fr.toNat),[],okT N g&&decide (N≤71)&&decide (0≤fr)&&decide (fr≤71))
 |_=>none
noncomputable def emptyE:Entry Tryz.prog:=.val 117 _ Tryz.func117 (by decide) rfl true 0 emptyF fun vs v new e=>by
 unfold emptyF at e
 split at e
 ·simp only [Option.some.injEq,Prod.mk.injEq,Bool.and_eq_true,decide_eq_true_eq] at e
  obtain ⟨rfl,rfl,⟨⟨h1,h2⟩,h3⟩,h4⟩:=e
  obtain ⟨y,rfl⟩:=Int.eq_ofNat_of_zero_le h3
  exact FnTr.conv (empty_fn (t:=treeOf _) (fr:=y) (by omega) (by omega)) ⟨VE.tree h1,VE.refl _,trivial⟩ trivial (VE.refl _) trivial
 ·cases e
noncomputable def leafE (b:Bool):Entry Tryz.prog:=.val 115 _ Tryz.func115 (by decide) rfl true 0 (fun vs=>match vs with
 | [.agg [.bool u,.int .i64 n,.ints .u8 32 k,.ints .u8 32 s,.ints .u8 32 p,.ro false .i64 un]]=>some (.bool b,[],lfB u n un==b)
 |_=>none) fun vs v new e=>by
 split at e
 ·simp only [Option.some.injEq,Prod.mk.injEq,beq_iff_eq] at e
  obtain ⟨rfl,rfl,h⟩:=e
  rw [←h]
  exact leaf_fn _ _ _ _ _ _
 ·cases e
noncomputable def leavesE:Entry Tryz.prog:=.val 91 _ Tryz.func91 (by decide) rfl false 0 (fun vs=>match vs with
 | [.int .i64 n]=>some (.int .i64 (leavesV n),[],true)
 |_=>none) fun vs v new e=>by
 split at e
 ·simp only [Option.some.injEq,Prod.mk.injEq] at e
  obtain ⟨rfl,rfl,_⟩:=e
  exact leaves_fn _
 ·cases e
noncomputable def ckC (b:Bool) (l:List (Nat×Bool)):Ctr:=mk (P:=Tryz.prog) [leavesE,leafE b,sameE,upperE,emptyE] [] (uT l)
theorem ckC_ok (b:Bool) (l:List (Nat×Bool)):CtrSound Tryz.prog (ckC b l):=mk_sound _ InlOK.nil _ _
noncomputable def ckB:Code:=bodyOf Tryz.f77
noncomputable def ckR:Code:=sqB (sqB (sqB (sqB ckB)))
noncomputable def ckL:Code:=inner (inner (sqB (sqA ckR)))
noncomputable def ckI:Code:=inner (sqA (sqB (sqB ckL)))
noncomputable def ckJ:Code:=inner (sqA (sqB (sqB ckI)))
noncomputable def ckE:Code:=cdB (sqB ckJ)
noncomputable def ckT:Code:=cdA (sqB ckE)
def errV:SV:=.iface 112 (.int .i64 3)
abbrev trV (N:Nat) (t:Nat→Nod):SV:=.rol false 99 N (tng t)
noncomputable def ckX (N:Nat) (t:Nat→Nod) (n:Int) (m:Nat) (i:Int) (x:List (Nat×SV)) (h:List Blk):St:=⟨slotsOf 60 ([(0,trV N t),(3,.int .i64 n),(4,.nl (.map (some m))),(15,trV N t),(16,.int .i64 N),(17,.int .i64 i)]++x),h,true⟩
noncomputable def ckS (N:Nat) (t:Nat→Nod) (n:Int) (m:Nat) (i:Int):St:=ckX N t n m i [] []
noncomputable def ckN (N:Nat) (t:Nat→Nod) (n:Int) (m:Nat) (i:Int) (x:List (Nat×SV)):St:=ckX N t n m i ([(5,.int .i64 i),(6,.ptr 0 0 0)]++x) [.b (t i.toNat).cells]
noncomputable def ckZ (v:SV):St:=⟨slotsOf 60 [(2,v)],[],true⟩
noncomputable def ckM (N:Nat) (t:Nat→Nod) (n:Int) (x:List (Nat×SV)):St:=⟨slotsOf 60 ([(0,trV N t),(3,.int .i64 n)]++x),[],true⟩
theorem ck_none (N:Nat) (t:Nat→Nod):(callS Tryz.prog (ckC true [(12,true)]) 60 Tryz.f77 [trV N t] []).map (fun x=>(x.1,x.2.2))=some (errV,andT true (leavesV ((N:Nat):Int)==0)):=by kernel_rfl
theorem ck_head (N:Nat) (t:Nat→Nod):resX (cutR [0,3] 0 ((execL Tryz.prog (ckC true [(12,false)]) 60 0 3 [sqA ckB,sqA (sqB ckB),sqA (sqB (sqB ckB))] ⟨slots0 Tryz.f77.ntmps [trV N t],[],true⟩).map fun s=>(Exit.normal,s)))=some (.normal,(ckM N t (leavesV N) []).t,[]):=by kernel_rfl
theorem ck_head' (N:Nat) (t:Nat→Nod):obX (cutR [0,3] 0 ((execL Tryz.prog (ckC true [(12,false)]) 60 0 3 [sqA ckB,sqA (sqB ckB),sqA (sqB (sqB ckB))] ⟨slots0 Tryz.f77.ntmps [trV N t],[],true⟩).map fun s=>(Exit.normal,s)))=(andT true !leavesV ((N:Nat):Int)==0):=by kernel_rfl
theorem ck_mk (N:Nat) (t:Nat→Nod) (n:Int) (m:Nat):resX (cutR [0,3,4] 0 ((runOps Tryz.prog (callG Tryz.prog (ckC true []) fun k=>Sy.exec Tryz.prog (ckC true []) 60 k) (ckC true []).sym (ckC true []).inp 0 (opsOf (sqA (sqB (sqB (sqB ckB))))) [1] ⟨putT (ckM N t n []).t (some 14) (.nl (.map (some m))),[],true⟩).map fun s=>(Exit.normal,s)))=some (.normal,(ckM N t n [(4,.nl (.map (some m)))]).t,[]):=by kernel_rfl
theorem ck_mk' (N:Nat) (t:Nat→Nod) (n:Int) (m:Nat):obX (cutR [0,3,4] 0 ((runOps Tryz.prog (callG Tryz.prog (ckC true []) fun k=>Sy.exec Tryz.prog (ckC true []) 60 k) (ckC true []).sym (ckC true []).inp 0 (opsOf (sqA (sqB (sqB (sqB ckB))))) [1] ⟨putT (ckM N t n []).t (some 14) (.nl (.map (some m))),[],true⟩).map fun s=>(Exit.normal,s)))=(true):=by kernel_rfl
theorem ck_init (N:Nat) (t:Nat→Nod) (n:Int) (m:Nat):resX (cutR [0,3,4,15,16,17] 0 (exec Tryz.prog (ckC true []) 60 0 (sqA (sqA ckR)) (ckM N t n [(4,.nl (.map (some m)))])))=some (.normal,(ckS N t n m 0).t,[]):=by kernel_rfl
theorem ck_init' (N:Nat) (t:Nat→Nod) (n:Int) (m:Nat):obX (cutR [0,3,4,15,16,17] 0 (exec Tryz.prog (ckC true []) 60 0 (sqA (sqA ckR)) (ckM N t n [(4,.nl (.map (some m)))])))=(true):=by kernel_rfl
theorem ck_u1 (N:Nat) (t:Nat→Nod) (n:Int) (m:Nat) (i:Int):resX (cutR [0,3,4,15,16,17] 0 (exec Tryz.prog (ckC true [(18,true),(26,true),(52,false)]) 60 0 ckL (ckS N t n m i)))=some (.normal,(ckS N t n m (IntKind.i64.wrap (i+1))).t,[]):=by kernel_rfl
theorem ck_u1' (N:Nat) (t:Nat→Nod) (n:Int) (m:Nat) (i:Int):obX (cutR [0,3,4,15,16,17] 0 (exec Tryz.prog (ckC true [(18,true),(26,true),(52,false)]) 60 0 ckL (ckS N t n m i)))=(andT (andT (andT (andT (andT (andT true (decide (i<((N:Nat):Int)))) (inB i N)) (true&&(decide (i.toNat<N)&&true))) !(t i.toNat).1) (andT true (lensB (t i.toNat).key (t i.toNat).sign (t i.toNat).par (t i.toNat).un&&true))) !!sameB (t i.toNat).used false (t i.toNat).name 0 (t i.toNat).key (t i.toNat).sign (t i.toNat).par (t i.toNat).un (List.replicate 32 0) (List.replicate 32 0) (List.replicate 32 0) []):=by kernel_rfl
theorem ck_u0 (N:Nat) (t:Nat→Nod) (n:Int) (m:Nat) (i:Int):resX (cutR [2] 0 (exec Tryz.prog (ckC true [(18,true),(26,true),(52,true)]) 60 0 ckL (ckS N t n m i)))=some (.ret,(ckZ errV).t,[]):=by kernel_rfl
theorem ck_u0' (N:Nat) (t:Nat→Nod) (n:Int) (m:Nat) (i:Int):obX (cutR [2] 0 (exec Tryz.prog (ckC true [(18,true),(26,true),(52,true)]) 60 0 ckL (ckS N t n m i)))=(andT (andT (andT (andT (andT (andT true (decide (i<((N:Nat):Int)))) (inB i N)) (true&&(decide (i.toNat<N)&&true))) !(t i.toNat).1) (andT true (lensB (t i.toNat).key (t i.toNat).sign (t i.toNat).par (t i.toNat).un&&true))) !sameB (t i.toNat).used false (t i.toNat).name 0 (t i.toNat).key (t i.toNat).sign (t i.toNat).par (t i.toNat).un (List.replicate 32 0) (List.replicate 32 0) (List.replicate 32 0) []):=by kernel_rfl
theorem ck_p1 (N:Nat) (t:Nat→Nod) (n:Int) (m:Nat) (i:Int):resX (cutR [0,3,4,15,16,17] 0 (exec Tryz.prog (ckC true [(18,true),(26,false),(33,false),(52,false)]) 60 0 ckL (ckS N t n m i)))=some (.normal,(ckS N t n m (IntKind.i64.wrap (i+1))).t,[]):=by kernel_rfl
theorem ck_p1' (N:Nat) (t:Nat→Nod) (n:Int) (m:Nat) (i:Int):obX (cutR [0,3,4,15,16,17] 0 (exec Tryz.prog (ckC true [(18,true),(26,false),(33,false),(52,false)]) 60 0 ckL (ckS N t n m i)))=(andT (andT (andT (andT (andT (andT (andT true (decide (i<((N:Nat):Int)))) (inB i N)) (true&&(decide (i.toNat<N)&&true))) !!(t i.toNat).1) !i.tmod 2==0) (andT true ((okT N fun i=>coolL (tng t i))&&seatOK N i n))) !!upperB (treeOf fun i=>coolL (tng t i)) i n.toNat):=by kernel_rfl
theorem ck_p0 (N:Nat) (t:Nat→Nod) (n:Int) (m:Nat) (i:Int):resX (cutR [2] 0 (exec Tryz.prog (ckC true [(18,true),(26,false),(33,false),(52,true)]) 60 0 ckL (ckS N t n m i)))=some (.ret,(ckZ errV).t,[]):=by kernel_rfl
theorem ck_p0' (N:Nat) (t:Nat→Nod) (n:Int) (m:Nat) (i:Int):obX (cutR [2] 0 (exec Tryz.prog (ckC true [(18,true),(26,false),(33,false),(52,true)]) 60 0 ckL (ckS N t n m i)))=(andT (andT (andT (andT (andT (andT (andT true (decide (i<((N:Nat):Int)))) (inB i N)) (true&&(decide (i.toNat<N)&&true))) !!(t i.toNat).1) !i.tmod 2==0) (andT true ((okT N fun i=>coolL (tng t i))&&seatOK N i n))) !upperB (treeOf fun i=>coolL (tng t i)) i n.toNat):=by kernel_rfl
theorem ck_end (N:Nat) (t:Nat→Nod) (n:Int) (m:Nat) (i:Int):resX (cutR [0,3] 0 (exec Tryz.prog (ckC true [(18,false)]) 60 0 ckL (ckS N t n m i)))=some (.exit 0,(ckM N t n []).t,[]):=by kernel_rfl
theorem ck_end' (N:Nat) (t:Nat→Nod) (n:Int) (m:Nat) (i:Int):obX (cutR [0,3] 0 (exec Tryz.prog (ckC true [(18,false)]) 60 0 ckL (ckS N t n m i)))=(andT true !decide (i<((N:Nat):Int))):=by kernel_rfl
theorem ck_l1 (N:Nat) (t:Nat→Nod) (n:Int) (m:Nat) (i:Int):resX (cutR [0,3,4,15,16,17] 0 ((execL Tryz.prog (ckC true [(18,true)]) 60 0 2 [sqA ckL,sqA (sqB ckL)] (ckS N t n m i)).map fun s=>(Exit.normal,s)))=some (.normal,(ckS N t n m i).t,[]):=by kernel_rfl
theorem ck_l1' (N:Nat) (t:Nat→Nod) (n:Int) (m:Nat) (i:Int):obX (cutR [0,3,4,15,16,17] 0 ((execL Tryz.prog (ckC true [(18,true)]) 60 0 2 [sqA ckL,sqA (sqB ckL)] (ckS N t n m i)).map fun s=>(Exit.normal,s)))=(andT true (decide (i<((N:Nat):Int)))):=by kernel_rfl
theorem ck_l2 (N:Nat) (t:Nat→Nod) (n:Int) (m:Nat) (i:Int):resX (cutR [0,3,4,5,6,15,16,17] 1 ((execL Tryz.prog (ckC true []) 60 0 2 [sqA ckI,sqA (sqB ckI)] (ckS N t n m i)).map fun s=>(Exit.normal,s)))=some (.normal,(ckN N t n m i []).t,[.b (t i.toNat).cells]):=by kernel_rfl
theorem ck_l2' (N:Nat) (t:Nat→Nod) (n:Int) (m:Nat) (i:Int):obX (cutR [0,3,4,5,6,15,16,17] 1 ((execL Tryz.prog (ckC true []) 60 0 2 [sqA ckI,sqA (sqB ckI)] (ckS N t n m i)).map fun s=>(Exit.normal,s)))=(andT (andT true (inB i N)) (true&&(decide (i.toNat<N)&&true))):=by kernel_rfl
theorem ck_l3 (N:Nat) (t:Nat→Nod) (n:Int) (m:Nat) (i:Int):resX (cutR [0,3,4,5,6,15,16,17,26] 1 ((execL Tryz.prog (ckC true []) 60 1 1 [sqA ckJ] (ckN N t n m i [])).map fun s=>(Exit.normal,s)))=some (.normal,(ckN N t n m i [(26,.bool (!(t i.toNat).used))]).t,[.b (t i.toNat).cells]):=by kernel_rfl
theorem ck_l3' (N:Nat) (t:Nat→Nod) (n:Int) (m:Nat) (i:Int):obX (cutR [0,3,4,5,6,15,16,17,26] 1 ((execL Tryz.prog (ckC true []) 60 1 1 [sqA ckJ] (ckN N t n m i [])).map fun s=>(Exit.normal,s)))=(true):=by kernel_rfl
theorem ck_l4 (N:Nat) (t:Nat→Nod) (n:Int) (m:Nat) (i:Int) (b:Bool):resX (cutR [0,3,4,5,6,15,16,17,33] 1 ((execL Tryz.prog (ckC true []) 60 1 1 [sqA ckE] (ckN N t n m i [(26,.bool b)])).map fun s=>(Exit.normal,s)))=some (.normal,(ckN N t n m i [(33,.bool (i.tmod 2==0))]).t,[.b (t i.toNat).cells]):=by kernel_rfl
theorem ck_l4' (N:Nat) (t:Nat→Nod) (n:Int) (m:Nat) (i:Int) (b:Bool):obX (cutR [0,3,4,5,6,15,16,17,33] 1 ((execL Tryz.prog (ckC true []) 60 1 1 [sqA ckE] (ckN N t n m i [(26,.bool b)])).map fun s=>(Exit.normal,s)))=(true):=by kernel_rfl
theorem ck_o1 (N:Nat) (t:Nat→Nod) (n:Int) (m:Nat) (i:Int) (b:Bool):resX (cutR [0,3,4,5,6,15,16,17,37,39] 1 ((runOps Tryz.prog (callG Tryz.prog (ckC true []) fun k=>Sy.exec Tryz.prog (ckC true []) 60 k) (ckC true []).sym (ckC true []).inp 1 (opsOf (sqA ckT)) [0,1,2] (ckN N t n m i [(33,.bool b)])).map fun s=>(Exit.normal,s)))=some (.normal,(ckN N t n m i [(37,.nl (.map (some m))),(39,.int .i64 (t i.toNat).name)]).t,[.b (t i.toNat).cells]):=by kernel_rfl
theorem ck_o1' (N:Nat) (t:Nat→Nod) (n:Int) (m:Nat) (i:Int) (b:Bool):obX (cutR [0,3,4,5,6,15,16,17,37,39] 1 ((runOps Tryz.prog (callG Tryz.prog (ckC true []) fun k=>Sy.exec Tryz.prog (ckC true []) 60 k) (ckC true []).sym (ckC true []).inp 1 (opsOf (sqA ckT)) [0,1,2] (ckN N t n m i [(33,.bool b)])).map fun s=>(Exit.normal,s)))=(true):=by kernel_rfl
theorem ck_o2 (N:Nat) (t:Nat→Nod) (n:Int) (m:Nat) (i y:Int):resX (cutR [0,3,4,5,6,15,16,17,37,39,41] 1 ((runOps Tryz.prog (callG Tryz.prog (ckC true []) fun k=>Sy.exec Tryz.prog (ckC true []) 60 k) (ckC true []).sym (ckC true []).inp 1 (opsOf (sqA ckT)) [4] ⟨putT (ckN N t n m i [(37,.nl (.map (some m))),(39,.int .i64 (t i.toNat).name)]).t (some 40) (.int .i64 y),[.b (t i.toNat).cells],true⟩).map fun s=>(Exit.normal,s)))=some (.normal,(ckN N t n m i [(37,.nl (.map (some m))),(39,.int .i64 (t i.toNat).name),(41,.int .i64 (IntKind.i64.wrap (y+1)))]).t,[.b (t i.toNat).cells]):=by kernel_rfl
theorem ck_o2' (N:Nat) (t:Nat→Nod) (n:Int) (m:Nat) (i y:Int):obX (cutR [0,3,4,5,6,15,16,17,37,39,41] 1 ((runOps Tryz.prog (callG Tryz.prog (ckC true []) fun k=>Sy.exec Tryz.prog (ckC true []) 60 k) (ckC true []).sym (ckC true []).inp 1 (opsOf (sqA ckT)) [4] ⟨putT (ckN N t n m i [(37,.nl (.map (some m))),(39,.int .i64 (t i.toNat).name)]).t (some 40) (.int .i64 y),[.b (t i.toNat).cells],true⟩).map fun s=>(Exit.normal,s)))=(true):=by kernel_rfl
theorem ck_o3 (N:Nat) (t:Nat→Nod) (n:Int) (m:Nat) (i y:Int):resX (cutR [0,3,4,5,6,15,16,17,44,45,47] 1 ((runOps Tryz.prog (callG Tryz.prog (ckC true []) fun k=>Sy.exec Tryz.prog (ckC true []) 60 k) (ckC true []).sym (ckC true []).inp 1 (opsOf (sqB ckT)) [0,1,2,3,4,5] (ckN N t n m i [(37,.nl (.map (some m))),(39,.int .i64 (t i.toNat).name),(41,.int .i64 y)])).map fun s=>(Exit.normal,s)))=some (.normal,(ckN N t n m i [(44,.bool true),(45,.nl (.map (some m))),(47,.int .i64 (t i.toNat).name)]).t,[.b (t i.toNat).cells]):=by kernel_rfl
theorem ck_o3' (N:Nat) (t:Nat→Nod) (n:Int) (m:Nat) (i y:Int):obX (cutR [0,3,4,5,6,15,16,17,44,45,47] 1 ((runOps Tryz.prog (callG Tryz.prog (ckC true []) fun k=>Sy.exec Tryz.prog (ckC true []) 60 k) (ckC true []).sym (ckC true []).inp 1 (opsOf (sqB ckT)) [0,1,2,3,4,5] (ckN N t n m i [(37,.nl (.map (some m))),(39,.int .i64 (t i.toNat).name),(41,.int .i64 y)])).map fun s=>(Exit.normal,s)))=(andT true (andT true (lfB (t i.toNat).used (t i.toNat).name (t i.toNat).un==true))):=by kernel_rfl
theorem ck_o4 (N:Nat) (t:Nat→Nod) (n:Int) (m:Nat) (i y:Int):resX (cutR [0,3,4,5,6,7,15,16,17] 1 ((runOps Tryz.prog (callG Tryz.prog (ckC true []) fun k=>Sy.exec Tryz.prog (ckC true []) 60 k) (ckC true []).sym (ckC true []).inp 1 (opsOf (sqB ckT)) [7,8,9] ⟨putT (ckN N t n m i [(44,.bool true),(45,.nl (.map (some m))),(47,.int .i64 (t i.toNat).name)]).t (some 48) (.int .i64 y),[.b (t i.toNat).cells],true⟩).map fun s=>(Exit.normal,s)))=some (.normal,(ckN N t n m i [(7,.bool (y==1))]).t,[.b (t i.toNat).cells]):=by kernel_rfl
theorem ck_o4' (N:Nat) (t:Nat→Nod) (n:Int) (m:Nat) (i y:Int):obX (cutR [0,3,4,5,6,7,15,16,17] 1 ((runOps Tryz.prog (callG Tryz.prog (ckC true []) fun k=>Sy.exec Tryz.prog (ckC true []) 60 k) (ckC true []).sym (ckC true []).inp 1 (opsOf (sqB ckT)) [7,8,9] ⟨putT (ckN N t n m i [(44,.bool true),(45,.nl (.map (some m))),(47,.int .i64 (t i.toNat).name)]).t (some 48) (.int .i64 y),[.b (t i.toNat).cells],true⟩).map fun s=>(Exit.normal,s)))=(true):=by kernel_rfl
theorem ck_o5 (N:Nat) (t:Nat→Nod) (n:Int) (m:Nat) (i y:Int):resX (cutR [0,3,4,5,6,7,15,16,17] 1 ((runOps Tryz.prog (callG Tryz.prog (ckC false []) fun k=>Sy.exec Tryz.prog (ckC false []) 60 k) (ckC false []).sym (ckC false []).inp 1 (opsOf (sqB ckT)) [0,1,2,3,4,5,6,7,8,9] (ckN N t n m i [(37,.nl (.map (some m))),(39,.int .i64 (t i.toNat).name),(41,.int .i64 y)])).map fun s=>(Exit.normal,s)))=some (.normal,(ckN N t n m i [(7,.bool false)]).t,[.b (t i.toNat).cells]):=by kernel_rfl
theorem ck_o5' (N:Nat) (t:Nat→Nod) (n:Int) (m:Nat) (i y:Int):obX (cutR [0,3,4,5,6,7,15,16,17] 1 ((runOps Tryz.prog (callG Tryz.prog (ckC false []) fun k=>Sy.exec Tryz.prog (ckC false []) 60 k) (ckC false []).sym (ckC false []).inp 1 (opsOf (sqB ckT)) [0,1,2,3,4,5,6,7,8,9] (ckN N t n m i [(37,.nl (.map (some m))),(39,.int .i64 (t i.toNat).name),(41,.int .i64 y)])).map fun s=>(Exit.normal,s)))=(andT true (andT true (lfB (t i.toNat).used (t i.toNat).name (t i.toNat).un==false))):=by kernel_rfl
theorem ck_t1 (N:Nat) (t:Nat→Nod) (n:Int) (m:Nat) (i:Int) (b:Bool):resX (cutR [0,3,4,15,16,17] 0 (exec Tryz.prog (ckC true [(52,false)]) 60 1 (sqB (sqB (sqB ckI))) (ckN N t n m i [(7,.bool b)])))=some (.normal,(ckS N t n m i).t,[]):=by kernel_rfl
theorem ck_t1' (N:Nat) (t:Nat→Nod) (n:Int) (m:Nat) (i:Int) (b:Bool):obX (cutR [0,3,4,15,16,17] 0 (exec Tryz.prog (ckC true [(52,false)]) 60 1 (sqB (sqB (sqB ckI))) (ckN N t n m i [(7,.bool b)])))=(andT true !!b):=by kernel_rfl
theorem ck_t0 (N:Nat) (t:Nat→Nod) (n:Int) (m:Nat) (i:Int) (b:Bool):resX (cutR [2] 0 (exec Tryz.prog (ckC true [(52,true)]) 60 1 (sqB (sqB (sqB ckI))) (ckN N t n m i [(7,.bool b)])))=some (.ret,(ckZ errV).t,[]):=by kernel_rfl
theorem ck_t0' (N:Nat) (t:Nat→Nod) (n:Int) (m:Nat) (i:Int) (b:Bool):obX (cutR [2] 0 (exec Tryz.prog (ckC true [(52,true)]) 60 1 (sqB (sqB (sqB ckI))) (ckN N t n m i [(7,.bool b)])))=(andT true !b):=by kernel_rfl
theorem ck_l5 (N:Nat) (t:Nat→Nod) (n:Int) (m:Nat) (i:Int):resX (cutR [0,3,4,15,16,17] 0 (exec Tryz.prog (ckC true []) 60 0 (sqB (sqB (sqB ckL))) (ckS N t n m i)))=some (.normal,(ckS N t n m (IntKind.i64.wrap (i+1))).t,[]):=by kernel_rfl
theorem ck_l5' (N:Nat) (t:Nat→Nod) (n:Int) (m:Nat) (i:Int):obX (cutR [0,3,4,15,16,17] 0 (exec Tryz.prog (ckC true []) 60 0 (sqB (sqB (sqB ckL))) (ckS N t n m i)))=(true):=by kernel_rfl
theorem ck_z1 (N:Nat) (t:Nat→Nod) (n:Int):resX (cutR [2] 0 (exec Tryz.prog (ckC true [(58,false)]) 60 0 (sqB ckR) (ckM N t n [])))=some (.ret,(ckZ (.nl .nilIface)).t,[]):=by kernel_rfl
theorem ck_z1' (N:Nat) (t:Nat→Nod) (n:Int):obX (cutR [2] 0 (exec Tryz.prog (ckC true [(58,false)]) 60 0 (sqB ckR) (ckM N t n [])))=(andT (andT true (andT true ((okT N fun i=>coolL (tng t i))&&decide (N≤71)&&decide (0≤IntKind.i64.wrap (n.tdiv 2))&&decide (IntKind.i64.wrap (n.tdiv 2)≤71)))) !emptyB N (treeOf fun i=>coolL (tng t i)) (IntKind.i64.wrap (n.tdiv 2)).toNat):=by kernel_rfl
theorem ck_z0 (N:Nat) (t:Nat→Nod) (n:Int):resX (cutR [2] 0 (exec Tryz.prog (ckC true [(58,true)]) 60 0 (sqB ckR) (ckM N t n [])))=some (.ret,(ckZ errV).t,[]):=by kernel_rfl
theorem ck_z0' (N:Nat) (t:Nat→Nod) (n:Int):obX (cutR [2] 0 (exec Tryz.prog (ckC true [(58,true)]) 60 0 (sqB ckR) (ckM N t n [])))=(andT (andT true (andT true ((okT N fun i=>coolL (tng t i))&&decide (N≤71)&&decide (0≤IntKind.i64.wrap (n.tdiv 2))&&decide (IntKind.i64.wrap (n.tdiv 2)≤71)))) (emptyB N (treeOf fun i=>coolL (tng t i)) (IntKind.i64.wrap (n.tdiv 2)).toNat)):=by kernel_rfl
end Go.Proofs.YthlnlcijnoadcaaGreatDoor.Tr
