/- This file proves the contract of the reference's Good. Conditions: a tree of 71 nodes at most. -/
import Derived.Test.YthlnlcijnoadcaaGreatDoorFTsF
set_option linter.all false
set_option maxRecDepth 100000
namespace Go.Proofs.YthlnlcijnoadcaaGreatDoor.Tr
open Go Go.Sy
noncomputable def rLeavesE:Entry Tryz.prog:=.val 44 _ Tryz.func44 (by decide) rfl false 0 (fun vs=>match vs with
 | [.int .i64 n]=>some (.int .i64 (leavesV n),[],decide (0≤n)&&decide (n<72))
 |_=>none) fun vs v new e=>by
 split at e
 ·simp only [Option.some.injEq,Prod.mk.injEq,Bool.and_eq_true,decide_eq_true_eq] at e
  obtain ⟨rfl,rfl,h1,h2⟩:=e
  obtain ⟨m,rfl⟩:=Int.eq_ofNat_of_zero_le h1
  exact rLeaves_fn (by omega)
 ·cases e
noncomputable def rUsedE:Entry Tryz.prog:=.val 57 _ Tryz.func57 (by decide) rfl true 0 (fun vs=>match vs with
 | [.rol false 99 N g,.int .i64 fr]=>some (.bool (!emptyB N (treeOf g) fr.toNat),[],okT N g&&decide (N≤71)&&decide (0≤fr)&&decide (fr≤71))
 |_=>none) fun vs v new e=>by
 split at e
 ·simp only [Option.some.injEq,Prod.mk.injEq,Bool.and_eq_true,decide_eq_true_eq] at e
  obtain ⟨rfl,rfl,⟨⟨h1,h2⟩,h3⟩,h4⟩:=e
  obtain ⟨y,rfl⟩:=Int.eq_ofNat_of_zero_le h3
  exact FnTr.conv (rUsed_fn (t:=treeOf _) (fr:=y) (by omega) (by omega)) ⟨VE.tree h1,VE.refl _,trivial⟩ trivial (VE.refl _) trivial
 ·cases e
def nodLen (a:Nod):Bool:=lensB a.key a.sign a.par a.un
noncomputable def sameNodeE:Entry Tryz.prog:=.val 56 _ Tryz.func56 (by decide) rfl true 0 (fun vs=>match vs with
 | [.agg l,.agg l']=>match nodA l,nodA l' with
  |some a,some b=>some (.bool (nsB a b),[],nodLen a&&nodLen b)
  |_,_=>none
 |_=>none) fun vs v new e=>by
 split at e
 ·split at e
  ·rename_i a b ha hb
   simp only [Option.some.injEq,Prod.mk.injEq,Bool.and_eq_true] at e
   obtain ⟨rfl,rfl,h1,h2⟩:=e
   exact FnTr.conv (sameNode_fn h1 h2) ⟨VE.agg (nodA_ve ha),VE.agg (nodA_ve hb),trivial⟩ trivial (VE.refl _) trivial
  ·cases e
 ·cases e
def lfN (a:Nod):Bool:=lfB a.used a.name a.un
noncomputable def rLeafE:Entry Tryz.prog:=.val 59 _ Tryz.func59 (by decide) rfl true 0 (fun vs=>match vs with
 | [.agg l]=>match nodA l with
  |some a=>some (.bool (lfN a),[],true)
  |none=>none
 |_=>none) fun vs v new e=>by
 split at e
 ·split at e
  ·rename_i a ha
   simp only [Option.some.injEq,Prod.mk.injEq] at e
   obtain ⟨rfl,rfl,_⟩:=e
   exact FnTr.conv (rLeaf_fn a) ⟨VE.agg (nodA_ve ha),trivial⟩ trivial (VE.refl _) trivial
  ·cases e
 ·cases e
noncomputable def rUpperE:Entry Tryz.prog:=.val 58 _ Tryz.func58 (by decide) rfl true 0 (fun vs=>match vs with
 | [.rol false 99 N g,.int .i64 x,.int .i64 n]=>some (.bool (upperQ N (treeOf g) x n.toNat),[],okT N g&&seatOK N x n)
 |_=>none) fun vs v new e=>by
 split at e
 ·simp only [Option.some.injEq,Prod.mk.injEq,Bool.and_eq_true] at e
  obtain ⟨rfl,rfl,h1,h2⟩:=e
  obtain ⟨m,hm,rfl,hN,hx⟩:=seatOK_iff h2
  exact FnTr.conv (rUpper_fn (t:=treeOf _) (TOK.of h1 (by have:=sizes_le hm;omega)) hm hN hx) ⟨VE.tree h1,VE.refl _,VE.refl _,trivial⟩ trivial (VE.refl _) trivial
 ·cases e
noncomputable def rgC (l:List (Nat×Bool)):Ctr:=mk (P:=Tryz.prog) [rLeavesE,rUsedE,sameNodeE,rLeafE,rUpperE] [] (uT l)
theorem rgC_ok (l:List (Nat×Bool)):CtrSound Tryz.prog (rgC l):=mk_sound _ InlOK.nil _ _
noncomputable def rgB:Code:=bodyOf Tryz.f19
noncomputable def rgR:Code:=inner (inner (nthC 5 rgB))
noncomputable def rgI:Code:=inner (nthC 2 rgR)
noncomputable def rgT:Code:=cdA (nthC 5 rgI)
noncomputable def rgJ:Code:=inner (inner (nthC 3 rgT))
noncomputable def rgX (N:Nat) (t:Nat→Nod) (n x:Int) (l:List (Nat×SV)):St:=⟨slotsOf 95 ([(0,.rol false 99 N (tng t)),(3,.int .i64 n),(4,.int .i64 x)]++l),[],true⟩
noncomputable def rgS (N:Nat) (t:Nat→Nod) (n x:Int):St:=rgX N t n x []
noncomputable def rgY (N:Nat) (t:Nat→Nod) (n x y:Int):St:=rgX N t n x [(5,.int .i64 y)]
theorem rg_0 (N:Nat) (t:Nat→Nod):(callS Tryz.prog (rgC [(10,true)]) 60 Tryz.f19 [.rol false 99 N (tng t)] []).map (fun x=>(x.1,x.2.2))=some (.bool false,andT (andT true (andT true (true&&decide (((N:Nat):Int)<72)))) (leavesV ((N:Nat):Int)==0)):=by kernel_rfl
theorem rg_1 (N:Nat) (t:Nat→Nod):(callS Tryz.prog (rgC [(10,false),(15,false)]) 60 Tryz.f19 [.rol false 99 N (tng t)] []).map (fun x=>(x.1,x.2.2))=some (.bool false,andT (andT (andT (andT true (andT true (true&&decide (((N:Nat):Int)<72)))) !leavesV ((N:Nat):Int)==0) (andT true ((okT N fun i=>coolL (tng t i))&&decide (N≤71)&&decide (0≤IntKind.i64.wrap ((leavesV ((N:Nat):Int)).tdiv 2))&&decide (IntKind.i64.wrap ((leavesV ((N:Nat):Int)).tdiv 2)≤71)))) !!emptyB N (treeOf fun i=>coolL (tng t i)) (IntKind.i64.wrap ((leavesV ((N:Nat):Int)).tdiv 2)).toNat):=by kernel_rfl
theorem rg_head (N:Nat) (t:Nat→Nod):resX (cutR [0,3,4] 0 ((execL Tryz.prog (rgC [(10,false),(15,true)]) 60 0 5 (atoms rgB) ⟨slots0 Tryz.f19.ntmps [.rol false 99 N (tng t)],[],true⟩).map fun s=>(Exit.normal,s)))=some (.normal,(rgS N t (leavesV N) 0).t,[]):=by kernel_rfl
theorem rg_head' (N:Nat) (t:Nat→Nod):obX (cutR [0,3,4] 0 ((execL Tryz.prog (rgC [(10,false),(15,true)]) 60 0 5 (atoms rgB) ⟨slots0 Tryz.f19.ntmps [.rol false 99 N (tng t)],[],true⟩).map fun s=>(Exit.normal,s)))=(andT (andT (andT (andT true (andT true (true&&decide (((N:Nat):Int)<72)))) !leavesV ((N:Nat):Int)==0) (andT true ((okT N fun i=>coolL (tng t i))&&decide (N≤71)&&decide (0≤IntKind.i64.wrap ((leavesV ((N:Nat):Int)).tdiv 2))&&decide (IntKind.i64.wrap ((leavesV ((N:Nat):Int)).tdiv 2)≤71)))) !emptyB N (treeOf fun i=>coolL (tng t i)) (IntKind.i64.wrap ((leavesV ((N:Nat):Int)).tdiv 2)).toNat):=by kernel_rfl
theorem rg_end (N:Nat) (t:Nat→Nod) (n x:Int):resX (cutR [] 0 (exec Tryz.prog (rgC [(21,false)]) 60 0 rgR (rgS N t n x)))=some (.exit 0,slotsOf 95 [],[]):=by kernel_rfl
theorem rg_end' (N:Nat) (t:Nat→Nod) (n x:Int):obX (cutR [] 0 (exec Tryz.prog (rgC [(21,false)]) 60 0 rgR (rgS N t n x)))=(andT true !decide (x<((N:Nat):Int))):=by kernel_rfl
theorem rg_u1 (N:Nat) (t:Nat→Nod) (n x:Int):resX (cutR [0,3,4] 0 (exec Tryz.prog (rgC [(21,true),(28,false),(36,true),(43,false),(60,false)]) 60 0 rgR (rgS N t n x)))=some (.normal,(rgS N t n (IntKind.i64.wrap (x+1))).t,[]):=by kernel_rfl
theorem rg_u1' (N:Nat) (t:Nat→Nod) (n x:Int):obX (cutR [0,3,4] 0 (exec Tryz.prog (rgC [(21,true),(28,false),(36,true),(43,false),(60,false)]) 60 0 rgR (rgS N t n x)))=(andT (andT (andT (andT (andT (andT (andT (andT (andT (andT (andT (andT (andT (andT true (decide (x<((N:Nat):Int)))) (inB x N)) (true&&(decide (x.toNat<N)&&true))) !(t x.toNat).1) (inB x N)) (true&&(decide (x.toNat<N)&&true))) (andT true (nodLen {used:=(t x.toNat).used,name:=(t x.toNat).name,key:=(t x.toNat).key,sign:=(t x.toNat).sign,par:=(t x.toNat).par,un:=(t x.toNat).un}&&true))) (nsB {used:=(t x.toNat).used,name:=(t x.toNat).name,key:=(t x.toNat).key,sign:=(t x.toNat).sign,par:=(t x.toNat).par,un:=(t x.toNat).un} {used:=false,name:=0,key:=List.replicate 32 0,sign:=List.replicate 32 0,par:=List.replicate 32 0,un:=[]})) (inB x N)) (true&&(decide (x.toNat<N)&&true))) !(t x.toNat).1) (inB x N)) (true&&(decide (x.toNat<N)&&true))) !(t x.toNat).1):=by kernel_rfl
theorem rg_u0 (N:Nat) (t:Nat→Nod) (n x:Int):resX (cutR [2] 0 (exec Tryz.prog (rgC [(21,true),(28,false),(36,false)]) 60 0 rgR (rgS N t n x)))=some (.ret,(bS 95 2 false).t,[]):=by kernel_rfl
theorem rg_u0' (N:Nat) (t:Nat→Nod) (n x:Int):obX (cutR [2] 0 (exec Tryz.prog (rgC [(21,true),(28,false),(36,false)]) 60 0 rgR (rgS N t n x)))=(andT (andT (andT (andT (andT (andT (andT (andT true (decide (x<((N:Nat):Int)))) (inB x N)) (true&&(decide (x.toNat<N)&&true))) !(t x.toNat).1) (inB x N)) (true&&(decide (x.toNat<N)&&true))) (andT true (nodLen {used:=(t x.toNat).used,name:=(t x.toNat).name,key:=(t x.toNat).key,sign:=(t x.toNat).sign,par:=(t x.toNat).par,un:=(t x.toNat).un}&&true))) !nsB {used:=(t x.toNat).used,name:=(t x.toNat).name,key:=(t x.toNat).key,sign:=(t x.toNat).sign,par:=(t x.toNat).par,un:=(t x.toNat).un} {used:=false,name:=0,key:=List.replicate 32 0,sign:=List.replicate 32 0,par:=List.replicate 32 0,un:=[]}):=by kernel_rfl
theorem rg_p1 (N:Nat) (t:Nat→Nod) (n x:Int):resX (cutR [0,3,4] 0 (exec Tryz.prog (rgC [(21,true),(28,true),(43,true),(47,true),(53,true),(60,true),(64,false)]) 60 0 rgR (rgS N t n x)))=some (.normal,(rgS N t n (IntKind.i64.wrap (x+1))).t,[]):=by kernel_rfl
theorem rg_p1' (N:Nat) (t:Nat→Nod) (n x:Int):obX (cutR [0,3,4] 0 (exec Tryz.prog (rgC [(21,true),(28,true),(43,true),(47,true),(53,true),(60,true),(64,false)]) 60 0 rgR (rgS N t n x)))=(andT (andT (andT (andT (andT (andT (andT (andT (andT (andT (andT (andT (andT (andT true (decide (x<((N:Nat):Int)))) (inB x N)) (true&&(decide (x.toNat<N)&&true))) (t x.toNat).1) (inB x N)) (true&&(decide (x.toNat<N)&&true))) (t x.toNat).1) (x.tmod 2==1)) (andT true ((okT N fun i=>coolL (tng t i))&&seatOK N x n))) (upperQ N (treeOf fun i=>coolL (tng t i)) x n.toNat)) (inB x N)) (true&&(decide (x.toNat<N)&&true))) (t x.toNat).1) !x.tmod 2==0):=by kernel_rfl
theorem rg_p0 (N:Nat) (t:Nat→Nod) (n x:Int):resX (cutR [2] 0 (exec Tryz.prog (rgC [(21,true),(28,true),(43,true),(47,true),(53,false)]) 60 0 rgR (rgS N t n x)))=some (.ret,(bS 95 2 false).t,[]):=by kernel_rfl
theorem rg_p0' (N:Nat) (t:Nat→Nod) (n x:Int):obX (cutR [2] 0 (exec Tryz.prog (rgC [(21,true),(28,true),(43,true),(47,true),(53,false)]) 60 0 rgR (rgS N t n x)))=(andT (andT (andT (andT (andT (andT (andT (andT (andT (andT true (decide (x<((N:Nat):Int)))) (inB x N)) (true&&(decide (x.toNat<N)&&true))) (t x.toNat).1) (inB x N)) (true&&(decide (x.toNat<N)&&true))) (t x.toNat).1) (x.tmod 2==1)) (andT true ((okT N fun i=>coolL (tng t i))&&seatOK N x n))) !upperQ N (treeOf fun i=>coolL (tng t i)) x n.toNat):=by kernel_rfl
theorem rg_in (N:Nat) (t:Nat→Nod) (n x:Int):resX (cutR [0,3,4] 0 ((execL Tryz.prog (rgC [(21,true)]) 60 0 2 (atoms rgR) (rgS N t n x)).map fun s=>(Exit.normal,s)))=some (.normal,(rgS N t n x).t,[]):=by kernel_rfl
theorem rg_in' (N:Nat) (t:Nat→Nod) (n x:Int):obX (cutR [0,3,4] 0 ((execL Tryz.prog (rgC [(21,true)]) 60 0 2 (atoms rgR) (rgS N t n x)).map fun s=>(Exit.normal,s)))=(andT true (decide (x<((N:Nat):Int)))):=by kernel_rfl
theorem rg_nx (N:Nat) (t:Nat→Nod) (n x:Int):resX (cutR [0,3,4] 0 (exec Tryz.prog (rgC []) 60 0 (nthC 3 rgR) (rgS N t n x)))=some (.normal,(rgS N t n (IntKind.i64.wrap (x+1))).t,[]):=by kernel_rfl
theorem rg_nx' (N:Nat) (t:Nat→Nod) (n x:Int):obX (cutR [0,3,4] 0 (exec Tryz.prog (rgC []) 60 0 (nthC 3 rgR) (rgS N t n x)))=(true):=by kernel_rfl
theorem rg_l (N:Nat) (t:Nat→Nod) (n x:Int):resX (cutR [0,3,4,65] 0 ((execL Tryz.prog (rgC [(28,true),(43,true),(47,false),(60,true),(64,true)]) 60 0 5 (atoms rgI) (rgS N t n x)).map fun s=>(Exit.normal,s)))=some (.normal,(rgX N t n x [(65,.bool true)]).t,[]):=by kernel_rfl
theorem rg_l' (N:Nat) (t:Nat→Nod) (n x:Int):obX (cutR [0,3,4,65] 0 ((execL Tryz.prog (rgC [(28,true),(43,true),(47,false),(60,true),(64,true)]) 60 0 5 (atoms rgI) (rgS N t n x)).map fun s=>(Exit.normal,s)))=(andT (andT (andT (andT (andT (andT (andT (andT (andT (andT (andT true (inB x N)) (true&&(decide (x.toNat<N)&&true))) (t x.toNat).1) (inB x N)) (true&&(decide (x.toNat<N)&&true))) (t x.toNat).1) !x.tmod 2==1) (inB x N)) (true&&(decide (x.toNat<N)&&true))) (t x.toNat).1) (x.tmod 2==0)):=by kernel_rfl
theorem rg_l1 (N:Nat) (t:Nat→Nod) (n x:Int):resX (cutR [0,3,4,5] 0 ((execL Tryz.prog (rgC [(70,true)]) 60 0 3 (atoms rgT) (rgX N t n x [(65,.bool true)])).map fun s=>(Exit.normal,s)))=some (.normal,(rgY N t n x 0).t,[]):=by kernel_rfl
theorem rg_l1' (N:Nat) (t:Nat→Nod) (n x:Int):obX (cutR [0,3,4,5] 0 ((execL Tryz.prog (rgC [(70,true)]) 60 0 3 (atoms rgT) (rgX N t n x [(65,.bool true)])).map fun s=>(Exit.normal,s)))=(andT (andT (andT true (inB x N)) (true&&(decide (x.toNat<N)&&true))) (lfN {used:=(t x.toNat).used,name:=(t x.toNat).name,key:=(t x.toNat).key,sign:=(t x.toNat).sign,par:=(t x.toNat).par,un:=(t x.toNat).un})):=by kernel_rfl
theorem rg_l0 (N:Nat) (t:Nat→Nod) (n x:Int):resX (cutR [2] 0 (exec Tryz.prog (rgC [(70,false)]) 60 0 rgT (rgX N t n x [(65,.bool true)])))=some (.ret,(bS 95 2 false).t,[]):=by kernel_rfl
theorem rg_l0' (N:Nat) (t:Nat→Nod) (n x:Int):obX (cutR [2] 0 (exec Tryz.prog (rgC [(70,false)]) 60 0 rgT (rgX N t n x [(65,.bool true)])))=(andT (andT (andT true (inB x N)) (true&&(decide (x.toNat<N)&&true))) !lfN {used:=(t x.toNat).used,name:=(t x.toNat).name,key:=(t x.toNat).key,sign:=(t x.toNat).sign,par:=(t x.toNat).par,un:=(t x.toNat).un}):=by kernel_rfl
theorem rg_ja (N:Nat) (t:Nat→Nod) (n x y:Int):resX (cutR [0,3,4,5] 0 (exec Tryz.prog (rgC [(74,true),(81,false)]) 60 0 rgJ (rgY N t n x y)))=some (.normal,(rgY N t n x (IntKind.i64.wrap (y+2))).t,[]):=by kernel_rfl
theorem rg_ja' (N:Nat) (t:Nat→Nod) (n x y:Int):obX (cutR [0,3,4,5] 0 (exec Tryz.prog (rgC [(74,true),(81,false)]) 60 0 rgJ (rgY N t n x y)))=(andT (andT (andT (andT true (decide (y<x))) (inB y N)) (true&&(decide (y.toNat<N)&&true))) !(t y.toNat).1):=by kernel_rfl
theorem rg_jb (N:Nat) (t:Nat→Nod) (n x y:Int):resX (cutR [0,3,4,5] 0 (exec Tryz.prog (rgC [(74,true),(81,true),(93,false)]) 60 0 rgJ (rgY N t n x y)))=some (.normal,(rgY N t n x (IntKind.i64.wrap (y+2))).t,[]):=by kernel_rfl
theorem rg_jb' (N:Nat) (t:Nat→Nod) (n x y:Int):obX (cutR [0,3,4,5] 0 (exec Tryz.prog (rgC [(74,true),(81,true),(93,false)]) 60 0 rgJ (rgY N t n x y)))=(andT (andT (andT (andT (andT (andT (andT (andT (andT true (decide (y<x))) (inB y N)) (true&&(decide (y.toNat<N)&&true))) (t y.toNat).1) (inB y N)) (true&&(decide (y.toNat<N)&&true))) (inB x N)) (true&&(decide (x.toNat<N)&&true))) !(t y.toNat).name==(t x.toNat).name):=by kernel_rfl
theorem rg_jx (N:Nat) (t:Nat→Nod) (n x y:Int):resX (cutR [2] 0 (exec Tryz.prog (rgC [(74,true),(81,true),(93,true)]) 60 0 rgJ (rgY N t n x y)))=some (.ret,(bS 95 2 false).t,[]):=by kernel_rfl
theorem rg_jx' (N:Nat) (t:Nat→Nod) (n x y:Int):obX (cutR [2] 0 (exec Tryz.prog (rgC [(74,true),(81,true),(93,true)]) 60 0 rgJ (rgY N t n x y)))=(andT (andT (andT (andT (andT (andT (andT (andT (andT true (decide (y<x))) (inB y N)) (true&&(decide (y.toNat<N)&&true))) (t y.toNat).1) (inB y N)) (true&&(decide (y.toNat<N)&&true))) (inB x N)) (true&&(decide (x.toNat<N)&&true))) ((t y.toNat).name==(t x.toNat).name)):=by kernel_rfl
theorem rg_jz (N:Nat) (t:Nat→Nod) (n x y:Int):resX (cutR [0,3,4] 0 (exec Tryz.prog (rgC [(74,false)]) 60 0 rgJ (rgY N t n x y)))=some (.exit 2,(rgS N t n x).t,[]):=by kernel_rfl
theorem rg_jz' (N:Nat) (t:Nat→Nod) (n x y:Int):obX (cutR [0,3,4] 0 (exec Tryz.prog (rgC [(74,false)]) 60 0 rgJ (rgY N t n x y)))=(andT true !decide (y<x)):=by kernel_rfl
end Go.Proofs.YthlnlcijnoadcaaGreatDoor.Tr
