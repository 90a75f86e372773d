/- This file holds the texts MbD, MbE, MbF, MbG, a section each. No conditions beyond those in the theorems. -/
import Derived.Test.YthlnlcijnoadcaaGreatDoorEMbC
import Derived.Test.YthlnlcijnoadcaaGreatDoorEMkL
set_option linter.all false
set_option maxRecDepth 100000
section
namespace Go.Proofs.YthlnlcijnoadcaaGreatDoor.Mk
open Go Go.Sy Tr Wi S2
theorem rresF_fn {N:Nat} {t:Nat→Nod} {x:Int} (hT:TOK N t) (h:resOK N t x 8=true):FnTr Tryz.prog 74 [.rol false 99 N (tng t),.int .i64 x] [] (.ro true .i64 (resV t x)) []:=
 FnTr.frozenI (rResolve_fn 8 N t x hT h) rfl
noncomputable def rresFE:Entry Tryz.prog:=.val 74 _ Tryz.func74 (by decide) rfl true 0 (fun vs=>match vs with
 | [.rol false 99 N g,.int .i64 x]=>some (.ro true .i64 (resV (treeOf g) x),[],okT N g&&decide (N≤71)&&resOK N (treeOf g) x 8)
 |_=>none) fun vs v new e=>by
 split at e
 ·simp only [Option.some.injEq,Prod.mk.injEq,Bool.and_eq_true,decide_eq_true_eq] at e
  obtain ⟨rfl,rfl,⟨h1,h2⟩,h3⟩:=e
  exact FnTr.conv (rresF_fn (TOK.of h1 h2) h3) ⟨VE.tree h1,VE.refl _,trivial⟩ trivial (VE.refl _) trivial
 ·cases e
noncomputable def rbC (b:Bool) (l:List (Nat×Bool)):Ctr:=mk (P:=Tryz.prog) [goodE b,rLeavesE,rChildrenE,rresFE,rMarkE,rInE,rAboveE] [] (uT l)
theorem rbC_ok (b:Bool) (l:List (Nat×Bool)):CtrSound Tryz.prog (rbC b l):=mk_sound _ InlOK.nil _ _
noncomputable def rbB:Code:=bodyOf Tryz.f30
noncomputable def cX:Code:=inner (inner (nthC 5 rbB))
noncomputable def cX1:Code:=inner (nthC 2 cX)
noncomputable def cS:Code:=inner (inner (nthC 5 cX1))
noncomputable def cS3:Code:=inner (nthC 2 cS)
noncomputable def cK:Code:=inner (inner (nthC 5 cS3))
noncomputable def cK5:Code:=inner (nthC 2 cK)
noncomputable def cJ:Code:=inner (inner (nthC 4 cK5))
noncomputable def cI:Code:=inner (inner (nthC 6 cK5))
noncomputable def cI9:Code:=inner (nthC 2 cI)
noncomputable def cM:Code:=inner (inner (nthC 5 cI9))
noncomputable def sX (N:Nat) (t:Nat→Nod) (n x:Int):St:=⟨slotsOf 157 [(0,.rol false 99 N (tng t)),(3,.int .i64 n),(4,.int .i64 x)],[],true⟩
noncomputable def sS (N:Nat) (t:Nat→Nod) (n x l r:Int) (b:Bool) (s:Int):St:=⟨slotsOf 157 [(0,.rol false 99 N (tng t)),(3,.int .i64 n),(4,.int .i64 x),(5,.int .i64 l),(6,.int .i64 r),(7,.bool b),(8,.int .i64 s)],[],true⟩
noncomputable def sK (N:Nat) (t:Nat→Nod) (n x l r:Int) (b:Bool) (s c:Int) (L:List Int) (k:Int):St:=⟨slotsOf 157 [(0,.rol false 99 N (tng t)),(3,.int .i64 n),(4,.int .i64 x),(5,.int .i64 l),(6,.int .i64 r),(7,.bool b),(8,.int .i64 s),(9,.int .i64 c),(10,.ro true .i64 L),(11,.int .i64 k)],[],true⟩
noncomputable def sJ (N:Nat) (t:Nat→Nod) (n x l r:Int) (b:Bool) (s c:Int) (L:List Int) (k:Int) (q:Bool) (j:Int):St:=⟨slotsOf 157 [(0,.rol false 99 N (tng t)),(3,.int .i64 n),(4,.int .i64 x),(5,.int .i64 l),(6,.int .i64 r),(7,.bool b),(8,.int .i64 s),(9,.int .i64 c),(10,.ro true .i64 L),(11,.int .i64 k),(12,.bool q),(13,.int .i64 j)],[],true⟩
noncomputable def sI (N:Nat) (t:Nat→Nod) (n x l r:Int) (b:Bool) (s c:Int) (L:List Int) (k:Int) (q:Bool) (j:Int):St:=⟨slotsOf 157 [(0,.rol false 99 N (tng t)),(3,.int .i64 n),(4,.int .i64 x),(5,.int .i64 l),(6,.int .i64 r),(7,.bool b),(8,.int .i64 s),(9,.int .i64 c),(10,.ro true .i64 L),(11,.int .i64 k),(12,.bool q),(14,.int .i64 j)],[],true⟩
noncomputable def sM (N:Nat) (t:Nat→Nod) (n x l r:Int) (b:Bool) (s c:Int) (L:List Int) (k:Int) (q:Bool) (j i:Int) (f:Bool) (m:Int):St:=⟨slotsOf 157 [(0,.rol false 99 N (tng t)),(3,.int .i64 n),(4,.int .i64 x),(5,.int .i64 l),(6,.int .i64 r),(7,.bool b),(8,.int .i64 s),(9,.int .i64 c),(10,.ro true .i64 L),(11,.int .i64 k),(12,.bool q),(14,.int .i64 j),(15,.int .i64 i),(16,.bool f),(17,.int .i64 m)],[],true⟩
theorem rb_no (N:Nat) (t:Nat→Nod):(callS Tryz.prog (rbC false []) 60 Tryz.f30 [.rol false 99 N (tng t)] []).map (fun x=>(x.1,x.2.2))=some (.bool false,andT true (andT true ((okT N fun i=>coolL (tng t i))&&decide (N≤71)&&goodQ N (treeOf fun i=>coolL (tng t i))==false))):=by kernel_rfl
theorem rb_h (N:Nat) (t:Nat→Nod):resX (cutR [0,3,4] 0 ((execL Tryz.prog (rbC true []) 60 0 5 (atoms rbB) ⟨slots0 Tryz.f30.ntmps [.rol false 99 N (tng t)],[],true⟩).map fun s=>(Exit.normal,s)))=some (.normal,(sX N t (leavesV ((N:Nat):Int)) 1).t,[]):=by kernel_rfl
theorem rb_h' (N:Nat) (t:Nat→Nod):obX (cutR [0,3,4] 0 ((execL Tryz.prog (rbC true []) 60 0 5 (atoms rbB) ⟨slots0 Tryz.f30.ntmps [.rol false 99 N (tng t)],[],true⟩).map fun s=>(Exit.normal,s)))=(andT (andT true (andT true ((okT N fun i=>coolL (tng t i))&&decide (N≤71)&&goodQ N (treeOf fun i=>coolL (tng t i))==true))) (andT true (true&&decide (((N:Nat):Int)<72)))):=by kernel_rfl
theorem rx_0 (N:Nat) (t:Nat→Nod) (n x:Int):resX (cutR [0,3,4] 0 (exec Tryz.prog (rbC true [(27,true),(35,true)]) 60 0 cX (sX N t n x)))=some (.normal,(sX N t n (IntKind.i64.wrap (x+2))).t,[]):=by kernel_rfl
theorem rx_0' (N:Nat) (t:Nat→Nod) (n x:Int):obX (cutR [0,3,4] 0 (exec Tryz.prog (rbC true [(27,true),(35,true)]) 60 0 cX (sX N t n x)))=(andT (andT (andT (andT true (decide (x<((N:Nat):Int)))) (inB x N)) (true&&(decide (x.toNat<N)&&true))) !(t x.toNat).1):=by kernel_rfl
theorem rx_a (N:Nat) (t:Nat→Nod) (n x:Int):resX (cutR [0,3,4] 0 ((execL Tryz.prog (rbC true [(27,true)]) 60 0 2 (atoms cX) (sX N t n x)).map fun s=>(Exit.normal,s)))=some (.normal,(sX N t n x).t,[]):=by kernel_rfl
theorem rx_a' (N:Nat) (t:Nat→Nod) (n x:Int):obX (cutR [0,3,4] 0 ((execL Tryz.prog (rbC true [(27,true)]) 60 0 2 (atoms cX) (sX N t n x)).map fun s=>(Exit.normal,s)))=(andT true (decide (x<((N:Nat):Int)))):=by kernel_rfl
theorem rx_b (N:Nat) (t:Nat→Nod) (n x:Int):resX (cutR [0,3,4,5,6,7,8] 0 ((execL Tryz.prog (rbC true [(35,false)]) 60 0 5 (atoms cX1) (sX N t n x)).map fun s=>(Exit.normal,s)))=some (.normal,(sS N t n x (leftV x) (rightV x) false 0).t,[]):=by kernel_rfl
theorem rx_b' (N:Nat) (t:Nat→Nod) (n x:Int):obX (cutR [0,3,4,5,6,7,8] 0 ((execL Tryz.prog (rbC true [(35,false)]) 60 0 5 (atoms cX1) (sX N t n x)).map fun s=>(Exit.normal,s)))=(andT (andT (andT (andT true (inB x N)) (true&&(decide (x.toNat<N)&&true))) !!(t x.toNat).1) (andT true (decide (0≤x)&&decide (x<64)))):=by kernel_rfl
theorem rx_c (N:Nat) (t:Nat→Nod) (n x:Int) (l r:Int) (s:Int):resX (cutR [0,3,4] 0 (execA Tryz.prog (rbC true []) 60 0 ((atoms cX1).drop 6) (sS N t n x l r true s)))=some (.normal,(sX N t n x).t,[]):=by kernel_rfl
theorem rx_c' (N:Nat) (t:Nat→Nod) (n x:Int) (l r:Int) (s:Int):obX (cutR [0,3,4] 0 (execA Tryz.prog (rbC true []) 60 0 ((atoms cX1).drop 6) (sS N t n x l r true s)))=(true):=by kernel_rfl
theorem rx_r (N:Nat) (t:Nat→Nod) (n x:Int) (l r:Int) (s:Int):resX (cutR [2] 0 (execA Tryz.prog (rbC true []) 60 0 ((atoms cX1).drop 6) (sS N t n x l r false s)))=some (.ret,slotsOf 157 [(2,.bool false)],[]):=by kernel_rfl
theorem rx_r' (N:Nat) (t:Nat→Nod) (n x:Int) (l r:Int) (s:Int):obX (cutR [2] 0 (execA Tryz.prog (rbC true []) 60 0 ((atoms cX1).drop 6) (sS N t n x l r false s)))=(true):=by kernel_rfl
theorem rx_d (N:Nat) (t:Nat→Nod) (n x:Int):resX (cutR [0,3,4] 0 (execA Tryz.prog (rbC true []) 60 0 ((atoms cX).drop 3) (sX N t n x)))=some (.normal,(sX N t n (IntKind.i64.wrap (x+2))).t,[]):=by kernel_rfl
theorem rx_d' (N:Nat) (t:Nat→Nod) (n x:Int):obX (cutR [0,3,4] 0 (execA Tryz.prog (rbC true []) 60 0 ((atoms cX).drop 3) (sX N t n x)))=(true):=by kernel_rfl
theorem rx_e (N:Nat) (t:Nat→Nod) (n x:Int):resX (cutR [] 0 (exec Tryz.prog (rbC true [(27,false)]) 60 0 cX (sX N t n x)))=some (.exit 0,slotsOf 157 [],[]):=by kernel_rfl
theorem rx_e' (N:Nat) (t:Nat→Nod) (n x:Int):obX (cutR [] 0 (exec Tryz.prog (rbC true [(27,false)]) 60 0 cX (sX N t n x)))=(andT true !decide (x<((N:Nat):Int))):=by kernel_rfl
theorem rs_a0 (N:Nat) (t:Nat→Nod) (n x:Int) (l r:Int) (b:Bool):resX (cutR [0,3,4,5,6,7,8] 0 ((execL Tryz.prog (rbC true []) 60 0 2 (atoms cS) (sS N t n x l r b 0)).map fun s=>(Exit.normal,s)))=some (.normal,(sS N t n x l r b 0).t,[]):=by kernel_rfl
theorem rs_a0' (N:Nat) (t:Nat→Nod) (n x:Int) (l r:Int) (b:Bool):obX (cutR [0,3,4,5,6,7,8] 0 ((execL Tryz.prog (rbC true []) 60 0 2 (atoms cS) (sS N t n x l r b 0)).map fun s=>(Exit.normal,s)))=(true):=by kernel_rfl
theorem rs_b0 (N:Nat) (t:Nat→Nod) (n x:Int) (l r:Int) (b:Bool):resX (cutR [0,3,4,5,6,7,8,9,10,11] 0 ((execL Tryz.prog (rbC true []) 60 0 5 (atoms cS3) (sS N t n x l r b 0)).map fun s=>(Exit.normal,s)))=some (.normal,(sK N t n x l r b 0 l (resV t l) 0).t,[]):=by kernel_rfl
theorem rs_b0' (N:Nat) (t:Nat→Nod) (n x:Int) (l r:Int) (b:Bool):obX (cutR [0,3,4,5,6,7,8,9,10,11] 0 ((execL Tryz.prog (rbC true []) 60 0 5 (atoms cS3) (sS N t n x l r b 0)).map fun s=>(Exit.normal,s)))=(andT true (andT true ((okT N fun i=>coolL (tng t i))&&decide (N≤71)&&resOK N (treeOf fun i=>coolL (tng t i)) l 8))):=by kernel_rfl
theorem rs_c0 (N:Nat) (t:Nat→Nod) (n x:Int) (l r:Int) (b:Bool):resX (cutR [0,3,4,5,6,7,8] 0 (execA Tryz.prog (rbC true []) 60 0 ((atoms cS).drop 3) (sS N t n x l r b 0)))=some (.normal,(sS N t n x l r b 1).t,[]):=by kernel_rfl
theorem rs_c0' (N:Nat) (t:Nat→Nod) (n x:Int) (l r:Int) (b:Bool):obX (cutR [0,3,4,5,6,7,8] 0 (execA Tryz.prog (rbC true []) 60 0 ((atoms cS).drop 3) (sS N t n x l r b 0)))=(true):=by kernel_rfl
theorem rs_a1 (N:Nat) (t:Nat→Nod) (n x:Int) (l r:Int) (b:Bool):resX (cutR [0,3,4,5,6,7,8] 0 ((execL Tryz.prog (rbC true []) 60 0 2 (atoms cS) (sS N t n x l r b 1)).map fun s=>(Exit.normal,s)))=some (.normal,(sS N t n x l r b 1).t,[]):=by kernel_rfl
theorem rs_a1' (N:Nat) (t:Nat→Nod) (n x:Int) (l r:Int) (b:Bool):obX (cutR [0,3,4,5,6,7,8] 0 ((execL Tryz.prog (rbC true []) 60 0 2 (atoms cS) (sS N t n x l r b 1)).map fun s=>(Exit.normal,s)))=(true):=by kernel_rfl
theorem rs_b1 (N:Nat) (t:Nat→Nod) (n x:Int) (l r:Int) (b:Bool):resX (cutR [0,3,4,5,6,7,8,9,10,11] 0 ((execL Tryz.prog (rbC true []) 60 0 5 (atoms cS3) (sS N t n x l r b 1)).map fun s=>(Exit.normal,s)))=some (.normal,(sK N t n x l r b 1 r (resV t r) 0).t,[]):=by kernel_rfl
theorem rs_b1' (N:Nat) (t:Nat→Nod) (n x:Int) (l r:Int) (b:Bool):obX (cutR [0,3,4,5,6,7,8,9,10,11] 0 ((execL Tryz.prog (rbC true []) 60 0 5 (atoms cS3) (sS N t n x l r b 1)).map fun s=>(Exit.normal,s)))=(andT true (andT true ((okT N fun i=>coolL (tng t i))&&decide (N≤71)&&resOK N (treeOf fun i=>coolL (tng t i)) r 8))):=by kernel_rfl
theorem rs_c1 (N:Nat) (t:Nat→Nod) (n x:Int) (l r:Int) (b:Bool):resX (cutR [0,3,4,5,6,7,8] 0 (execA Tryz.prog (rbC true []) 60 0 ((atoms cS).drop 3) (sS N t n x l r b 1)))=some (.normal,(sS N t n x l r b 2).t,[]):=by kernel_rfl
theorem rs_c1' (N:Nat) (t:Nat→Nod) (n x:Int) (l r:Int) (b:Bool):obX (cutR [0,3,4,5,6,7,8] 0 (execA Tryz.prog (rbC true []) 60 0 ((atoms cS).drop 3) (sS N t n x l r b 1)))=(true):=by kernel_rfl
theorem rs_e (N:Nat) (t:Nat→Nod) (n x:Int) (l r:Int) (b:Bool):resX (cutR [0,3,4,5,6,7,8] 0 (exec Tryz.prog (rbC true []) 60 0 cS (sS N t n x l r b 2)))=some (.exit 2,(sS N t n x l r b 2).t,[]):=by kernel_rfl
theorem rs_e' (N:Nat) (t:Nat→Nod) (n x:Int) (l r:Int) (b:Bool):obX (cutR [0,3,4,5,6,7,8] 0 (exec Tryz.prog (rbC true []) 60 0 cS (sS N t n x l r b 2)))=(true):=by kernel_rfl
theorem rk_0 (N:Nat) (t:Nat→Nod) (n x:Int) (l r:Int) (b:Bool) (s c:Int) (L:List Int) (k:Int):resX (cutR [0,3,4,5,6,7,8,9,10,11] 0 (exec Tryz.prog (rbC true [(55,true),(70,true)]) 60 0 cK (sK N t n x l r b s c L k)))=some (.normal,(sK N t n x l r b s c L (IntKind.i64.wrap (k+1))).t,[]):=by kernel_rfl
theorem rk_0' (N:Nat) (t:Nat→Nod) (n x:Int) (l r:Int) (b:Bool) (s c:Int) (L:List Int) (k:Int):obX (cutR [0,3,4,5,6,7,8,9,10,11] 0 (exec Tryz.prog (rbC true [(55,true),(70,true)]) 60 0 cK (sK N t n x l r b s c L k)))=(andT (andT (andT (andT (andT (andT (andT (andT true (decide (k<((L.length:Nat):Int)))) (inB k L.length)) (decide (k.toNat<L.length))) (inB (L.getD k.toNat 0) N)) (true&&(decide ((L.getD k.toNat 0).toNat<N)&&true))) (andT true ((okT N fun i=>coolL (tng t i))&&decide (N≤71)&&mkQ N (treeOf fun i=>coolL (tng t i)) x c&&bytT N (treeOf fun i=>coolL (tng t i))))) (andT (decide ((t (L.getD k.toNat 0).toNat).par.length=32)) (decide ((markW (treeOf fun i=>coolL (tng t i)) x (leftV x+rightV x-c)).length=32)))) !decide ((t (L.getD k.toNat 0).toNat).par=markW (treeOf fun i=>coolL (tng t i)) x (leftV x+rightV x-c))):=by kernel_rfl
theorem rk_a (N:Nat) (t:Nat→Nod) (n x:Int) (l r:Int) (b:Bool) (s c:Int) (L:List Int) (k:Int):resX (cutR [0,3,4,5,6,7,8,9,10,11] 0 ((execL Tryz.prog (rbC true [(55,true)]) 60 0 2 (atoms cK) (sK N t n x l r b s c L k)).map fun s=>(Exit.normal,s)))=some (.normal,(sK N t n x l r b s c L k).t,[]):=by kernel_rfl
theorem rk_a' (N:Nat) (t:Nat→Nod) (n x:Int) (l r:Int) (b:Bool) (s c:Int) (L:List Int) (k:Int):obX (cutR [0,3,4,5,6,7,8,9,10,11] 0 ((execL Tryz.prog (rbC true [(55,true)]) 60 0 2 (atoms cK) (sK N t n x l r b s c L k)).map fun s=>(Exit.normal,s)))=(andT true (decide (k<((L.length:Nat):Int)))):=by kernel_rfl
theorem rk_b (N:Nat) (t:Nat→Nod) (n x:Int) (l r:Int) (b:Bool) (s c:Int) (L:List Int) (k:Int):resX (cutR [0,3,4,5,6,7,8,9,10,11,12,13] 0 ((execL Tryz.prog (rbC true [(70,false)]) 60 0 4 (atoms cK5) (sK N t n x l r b s c L k)).map fun s=>(Exit.normal,s)))=some (.normal,(sJ N t n x l r b s c L k true 0).t,[]):=by kernel_rfl
theorem rk_b' (N:Nat) (t:Nat→Nod) (n x:Int) (l r:Int) (b:Bool) (s c:Int) (L:List Int) (k:Int):obX (cutR [0,3,4,5,6,7,8,9,10,11,12,13] 0 ((execL Tryz.prog (rbC true [(70,false)]) 60 0 4 (atoms cK5) (sK N t n x l r b s c L k)).map fun s=>(Exit.normal,s)))=(andT (andT (andT (andT (andT (andT (andT true (inB k L.length)) (decide (k.toNat<L.length))) (inB (L.getD k.toNat 0) N)) (true&&(decide ((L.getD k.toNat 0).toNat<N)&&true))) (andT true ((okT N fun i=>coolL (tng t i))&&decide (N≤71)&&mkQ N (treeOf fun i=>coolL (tng t i)) x c&&bytT N (treeOf fun i=>coolL (tng t i))))) (andT (decide ((t (L.getD k.toNat 0).toNat).par.length=32)) (decide ((markW (treeOf fun i=>coolL (tng t i)) x (leftV x+rightV x-c)).length=32)))) !!decide ((t (L.getD k.toNat 0).toNat).par=markW (treeOf fun i=>coolL (tng t i)) x (leftV x+rightV x-c))):=by kernel_rfl
theorem rk_c (N:Nat) (t:Nat→Nod) (n x:Int) (l r:Int) (b:Bool) (s c:Int) (L:List Int) (k:Int) (q:Bool) (j:Int):resX (cutR [0,3,4,5,6,7,8,9,10,11,12,14] 0 ((execL Tryz.prog (rbC true []) 60 0 1 ((atoms cK5).drop 5) (sJ N t n x l r b s c L k q j)).map fun s=>(Exit.normal,s)))=some (.normal,(sI N t n x l r b s c L k q 0).t,[]):=by kernel_rfl
theorem rk_c' (N:Nat) (t:Nat→Nod) (n x:Int) (l r:Int) (b:Bool) (s c:Int) (L:List Int) (k:Int) (q:Bool) (j:Int):obX (cutR [0,3,4,5,6,7,8,9,10,11,12,14] 0 ((execL Tryz.prog (rbC true []) 60 0 1 ((atoms cK5).drop 5) (sJ N t n x l r b s c L k q j)).map fun s=>(Exit.normal,s)))=(true):=by kernel_rfl
theorem rk_dt (N:Nat) (t:Nat→Nod) (n x:Int) (l r:Int) (s c:Int) (L:List Int) (k:Int) (q:Bool) (j:Int):resX (cutR [0,3,4,5,6,7,8,9,10,11] 0 (execA Tryz.prog (rbC true []) 60 0 ((atoms cK5).drop 7) (sI N t n x l r true s c L k q j)))=some (.normal,(sK N t n x l r true s c L k).t,[]):=by kernel_rfl
theorem rk_dt' (N:Nat) (t:Nat→Nod) (n x:Int) (l r:Int) (s c:Int) (L:List Int) (k:Int) (q:Bool) (j:Int):obX (cutR [0,3,4,5,6,7,8,9,10,11] 0 (execA Tryz.prog (rbC true []) 60 0 ((atoms cK5).drop 7) (sI N t n x l r true s c L k q j)))=(true):=by kernel_rfl
theorem rk_df (N:Nat) (t:Nat→Nod) (n x:Int) (l r:Int) (s c:Int) (L:List Int) (k:Int) (q:Bool) (j:Int):resX (cutR [0,3,4,5,6,7,8,9,10,11] 0 (execA Tryz.prog (rbC true []) 60 0 ((atoms cK5).drop 7) (sI N t n x l r false s c L k q j)))=some (.normal,(sK N t n x l r q s c L k).t,[]):=by kernel_rfl
theorem rk_df' (N:Nat) (t:Nat→Nod) (n x:Int) (l r:Int) (s c:Int) (L:List Int) (k:Int) (q:Bool) (j:Int):obX (cutR [0,3,4,5,6,7,8,9,10,11] 0 (execA Tryz.prog (rbC true []) 60 0 ((atoms cK5).drop 7) (sI N t n x l r false s c L k q j)))=(true):=by kernel_rfl
theorem rk_f (N:Nat) (t:Nat→Nod) (n x:Int) (l r:Int) (b:Bool) (s c:Int) (L:List Int) (k:Int):resX (cutR [0,3,4,5,6,7,8,9,10,11] 0 (execA Tryz.prog (rbC true []) 60 0 ((atoms cK).drop 3) (sK N t n x l r b s c L k)))=some (.normal,(sK N t n x l r b s c L (IntKind.i64.wrap (k+1))).t,[]):=by kernel_rfl
theorem rk_f' (N:Nat) (t:Nat→Nod) (n x:Int) (l r:Int) (b:Bool) (s c:Int) (L:List Int) (k:Int):obX (cutR [0,3,4,5,6,7,8,9,10,11] 0 (execA Tryz.prog (rbC true []) 60 0 ((atoms cK).drop 3) (sK N t n x l r b s c L k)))=(true):=by kernel_rfl
theorem rk_e (N:Nat) (t:Nat→Nod) (n x:Int) (l r:Int) (b:Bool) (s c:Int) (L:List Int) (k:Int):resX (cutR [0,3,4,5,6,7,8] 0 (exec Tryz.prog (rbC true [(55,false)]) 60 0 cK (sK N t n x l r b s c L k)))=some (.exit 4,(sS N t n x l r b s).t,[]):=by kernel_rfl
theorem rk_e' (N:Nat) (t:Nat→Nod) (n x:Int) (l r:Int) (b:Bool) (s c:Int) (L:List Int) (k:Int):obX (cutR [0,3,4,5,6,7,8] 0 (exec Tryz.prog (rbC true [(55,false)]) 60 0 cK (sK N t n x l r b s c L k)))=(andT true !decide (k<((L.length:Nat):Int))):=by kernel_rfl
theorem rj_0 (N:Nat) (t:Nat→Nod) (n x:Int) (l r:Int) (b:Bool) (s c:Int) (L:List Int) (k:Int) (q:Bool) (j:Int):resX (cutR [0,3,4,5,6,7,8,9,10,11,12,13] 0 (exec Tryz.prog (rbC true [(74,true),(80,false)]) 60 0 cJ (sJ N t n x l r b s c L k q j)))=some (.normal,(sJ N t n x l r b s c L k q (IntKind.i64.wrap (j+1))).t,[]):=by kernel_rfl
theorem rj_0' (N:Nat) (t:Nat→Nod) (n x:Int) (l r:Int) (b:Bool) (s c:Int) (L:List Int) (k:Int) (q:Bool) (j:Int):obX (cutR [0,3,4,5,6,7,8,9,10,11,12,13] 0 (exec Tryz.prog (rbC true [(74,true),(80,false)]) 60 0 cJ (sJ N t n x l r b s c L k q j)))=(andT (andT true (decide (j<((L.length:Nat):Int)))) !j != k):=by kernel_rfl
theorem rj_1 (N:Nat) (t:Nat→Nod) (n x:Int) (l r:Int) (b:Bool) (s c:Int) (L:List Int) (k:Int) (q:Bool) (j:Int):resX (cutR [0,3,4,5,6,7,8,9,10,11,12,13] 0 (exec Tryz.prog (rbC true [(74,true),(80,true),(87,true)]) 60 0 cJ (sJ N t n x l r b s c L k q j)))=some (.normal,(sJ N t n x l r b s c L k false (IntKind.i64.wrap (j+1))).t,[]):=by kernel_rfl
theorem rj_1' (N:Nat) (t:Nat→Nod) (n x:Int) (l r:Int) (b:Bool) (s c:Int) (L:List Int) (k:Int) (q:Bool) (j:Int):obX (cutR [0,3,4,5,6,7,8,9,10,11,12,13] 0 (exec Tryz.prog (rbC true [(74,true),(80,true),(87,true)]) 60 0 cJ (sJ N t n x l r b s c L k q j)))=(andT (andT (andT (andT (andT true (decide (j<((L.length:Nat):Int)))) (j != k)) (inB j L.length)) (decide (j.toNat<L.length))) ((L.getD j.toNat 0).tmod 2==1)):=by kernel_rfl
theorem rj_2 (N:Nat) (t:Nat→Nod) (n x:Int) (l r:Int) (b:Bool) (s c:Int) (L:List Int) (k:Int) (q:Bool) (j:Int):resX (cutR [0,3,4,5,6,7,8,9,10,11,12,13] 0 (exec Tryz.prog (rbC true [(74,true),(80,true),(87,false),(101,true)]) 60 0 cJ (sJ N t n x l r b s c L k q j)))=some (.normal,(sJ N t n x l r b s c L k false (IntKind.i64.wrap (j+1))).t,[]):=by kernel_rfl
theorem rj_2' (N:Nat) (t:Nat→Nod) (n x:Int) (l r:Int) (b:Bool) (s c:Int) (L:List Int) (k:Int) (q:Bool) (j:Int):obX (cutR [0,3,4,5,6,7,8,9,10,11,12,13] 0 (exec Tryz.prog (rbC true [(74,true),(80,true),(87,false),(101,true)]) 60 0 cJ (sJ N t n x l r b s c L k q j)))=(andT (andT (andT (andT (andT (andT (andT (andT (andT (andT (andT true (decide (j<((L.length:Nat):Int)))) (j != k)) (inB j L.length)) (decide (j.toNat<L.length))) !(L.getD j.toNat 0).tmod 2==1) (inB j L.length)) (decide (j.toNat<L.length))) (inB x N)) (true&&(decide (x.toNat<N)&&true))) (andT true (decide ((t x.toNat).un.length≤274877906944)))) !inQ (IntKind.i64.wrap ((L.getD j.toNat 0).tdiv 2)) (t x.toNat).un):=by kernel_rfl
theorem rj_3 (N:Nat) (t:Nat→Nod) (n x:Int) (l r:Int) (b:Bool) (s c:Int) (L:List Int) (k:Int) (q:Bool) (j:Int):resX (cutR [0,3,4,5,6,7,8,9,10,11,12,13] 0 (exec Tryz.prog (rbC true [(74,true),(80,true),(87,false),(101,false)]) 60 0 cJ (sJ N t n x l r b s c L k q j)))=some (.normal,(sJ N t n x l r b s c L k q (IntKind.i64.wrap (j+1))).t,[]):=by kernel_rfl
theorem rj_3' (N:Nat) (t:Nat→Nod) (n x:Int) (l r:Int) (b:Bool) (s c:Int) (L:List Int) (k:Int) (q:Bool) (j:Int):obX (cutR [0,3,4,5,6,7,8,9,10,11,12,13] 0 (exec Tryz.prog (rbC true [(74,true),(80,true),(87,false),(101,false)]) 60 0 cJ (sJ N t n x l r b s c L k q j)))=(andT (andT (andT (andT (andT (andT (andT (andT (andT (andT (andT true (decide (j<((L.length:Nat):Int)))) (j != k)) (inB j L.length)) (decide (j.toNat<L.length))) !(L.getD j.toNat 0).tmod 2==1) (inB j L.length)) (decide (j.toNat<L.length))) (inB x N)) (true&&(decide (x.toNat<N)&&true))) (andT true (decide ((t x.toNat).un.length≤274877906944)))) !!inQ (IntKind.i64.wrap ((L.getD j.toNat 0).tdiv 2)) (t x.toNat).un):=by kernel_rfl
theorem rj_e (N:Nat) (t:Nat→Nod) (n x:Int) (l r:Int) (b:Bool) (s c:Int) (L:List Int) (k:Int) (q:Bool) (j:Int):resX (cutR [0,3,4,5,6,7,8,9,10,11,12,13] 0 (exec Tryz.prog (rbC true [(74,false)]) 60 0 cJ (sJ N t n x l r b s c L k q j)))=some (.exit 6,(sJ N t n x l r b s c L k q j).t,[]):=by kernel_rfl
theorem rj_e' (N:Nat) (t:Nat→Nod) (n x:Int) (l r:Int) (b:Bool) (s c:Int) (L:List Int) (k:Int) (q:Bool) (j:Int):obX (cutR [0,3,4,5,6,7,8,9,10,11,12,13] 0 (exec Tryz.prog (rbC true [(74,false)]) 60 0 cJ (sJ N t n x l r b s c L k q j)))=(andT true !decide (j<((L.length:Nat):Int))):=by kernel_rfl
theorem ri_0 (N:Nat) (t:Nat→Nod) (n x:Int) (l r:Int) (b:Bool) (s c:Int) (L:List Int) (k:Int) (q:Bool) (j:Int):resX (cutR [0,3,4,5,6,7,8,9,10,11,12,14] 0 (exec Tryz.prog (rbC true [(109,true),(125,true)]) 60 0 cI (sI N t n x l r b s c L k q j)))=some (.normal,(sI N t n x l r b s c L k q (IntKind.i64.wrap (j+1))).t,[]):=by kernel_rfl
theorem ri_0' (N:Nat) (t:Nat→Nod) (n x:Int) (l r:Int) (b:Bool) (s c:Int) (L:List Int) (k:Int) (q:Bool) (j:Int):obX (cutR [0,3,4,5,6,7,8,9,10,11,12,14] 0 (exec Tryz.prog (rbC true [(109,true),(125,true)]) 60 0 cI (sI N t n x l r b s c L k q j)))=(andT (andT (andT (andT (andT (andT (andT (andT (andT true (inB x N)) (true&&(decide (x.toNat<N)&&true))) (decide (j<(((t x.toNat).un.length:Nat):Int)))) (inB x N)) (true&&(decide (x.toNat<N)&&true))) (inB j (t x.toNat).un.length)) (decide (j.toNat<(t x.toNat).un.length))) (andT true (decide (0≤n)&&Tr.nodeB c n&&Tr.nodeB (IntKind.i64.wrap (2*(t x.toNat).un.getD j.toNat 0)) n))) !abvB c (IntKind.i64.wrap (2*(t x.toNat).un.getD j.toNat 0)) n.toNat):=by kernel_rfl
theorem ri_a (N:Nat) (t:Nat→Nod) (n x:Int) (l r:Int) (b:Bool) (s c:Int) (L:List Int) (k:Int) (q:Bool) (j:Int):resX (cutR [0,3,4,5,6,7,8,9,10,11,12,14] 0 ((execL Tryz.prog (rbC true [(109,true)]) 60 0 2 (atoms cI) (sI N t n x l r b s c L k q j)).map fun s=>(Exit.normal,s)))=some (.normal,(sI N t n x l r b s c L k q j).t,[]):=by kernel_rfl
theorem ri_a' (N:Nat) (t:Nat→Nod) (n x:Int) (l r:Int) (b:Bool) (s c:Int) (L:List Int) (k:Int) (q:Bool) (j:Int):obX (cutR [0,3,4,5,6,7,8,9,10,11,12,14] 0 ((execL Tryz.prog (rbC true [(109,true)]) 60 0 2 (atoms cI) (sI N t n x l r b s c L k q j)).map fun s=>(Exit.normal,s)))=(andT (andT (andT true (inB x N)) (true&&(decide (x.toNat<N)&&true))) (decide (j<(((t x.toNat).un.length:Nat):Int)))):=by kernel_rfl
theorem ri_b (N:Nat) (t:Nat→Nod) (n x:Int) (l r:Int) (b:Bool) (s c:Int) (L:List Int) (k:Int) (q:Bool) (j:Int):resX (cutR [0,3,4,5,6,7,8,9,10,11,12,14,15,16,17] 0 ((execL Tryz.prog (rbC true [(125,false)]) 60 0 5 (atoms cI9) (sI N t n x l r b s c L k q j)).map fun s=>(Exit.normal,s)))=some (.normal,(sM N t n x l r b s c L k q j ((t x.toNat).un.getD j.toNat 0) false 0).t,[]):=by kernel_rfl
theorem ri_b' (N:Nat) (t:Nat→Nod) (n x:Int) (l r:Int) (b:Bool) (s c:Int) (L:List Int) (k:Int) (q:Bool) (j:Int):obX (cutR [0,3,4,5,6,7,8,9,10,11,12,14,15,16,17] 0 ((execL Tryz.prog (rbC true [(125,false)]) 60 0 5 (atoms cI9) (sI N t n x l r b s c L k q j)).map fun s=>(Exit.normal,s)))=(andT (andT (andT (andT (andT (andT true (inB x N)) (true&&(decide (x.toNat<N)&&true))) (inB j (t x.toNat).un.length)) (decide (j.toNat<(t x.toNat).un.length))) (andT true (decide (0≤n)&&Tr.nodeB c n&&Tr.nodeB (IntKind.i64.wrap (2*(t x.toNat).un.getD j.toNat 0)) n))) !!abvB c (IntKind.i64.wrap (2*(t x.toNat).un.getD j.toNat 0)) n.toNat):=by kernel_rfl
theorem ri_ct (N:Nat) (t:Nat→Nod) (n x:Int) (l r:Int) (b:Bool) (s c:Int) (L:List Int) (k:Int) (j i:Int) (f:Bool) (m:Int):resX (cutR [0,3,4,5,6,7,8,9,10,11,12,14] 0 (execA Tryz.prog (rbC true []) 60 0 ((atoms cI9).drop 6) (sM N t n x l r b s c L k true j i f m)))=some (.normal,(sI N t n x l r b s c L k f j).t,[]):=by kernel_rfl
theorem ri_ct' (N:Nat) (t:Nat→Nod) (n x:Int) (l r:Int) (b:Bool) (s c:Int) (L:List Int) (k:Int) (j i:Int) (f:Bool) (m:Int):obX (cutR [0,3,4,5,6,7,8,9,10,11,12,14] 0 (execA Tryz.prog (rbC true []) 60 0 ((atoms cI9).drop 6) (sM N t n x l r b s c L k true j i f m)))=(true):=by kernel_rfl
theorem ri_cf (N:Nat) (t:Nat→Nod) (n x:Int) (l r:Int) (b:Bool) (s c:Int) (L:List Int) (k:Int) (j i:Int) (f:Bool) (m:Int):resX (cutR [0,3,4,5,6,7,8,9,10,11,12,14] 0 (execA Tryz.prog (rbC true []) 60 0 ((atoms cI9).drop 6) (sM N t n x l r b s c L k false j i f m)))=some (.normal,(sI N t n x l r b s c L k false j).t,[]):=by kernel_rfl
theorem ri_cf' (N:Nat) (t:Nat→Nod) (n x:Int) (l r:Int) (b:Bool) (s c:Int) (L:List Int) (k:Int) (j i:Int) (f:Bool) (m:Int):obX (cutR [0,3,4,5,6,7,8,9,10,11,12,14] 0 (execA Tryz.prog (rbC true []) 60 0 ((atoms cI9).drop 6) (sM N t n x l r b s c L k false j i f m)))=(true):=by kernel_rfl
theorem ri_d (N:Nat) (t:Nat→Nod) (n x:Int) (l r:Int) (b:Bool) (s c:Int) (L:List Int) (k:Int) (q:Bool) (j:Int):resX (cutR [0,3,4,5,6,7,8,9,10,11,12,14] 0 (execA Tryz.prog (rbC true []) 60 0 ((atoms cI).drop 3) (sI N t n x l r b s c L k q j)))=some (.normal,(sI N t n x l r b s c L k q (IntKind.i64.wrap (j+1))).t,[]):=by kernel_rfl
theorem ri_d' (N:Nat) (t:Nat→Nod) (n x:Int) (l r:Int) (b:Bool) (s c:Int) (L:List Int) (k:Int) (q:Bool) (j:Int):obX (cutR [0,3,4,5,6,7,8,9,10,11,12,14] 0 (execA Tryz.prog (rbC true []) 60 0 ((atoms cI).drop 3) (sI N t n x l r b s c L k q j)))=(true):=by kernel_rfl
theorem ri_e (N:Nat) (t:Nat→Nod) (n x:Int) (l r:Int) (b:Bool) (s c:Int) (L:List Int) (k:Int) (q:Bool) (j:Int):resX (cutR [0,3,4,5,6,7,8,9,10,11,12,14] 0 (exec Tryz.prog (rbC true [(109,false)]) 60 0 cI (sI N t n x l r b s c L k q j)))=some (.exit 8,(sI N t n x l r b s c L k q j).t,[]):=by kernel_rfl
theorem ri_e' (N:Nat) (t:Nat→Nod) (n x:Int) (l r:Int) (b:Bool) (s c:Int) (L:List Int) (k:Int) (q:Bool) (j:Int):obX (cutR [0,3,4,5,6,7,8,9,10,11,12,14] 0 (exec Tryz.prog (rbC true [(109,false)]) 60 0 cI (sI N t n x l r b s c L k q j)))=(andT (andT (andT true (inB x N)) (true&&(decide (x.toNat<N)&&true))) !decide (j<(((t x.toNat).un.length:Nat):Int))):=by kernel_rfl
theorem rm_1 (N:Nat) (t:Nat→Nod) (n x:Int) (l r:Int) (b:Bool) (s c:Int) (L:List Int) (k:Int) (q:Bool) (j i:Int) (f:Bool) (m:Int):resX (cutR [0,3,4,5,6,7,8,9,10,11,12,14,15,16,17] 0 (exec Tryz.prog (rbC true [(129,true),(133,true)]) 60 0 cM (sM N t n x l r b s c L k q j i f m)))=some (.normal,(sM N t n x l r b s c L k q j i true (IntKind.i64.wrap (m+1))).t,[]):=by kernel_rfl
theorem rm_1' (N:Nat) (t:Nat→Nod) (n x:Int) (l r:Int) (b:Bool) (s c:Int) (L:List Int) (k:Int) (q:Bool) (j i:Int) (f:Bool) (m:Int):obX (cutR [0,3,4,5,6,7,8,9,10,11,12,14,15,16,17] 0 (exec Tryz.prog (rbC true [(129,true),(133,true)]) 60 0 cM (sM N t n x l r b s c L k q j i f m)))=(andT (andT true (decide (m<((L.length:Nat):Int)))) f):=by kernel_rfl
theorem rm_2 (N:Nat) (t:Nat→Nod) (n x:Int) (l r:Int) (b:Bool) (s c:Int) (L:List Int) (k:Int) (q:Bool) (j i:Int) (f:Bool) (m:Int):resX (cutR [0,3,4,5,6,7,8,9,10,11,12,14,15,16,17] 0 (exec Tryz.prog (rbC true [(129,true),(133,false),(137,true)]) 60 0 cM (sM N t n x l r b s c L k q j i f m)))=some (.normal,(sM N t n x l r b s c L k q j i (L.getD m.toNat 0==IntKind.i64.wrap (2*i)) (IntKind.i64.wrap (m+1))).t,[]):=by kernel_rfl
theorem rm_2' (N:Nat) (t:Nat→Nod) (n x:Int) (l r:Int) (b:Bool) (s c:Int) (L:List Int) (k:Int) (q:Bool) (j i:Int) (f:Bool) (m:Int):obX (cutR [0,3,4,5,6,7,8,9,10,11,12,14,15,16,17] 0 (exec Tryz.prog (rbC true [(129,true),(133,false),(137,true)]) 60 0 cM (sM N t n x l r b s c L k q j i f m)))=(andT (andT (andT (andT (andT true (decide (m<((L.length:Nat):Int)))) !f) (m != k)) (inB m L.length)) (decide (m.toNat<L.length))):=by kernel_rfl
theorem rm_3 (N:Nat) (t:Nat→Nod) (n x:Int) (l r:Int) (b:Bool) (s c:Int) (L:List Int) (k:Int) (q:Bool) (j i:Int) (f:Bool) (m:Int):resX (cutR [0,3,4,5,6,7,8,9,10,11,12,14,15,16,17] 0 (exec Tryz.prog (rbC true [(129,true),(133,false),(137,false)]) 60 0 cM (sM N t n x l r b s c L k q j i f m)))=some (.normal,(sM N t n x l r b s c L k q j i false (IntKind.i64.wrap (m+1))).t,[]):=by kernel_rfl
theorem rm_3' (N:Nat) (t:Nat→Nod) (n x:Int) (l r:Int) (b:Bool) (s c:Int) (L:List Int) (k:Int) (q:Bool) (j i:Int) (f:Bool) (m:Int):obX (cutR [0,3,4,5,6,7,8,9,10,11,12,14,15,16,17] 0 (exec Tryz.prog (rbC true [(129,true),(133,false),(137,false)]) 60 0 cM (sM N t n x l r b s c L k q j i f m)))=(andT (andT (andT true (decide (m<((L.length:Nat):Int)))) !f) !m != k):=by kernel_rfl
theorem rm_e (N:Nat) (t:Nat→Nod) (n x:Int) (l r:Int) (b:Bool) (s c:Int) (L:List Int) (k:Int) (q:Bool) (j i:Int) (f:Bool) (m:Int):resX (cutR [0,3,4,5,6,7,8,9,10,11,12,14,15,16,17] 0 (exec Tryz.prog (rbC true [(129,false)]) 60 0 cM (sM N t n x l r b s c L k q j i f m)))=some (.exit 10,(sM N t n x l r b s c L k q j i f m).t,[]):=by kernel_rfl
theorem rm_e' (N:Nat) (t:Nat→Nod) (n x:Int) (l r:Int) (b:Bool) (s c:Int) (L:List Int) (k:Int) (q:Bool) (j i:Int) (f:Bool) (m:Int):obX (cutR [0,3,4,5,6,7,8,9,10,11,12,14,15,16,17] 0 (exec Tryz.prog (rbC true [(129,false)]) 60 0 cM (sM N t n x l r b s c L k q j i f m)))=(andT true !decide (m<((L.length:Nat):Int))):=by kernel_rfl
end Go.Proofs.YthlnlcijnoadcaaGreatDoor.Mk
end
section
namespace Go.Proofs.YthlnlcijnoadcaaGreatDoor.Mk
open Go Go.Sy Tr Wi S2
theorem any_succ (p:Nat→Bool) (m:Nat):(List.range (m+1)).any p=((List.range m).any p||p m):=by rw [List.range_succ,List.any_append];simp
theorem all_succ (p:Nat→Bool) (m:Nat):(List.range (m+1)).all p=((List.range m).all p&&p m):=by rw [List.range_succ,List.all_append];simp
section
variable {N n:Nat} {t:Nat→Nod} {x l r:Int} {b:Bool} {s c:Int} {L:List Int} {k:Nat}
theorem m_loop (hL:L.length≤100000) (q:Bool) (j:Int) {i:Int} (h0:0≤i) (h1:i<64):
  Tr Tryz.prog none 0 (nthC 5 cI9) (sM N t n x l r b s c L ((k:Nat):Int) q j i false ((0:Nat):Int)) .normal (sM N t n x l r b s c L ((k:Nat):Int) q j i (fndQ L k i) ((L.length:Nat):Int)):=by
 refine Tr.loop 10 (by kernel_rfl) (fun m:Nat=>sM N t n x l r b s c L ((k:Nat):Int) q j i ((List.range m).any (fndJ L k i)) ((m:Nat):Int)) L.length (fun m hm=>?_) ?_
 ·show Tr _ _ _ _ (sM N t n x l r b s c L ((k:Nat):Int) q j i ((List.range m).any (fndJ L k i)) ((m:Nat):Int)) .normal (sM N t n x l r b s c L ((k:Nat):Int) q j i ((List.range (m+1)).any (fndJ L k i)) ((m+1:Nat):Int))
  rw [any_succ]
  generalize (List.range m).any (fndJ L k i)=f
  have o1:decide (((m:Nat):Int)<((L.length:Nat):Int))=true:=decide_eq_true (by omega)
  cases f with
  |true=>
   have e:=rm_1 N t n x l r b s c L k q j i true m
   rw [wrapS (by omega)] at e
   exact Tr.cutX (rbC_ok true _) 60 _ 0 (Nat.zero_le _) (s':=sM N t n x l r b s c L ((k:Nat):Int) q j i (true||fndJ L k i m) ((m+1:Nat):Int)) _ e (rm_1' N t n x l r b s c L k q j i true m) (by rw [o1];rfl)
  |false=>
   cases hk:(((m:Nat):Int) != ((k:Nat):Int)) with
   |true=>
    have e:=rm_2 N t n x l r b s c L k q j i false m
    have hf:(false||fndJ L k i m)=(L.getD m 0==2*i):=by unfold fndJ;rw [hk];rfl
    rw [wrapS (by omega),Int.toNat_natCast,wrapI (n:=2*i) (by omega) (by omega), ←hf] at e
    exact Tr.cutX (rbC_ok true _) 60 _ 0 (Nat.zero_le _) (s':=sM N t n x l r b s c L ((k:Nat):Int) q j i (false||fndJ L k i m) ((m+1:Nat):Int)) _ e (rm_2' N t n x l r b s c L k q j i false m) (by rw [o1,hk,inBN hm,Int.toNat_natCast,decide_eq_true hm];rfl)
   |false=>
    have e:=rm_3 N t n x l r b s c L k q j i false m
    have hf:(false||fndJ L k i m)=false:=by unfold fndJ;rw [hk];rfl
    rw [wrapS (by omega)] at e
    rw [hf]
    exact Tr.cutX (rbC_ok true _) 60 _ 0 (Nat.zero_le _) (s':=sM N t n x l r b s c L ((k:Nat):Int) q j i false ((m+1:Nat):Int)) _ e (rm_3' N t n x l r b s c L k q j i false m) (by rw [o1,hk];rfl)
 ·exact Tr.cutX (rbC_ok true _) 60 _ 0 (Nat.zero_le _) (s':=sM N t n x l r b s c L ((k:Nat):Int) q j i (fndQ L k i) ((L.length:Nat):Int)) _ (rm_e N t n x l r b s c L k q j i (fndQ L k i) L.length) (rm_e' N t n x l r b s c L k q j i (fndQ L k i) L.length) (by rw [nltN (Nat.le_refl _)];rfl)
def unJ (L un:List Int) (c:Int) (n k j:Nat):Bool:=!abvB c (2*un.getD j 0) n||fndQ L k (un.getD j 0)
theorem i_loop (hn:n∈sizes) (hx:x.toNat<N) (hin:inB x N=true) (hlen:(t x.toNat).un.length≤64) (hu:∀u∈(t x.toNat).un,0≤u∧u<n) (hc:Tr.nodeB c n=true) (hL:L.length≤100000) (q0:Bool):
  Tr Tryz.prog none 0 (nthC 6 cK5) (sI N t n x l r b s c L ((k:Nat):Int) q0 ((0:Nat):Int)) .normal (sI N t n x l r b s c L ((k:Nat):Int) (q0&&(List.range (t x.toNat).un.length).all (unJ L (t x.toNat).un c n k)) (((t x.toNat).un.length:Nat):Int)):=by
 have hs:=sizes_le hn
 have e0:q0=(q0&&(List.range 0).all (unJ L (t x.toNat).un c n k)):=by simp
 rw [show sI N t n x l r b s c L ((k:Nat):Int) q0 ((0:Nat):Int)=sI N t n x l r b s c L ((k:Nat):Int) (q0&&(List.range 0).all (unJ L (t x.toNat).un c n k)) ((0:Nat):Int) by rw [←e0]]
 refine Tr.loop 8 (by kernel_rfl) (fun j:Nat=>sI N t n x l r b s c L ((k:Nat):Int) (q0&&(List.range j).all (unJ L (t x.toNat).un c n k)) ((j:Nat):Int)) (t x.toNat).un.length (fun j hj=>?_) ?_
 ·show Tr _ _ _ _ (sI N t n x l r b s c L ((k:Nat):Int) (q0&&(List.range j).all (unJ L (t x.toNat).un c n k)) ((j:Nat):Int)) .normal (sI N t n x l r b s c L ((k:Nat):Int) (q0&&(List.range (j+1)).all (unJ L (t x.toNat).un c n k)) ((j+1:Nat):Int))
  rw [all_succ, ←Bool.and_assoc]
  generalize (q0&&(List.range j).all (unJ L (t x.toNat).un c n k))=q
  obtain ⟨u0,u1⟩:=hu ((t x.toNat).un.getD j 0) (by rw [getD_get hj];exact List.getElem_mem hj)
  have hw:IntKind.i64.wrap (2*(t x.toNat).un.getD j 0)=2*(t x.toNat).un.getD j 0:=wrapI (by omega) (by omega)
  have o1:decide (((j:Nat):Int)<(((t x.toNat).un.length:Nat):Int))=true:=decide_eq_true (by omega)
  have hl:Tr.nodeB (2*(t x.toNat).un.getD j 0) n=true:=leaf_node hn u0 u1
  have on:decide ((0:Int)≤((n:Nat):Int))=true:=decide_eq_true (by omega)
  cases ha:abvB c (2*(t x.toNat).un.getD j 0) n with
  |false=>
   have e:=ri_0 N t n x l r b s c L k q j
   have hq:(q&&unJ L (t x.toNat).un c n k j)=q:=by unfold unJ;rw [ha];simp
   rw [wrapS (by omega)] at e
   rw [hq]
   refine Tr.cutX (rbC_ok true _) 60 _ 0 (Nat.zero_le _) (s':=sI N t n x l r b s c L ((k:Nat):Int) q ((j+1:Nat):Int)) _ e (ri_0' N t n x l r b s c L k q j) ?_
   rw [hin,decide_eq_true hx,o1,inBN hj,Int.toNat_natCast,decide_eq_true hj,hw,hl,hc,on,Int.toNat_natCast,ha]
   rfl
  |true=>
   have hq:(q&&unJ L (t x.toNat).un c n k j)=(q&&fndQ L k ((t x.toNat).un.getD j 0)):=by unfold unJ;rw [ha];rfl
   rw [hq]
   refine Tr.of_atoms (TrL.itemsX (rbC_ok true _) 60 2 _ 0 (Nat.zero_le _) (s1:=sI N t n x l r b s c L ((k:Nat):Int) q ((j:Nat):Int)) _ (ri_a N t n x l r b s c L k q j) (ri_a' N t n x l r b s c L k q j) (by rw [hin,decide_eq_true hx,o1];rfl) (by decide) rfl ?_)
   refine TrL.item 2 (by decide) (s1:=sI N t n x l r b s c L ((k:Nat):Int) (q&&fndQ L k ((t x.toNat).un.getD j 0)) ((j:Nat):Int)) ?_ ?_
   ·refine (show nthC 2 cI= .block 9 cI9 by kernel_rfl)▸Tr.block_pass (Tr.of_atoms ?_) (by simp)
    have eb:=ri_b N t n x l r b s c L k q j
    rw [Int.toNat_natCast] at eb
    refine TrL.itemsX (rbC_ok true _) 60 5 _ 0 (Nat.zero_le _) (s1:=sM N t n x l r b s c L ((k:Nat):Int) q ((j:Nat):Int) ((t x.toNat).un.getD j 0) false ((0:Nat):Int)) _ eb (ri_b' N t n x l r b s c L k q j) ?_ (by decide) rfl ?_
    ·rw [hin,decide_eq_true hx,inBN hj,Int.toNat_natCast,decide_eq_true hj,hw,hl,hc,on,Int.toNat_natCast,ha]
     rfl
    ·refine TrL.item 5 (by decide) (m_loop hL q _ u0 (by omega)) ?_
     cases q with
     |true=>exact TrL.cutA (rbC_ok true _) 60 _ 0 (Nat.zero_le _) (s':=sI N t n x l r b s c L ((k:Nat):Int) (true&&fndQ L k ((t x.toNat).un.getD j 0)) ((j:Nat):Int)) _ (ri_ct N t n x l r b s c L k j ((t x.toNat).un.getD j 0) (fndQ L k ((t x.toNat).un.getD j 0)) L.length) (ri_ct' N t n x l r b s c L k j _ _ _) rfl (by intro q;cases q)
     |false=>exact TrL.cutA (rbC_ok true _) 60 _ 0 (Nat.zero_le _) (s':=sI N t n x l r b s c L ((k:Nat):Int) (false&&fndQ L k ((t x.toNat).un.getD j 0)) ((j:Nat):Int)) _ (ri_cf N t n x l r b s c L k j ((t x.toNat).un.getD j 0) (fndQ L k ((t x.toNat).un.getD j 0)) L.length) (ri_cf' N t n x l r b s c L k j _ _ _) rfl (by intro q;cases q)
   ·have e:=ri_d N t n x l r b s c L k (q&&fndQ L k ((t x.toNat).un.getD j 0)) j
    rw [wrapS (by omega)] at e
    exact TrL.cutA (rbC_ok true _) 60 _ 0 (Nat.zero_le _) (s':=sI N t n x l r b s c L ((k:Nat):Int) (q&&fndQ L k ((t x.toNat).un.getD j 0)) ((j+1:Nat):Int)) _ e (ri_d' N t n x l r b s c L k _ j) rfl (by intro q;cases q)
 ·refine Tr.cutX (rbC_ok true _) 60 _ 0 (Nat.zero_le _) (s':=sI N t n x l r b s c L ((k:Nat):Int) (q0&&(List.range (t x.toNat).un.length).all (unJ L (t x.toNat).un c n k)) (((t x.toNat).un.length:Nat):Int)) _ (ri_e N t n x l r b s c L k _ (t x.toNat).un.length) (ri_e' N t n x l r b s c L k _ (t x.toNat).un.length) ?_
  rw [hin,decide_eq_true hx,nltN (Nat.le_refl _)];rfl
theorem j_loop (hx:x.toNat<N) (hin:inB x N=true) (hlen:(t x.toNat).un.length≤64) (hL:L.length≤100000) (hd:∀j,j<L.length→0≤L.getD j 0∧L.getD j 0<100000):
  Tr Tryz.prog none 0 (nthC 4 cK5) (sJ N t n x l r b s c L ((k:Nat):Int) true ((0:Nat):Int)) .normal (sJ N t n x l r b s c L ((k:Nat):Int) ((List.range L.length).all fun j=>!badJ L (t x.toNat).un k j) ((L.length:Nat):Int)):=by
 refine Tr.loop 6 (by kernel_rfl) (fun j:Nat=>sJ N t n x l r b s c L ((k:Nat):Int) ((List.range j).all fun j=>!badJ L (t x.toNat).un k j) ((j:Nat):Int)) L.length (fun j hj=>?_) ?_
 ·show Tr _ _ _ _ (sJ N t n x l r b s c L ((k:Nat):Int) ((List.range j).all fun j=>!badJ L (t x.toNat).un k j) ((j:Nat):Int)) .normal (sJ N t n x l r b s c L ((k:Nat):Int) ((List.range (j+1)).all fun j=>!badJ L (t x.toNat).un k j) ((j+1:Nat):Int))
  rw [all_succ]
  generalize ((List.range j).all fun j=>!badJ L (t x.toNat).un k j)=q
  obtain ⟨d0,d1⟩:=hd j hj
  have o1:decide (((j:Nat):Int)<((L.length:Nat):Int))=true:=decide_eq_true (by omega)
  have hw:IntKind.i64.wrap ((L.getD j 0).tdiv 2)=(L.getD j 0).tdiv 2:=by
   obtain ⟨y,hy⟩:=Int.eq_ofNat_of_zero_le d0
   rw [hy,show (2:Int)=((2:Nat):Int) from rfl, ←Int.ofNat_tdiv]
   exact wrapI (by omega) (by omega)
  unfold badJ
  cases hk:(((j:Nat):Int) != ((k:Nat):Int)) with
  |false=>
   have e:=rj_0 N t n x l r b s c L k q j
   rw [wrapS (by omega)] at e
   rw [Bool.false_and,Bool.not_false,Bool.and_true]
   exact Tr.cutX (rbC_ok true _) 60 _ 0 (Nat.zero_le _) (s':=sJ N t n x l r b s c L ((k:Nat):Int) q ((j+1:Nat):Int)) _ e (rj_0' N t n x l r b s c L k q j) (by rw [o1,hk];rfl)
  |true=>
   rw [Bool.true_and]
   cases ho:((L.getD j 0).tmod 2==1) with
   |true=>
    have e:=rj_1 N t n x l r b s c L k q j
    rw [wrapS (by omega)] at e
    rw [Bool.true_or,Bool.not_true,Bool.and_false]
    exact Tr.cutX (rbC_ok true _) 60 _ 0 (Nat.zero_le _) (s':=sJ N t n x l r b s c L ((k:Nat):Int) false ((j+1:Nat):Int)) _ e (rj_1' N t n x l r b s c L k q j) (by rw [Int.toNat_natCast,o1,hk,inBN hj,decide_eq_true hj,ho];rfl)
   |false=>
    rw [Bool.false_or,Bool.not_not]
    cases hi:inQ ((L.getD j 0).tdiv 2) (t x.toNat).un with
    |false=>
     have e:=rj_2 N t n x l r b s c L k q j
     rw [wrapS (by omega)] at e
     rw [Bool.and_false]
     exact Tr.cutX (rbC_ok true _) 60 _ 0 (Nat.zero_le _) (s':=sJ N t n x l r b s c L ((k:Nat):Int) false ((j+1:Nat):Int)) _ e (rj_2' N t n x l r b s c L k q j) (by rw [Int.toNat_natCast,o1,hk,inBN hj,decide_eq_true hj,ho,hw,hi,hin,decide_eq_true hx,decide_eq_true (show (t x.toNat).un.length≤274877906944 by omega)];rfl)
    |true=>
     have e:=rj_3 N t n x l r b s c L k q j
     rw [wrapS (by omega)] at e
     rw [Bool.and_true]
     exact Tr.cutX (rbC_ok true _) 60 _ 0 (Nat.zero_le _) (s':=sJ N t n x l r b s c L ((k:Nat):Int) q ((j+1:Nat):Int)) _ e (rj_3' N t n x l r b s c L k q j) (by rw [Int.toNat_natCast,o1,hk,inBN hj,decide_eq_true hj,ho,hw,hi,hin,decide_eq_true hx,decide_eq_true (show (t x.toNat).un.length≤274877906944 by omega)];rfl)
 ·exact Tr.cutX (rbC_ok true _) 60 _ 0 (Nat.zero_le _) (s':=sJ N t n x l r b s c L ((k:Nat):Int) ((List.range L.length).all fun j=>!badJ L (t x.toNat).un k j) ((L.length:Nat):Int)) _ (rj_e N t n x l r b s c L k _ L.length) (rj_e' N t n x l r b s c L k _ L.length) (by rw [nltN (Nat.le_refl _)];rfl)
end
end Go.Proofs.YthlnlcijnoadcaaGreatDoor.Mk
end
section
namespace Go.Proofs.YthlnlcijnoadcaaGreatDoor.Mk
open Go Go.Sy Tr Wi S2
noncomputable def kJ (t:Nat→Nod) (L un w:List Int) (c:Int) (n k:Nat):Bool:=decide ((t (L.getD k 0).toNat).par=w)&&sameQ L un c n k
section
variable {N n:Nat} {t:Nat→Nod} {x l r:Int} {b:Bool} {s c:Int} {L:List Int} {k:Nat}
theorem k_loop (hT:TOK N t) (hb:bytT N t=true) (hn:n∈sizes) (hm:mkQ N t x c=true) (hc:Tr.nodeB c n=true) (hu:∀u∈(t x.toNat).un,0≤u∧u<n) (hL:L.length≤100000) (hd:∀j,j<L.length→0≤L.getD j 0∧L.getD j 0<N):
  Tr Tryz.prog none 0 (nthC 5 cS3) (sK N t n x l r b s c L ((0:Nat):Int)) .normal (sS N t n x l r (b||(List.range L.length).any (kJ t L (t x.toNat).un (markW t x (leftV x+rightV x-c)) c n)) s):=by
 obtain ⟨hch,h0,h1,_⟩:=mkQ_ok hT hm
 have hle:=hT.le
 have hok:okT N (fun i=>coolL (tng t i))=true:=okT_tng hT
 have ht:(treeOf fun i=>coolL (tng t i))=t:=rfl
 have hx:x.toNat<N:=by omega
 have hin:inB x N=true:=by obtain ⟨y,rfl⟩:=Int.eq_ofNat_of_zero_le h0;exact inBN (by omega)
 have hlen:=(un_of (check_un hT hch).1 hx).1
 have hw:(markW t x (leftV x+rightV x-c)).length=32:=shortW_len _
 have e0:b=(b||(List.range 0).any (kJ t L (t x.toNat).un (markW t x (leftV x+rightV x-c)) c n)):=by simp
 generalize hW:markW t x (leftV x+rightV x-c)=w at*
 rw [show sK N t n x l r b s c L ((0:Nat):Int)=sK N t n x l r (b||(List.range 0).any (kJ t L (t x.toNat).un w c n)) s c L ((0:Nat):Int) by rw [←e0]]
 refine Tr.loop 4 (by kernel_rfl) (fun k:Nat=>sK N t n x l r (b||(List.range k).any (kJ t L (t x.toNat).un w c n)) s c L ((k:Nat):Int)) L.length (fun k hk=>?_) ?_
 ·show Tr _ _ _ _ (sK N t n x l r (b||(List.range k).any (kJ t L (t x.toNat).un w c n)) s c L ((k:Nat):Int)) .normal (sK N t n x l r (b||(List.range (k+1)).any (kJ t L (t x.toNat).un w c n)) s c L ((k+1:Nat):Int))
  rw [any_succ, ←Bool.or_assoc]
  generalize (b||(List.range k).any (kJ t L (t x.toNat).un w c n))=f
  obtain ⟨d0,d1⟩:=hd k hk
  have o1:decide (((k:Nat):Int)<((L.length:Nat):Int))=true:=decide_eq_true (by omega)
  have hdn:(L.getD k 0).toNat<N:=by omega
  have hdi:inB (L.getD k 0) N=true:=by obtain ⟨y,hy⟩:=Int.eq_ofNat_of_zero_le d0;rw [hy];exact inBN (by omega)
  have lp:=hT.par _ hdn
  by_cases hp:(t (L.getD k 0).toNat).par=w
  ·have hq:(f||kJ t L (t x.toNat).un w c n k)=(f||sameQ L (t x.toNat).un c n k):=by unfold kJ;rw [decide_eq_true hp];rfl
   rw [hq]
   refine Tr.of_atoms (TrL.itemsX (rbC_ok true _) 60 2 _ 0 (Nat.zero_le _) (s1:=sK N t n x l r f s c L ((k:Nat):Int)) _ (rk_a N t n x l r f s c L k) (rk_a' N t n x l r f s c L k) (by rw [o1];rfl) (by decide) rfl ?_)
   refine TrL.item 2 (by decide) (s1:=sK N t n x l r (f||sameQ L (t x.toNat).un c n k) s c L ((k:Nat):Int)) ?_ ?_
   ·refine (show nthC 2 cK= .block 5 cK5 by kernel_rfl)▸Tr.block_pass (Tr.of_atoms ?_) (by simp)
    refine TrL.itemsX (rbC_ok true _) 60 4 _ 0 (Nat.zero_le _) (s1:=sJ N t n x l r f s c L ((k:Nat):Int) true ((0:Nat):Int)) _ (rk_b N t n x l r f s c L k) (rk_b' N t n x l r f s c L k) ?_ (by decide) rfl ?_
    ·rw [inBN hk,Int.toNat_natCast,decide_eq_true hk,hdi,decide_eq_true hdn,ht,hok,decide_eq_true hle,hm,hb,hW,decide_eq_true lp,decide_eq_true hw,decide_eq_true hp]
     rfl
    ·refine TrL.item 4 (by decide) (j_loop hx hin hlen hL (fun j hj=>by have:=hd j hj;omega)) ?_
     refine TrL.itemsD (rbC_ok true _) 60 5 1 _ 0 (Nat.zero_le _) (s1:=sI N t n x l r f s c L ((k:Nat):Int) ((List.range L.length).all fun j=>!badJ L (t x.toNat).un k j) ((0:Nat):Int)) _ (rk_c N t n x l r f s c L k _ L.length) (rk_c' N t n x l r f s c L k _ L.length) rfl (by decide) rfl ?_
     refine TrL.item 6 (by decide) (i_loop hn hx hin hlen hu hc hL _) ?_
     cases f with
     |true=>exact TrL.cutA (rbC_ok true _) 60 _ 0 (Nat.zero_le _) (s':=sK N t n x l r (true||sameQ L (t x.toNat).un c n k) s c L ((k:Nat):Int)) _ (rk_dt N t n x l r s c L k (sameQ L (t x.toNat).un c n k) (t x.toNat).un.length) (rk_dt' N t n x l r s c L k _ _) rfl (by intro q;cases q)
     |false=>exact TrL.cutA (rbC_ok true _) 60 _ 0 (Nat.zero_le _) (s':=sK N t n x l r (false||sameQ L (t x.toNat).un c n k) s c L ((k:Nat):Int)) _ (rk_df N t n x l r s c L k (sameQ L (t x.toNat).un c n k) (t x.toNat).un.length) (rk_df' N t n x l r s c L k _ _) rfl (by intro q;cases q)
   ·have e:=rk_f N t n x l r (f||sameQ L (t x.toNat).un c n k) s c L k
    rw [wrapS (by omega)] at e
    exact TrL.cutA (rbC_ok true _) 60 _ 0 (Nat.zero_le _) (s':=sK N t n x l r (f||sameQ L (t x.toNat).un c n k) s c L ((k+1:Nat):Int)) _ e (rk_f' N t n x l r _ s c L k) rfl (by intro q;cases q)
  ·have hq:(f||kJ t L (t x.toNat).un w c n k)=f:=by unfold kJ;rw [decide_eq_false hp];simp
   have e:=rk_0 N t n x l r f s c L k
   rw [wrapS (by omega)] at e
   rw [hq]
   refine Tr.cutX (rbC_ok true _) 60 _ 0 (Nat.zero_le _) (s':=sK N t n x l r f s c L ((k+1:Nat):Int)) _ e (rk_0' N t n x l r f s c L k) ?_
   rw [o1,inBN hk,Int.toNat_natCast,decide_eq_true hk,hdi,decide_eq_true hdn,ht,hok,decide_eq_true hle,hm,hb,hW,decide_eq_true lp,decide_eq_true hw,decide_eq_false hp]
   rfl
 ·exact Tr.cutX (rbC_ok true _) 60 _ 0 (Nat.zero_le _) (s':=sS N t n x l r (b||(List.range L.length).any (kJ t L (t x.toNat).un w c n)) s) _ (rk_e N t n x l r _ s c L L.length) (rk_e' N t n x l r _ s c L L.length) (by rw [nltN (Nat.le_refl _)];rfl)
noncomputable def kQ (t:Nat→Nod) (n:Nat) (x c:Int):Bool:=(List.range (resV t c).length).any (kJ t (resV t c) (t x.toNat).un (markW t x (leftV x+rightV x-c)) c n)
theorem kQ_by (hT:TOK N t) (hn:n∈sizes) (hN:N=2*n-1) (hg:∀x,x<N→goodJ t n x=true) (hm:mkQ N t x c=true) (c0:0≤c) (c1:c<N):kQ t n x c=byB t x c:=by
 obtain ⟨hch,h0,h1,_⟩:=mkQ_ok hT hm
 have hx:x.toNat<N:=by omega
 obtain ⟨r1,r2,_⟩:=resV_ok hT hch c0 c1
 obtain ⟨f1,f2,f3,f4,f5⟩:=nodF_of hn hN hx (hg _ hx)
 have hnode:Tr.nodeB c n=true:=by obtain ⟨y,rfl⟩:=Int.eq_ofNat_of_zero_le c0;exact node_mk hn (by omega)
 have hp:(t x.toNat).un.Pairwise (· < ·):=by
  have g:=hg _ hx
  have nil:(t x.toNat).un=[]→(t x.toNat).un.Pairwise (· < ·):=fun e=>by rw [e];exact List.Pairwise.nil
  unfold goodJ at g
  cases hu:(t x.toNat).used with
  |false=>exact nil (f2 hu)
  |true=>
   rw [hu] at g
   cases hpar:(x.toNat%2==0) with
   |true=>exact nil (f3 (by simpa using hpar))
   |false=>
    rw [hpar] at g
    have g':upperB t (x.toNat:Int) n=true:=g
    unfold upperB at g'
    simp only [Bool.and_eq_true,Int.toNat_natCast] at g'
    exact bef_rise fun j hj=>(upJ_at (List.all_eq_true.1 g'.2 j (List.mem_range.2 hj))).1
 unfold kQ byB byV
 rw [List.not_all_eq_any_not]
 congr 1
 funext k
 rw [Bool.not_not]
 unfold kJ byJ
 rw [same_iff r1 (fun e he=>by have:=r2 e he;omega) hp f1 hnode]
end
end Go.Proofs.YthlnlcijnoadcaaGreatDoor.Mk
end
section
namespace Go.Proofs.YthlnlcijnoadcaaGreatDoor.Mk
open Go Go.Sy Tr Wi S2
section
variable {N n:Nat} {t:Nat→Nod} {x:Int}
theorem s_loop (hT:TOK N t) (hb:bytT N t=true) (hn:n∈sizes) (hm1:mkQ N t x (leftV x)=true) (hm2:mkQ N t x (rightV x)=true) (hl:0≤leftV x∧leftV x<N) (hr:0≤rightV x∧rightV x<N) (hN:N=2*n-1) (hu:∀u∈(t x.toNat).un,0≤u∧u<n):
  Tr Tryz.prog none 0 (nthC 5 cX1) (sS N t n x (leftV x) (rightV x) false 0) .normal (sS N t n x (leftV x) (rightV x) ((false||kQ t n x (leftV x))||kQ t n x (rightV x)) 2):=by
 obtain ⟨hch,_⟩:=mkQ_ok hT hm1
 have hok:okT N (fun i=>coolL (tng t i))=true:=okT_tng hT
 have ht:(treeOf fun i=>coolL (tng t i))=t:=rfl
 have hle:=hT.le
 have nod:∀c:Int,0≤c→c<N→Tr.nodeB c n=true:=fun c c0 c1=>by obtain ⟨y,rfl⟩:=Int.eq_ofNat_of_zero_le c0;exact node_mk hn (by omega)
 have rng:∀c:Int,0≤c→c<N→(resV t c).length≤100000∧∀j,j<(resV t c).length→0≤(resV t c).getD j 0∧(resV t c).getD j 0<N:=fun c c0 c1=>by
  obtain ⟨_,r2,r3⟩:=resV_ok hT hch c0 c1
  refine ⟨r3,fun j hj=>?_⟩
  have:=r2 ((resV t c).getD j 0) (by rw [getD_get hj];exact List.getElem_mem hj)
  omega
 refine Tr.loop 2 (by kernel_rfl) (fun i:Nat=>match i with
  |0=>sS N t n x (leftV x) (rightV x) false 0
  |1=>sS N t n x (leftV x) (rightV x) (false||kQ t n x (leftV x)) 1
  |_=>sS N t n x (leftV x) (rightV x) ((false||kQ t n x (leftV x))||kQ t n x (rightV x)) 2) 2 (fun i hi=>?_) ?_
 ·obtain rfl|rfl:i=0∨i=1:=by omega
  ·show Tr _ _ _ _ (sS N t n x (leftV x) (rightV x) false 0) .normal (sS N t n x (leftV x) (rightV x) (false||kQ t n x (leftV x)) 1)
   refine Tr.of_atoms (TrL.itemsX (rbC_ok true _) 60 2 _ 0 (Nat.zero_le _) (s1:=sS N t n x (leftV x) (rightV x) false 0) _ (rs_a0 N t n x _ _ false) (rs_a0' N t n x _ _ false) rfl (by decide) rfl ?_)
   refine TrL.item 2 (by decide) (s1:=sS N t n x (leftV x) (rightV x) (false||kQ t n x (leftV x)) 0) ?_ ?_
   ·refine (show nthC 2 cS= .block 3 cS3 by kernel_rfl)▸Tr.block_pass (Tr.of_atoms ?_) (by simp)
    refine TrL.itemsX (rbC_ok true _) 60 5 _ 0 (Nat.zero_le _) (s1:=sK N t n x (leftV x) (rightV x) false 0 (leftV x) (resV t (leftV x)) ((0:Nat):Int)) _ (rs_b0 N t n x _ _ false) (rs_b0' N t n x _ _ false) (by rw [ht,hok,decide_eq_true hle,rn_resOK hT hch hl.1 hl.2];rfl) (by decide) rfl ?_
    exact TrL.item 5 (by decide) (k_loop hT hb hn hm1 (nod _ hl.1 hl.2) hu (rng _ hl.1 hl.2).1 (rng _ hl.1 hl.2).2) (TrL.nil (by kernel_rfl))
   ·exact TrL.cutA (rbC_ok true _) 60 _ 0 (Nat.zero_le _) (s':=sS N t n x (leftV x) (rightV x) (false||kQ t n x (leftV x)) 1) _ (rs_c0 N t n x _ _ _) (rs_c0' N t n x _ _ _) rfl (by intro q;cases q)
  ·show Tr _ _ _ _ (sS N t n x (leftV x) (rightV x) (false||kQ t n x (leftV x)) 1) .normal (sS N t n x (leftV x) (rightV x) ((false||kQ t n x (leftV x))||kQ t n x (rightV x)) 2)
   generalize (false||kQ t n x (leftV x))=f
   refine Tr.of_atoms (TrL.itemsX (rbC_ok true _) 60 2 _ 0 (Nat.zero_le _) (s1:=sS N t n x (leftV x) (rightV x) f 1) _ (rs_a1 N t n x _ _ f) (rs_a1' N t n x _ _ f) rfl (by decide) rfl ?_)
   refine TrL.item 2 (by decide) (s1:=sS N t n x (leftV x) (rightV x) (f||kQ t n x (rightV x)) 1) ?_ ?_
   ·refine (show nthC 2 cS= .block 3 cS3 by kernel_rfl)▸Tr.block_pass (Tr.of_atoms ?_) (by simp)
    refine TrL.itemsX (rbC_ok true _) 60 5 _ 0 (Nat.zero_le _) (s1:=sK N t n x (leftV x) (rightV x) f 1 (rightV x) (resV t (rightV x)) ((0:Nat):Int)) _ (rs_b1 N t n x _ _ f) (rs_b1' N t n x _ _ f) (by rw [ht,hok,decide_eq_true hle,rn_resOK hT hch hr.1 hr.2];rfl) (by decide) rfl ?_
    exact TrL.item 5 (by decide) (k_loop hT hb hn hm2 (nod _ hr.1 hr.2) hu (rng _ hr.1 hr.2).1 (rng _ hr.1 hr.2).2) (TrL.nil (by kernel_rfl))
   ·exact TrL.cutA (rbC_ok true _) 60 _ 0 (Nat.zero_le _) (s':=sS N t n x (leftV x) (rightV x) (f||kQ t n x (rightV x)) 2) _ (rs_c1 N t n x _ _ _) (rs_c1' N t n x _ _ _) rfl (by intro q;cases q)
 ·exact Tr.cutX (rbC_ok true _) 60 _ 0 (Nat.zero_le _) (s':=sS N t n x (leftV x) (rightV x) ((false||kQ t n x (leftV x))||kQ t n x (rightV x)) 2) _ (rs_e N t n x _ _ _) (rs_e' N t n x _ _ _) rfl
theorem rbound_fn (hT:TOK N t) (hb:bytT N t=true):FnTr Tryz.prog 30 [.rol false 99 N (tng t)] [] (.bool (boundB N t)) []:=by
 have hok:okT N (fun i=>coolL (tng t i))=true:=okT_tng hT
 have ht:(treeOf fun i=>coolL (tng t i))=t:=rfl
 have hle:=hT.le
 have hg:checkB N t=goodQ N t:=check_good (t:=t) hle
 unfold boundB
 cases hc:checkB N t with
 |false=>
  exact call0 (rbC_ok _ _) 60 Tryz.func30 (rb_no N t) (by rw [ht,hok,decide_eq_true hle, ←hg,hc];rfl) rfl
 |true=>
 obtain ⟨n,hn,hlv,hN,hgj⟩:=check_parts hT hc
 have hs:=sizes_le hn
 have hh:=rb_h N t
 rw [hlv] at hh
 have body:∀i,2*i+1<N→(t (2*i+1)).used=true→∀f,f=(byB t ((2*i+1:Nat):Int) (leftV ((2*i+1:Nat):Int))||byB t ((2*i+1:Nat):Int) (rightV ((2*i+1:Nat):Int)))→∀x' s',TrL Tryz.prog none 0 ((atoms cX1).drop 6) (sS N t n ((2*i+1:Nat):Int) (leftV ((2*i+1:Nat):Int)) (rightV ((2*i+1:Nat):Int)) f 2) x' s'→TrL Tryz.prog none 0 (atoms cX1) (sX N t n ((2*i+1:Nat):Int)) x' s':=fun i hi hu f hf x' s' g=>by
  obtain ⟨k1,k2,⟨l0,l1⟩,r0,r1⟩:=kids_ok hT hc hi
  obtain ⟨f1,_⟩:=nodF_of hn hN hi (hgj _ hi)
  have q1:=kQ_by hT hn hN hgj k1 l0 l1
  have q2:=kQ_by hT hn hN hgj k2 r0 r1
  refine TrL.itemsX (rbC_ok true _) 60 5 _ 0 (Nat.zero_le _) (s1:=sS N t n ((2*i+1:Nat):Int) (leftV ((2*i+1:Nat):Int)) (rightV ((2*i+1:Nat):Int)) false 0) _ (rx_b N t n ((2*i+1:Nat):Int)) (rx_b' N t n _) ?_ (by decide) rfl ?_
  ·rw [inBN hi,Int.toNat_natCast,decide_eq_true hi,show (t (2*i+1)).1=true from hu,decide_eq_true (show (0:Int)≤((2*i+1:Nat):Int) by omega),decide_eq_true (show ((2*i+1:Nat):Int)<64 by omega)]
   rfl
  ·have sl:=s_loop (x:=((2*i+1:Nat):Int)) hT hb hn k1 k2 ⟨l0,l1⟩ ⟨r0,r1⟩ hN (by rw [Int.toNat_natCast];exact f1)
   rw [q1,q2,Bool.false_or, ←hf] at sl
   exact TrL.item 5 (by decide) sl g
 have key:=FnTr.scan (P:=Tryz.prog) (args:=[.rol false 99 N (tng t)]) (h:=[]) (h':=[]) Tryz.func30 rfl 5 0 (fun i:Nat=>sX N t n ((2*i+1:Nat):Int)) (okX t) (N/2)
  (fun y s' g=>TrL.itemsX (rbC_ok true []) 60 5 _ 0 (Nat.zero_le _) (s1:=sX N t n ((2*0+1:Nat):Int)) _ hh (rb_h' N t) (by rw [ht,hok,decide_eq_true hle, ←hg,hc,decide_eq_true (show ((N:Nat):Int)<72 by omega)];rfl) (by decide) rfl g) (by decide) (by kernel_rfl)
  (fun i hi hb _=>?_) (fun _=>⟨slotsOf 157 [(2,.bool false)],[],true⟩) (fun _=>[.bool false]) (fun i hi hb _=>⟨?_,rfl,rfl⟩) (sE:=⟨slotsOf 157 [],[],true⟩) (sE':=⟨slotsOf 157 [(2,.bool true)],[],true⟩) (vE:=[.bool true]) (xE:=.ret) (fun _=>?_) (fun _=>⟨?_,.inl rfl,rfl,rfl⟩)
 ·rw [oneOf_scan (g:=SV.bool) (vF:=fun _:Nat=>false) (vE:=true)] at key
  have hv:scanV (okX t) (N/2) (fun _=>false) true=(true&&(List.range (N/2)).all (okX t)):=by
   unfold scanV;rw [←firstN_all];cases firstN _ _<;>rfl
  rw [hv] at key;exact key
 ·have hi:2*i+1<N:=by omega
  have w2:IntKind.i64.wrap (((2*i+1:Nat):Int)+2)=((2*(i+1)+1:Nat):Int):=by rw [wrapI (by omega) (by omega)];omega
  have o1:decide (((2*i+1:Nat):Int)<((N:Nat):Int))=true:=decide_eq_true (by omega)
  unfold okX at hb
  cases hu:(t (2*i+1)).used with
  |false=>
   have e:=rx_0 N t n ((2*i+1:Nat):Int)
   rw [w2] at e
   exact Tr.cutX (rbC_ok true _) 60 _ 0 (Nat.zero_le _) (s':=sX N t n ((2*(i+1)+1:Nat):Int)) _ e (rx_0' N t n _) (by rw [Int.toNat_natCast,o1,inBN hi,decide_eq_true hi,show (t (2*i+1)).1=false from hu];rfl)
  |true=>
   rw [hu,Bool.not_true,Bool.false_or] at hb
   refine Tr.of_atoms (TrL.itemsX (rbC_ok true _) 60 2 _ 0 (Nat.zero_le _) (s1:=sX N t n ((2*i+1:Nat):Int)) _ (rx_a N t n _) (rx_a' N t n _) (by rw [o1];rfl) (by decide) rfl ?_)
   refine TrL.item 2 (by decide) (s1:=sX N t n ((2*i+1:Nat):Int)) ?_ ?_
   ·refine (show nthC 2 cX= .block 1 cX1 by kernel_rfl)▸Tr.block_pass (Tr.of_atoms (body i hi hu true hb.symm _ _ ?_)) (by simp)
    exact TrL.cutA (rbC_ok true _) 60 _ 0 (Nat.zero_le _) (s':=sX N t n ((2*i+1:Nat):Int)) _ (rx_c N t n _ _ _ 2) (rx_c' N t n _ _ _ 2) rfl (by intro q;cases q)
   ·have e:=rx_d N t n ((2*i+1:Nat):Int)
    rw [w2] at e
    exact TrL.cutA (rbC_ok true _) 60 _ 0 (Nat.zero_le _) (s':=sX N t n ((2*(i+1)+1:Nat):Int)) _ e (rx_d' N t n _) rfl (by intro q;cases q)
 ·have hi:2*i+1<N:=by omega
  have o1:decide (((2*i+1:Nat):Int)<((N:Nat):Int))=true:=decide_eq_true (by omega)
  unfold okX at hb
  rw [Bool.or_assoc,Bool.or_eq_false_iff,Bool.not_eq_false'] at hb
  obtain ⟨hu,hf⟩:=hb
  refine Tr.of_atoms (TrL.itemsX (rbC_ok true _) 60 2 _ 0 (Nat.zero_le _) (s1:=sX N t n ((2*i+1:Nat):Int)) _ (rx_a N t n _) (rx_a' N t n _) (by rw [o1];rfl) (by decide) rfl ?_)
  refine TrL.leave 2 (by decide) (by simp) ?_
  refine (show nthC 2 cX= .block 1 cX1 by kernel_rfl)▸Tr.block_pass (Tr.of_atoms (body i hi hu false hf.symm _ _ ?_)) (by simp)
  exact TrL.cutA (rbC_ok true _) 60 _ 0 (Nat.zero_le _) (s':=⟨slotsOf 157 [(2,.bool false)],[],true⟩) _ (rx_r N t n _ _ _ 2) (rx_r' N t n _ _ _ 2) rfl (by intro q;cases q)
 ·exact Tr.cutX (rbC_ok true _) 60 _ 0 (Nat.zero_le _) (s':=⟨slotsOf 157 [],[],true⟩) _ (rx_e N t n ((2*(N/2)+1:Nat):Int)) (rx_e' N t n _) (by rw [decide_eq_false (show ¬((2*(N/2)+1:Nat):Int)<((N:Nat):Int) by omega)];rfl)
 ·exact TrL.rest (rbC_ok true []) 60 (by kernel_rfl) rfl
end
noncomputable def boundE:Entry Tryz.prog:=.val 37 _ Tryz.func37 (by decide) rfl true 0 (fun vs=>match vs with
 | [.rol false 99 N g]=>some (.bool (boundB N (treeOf g)),[],okT N g&&decide (N≤71))
 |_=>none) fun vs v new e=>by
 split at e
 ·simp only [Option.some.injEq,Prod.mk.injEq,Bool.and_eq_true,decide_eq_true_eq] at e
  obtain ⟨rfl,rfl,h1,h2⟩:=e
  exact FnTr.conv (bound_fn (TOK.of h1 h2)) ⟨VE.tree h1,trivial⟩ trivial (VE.refl _) trivial
 ·cases e
noncomputable def rboundE:Entry Tryz.prog:=.val 30 _ Tryz.func30 (by decide) rfl true 0 (fun vs=>match vs with
 | [.rol false 99 N g]=>some (.bool (boundB N (treeOf g)),[],okT N g&&decide (N≤71)&&bytT N (treeOf g))
 |_=>none) fun vs v new e=>by
 split at e
 ·simp only [Option.some.injEq,Prod.mk.injEq,Bool.and_eq_true,decide_eq_true_eq] at e
  obtain ⟨rfl,rfl,⟨h1,h2⟩,h3⟩:=e
  exact FnTr.conv (rbound_fn (TOK.of h1 h2) h3) ⟨VE.tree h1,trivial⟩ trivial (VE.refl _) trivial
 ·cases e
noncomputable def lbC (l:List (Nat×Bool)):Ctr:=mk (P:=Tryz.prog) [alive15E,largeME,boundE,rboundE] [] (uT l)
theorem lbC_ok (l:List (Nat×Bool)):CtrSound Tryz.prog (lbC l):=mk_sound _ InlOK.nil _ _
theorem lb_a (N:Nat) (t:Nat→Nod):(callS Tryz.prog (lbC [(6,true)]) 60 Tryz.f7 [.rol false 99 N (tng t)] []).map (fun x=>(x.1,x.2.2))=some (.bool true,andT (andT true (andT true (okT0 N fun i=>coolL (tng t i)))) (largeM N (treeOf fun i=>coolL (tng t i)))):=by kernel_rfl
theorem lb_b (N:Nat) (t:Nat→Nod):(callS Tryz.prog (lbC [(6,false)]) 60 Tryz.f7 [.rol false 99 N (tng t)] []).map (fun x=>(x.1,x.2.2))=some (.bool (boundB N t==boundB N t),andT (andT (andT (andT true (andT true (okT0 N fun i=>coolL (tng t i)))) !largeM N (treeOf fun i=>coolL (tng t i))) (andT true ((okT N fun i=>coolL (tng t i))&&decide (N≤71)))) (andT true ((okT N fun i=>coolL (tng t i))&&decide (N≤71)&&bytT N (treeOf fun i=>coolL (tng t i))))):=by kernel_rfl
theorem markBound_law {N:Nat} {t:Nat→Nod} (hT0:okT0 N (tng t)=true) (ok:∀i,i<N→(t i).OK):FnTr Tryz.prog 7 [.rol false 99 N (tng t)] [] (.bool true) []:=by
 have z1:okT0 N (fun i=>coolL (tng t i))=true:=hT0
 have ht:(treeOf fun i=>coolL (tng t i))=t:=rfl
 cases g1:largeM N t with
 |true=>exact call0 (lbC_ok _) 60 Tryz.func7 (lb_a N t) (by rw [ht,z1,g1];rfl) rfl
 |false=>
 have hT:=okT0_up hT0 (largeM_un g1)
 have h1:okT N (fun i=>coolL (tng t i))=true:=hT
 have e1:N≤71:=by have:=largeM_le g1;omega
 have e:=lb_b N t
 rw [beq_self_eq_true] at e
 exact call0 (lbC_ok _) 60 Tryz.func7 e (by rw [ht,z1,g1,h1,decide_eq_true e1,bytT_mk ok];rfl) rfl
end Go.Proofs.YthlnlcijnoadcaaGreatDoor.Mk
end
