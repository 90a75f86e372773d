/- This file proves the contracts of tree's used and Remove (where there is such a leaf). Conditions: a tree of 32 leaves at most. -/
import Derived.Test.YtkcmlclomcidiaaDoorATrT
set_option linter.all false
set_option maxRecDepth 100000
namespace Go.Proofs.YtkcmlclomcidiaaDoor.Tr
open Go Go.Sy
def usedB (N : Nat) (t : Nat → Nod) (i : Int) : Bool := decide (i ≥ 0) && (decide (i < 32) && (decide (2 * i < N) && (t (2 * i).toNat).used))
theorem us_0 (N : Nat) (t : Nat → Nod) (i : Int) : (callS Tryd.prog (usC [(6, false)]) 60 Tryd.f50 [.rol false 99 N (tng t), .int .i64 i] []).map (fun x => (x.1, x.2.2)) = some (.bool false, andT true !decide (i ≥ 0)) := by kernel_rfl
theorem us_1 (N : Nat) (t : Nat → Nod) (i : Int) : (callS Tryd.prog (usC [(6, true), (9, false)]) 60 Tryd.f50 [.rol false 99 N (tng t), .int .i64 i] []).map (fun x => (x.1, x.2.2)) = some (.bool false, andT (andT true (decide (i ≥ 0))) !decide (i < 32)) := by kernel_rfl
theorem us_2 (N : Nat) (t : Nat → Nod) (i : Int) : (callS Tryd.prog (usC [(6, true), (9, true), (16, false)]) 60 Tryd.f50 [.rol false 99 N (tng t), .int .i64 i] []).map (fun x => (x.1, x.2.2)) = some (.bool false, andT (andT (andT true (decide (i ≥ 0))) (decide (i < 32))) !decide (IntKind.i64.wrap (2 * i) < ((N : Nat) : Int))) := by kernel_rfl
theorem us_3 (N : Nat) (t : Nat → Nod) (i : Int) : (callS Tryd.prog (usC [(6, true), (9, true), (16, true)]) 60 Tryd.f50 [.rol false 99 N (tng t), .int .i64 i] []).map (fun x => (x.1, x.2.2)) = some (.bool (t (IntKind.i64.wrap (2 * i)).toNat).used, andT (andT (andT (andT (andT true (decide (i ≥ 0))) (decide (i < 32))) (decide (IntKind.i64.wrap (2 * i) < ((N : Nat) : Int)))) (inB (IntKind.i64.wrap (2 * i)) N)) (true && (decide ((IntKind.i64.wrap (2 * i)).toNat < N) && true))) := by kernel_rfl
theorem used_fn {N : Nat} {t : Nat → Nod} {i : Int} : FnTr Tryd.prog 50 [.rol false 99 N (tng t), .int .i64 i] [] (.bool (usedB N t i)) [] := by
  unfold usedB
  cases h1 : decide (i ≥ 0) with
  | false => exact call0 (usC_ok [(6, false)]) 60 Tryd.func50 (us_0 N t i) (by rw [h1]; rfl) rfl
  | true =>
    cases h2 : decide (i < 32) with
    | false => exact call0 (usC_ok [(6, true), (9, false)]) 60 Tryd.func50 (us_1 N t i) (by rw [h1, h2]; rfl) rfl
    | true =>
      have hw : IntKind.i64.wrap (2 * i) = 2 * i := by
        have := of_decide_eq_true h1
        have := of_decide_eq_true h2
        exact wrapI (by omega) (by omega)
      have e2 := us_2 N t i
      have e3 := us_3 N t i
      rw [hw] at e2 e3
      cases h3 : decide (2 * i < (N : Int)) with
      | false => exact call0 (usC_ok [(6, true), (9, true), (16, false)]) 60 Tryd.func50 e2 (by rw [h1, h2, h3]; rfl) rfl
      | true =>
        have q1 := of_decide_eq_true h1
        have q3 := of_decide_eq_true h3
        exact call0 (usC_ok [(6, true), (9, true), (16, true)]) 60 Tryd.func50 e3 (by rw [h1, h2, h3, inBt (by omega) (by omega), decide_eq_true (show (2 * i).toNat < N by omega)]; rfl) rfl
noncomputable def usedE (b : Bool) : Entry Tryd.prog := .val 50 _ Tryd.func50 (by decide) rfl true 0 (fun vs => match vs with
  | [.rol false 99 N g, .int .i64 i] => some (.bool b, [], okT N g && (usedB N (treeOf g) i == b))
  | _ => none) fun vs v new e => by
  split at e
  · simp only [Option.some.injEq, Prod.mk.injEq, Bool.and_eq_true, beq_iff_eq] at e
    obtain ⟨rfl, rfl, h1, h2⟩ := e
    rw [← h2]
    exact FnTr.conv (used_fn (t := treeOf _)) ⟨VE.tree h1, VE.refl _, trivial⟩ trivial (VE.refl _) trivial
  · cases e
noncomputable def rmC (u : Bool) (l : List (Nat × Bool)) : Ctr := mk (P := Tryd.prog) [checkE true, copyE, usedE u, blankE, leavesE, emptyE] mbInl (uT l)
theorem rmC_ok (u : Bool) (l : List (Nat × Bool)) : CtrSound Tryd.prog (rmC u l) := mk_sound _ mbInl_ok _ _
noncomputable def rmB : Code := bodyOf Tryd.f20
noncomputable def rmH (N : Nat) (t : Nat → Nod) (c : Int) : List Blk := [.b [.int .i64 c], .b [.rows 99 N (tng t)], .b [.rsl 1 99 N N false]]
noncomputable def rmS (N : Nat) (t : Nat → Nod) (i : Int) : St := ⟨slotsOf 52 [(0, .rol false 99 N (tng t)), (1, .int .i64 i), (6, .ptr 0 0 0), (13, .fn (.func 60) [] [.ptr 2 0 0])], rmH N t 0, true⟩
theorem rm_head (N : Nat) (t : Nat → Nod) (i : Int) : resX (cutR [0, 1, 6, 13] 3 ((execL Tryd.prog (rmC true []) 60 0 5 (atoms rmB) ⟨slots0 Tryd.f20.ntmps [.rol false 99 N (tng t), .int .i64 i], [], true⟩).map fun s => (Exit.normal, s))) = some (.normal, (rmS N t i).t, [.b [.int .i64 0], .b [.rows 99 N (tng (treeOf fun i => coolL (tng t i)))], .b [.rsl 1 99 N N false]]) := by kernel_rfl
theorem rm_head' (N : Nat) (t : Nat → Nod) (i : Int) : obX (cutR [0, 1, 6, 13] 3 ((execL Tryd.prog (rmC true []) 60 0 5 (atoms rmB) ⟨slots0 Tryd.f20.ntmps [.rol false 99 N (tng t), .int .i64 i], [], true⟩).map fun s => (Exit.normal, s))) = (andT (andT true (andT true ((okT N fun i => coolL (tng t i)) && decide (N ≤ 71) && checkB N (treeOf fun i => coolL (tng t i)) == true))) (andT (andT true (andT true ((okT N fun i => coolL (tng t i)) && decide (N ≤ 71) && checkB N (treeOf fun i => coolL (tng t i)) == true))) (andT true ((okT N fun i => coolL (tng t i)) && decide (N ≤ 71))))) := by kernel_rfl
noncomputable def rmG (N : Nat) (t : Nat → Nod) (i c : Int) (l : Nat) : List Blk := rmH N t c ++ [.g (some (rfL (nthC 5 rmB) (rmS N t i).t l))]
noncomputable def riS (N : Nat) (t : Nat → Nod) (i c : Int) (l : Nat) (x : Int) : St := ⟨slotsOf 26 [(0, .fn (.yield l) [] []), (1, .ptr 2 0 0), (3, .int .i64 x)], rmG N t i c l, true⟩
theorem ri_head (N : Nat) (t : Nat → Nod) (i : Int) (l : Nat) : resX (cutR [0, 1, 3] 4 ((execL Tryd.prog (rmC true []) 60 4 1 (atoms mbB) ⟨slots0 Tryd.f60.ntmps [.fn (.yield l) [] [], .ptr 2 0 0], rmG N t i 0 l, true⟩).map fun s => (Exit.normal, s))) = some (.normal, (riS N t i 0 l 0).t, rmG N t i 0 l) := by kernel_rfl
theorem ri_head' (N : Nat) (t : Nat → Nod) (i : Int) (l : Nat) : obX (cutR [0, 1, 3] 4 ((execL Tryd.prog (rmC true []) 60 4 1 (atoms mbB) ⟨slots0 Tryd.f60.ntmps [.fn (.yield l) [] [], .ptr 2 0 0], rmG N t i 0 l, true⟩).map fun s => (Exit.normal, s))) = (true) := by kernel_rfl
theorem ri_un (N : Nat) (t : Nat → Nod) (i c : Int) (l : Nat) (x : Int) : resX (cutR [0, 1, 3] 4 (exec Tryd.prog (rmC true [(8, true), (17, false)]) 60 4 (inner (inner (nthC 1 mbB))) (riS N t i c l x))) = some (.normal, (riS N t i c l (IntKind.i64.wrap (x + 2))).t, rmG N t i c l) := by kernel_rfl
theorem ri_un' (N : Nat) (t : Nat → Nod) (i c : Int) (l : Nat) (x : Int) : obX (cutR [0, 1, 3] 4 (exec Tryd.prog (rmC true [(8, true), (17, false)]) 60 4 (inner (inner (nthC 1 mbB))) (riS N t i c l x))) = (andT (andT (andT (andT true (decide (x < ((N : Nat) : Int)))) (inB x N)) (true && (decide (x.toNat < N) && true))) !(t x.toNat).1) := by kernel_rfl
theorem ri_is (N : Nat) (t : Nat → Nod) (i c : Int) (l : Nat) (x : Int) : resX (cutR [0, 1, 3] 4 (exec Tryd.prog (rmC true [(8, true), (17, true)]) 60 4 (inner (inner (nthC 1 mbB))) (riS N t i c l x))) = some (.normal, (riS N t i (IntKind.i64.wrap (c + 1)) l (IntKind.i64.wrap (x + 2))).t, rmG N t i (IntKind.i64.wrap (c + 1)) l) := by kernel_rfl
theorem ri_is' (N : Nat) (t : Nat → Nod) (i c : Int) (l : Nat) (x : Int) : obX (cutR [0, 1, 3] 4 (exec Tryd.prog (rmC true [(8, true), (17, true)]) 60 4 (inner (inner (nthC 1 mbB))) (riS N t i c l x))) = (andT (andT (andT (andT (andT true (decide (x < ((N : Nat) : Int)))) (inB x N)) (true && (decide (x.toNat < N) && true))) (t x.toNat).1) (andT (andT (decide ((rfL (nthC 5 rmB) (rmS N t i).t l).l = l)) (decide ((rfL (nthC 5 rmB) (rmS N t i).t l).l = l))) (decide (l = l)))) := by kernel_rfl
theorem ri_end (N : Nat) (t : Nat → Nod) (i c : Int) (l : Nat) (x : Int) : resX (cutR [0, 1, 3] 4 (exec Tryd.prog (rmC true [(8, false)]) 60 4 (inner (inner (nthC 1 mbB))) (riS N t i c l x))) = some (.exit 0, (riS N t i c l x).t, rmG N t i c l) := by kernel_rfl
theorem ri_end' (N : Nat) (t : Nat → Nod) (i c : Int) (l : Nat) (x : Int) : obX (cutR [0, 1, 3] 4 (exec Tryd.prog (rmC true [(8, false)]) 60 4 (inner (inner (nthC 1 mbB))) (riS N t i c l x))) = (andT true !decide (x < ((N : Nat) : Int))) := by kernel_rfl
noncomputable def rnS (N : Nat) (t u : Nat → Nod) (i c : Int) : St := ⟨slotsOf 52 [(1, .int .i64 i), (7, .rsl 4 99 N N false)], rmH N t c ++ [.gap, .b [.rows 99 N (tng u)]], true⟩
theorem rn_head (N : Nat) (t : Nat → Nod) (i c : Int) : resX (cutR [1, 7] 5 ((execL Tryd.prog (rmC true [(24, false)]) 60 0 3 ((atoms rmB).drop 6) ⟨(rmS N t i).t, rmH N t c ++ [.gap], true⟩).map fun s => (Exit.normal, s))) = some (.normal, (rnS N t t i c).t, rmH N t c ++ [.gap, .b [.rows 99 N (tng (treeOf fun i => coolL (tng t i)))]]) := by kernel_rfl
theorem rn_head' (N : Nat) (t : Nat → Nod) (i c : Int) : obX (cutR [1, 7] 5 ((execL Tryd.prog (rmC true [(24, false)]) 60 0 3 ((atoms rmB).drop 6) ⟨(rmS N t i).t, rmH N t c ++ [.gap], true⟩).map fun s => (Exit.normal, s))) = (andT (andT (andT true (andT true ((okT N fun i => coolL (tng t i)) && usedB N (treeOf fun i => coolL (tng t i)) i == true))) !c == 1) (andT true ((okT N fun i => coolL (tng t i)) && decide (N ≤ 71)))) := by kernel_rfl
theorem rn_z (N : Nat) (t u : Nat → Nod) (i c : Int) : resX (cutR [1, 7] 5 ((execL Tryd.prog (rmC true []) 60 0 1 ((atoms rmB).drop 9) (rnS N t u i c)).map fun s => (Exit.normal, s))) = some (.normal, (rnS N t u i c).t, rmH N t c ++ [.gap, .b [.rows 99 N fun j => mergeP (Nat.beq j (IntKind.i64.wrap (2 * i)).toNat) [.bool false, .int .i64 0, .ints .u8 32 (List.replicate 32 0), .ints .u8 32 (List.replicate 32 0), .ints .u8 32 (List.replicate 32 0), .nl (.slice none 0 0)] (tng u j)]]) := by kernel_rfl
theorem rn_z' (N : Nat) (t u : Nat → Nod) (i c : Int) : obX (cutR [1, 7] 5 ((execL Tryd.prog (rmC true []) 60 0 1 ((atoms rmB).drop 9) (rnS N t u i c)).map fun s => (Exit.normal, s))) = (andT (andT true (inB (IntKind.i64.wrap (2 * i)) N)) (decide ((IntKind.i64.wrap (2 * i)).toNat < N))) := by kernel_rfl
theorem rm_b (N : Nat) (t u : Nat → Nod) (i c : Int) : resX (cutR [7] 5 ((execL Tryd.prog (rmC true []) 60 0 1 ((atoms rmB).drop 10) (rnS N t u i c)).map fun s => (Exit.normal, s))) = some (.normal, slotsOf 52 [(7, .rsl 4 99 N N false)], rmH N t c ++ [.gap, .b [.rows 99 N (tng (blankK (treeOf (tng u)) (leavesV N).toNat (2 * i) (lgN (leavesV N).toNat)))]]) := by kernel_rfl
theorem rm_b' (N : Nat) (t u : Nat → Nod) (i c : Int) : obX (cutR [7] 5 ((execL Tryd.prog (rmC true []) 60 0 1 ((atoms rmB).drop 10) (rnS N t u i c)).map fun s => (Exit.normal, s))) = (andT true (andT true (okT N (tng u) && blankOK N i && decide (N = N) && decide (N = N)))) := by kernel_rfl
noncomputable def rlS (N : Nat) (t u : Nat → Nod) (c : Int) (n : Nat) (ex : Bool) : St := ⟨slotsOf 52 [(7, .rsl 4 99 n n ex)], rmH N t c ++ [.gap, .b [.rows 99 N (tng u)]], true⟩
theorem rl_go (N : Nat) (t u : Nat → Nod) (c : Int) (n : Nat) (ex : Bool) : resX (cutR [7] 5 (exec Tryd.prog (rmC true [(42, true)]) 60 0 (inner (inner (nthC 11 rmB))) (rlS N t u c n ex))) = some (.normal, (rlS N t u c (IntKind.i64.wrap ((n : Int).tdiv 2)).toNat (ex || true)).t, (rlS N t u c n ex).h) := by kernel_rfl
theorem rl_go' (N : Nat) (t u : Nat → Nod) (c : Int) (n : Nat) (ex : Bool) : obX (cutR [7] 5 (exec Tryd.prog (rmC true [(42, true)]) 60 0 (inner (inner (nthC 11 rmB))) (rlS N t u c n ex))) = (andT (andT (andT true (andT (decide (n ≤ N)) ((okT n fun i => coolL (tng u i)) && decide (n ≤ 71) && decide (0 ≤ IntKind.i64.wrap ((leavesV ((n : Nat) : Int)).tdiv 2)) && decide (IntKind.i64.wrap ((leavesV ((n : Nat) : Int)).tdiv 2) ≤ 71)))) (emptyB n (treeOf fun i => coolL (tng u i)) (IntKind.i64.wrap ((leavesV ((n : Nat) : Int)).tdiv 2)).toNat)) (andT (decide (0 ≤ IntKind.i64.wrap ((((n : Nat) : Int)).tdiv 2)) && decide (IntKind.i64.wrap ((((n : Nat) : Int)).tdiv 2) ≤ ((n : Nat) : Int))) (decide (0 ≤ IntKind.i64.wrap ((((n : Nat) : Int)).tdiv 2)) && decide (IntKind.i64.wrap ((((n : Nat) : Int)).tdiv 2) ≤ (((Int.toNat (IntKind.i64.wrap ((((n : Nat) : Int)).tdiv 2))) : Nat) : Int))))) := by kernel_rfl
theorem rl_end (N : Nat) (t u : Nat → Nod) (c : Int) (n : Nat) (ex : Bool) : resX (cutR [7] 5 (exec Tryd.prog (rmC true [(42, false)]) 60 0 (inner (inner (nthC 11 rmB))) (rlS N t u c n ex))) = some (.exit 2, (rlS N t u c n ex).t, (rlS N t u c n ex).h) := by kernel_rfl
theorem rl_end' (N : Nat) (t u : Nat → Nod) (c : Int) (n : Nat) (ex : Bool) : obX (cutR [7] 5 (exec Tryd.prog (rmC true [(42, false)]) 60 0 (inner (inner (nthC 11 rmB))) (rlS N t u c n ex))) = (andT (andT true (andT (decide (n ≤ N)) ((okT n fun i => coolL (tng u i)) && decide (n ≤ 71) && decide (0 ≤ IntKind.i64.wrap ((leavesV ((n : Nat) : Int)).tdiv 2)) && decide (IntKind.i64.wrap ((leavesV ((n : Nat) : Int)).tdiv 2) ≤ 71)))) !emptyB n (treeOf fun i => coolL (tng u i)) (IntKind.i64.wrap ((leavesV ((n : Nat) : Int)).tdiv 2)).toNat) := by kernel_rfl
end Go.Proofs.YtkcmlclomcidiaaDoor.Tr
