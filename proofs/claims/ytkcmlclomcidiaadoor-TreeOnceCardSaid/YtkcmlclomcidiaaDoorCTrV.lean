/- This file holds the texts TrU, TrV, a section each. No conditions beyond those in the theorems. -/
import Derived.Test.YtkcmlclomcidiaaDoorCTrT
set_option linter.all false
set_option maxRecDepth 100000
section
namespace Go.Proofs.YtkcmlclomcidiaaDoor.Tr
open Go Go.Sy
def usedB (N : Nat) (t : Nat → Nod) (i : Int) : Bool := decide (i ≥ 0) && (decide (i < 32) && (decide (2 * i < N) && (t (2 * i).toNat).used))
theorem us_0 (N : Nat) (t : Nat → Nod) (i : Int) : (callS Tryd.prog (usC [(6, false)]) 60 Tryd.f50 [.rol false 99 N (tng t), .int .i64 i] []).map (fun x => (x.1, x.2.2)) = some (.bool false, andT true !decide (i ≥ 0)) := by kernel_rfl
theorem us_1 (N : Nat) (t : Nat → Nod) (i : Int) : (callS Tryd.prog (usC [(6, true), (9, false)]) 60 Tryd.f50 [.rol false 99 N (tng t), .int .i64 i] []).map (fun x => (x.1, x.2.2)) = some (.bool false, andT (andT true (decide (i ≥ 0))) !decide (i < 32)) := by kernel_rfl
theorem us_2 (N : Nat) (t : Nat → Nod) (i : Int) : (callS Tryd.prog (usC [(6, true), (9, true), (16, false)]) 60 Tryd.f50 [.rol false 99 N (tng t), .int .i64 i] []).map (fun x => (x.1, x.2.2)) = some (.bool false, andT (andT (andT true (decide (i ≥ 0))) (decide (i < 32))) !decide (IntKind.i64.wrap (2 * i) < ((N : Nat) : Int))) := by kernel_rfl
theorem us_3 (N : Nat) (t : Nat → Nod) (i : Int) : (callS Tryd.prog (usC [(6, true), (9, true), (16, true)]) 60 Tryd.f50 [.rol false 99 N (tng t), .int .i64 i] []).map (fun x => (x.1, x.2.2)) = some (.bool (t (IntKind.i64.wrap (2 * i)).toNat).used, andT (andT (andT (andT (andT true (decide (i ≥ 0))) (decide (i < 32))) (decide (IntKind.i64.wrap (2 * i) < ((N : Nat) : Int)))) (inB (IntKind.i64.wrap (2 * i)) N)) (true && (decide ((IntKind.i64.wrap (2 * i)).toNat < N) && true))) := by kernel_rfl
theorem used_fn {N : Nat} {t : Nat → Nod} {i : Int} : FnTr Tryd.prog 50 [.rol false 99 N (tng t), .int .i64 i] [] (.bool (usedB N t i)) [] := by
  unfold usedB
  cases h1 : decide (i ≥ 0) with
  | false => exact call0 (usC_ok [(6, false)]) 60 Tryd.func50 (us_0 N t i) (by rw [h1]; rfl) rfl
  | true =>
    cases h2 : decide (i < 32) with
    | false => exact call0 (usC_ok [(6, true), (9, false)]) 60 Tryd.func50 (us_1 N t i) (by rw [h1, h2]; rfl) rfl
    | true =>
      have hw : IntKind.i64.wrap (2 * i) = 2 * i := by
        have := of_decide_eq_true h1
        have := of_decide_eq_true h2
        exact wrapI (by omega) (by omega)
      have e2 := us_2 N t i
      have e3 := us_3 N t i
      rw [hw] at e2 e3
      cases h3 : decide (2 * i < (N : Int)) with
      | false => exact call0 (usC_ok [(6, true), (9, true), (16, false)]) 60 Tryd.func50 e2 (by rw [h1, h2, h3]; rfl) rfl
      | true =>
        have q1 := of_decide_eq_true h1
        have q3 := of_decide_eq_true h3
        exact call0 (usC_ok [(6, true), (9, true), (16, true)]) 60 Tryd.func50 e3 (by rw [h1, h2, h3, inBt (by omega) (by omega), decide_eq_true (show (2 * i).toNat < N by omega)]; rfl) rfl
noncomputable def usedE (b : Bool) : Entry Tryd.prog := .val 50 _ Tryd.func50 (by decide) rfl true 0 (fun vs => match vs with
  | [.rol false 99 N g, .int .i64 i] => some (.bool b, [], okT N g && (usedB N (treeOf g) i == b))
  | _ => none) fun vs v new e => by
  split at e
  · simp only [Option.some.injEq, Prod.mk.injEq, Bool.and_eq_true, beq_iff_eq] at e
    obtain ⟨rfl, rfl, h1, h2⟩ := e
    rw [← h2]
    exact FnTr.conv (used_fn (t := treeOf _)) ⟨VE.tree h1, VE.refl _, trivial⟩ trivial (VE.refl _) trivial
  · cases e
noncomputable def rmC (u : Bool) (l : List (Nat × Bool)) : Ctr := mk (P := Tryd.prog) [checkE true, copyE, usedE u, blankE, leavesE, emptyE] mbInl (uT l)
theorem rmC_ok (u : Bool) (l : List (Nat × Bool)) : CtrSound Tryd.prog (rmC u l) := mk_sound _ mbInl_ok _ _
noncomputable def rmB : Code := bodyOf Tryd.f20
noncomputable def rmH (N : Nat) (t : Nat → Nod) (c : Int) : List Blk := [.b [.int .i64 c], .b [.rows 99 N (tng t)], .b [.rsl 1 99 N N false]]
noncomputable def rmS (N : Nat) (t : Nat → Nod) (i : Int) : St := ⟨slotsOf 52 [(0, .rol false 99 N (tng t)), (1, .int .i64 i), (6, .ptr 0 0 0), (13, .fn (.func 60) [] [.ptr 2 0 0])], rmH N t 0, true⟩
theorem rm_head (N : Nat) (t : Nat → Nod) (i : Int) : resX (cutR [0, 1, 6, 13] 3 ((execL Tryd.prog (rmC true []) 60 0 5 (atoms rmB) ⟨slots0 Tryd.f20.ntmps [.rol false 99 N (tng t), .int .i64 i], [], true⟩).map fun s => (Exit.normal, s))) = some (.normal, (rmS N t i).t, [.b [.int .i64 0], .b [.rows 99 N (tng (treeOf fun i => coolL (tng t i)))], .b [.rsl 1 99 N N false]]) := by kernel_rfl
theorem rm_head' (N : Nat) (t : Nat → Nod) (i : Int) : obX (cutR [0, 1, 6, 13] 3 ((execL Tryd.prog (rmC true []) 60 0 5 (atoms rmB) ⟨slots0 Tryd.f20.ntmps [.rol false 99 N (tng t), .int .i64 i], [], true⟩).map fun s => (Exit.normal, s))) = (andT (andT true (andT true ((okT N fun i => coolL (tng t i)) && decide (N ≤ 71) && checkB N (treeOf fun i => coolL (tng t i)) == true))) (andT (andT true (andT true ((okT N fun i => coolL (tng t i)) && decide (N ≤ 71) && checkB N (treeOf fun i => coolL (tng t i)) == true))) (andT true ((okT N fun i => coolL (tng t i)) && decide (N ≤ 71))))) := by kernel_rfl
noncomputable def rmG (N : Nat) (t : Nat → Nod) (i c : Int) (l : Nat) : List Blk := rmH N t c ++ [.g (some (rfL (nthC 5 rmB) (rmS N t i).t l))]
noncomputable def riS (N : Nat) (t : Nat → Nod) (i c : Int) (l : Nat) (x : Int) : St := ⟨slotsOf 26 [(0, .fn (.yield l) [] []), (1, .ptr 2 0 0), (3, .int .i64 x)], rmG N t i c l, true⟩
theorem ri_head (N : Nat) (t : Nat → Nod) (i : Int) (l : Nat) : resX (cutR [0, 1, 3] 4 ((execL Tryd.prog (rmC true []) 60 4 1 (atoms mbB) ⟨slots0 Tryd.f60.ntmps [.fn (.yield l) [] [], .ptr 2 0 0], rmG N t i 0 l, true⟩).map fun s => (Exit.normal, s))) = some (.normal, (riS N t i 0 l 0).t, rmG N t i 0 l) := by kernel_rfl
theorem ri_head' (N : Nat) (t : Nat → Nod) (i : Int) (l : Nat) : obX (cutR [0, 1, 3] 4 ((execL Tryd.prog (rmC true []) 60 4 1 (atoms mbB) ⟨slots0 Tryd.f60.ntmps [.fn (.yield l) [] [], .ptr 2 0 0], rmG N t i 0 l, true⟩).map fun s => (Exit.normal, s))) = (true) := by kernel_rfl
theorem ri_un (N : Nat) (t : Nat → Nod) (i c : Int) (l : Nat) (x : Int) : resX (cutR [0, 1, 3] 4 (exec Tryd.prog (rmC true [(8, true), (17, false)]) 60 4 (inner (inner (nthC 1 mbB))) (riS N t i c l x))) = some (.normal, (riS N t i c l (IntKind.i64.wrap (x + 2))).t, rmG N t i c l) := by kernel_rfl
theorem ri_un' (N : Nat) (t : Nat → Nod) (i c : Int) (l : Nat) (x : Int) : obX (cutR [0, 1, 3] 4 (exec Tryd.prog (rmC true [(8, true), (17, false)]) 60 4 (inner (inner (nthC 1 mbB))) (riS N t i c l x))) = (andT (andT (andT (andT true (decide (x < ((N : Nat) : Int)))) (inB x N)) (true && (decide (x.toNat < N) && true))) !(t x.toNat).1) := by kernel_rfl
theorem ri_is (N : Nat) (t : Nat → Nod) (i c : Int) (l : Nat) (x : Int) : resX (cutR [0, 1, 3] 4 (exec Tryd.prog (rmC true [(8, true), (17, true)]) 60 4 (inner (inner (nthC 1 mbB))) (riS N t i c l x))) = some (.normal, (riS N t i (IntKind.i64.wrap (c + 1)) l (IntKind.i64.wrap (x + 2))).t, rmG N t i (IntKind.i64.wrap (c + 1)) l) := by kernel_rfl
theorem ri_is' (N : Nat) (t : Nat → Nod) (i c : Int) (l : Nat) (x : Int) : obX (cutR [0, 1, 3] 4 (exec Tryd.prog (rmC true [(8, true), (17, true)]) 60 4 (inner (inner (nthC 1 mbB))) (riS N t i c l x))) = (andT (andT (andT (andT (andT true (decide (x < ((N : Nat) : Int)))) (inB x N)) (true && (decide (x.toNat < N) && true))) (t x.toNat).1) (andT (andT (decide ((rfL (nthC 5 rmB) (rmS N t i).t l).l = l)) (decide ((rfL (nthC 5 rmB) (rmS N t i).t l).l = l))) (decide (l = l)))) := by kernel_rfl
theorem ri_end (N : Nat) (t : Nat → Nod) (i c : Int) (l : Nat) (x : Int) : resX (cutR [0, 1, 3] 4 (exec Tryd.prog (rmC true [(8, false)]) 60 4 (inner (inner (nthC 1 mbB))) (riS N t i c l x))) = some (.exit 0, (riS N t i c l x).t, rmG N t i c l) := by kernel_rfl
theorem ri_end' (N : Nat) (t : Nat → Nod) (i c : Int) (l : Nat) (x : Int) : obX (cutR [0, 1, 3] 4 (exec Tryd.prog (rmC true [(8, false)]) 60 4 (inner (inner (nthC 1 mbB))) (riS N t i c l x))) = (andT true !decide (x < ((N : Nat) : Int))) := by kernel_rfl
noncomputable def rnS (N : Nat) (t u : Nat → Nod) (i c : Int) : St := ⟨slotsOf 52 [(1, .int .i64 i), (7, .rsl 4 99 N N false)], rmH N t c ++ [.gap, .b [.rows 99 N (tng u)]], true⟩
theorem rn_head (N : Nat) (t : Nat → Nod) (i c : Int) : resX (cutR [1, 7] 5 ((execL Tryd.prog (rmC true [(24, false)]) 60 0 3 ((atoms rmB).drop 6) ⟨(rmS N t i).t, rmH N t c ++ [.gap], true⟩).map fun s => (Exit.normal, s))) = some (.normal, (rnS N t t i c).t, rmH N t c ++ [.gap, .b [.rows 99 N (tng (treeOf fun i => coolL (tng t i)))]]) := by kernel_rfl
theorem rn_head' (N : Nat) (t : Nat → Nod) (i c : Int) : obX (cutR [1, 7] 5 ((execL Tryd.prog (rmC true [(24, false)]) 60 0 3 ((atoms rmB).drop 6) ⟨(rmS N t i).t, rmH N t c ++ [.gap], true⟩).map fun s => (Exit.normal, s))) = (andT (andT (andT true (andT true ((okT N fun i => coolL (tng t i)) && usedB N (treeOf fun i => coolL (tng t i)) i == true))) !c == 1) (andT true ((okT N fun i => coolL (tng t i)) && decide (N ≤ 71)))) := by kernel_rfl
theorem rn_z (N : Nat) (t u : Nat → Nod) (i c : Int) : resX (cutR [1, 7] 5 ((execL Tryd.prog (rmC true []) 60 0 1 ((atoms rmB).drop 9) (rnS N t u i c)).map fun s => (Exit.normal, s))) = some (.normal, (rnS N t u i c).t, rmH N t c ++ [.gap, .b [.rows 99 N fun j => mergeP (Nat.beq j (IntKind.i64.wrap (2 * i)).toNat) [.bool false, .int .i64 0, .ints .u8 32 (List.replicate 32 0), .ints .u8 32 (List.replicate 32 0), .ints .u8 32 (List.replicate 32 0), .nl (.slice none 0 0)] (tng u j)]]) := by kernel_rfl
theorem rn_z' (N : Nat) (t u : Nat → Nod) (i c : Int) : obX (cutR [1, 7] 5 ((execL Tryd.prog (rmC true []) 60 0 1 ((atoms rmB).drop 9) (rnS N t u i c)).map fun s => (Exit.normal, s))) = (andT (andT true (inB (IntKind.i64.wrap (2 * i)) N)) (decide ((IntKind.i64.wrap (2 * i)).toNat < N))) := by kernel_rfl
theorem rm_b (N : Nat) (t u : Nat → Nod) (i c : Int) : resX (cutR [7] 5 ((execL Tryd.prog (rmC true []) 60 0 1 ((atoms rmB).drop 10) (rnS N t u i c)).map fun s => (Exit.normal, s))) = some (.normal, slotsOf 52 [(7, .rsl 4 99 N N false)], rmH N t c ++ [.gap, .b [.rows 99 N (tng (blankK (treeOf (tng u)) (leavesV N).toNat (2 * i) (lgN (leavesV N).toNat)))]]) := by kernel_rfl
theorem rm_b' (N : Nat) (t u : Nat → Nod) (i c : Int) : obX (cutR [7] 5 ((execL Tryd.prog (rmC true []) 60 0 1 ((atoms rmB).drop 10) (rnS N t u i c)).map fun s => (Exit.normal, s))) = (andT true (andT true (okT N (tng u) && blankOK N i && decide (N = N) && decide (N = N)))) := by kernel_rfl
noncomputable def rlS (N : Nat) (t u : Nat → Nod) (c : Int) (n : Nat) (ex : Bool) : St := ⟨slotsOf 52 [(7, .rsl 4 99 n n ex)], rmH N t c ++ [.gap, .b [.rows 99 N (tng u)]], true⟩
theorem rl_go (N : Nat) (t u : Nat → Nod) (c : Int) (n : Nat) (ex : Bool) : resX (cutR [7] 5 (exec Tryd.prog (rmC true [(42, true)]) 60 0 (inner (inner (nthC 11 rmB))) (rlS N t u c n ex))) = some (.normal, (rlS N t u c (IntKind.i64.wrap ((n : Int).tdiv 2)).toNat (ex || true)).t, (rlS N t u c n ex).h) := by kernel_rfl
theorem rl_go' (N : Nat) (t u : Nat → Nod) (c : Int) (n : Nat) (ex : Bool) : obX (cutR [7] 5 (exec Tryd.prog (rmC true [(42, true)]) 60 0 (inner (inner (nthC 11 rmB))) (rlS N t u c n ex))) = (andT (andT (andT true (andT (decide (n ≤ N)) ((okT n fun i => coolL (tng u i)) && decide (n ≤ 71) && decide (0 ≤ IntKind.i64.wrap ((leavesV ((n : Nat) : Int)).tdiv 2)) && decide (IntKind.i64.wrap ((leavesV ((n : Nat) : Int)).tdiv 2) ≤ 71)))) (emptyB n (treeOf fun i => coolL (tng u i)) (IntKind.i64.wrap ((leavesV ((n : Nat) : Int)).tdiv 2)).toNat)) (andT (decide (0 ≤ IntKind.i64.wrap ((((n : Nat) : Int)).tdiv 2)) && decide (IntKind.i64.wrap ((((n : Nat) : Int)).tdiv 2) ≤ ((n : Nat) : Int))) (decide (0 ≤ IntKind.i64.wrap ((((n : Nat) : Int)).tdiv 2)) && decide (IntKind.i64.wrap ((((n : Nat) : Int)).tdiv 2) ≤ (((Int.toNat (IntKind.i64.wrap ((((n : Nat) : Int)).tdiv 2))) : Nat) : Int))))) := by kernel_rfl
theorem rl_end (N : Nat) (t u : Nat → Nod) (c : Int) (n : Nat) (ex : Bool) : resX (cutR [7] 5 (exec Tryd.prog (rmC true [(42, false)]) 60 0 (inner (inner (nthC 11 rmB))) (rlS N t u c n ex))) = some (.exit 2, (rlS N t u c n ex).t, (rlS N t u c n ex).h) := by kernel_rfl
theorem rl_end' (N : Nat) (t u : Nat → Nod) (c : Int) (n : Nat) (ex : Bool) : obX (cutR [7] 5 (exec Tryd.prog (rmC true [(42, false)]) 60 0 (inner (inner (nthC 11 rmB))) (rlS N t u c n ex))) = (andT (andT true (andT (decide (n ≤ N)) ((okT n fun i => coolL (tng u i)) && decide (n ≤ 71) && decide (0 ≤ IntKind.i64.wrap ((leavesV ((n : Nat) : Int)).tdiv 2)) && decide (IntKind.i64.wrap ((leavesV ((n : Nat) : Int)).tdiv 2) ≤ 71)))) !emptyB n (treeOf fun i => coolL (tng u i)) (IntKind.i64.wrap ((leavesV ((n : Nat) : Int)).tdiv 2)).toNat) := by kernel_rfl
end Go.Proofs.YtkcmlclomcidiaaDoor.Tr
end
section
namespace Go.Proofs.YtkcmlclomcidiaaDoor.Tr
open Go Go.Sy
theorem TOK.le' {N n : Nat} {t : Nat → Nod} (h : TOK N t) (hn : n ≤ N) : TOK n t :=
  ⟨Nat.le_trans hn h.le, fun i hi => h.un i (by omega), fun i hi => h.key i (by omega), fun i hi => h.sign i (by omega), fun i hi => h.par i (by omega)⟩
theorem TOK.upd {N x : Nat} {t : Nat → Nod} {n : Nod} (h : TOK N t) (h1 : n.un.length ≤ 274877906944) (h2 : n.key.length = 32) (h3 : n.sign.length = 32) (h4 : n.par.length = 32) : TOK N (updT t x n) := by
  refine ⟨h.le, fun i hi => ?_, fun i hi => ?_, fun i hi => ?_, fun i hi => ?_⟩ <;> unfold updT <;> by_cases hx : i = x
  · rw [if_pos hx]; exact h1
  · rw [if_neg hx]; exact h.un i hi
  · rw [if_pos hx]; exact h2
  · rw [if_neg hx]; exact h.key i hi
  · rw [if_pos hx]; exact h3
  · rw [if_neg hx]; exact h.sign i hi
  · rw [if_pos hx]; exact h4
  · rw [if_neg hx]; exact h.par i hi
theorem TOK.zero {N x : Nat} {t : Nat → Nod} (h : TOK N t) : TOK N (updT t x zeroN) := h.upd (by simp [zeroN]) (by simp [zeroN]) (by simp [zeroN]) (by simp [zeroN])
theorem TOK.blank {N : Nat} {t : Nat → Nod} (h : TOK N t) (m : Nat) (x : Int) : ∀ k, TOK N (blankK t m x k)
  | 0 => h
  | k + 1 => (TOK.blank h m x k).zero
def cntK (t : Nat → Nod) : Nat → Nat
  | 0 => 0
  | j + 1 => cntK t j + (bif (t (2 * j)).used then 1 else 0)
theorem cntK_le (t : Nat → Nod) : ∀ j, cntK t j ≤ j
  | 0 => Nat.le_refl _
  | j + 1 => by
    have := cntK_le t j
    unfold cntK
    cases (t (2 * j)).used <;> simp <;> omega
def halfK (N : Nat) : Nat → Nat
  | 0 => N
  | k + 1 => halfK N k / 2
def exK : Nat → Bool
  | 0 => false
  | _ + 1 => true
theorem halfK_le (N : Nat) : ∀ k, halfK N k ≤ N
  | 0 => Nat.le_refl _
  | k + 1 => by have := halfK_le N k; unfold halfK; omega
def halfB (n : Nat) (t : Nat → Nod) : Bool := emptyB n t (IntKind.i64.wrap ((leavesV n).tdiv 2)).toNat
theorem leaves_half0 : ((List.range 72).all fun n => decide (0 ≤ IntKind.i64.wrap ((leavesV (n : Nat)).tdiv 2)) && decide (IntKind.i64.wrap ((leavesV (n : Nat)).tdiv 2) ≤ 71)) = true := by decide +kernel
theorem leaves_half {n : Nat} (hn : n ≤ 71) : decide (0 ≤ IntKind.i64.wrap ((leavesV (n : Nat)).tdiv 2)) = true ∧ decide (IntKind.i64.wrap ((leavesV (n : Nat)).tdiv 2) ≤ 71) = true := by
  have := List.all_eq_true.1 leaves_half0 n (List.mem_range.2 (by omega))
  exact Bool.and_eq_true_iff.1 this
section
variable {N : Nat} {t : Nat → Nod} {i : Int}
theorem ri_all (hle : N ≤ 71) (l : Nat) :
    FnTr Tryd.prog 60 [.fn (.yield l) [] [], .ptr 2 0 0] (rmG N t i 0 l) (.tup []) (rmG N t i (cntK t ((N + 1) / 2)) l) := by
  refine FnTr.toEnd (h := rmG N t i 0 l) Tryd.func60 rfl 1 0 (fun j => riS N t i (cntK t j) l ((2 * j : Nat) : Int)) ((N + 1) / 2)
    (fun y s' g => TrL.itemsX (rmC_ok true []) 60 1 _ 4 (Nat.le_refl 4) (s1 := riS N t i 0 l 0) _ (ri_head N t i l) (ri_head' N t i l) rfl (by decide) rfl g) (by decide) (by kernel_rfl)
    (fun j hj => ?_) (sE := riS N t i (cntK t ((N + 1) / 2)) l ((2 * ((N + 1) / 2) : Nat) : Int)) (s' := riS N t i (cntK t ((N + 1) / 2)) l ((2 * ((N + 1) / 2) : Nat) : Int)) (x := .normal) (v := []) ?_ ⟨rfl, rfl⟩ (.inr rfl) rfl
  · have hlt : 2 * j < N := by omega
    have hc := cntK_le t j
    have hw : IntKind.i64.wrap (((2 * j : Nat) : Int) + 2) = ((2 * (j + 1) : Nat) : Int) := by rw [wrapI (by omega) (by omega)]; omega
    cases hu : (t (2 * j)).used with
    | false =>
      have e := ri_un N t i (cntK t j) l ((2 * j : Nat) : Int)
      rw [hw] at e
      have : cntK t (j + 1) = cntK t j := by simp [cntK, hu]
      rw [this]
      exact Tr.cutX (rmC_ok true [(8, true), (17, false)]) 60 _ 4 (Nat.le_refl _) (s' := riS N t i (cntK t j) l ((2 * (j + 1) : Nat) : Int)) _ e (ri_un' N t i _ l _) (by
        rw [Int.toNat_natCast, ltN hlt, inBN hlt, decide_eq_true hlt, show (t (2 * j)).1 = false from hu]; rfl)
    | true =>
      have e := ri_is N t i (cntK t j) l ((2 * j : Nat) : Int)
      rw [hw, wrapS (by omega)] at e
      have : cntK t (j + 1) = cntK t j + 1 := by simp [cntK, hu]
      rw [this]
      exact Tr.cutX (rmC_ok true [(8, true), (17, true)]) 60 _ 4 (Nat.le_refl _) (s' := riS N t i ((cntK t j + 1 : Nat) : Int) l ((2 * (j + 1) : Nat) : Int)) _ e (ri_is' N t i _ l _) (by
        rw [Int.toNat_natCast, ltN hlt, inBN hlt, decide_eq_true hlt, show (t (2 * j)).1 = true from hu, decide_eq_true (show (rfL (nthC 5 rmB) (rmS N t i).t l).l = l from rfl), decide_eq_true rfl]; rfl)
  · exact Tr.cutX (rmC_ok true [(8, false)]) 60 _ 4 (Nat.le_refl _) _ (ri_end N t i _ l _) (ri_end' N t i _ l _) (by rw [nltN (by omega)]; rfl)
theorem remove_fn {a m K : Nat} (hT : TOK N t) (hc : checkB N t = true) (hu : usedB N t a = true) (hcnt : ((cntK t ((N + 1) / 2) : Int) == 1) = false) (hm : m ∈ sizes) (hv : leavesV N = m) (hN : N = 2 * m - 1) (ha : a < m)
    (hK : ∀ k, k < K → halfB (halfK N k) (blankK (updT t (2 * a) zeroN) m (2 * (a : Int)) (lgN m)) = true) (hE : halfB (halfK N K) (blankK (updT t (2 * a) zeroN) m (2 * (a : Int)) (lgN m)) = false) :
    FnTr Tryd.prog 20 [.rol false 99 N (tng t), .int .i64 a] [] (.tup [.rsl 0 99 (halfK N K) (halfK N K) (exK K), .nl .nilIface]) [.b [.rows 99 N (tng (blankK (updT t (2 * a) zeroN) m (2 * (a : Int)) (lgN m)))]] := by
  have hok : okT N (fun i => coolL (tng t i)) = true := okT_tng hT
  have hle := hT.le
  have hs := sizes_le hm
  generalize hU : blankK (updT t (2 * a) zeroN) m (2 * (a : Int)) (lgN m) = U at *
  have hUT : TOK N U := by rw [← hU]; exact hT.zero.blank _ _ _
  have hw : IntKind.i64.wrap (2 * (a : Int)) = ((2 * a : Nat) : Int) := by rw [wrapI (by omega) (by omega)]; omega
  have hlt : 2 * a < N := by omega
  generalize hcn : (cntK t ((N + 1) / 2) : Int) = c at *
  refine FnTr.sel (v := .tup [.rsl 4 99 (halfK N K) (halfK N K) (exK K), .nl .nilIface]) (h1 := (rlS N t U c (halfK N K) (exK K)).h) [4] ?_ rfl
  refine FnTr.rest (rmC_ok true []) 60 12 Tryd.func20 rfl (fun s' y h => ?_) (s := rlS N t U c (halfK N K) (exK K)) (p := true) (by kernel_rfl) rfl
  refine TrL.itemsX (rmC_ok true []) 60 5 _ 3 (Nat.zero_le _) (s1 := rmS N t a) _ (rm_head N t a) (rm_head' N t a) (by rw [hok, decide_eq_true hle, show checkB N (treeOf fun i => coolL (tng t i)) = true from hc]; rfl) (by decide) rfl ?_
  refine TrL.item 5 (by decide) (s1 := ⟨(rmS N t a).t, rmH N t c ++ [.gap], true⟩) ?_ ?_
  · exact Tr.rangeB 0 (by kernel_rfl) (f := 60) (first := []) (capt := [.ptr 2 0 0]) true Tryd.func60 (by decide) rfl (by kernel_rfl) (fun l => by have := ri_all (t := t) (i := (a : Int)) hle l; rw [hcn] at this; exact this)
      (fun l => ⟨_, rfl, rfl, by simp [rfL], rfl⟩) (fun l => rfl)
  refine TrL.itemsD (rmC_ok true [(24, false)]) 60 6 3 _ 5 (Nat.zero_le _) (s1 := rnS N t t a c) _ (rn_head N t a c) (rn_head' N t a c) (by rw [hok, decide_eq_true hle, show usedB N (treeOf fun i => coolL (tng t i)) a = true from hu, hcnt]; rfl) (by decide) rfl ?_
  have e1 := rn_z N t t a c
  rw [hw, Int.toNat_natCast, z_merge] at e1
  refine TrL.itemsD (rmC_ok true []) 60 9 1 _ 5 (Nat.zero_le _) (s1 := rnS N t (updT t (2 * a) zeroN) a c) _ e1 (rn_z' N t t a c) (by rw [hw, Int.toNat_natCast, inBN hlt, decide_eq_true hlt]; rfl) (by decide) rfl ?_
  have e2 := rm_b N t (updT t (2 * a) zeroN) a c
  rw [hv, Int.toNat_natCast, show treeOf (tng (updT t (2 * a) zeroN)) = updT t (2 * a) zeroN from rfl, hU] at e2
  refine TrL.itemsD (rmC_ok true []) 60 10 1 _ 5 (Nat.zero_le _) (s1 := rlS N t U c (halfK N 0) (exK 0)) _ e2 (rm_b' N t (updT t (2 * a) zeroN) a c) (by
    rw [okT_tng hT.zero, show blankOK N (a : Int) = true from List.any_eq_true.2 ⟨m, hm, by
      rw [hv, decide_eq_true hN, beq_self_eq_true, decide_eq_true (show (0 : Int) ≤ (a : Int) by omega), decide_eq_true (show (a : Int) < (m : Int) by omega)]; rfl⟩, decide_eq_true rfl]; rfl) (by decide) rfl ?_
  refine TrL.item 11 (by decide) (s1 := rlS N t U c (halfK N K) (exK K)) (Tr.loop 2 (by kernel_rfl) (fun k => rlS N t U c (halfK N k) (exK k)) K (fun k hk => ?_) ?_) h
  · have hk71 := halfK_le N k
    have e3 := rl_go N t U c (halfK N k) (exK k)
    have hdiv : IntKind.i64.wrap ((halfK N k : Int).tdiv 2) = ((halfK N (k + 1) : Nat) : Int) := by
      have : (halfK N k : Int).tdiv 2 = ((halfK N k / 2 : Nat) : Int) := rfl
      rw [this, wrapI (by omega) (by omega)]; rfl
    have hl1 : halfK N (k + 1) ≤ halfK N k := by show halfK N k / 2 ≤ _; omega
    rw [hdiv, Int.toNat_natCast, Bool.or_true] at e3
    obtain ⟨g1, g2⟩ := leaves_half (n := halfK N k) (by omega)
    refine Tr.cutX (rmC_ok true [(42, true)]) 60 _ 5 (Nat.zero_le _) (s' := rlS N t U c (halfK N (k + 1)) (exK (k + 1))) _ e3 (rl_go' N t U c (halfK N k) (exK k)) ?_
    rw [hdiv, Int.toNat_natCast, decide_eq_true hk71, show okT (halfK N k) (fun i => coolL (tng U i)) = true from okT_tng (hUT.le' hk71), decide_eq_true (show halfK N k ≤ 71 by omega), g1, g2, show emptyB (halfK N k) (treeOf fun i => coolL (tng U i)) (IntKind.i64.wrap ((leavesV ((halfK N k : Nat) : Int)).tdiv 2)).toNat = true from hK k hk,
      decide_eq_true (show (0 : Int) ≤ ((halfK N (k + 1) : Nat) : Int) by omega), decide_eq_true (show ((halfK N (k + 1) : Nat) : Int) ≤ ((halfK N k : Nat) : Int) by omega), decide_eq_true (show ((halfK N (k + 1) : Nat) : Int) ≤ ((halfK N (k + 1) : Nat) : Int) by omega)]
    rfl
  · have hk71 := halfK_le N K
    obtain ⟨g1, g2⟩ := leaves_half (n := halfK N K) (by omega)
    refine Tr.cutX (rmC_ok true [(42, false)]) 60 _ 5 (Nat.zero_le _) _ (rl_end N t U c (halfK N K) (exK K)) (rl_end' N t U c (halfK N K) (exK K)) ?_
    rw [decide_eq_true hk71, show okT (halfK N K) (fun i => coolL (tng U i)) = true from okT_tng (hUT.le' hk71), decide_eq_true (show halfK N K ≤ 71 by omega), g1, g2, show emptyB (halfK N K) (treeOf fun i => coolL (tng U i)) (IntKind.i64.wrap ((leavesV ((halfK N K : Nat) : Int)).tdiv 2)).toNat = false from hE]
    rfl
end
end Go.Proofs.YtkcmlclomcidiaaDoor.Tr
end
