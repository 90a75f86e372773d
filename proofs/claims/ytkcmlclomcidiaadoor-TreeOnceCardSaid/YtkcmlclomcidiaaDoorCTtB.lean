/- This file proves the contracts of tree's Resolution, of the reference's and of burrownum's Ints. Conditions: trees of 71 nodes at most. -/
import Derived.Test.YtkcmlclomcidiaaDoorCTtA
set_option linter.all false
set_option maxRecDepth 100000
namespace Go.Proofs.YtkcmlclomcidiaaDoor.Tr
open Go Go.Sy
noncomputable def rnC (b : Bool) (l : List (Nat × Bool)) : Ctr := mk (P := Tryd.prog) [checkE b, resE 8 (resolve_fn 8)] [] (uT l)
theorem rnC_ok (b : Bool) (l : List (Nat × Bool)) : CtrSound Tryd.prog (rnC b l) := mk_sound _ InlOK.nil _ _
theorem rn_a (N : Nat) (t : Nat → Nod) (x : Int) : (callS Tryd.prog (rnC true [(6, true)]) 60 Tryd.f29 [.rol false 99 N (tng t), .int .i64 x] []).map (fun x => (x.1, x.2.2)) = some (.nl (.slice none 0 0), andT true (decide (x < 0))) := by kernel_rfl
theorem rn_b (N : Nat) (t : Nat → Nod) (x : Int) : (callS Tryd.prog (rnC true [(6, false), (11, true)]) 60 Tryd.f29 [.rol false 99 N (tng t), .int .i64 x] []).map (fun x => (x.1, x.2.2)) = some (.nl (.slice none 0 0), andT (andT true !decide (x < 0)) (decide (x ≥ ((N : Nat) : Int)))) := by kernel_rfl
theorem rn_c (N : Nat) (t : Nat → Nod) (x : Int) : (callS Tryd.prog (rnC false [(6, false), (11, false)]) 60 Tryd.f29 [.rol false 99 N (tng t), .int .i64 x] []).map (fun x => (x.1, x.2.2)) = some (.nl (.slice none 0 0), andT (andT (andT true !decide (x < 0)) !decide (x ≥ ((N : Nat) : Int))) (andT true ((okT N fun i => coolL (tng t i)) && decide (N ≤ 71) && checkB N (treeOf fun i => coolL (tng t i)) == false))) := by kernel_rfl
theorem rn_d (N : Nat) (t : Nat → Nod) (x : Int) : (callS Tryd.prog (rnC true [(6, false), (11, false)]) 60 Tryd.f29 [.rol false 99 N (tng t), .int .i64 x] []) = some (.sl 0 0 0 1 (resV t x).length (resV t x).length false true, [.b [.ints .i64 (resV t x).length (resV t x)]], andT (andT (andT (andT true !decide (x < 0)) !decide (x ≥ ((N : Nat) : Int))) (andT true ((okT N fun i => coolL (tng t i)) && decide (N ≤ 71) && checkB N (treeOf fun i => coolL (tng t i)) == true))) (andT true ((okT N fun i => coolL (tng t i)) && decide (N ≤ 71) && resOK N (treeOf fun i => coolL (tng t i)) x 8))) := by kernel_rfl
section
variable {N n k : Nat} {t : Nat → Nod} {x : Nat}
def rsnV (N : Nat) (t : Nat → Nod) (x : Int) : List Int := bif decide (0 ≤ x) && decide (x < N) && checkB N t then resV t x else []
theorem check_parts (hT : TOK N t) (h : checkB N t = true) : ∃ n ∈ sizes, leavesV N = (n : Int) ∧ N = 2 * n - 1 ∧ ∀ x, x < N → goodJ t n x = true := by
  unfold checkB at h
  simp only [Bool.and_eq_true, Bool.not_eq_true'] at h
  obtain ⟨n, hn, h1, h2⟩ := leaves_sizes hT.le h.1
  refine ⟨n, hn, h1, h2, fun x hx => ?_⟩
  have := List.all_eq_true.1 h.2.1 x (List.mem_range.2 hx)
  rwa [h1, Int.toNat_natCast] at this
theorem upJ_at {x : Int} {un : List Int} {j : Nat} (h : upJ t x n un j = true) : bef un j < un.getD j 0 ∧ firstV x ≤ un.getD j 0 ∧ un.getD j 0 ≤ lastV x := by
  unfold upJ at h
  simp only [Bool.and_eq_true, Bool.not_eq_true', decide_eq_false_iff_not] at h
  omega
theorem upper_un {x : Nat} (hn : n ∈ sizes) (hx : x < 2 * n - 1) (h : upperB t x n = true) : (∀ u ∈ (t x).un, 0 ≤ u ∧ u < n) ∧ (t x).un.length ≤ n := by
  unfold upperB at h
  simp only [Bool.and_eq_true, Int.toNat_natCast] at h
  obtain ⟨_, h⟩ := h
  have q : nodeB (x : Int) n = true := List.any_eq_true.2 ⟨n, hn, by simp; omega⟩
  obtain ⟨b1, b2⟩ := below_ok q
  have r : ∀ j, j < (t x).un.length → bef (t x).un j < (t x).un.getD j 0 ∧ 0 ≤ (t x).un.getD j 0 ∧ (t x).un.getD j 0 < n := fun j hj => by
    have := upJ_at (List.all_eq_true.1 h j (List.mem_range.2 hj))
    omega
  refine ⟨fun u hu => ?_, ?_⟩
  · obtain ⟨j, hj, rfl⟩ := List.getElem_of_mem hu
    have := r j hj
    rw [getD_get hj] at this
    exact this.2
  · have g : ∀ j, j < (t x).un.length → (j : Int) ≤ (t x).un.getD j 0 := by
      intro j
      induction j with
      | zero => intro hj; exact (r 0 hj).2.1
      | succ j ih =>
        intro hj
        have a := ih (by omega)
        have b : (t x).un.getD j 0 < (t x).un.getD (j + 1) 0 := (r (j + 1) hj).1
        omega
    cases hl : (t x).un.length with
    | zero => omega
    | succ k =>
      have a := g k (by omega)
      have b := r k (by omega)
      omega
theorem check_un (hT : TOK N t) (h : checkB N t = true) : unB N t = true ∧ treeN N = true := by
  obtain ⟨n, hn, h1, hN, hg⟩ := check_parts hT h
  have hs := sizes_le hn
  refine ⟨List.all_eq_true.2 fun x hx => ?_, List.any_eq_true.2 ⟨n, hn, decide_eq_true hN⟩⟩
  have hx := List.mem_range.1 hx
  have g := hg x hx
  have key : (∀ u ∈ (t x).un, 0 ≤ u ∧ u < n) ∧ (t x).un.length ≤ n := by
    unfold goodJ at g
    cases hu : (t x).used with
    | false =>
      rw [hu] at g
      have : (t x).un = [] := by
        unfold blankB sameB at g
        simp only [Bool.not_false, cond_true, Bool.and_eq_true, decide_eq_true_eq] at g
        exact g.2
      rw [this]; exact ⟨fun _ q => by simp at q, Nat.zero_le _⟩
    | true =>
      rw [hu] at g
      cases hp : (x % 2 == 0) with
      | true =>
        rw [hp] at g
        have : (t x).un = [] := by
          unfold lfB at g
          simp only [Bool.not_true, cond_false, cond_true, Bool.and_eq_true, beq_iff_eq] at g
          have := g.1.2
          exact List.length_eq_zero_iff.1 (by omega)
        rw [this]; exact ⟨fun _ q => by simp at q, Nat.zero_le _⟩
      | false =>
        rw [hp] at g
        exact upper_un hn (hN ▸ hx) g
  simp only [Bool.and_eq_true, decide_eq_true_eq, List.all_eq_true]
  refine ⟨by omega, fun u hu => ?_⟩
  have := key.1 u hu
  omega
theorem rn_resOK (hT : TOK N t) (h : checkB N t = true) {x : Int} (h0 : 0 ≤ x) (h1 : x < N) : resOK N t x 8 = true := by
  obtain ⟨hu, ht⟩ := check_un hT h
  obtain ⟨y, rfl⟩ := Int.eq_ofNat_of_zero_le h0
  exact resOK_mk hu ht (by omega) (by have := lvN_le 7 y; omega)
theorem resolution_fn {x : Int} (hT : TOK N t) : FnTr Tryd.prog 29 [.rol false 99 N (tng t), .int .i64 x] [] (.ro true .i64 (rsnV N t x)) [] := by
  have hok : okT N (fun i => coolL (tng t i)) = true := okT_tng hT
  have nil : FnTr Tryd.prog 29 [.rol false 99 N (tng t), .int .i64 x] [] (.nl (.slice none 0 0)) [] → FnTr Tryd.prog 29 [.rol false 99 N (tng t), .int .i64 x] [] (.ro true .i64 []) [] := fun g => FnTr.conv g ⟨VE.refl _, VE.refl _, trivial⟩ trivial (VE.nilRo true .i64) trivial
  unfold rsnV
  by_cases h0 : x < 0
  · rw [decide_eq_false (show ¬ 0 ≤ x by omega)]
    exact nil (call0 (rnC_ok _ _) 60 Tryd.func29 (rn_a N t x) (by rw [decide_eq_true h0]; rfl) rfl)
  · by_cases h1 : x ≥ N
    · rw [decide_eq_false (show ¬ x < (N : Int) by omega), Bool.and_false, Bool.false_and]
      exact nil (call0 (rnC_ok _ _) 60 Tryd.func29 (rn_b N t x) (by rw [decide_eq_false h0, decide_eq_true h1]; rfl) rfl)
    · rw [decide_eq_true (show 0 ≤ x by omega), decide_eq_true (show x < (N : Int) by omega)]
      cases hc : checkB N t with
      | false => exact nil (call0 (rnC_ok _ _) 60 Tryd.func29 (rn_c N t x) (by rw [decide_eq_false h0, decide_eq_false h1, hok, decide_eq_true hT.le, show checkB N (treeOf fun i => coolL (tng t i)) = false from hc]; rfl) rfl)
      | true =>
        have hr : resOK N (treeOf fun i => coolL (tng t i)) x 8 = true := rn_resOK (t := t) hT hc (by omega) (by omega)
        refine FnTr.frozenI (ex := false) (wh := true) (N := (resV t x).length) (FnTr.of_callS (rnC_ok true [(6, false), (11, false)]) Tryd.func29 (n := 60) ((rn_d N t x).trans ?_)) rfl
        rw [decide_eq_false h0, decide_eq_false h1, hok, decide_eq_true hT.le, show checkB N (treeOf fun i => coolL (tng t i)) = true from hc, hr]
        rfl
noncomputable def resolutionE : Entry Tryd.prog := .val 29 _ Tryd.func29 (by decide) rfl true 0 (fun vs => match vs with
  | [.rol false 99 N g, .int .i64 x] => some (.ro true .i64 (rsnV N (treeOf g) x), [], okT N g && decide (N ≤ 71))
  | _ => none) fun vs v new e => by
  split at e
  · simp only [Option.some.injEq, Prod.mk.injEq, Bool.and_eq_true, decide_eq_true_eq] at e
    obtain ⟨rfl, rfl, h1, h2⟩ := e
    exact FnTr.conv (resolution_fn (TOK.of h1 h2)) ⟨VE.tree h1, VE.refl _, trivial⟩ trivial (VE.refl _) trivial
  · cases e
end
end Go.Proofs.YtkcmlclomcidiaaDoor.Tr
