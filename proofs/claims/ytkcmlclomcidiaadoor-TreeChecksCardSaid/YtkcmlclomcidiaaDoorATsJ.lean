/- This file proves plain laws of trees: what is above what, and how often a name is there. No conditions. -/
import Derived.Test.YtkcmlclomcidiaaDoorATsI
set_option linter.all false
namespace Go.Proofs.YtkcmlclomcidiaaDoor.Tr
open Go Go.Sy
theorem abv_all : (sizes.all fun n => (List.range (2 * n - 1)).all fun x => (List.range n).all fun i => abvB ((x : Nat) : Int) (2 * ((i : Nat) : Int)) n == (decide (firstV ((x : Nat) : Int) ≤ ((i : Nat) : Int)) && decide (((i : Nat) : Int) ≤ lastV ((x : Nat) : Int)))) = true := by decide +kernel
theorem on_all : (sizes.all fun n => (List.range (n - 1)).all fun x => (List.range n).all fun i => ((List.range (lgN n)).any fun j => upV n (2 * ((i : Nat) : Int)) j == ((2 * x + 1 : Nat) : Int)) == abvB ((2 * x + 1 : Nat) : Int) (2 * ((i : Nat) : Int)) n) = true := by decide +kernel
theorem btw_all : (sizes.all fun n => (List.range n).all fun i => (List.range (lgN n)).all fun j => (List.range (n - 1)).all fun y => (((2 * y + 1 : Nat) : Int) != upV n (2 * ((i : Nat) : Int)) j && (abvB (upV n (2 * ((i : Nat) : Int)) j) ((2 * y + 1 : Nat) : Int) n && abvB ((2 * y + 1 : Nat) : Int) (2 * ((i : Nat) : Int)) n)) == ((List.range j).any fun k => upV n (2 * ((i : Nat) : Int)) k == ((2 * y + 1 : Nat) : Int))) = true := by decide +kernel
def nmC (t : Nat → Nod) (k : Int) : Nat → Nat
  | 0 => 0
  | i + 1 => nmC t k i + (bif (t i).used && (i % 2 == 0) && ((t i).name == k) then 1 else 0)
theorem nmC_le (t : Nat → Nod) (k : Int) : ∀ i, nmC t k i ≤ i
  | 0 => Nat.le_refl _
  | i + 1 => by
    have := nmC_le t k i
    unfold nmC
    cases (t i).used && (i % 2 == 0) && ((t i).name == k) <;> simp <;> omega
theorem nmL_get (t : Nat → Nod) (k : Int) : ∀ i, i ≤ 1000 → getI (nmL t i) k = (nmC t k i : Int)
  | 0, _ => rfl
  | i + 1, h => by
    have ih := fun k => nmL_get t k i (by omega)
    unfold nmL nmC
    cases hu : (t i).used && (i % 2 == 0) with
    | false => simp [ih]
    | true =>
      simp only [cond_true, Bool.true_and]
      rw [getI_set]
      cases hk : (k == (t i).name) with
      | true =>
        have hk' := eq_of_beq hk
        subst hk'
        have := nmC_le t (t i).name i
        rw [beq_self_eq_true, cond_true, cond_true, ih, wrapS (by omega)]
      | false =>
        have : ((t i).name == k) = false := by
          cases h2 : ((t i).name == k) with
          | true => rw [eq_of_beq h2, beq_self_eq_true] at hk; exact hk
          | false => rfl
        rw [this, cond_false, cond_false, ih]
        rfl
theorem nmC_zero (t : Nat → Nod) (k : Int) : ∀ i, nmC t k i = 0 ↔ ∀ j, 2 * j < i → ((t (2 * j)).used && ((t (2 * j)).name == k)) = false
  | 0 => ⟨fun _ j hj => absurd hj (by omega), fun _ => rfl⟩
  | i + 1 => by
    have ih := nmC_zero t k i
    unfold nmC
    constructor
    · intro h j hj
      by_cases hij : 2 * j = i
      · subst hij
        have h2 : (bif (t (2 * j)).used && (2 * j % 2 == 0) && ((t (2 * j)).name == k) then 1 else 0) = 0 := by omega
        rw [show (2 * j % 2 == 0) = true by rw [beq_iff_eq]; omega, Bool.and_true] at h2
        cases hq : ((t (2 * j)).used && ((t (2 * j)).name == k)) with
        | false => rfl
        | true => rw [hq] at h2; cases h2
      · exact ih.1 (by omega) j (by omega)
    · intro h
      have h1 := ih.2 fun j hj => h j (by omega)
      rw [h1]
      cases hp : (i % 2 == 0) with
      | false => simp
      | true =>
        have hi : i = 2 * (i / 2) := by have := eq_of_beq hp; omega
        have := h (i / 2) (by omega)
        rw [← hi] at this
        rw [Bool.and_true, this]
        rfl
theorem first_name {t : Nat → Nod} {x : Nat} (hx : x ≤ 100) (hu : (t x).used = true) (hp : (x % 2 == 0) = true) : (getI (nmL t (x + 1)) (t x).name == 1) = (List.range (x / 2)).all (dupJ t x) := by
  rw [nmL_get t _ (x + 1) (by omega)]
  have h1 : nmC t (t x).name (x + 1) = nmC t (t x).name x + 1 := by
    show nmC t (t x).name x + _ = _
    rw [hu, hp, beq_self_eq_true]
    rfl
  rw [h1]
  have hz := nmC_zero t (t x).name x
  cases hq : (List.range (x / 2)).all (dupJ t x) with
  | true =>
    have : nmC t (t x).name x = 0 := hz.2 fun j hj => by
      have := List.all_eq_true.1 hq j (List.mem_range.2 (by have := eq_of_beq hp; omega))
      unfold dupJ at this
      rw [Bool.not_eq_true'] at this
      exact this
    rw [this]
    rfl
  | false =>
    rw [beq_eq_false_iff_ne]
    intro h
    have h0 : nmC t (t x).name x = 0 := by omega
    have := hz.1 h0
    rw [← Bool.not_eq_true, List.all_eq_true] at hq
    refine hq fun j hj => ?_
    have hj := List.mem_range.1 hj
    unfold dupJ
    rw [this j (by omega)]
    rfl
end Go.Proofs.YtkcmlclomcidiaaDoor.Tr
