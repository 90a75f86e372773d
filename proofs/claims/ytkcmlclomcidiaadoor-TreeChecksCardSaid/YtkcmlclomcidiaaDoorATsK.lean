/- This file proves that the program's upper is the document's. Conditions: an upper node of a tree. -/
import Derived.Test.YtkcmlclomcidiaaDoorATsJ
set_option linter.all false
namespace Go.Proofs.YtkcmlclomcidiaaDoor.Tr
open Go Go.Sy
theorem inQ_has (i : Int) (l : List Int) : inQ i l = hasB l i := by
  have h1 : inQ i l = !((List.range l.length).all fun k => !(l.getD k 0 == i)) := by
    unfold inQ scanV; rw [← firstN_all]; cases firstN _ _ <;> rfl
  rw [h1, Bool.eq_iff_iff, Bool.not_eq_true', ← Bool.not_eq_true, List.all_eq_true]
  unfold hasB
  rw [List.any_eq_true]
  constructor
  · intro h
    refine Classical.byContradiction fun g => h fun k hk => ?_
    have hk := List.mem_range.1 hk
    rw [Bool.not_eq_true']
    cases q : (l.getD k 0 == i) with
    | false => rfl
    | true =>
      refine absurd ⟨l[k], List.getElem_mem hk, ?_⟩ g
      have := eq_of_beq q
      rw [List.getD, List.getElem?_eq_getElem hk] at this
      rw [beq_iff_eq]
      exact this.symm
  · rintro ⟨v, hv, q⟩ h
    obtain ⟨k, hk, rfl⟩ := List.mem_iff_getElem.1 hv
    have := h k (List.mem_range.2 hk)
    rw [List.getD, List.getElem?_eq_getElem hk, Option.getD_some, ← eq_of_beq q, beq_self_eq_true] at this
    cases this
theorem up_inj : (sizes.all fun n => (List.range n).all fun i => (List.range (lgN n)).all fun j => (decide ((upV n (2 * ((i : Nat) : Int)) j).toNat % 2 = 1) && decide ((upV n (2 * ((i : Nat) : Int)) j).toNat < 2 * n - 1)) && (List.range (lgN n)).all fun k => (upV n (2 * ((i : Nat) : Int)) j == upV n (2 * ((i : Nat) : Int)) k) == decide (j = k)) = true := by decide +kernel
section
variable {N : Nat} {t : Nat → Nod} {n i j : Nat}
def stepB (t : Nat → Nod) (n i k : Nat) : Bool := !((t (upV n (2 * (i : Int)) k).toNat).used && !hasB (t (upV n (2 * (i : Int)) k).toNat).un i)
theorem btw_path (hn : n ∈ sizes) (hi : i < n) (hj : j < lgN n) : btwB t (upV n (2 * (i : Int)) j) i n = (List.range j).all (stepB t n i) := by
  have tab := List.all_eq_true.1 (List.all_eq_true.1 up_inj n hn) i (List.mem_range.2 hi)
  have inj : ∀ a b, a < lgN n → b < lgN n → (upV n (2 * (i : Int)) a == upV n (2 * (i : Int)) b) = decide (a = b) := fun a b ha hb =>
    eq_of_beq (List.all_eq_true.1 (Bool.and_eq_true_iff.1 (List.all_eq_true.1 tab a (List.mem_range.2 ha))).2 b (List.mem_range.2 hb))
  have ok : ∀ k, k < lgN n → okJ t (upV n (2 * (i : Int)) j) i n k = (!decide (k = j) && stepB t n i k) := fun k hk => by
    unfold okJ stepB
    rw [inj k j hk hj]
  unfold btwB scanV
  cases hq : firstN (okJ t (upV n (2 * (i : Int)) j) i n) (lgN n) with
  | none =>
    have := firstN_none hq j hj
    rw [ok j hj, decide_eq_true rfl] at this
    cases this
  | some k =>
    obtain ⟨k1, k2, k3⟩ := find_range hq
    show (upV n (2 * (i : Int)) k == upV n (2 * (i : Int)) j) = _
    rw [inj k j k1 hj]
    have hkj : k ≤ j := by
      rcases Nat.lt_or_ge j k with h | h
      · have := k3 j h
        rw [ok j hj, decide_eq_true rfl] at this
        cases this
      · exact h
    by_cases h : k = j
    · subst h
      rw [decide_eq_true rfl]
      refine (List.all_eq_true.2 fun a ha => ?_).symm
      have ha := List.mem_range.1 ha
      have := k3 a ha
      rw [ok a (by omega)] at this
      exact (Bool.and_eq_true_iff.1 this).2
    · rw [decide_eq_false h]
      rw [ok k k1, decide_eq_false h, Bool.not_false, Bool.true_and] at k2
      cases hq2 : (List.range j).all (stepB t n i) with
      | false => rfl
      | true =>
        have := List.all_eq_true.1 hq2 k (List.mem_range.2 (by omega))
        rw [this] at k2
        cases k2
theorem inner_path (hn : n ∈ sizes) (hi : i < n) (hj : j < lgN n) (hN : N = 2 * n - 1) : (List.range (N / 2)).all (inJ t (upV n (2 * (i : Int)) j) n i) = (List.range j).all (stepB t n i) := by
  have tab := List.all_eq_true.1 (List.all_eq_true.1 up_inj n hn) i (List.mem_range.2 hi)
  have odd : ∀ k, k < lgN n → (upV n (2 * (i : Int)) k).toNat % 2 = 1 ∧ (upV n (2 * (i : Int)) k).toNat < 2 * n - 1 := fun k hk => by
    have := Bool.and_eq_true_iff.1 (Bool.and_eq_true_iff.1 (List.all_eq_true.1 tab k (List.mem_range.2 hk))).1
    exact ⟨of_decide_eq_true this.1, of_decide_eq_true this.2⟩
  have pos : ∀ k, k < lgN n → 0 ≤ upV n (2 * (i : Int)) k := fun k hk => by
    have := ((up_ok hn hi).1 k hk).2
    rw [show ((2 * i : Nat) : Int) = 2 * (i : Int) by omega] at this
    exact this
  have tb := List.all_eq_true.1 (List.all_eq_true.1 (List.all_eq_true.1 btw_all n hn) i (List.mem_range.2 hi)) j (List.mem_range.2 hj)
  have hs := sizes_le hn
  have one : ∀ y, y < n - 1 → inJ t (upV n (2 * (i : Int)) j) n i y = !(((List.range j).any fun k => upV n (2 * (i : Int)) k == ((2 * y + 1 : Nat) : Int)) && ((t (2 * y + 1)).used && !hasB (t (2 * y + 1)).un i)) := fun y hy => by
    have := eq_of_beq (List.all_eq_true.1 tb y (List.mem_range.2 hy))
    rw [← this]
    unfold inJ
    rw [inQ_has]
    cases (((2 * y + 1 : Nat) : Int) != upV n (2 * (i : Int)) j) <;> cases (t (2 * y + 1)).used <;> cases abvB (upV n (2 * (i : Int)) j) ((2 * y + 1 : Nat) : Int) n <;> cases abvB ((2 * y + 1 : Nat) : Int) (2 * (i : Int)) n <;> rfl
  rw [Bool.eq_iff_iff, List.all_eq_true, List.all_eq_true]
  constructor
  · intro h k hk
    have hk := List.mem_range.1 hk
    obtain ⟨o1, o2⟩ := odd k (by omega)
    have p := pos k (by omega)
    have hy : 2 * ((upV n (2 * (i : Int)) k).toNat / 2) + 1 = (upV n (2 * (i : Int)) k).toNat := by omega
    have := h ((upV n (2 * (i : Int)) k).toNat / 2) (List.mem_range.2 (by omega))
    rw [one _ (by omega), hy] at this
    unfold stepB
    have ha : ((List.range j).any fun k' => upV n (2 * (i : Int)) k' == (((upV n (2 * (i : Int)) k).toNat : Nat) : Int)) = true := List.any_eq_true.2 ⟨k, List.mem_range.2 hk, by rw [beq_iff_eq]; omega⟩
    rw [ha, Bool.true_and] at this
    exact this
  · intro h y hy
    have hy := List.mem_range.1 hy
    rw [one y (by omega)]
    cases ha : ((List.range j).any fun k => upV n (2 * (i : Int)) k == ((2 * y + 1 : Nat) : Int)) with
    | false => rfl
    | true =>
      obtain ⟨k, hk, q⟩ := List.any_eq_true.1 ha
      have := h k hk
      unfold stepB at this
      rw [eq_of_beq q, Int.toNat_natCast] at this
      rw [Bool.true_and]
      exact this
end
end Go.Proofs.YtkcmlclomcidiaaDoor.Tr
