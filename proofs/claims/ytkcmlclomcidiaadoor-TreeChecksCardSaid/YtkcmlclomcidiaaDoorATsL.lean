/- This file proves that the program's Check is the document's Good. Conditions: a tree of 71 nodes at most. -/
import Derived.Test.YtkcmlclomcidiaaDoorATsK
set_option linter.all false
namespace Go.Proofs.YtkcmlclomcidiaaDoor.Tr
open Go Go.Sy
section
variable {N : Nat} {t : Nat → Nod} {n x k : Nat}
theorem at_eq (hn : n ∈ sizes) (hN : N = 2 * n - 1) (hx : x < N) (ho : x % 2 = 1) (un : List Int) (hk : k < un.length) : upJ t x n un k = upQJ N t x n un k ∨ (un.getD k 0 ≤ bef un k) := by
  have hs := sizes_le hn
  have hnd : nodeB ((x : Nat) : Int) n = true := by
    rw [node_of hn, Bool.and_eq_true, decide_eq_true_eq, decide_eq_true_eq]; omega
  obtain ⟨b1, b2⟩ := below_ok hnd
  by_cases hb : un.getD k 0 ≤ bef un k
  · exact .inr hb
  · refine .inl ?_
    have h3 : (decide ((k : Int) > 0) && decide (un.getD k 0 ≤ un.getD (k - 1) 0)) = false := by
      cases k with
      | zero => rfl
      | succ k =>
        rw [show k + 1 - 1 = k by omega, show decide (un.getD (k + 1) 0 ≤ un.getD k 0) = false from decide_eq_false hb, Bool.and_false]
    unfold upJ upQJ outJ
    rw [decide_eq_false hb, h3]
    by_cases h0 : un.getD k 0 < 0
    · rw [decide_eq_true h0, decide_eq_true (show un.getD k 0 < firstV x by omega)]; rfl
    · by_cases h1 : un.getD k 0 ≥ (n : Int)
      · rw [decide_eq_true h1, decide_eq_false h0, decide_eq_true (show un.getD k 0 > lastV x by omega)]
        simp
      · rw [decide_eq_false h0, decide_eq_false h1]
        obtain ⟨i, hi⟩ := Int.eq_ofNat_of_zero_le (show 0 ≤ un.getD k 0 by omega)
        rw [hi]
        have hin : i < n := by omega
        rw [Int.toNat_natCast]
        have hab := eq_of_beq (List.all_eq_true.1 (List.all_eq_true.1 (List.all_eq_true.1 abv_all n hn) x (List.mem_range.2 (by omega))) i (List.mem_range.2 hin))
        have hon := eq_of_beq (List.all_eq_true.1 (List.all_eq_true.1 (List.all_eq_true.1 on_all n hn) (x / 2) (List.mem_range.2 (by omega))) i (List.mem_range.2 hin))
        rw [show 2 * (x / 2) + 1 = x by omega] at hon
        have hfl : (!decide (((i : Nat) : Int) < firstV x) && !decide (((i : Nat) : Int) > lastV x)) = abvB x (2 * (i : Int)) n := by
          rw [hab, Bool.eq_iff_iff]
          simp only [Bool.and_eq_true, Bool.not_eq_true', decide_eq_false_iff_not, decide_eq_true_eq]
          omega
        cases ha : abvB ((x : Nat) : Int) (2 * (i : Int)) n with
        | false =>
          rw [ha] at hfl
          simp only [Bool.not_false, Bool.true_and, Bool.and_false, Bool.false_and]
          rw [hfl]
          rfl
        | true =>
          rw [ha] at hfl hon
          obtain ⟨j, hj, hq⟩ := List.any_eq_true.1 hon
          have hj := List.mem_range.1 hj
          have hq := eq_of_beq hq
          rw [← hq, btw_path hn hin hj, inner_path hn hin hj hN, hq]
          simp only [Bool.not_false, Bool.true_and, Bool.and_true]
          rw [hfl, Bool.true_and]
theorem up_sorted {un : List Int} (h : ∀ k, k < un.length → bef un k < un.getD k 0) : sortedB un = true := by
  unfold sortedB
  rw [List.all_eq_true]
  intro j hj
  have hj := List.mem_range.1 hj
  have := h (un.length - 1 - j) (by omega)
  rw [Bool.not_eq_true', decide_eq_false_iff_not]
  cases hq : un.length - 1 - j with
  | zero => omega
  | succ a =>
    rw [hq] at this
    have : un.getD a 0 < un.getD (a + 1) 0 := this
    rw [show a + 1 - 1 = a by omega]
    omega
theorem upJ_bef {x : Int} {un : List Int} (h : upJ t x n un k = true) : bef un k < un.getD k 0 := by
  unfold upJ at h
  simp only [Bool.and_eq_true, Bool.not_eq_true', decide_eq_false_iff_not] at h
  have := h.1.1.1.1
  omega
theorem upQ_bef {un : List Int} {x : Int} (h : upQJ N t x n un k = true) : bef un k < un.getD k 0 := by
  unfold upQJ outJ at h
  simp only [Bool.and_eq_true, Bool.not_eq_true', decide_eq_false_iff_not] at h
  obtain ⟨⟨h1, _, h3, _⟩, _⟩ := h
  cases k with
  | zero => show (-1 : Int) < _; omega
  | succ k =>
    show un.getD k 0 < _
    rw [decide_eq_true (show ((k + 1 : Nat) : Int) > 0 by omega), Bool.true_and, decide_eq_false_iff_not, show k + 1 - 1 = k by omega] at h3
    omega
theorem upper_eq (hn : n ∈ sizes) (hN : N = 2 * n - 1) (hx : x < N) (ho : x % 2 = 1) : upperB t x n = upperQ N t x n := by
  unfold upperB upperQ
  rw [Int.toNat_natCast]
  generalize (t x).un = un
  have key : (sortedB un && (List.range un.length).all (upJ t x n un)) = (List.range un.length).all (upQJ N t x n un) := by
    rw [Bool.eq_iff_iff, Bool.and_eq_true, List.all_eq_true, List.all_eq_true]
    constructor
    · rintro ⟨_, h⟩ k hk
      have hu := h k hk
      rcases at_eq (t := t) hn hN hx ho un (List.mem_range.1 hk) with q | q
      · rw [← q]; exact hu
      · have := upJ_bef hu; omega
    · intro h
      refine ⟨up_sorted fun k hk => upQ_bef (h k (List.mem_range.2 hk)), fun k hk => ?_⟩
      have hu := h k hk
      rcases at_eq (t := t) hn hN hx ho un (List.mem_range.1 hk) with q | q
      · rw [q]; exact hu
      · have := upQ_bef hu; omega
  rw [← key]
  cases (!((t x).name != 0)) <;> cases decide ((t x).sign = List.replicate 32 0) <;> rfl
theorem good_eq (hn : n ∈ sizes) (hN : N = 2 * n - 1) (hx : x < N) : goodJ t n x = goodQJ N t n x := by
  have hs := sizes_le hn
  unfold goodJ goodQJ
  cases hu : (t x).used with
  | false =>
    show blankB (t x) = nsB (t x) zeroN
    rfl
  | true =>
    show (bif x % 2 == 0 then lfB true (t x).name (t x).un && (getI (nmL t (x + 1)) (t x).name == 1) else upperB t x n) = (bif x % 2 == 1 then upperQ N t x n else lfN (t x) && (List.range (x / 2)).all (dupJ t x))
    cases hp : (x % 2 == 1) with
    | true =>
      rw [odN hp, cond_false, cond_true]
      exact upper_eq hn hN hx (eq_of_beq hp)
    | false =>
      rw [evN hp, cond_false, cond_true, first_name (by omega) hu (evN hp)]
      unfold lfN
      rw [hu]
theorem check_good (hle : N ≤ 71) : checkB N t = goodQ N t := by
  unfold checkB goodQ
  cases h0 : (leavesV N == 0) with
  | true => rfl
  | false =>
    obtain ⟨n, hn, hv, hN⟩ := leaves_sizes hle h0
    rw [hv, Int.toNat_natCast]
    have : (List.range N).all (goodJ t n) = (List.range N).all (goodQJ N t n) := by
      rw [Bool.eq_iff_iff, List.all_eq_true, List.all_eq_true]
      constructor
      · intro h x hx; rw [← good_eq hn hN (List.mem_range.1 hx)]; exact h x hx
      · intro h x hx; rw [good_eq hn hN (List.mem_range.1 hx)]; exact h x hx
    rw [this, Bool.and_comm ((List.range N).all _)]
end
end Go.Proofs.YtkcmlclomcidiaaDoor.Tr
