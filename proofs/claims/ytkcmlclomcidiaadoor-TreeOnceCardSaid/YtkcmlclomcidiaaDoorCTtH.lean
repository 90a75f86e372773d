/- This file proves the plain law of resolutions: each leaf below a node is named once. Conditions: trees in form. -/
import Derived.Test.YtkcmlclomcidiaaDoorCTtG
set_option linter.all false
namespace Go.Proofs.YtkcmlclomcidiaaDoor.Tr
open Go Go.Sy
def covB (t : Nat → Nod) (x i : Int) : Bool := decide (firstV x ≤ i) && decide (i ≤ lastV x) && !(x.tmod 2 == 1 && inQ i (t x.toNat).un)
def cnt (t : Nat → Nod) (xs : List Int) (i : Int) : Nat := xs.countP fun x => covB t x i
structure NodF (t : Nat → Nod) (n x : Nat) : Prop where
  un : ∀ u ∈ (t x).un, 0 ≤ u ∧ u < n
  no : (t x).used = false → (t x).un = []
  ev : x % 2 = 0 → (t x).un = []
  rg : ∀ u ∈ (t x).un, firstV (x : Int) ≤ u ∧ u ≤ lastV (x : Int)
  nd : (t x).un.Nodup
section
variable {N n k : Nat} {t : Nat → Nod} {x : Nat}
theorem bef_rise {un : List Int} (h : ∀ j, j < un.length → bef un j < un.getD j 0) : un.Pairwise (· < ·) := by
  have g : ∀ j, j < un.length → ∀ i, i < j → un.getD i 0 < un.getD j 0 := by
    intro j
    induction j with
    | zero => intro _ i hi; omega
    | succ j ih =>
      intro hj i hi
      have b : un.getD j 0 < un.getD (j + 1) 0 := h (j + 1) hj
      by_cases e : i = j
      · subst e; exact b
      · have := ih (by omega) i (by omega); omega
  rw [List.pairwise_iff_getElem]
  intro i j hi hj hij
  have := g j hj i hij
  rwa [getD_get hi, getD_get hj] at this
theorem nodF_of (hn : n ∈ sizes) (hN : N = 2 * n - 1) (hx : x < N) (g : goodJ t n x = true) : NodF t n x := by
  have nil : (t x).un = [] → NodF t n x := fun e => ⟨by rw [e]; exact fun _ q => by simp at q, fun _ => e, fun _ => e, by rw [e]; exact fun _ q => by simp at q, by rw [e]; exact List.nodup_nil⟩
  unfold goodJ at g
  cases hu : (t x).used with
  | false =>
    rw [hu] at g
    refine nil ?_
    unfold blankB sameB at g
    simp only [Bool.not_false, cond_true, Bool.and_eq_true, decide_eq_true_eq] at g
    exact g.2
  | true =>
    rw [hu] at g
    cases hp : (x % 2 == 0) with
    | true =>
      rw [hp] at g
      refine nil ?_
      unfold lfB at g
      simp only [Bool.not_true, cond_false, cond_true, Bool.and_eq_true, beq_iff_eq] at g
      have := g.1.2
      exact List.length_eq_zero_iff.1 (by omega)
    | false =>
      rw [hp] at g
      have g' : upperB t (x : Int) n = true := g
      have hun := (upper_un hn (hN ▸ hx) g').1
      unfold upperB at g'
      simp only [Bool.and_eq_true, Int.toNat_natCast] at g'
      have r : ∀ j, j < (t x).un.length → bef (t x).un j < (t x).un.getD j 0 ∧ firstV (x : Int) ≤ (t x).un.getD j 0 ∧ (t x).un.getD j 0 ≤ lastV (x : Int) := fun j hj => upJ_at (List.all_eq_true.1 g'.2 j (List.mem_range.2 hj))
      refine ⟨hun, fun q => (by rw [hu] at q; cases q), fun q => (by rw [beq_eq_false_iff_ne] at hp; omega), fun u hm => ?_, ?_⟩
      · obtain ⟨j, hj, rfl⟩ := List.getElem_of_mem hm
        have := r j hj
        rw [getD_get hj] at this
        exact this.2
      · exact (bef_rise fun j hj => (r j hj).1).imp fun h => by omega
def lvlB (n x : Nat) : Bool := match lvN 7 x with
  | 0 => decide (x % 2 = 0) && firstV ((x : Nat) : Int) == ((x / 2 : Nat) : Int) && lastV ((x : Nat) : Int) == ((x / 2 : Nat) : Int)
  | k + 1 => decide (x % 2 = 1) && firstV ((x - 2 ^ k : Nat) : Int) == firstV ((x : Nat) : Int) && lastV ((x - 2 ^ k : Nat) : Int) + 1 == firstV ((x + 2 ^ k : Nat) : Int) && lastV ((x + 2 ^ k : Nat) : Int) == lastV ((x : Nat) : Int)
theorem lvl_all : (sizes.all fun n => (List.range (2 * n - 1)).all fun x => lvlB n x) = true := by decide +kernel
theorem root_all : (sizes.all fun n => firstV ((n - 1 : Nat) : Int) == 0 && lastV ((n - 1 : Nat) : Int) == ((n - 1 : Nat) : Int)) = true := by decide +kernel
theorem lvl_zero (hn : n ∈ sizes) (hx : x < 2 * n - 1) (hk : lvN 7 x = 0) : x % 2 = 0 ∧ firstV (x : Int) = ((x / 2 : Nat) : Int) ∧ lastV (x : Int) = ((x / 2 : Nat) : Int) := by
  have h := List.all_eq_true.1 (List.all_eq_true.1 lvl_all n hn) x (List.mem_range.2 hx)
  unfold lvlB at h
  rw [hk] at h
  simp only [Bool.and_eq_true, beq_iff_eq, decide_eq_true_eq] at h
  exact ⟨h.1.1, h.1.2, h.2⟩
theorem lvl_succ (hn : n ∈ sizes) (hx : x < 2 * n - 1) (hk : lvN 7 x = k + 1) : x % 2 = 1 ∧ firstV ((x - 2 ^ k : Nat) : Int) = firstV (x : Int) ∧ lastV ((x - 2 ^ k : Nat) : Int) + 1 = firstV ((x + 2 ^ k : Nat) : Int) ∧ lastV ((x + 2 ^ k : Nat) : Int) = lastV (x : Int) := by
  have h := List.all_eq_true.1 (List.all_eq_true.1 lvl_all n hn) x (List.mem_range.2 hx)
  unfold lvlB at h
  rw [hk] at h
  simp only [Bool.and_eq_true, beq_iff_eq, decide_eq_true_eq] at h
  exact ⟨h.1.1.1, h.1.1.2, h.1.2, h.2⟩
theorem lvl_even (hn : n ∈ sizes) (hx : x < 2 * n - 1) (he : x % 2 = 0) : firstV (x : Int) = ((x / 2 : Nat) : Int) ∧ lastV (x : Int) = ((x / 2 : Nat) : Int) := by
  cases hk : lvN 7 x with
  | zero => exact (lvl_zero hn hx hk).2
  | succ k => have := (lvl_succ hn hx hk).1; omega
theorem count_one {a : Int} : ∀ {l : List Int}, l.Nodup → a ∈ l → l.count a = 1
  | [], _, h => by simp at h
  | b :: l, hn, h => by
    rw [List.nodup_cons] at hn
    rw [List.count_cons]
    rcases List.mem_cons.1 h with rfl | h
    · rw [List.count_eq_zero.2 hn.1]; simp
    · rw [count_one hn.2 h, if_neg (by rw [beq_iff_eq]; rintro rfl; exact hn.1 h)]
theorem node_mk {z : Nat} (hn : n ∈ sizes) (hz : z < 2 * n - 1) : nodeB (z : Int) n = true := List.any_eq_true.2 ⟨n, hn, by simp; omega⟩
theorem inQ_mem {i : Int} {l : List Int} : inQ i l = true ↔ i ∈ l := by
  rw [inQ_has, hasB, List.any_eq_true]
  constructor
  · rintro ⟨u, hu, e⟩; rw [beq_iff_eq] at e; rw [e]; exact hu
  · intro h; exact ⟨i, h, by simp⟩
theorem cov_leaf (hn : n ∈ sizes) {u i : Int} (h0 : 0 ≤ u) (h1 : u < n) : covB t (2 * u) i = (u == i) := by
  obtain ⟨y, rfl⟩ := Int.eq_ofNat_of_zero_le h0
  obtain ⟨e1, e2⟩ := lvl_even hn (x := 2 * y) (by omega) (by omega)
  rw [show ((2 * y : Nat) : Int) = 2 * (y : Int) by omega] at e1 e2
  unfold covB
  rw [e1, e2, show ((2 * y / 2 : Nat) : Int) = (y : Int) by omega, show ((2 * (y : Int)).tmod 2 == 1) = false by rw [show (2 * (y : Int)) = ((2 * y : Nat) : Int) by omega, show (2 : Int) = ((2 : Nat) : Int) from rfl, ← Int.ofNat_tmod]; rw [beq_eq_false_iff_ne]; omega, Bool.false_and, Bool.not_false, Bool.and_true]
  rw [Bool.eq_iff_iff, Bool.and_eq_true, decide_eq_true_eq, decide_eq_true_eq, beq_iff_eq]
  omega
theorem cnt_un (hn : n ∈ sizes) {un : List Int} {i : Int} (h : ∀ u ∈ un, 0 ≤ u ∧ u < n) : cnt t (un.map (2 * ·)) i = un.count i := by
  unfold cnt
  rw [List.countP_map, List.count]
  refine List.countP_congr fun u hu => ?_
  have := cov_leaf (t := t) (i := i) hn (h u hu).1 (h u hu).2
  show covB t (2 * u) i = true ↔ _
  rw [this]
theorem tmod_odd (x : Nat) : (((x : Nat) : Int).tmod 2 == 1) = decide (x % 2 = 1) := by
  rw [show (2 : Int) = ((2 : Nat) : Int) from rfl, ← Int.ofNat_tmod, Bool.eq_iff_iff, beq_iff_eq, decide_eq_true_eq]
  omega
theorem cnt_res (hn : n ∈ sizes) (hN : N = 2 * n - 1) (F : ∀ x, x < N → NodF t n x) {i : Nat} (hi : i < n) : ∀ (k y : Nat), y < N → lvN 7 y = k →
    (¬ (firstV (y : Int) ≤ (i : Int) ∧ (i : Int) ≤ lastV (y : Int)) → cnt t (resL t k y) i = 0) ∧ ((firstV (y : Int) ≤ (i : Int) ∧ (i : Int) ≤ lastV (y : Int)) → cnt t (resL t k y) i ≤ 1 ∧ ((t (2 * i)).used = true → cnt t (resL t k y) i = 1)) := by
  have used : ∀ (k y : Nat), y < N → (t y).used = true →
    (¬ (firstV (y : Int) ≤ (i : Int) ∧ (i : Int) ≤ lastV (y : Int)) → cnt t (resL t k y) i = 0) ∧ ((firstV (y : Int) ≤ (i : Int) ∧ (i : Int) ≤ lastV (y : Int)) → cnt t (resL t k y) i = 1) := by
    intro k y hy hu
    obtain ⟨f1, f2, f3, f4, f5⟩ := F y hy
    have e : cnt t (resL t k y) i = (t y).un.count (i : Int) + if covB t (y : Int) i = true then 1 else 0 := by
      rw [resL_used hu]
      show List.countP _ (_ :: _) = _
      rw [List.countP_cons]
      exact congrArg (· + _) (cnt_un hn f1)
    rw [e]
    have ec : covB t (y : Int) i = (decide (firstV (y : Int) ≤ (i : Int)) && decide ((i : Int) ≤ lastV (y : Int)) && !(decide (y % 2 = 1) && inQ i (t y).un)) := by unfold covB; rw [tmod_odd, Int.toNat_natCast]
    constructor
    · intro h
      have c1 : (t y).un.count (i : Int) = 0 := List.count_eq_zero.2 fun hm => h (f4 _ hm)
      have c2 : covB t (y : Int) i = false := by
        rw [ec, Bool.and_eq_false_iff, Bool.and_eq_false_iff, decide_eq_false_iff_not, decide_eq_false_iff_not]
        left; omega
      rw [c1, c2]; rfl
    · rintro ⟨h1, h2⟩
      rw [decide_eq_true h1, decide_eq_true h2] at ec
      by_cases hp : y % 2 = 1
      · rw [decide_eq_true hp] at ec
        by_cases hm : (i : Int) ∈ (t y).un
        · rw [inQ_mem.2 hm] at ec
          rw [ec, count_one f5 hm]; rfl
        · have : inQ (i : Int) (t y).un = false := by
            cases q : inQ (i : Int) (t y).un with
            | false => rfl
            | true => exact absurd (inQ_mem.1 q) hm
          rw [this] at ec
          rw [ec, List.count_eq_zero.2 hm]; rfl
      · rw [decide_eq_false hp] at ec
        rw [ec, f3 (by omega)]; rfl
  intro k
  induction k with
  | zero =>
    intro y hy hk
    cases hu : (t y).used with
    | true =>
      obtain ⟨a, b⟩ := used 0 y hy hu
      exact ⟨a, fun h => ⟨by rw [b h]; exact Nat.le_refl _, fun _ => b h⟩⟩
    | false =>
      rw [resL_zero hu]
      obtain ⟨e0, e1, e2⟩ := lvl_zero hn (hN ▸ hy) hk
      refine ⟨fun _ => rfl, fun h => ⟨Nat.zero_le _, fun q => ?_⟩⟩
      rw [e1, e2] at h
      rw [show 2 * i = y by omega, hu] at q
      cases q
  | succ k ih =>
    intro y hy hk
    cases hu : (t y).used with
    | true =>
      obtain ⟨a, b⟩ := used (k + 1) y hy hu
      exact ⟨a, fun h => ⟨by rw [b h]; exact Nat.le_refl _, fun _ => b h⟩⟩
    | false =>
      obtain ⟨_, _, h3, h4, h5, h6, _⟩ := kid_succ hn (hN ▸ hy) hk
      obtain ⟨_, g1, g2, g3⟩ := lvl_succ hn (hN ▸ hy) hk
      obtain ⟨a1, a2⟩ := ih (y - 2 ^ k) (by omega) h5
      obtain ⟨b1, b2⟩ := ih (y + 2 ^ k) (by omega) h6
      have e : cnt t (resL t (k + 1) y) i = cnt t (resL t k (y - 2 ^ k)) i + cnt t (resL t k (y + 2 ^ k)) i := by rw [resL_succ hu]; exact List.countP_append
      rw [e]
      rw [g1] at a1 a2
      rw [g3] at b1 b2
      have q1 := node_mk hn (z := y - 2 ^ k) (by omega)
      have q2 := node_mk hn (z := y + 2 ^ k) (by omega)
      have c1 := (below_at q1).2.1
      have c2 := (below_at q2).2.1
      rw [g1] at c1
      rw [g3] at c2
      constructor
      · intro h
        rw [a1 (by omega), b1 (by omega)]
      · intro h
        by_cases hs : (i : Int) ≤ lastV ((y - 2 ^ k : Nat) : Int)
        · obtain ⟨d1, d2⟩ := a2 ⟨h.1, hs⟩
          rw [b1 (by omega)]
          exact ⟨d1, d2⟩
        · obtain ⟨d1, d2⟩ := b2 ⟨by omega, h.2⟩
          rw [a1 (by omega), Nat.zero_add]
          exact ⟨d1, d2⟩
end
end Go.Proofs.YtkcmlclomcidiaaDoor.Tr
