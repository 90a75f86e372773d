/- This file proves the plain arithmetic of point.MulAdd's words: rows of products, sums with carries, the residue of words. Conditions: words within 64 bits. -/
import Derived.Test.YtailgcdcdhhpnaaPtZ
namespace Go.Proofs.Ytailgcdcdhhpnaa
open Go Go.Lift
/-! ### Words -/
def W64 (x : Int) : Prop := 0 ≤ x ∧ x < 18446744073709551616
theorem add64_eq {x y c : Int} (hx : W64 x) (hy : W64 y) (hc : 0 ≤ c ∧ c ≤ 1) : 18446744073709551616 * addC x y c + addS x y c = x + y + c ∧ W64 (addS x y c) ∧ 0 ≤ addC x y c ∧ addC x y c ≤ 1 := by
  unfold W64 at *
  unfold addC addS
  rw [Lock_eq, Lock_eq]
  have : Extern.MathBitsCarry.m64 = 18446744073709551616 := rfl
  rw [this]
  simp only [Int.ofNat_eq_natCast]
  omega
theorem step_eq {x y w c : Int} (hx : W64 x) (hy : W64 y) (hw : W64 w) (hc : W64 c) : 18446744073709551616 * stepC x y w c + stepW x y w c = x * y + w + c ∧ W64 (stepW x y w c) ∧ W64 (stepC x y w c) := by
  obtain ⟨m1, m2, m3, m4, m5⟩ := mul64_eq hx.1 hx.2 hy.1 hy.2
  have ⟨p1, p2⟩ := mul_bound (m := 18446744073709551615) (n := 18446744073709551615) hx.1 (by have := hx.2; omega) hy.1 (by have := hy.2; omega)
  obtain ⟨a1, a2, a3, a4⟩ := add64_eq (x := mulL x y) (y := w) (c := 0) ⟨m4, m5⟩ hw (by omega)
  obtain ⟨b1, b2, b3, b4⟩ := add64_eq (x := addS (mulL x y) w 0) (y := c) (c := 0) a2 hc (by omega)
  unfold stepC stepW
  rw [wrap_u64, wrap_u64]
  unfold W64 at *
  generalize x * y = p at *
  generalize mulH x y = H at *
  generalize mulL x y = L at *
  generalize addC L w 0 = c1 at *
  generalize addS L w 0 = s1 at *
  generalize addC s1 c 0 = c2 at *
  generalize addS s1 c 0 = s2 at *
  have e1 : (H + c1) % 18446744073709551616 = H + c1 := by omega
  rw [e1]
  have e2 : (H + c1 + c2) % 18446744073709551616 = H + c1 + c2 := by omega
  rw [e2]
  omega

/-- The value of the first n words. -/
def vW (S : List Int) : Nat → Int
  | 0 => 0
  | i + 1 => vW S i + 18446744073709551616 ^ i * S.getD i 0
def AllW (S : List Int) : Prop := ∀ i, W64 (S.getD i 0)

theorem rowC_w {i : Nat} {X Y W : List Int} (hX : AllW X) (hY : AllW Y) (hW : AllW W) : ∀ j, W64 (rowC i X Y W j)
  | 0 => by rw [rowC]; unfold W64; omega
  | j + 1 => by rw [rowC]; exact (step_eq (hX i) (hY j) (hW (i + j)) (rowC_w hX hY hW j)).2.2
theorem getD_map_range {f : Nat → Int} {n i : Nat} (h : i < n) : ((List.range n).map f).getD i 0 = f i := by
  simp [List.getD, h]
theorem rowM_w {i : Nat} {X Y W : List Int} (hX : AllW X) (hY : AllW Y) (hW : AllW W) : AllW (rowM i X Y W) := fun t => by
  unfold rowM
  by_cases h : t < 9
  · rw [getD_map_range h]
    split
    · exact hW t
    · split
      · exact (step_eq (hX i) (hY (t - i)) (hW t) (rowC_w hX hY hW (t - i))).2.1
      · split
        · exact rowC_w hX hY hW 4
        · exact hW t
  · have : ((List.range 9).map fun t => if t < i then W.getD t 0 else if t < i + 4 then stepW (X.getD i 0) (Y.getD (t - i) 0) (W.getD t 0) (rowC i X Y W (t - i)) else if t = i + 4 then rowC i X Y W 4 else W.getD t 0).getD t 0 = 0 := by
      simp [List.getD, show ¬ t < 9 from h]
    rw [this]; unfold W64; omega
/-- What a row adds. -/
theorem rowM_val {i : Nat} {X Y W : List Int} (hi : i < 4) (hX : AllW X) (hY : AllW Y) (hW : AllW W) (hz : W.getD (i + 4) 0 = 0) :
    vW (rowM i X Y W) 9 = vW W 9 + 18446744073709551616 ^ i * (X.getD i 0 * vW Y 4) := by
  have s0 := (step_eq (hX i) (hY 0) (hW (i + 0)) (rowC_w (i := i) hX hY hW 0)).1
  have s1 := (step_eq (hX i) (hY 1) (hW (i + 1)) (rowC_w (i := i) hX hY hW 1)).1
  have s2 := (step_eq (hX i) (hY 2) (hW (i + 2)) (rowC_w (i := i) hX hY hW 2)).1
  have s3 := (step_eq (hX i) (hY 3) (hW (i + 3)) (rowC_w (i := i) hX hY hW 3)).1
  change _ * rowC i X Y W 1 + _ = _ at s0
  change _ * rowC i X Y W 2 + _ = _ at s1
  change _ * rowC i X Y W 3 + _ = _ at s2
  change _ * rowC i X Y W 4 + _ = _ at s3
  have c0 : ∀ i, rowC i X Y W 0 = 0 := fun _ => rfl
  have hy : X.getD i 0 * vW Y 4 = X.getD i 0 * Y.getD 0 0 + 18446744073709551616 * (X.getD i 0 * Y.getD 1 0) + 340282366920938463463374607431768211456 * (X.getD i 0 * Y.getD 2 0) + 6277101735386680763835789423207666416102355444464034512896 * (X.getD i 0 * Y.getD 3 0) := by
    simp only [vW, Int.reducePow]
    grind
  rw [hy]
  simp only [c0, Nat.add_zero, Int.add_zero] at s0
  generalize X.getD i 0 * Y.getD 0 0 = p0 at *
  generalize X.getD i 0 * Y.getD 1 0 = p1 at *
  generalize X.getD i 0 * Y.getD 2 0 = p2 at *
  generalize X.getD i 0 * Y.getD 3 0 = p3 at *
  have e : ∀ t, t < 9 → (rowM i X Y W).getD t 0 = if t < i then W.getD t 0 else if t < i + 4 then stepW (X.getD i 0) (Y.getD (t - i) 0) (W.getD t 0) (rowC i X Y W (t - i)) else if t = i + 4 then rowC i X Y W 4 else W.getD t 0 := fun t h => by
    rw [rowM, getD_map_range h]
  simp only [vW, e 0 (by omega), e 1 (by omega), e 2 (by omega), e 3 (by omega), e 4 (by omega), e 5 (by omega), e 6 (by omega), e 7 (by omega), e 8 (by omega)]
  have : i = 0 ∨ i = 1 ∨ i = 2 ∨ i = 3 := by omega
  rcases this with rfl | rfl | rfl | rfl <;>
  · simp only [Nat.reduceLT, Nat.reduceAdd, Nat.reduceSub, Nat.reduceEqDiff, if_true, if_false, Int.reducePow, c0, Nat.sub_zero, Nat.lt_irrefl, Nat.sub_self, Nat.zero_add] at *
    omega

theorem getD_zeros (n t : Nat) : (List.replicate n (0 : Int)).getD t 0 = 0 := by
  rw [List.getD_eq_getElem?_getD, List.getElem?_replicate]
  split <;> rfl
noncomputable def rowsM (X Y : List Int) : Nat → List Int
  | 0 => List.replicate 9 0
  | i + 1 => rowM i X Y (rowsM X Y i)
theorem rowsM_w {X Y : List Int} (hX : AllW X) (hY : AllW Y) : ∀ i, AllW (rowsM X Y i)
  | 0 => fun t => by
    rw [rowsM, getD_zeros]; unfold W64; omega
  | i + 1 => rowM_w hX hY (rowsM_w hX hY i)
theorem rowsM_zero (X Y : List Int) : ∀ i t, i + 4 ≤ t → (rowsM X Y i).getD t 0 = 0
  | 0, t, _ => by
    rw [rowsM, getD_zeros]
  | i + 1, t, h => by
    rw [rowsM, rowM]
    by_cases h9 : t < 9
    · rw [getD_map_range h9, if_neg (by omega), if_neg (by omega), if_neg (by omega)]
      exact rowsM_zero X Y i t (by omega)
    · simp [List.getD, h9]
theorem rowsM_val {X Y : List Int} (hX : AllW X) (hY : AllW Y) : ∀ i, i ≤ 4 → vW (rowsM X Y i) 9 = vW X i * vW Y 4
  | 0, _ => by simp only [vW, rowsM]; simp
  | i + 1, h => by
    rw [rowsM, rowM_val (by omega) hX hY (rowsM_w hX hY i) (rowsM_zero X Y i (i + 4) (by omega)), rowsM_val hX hY i (by omega), show vW X (i + 1) = vW X i + 18446744073709551616 ^ i * X.getD i 0 from rfl, Int.add_mul, Int.mul_assoc]

theorem addCy_b {W Z : List Int} (hW : AllW W) (hZ : AllW Z) : ∀ i, 0 ≤ addCy W Z i ∧ addCy W Z i ≤ 1
  | 0 => by rw [addCy]; omega
  | i + 1 => by rw [addCy]; exact (add64_eq (hW i) (hZ i) (addCy_b hW hZ i)).2.2
theorem sumW_getD {W Z : List Int} {i : Nat} (h : i < 9) : (sumW W Z).getD i 0 = addS (W.getD i 0) (Z.getD i 0) (addCy W Z i) := by rw [sumW, getD_map_range h]
theorem sumW_w {W Z : List Int} (hW : AllW W) (hZ : AllW Z) : AllW (sumW W Z) := fun t => by
  by_cases h : t < 9
  · rw [sumW_getD h]; exact (add64_eq (hW t) (hZ t) (addCy_b hW hZ t)).2.1
  · have : (sumW W Z).getD t 0 = 0 := by simp [sumW, List.getD, h]
    rw [this]; unfold W64; omega
theorem sumW_val {W Z : List Int} (hW : AllW W) (hZ : AllW Z) : ∀ n, n ≤ 9 → vW (sumW W Z) n + 18446744073709551616 ^ n * addCy W Z n = vW W n + vW Z n
  | 0, _ => by simp [vW, addCy]
  | n + 1, h => by
    have ih := sumW_val hW hZ n (by omega)
    have e := (add64_eq (hW n) (hZ n) (addCy_b hW hZ n)).1
    rw [vW, vW, vW, sumW_getD (by omega), Int.pow_succ, show addCy W Z (n + 1) = addC (W.getD n 0) (Z.getD n 0) (addCy W Z n) from rfl]
    generalize addC (W.getD n 0) (Z.getD n 0) (addCy W Z n) = q at *
    generalize addS (W.getD n 0) (Z.getD n 0) (addCy W Z n) = r at *
    have e2 : (18446744073709551616 : Int) ^ n * 18446744073709551616 * q = 18446744073709551616 ^ n * (18446744073709551616 * q) := Int.mul_assoc _ _ _
    have e3 : (18446744073709551616 : Int) * q = W.getD n 0 + Z.getD n 0 + addCy W Z n - r := by omega
    rw [e2, e3]
    simp only [Int.mul_add, Int.mul_sub]
    omega
theorem vW_bound {S : List Int} (h : AllW S) : ∀ n, 0 ≤ vW S n ∧ vW S n < 18446744073709551616 ^ n
  | 0 => by simp [vW]
  | n + 1 => by
    have ih := vW_bound h n
    have hd := h n
    have hp : (0 : Int) < 18446744073709551616 ^ n := Int.pow_pos (by omega)
    rw [vW, Int.pow_succ]
    unfold W64 at hd
    have h1 := Int.mul_nonneg (Int.le_of_lt hp) hd.1
    have h2 : (18446744073709551616 : Int) ^ n * S.getD n 0 ≤ 18446744073709551616 ^ n * 18446744073709551615 := Int.mul_le_mul_of_nonneg_left (by omega) (Int.le_of_lt hp)
    omega

/-! ### Bits -/
theorem and64_one (x : Int) (h0 : 0 ≤ x) (h1 : x < 18446744073709551616) : andI .u64 x 1 = x % 2 := by
  exact (bits_mask .u64 64 (by decide) wraps_u64 1 (by decide) x h0 h1 : bits .and .u64 x (2 ^ 1 - 1) = x % 2 ^ 1)
theorem bits_fold {n x : Int} (h0 : 0 ≤ n) (h1 : n < ordL) (hx : W64 x) : ∀ m : Nat, m ≤ 64 →
    ((List.range m).map (63 - ·)).foldl (fun w k => bitF (lst 4 w) (andI .u64 (shrI .u64 x k) 1)) (wds n) = wds ((2 ^ m * n + x / 2 ^ (64 - m)) % ordL)
  | 0, _ => by
    have hL := ordL_pos
    unfold W64 at hx
    simp only [List.range_zero, List.map_nil, List.foldl_nil, Nat.sub_zero]
    rw [show x / 2 ^ 64 = 0 by rw [show (2 : Int) ^ 64 = 18446744073709551616 from rfl]; omega]
    rw [show (2 : Int) ^ 0 * n + 0 = n by simp, Int.emod_eq_of_lt h0 h1]
  | m + 1, h => by
    have hL := ordL_pos
    unfold W64 at hx
    rw [List.range_succ, List.map_append, List.foldl_append, bits_fold h0 h1 hx m (by omega)]
    simp only [List.map_cons, List.map_nil, List.foldl_cons, List.foldl_nil]
    have hk : (63 - m) ≤ IntKind.u64.bits := by show 63 - m ≤ 64; omega
    have hp : (0 : Int) < 2 ^ (63 - m) := Int.pow_pos (by omega)
    have q0 : 0 ≤ x / 2 ^ (63 - m) := Int.ediv_nonneg hx.1 (by omega)
    have q1 : x / 2 ^ (63 - m) ≤ x := Int.ediv_le_self _ hx.1
    rw [shr_eq _ _ _ hk, and64_one _ q0 (by omega), bit_step (Int.emod_nonneg _ (by omega)) (Int.emod_lt_of_pos _ hL.1) (by omega) (by omega), twice_mod]
    congr 2
    have e1 : 64 - (m + 1) = 63 - m := by omega
    have e2 : x / 2 ^ (64 - m) = x / 2 ^ (63 - m) / 2 := by
      rw [Int.ediv_ediv_of_nonneg (by omega), ← Int.pow_succ]
      congr 2
      omega
    rw [e1, e2, Int.pow_succ, Int.mul_add, Int.mul_comm (2 ^ m) 2, Int.mul_assoc]
    omega
theorem word_wds {n x : Int} (h0 : 0 ≤ n) (h1 : n < ordL) (hx : W64 x) : wordW (wds n) x = wds ((18446744073709551616 * n + x) % ordL) := by
  have := bits_fold h0 h1 hx 64 (by omega)
  rw [wordW, this, Nat.sub_self]
  simp
noncomputable def redwW (W : List Int) : Nat → List Int
  | 0 => [0, 0, 0, 0]
  | j + 1 => wordW (lst 4 (redwW W j)) (W.getD (8 - j) 0)
def topW (W : List Int) : Nat → Int
  | 0 => 0
  | j + 1 => 18446744073709551616 * topW W j + W.getD (8 - j) 0
theorem redwW_eq {W : List Int} (hW : AllW W) : ∀ j, redwW W j = wds (topW W j % ordL)
  | 0 => by rw [redwW, topW]; rfl
  | j + 1 => by
    have hL := ordL_pos
    rw [redwW, redwW_eq hW j, lst_eq (by rfl), word_wds (Int.emod_nonneg _ (by omega)) (Int.emod_lt_of_pos _ hL.1) (hW _), topW]
    congr 1
    rw [Int.add_emod, Int.mul_emod, Int.emod_emod, ← Int.mul_emod, ← Int.add_emod]
theorem topW_nine (W : List Int) : topW W 9 = vW W 9 := by
  simp only [topW, vW, Nat.reduceSub, Int.reducePow]
  omega
end Go.Proofs.Ytailgcdcdhhpnaa
