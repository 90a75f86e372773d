/- This file proves which signatures are right, in points and numbers. Conditions: bytes within their kind. -/
import Derived.Test.YtkoohnpknhoahaaTSgL
import Derived.Test.YtkoohnpknhoahaaTShN
set_option linter.all false
namespace Go.Proofs.Ytkoohnpknhoahaa.Sp
open Go Go.Sy
theorem residue_law {a : List Int} (ha : a.all u8 = true) (la : a.length = 32) : (lessB (numF a) == 1) = decide (redF a = a) := by
  have hL := ordL_pos
  have v := val_bound ha la
  have nX := numF_val ha la
  have hd := digN_val a ha
  rw [la] at hd
  obtain ⟨_, h⟩ := minus_wds v.1 v.2
  rw [redF, Lift.Lock_eq, nX]
  rcases h with ⟨h1, h2⟩ | ⟨h1, h2⟩
  · rw [h2, Int.emod_eq_of_lt v.1 h1, ← hd]
    simp
  · rw [h2]
    have : digN 32 (val256 a % ordL) ≠ a := fun q => by
      have e := congrArg val256 q
      have r := Int.emod_lt_of_pos (val256 a) hL.1
      have r0 := Int.emod_nonneg (val256 a) (b := ordL) (by omega)
      rw [val_digN 32 _ r0 (by have : (256 : Int) ^ 32 = 115792089237316195423570985008687907853269984665640564039457584007913129639936 := by decide
                               omega)] at e
      omega
    rw [decide_eq_false this]
    rfl
theorem residue_big {a : List Int} (ha : a.all u8 = true) (la : a.length = 32) : (lessB (numF a) == 1) = decide (val256 a < ordL) := by
  have v := val_bound ha la
  obtain ⟨_, h⟩ := minus_wds v.1 v.2
  rw [numF_val ha la]
  rcases h with ⟨h1, h2⟩ | ⟨h1, h2⟩
  · rw [h2, decide_eq_true h1]; rfl
  · rw [h2, decide_eq_false (by omega)]; rfl
theorem red_val (l : List Int) : (redF l).length = 32 ∧ (redF l).all u8 = true ∧ 0 ≤ val256 (redF l) ∧ val256 (redF l) < ordL := by
  have hL := ordL_pos
  have r := Int.emod_lt_of_pos (val256 l) hL.1
  have r0 := Int.emod_nonneg (val256 l) (b := ordL) (by omega)
  rw [redF, Lift.Lock_eq]
  refine ⟨digN_length .., digN_u8 .., ?_⟩
  rw [val_digN 32 _ r0 (by have : (256 : Int) ^ 32 = 115792089237316195423570985008687907853269984665640564039457584007913129639936 := by decide
                           omega)]
  exact ⟨r0, r⟩
end Go.Proofs.Ytkoohnpknhoahaa.Sp
namespace Go.Proofs.Ytkoohnpknhoahaa.Sg
open Go Go.Sy Re Fe Po Sh
theorem ordL_LN : ordL = (LN : Int) := rfl
theorem res_iff {s : List Int} (hs : keyOK s = true) : (lessB (numF s) == 1) = decide (numB s < LN) := by
  obtain ⟨h1, h2⟩ := keyOK_iff.1 hs
  rw [Sp.residue_big h2 h1, ordL_LN, vals_eq]
  have h0 := Fe.val256_nonneg h2
  unfold numB
  exact decide_eq_decide.2 (by omega)
theorem red_ok (l : List Int) : keyOK (redF l) = true ∧ numB (redF l) < LN := by
  obtain ⟨h1, h2, h3, h4⟩ := Sp.red_val l
  rw [ordL_LN, vals_eq] at h4
  rw [vals_eq] at h3
  refine ⟨keyOK_iff.2 ⟨h1, h2⟩, ?_⟩
  unfold numB
  omega
theorem add_cancel {A B C : Pt} (hA : On A) (hB : On B) (hC : On C) (h : addA A C = addA B C) : A = B := by
  have this : addA (addA A C) (negA C) = addA (addA B C) (negA C) := by rw [h]
  rw [add_assocA hA hC (neg_on hC), add_assocA hB hC (neg_on hC), add_negA hC, add_zeroA, add_zeroA] at this
  exact this
theorem sign_back {n k r s : Nat} (hs : s = (k * n + r) % LN) : addA (mulA baseA s) (negA (mulA (mulA baseA n) k)) = mulA baseA r := by
  have hB := base_rv.on
  rw [hs, ← mul_LN, mul_mulA hB, mul_addA hB, Nat.mul_comm n k, add_commA (mulA baseA (k * n)), add_assocA (mul_on hB _) (mul_on hB _) (neg_on (mul_on hB _)), add_negA (mul_on hB _), add_zeroA]
theorem sign_other {n k k' r s : Nat} (hs : s = (k * n + r) % LN) (hk : k' ≤ LN) (h : addA (mulA baseA s) (negA (mulA (mulA baseA n) k')) = mulA baseA r) : mulA baseA ((k + (LN - k')) * n % LN) = zeroA := by
  have hB := base_rv.on
  have hX := mul_on (mul_on hB n) k'
  have h1 : addA (addA (mulA baseA s) (negA (mulA (mulA baseA n) k'))) (mulA (mulA baseA n) k') = addA (mulA baseA r) (mulA (mulA baseA n) k') := by rw [h]
  rw [add_assocA (mul_on hB _) (neg_on hX) hX, add_commA (negA _), add_negA hX, add_zeroA, hs, ← mul_LN, mul_addA hB, add_commA (mulA baseA r)] at h1
  have h2 := add_cancel (mul_on hB _) hX (mul_on hB _) h1
  rw [← mul_LN, Nat.add_mul, mul_addA hB, h2, mul_mulA hB, ← mul_addA hB, Nat.mul_comm n k', ← Nat.add_mul, show k' + (LN - k') = LN by omega, ← mul_mulA hB, base_order, mul_zeroA]
end Go.Proofs.Ytkoohnpknhoahaa.Sg
