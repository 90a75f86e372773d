/- This file proves the base's order: so many times the base is nothing. No conditions. -/
import Derived.Test.YtkoohnpknhoahaaTPoV
set_option linter.all false
namespace Go.Proofs.Ytkoohnpknhoahaa.Po
open Go Go.Sy Re Fe
theorem rv_zero : RV (0, 1, 1, 0) zeroA := ⟨zero_on, by show ph 1 ≠ 0; decide, ⟨by decide, by decide⟩, by show ph 0 = 0 * ph 1; decide, by show ph 1 = 1 * ph 1; decide, by show ph 0 = 0 * 1 * ph 1; decide⟩
def LN : Nat := 7237005577332262213973186563042994240857116359379907606001950938285454250989
def vtS (a o : V4) (b : Bool) : V4 := bif b then sumV dV (sumV dV o o) a else sumV dV o o
def vtN (n : Nat) (a : V4) : Nat → V4
  | 0 => (0, 1, 1, 0)
  | j + 1 => vtS a (vtN n a j) (Nat.beq (n / 2 ^ (255 - j) % 2) 1)
theorem vtN_val {n : Nat} (hn : n < 2 ^ 256) {a : V4} {A : Pt} (ha : RV a A) : ∀ j, j ≤ 256 → RV (vtN n a j) (mulA A (n / 2 ^ (256 - j)))
  | 0, _ => by
    rw [Nat.sub_zero, Nat.div_eq_of_lt hn, mulA_zero]
    exact (rv_zero)
  | j + 1, hj => by
    have ih := vtN_val hn ha j (by omega)
    rw [dbl_mul ha.on _ (by omega), vtN, vtS]
    cases h : Nat.beq (n / 2 ^ (255 - j) % 2) 1 with
    | true =>
      rw [if_pos (Nat.eq_of_beq_eq_true h), cond_true]
      exact sum_RV (sum_RV ih ih) ha
    | false =>
      rw [if_neg (fun q => by rw [q] at h; cases h), cond_false]
      exact sum_RV ih ih
def baseV : V4 := (BX, BY, 1, mm BX BY)
theorem base_rv : RV baseV baseA := by
  have hr : rootV (uV BY) = some BX := by
    rw [uV_i, rootV_i (show 0 ≤ uVi BY from (mod_range _).1)]
    exact base_root
  exact (rv_one (root_sq hr) rfl).1
theorem base_end : ((vtN LN baseV 256).1 == 0 && (vtN LN baseV 256).2.1 == (vtN LN baseV 256).2.2.1) = true := by decide +kernel
theorem id_z {n : Nat} [NeZero n] (a z i : Fin n) (h : 0 = a * z) (hi : z * i = 1) : a = 0 := by grobner
theorem id_o {n : Nat} [NeZero n] (a z i : Fin n) (h : z = a * z) (hi : z * i = 1) : a = 1 := by grobner
theorem LN_lt : LN < 2 ^ 256 := by decide
theorem base_order : mulA baseA LN = zeroA := by
  have h := vtN_val LN_lt base_rv 256 (Nat.le_refl _)
  rw [Nat.sub_self, Nat.pow_zero, Nat.div_one] at h
  have e := base_end
  rw [Bool.and_eq_true, beq_iff_eq, beq_iff_eq] at e
  have hx := h.x
  have hy := h.y
  rw [e.1, ph_zero] at hx
  rw [e.2] at hy
  have hi := fi_mul h.z
  exact Prod.ext (id_z _ _ _ hx hi) (id_o _ _ _ hy hi)
theorem mul_LN (n : Nat) : mulA baseA n = mulA baseA (n % LN) := by
  conv => lhs; rw [← Nat.div_add_mod n LN]
  rw [mul_addA base_rv.on, ← mul_mulA base_rv.on, base_order, mul_zeroA, zero_addA]
end Go.Proofs.Ytkoohnpknhoahaa.Po
