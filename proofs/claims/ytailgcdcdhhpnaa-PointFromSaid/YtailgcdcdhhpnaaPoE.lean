/- This file proves powers modulo p by squaring, and the curve's factor on both sides. Conditions: exponents of 256 bits. -/
import Derived.Test.YtailgcdcdhhpnaaPoD
namespace Go.Proofs.Ytailgcdcdhhpnaa.Po
open Go Go.Sy Re Fe

/-! ### Powers, reckoned -/
def PN : Nat := 57896044618658097711785492504343953926634992332820282019728792003956564819949
theorem PN_eq : ((PN : Nat) : Int) = Pm := by decide
def pwS (x a : Nat) (b : Bool) : Nat := bif b then a * a % PN * x % PN else a * a % PN
def pwL (x n : Nat) : Nat → Nat
  | 0 => 1
  | j + 1 => pwS x (pwL x n j) (Nat.beq (n / 2 ^ (255 - j) % 2) 1)
theorem pwL_eq (x n : Nat) (hn : n < 2 ^ 256) : ∀ j, j ≤ 256 → pwL x n j = x ^ (n / 2 ^ (256 - j)) % PN
  | 0, _ => by
    rw [pwL, Nat.sub_zero, Nat.div_eq_of_lt hn, Nat.pow_zero]
    decide
  | j + 1, h => by
    have ih := pwL_eq x n hn j (by omega)
    have hE : n / 2 ^ (256 - (j + 1)) = 2 * (n / 2 ^ (256 - j)) + n / 2 ^ (255 - j) % 2 := by
      have h1 : n / 2 ^ (256 - j) = n / 2 ^ (255 - j) / 2 := by
        rw [Nat.div_div_eq_div_mul, show 256 - j = (255 - j) + 1 by omega, Nat.pow_succ]
      rw [h1, show 256 - (j + 1) = 255 - j by omega]
      omega
    have hsq : x ^ (n / 2 ^ (256 - j)) % PN * (x ^ (n / 2 ^ (256 - j)) % PN) % PN = x ^ (2 * (n / 2 ^ (256 - j))) % PN := by
      rw [← Nat.mul_mod, ← Nat.pow_add]; congr 2; omega
    rw [pwL, ih, hE]
    unfold pwS
    cases hb : Nat.beq (n / 2 ^ (255 - j) % 2) 1 with
    | true =>
      have hb' := Nat.eq_of_beq_eq_true hb
      rw [hb', cond_true, hsq, Nat.pow_succ, Nat.mod_mul_mod]
    | false =>
      have hb' : n / 2 ^ (255 - j) % 2 = 0 := by
        have : ¬ n / 2 ^ (255 - j) % 2 = 1 := fun q => by rw [q] at hb; cases hb
        omega
      rw [hb', cond_false, hsq, Nat.add_zero]
theorem pwm_cast (x n : Nat) (hn : n < 2 ^ 256) : pwm (x : Int) n = ((pwL x n 256 : Nat) : Int) := by
  rw [pwL_eq x n hn 256 (Nat.le_refl _), Nat.sub_self, Nat.pow_zero, Nat.div_one]
  unfold pwm
  rw [← PN_eq, Int.natCast_emod, Int.natCast_pow]
/-- Powers by squaring. -/
def pwi (x : Int) (n : Nat) : Int := ((pwL x.toNat n 256 : Nat) : Int)
theorem pwm_pwi {x : Int} {n : Nat} (h : 0 ≤ x) (hn : n < 2 ^ 256) : pwm x n = pwi x n := by
  obtain ⟨m, rfl⟩ := Int.eq_ofNat_of_zero_le h
  exact pwm_cast m n hn
theorem two_Pm : (Pm - 2).toNat < 2 ^ 256 := by decide
def invi (x : Int) : Int := pwi x (Pm - 2).toNat
theorem inv_invi {x : Int} (h : 0 ≤ x) : inv x = invi x := pwm_pwi h two_Pm

/-! ### The curve's factor -/
def dV : Int := 37095705934669439343138083508754565189542113879843219016388785533085940283555
theorem dR_val : vR (Lock dR) = dV := by
  rw [Lock_eq]
  unfold dR
  rw [vR_refM]
  decide
theorem dF_val : Bd (Lock dF) ∧ fv (Lock dF) = dV := by
  rw [Lock_eq]
  have s1 := small_val (n := 121664) (by omega) (by omega)
  have h1 : smallFe (-121665) = subFe (subFe z5 (smallFe 121664)) [1, 0, 0, 0, 0] := rfl
  have b1 : Bd [1, 0, 0, 0, 0] := ⟨rfl, by decide, by decide, by decide, by decide, by decide⟩
  obtain ⟨a1, a2⟩ := sub_val Bd.z5 s1.1
  obtain ⟨a3, a4⟩ := sub_val a1 b1
  have s2 := small_val (n := 121666) (by omega) (by omega)
  obtain ⟨i1, i2⟩ := inv_val s2.1
  have h3 : fv (smallFe 121666) = 121666 := by unfold fv; rw [s2.2]; decide
  have h4 : fv (smallFe 121664) = 121664 := by unfold fv; rw [s1.2]; decide
  rw [h3] at i2
  rw [h4, z5_val] at a2
  rw [← h1] at a3 a4
  rw [a2] at a4
  obtain ⟨m1, m2⟩ := fM_val (a := smallFe (-121665)) a3 i1
  refine ⟨m1, ?_⟩
  unfold dF
  rw [m2, a4, i2, pwm_pwi (by decide) two_Pm]
  decide +kernel
end Go.Proofs.Ytailgcdcdhhpnaa.Po
