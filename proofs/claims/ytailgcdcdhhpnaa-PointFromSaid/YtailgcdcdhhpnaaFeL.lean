/- This file proves what field's Power, Inv, Root come to, modulo p. Conditions: words as they come from carry. -/
import Derived.Test.YtailgcdcdhhpnaaFeK
namespace Go.Proofs.Ytailgcdcdhhpnaa.Fe
open Go Go.Sy

theorem bit_val {e : List Int} (he : e.all u8 = true) (hn : e.length = 32) {i : Nat} (h1 : i < 256) : bitI e i = val256 e / 2 ^ i % 2 := by
  have hd := digN_val e he
  rw [hn] at hd
  have v0 := val256_nonneg he
  generalize val256 e = v at *
  have e1 : (i : Int).tdiv 8 = ((i / 8 : Nat) : Int) := by rw [Int.tdiv_eq_ediv_of_nonneg (by omega)]; omega
  have e2 : (i : Int).tmod 8 = ((i % 8 : Nat) : Int) := by rw [Int.tmod_eq_emod_of_nonneg (by omega)]; omega
  have w1 : IntKind.i64.wrap ((i / 8 : Nat) : Int) = ((i / 8 : Nat) : Int) := wrap_i64 _ (by omega) (by omega)
  unfold bitI
  rw [e1, e2, w1, Int.toNat_natCast, Int.toNat_natCast, Nat.zero_add, hd, digN_getD _ _ _ (by omega)]
  rw [shr_eq _ _ _ (by show i % 8 ≤ 8; omega)]
  have hs : v / 256 ^ (i / 8) / 2 ^ (i % 8) = v / 2 ^ i := by
    rw [Int.ediv_ediv_of_nonneg (Int.pow_nonneg (by omega)), show (256 : Int) = 2 ^ 8 from rfl, ← Int.pow_mul, ← Int.pow_add]
    congr 2
    omega
  rw [← hs]
  generalize v / 256 ^ (i / 8) = Y
  have hr : i % 8 = 0 ∨ i % 8 = 1 ∨ i % 8 = 2 ∨ i % 8 = 3 ∨ i % 8 = 4 ∨ i % 8 = 5 ∨ i % 8 = 6 ∨ i % 8 = 7 := by omega
  rcases hr with h | h | h | h | h | h | h | h <;> rw [h] <;> simp only [Int.reducePow] <;> rw [and8_one _ (by omega) (by omega), wrap_i64 _ (by omega) (by omega)] <;> omega

theorem pow_mod_mul (x : Int) (m n : Nat) : x ^ m % Pm * (x ^ n % Pm) % Pm = x ^ (m + n) % Pm := by rw [← Int.mul_emod, ← Int.pow_add]
theorem pow_val {a e : List Int} (ha : Bd a) (he : e.all u8 = true) (hn : e.length = 32) : Bd (powFe a e) ∧ fv (powFe a e) = fv a ^ (val256 e).toNat % Pm := by
  have v0 := val256_nonneg he
  have v1 := val256_lt he
  rw [hn] at v1
  have key : ∀ j : Nat, j ≤ 256 → Bd (pwN a e j) ∧ fv (pwN a e j) = fv a ^ (val256 e / 2 ^ (256 - j)).toNat % Pm := by
    intro j
    induction j with
    | zero =>
      intro _
      obtain ⟨s1, s2⟩ := small_val (n := 1) (by omega) (by omega)
      refine ⟨s1, ?_⟩
      rw [pwN, fv, s2, Nat.sub_zero]
      have : val256 e / 2 ^ 256 = 0 := by
        rw [show (2 : Int) ^ 256 = 115792089237316195423570985008687907853269984665640564039457584007913129639936 by decide]
        rw [show (256 : Int) ^ 32 = 115792089237316195423570985008687907853269984665640564039457584007913129639936 by decide] at v1
        omega
      rw [this]
      simp
    | succ j ih =>
      intro hj
      obtain ⟨b1, b2⟩ := ih (by omega)
      obtain ⟨m1, m2⟩ := mul_val b1 b1
      have hb := bit_val he hn (i := 255 - j) (by omega)
      have hi : ((255 - j : Nat) : Int) = 255 - (j : Int) := by omega
      rw [hi] at hb
      have hE : val256 e / 2 ^ (256 - (j + 1)) = 2 * (val256 e / 2 ^ (256 - j)) + val256 e / 2 ^ (255 - j) % 2 := by
        have h1 : val256 e / 2 ^ (256 - j) = val256 e / 2 ^ (255 - j) / 2 := by
          rw [Int.ediv_ediv_of_nonneg (Int.pow_nonneg (by omega)), show 256 - j = (255 - j) + 1 by omega, Int.pow_succ]
        rw [h1, show 256 - (j + 1) = 255 - j by omega]
        omega
      have hnn : 0 ≤ val256 e / 2 ^ (256 - j) := Int.ediv_nonneg v0 (Int.pow_nonneg (by omega))
      have hsq : fv (mulFe (lst 5 (pwN a e j)) (lst 5 (pwN a e j))) = fv a ^ (2 * (val256 e / 2 ^ (256 - j))).toNat % Pm := by
        rw [m2, b2, pow_mod_mul]
        congr 2
        omega
      rw [pwN]
      cases hc : (bitI e (255 - (j : Int)) != 0) with
      | false =>
        simp only [bne_eq_false_iff_eq] at hc
        rw [hb] at hc
        refine ⟨m1, ?_⟩
        show fv (mulFe (lst 5 (pwN a e j)) (lst 5 (pwN a e j))) = _
        rw [hsq, hE, hc, Int.add_zero]
      | true =>
        rw [bne_iff_ne] at hc
        rw [hb] at hc
        have h1 : val256 e / 2 ^ (255 - j) % 2 = 1 := by omega
        obtain ⟨n1, n2⟩ := mul_val m1 ha
        refine ⟨n1, ?_⟩
        show fv (mulFe (lst 5 (mulFe (lst 5 (pwN a e j)) (lst 5 (pwN a e j)))) (lst 5 a)) = _
        have e1 : fv a = fv a ^ 1 % Pm := by rw [Int.pow_one]; have := fv_range a; exact (Int.emod_eq_of_lt this.1 this.2).symm
        rw [n2, hsq]
        conv => lhs; arg 1; arg 2; rw [e1]
        rw [pow_mod_mul, hE, h1]
        congr 2
        omega
  obtain ⟨k1, k2⟩ := key 256 (Nat.le_refl _)
  rw [powFe, Lock_eq]
  refine ⟨k1, ?_⟩
  rw [k2, Nat.sub_self, Int.pow_zero, Int.ediv_one]

theorem e2_val : val256 e2 = Pm - 2 := by decide
theorem e1_val : val256 e1 = (Pm - 1) / 4 := by decide
theorem e5_val : val256 e5 = (Pm - 5) / 8 := by decide
/-- Powers modulo p. -/
def pwm (x : Int) (n : Nat) : Int := x ^ n % Pm
theorem inv_val {a : List Int} (ha : Bd a) : Bd (invFe a) ∧ fv (invFe a) = pwm (fv a) (Pm - 2).toNat := by
  have := pow_val ha (e := e2) (by decide) (by decide)
  rw [e2_val] at this
  exact this
theorem imag_val : Bd imagFe ∧ fv imagFe = pwm 2 ((Pm - 1) / 4).toNat := by
  obtain ⟨s1, s2⟩ := small_val (n := 2) (by omega) (by omega)
  have := pow_val s1 (e := e1) (by decide) (by decide)
  rw [e1_val, show fv (smallFe 2) = 2 by rw [fv, s2]; decide] at this
  exact this

/-! ### Root -/
/-- The first candidate. -/
def rA (x : Int) : Int := pwm x ((Pm - 5) / 8).toNat * x % Pm
def rB (x : Int) : Int := if rA x * rA x % Pm = x then rA x else rA x * pwm 2 ((Pm - 1) / 4).toNat % Pm
/-- The even root of x, where there is one. -/
def rootV (x : Int) : Option Int := if rB x * rB x % Pm = x then some (if rB x % 2 = 1 then (0 - rB x) % Pm else rB x) else none
theorem isRt_val {r a : List Int} (hr : Bd r) (ha : Bd a) : isRt r a = decide (fv r * fv r % Pm = fv a) := by
  obtain ⟨m1, m2⟩ := mul_val hr hr
  unfold isRt
  have := eq_iff m1 ha
  rw [m2] at this
  by_cases h : fv r * fv r % Pm = fv a
  · rw [decide_eq_true h, decide_eq_true (this.2 h)]
  · rw [decide_eq_false h, decide_eq_false fun q => h (this.1 q)]
theorem rt2_val {a : List Int} (ha : Bd a) : Bd (rt2 a) ∧ fv (rt2 a) = rB (fv a) := by
  obtain ⟨p1, p2⟩ := pow_val ha (e := e5) (by decide) (by decide)
  rw [e5_val] at p2
  obtain ⟨m1, m2⟩ := mul_val p1 ha
  have hA : fv (rt1 a) = rA (fv a) := by unfold rt1 rA pwm; rw [m2, p2]
  obtain ⟨i1, i2⟩ := imag_val
  obtain ⟨n1, n2⟩ := mul_val (a := rt1 a) m1 i1
  unfold rt2 rB
  rw [isRt_val (r := rt1 a) m1 ha, hA]
  by_cases h : rA (fv a) * rA (fv a) % Pm = fv a
  · rw [decide_eq_true h, if_pos h]; exact ⟨m1, hA⟩
  · rw [decide_eq_false h, if_neg h]
    refine ⟨n1, ?_⟩
    show fv (mulFe (lst 5 (rt1 a)) (lst 5 imagFe)) = _
    rw [n2, hA, i2]
theorem root_val {a : List Int} (ha : Bd a) : Bd (rootFe a) ∧ isRt (rt2 a) a = (rootV (fv a)).isSome ∧ ∀ r, rootV (fv a) = some r → fv (rootFe a) = r := by
  obtain ⟨b1, b2⟩ := rt2_val ha
  obtain ⟨s1, s2⟩ := sub_val Bd.z5 b1
  unfold rootFe rootV
  rw [isRt_val b1 ha, b2, odd_val b1, b2]
  by_cases h : rB (fv a) * rB (fv a) % Pm = fv a
  · rw [decide_eq_true h, if_pos h]
    refine ⟨?_, rfl, fun r hr => ?_⟩
    · by_cases h2 : rB (fv a) % 2 = 1
      · rw [decide_eq_true h2]; exact s1
      · rw [decide_eq_false h2]; exact b1
    · cases hr
      by_cases h2 : rB (fv a) % 2 = 1
      · rw [decide_eq_true h2, if_pos h2]
        show fv (subFe z5 (rt2 a)) = _
        rw [s2, b2]; rfl
      · rw [decide_eq_false h2, if_neg h2]; exact b2
  · rw [decide_eq_false h, if_neg h]
    exact ⟨Bd.z5, rfl, fun r hr => by cases hr⟩
end Go.Proofs.Ytailgcdcdhhpnaa.Fe
