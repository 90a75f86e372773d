/- This file proves what field's words stand for, modulo p: carry, Add, Sub, Mul. Conditions: words of 52 bits. -/
import Derived.Test.YtailgcdcdhhpnaaFeG
namespace Go.Proofs.Ytailgcdcdhhpnaa.Fe
open Go Go.Sy

/-- p. -/
def Pm : Int := 57896044618658097711785492504343953926634992332820282019728792003956564819949
theorem Pm_eq : Pm = 57896044618658097711785492504343953926634992332820282019728792003956564819949 := rfl
theorem Pm_pos : 0 < Pm := by rw [Pm_eq]; omega
/-- Five words as a number. -/
def v5 (a b c d e : Int) : Int := a + 2251799813685248 * b + 5070602400912917605986812821504 * c + 11417981541647679048466287755595961091061972992 * d + 25711008708143844408671393477458601640355247900524685364822016 * e
def val5 (w : List Int) : Int := v5 (w.getD 0 0) (w.getD 1 0) (w.getD 2 0) (w.getD 3 0) (w.getD 4 0)
/-- The number. -/
def fv (w : List Int) : Int := val5 w % Pm
/-- Words as they come from carry. -/
structure Bd (w : List Int) : Prop where
  len : w.length = 5
  b0 : 0 ≤ w.getD 0 0 ∧ w.getD 0 0 < 2251799813685248
  b1 : 0 ≤ w.getD 1 0 ∧ w.getD 1 0 < 2251799813685248
  b2 : 0 ≤ w.getD 2 0 ∧ w.getD 2 0 < 2251799813685248
  b3 : 0 ≤ w.getD 3 0 ∧ w.getD 3 0 < 2251799813685248
  b4 : 0 ≤ w.getD 4 0 ∧ w.getD 4 0 < 2251799813685248
theorem Bd.lst {w : List Int} (h : Bd w) : lst 5 w = w := lst_eq h.len
/-- One pass of carry. -/
theorem pass_val {a b c d e : Int} (ha : 0 ≤ a ∧ a < 9223372036854775808) (hb : 0 ≤ b ∧ b < 9223372036854775808) (hc : 0 ≤ c ∧ c < 9223372036854775808) (hd : 0 ≤ d ∧ d < 9223372036854775808) (he : 0 ≤ e ∧ e < 9223372036854775808) :
    ∃ q r0 r1 r2 r3 r4, passW [a, b, c, d, e] = [r0, r1, r2, r3, r4] ∧ 0 ≤ q ∧ 2251799813685248 * q ≤ e + 4097 ∧ v5 r0 r1 r2 r3 r4 = v5 a b c d e - q * Pm ∧ 0 ≤ r0 ∧ r0 = a % 2251799813685248 + 19 * q ∧ (a < 2251799813685248 → b < 2251799813685248 → c < 2251799813685248 → d < 2251799813685248 → e < 2251799813685248 → q = 0) ∧
      (0 ≤ r1 ∧ r1 < 2251799813685248) ∧ (0 ≤ r2 ∧ r2 < 2251799813685248) ∧ (0 ≤ r3 ∧ r3 < 2251799813685248) ∧ (0 ≤ r4 ∧ r4 < 2251799813685248) := by
  have c0 : cw0 [a, b, c, d, e] = a := by simp only [cw0, w64, wrap_u64, List.getD_cons_zero]; omega
  have c1 : cw1 [a, b, c, d, e] = b + a / 2251799813685248 := by simp only [cw1, w64, hi51, wrap_u64, c0, shr51, List.getD_cons_zero, List.getD_cons_succ]; omega
  have c2 : cw2 [a, b, c, d, e] = c + (b + a / 2251799813685248) / 2251799813685248 := by simp only [cw2, w64, hi51, wrap_u64, c1, shr51, List.getD_cons_zero, List.getD_cons_succ]; omega
  generalize hq0 : a / 2251799813685248 = q0 at *
  generalize hq1 : (b + q0) / 2251799813685248 = q1 at *
  have c3 : cw3 [a, b, c, d, e] = d + (c + q1) / 2251799813685248 := by simp only [cw3, w64, hi51, wrap_u64, c2, shr51, List.getD_cons_zero, List.getD_cons_succ]; omega
  generalize hq2 : (c + q1) / 2251799813685248 = q2 at *
  have c4 : cw4 [a, b, c, d, e] = e + (d + q2) / 2251799813685248 := by simp only [cw4, w64, hi51, wrap_u64, c3, shr51, List.getD_cons_zero, List.getD_cons_succ]; omega
  generalize hq3 : (d + q2) / 2251799813685248 = q3 at *
  have hr : passW [a, b, c, d, e] = [a % 2251799813685248 + 19 * ((e + q3) / 2251799813685248), (b + q0) % 2251799813685248, (c + q1) % 2251799813685248, (d + q2) % 2251799813685248, (e + q3) % 2251799813685248] := by
    unfold passW
    rw [c0, c1, c2, c3, c4]
    simp only [w64, hi51, lo51, shr51]
    rw [mask51 _ (by omega) (by omega), mask51 _ (by omega) (by omega), mask51 _ (by omega) (by omega), mask51 _ (by omega) (by omega), mask51 _ (by omega) (by omega), wrap_u64, wrap_u64]
    congr 1
    omega
  refine ⟨(e + q3) / 2251799813685248, _, _, _, _, _, hr, by omega, by omega, ?_, by omega, rfl, fun _ _ _ _ _ => by omega, by omega, by omega, by omega, by omega⟩
  unfold v5
  rw [Pm_eq]
  generalize hq4 : (e + q3) / 2251799813685248 = q4 at *
  omega
theorem car_val {l : List Int} (h : ∀ i, i < 5 → 0 ≤ l.getD i 0 ∧ l.getD i 0 < 9223372036854775808) : Bd (carF l) ∧ ∃ q, val5 (carF l) = val5 l - q * Pm := by
  have hl : lst 5 l = [l.getD 0 0, l.getD 1 0, l.getD 2 0, l.getD 3 0, l.getD 4 0] := rfl
  obtain ⟨q, r0, r1, r2, r3, r4, e1, hq, hq2, hv, a0, b0, _, h1, h2, h3, h4⟩ := pass_val (h 0 (by omega)) (h 1 (by omega)) (h 2 (by omega)) (h 3 (by omega)) (h 4 (by omega))
  have hl4 := h 4 (by omega)
  obtain ⟨q', s0, s1, s2, s3, s4, e2, hq', hq2', hv', a0', b0', z0, g1, g2, g3, g4⟩ := pass_val (a := r0) (b := r1) (c := r2) (d := r3) (e := r4) (by omega) (by omega) (by omega) (by omega) (by omega)
  have hc : carF l = [s0, s1, s2, s3, s4] := by rw [carF, Lock_eq, hl, e1, e2]
  rw [hc]
  refine ⟨⟨rfl, ⟨a0', by
    simp only [List.getD_cons_zero]
    by_cases hr : r0 < 2251799813685248
    · have := z0 hr h1.2 h2.2 h3.2 h4.2; omega
    · omega⟩, g1, g2, g3, g4⟩, q + q', ?_⟩
  unfold val5
  simp only [List.getD_cons_zero, List.getD_cons_succ]
  rw [hv', hv, Int.add_mul]
  omega
theorem fv_sub {x y q : Int} (h : x = y - q * Pm) : x % Pm = y % Pm := by
  subst h
  rw [show y - q * Pm = y + Pm * (-q) by rw [Int.mul_neg, Int.mul_comm q Pm]; omega, Int.add_mul_emod_self_left]
end Go.Proofs.Ytailgcdcdhhpnaa.Fe
