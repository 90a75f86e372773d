/- This file proves what field's Bytes, From, Small, Odd, Equal, Power come to, modulo p. Conditions: words as they come from carry, bytes within their kind. -/
import Derived.Test.YtailgcdcdhhpnaaFeJ
namespace Go.Proofs.Ytailgcdcdhhpnaa.Fe
open Go Go.Sy

theorem over_val {w : List Int} (h : Bd w) : 0 ≤ val5 w ∧ val5 w < 57896044618658097711785492504343953926634992332820282019728792003956564819968 ∧ (hi51 (t4 w) > 0 ↔ Pm ≤ val5 w) ∧ Bd (overT w) ∧ (hi51 (t4 w) > 0 → val5 (overT w) = val5 w - Pm) := by
  obtain ⟨_, b0, b1, b2, b3, b4⟩ := h
  have e0 : t0 w = w.getD 0 0 + 19 := by simp only [t0, w64, wrap_u64]; omega
  have e1 : t1 w = w.getD 1 0 + (w.getD 0 0 + 19) / 2251799813685248 := by simp only [t1, w64, wrap_u64, e0, hi51, shr51]; omega
  generalize hq0 : (w.getD 0 0 + 19) / 2251799813685248 = q0 at *
  have e2 : t2 w = w.getD 2 0 + (w.getD 1 0 + q0) / 2251799813685248 := by simp only [t2, w64, wrap_u64, e1, hi51, shr51]; omega
  generalize hq1 : (w.getD 1 0 + q0) / 2251799813685248 = q1 at *
  have e3 : t3 w = w.getD 3 0 + (w.getD 2 0 + q1) / 2251799813685248 := by simp only [t3, w64, wrap_u64, e2, hi51, shr51]; omega
  generalize hq2 : (w.getD 2 0 + q1) / 2251799813685248 = q2 at *
  have e4 : t4 w = w.getD 4 0 + (w.getD 3 0 + q2) / 2251799813685248 := by simp only [t4, w64, wrap_u64, e3, hi51, shr51]; omega
  generalize hq3 : (w.getD 3 0 + q2) / 2251799813685248 = q3 at *
  have ho : overT w = [(w.getD 0 0 + 19) % 2251799813685248, (w.getD 1 0 + q0) % 2251799813685248, (w.getD 2 0 + q1) % 2251799813685248, (w.getD 3 0 + q2) % 2251799813685248, (w.getD 4 0 + q3) % 2251799813685248] := by
    unfold overT
    rw [e0, e1, e2, e3, e4]
    simp only [lo51]
    rw [mask51 _ (by omega) (by omega), mask51 _ (by omega) (by omega), mask51 _ (by omega) (by omega), mask51 _ (by omega) (by omega), mask51 _ (by omega) (by omega)]
  rw [ho, e4]
  simp only [hi51, shr51]
  unfold val5 v5
  rw [Pm_eq]
  simp only [List.getD_cons_zero, List.getD_cons_succ]
  refine ⟨by omega, by omega, ⟨fun h => by omega, fun h => by omega⟩, ⟨rfl, ?_, ?_, ?_, ?_, ?_⟩, fun h => by omega⟩ <;> simp only [List.getD_cons_zero, List.getD_cons_succ] <;> omega

theorem fv_range (w : List Int) : 0 ≤ fv w ∧ fv w < Pm := ⟨Int.emod_nonneg _ (by have := Pm_pos; omega), Int.emod_lt_of_pos _ Pm_pos⟩
/-- Bytes: the digits of the number. -/
theorem bytes_val {a : List Int} (h : ∀ i, i < 5 → 0 ≤ a.getD i 0 ∧ a.getD i 0 < 9223372036854775808) : bytesFe a = digN 32 (fv a) := by
  obtain ⟨hc, q, hv⟩ := car_val h
  rw [bytesFe, Lock_eq, hc.lst]
  obtain ⟨v0, v1, hiff, hb, ho⟩ := over_val hc
  have hf : fv a = val5 (carF a) % Pm := (fv_sub hv).symm
  cases hd : decide (hi51 (t4 (carF a)) > 0) with
  | true =>
    have h1 := of_decide_eq_true hd
    show bytesW (overT (carF a)) = _
    rw [bytesW_val hb, ho h1, hf]
    congr 1
    have := hiff.1 h1
    rw [Pm_eq] at this ⊢
    omega
  | false =>
    have h1 := of_decide_eq_false hd
    show bytesW (carF a) = _
    rw [bytesW_val hc, hf]
    congr 1
    have : ¬ Pm ≤ val5 (carF a) := fun h => h1 (hiff.2 h)
    rw [Pm_eq] at this ⊢
    omega
theorem Bd.words {w : List Int} (h : Bd w) : ∀ i, i < 5 → 0 ≤ w.getD i 0 ∧ w.getD i 0 < 9223372036854775808 := fun i hi => by
  obtain ⟨_, b0, b1, b2, b3, b4⟩ := h
  have : i = 0 ∨ i = 1 ∨ i = 2 ∨ i = 3 ∨ i = 4 := by omega
  rcases this with rfl | rfl | rfl | rfl | rfl <;> omega
theorem Bd.bytes {w : List Int} (h : Bd w) : bytesFe w = digN 32 (fv w) := bytes_val h.words
theorem eq_iff {a b : List Int} (ha : Bd a) (hb : Bd b) : bytesFe a = bytesFe b ↔ fv a = fv b := by
  rw [ha.bytes, hb.bytes]
  have r1 := fv_range a
  have r2 := fv_range b
  rw [Pm_eq] at r1 r2
  exact key_eq r1.1 (by omega) r2.1 (by omega)
theorem odd_val {a : List Int} (ha : Bd a) : oddFe a = decide (fv a % 2 = 1) := by
  unfold oddFe
  rw [ha.bytes, digN_getD 32 0 _ (by omega)]
  simp only [Int.pow_zero, Int.ediv_one]
  rw [and8_one _ (by omega) (by omega), show fv a % 256 % 2 = fv a % 2 by omega]
  rfl

/-! ### From -/
theorem word_step {acc x : Int} (h0 : 0 ≤ acc) (h1 : acc < 72057594037927936) (hx0 : 0 ≤ x) (hx : x < 256) : wordS acc x = acc * 256 + x := by
  unfold wordS
  have e : w64 x = x := by simp only [w64, wrap_u64]; omega
  rw [e, shl64 _ _ (by decide)]
  have : acc * 2 ^ 8 % 18446744073709551616 = acc * 256 := by omega
  rw [this, or64 8 _ _ (by omega) (by omega) (by omega) hx0 (by omega) (by decide)]
theorem word_val {a b c d e f g h : Int} (ha : 0 ≤ a ∧ a < 256) (hb : 0 ≤ b ∧ b < 256) (hc : 0 ≤ c ∧ c < 256) (hd : 0 ≤ d ∧ d < 256) (he : 0 ≤ e ∧ e < 256) (hf : 0 ≤ f ∧ f < 256) (hg : 0 ≤ g ∧ g < 256) (hh : 0 ≤ h ∧ h < 256) :
    wordF a b c d e f g h = a + 256 * (b + 256 * (c + 256 * (d + 256 * (e + 256 * (f + 256 * (g + 256 * h)))))) := by
  rw [wordF, Lock_eq, word_step (acc := 0) (by omega) (by omega) hh.1 hh.2, word_step (by omega) (by omega) hg.1 hg.2, word_step (by omega) (by omega) hf.1 hf.2, word_step (by omega) (by omega) he.1 he.2, word_step (by omega) (by omega) hd.1 hd.2,
    word_step (by omega) (by omega) hc.1 hc.2, word_step (by omega) (by omega) hb.1 hb.2, word_step (by omega) (by omega) ha.1 ha.2]
  omega
/-- Words of 64 bits. -/
theorem wordAt_val {v : Int} (h0 : 0 ≤ v) (k : Nat) (hk : k < 4) : wordAt (digN 32 v) (8 * k) = v / 18446744073709551616 ^ k % 18446744073709551616 := by
  have g : ∀ j, j < 8 → (digN 32 v).getD (8 * k + j) 0 = v / 18446744073709551616 ^ k / 256 ^ j % 256 := fun j hj => by
    rw [digN_getD _ _ _ (by omega), Int.ediv_ediv_of_nonneg (Int.pow_nonneg (by omega))]
    congr 2
    rw [show (18446744073709551616 : Int) = 256 ^ 8 from rfl, ← Int.pow_mul, ← Int.pow_add]
  unfold wordAt
  have g0 := g 0 (by omega)
  rw [Nat.add_zero] at g0
  rw [g0, g 1 (by omega), g 2 (by omega), g 3 (by omega), g 4 (by omega), g 5 (by omega), g 6 (by omega), g 7 (by omega)]
  generalize v / 18446744073709551616 ^ k = Y
  simp only [Int.reducePow, Int.ediv_one]
  rw [word_val (by omega) (by omega) (by omega) (by omega) (by omega) (by omega) (by omega) (by omega)]
  omega
theorem from_val {l : List Int} (hl : l.all u8 = true) (hn : l.length = 32) : Bd (fromFe l) ∧ val5 (fromFe l) = val256 l % 57896044618658097711785492504343953926634992332820282019728792003956564819968 := by
  have hd := digN_val l hl
  rw [hn] at hd
  have v0 := val256_nonneg hl
  have v1 := val256_lt hl
  rw [hn, show (256 : Int) ^ 32 = 115792089237316195423570985008687907853269984665640564039457584007913129639936 by decide] at v1
  generalize val256 l = v at *
  subst hd
  rw [fromFe, Lock_eq, lst_eq (digN_length 32 v)]
  unfold fromW
  rw [wordAt_val v0 0 (by omega), wordAt_val v0 1 (by omega), wordAt_val v0 2 (by omega), wordAt_val v0 3 (by omega)]
  simp only [Int.reducePow, Int.ediv_one]
  generalize hA : v % 18446744073709551616 = A
  generalize hB : v / 18446744073709551616 % 18446744073709551616 = B
  generalize hC : v / 340282366920938463463374607431768211456 % 18446744073709551616 = C
  generalize hD : v / 6277101735386680763835789423207666416102355444464034512896 % 18446744073709551616 = D
  have bA : 0 ≤ A ∧ A < 18446744073709551616 := by omega
  have bB : 0 ≤ B ∧ B < 18446744073709551616 := by omega
  have bC : 0 ≤ C ∧ C < 18446744073709551616 := by omega
  have bD : 0 ≤ D ∧ D < 18446744073709551616 := by omega
  have hv : v = A + 18446744073709551616 * B + 340282366920938463463374607431768211456 * C + 6277101735386680763835789423207666416102355444464034512896 * D := by omega
  have x1 : orI .u64 (shrI .u64 A 51) (shlI .u64 B 13) = A / 2251799813685248 + B * 8192 % 18446744073709551616 := by
    rw [orI_comm, shl64 _ _ (by decide), shr_eq _ _ _ (by decide), or64 13 _ _ (by omega) (by omega) (by omega) (by omega) (by omega) (by decide)]; omega
  have x2 : orI .u64 (shrI .u64 B 38) (shlI .u64 C 26) = B / 274877906944 + C * 67108864 % 18446744073709551616 := by
    rw [orI_comm, shl64 _ _ (by decide), shr_eq _ _ _ (by decide), or64 26 _ _ (by omega) (by omega) (by omega) (by omega) (by omega) (by decide)]; omega
  have x3 : orI .u64 (shrI .u64 C 25) (shlI .u64 D 39) = C / 33554432 + D * 549755813888 % 18446744073709551616 := by
    rw [orI_comm, shl64 _ _ (by decide), shr_eq _ _ _ (by decide), or64 39 _ _ (by omega) (by omega) (by omega) (by omega) (by omega) (by decide)]; omega
  have x4 : shrI .u64 D 12 = D / 4096 := by rw [shr_eq _ _ _ (by decide)]; simp
  rw [x1, x2, x3, x4]
  simp only [lo51]
  rw [mask51 _ bA.1 bA.2, mask51 _ (by omega) (by omega), mask51 _ (by omega) (by omega), mask51 _ (by omega) (by omega), mask51 _ (by omega) (by omega)]
  clear hA hB hC hD
  subst hv
  refine ⟨⟨rfl, ?_, ?_, ?_, ?_, ?_⟩, ?_⟩
  · simp only [List.getD_cons_zero]; omega
  · simp only [List.getD_cons_zero, List.getD_cons_succ]; omega
  · simp only [List.getD_cons_zero, List.getD_cons_succ]; omega
  · simp only [List.getD_cons_zero, List.getD_cons_succ]; omega
  · simp only [List.getD_cons_zero, List.getD_cons_succ]; omega
  · unfold val5 v5
    simp only [List.getD_cons_zero, List.getD_cons_succ]
    omega

/-! ### Small -/
theorem small_val {n : Int} (h0 : 0 ≤ n) (h1 : n < 9223372036854775808) : Bd (smallFe n) ∧ val5 (smallFe n) = n := by
  have hd : decide (n < 0) = false := decide_eq_false (by omega)
  unfold smallFe
  rw [hd]
  show Bd (smallW n) ∧ val5 (smallW n) = n
  have e : smallW n = [n % 2251799813685248, n / 2251799813685248, 0, 0, 0] := by
    unfold smallW
    simp only [w64, wrap_u64, lo51, hi51, shr51]
    rw [mask51 _ (by omega) (by omega)]
    congr 1
    · omega
    · congr 1; omega
  rw [e]
  unfold val5 v5
  simp only [List.getD_cons_zero, List.getD_cons_succ]
  refine ⟨⟨rfl, ?_, ?_, ?_, ?_, ?_⟩, by omega⟩ <;> simp only [List.getD_cons_zero, List.getD_cons_succ] <;> omega
end Go.Proofs.Ytailgcdcdhhpnaa.Fe
