/- This file proves what field's Bytes, From, Small, Odd, Equal, Power come to, modulo p. Conditions: words as they come from carry, bytes within their kind. -/
import Derived.Test.YtailgcdcdhhpnaaFeI
namespace Go.Proofs.Ytailgcdcdhhpnaa.Fe
open Go Go.Sy

/-! ### Bytes as a number -/
/-- The first bytes count least. -/
def val256 : List Int → Int
  | [] => 0
  | x :: l => x + 256 * val256 l
theorem val256_nonneg : ∀ {l : List Int}, l.all u8 = true → 0 ≤ val256 l
  | [], _ => by simp [val256]
  | x :: l, h => by
    simp only [List.all_cons, Bool.and_eq_true, u8_iff] at h
    have := val256_nonneg h.2
    simp only [val256]; omega
theorem val256_lt : ∀ {l : List Int}, l.all u8 = true → val256 l < 256 ^ l.length
  | [], _ => by simp [val256]
  | x :: l, h => by
    simp only [List.all_cons, Bool.and_eq_true, u8_iff] at h
    have := val256_lt h.2
    rw [List.length_cons, Int.pow_succ]
    simp only [val256]; omega
theorem all_getD {l : List Int} (h : l.all u8 = true) {i : Nat} (hi : i < l.length) : 0 ≤ l.getD i 0 ∧ l.getD i 0 < 256 := by
  rw [List.all_eq_true] at h
  have := h (l.getD i 0) (by simp [List.getD, List.getElem?_eq_getElem hi])
  rwa [u8_iff] at this
def digN : Nat → Int → List Int
  | 0, _ => []
  | n + 1, v => v % 256 :: digN n (v / 256)
theorem digN_length : ∀ (n : Nat) (v : Int), (digN n v).length = n
  | 0, _ => rfl
  | n + 1, v => by rw [digN, List.length_cons, digN_length n]
theorem digN_u8 : ∀ (n : Nat) (v : Int), (digN n v).all u8 = true
  | 0, _ => rfl
  | n + 1, v => by
    rw [digN, List.all_cons, digN_u8 n, Bool.and_true, u8_iff]
    omega
theorem val_digN : ∀ (n : Nat) (v : Int), 0 ≤ v → v < 256 ^ n → val256 (digN n v) = v
  | 0, v, h0, h1 => by simp at h1; simp [digN, val256]; omega
  | n + 1, v, h0, h1 => by
    rw [Int.pow_succ] at h1
    rw [digN, val256, val_digN n _ (by omega) (by omega)]
    omega
theorem digN_val : ∀ (l : List Int), l.all u8 = true → l = digN l.length (val256 l)
  | [], _ => rfl
  | x :: l, h => by
    simp only [List.all_cons, Bool.and_eq_true, u8_iff] at h
    have e1 : (x + 256 * val256 l) % 256 = x := by omega
    have e2 : (x + 256 * val256 l) / 256 = val256 l := by omega
    rw [List.length_cons, val256, digN, e1, e2, ← digN_val l h.2]
theorem digN_getD : ∀ (n i : Nat) (v : Int), i < n → (digN n v).getD i 0 = v / 256 ^ i % 256
  | 0, i, v, h => by omega
  | n + 1, 0, v, _ => by simp [digN]
  | n + 1, i + 1, v, h => by
    rw [digN, List.getD_cons_succ, digN_getD n i _ (by omega), Int.ediv_ediv_of_nonneg (by omega), Int.pow_succ, Int.mul_comm]
theorem dig_range : ∀ (n : Nat) (v : Int), (List.range n).map (fun i => v / 256 ^ i % 256) = digN n v := by
  intro n
  induction n with
  | zero => intro v; rfl
  | succ n ih =>
    intro v
    rw [List.range_succ_eq_map, List.map_cons, List.map_map, digN, ← ih]
    congr 1
    · simp
    · apply List.map_congr_left
      intro i _
      show v / 256 ^ (i + 1) % 256 = v / 256 / 256 ^ i % 256
      rw [Int.ediv_ediv_of_nonneg (by omega), Int.pow_succ, Int.mul_comm]
theorem key_eq {a b : Int} (h0 : 0 ≤ a) (h1 : a < 115792089237316195423570985008687907853269984665640564039457584007913129639936) (g0 : 0 ≤ b) (g1 : b < 115792089237316195423570985008687907853269984665640564039457584007913129639936) : digN 32 a = digN 32 b ↔ a = b := by
  have e : (256 : Int) ^ 32 = 115792089237316195423570985008687907853269984665640564039457584007913129639936 := by decide
  refine ⟨fun h => ?_, fun h => by rw [h]⟩
  have := congrArg val256 h
  rwa [val_digN 32 _ h0 (by rw [e]; exact h1), val_digN 32 _ g0 (by rw [e]; exact g1)] at this

/-! ### Bytes -/
theorem bytesW_val {w : List Int} (h : Bd w) : bytesW w = digN 32 (val5 w) := by
  obtain ⟨_, b0, b1, b2, b3, b4⟩ := h
  unfold bytesW val5 v5
  generalize w.getD 0 0 = a at *
  generalize w.getD 1 0 = b at *
  generalize w.getD 2 0 = c at *
  generalize w.getD 3 0 = d at *
  generalize w.getD 4 0 = e at *
  have x0 : orI .u64 a (shlI .u64 b 51) = a + b * 2251799813685248 % 18446744073709551616 := by
    rw [orI_comm, shl64 _ _ (by decide), or64 51 _ _ (by omega) (by omega) (by omega) (by omega) (by omega) (by decide)]; omega
  have x1 : orI .u64 (shrI .u64 b 13) (shlI .u64 c 38) = b / 8192 + c * 274877906944 % 18446744073709551616 := by
    rw [orI_comm, shl64 _ _ (by decide), shr_eq _ _ _ (by decide), or64 38 _ _ (by omega) (by omega) (by omega) (by omega) (by omega) (by decide)]; omega
  have x2 : orI .u64 (shrI .u64 c 26) (shlI .u64 d 25) = c / 67108864 + d * 33554432 % 18446744073709551616 := by
    rw [orI_comm, shl64 _ _ (by decide), shr_eq _ _ _ (by decide), or64 25 _ _ (by omega) (by omega) (by omega) (by omega) (by omega) (by decide)]; omega
  have x3 : orI .u64 (shrI .u64 d 39) (shlI .u64 e 12) = d / 549755813888 + e * 4096 % 18446744073709551616 := by
    rw [orI_comm, shl64 _ _ (by decide), shr_eq _ _ _ (by decide), or64 12 _ _ (by omega) (by omega) (by omega) (by omega) (by omega) (by decide)]; omega
  rw [x0, x1, x2, x3, ← dig_range]
  generalize hV : a + 2251799813685248 * b + 5070602400912917605986812821504 * c + 11417981541647679048466287755595961091061972992 * d + 25711008708143844408671393477458601640355247900524685364822016 * e = V
  have y0 : a + b * 2251799813685248 % 18446744073709551616 = V % 18446744073709551616 := by omega
  have y1 : b / 8192 + c * 274877906944 % 18446744073709551616 = V / 18446744073709551616 % 18446744073709551616 := by omega
  have y2 : c / 67108864 + d * 33554432 % 18446744073709551616 = V / 340282366920938463463374607431768211456 % 18446744073709551616 := by omega
  have y3 : d / 549755813888 + e * 4096 % 18446744073709551616 = V / 6277101735386680763835789423207666416102355444464034512896 % 18446744073709551616 := by omega
  rw [y0, y1, y2, y3]
  apply List.map_congr_left
  intro i hi
  rw [List.mem_range] at hi
  rw [shr_eq _ _ _ (by show 8 * (i % 8) ≤ 64; omega), wrap_u8]
  clear hV x0 x1 x2 x3 y0 y1 y2 y3
  have : i = 0 ∨ i = 1 ∨ i = 2 ∨ i = 3 ∨ i = 4 ∨ i = 5 ∨ i = 6 ∨ i = 7 ∨ i = 8 ∨ i = 9 ∨ i = 10 ∨ i = 11 ∨ i = 12 ∨ i = 13 ∨ i = 14 ∨ i = 15 ∨ i = 16 ∨ i = 17 ∨ i = 18 ∨ i = 19 ∨ i = 20 ∨ i = 21 ∨ i = 22 ∨ i = 23 ∨ i = 24 ∨ i = 25 ∨ i = 26 ∨ i = 27 ∨ i = 28 ∨ i = 29 ∨ i = 30 ∨ i = 31 := by omega
  rcases this with h|h|h|h|h|h|h|h|h|h|h|h|h|h|h|h|h|h|h|h|h|h|h|h|h|h|h|h|h|h|h|h <;> subst h <;> simp <;> omega
end Go.Proofs.Ytailgcdcdhhpnaa.Fe
