/- This file proves the plain arithmetic of point's residues: words, bytes, the residue of bits. Conditions: numbers within their kinds. -/
import Derived.Test.YtailgcdcdhhpnaaPtB
import Derived.Laws.BitsLemmas
namespace Go.Proofs.Ytailgcdcdhhpnaa
open Go Go.Lift

/-! ### Operations on words -/
theorem wraps_u64 (n : Int) (h₀ : 0 ≤ n) (h₁ : n < 2 ^ 64) : IntKind.u64.wrap n = n := by
  have e : (2 : Int) ^ 64 = 18446744073709551616 := by decide
  rw [e] at h₁
  rw [show IntKind.u64.wrap n = n % 2 ^ 64 from by simp [IntKind.wrap, IntKind.signed, IntKind.bits], e]
  omega
theorem wrap_u64 (n : Int) : IntKind.u64.wrap n = n % 18446744073709551616 := by simp [IntKind.wrap, IntKind.signed, IntKind.bits]
theorem or64 (i : Nat) (x y : Int) (hx₀ : 0 ≤ x) (hx : x % 2 ^ i = 0) (hx₁ : x < 18446744073709551616) (hy₀ : 0 ≤ y) (hy : y < 2 ^ i) (hi : i ≤ 64) : orI .u64 x y = x + y := by
  have e : (2 : Int) ^ 64 = 18446744073709551616 := by decide
  have h2 : (2 : Int) ^ i ≤ 2 ^ 64 := by exact_mod_cast Nat.pow_le_pow_right (by decide) hi
  exact bits_join .u64 64 (by decide) wraps_u64 i x y hx₀ hx (by rw [e]; exact hx₁) hy₀ hy (by omega)
theorem shr_eq (k : IntKind) (a : Int) (n : Nat) (hn : n ≤ k.bits) : shrI k a n = a / 2 ^ n := by
  unfold shrI
  rw [Nat.min_eq_left hn, Int.fdiv_eq_ediv_of_nonneg]
  exact_mod_cast Nat.zero_le (2 ^ n)
theorem shl64 (a : Int) (n : Nat) (hn : n ≤ 64) : shlI .u64 a n = a * 2 ^ n % 18446744073709551616 := by
  unfold shlI
  rw [show min n IntKind.u64.bits = n from Nat.min_eq_left hn, wrap_u64]
theorem and8_one (x : Int) (h0 : 0 ≤ x) (h1 : x < 256) : andI .u8 x 1 = x % 2 := by
  exact (bits_mask .u8 8 (by decide) wraps_u8 1 (by decide) x h0 h1 : bits .and .u8 x (2 ^ 1 - 1) = x % 2 ^ 1)

/-! ### Words of a number -/
/-- Four words as a number. -/
def val4 (a b c d : Int) : Int := a + 18446744073709551616 * b + 340282366920938463463374607431768211456 * c + 6277101735386680763835789423207666416102355444464034512896 * d
def wd (n : Int) (i : Nat) : Int := n / 2 ^ (64 * i) % 18446744073709551616
def wds (n : Int) : List Int := [wd n 0, wd n 1, wd n 2, wd n 3]
theorem wd_eq (n : Int) : wds n = [n % 18446744073709551616, n / 18446744073709551616 % 18446744073709551616, n / 340282366920938463463374607431768211456 % 18446744073709551616, n / 6277101735386680763835789423207666416102355444464034512896 % 18446744073709551616] := by
  unfold wds wd; simp
theorem val4_wds {n : Int} (h0 : 0 ≤ n) (h1 : n < 115792089237316195423570985008687907853269984665640564039457584007913129639936) :
    val4 (n % 18446744073709551616) (n / 18446744073709551616 % 18446744073709551616) (n / 340282366920938463463374607431768211456 % 18446744073709551616) (n / 6277101735386680763835789423207666416102355444464034512896 % 18446744073709551616) = n := by
  unfold val4; omega

theorem upW_wds {n b : Int} (h0 : 0 ≤ n) (h1 : n < 57896044618658097711785492504343953926634992332820282019728792003956564819968) (hb0 : 0 ≤ b) (hb : b ≤ 1) : upW (wds n) b = wds (2 * n + b) := by
  rw [wd_eq, wd_eq]
  have o : ∀ x y : Int, 0 ≤ x → x < 18446744073709551616 → 0 ≤ y → y ≤ 1 → orI .u64 (shlI .u64 x 1) y = x * 2 % 18446744073709551616 + y := fun x y hx hx' hy hy' => by
    rw [shl64 x 1 (by decide), or64 1 _ y (by omega) (by first | (simp; done) | (simp; omega)) (by omega) hy (by first | (simp; done) | (simp; omega)) (by decide)]
    simp
  have s : ∀ x : Int, shrI .u64 x 63 = x / 9223372036854775808 := fun x => by rw [shr_eq _ _ _ (by decide)]; simp
  simp only [upW, List.getD_cons_zero, List.getD_cons_succ, s]
  rw [o _ _ (by omega) (by omega) hb0 hb, o _ _ (by omega) (by omega) (by omega) (by omega), o _ _ (by omega) (by omega) (by omega) (by omega), o _ _ (by omega) (by omega) (by omega) (by omega)]
  congr 1
  · omega
  · congr 1
    · omega
    · congr 1
      · omega
      · congr 1
        omega

theorem subD_eq {x y b : Int} (hx : 0 ≤ x) (hy : 0 ≤ y) (hy' : y < 18446744073709551616) (hb : 0 ≤ b) (hb' : b ≤ 1) : subD x y b = (x - y - b) % 18446744073709551616 := by
  unfold subD; rw [Lock_eq]
  have : Extern.MathBitsCarry.m64 = 18446744073709551616 := rfl
  rw [this]
  simp only [Int.ofNat_eq_natCast]
  omega
theorem subB_cases {x y b : Int} (hx : 0 ≤ x) (hy : 0 ≤ y) (hb : 0 ≤ b) : (x < y + b ∧ subB x y b = 1) ∨ (y + b ≤ x ∧ subB x y b = 0) := by
  unfold subB; rw [Lock_eq]
  by_cases h : x.toNat < y.toNat + b.toNat
  · rw [if_pos h]; left; exact ⟨by omega, rfl⟩
  · rw [if_neg h]; right; exact ⟨by omega, rfl⟩

theorem minus_wds {n : Int} (h0 : 0 ≤ n) (h1 : n < 115792089237316195423570985008687907853269984665640564039457584007913129639936) :
    lessW (wds n) = wds ((n - ordL) % 115792089237316195423570985008687907853269984665640564039457584007913129639936) ∧ ((n < ordL ∧ lessB (wds n) = 1) ∨ (ordL ≤ n ∧ lessB (wds n) = 0)) := by
  rw [wd_eq, wd_eq]
  simp only [lessW, lessB, List.getD_cons_zero, List.getD_cons_succ]
  have hv := val4_wds h0 h1
  unfold val4 at hv
  generalize ha : n % 18446744073709551616 = a at *
  generalize hb : n / 18446744073709551616 % 18446744073709551616 = b at *
  generalize hc : n / 340282366920938463463374607431768211456 % 18446744073709551616 = c at *
  generalize hd : n / 6277101735386680763835789423207666416102355444464034512896 % 18446744073709551616 = d at *
  have ra : 0 ≤ a ∧ a < 18446744073709551616 := by omega
  have rb : 0 ≤ b ∧ b < 18446744073709551616 := by omega
  have rc : 0 ≤ c ∧ c < 18446744073709551616 := by omega
  have rd : 0 ≤ d ∧ d < 18446744073709551616 := by omega
  clear ha hb hc hd
  unfold mnW mnB
  have c1 := subB_cases (x := a) (y := 6346243789798364141) (b := 0) ra.1 (by omega) (by omega)
  change (_ ∧ mnB1 a = 1) ∨ (_ ∧ mnB1 a = 0) at c1
  have c2 := subB_cases (x := b) (y := 1503914060200516822) (b := mnB1 a) rb.1 (by omega) (by omega)
  change (_ ∧ mnB2 a b = 1) ∨ (_ ∧ mnB2 a b = 0) at c2
  have c3 := subB_cases (x := c) (y := 0) (b := mnB2 a b) rc.1 (by omega) (by omega)
  change (_ ∧ mnB3 a b c = 1) ∨ (_ ∧ mnB3 a b c = 0) at c3
  have c4 := subB_cases (x := d) (y := 1152921504606846976) (b := mnB3 a b c) rd.1 (by omega) (by omega)
  rw [subD_eq ra.1 (by omega) (by omega) (by omega) (by omega), subD_eq rb.1 (by omega) (by omega) (by omega) (by omega), subD_eq rc.1 (by omega) (by omega) (by omega) (by omega), subD_eq rd.1 (by omega) (by omega) (by omega) (by omega)]
  generalize mnB1 a = B1 at *
  generalize mnB2 a b = B2 at *
  generalize mnB3 a b c = B3 at *
  generalize subB d 1152921504606846976 B3 = B4 at *
  generalize hD1 : (a - 6346243789798364141 - 0) % 18446744073709551616 = D1
  generalize hD2 : (b - 1503914060200516822 - B1) % 18446744073709551616 = D2
  generalize hD3 : (c - 0 - B2) % 18446744073709551616 = D3
  generalize hD4 : (d - 1152921504606846976 - B3) % 18446744073709551616 = D4
  have e1 : a - 6346243789798364141 = D1 - 18446744073709551616 * B1 := by omega
  have e2 : b - 1503914060200516822 - B1 = D2 - 18446744073709551616 * B2 := by omega
  have e3 : c - 0 - B2 = D3 - 18446744073709551616 * B3 := by omega
  have e4 : d - 1152921504606846976 - B3 = D4 - 18446744073709551616 * B4 := by omega
  have r1 : 0 ≤ D1 ∧ D1 < 18446744073709551616 := by omega
  have r2 : 0 ≤ D2 ∧ D2 < 18446744073709551616 := by omega
  have r3 : 0 ≤ D3 ∧ D3 < 18446744073709551616 := by omega
  have r4 : 0 ≤ D4 ∧ D4 < 18446744073709551616 := by omega
  clear hD1 hD2 hD3 hD4
  have hn : n - ordL = (D1 + 18446744073709551616 * D2 + 340282366920938463463374607431768211456 * D3 + 6277101735386680763835789423207666416102355444464034512896 * D4) - 115792089237316195423570985008687907853269984665640564039457584007913129639936 * B4 := by unfold ordL; omega
  have hm : (n - ordL) % 115792089237316195423570985008687907853269984665640564039457584007913129639936 = D1 + 18446744073709551616 * D2 + 340282366920938463463374607431768211456 * D3 + 6277101735386680763835789423207666416102355444464034512896 * D4 := by omega
  rw [hm]
  refine ⟨?_, by unfold ordL at *; omega⟩
  congr 1
  · omega
  · congr 1
    · omega
    · congr 1
      · omega
      · congr 1
        omega

theorem ordL_pos : 0 < ordL ∧ ordL < 7237005577332262213973186563042994240857116359379907606001950938285454250990 := by unfold ordL; omega

/-- A bit more. -/
theorem bit_step {n b : Int} (h0 : 0 ≤ n) (h1 : n < ordL) (hb0 : 0 ≤ b) (hb : b ≤ 1) : bitF (lst 4 (wds n)) b = wds ((2 * n + b) % ordL) := by
  have hL := ordL_pos
  rw [bitF, Lock_eq, lst_eq (by rfl), bitW, upW_wds h0 (by omega) hb0 hb]
  obtain ⟨hw, hc⟩ := minus_wds (n := 2 * n + b) (by omega) (by omega)
  rcases hc with ⟨hlt, h⟩ | ⟨hge, h⟩
  · rw [if_neg (by omega), Int.emod_eq_of_lt (by omega) hlt]
  · rw [if_pos h, hw]
    congr 1
    rw [Int.emod_eq_of_lt (by omega) (by omega), ← Int.sub_emod_right, Int.emod_eq_of_lt (by omega) (by omega)]

theorem twice_mod (a b : Int) : (2 * (a % ordL) + b) % ordL = (2 * a + b) % ordL := by
  rw [Int.add_emod, Int.mul_emod, Int.emod_emod, ← Int.mul_emod, ← Int.add_emod]

/-- A byte more. -/
theorem byte_step {n x : Int} (h0 : 0 ≤ n) (h1 : n < ordL) (hx0 : 0 ≤ x) (hx : x < 256) : byteW (wds n) x = wds ((256 * n + x) % ordL) := by
  have hL := ordL_pos
  have bit : ∀ k : Nat, k ≤ 7 → IntKind.u64.wrap (andI .u8 (shrI .u8 x k) 1) = x / 2 ^ k % 2 := fun k hk => by
    rw [shr_eq _ _ _ (by show k ≤ 8; omega)]
    have hp : (0 : Int) < 2 ^ k := by exact_mod_cast Nat.two_pow_pos k
    have q0 : 0 ≤ x / 2 ^ k := Int.ediv_nonneg hx0 (by omega)
    have q1 : x / 2 ^ k ≤ x := Int.ediv_le_self _ hx0
    rw [and8_one _ q0 (by omega), wrap_u64]; omega
  have rng : ∀ a : Int, 0 ≤ a % ordL ∧ a % ordL < ordL := fun a => ⟨Int.emod_nonneg _ (by omega), Int.emod_lt_of_pos _ hL.1⟩
  unfold byteW
  simp only [List.foldl_cons, List.foldl_nil]
  rw [bit 7 (by decide), bit 6 (by decide), bit 5 (by decide), bit 4 (by decide), bit 3 (by decide), bit 2 (by decide), bit 1 (by decide), bit 0 (by decide)]
  rw [bit_step h0 h1 (by omega) (by omega)]
  iterate 7 rw [bit_step (rng _).1 (rng _).2 (by omega) (by omega)]
  simp only [twice_mod]
  congr 2
  simp only [Int.reducePow]
  omega

/-! ### Bytes as a number -/
/-- The first bytes count least. -/
def val256 : List Int → Int
  | [] => 0
  | x :: l => x + 256 * val256 l

theorem val256_nonneg : ∀ {l : List Int}, l.all u8 = true → 0 ≤ val256 l
  | [], _ => by simp [val256]
  | x :: l, h => by
    simp only [List.all_cons, Bool.and_eq_true, u8_iff] at h
    have := val256_nonneg h.2
    simp only [val256]; omega

theorem all_getD {l : List Int} (h : l.all u8 = true) {i : Nat} (hi : i < l.length) : 0 ≤ l.getD i 0 ∧ l.getD i 0 < 256 := by
  rw [List.all_eq_true] at h
  have := h (l.getD i 0) (by simp [List.getD, List.getElem?_eq_getElem hi])
  rwa [u8_iff] at this

theorem red_wds {bs : List Int} (hb : bs.all u8 = true) (hn : bs.length ≤ 64) : ∀ j : Nat, j ≤ bs.length → redW bs j = wds (val256 (bs.drop (bs.length - j)) % ordL)
  | 0, _ => by
    rw [Nat.sub_zero, List.drop_length, val256]
    rfl
  | j + 1, h => by
    have hL := ordL_pos
    rw [redW, red_wds hb hn j (by omega), ctr_eq _ hn j (by omega)]
    have hi : bs.length - (j + 1) < bs.length := by omega
    have hidx : 0 + ((bs.length : Int) - 1 - j).toNat * 1 = bs.length - (j + 1) := by omega
    rw [hidx]
    have hx := all_getD hb hi
    rw [byte_step (Int.emod_nonneg _ (by omega)) (Int.emod_lt_of_pos _ hL.1) hx.1 hx.2]
    have hd : bs.drop (bs.length - (j + 1)) = bs.getD (bs.length - (j + 1)) 0 :: bs.drop (bs.length - j) := by
      rw [List.drop_eq_getElem_cons hi]
      congr 1
      · simp [List.getD, List.getElem?_eq_getElem hi]
      · congr 1; omega
    rw [hd, val256]
    congr 1
    rw [Int.add_emod, Int.mul_emod, Int.emod_emod, ← Int.mul_emod, ← Int.add_emod, Int.add_comm]

/-- 32 bytes of a number. -/
def dig32 (n : Int) : List Int := (List.range 32).map fun i => n / 256 ^ i % 256

theorem key_wds {n : Int} (h0 : 0 ≤ n) (h1 : n < 115792089237316195423570985008687907853269984665640564039457584007913129639936) : keyF (lst 4 (wds n)) = dig32 n := by
  rw [keyF, Lock_eq, lst_eq (by rfl), keyW, dig32]
  apply List.map_congr_left
  intro i hi
  rw [List.mem_range] at hi
  rw [shr_eq _ _ _ (by show 8 * (i % 8) ≤ 64; omega), IntKind.wrap_u8, wd_eq]
  have : i = 0 ∨ i = 1 ∨ i = 2 ∨ i = 3 ∨ i = 4 ∨ i = 5 ∨ i = 6 ∨ i = 7 ∨ i = 8 ∨ i = 9 ∨ i = 10 ∨ i = 11 ∨ i = 12 ∨ i = 13 ∨ i = 14 ∨ i = 15 ∨ i = 16 ∨ i = 17 ∨ i = 18 ∨ i = 19 ∨ i = 20 ∨ i = 21 ∨ i = 22 ∨ i = 23 ∨ i = 24 ∨ i = 25 ∨ i = 26 ∨ i = 27 ∨ i = 28 ∨ i = 29 ∨ i = 30 ∨ i = 31 := by omega
  rcases this with h|h|h|h|h|h|h|h|h|h|h|h|h|h|h|h|h|h|h|h|h|h|h|h|h|h|h|h|h|h|h|h <;> subst h <;> simp <;> omega

/-- What Reduce comes to. -/
theorem red_key {bs : List Int} (hb : bs.all u8 = true) (hn : bs.length ≤ 64) : keyF (lst 4 (redW bs bs.length)) = dig32 (val256 bs % ordL) := by
  have hL := ordL_pos
  have h := red_wds hb hn bs.length (Nat.le_refl _)
  rw [Nat.sub_self, List.drop_zero] at h
  have r0 : 0 ≤ val256 bs % ordL := Int.emod_nonneg _ (by omega)
  have r1 : val256 bs % ordL < ordL := Int.emod_lt_of_pos _ hL.1
  rw [h, key_wds r0 (by omega)]
end Go.Proofs.Ytailgcdcdhhpnaa
