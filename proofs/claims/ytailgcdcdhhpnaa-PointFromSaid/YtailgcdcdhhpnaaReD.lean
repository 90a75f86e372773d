/- This file proves the contract of the reference's small: the number modulo p. Conditions: parts of 50 bits, a number of 512 bits. -/
import Derived.Test.YtailgcdcdhhpnaaReC
namespace Go.Proofs.Ytailgcdcdhhpnaa.Re
open Go Go.Sy Fe

/-! ### Carries -/
def cC (f : Nat → Int) : Nat → Int
  | 0 => 0
  | i + 1 => (f i + cC f i) / 65536
theorem cC_b {f : Nat → Int} {n : Nat} (h : ∀ i, i < n → 0 ≤ f i ∧ f i ≤ 1125899906842624) : ∀ i, i ≤ n → 0 ≤ cC f i ∧ cC f i ≤ 1125899906842624
  | 0, _ => by simp [cC]
  | i + 1, hi => by
    have := h i (by omega)
    have := cC_b h i (by omega)
    rw [cC]; omega
theorem carry_sum (f : Nat → Int) : ∀ n : Nat, sB f n = sB (fun i => (f i + cC f i) % 65536) n + 65536 ^ n * cC f n
  | 0 => by simp [sB, cC]
  | n + 1 => by
    rw [sB, sB, carry_sum f n, cC, Int.pow_succ]
    have e : f n = (f n + cC f n) % 65536 + 65536 * ((f n + cC f n) / 65536) - cC f n := by omega
    generalize (f n + cC f n) % 65536 = x at *
    generalize (f n + cC f n) / 65536 = y at *
    generalize cC f n = z at *
    generalize (65536 : Int) ^ n = P
    rw [e]
    grind
theorem nC_val {f : Nat → Int} {n : Nat} (h : ∀ i, i < n → 0 ≤ f i ∧ f i ≤ 1125899906842624) : ∀ i, i < n → nC f i = f i + cC f i ∧ dC f i = (f i + cC f i) % 65536 := by
  have key : ∀ i, i < n → nC f i = f i + cC f i := by
    intro i
    induction i with
    | zero =>
      intro hi
      have := h 0 hi
      rw [nC, cC, iw, wrap_i64 _ (by omega) (by omega)]
    | succ i ih =>
      intro hi
      have h0 := h i (by omega)
      have h1 := h (i + 1) hi
      have c0 := cC_b h i (by omega)
      have c1 := cC_b h (i + 1) (by omega)
      rw [cC] at c1
      rw [nC, ih (by omega), Int.tdiv_eq_ediv_of_nonneg (by omega), cC, iw, iw, wrap_i64 ((f i + cC f i) / 65536) (by omega) (by omega), wrap_i64 _ (by omega) (by omega)]
  intro i hi
  have h0 := h i hi
  have c0 := cC_b h i (by omega)
  refine ⟨key i hi, ?_⟩
  unfold dC
  rw [key i hi, Int.tmod_eq_emod_of_nonneg (by omega)]
/-- A number below the end: nothing is carried beyond. -/
theorem no_carry {f : Nat → Int} {n : Nat} (h : ∀ i, i < n → 0 ≤ f i ∧ f i ≤ 1125899906842624) (hv : sB f n < 65536 ^ n) : sB (dC f) n = sB f n := by
  have e := carry_sum f n
  have hd : sB (dC f) n = sB (fun i => (f i + cC f i) % 65536) n := sB_congr n fun i hi => (nC_val h i hi).2
  have r := sB_range (f := fun i => (f i + cC f i) % 65536) n fun i hi => by show 0 ≤ (f i + cC f i) % 65536 ∧ _; omega
  have hc := cC_b h n (Nat.le_refl _)
  have hp : (0 : Int) < 65536 ^ n := Int.pow_pos (by omega)
  have : cC f n = 0 := by
    by_cases h1 : 1 ≤ cC f n
    · have := Int.mul_le_mul_of_nonneg_left h1 (show 0 ≤ (65536 : Int) ^ n by omega)
      omega
    · omega
  rw [this] at e
  omega
theorem dC_part {f : Nat → Int} {n : Nat} (h : ∀ i, i < n → 0 ≤ f i ∧ f i ≤ 1125899906842624) : ∀ i, i < n → 0 ≤ dC f i ∧ dC f i < 65536 := fun i hi => by
  rw [(nC_val h i hi).2]; omega

/-! ### Rounds -/
def B256 : Int := 115792089237316195423570985008687907853269984665640564039457584007913129639936
theorem B256_pow : (65536 : Int) ^ 16 = B256 := by decide
theorem B512_pow : (65536 : Int) ^ 32 = B256 * B256 := by decide
def rv (V : Int) : Int := V % B256 + 38 * (V / B256)
structure Lk (L : List Int) : Prop where
  len : L.length = 32
  b : ∀ i, i < 32 → 0 ≤ gD L i ∧ gD L i ≤ 1125899906842624
theorem rnd_get {L : List Int} (h : Lk L) (i : Nat) (hi : i < 32) : gD (rndL L) i = if i < 16 then dC (gD L) i + 38 * dC (gD L) (i + 16) else 0 := by
  unfold gD rndL
  rw [List.getD_eq_getElem?_getD]
  by_cases h16 : i < 16
  · have p1 := dC_part h.b i (by omega)
    have p2 := dC_part h.b (i + 16) (by omega)
    rw [List.getElem?_append_left (by simpa using h16), List.getElem?_map, List.getElem?_range h16, if_pos h16]
    show iw (dC (gD L) i + iw (38 * dC (gD L) (i + 16))) = _
    rw [iw, iw, wrap_i64 (38 * _) (by omega) (by omega), wrap_i64 _ (by omega) (by omega)]
    rfl
  · rw [List.getElem?_append_right (by simp; omega), if_neg h16, List.getElem?_replicate, if_pos (by simp; omega)]; rfl
theorem rnd_val {L : List Int} (h : Lk L) (hv : sB (gD L) 32 < B256 * B256) : Lk (rndL L) ∧ (∀ i, i < 32 → gD (rndL L) i ≤ 2555865) ∧ (∀ i, 16 ≤ i → i < 32 → gD (rndL L) i = 0) ∧ sB (gD (rndL L)) 32 = rv (sB (gD L) 32) := by
  have hp := dC_part h.b
  have hb : ∀ i, i < 32 → 0 ≤ gD (rndL L) i ∧ gD (rndL L) i ≤ 2555865 := fun i hi => by
    rw [rnd_get h i hi]
    split
    · have := hp i hi
      have := hp (i + 16) (by omega)
      omega
    · omega
  refine ⟨⟨by simp [rndL], fun i hi => by have := hb i hi; omega⟩, fun i hi => (hb i hi).2, fun i h1 hi => by rw [rnd_get h i hi, if_neg (by omega)], ?_⟩
  have e0 := no_carry h.b (by rw [B512_pow]; exact hv)
  have e1 : sB (dC (gD L)) (16 + 16) = sB (dC (gD L)) 16 + 65536 ^ 16 * sB (fun i => dC (gD L) (16 + i)) 16 := sB_split _ 16 16
  have e2 : sB (gD (rndL L)) (16 + 16) = sB (gD (rndL L)) 16 + 65536 ^ 16 * sB (fun i => gD (rndL L) (16 + i)) 16 := sB_split _ 16 16
  have e3 : sB (fun i => gD (rndL L) (16 + i)) 16 = 0 := sB_zero 16 fun i hi => by show gD (rndL L) (16 + i) = 0; rw [rnd_get h _ (by omega), if_neg (by omega)]
  have e4 : sB (gD (rndL L)) 16 = sB (dC (gD L)) 16 + 38 * sB (fun i => dC (gD L) (16 + i)) 16 := by
    rw [← sB_mul, ← sB_add]
    refine sB_congr 16 fun i hi => ?_
    rw [rnd_get h i (by omega), if_pos hi, Nat.add_comm 16 i]
  have r1 := sB_range 16 fun i hi => hp i (by omega)
  have r2 := sB_range (f := fun i => dC (gD L) (16 + i)) 16 fun i hi => hp (16 + i) (by omega)
  rw [B256_pow] at *
  have hB : B256 = 115792089237316195423570985008687907853269984665640564039457584007913129639936 := rfl
  unfold rv
  rw [← e0]
  show sB (gD (rndL L)) (16 + 16) = sB (dC (gD L)) (16 + 16) % B256 + 38 * (sB (dC (gD L)) (16 + 16) / B256)
  rw [e2, e3, e4, e1]
  generalize sB (dC (gD L)) 16 = x at *
  generalize sB (fun i => dC (gD L) (16 + i)) 16 = y at *
  rw [hB] at *
  omega
theorem rv_mod (V : Int) : rv V % Pm = V % Pm := by
  have : rv V = V - 2 * (V / B256) * Pm := by
    unfold rv
    have hB : B256 = 115792089237316195423570985008687907853269984665640564039457584007913129639936 := rfl
    rw [Pm_eq, hB]
    omega
  exact fv_sub this
def rnds (L : List Int) : Nat → List Int
  | 0 => L
  | j + 1 => rndL (rnds L j)
def rvs (V : Int) : Nat → Int
  | 0 => V
  | j + 1 => rv (rvs V j)
theorem rvs_b {V : Int} (h0 : 0 ≤ V) (h1 : V < B256 * B256) : (0 ≤ rvs V 1 ∧ rvs V 1 < 39 * B256) ∧ (0 ≤ rvs V 2 ∧ rvs V 2 < B256 + 1444) ∧ (0 ≤ rvs V 3 ∧ rvs V 3 < B256) ∧ (0 ≤ rvs V 4 ∧ rvs V 4 < B256) := by
  have hB : B256 = 115792089237316195423570985008687907853269984665640564039457584007913129639936 := rfl
  have a1 : 0 ≤ rvs V 1 ∧ rvs V 1 < 39 * B256 := by
    show 0 ≤ rv V ∧ rv V < 39 * B256
    unfold rv
    rw [hB] at h1 ⊢
    omega
  have a2 : 0 ≤ rvs V 2 ∧ rvs V 2 < B256 + 1444 := by
    show 0 ≤ rv (rvs V 1) ∧ rv (rvs V 1) < B256 + 1444
    generalize rvs V 1 = x at *
    unfold rv
    rw [hB] at a1 ⊢
    omega
  have a3 : 0 ≤ rvs V 3 ∧ rvs V 3 < B256 := by
    show 0 ≤ rv (rvs V 2) ∧ rv (rvs V 2) < B256
    generalize rvs V 2 = x at *
    unfold rv
    rw [hB] at a2 ⊢
    omega
  refine ⟨a1, a2, a3, ?_⟩
  show 0 ≤ rv (rvs V 3) ∧ rv (rvs V 3) < B256
  generalize rvs V 3 = x at *
  unfold rv
  rw [hB] at a3 ⊢
  omega
theorem rnds_val {L : List Int} (h : Lk L) (hv : sB (gD L) 32 < B256 * B256) : ∀ j, j ≤ 4 → Lk (rnds L j) ∧ sB (gD (rnds L j)) 32 = rvs (sB (gD L) 32) j := by
  have h0 : 0 ≤ sB (gD L) 32 := by
    have : ∀ n, n ≤ 32 → 0 ≤ sB (gD L) n := by
      intro n
      induction n with
      | zero => intro _; simp [sB]
      | succ n ih =>
        intro hn
        rw [sB]
        have h1 := ih (by omega)
        have h2 := Int.mul_nonneg (h.b n (by omega)).1 (show 0 ≤ (65536 : Int) ^ n from Int.pow_nonneg (by omega))
        omega
    exact this 32 (Nat.le_refl _)
  obtain ⟨b1, b2, b3, b4⟩ := rvs_b h0 hv
  have hB : B256 = 115792089237316195423570985008687907853269984665640564039457584007913129639936 := rfl
  have step : ∀ j, Lk (rnds L j) ∧ sB (gD (rnds L j)) 32 = rvs (sB (gD L) 32) j → rvs (sB (gD L) 32) j < B256 * B256 → Lk (rnds L (j + 1)) ∧ sB (gD (rnds L (j + 1))) 32 = rvs (sB (gD L) 32) (j + 1) := fun j g hlt => by
    obtain ⟨k1, _, _, k2⟩ := rnd_val g.1 (by rw [g.2]; exact hlt)
    exact ⟨k1, by show sB (gD (rndL (rnds L j))) 32 = rv (rvs (sB (gD L) 32) j); rw [k2, g.2]⟩
  have s0 : Lk (rnds L 0) ∧ sB (gD (rnds L 0)) 32 = rvs (sB (gD L) 32) 0 := ⟨h, rfl⟩
  have s1 := step 0 s0 hv
  rw [hB] at b1 b2 b3
  have s2 := step 1 s1 (by rw [hB]; omega)
  have s3 := step 2 s2 (by rw [hB]; omega)
  have s4 := step 3 s3 (by rw [hB]; omega)
  intro j hj
  have : j = 0 ∨ j = 1 ∨ j = 2 ∨ j = 3 ∨ j = 4 := by omega
  rcases this with rfl | rfl | rfl | rfl | rfl
  · exact s0
  · exact s1
  · exact s2
  · exact s3
  · exact s4
end Go.Proofs.Ytailgcdcdhhpnaa.Re
