/- This file holds the texts R4H, R4I, a section each. No conditions beyond those in the theorems. -/
import Derived.Test.YtibfpjeeanppjaaGreatVR4B
import Derived.Test.YtibfpjeeanppjaaGreatVR4G
set_option linter.all false
section
namespace Go.Proofs.YtibfpjeeanppjaaGreat.R4
open Go Go.Sy Sh
theorem low_step {n x : Int} (h0 : 0 ≤ n) (h1 : n < 72057594037927936) (hx : 0 ≤ x ∧ x < 256) : orI .u64 (shlI .u64 n 8) (Ae.W x) = x + 256 * n := by
  rw [Fe.shl64 _ _ (by decide), W_eq]
  rw [show n * 2 ^ 8 % 18446744073709551616 = 256 * n by omega, show x % 18446744073709551616 = x by omega]
  rw [Fe.or64 8 _ _ (by omega) (by omega) (by omega) (by omega) (by omega) (by decide)]
  omega
theorem low_val {l : List Int} (d : Dg l) : Ae.lowW l = nv [l.getD 0 0, l.getD 1 0, l.getD 2 0, l.getD 3 0, l.getD 4 0, l.getD 5 0, l.getD 6 0, l.getD 7 0] := by
  have h := fun i => d.getD i
  have h0 := h 0
  have h1 := h 1
  have h2 := h 2
  have h3 := h 3
  have h4 := h 4
  have h5 := h 5
  have h6 := h 6
  have h7 := h 7
  unfold Ae.lowW
  simp only [List.foldl, nv, Int.mul_zero, Int.add_zero]
  rw [low_step (n := 0) (by omega) (by omega) h7]
  rw [low_step (by omega) (by omega) h6, low_step (by omega) (by omega) h5, low_step (by omega) (by omega) h4, low_step (by omega) (by omega) h3, low_step (by omega) (by omega) h2, low_step (by omega) (by omega) h1, low_step (by omega) (by omega) h0]
  omega
theorem take8 {l : List Int} (h : 8 ≤ l.length) : l.take 8 = [l.getD 0 0, l.getD 1 0, l.getD 2 0, l.getD 3 0, l.getD 4 0, l.getD 5 0, l.getD 6 0, l.getD 7 0] := by
  match l, h with
  | a :: b :: c :: d :: e :: f :: g :: i :: l, _ => rfl
theorem low_nv {l : List Int} (d : Dg l) (h : 8 ≤ l.length) : Ae.lowW l = nv (l.take 8) := by rw [low_val d, take8 h]
theorem and_cons {x m : Nat} (n : Nat) (c : Nat) (hx : x < 256) (hc : c < 256) : ((x + 256 * n) &&& (c + 256 * m)) = (x &&& c) + 256 * (n &&& m) := by
  have a1 : ((x + 256 * n) &&& (c + 256 * m)) % 2 ^ 8 = x &&& c := by
    rw [Nat.and_mod_two_pow, show (x + 256 * n) % 2 ^ 8 = x by omega, show (c + 256 * m) % 2 ^ 8 = c by omega]
  have a2 : ((x + 256 * n) &&& (c + 256 * m)) / 2 ^ 8 = n &&& m := by
    rw [Nat.and_div_two_pow, show (x + 256 * n) / 2 ^ 8 = n by omega, show (c + 256 * m) / 2 ^ 8 = m by omega]
  omega
theorem and255 (x : Nat) (h : x < 256) : x &&& 255 = x := by
  rw [show 255 = 2 ^ 8 - 1 by decide, Nat.and_two_pow_sub_one_eq_mod]; omega
theorem and15 (x : Nat) : x &&& 15 = x % 16 := by rw [show 15 = 2 ^ 4 - 1 by decide, Nat.and_two_pow_sub_one_eq_mod]
theorem and252 (x : Nat) (h : x < 256) : x &&& 252 = x / 4 * 4 := by
  have a1 : (x &&& 252) % 2 ^ 2 = 0 := by rw [Nat.and_mod_two_pow]; simp
  have a2 : (x &&& 252) / 2 ^ 2 = x / 4 := by
    rw [Nat.and_div_two_pow, show 252 / 2 ^ 2 = 2 ^ 6 - 1 by decide, Nat.and_two_pow_sub_one_eq_mod]; omega
  omega
theorem mask_a {a b c d e f g h : Nat} (ha : a < 256) (hb : b < 256) (hc : c < 256) (hd : d < 256) (he : e < 256) (hf : f < 256) (hg : g < 256) (hh : h < 256) :
    (a + 256 * (b + 256 * (c + 256 * (d + 256 * (e + 256 * (f + 256 * (g + 256 * h))))))) &&& 1152921487695413247 = a + 256 * (b + 256 * (c + 256 * (d % 16 + 256 * (e / 4 * 4 + 256 * (f + 256 * (g + 256 * (h % 16))))))) := by
  rw [show (1152921487695413247 : Nat) = 255 + 256 * (255 + 256 * (255 + 256 * (15 + 256 * (252 + 256 * (255 + 256 * (255 + 256 * 15)))))) by decide]
  rw [and_cons _ _ ha (by decide), and_cons _ _ hb (by decide), and_cons _ _ hc (by decide), and_cons _ _ hd (by decide), and_cons _ _ he (by decide), and_cons _ _ hf (by decide), and_cons _ _ hg (by decide)]
  rw [and255 a ha, and255 b hb, and255 c hc, and15 d, and252 e he, and255 f hf, and255 g hg, and15 h]
theorem mask_b {a b c d e f g h : Nat} (ha : a < 256) (hb : b < 256) (hc : c < 256) (hd : d < 256) (he : e < 256) (hf : f < 256) (hg : g < 256) (hh : h < 256) :
    (a + 256 * (b + 256 * (c + 256 * (d + 256 * (e + 256 * (f + 256 * (g + 256 * h))))))) &&& 1152921487695413244 = a / 4 * 4 + 256 * (b + 256 * (c + 256 * (d % 16 + 256 * (e / 4 * 4 + 256 * (f + 256 * (g + 256 * (h % 16))))))) := by
  rw [show (1152921487695413244 : Nat) = 252 + 256 * (255 + 256 * (255 + 256 * (15 + 256 * (252 + 256 * (255 + 256 * (255 + 256 * 15)))))) by decide]
  rw [and_cons _ _ ha (by decide), and_cons _ _ hb (by decide), and_cons _ _ hc (by decide), and_cons _ _ hd (by decide), and_cons _ _ he (by decide), and_cons _ _ hf (by decide), and_cons _ _ hg (by decide)]
  rw [and252 a ha, and255 b hb, and255 c hc, and15 d, and252 e he, and255 f hf, and255 g hg, and15 h]
theorem andA {a : Nat} (ha : a < 2 ^ 64) : andI .u64 (a : Int) 1152921487695413247 = ((a &&& 1152921487695413247 : Nat) : Int) := by
  have h := and_nat (b := 1152921487695413247) ha
  rw [Nat.mod_eq_of_lt (show 1152921487695413247 < 2 ^ 64 by decide)] at h
  exact h
theorem andB {a : Nat} (ha : a < 2 ^ 64) : andI .u64 (a : Int) 1152921487695413244 = ((a &&& 1152921487695413244 : Nat) : Int) := by
  have h := and_nat (b := 1152921487695413244) ha
  rw [Nat.mod_eq_of_lt (show 1152921487695413244 < 2 ^ 64 by decide)] at h
  exact h
theorem bd8 {a b c d e f g h : Nat} (ha : a < 256) (hb : b < 256) (hc : c < 256) (hd : d < 256) (he : e < 256) (hf : f < 256) (hg : g < 256) (hh : h < 256) : a + 256 * (b + 256 * (c + 256 * (d + 256 * (e + 256 * (f + 256 * (g + 256 * h)))))) < 2 ^ 64 := by omega
theorem andA8 {a b c d e f g h : Nat} (ha : a < 256) (hb : b < 256) (hc : c < 256) (hd : d < 256) (he : e < 256) (hf : f < 256) (hg : g < 256) (hh : h < 256) : andI .u64 ((a + 256 * (b + 256 * (c + 256 * (d + 256 * (e + 256 * (f + 256 * (g + 256 * h)))))) : Nat) : Int) 1152921487695413247 = ((a + 256 * (b + 256 * (c + 256 * (d % 16 + 256 * (e / 4 * 4 + 256 * (f + 256 * (g + 256 * (h % 16))))))) : Nat) : Int) := by
  rw [andA (bd8 ha hb hc hd he hf hg hh), mask_a ha hb hc hd he hf hg hh]
theorem andB8 {a b c d e f g h : Nat} (ha : a < 256) (hb : b < 256) (hc : c < 256) (hd : d < 256) (he : e < 256) (hf : f < 256) (hg : g < 256) (hh : h < 256) : andI .u64 ((a + 256 * (b + 256 * (c + 256 * (d + 256 * (e + 256 * (f + 256 * (g + 256 * h)))))) : Nat) : Int) 1152921487695413244 = ((a / 4 * 4 + 256 * (b + 256 * (c + 256 * (d % 16 + 256 * (e / 4 * 4 + 256 * (f + 256 * (g + 256 * (h % 16))))))) : Nat) : Int) := by
  rw [andB (bd8 ha hb hc hd he hf hg hh), mask_b ha hb hc hd he hf hg hh]
theorem r_val {key : List Int} (d : Dg key) : Ae.r0W key + 18446744073709551616 * Ae.r1W key = nv (rQ key) ∧ (0 ≤ Ae.r0W key ∧ Ae.r0W key < 1152921504606846976) ∧ (0 ≤ Ae.r1W key ∧ Ae.r1W key < 1152921504606846976) := by
  have hb : ∀ i, ∃ n : Nat, key.getD i 0 = (n : Int) ∧ n < 256 := fun i => by
    have := d.getD i
    exact ⟨(key.getD i 0).toNat, by omega, by omega⟩
  obtain ⟨n0, e0, l0⟩ := hb 0
  obtain ⟨n1, e1, l1⟩ := hb 1
  obtain ⟨n2, e2, l2⟩ := hb 2
  obtain ⟨n3, e3, l3⟩ := hb 3
  obtain ⟨n4, e4, l4⟩ := hb 4
  obtain ⟨n5, e5, l5⟩ := hb 5
  obtain ⟨n6, e6, l6⟩ := hb 6
  obtain ⟨n7, e7, l7⟩ := hb 7
  obtain ⟨n8, e8, l8⟩ := hb 8
  obtain ⟨n9, e9, l9⟩ := hb 9
  obtain ⟨n10, e10, l10⟩ := hb 10
  obtain ⟨n11, e11, l11⟩ := hb 11
  obtain ⟨n12, e12, l12⟩ := hb 12
  obtain ⟨n13, e13, l13⟩ := hb 13
  obtain ⟨n14, e14, l14⟩ := hb 14
  obtain ⟨n15, e15, l15⟩ := hb 15
  have g8 : ∀ i, i < 8 → (Ae.k8 key).getD i 0 = key.getD (8 + i) 0 := fun i hi => by
    unfold Ae.k8
    rw [getD_take _ _ _ (by omega), getD_drop]
  have q0 : Ae.lowW key = ((n0 + 256 * (n1 + 256 * (n2 + 256 * (n3 + 256 * (n4 + 256 * (n5 + 256 * (n6 + 256 * n7)))))) : Nat) : Int) := by
    rw [low_val d, e0, e1, e2, e3, e4, e5, e6, e7]
    simp only [nv]
    omega
  have q1 : Ae.lowW (Ae.k8 key) = ((n8 + 256 * (n9 + 256 * (n10 + 256 * (n11 + 256 * (n12 + 256 * (n13 + 256 * (n14 + 256 * n15)))))) : Nat) : Int) := by
    have dk : Dg (Ae.k8 key) := (d.drop 8).take 24
    rw [low_val dk, g8 0 (by decide), g8 1 (by decide), g8 2 (by decide), g8 3 (by decide), g8 4 (by decide), g8 5 (by decide), g8 6 (by decide), g8 7 (by decide), e8, e9, e10, e11, e12, e13, e14, e15]
    simp only [nv]
    omega
  have r0 : Ae.r0W key = ((n0 + 256 * (n1 + 256 * (n2 + 256 * (n3 % 16 + 256 * (n4 / 4 * 4 + 256 * (n5 + 256 * (n6 + 256 * (n7 % 16))))))) : Nat) : Int) := by
    unfold Ae.r0W
    rw [q0, andA8 l0 l1 l2 l3 l4 l5 l6 l7]
  have r1 : Ae.r1W key = ((n8 / 4 * 4 + 256 * (n9 + 256 * (n10 + 256 * (n11 % 16 + 256 * (n12 / 4 * 4 + 256 * (n13 + 256 * (n14 + 256 * (n15 % 16))))))) : Nat) : Int) := by
    unfold Ae.r1W
    rw [q1, andB8 l8 l9 l10 l11 l12 l13 l14 l15]
  have t16 : ∀ n : Nat, (n : Int).tmod 16 = ((n % 16 : Nat) : Int) := fun n => by rw [tmod_pos (by omega)]; omega
  have t4 : ∀ n : Nat, n < 256 → J (J ((n : Int).tdiv 4) * 4) = ((n / 4 * 4 : Nat) : Int) := fun n h => by
    rw [tdiv_pos (by omega), J_eq (n := (n : Int) / 4) (by omega) (by omega), J_eq (by omega) (by omega)]; omega
  rw [r0, r1]
  refine ⟨?_, by omega, by omega⟩
  unfold rQ
  rw [e0, e1, e2, e3, e4, e5, e6, e7, e8, e9, e10, e11, e12, e13, e14, e15, t16 n3, t16 n7, t16 n11, t16 n15, t4 n4 l4, t4 n8 l8, t4 n12 l12]
  simp only [nv]
  omega
end Go.Proofs.YtibfpjeeanppjaaGreat.R4
end
section
namespace Go.Proofs.YtibfpjeeanppjaaGreat.R4
open Go Go.Sy Sh
open Ae (R g)
theorem bW_val {p : List Int} (d : Dg p) (hl : p.length ≤ 16) : Dg (Ae.bW p) ∧ (Ae.bW p).length = 17 ∧ nv (Ae.bW p) = nv (p ++ [1]) := by
  have e : Ae.bW p = (p ++ List.replicate (17 - p.length) 0).set p.length 1 := by
    unfold Ae.bW spl
    rw [show Nat.min p.length 17 = p.length from Nat.min_eq_left (by omega), List.take_zero, List.nil_append, List.take_of_length_le (Nat.le_refl _), Nat.zero_add, Int.toNat_natCast, Nat.zero_add, List.drop_replicate]
  have d0 : Dg (p ++ List.replicate (17 - p.length) 0) := d.app (Dg_zeros _)
  have hlen : (p ++ List.replicate (17 - p.length) (0 : Int)).length = 17 := by rw [List.length_append, List.length_replicate]; omega
  rw [e]
  refine ⟨d0.set _ (by decide), by rw [List.length_set, hlen], ?_⟩
  have hg : (p ++ List.replicate (17 - p.length) (0 : Int)).getD p.length 0 = 0 := by
    rw [List.getD_eq_getElem?_getD, List.getElem?_append_right (Nat.le_refl _), Nat.sub_self, List.getElem?_replicate]
    split <;> rfl
  rw [nv_set _ _ _ (by omega), hg, nv_append, nv_append, nv_zeros]
  simp only [nv]
  omega
theorem drop16 {l : List Int} (h : l.length = 17) : nv (l.drop 16) = l.getD 16 0 := by
  have h1 := nv_head (l.drop 16)
  rw [getD_drop, List.drop_drop, List.drop_of_length_le (i := 16 + 1) (by omega)] at h1
  rw [h1]
  simp [nv]
theorem words_val {b : List Int} (d : Dg b) (h : b.length = 17) : Ae.lowW b + 18446744073709551616 * Ae.lowW ((b.drop 8).take 9) + 340282366920938463463374607431768211456 * b.getD 16 0 = nv b ∧ 0 ≤ b.getD 16 0 ∧ b.getD 16 0 < 256 := by
  refine ⟨?_, d.getD 16⟩
  rw [low_nv d (by omega), low_nv ((d.drop 8).take 9) (by rw [List.length_take, List.length_drop]; omega), List.take_take, Nat.min_eq_left (by decide)]
  have s1 := nv_split b 8 (by omega)
  have s2 := nv_split (b.drop 8) 8 (by rw [List.length_drop]; omega)
  rw [List.drop_drop, drop16 h] at s2
  rw [s1, s2]
  have e8 : (256 : Int) ^ 8 = 18446744073709551616 := by decide
  rw [e8]
  omega
theorem add_val {h p : List Int} (hR : ∀ i, R (g h i)) (h5 : g h 2 ≤ 5) (dp : Dg p) (hl : p.length ≤ 16) (hp : g (Ae.bW p) 16 ≤ 1) : hv (Ae.addH h p) = hv h + nv (p ++ [1]) ∧ Sm (Ae.addH h p) := by
  obtain ⟨b1, b2, b3⟩ := bW_val dp hl
  obtain ⟨w1, w2, w3⟩ := words_val b1 b2
  have hp' : (Ae.bW p).getD 16 0 ≤ 1 := hp
  have hH : Ae.bH p = ((Ae.bW p).drop 8).take 9 := rfl
  rw [← hH] at w1
  obtain ⟨a1, a2, a3, a4⟩ := add_at (hR 0) (Ae.lowW_R (Ae.bW p)) c0_bd
  obtain ⟨c1, c2, c3, c4⟩ := add_at (hR 1) (Ae.lowW_R (Ae.bH p)) ⟨a3, a4⟩
  have k2 := hR 2
  have e2 : g (Ae.addH h p) 2 = g h 2 + ((Ae.bW p).getD 16 0 + Fe.addC (g h 1) (Ae.lowW (Ae.bH p)) (Fe.addC (g h 0) (Ae.lowW (Ae.bW p)) 0)) := by
    show Ae.W (g h 2 + Ae.W (Ae.W ((Ae.bW p).getD 16 0) + Fe.addC (g h 1) (Ae.lowW (Ae.bH p)) (Fe.addC (g h 0) (Ae.lowW (Ae.bW p)) 0))) = _
    rw [W_eq, W_eq, W_eq]
    unfold R at *
    omega
  refine ⟨?_, fun i => ?_, by unfold R at k2; omega⟩
  · show Fe.addS (g h 0) (Ae.lowW (Ae.bW p)) 0 + 18446744073709551616 * Fe.addS (g h 1) (Ae.lowW (Ae.bH p)) (Fe.addC (g h 0) (Ae.lowW (Ae.bW p)) 0) + 340282366920938463463374607431768211456 * g (Ae.addH h p) 2 = _
    rw [e2, ← b3]
    unfold hv
    omega
  · match i with
    | 0 => exact a2
    | 1 => exact c2
    | 2 => exact Ae.W_R _
    | n + 3 => exact Ae.zero_R
theorem top_one {p : List Int} (d : Dg p) (hl : p.length ≤ 16) : g (Ae.bW p) 16 ≤ 1 := by
  obtain ⟨b1, b2, b3⟩ := bW_val d hl
  obtain ⟨w1, w2, w3⟩ := words_val b1 b2
  have l0 := Ae.lowW_R (Ae.bW p)
  have l1 := Ae.lowW_R (((Ae.bW p).drop 8).take 9)
  have hn := nv_lt (d1 d)
  rw [nv_append] at hn b3
  have h1 := nv_lt d
  have h2 : (256 : Int) ^ p.length ≤ 256 ^ 16 := pow_le256 hl
  rw [pow16] at h2
  simp only [nv] at b3
  have e : nv (Ae.bW p) < 680564733841876926926749214863536422912 := by omega
  unfold R at *
  show (Ae.bW p).getD 16 0 ≤ 1
  omega
theorem step_val {h p key : List Int} (hR : ∀ i, R (g h i)) (h5 : g h 2 ≤ 5) (dp : Dg p) (hl : p.length ≤ 16) (dk : Dg key) :
    hv (Ae.addW h p (Ae.r0W key) (Ae.r1W key)) % 1361129467683753853853498429727072845819 = (hv h + nv (p ++ [1])) * nv (rQ key) % 1361129467683753853853498429727072845819 ∧ (∀ i, R (g (Ae.addW h p (Ae.r0W key) (Ae.r1W key)) i)) ∧ g (Ae.addW h p (Ae.r0W key) (Ae.r1W key)) 2 ≤ 5 := by
  obtain ⟨r1, r2, r3⟩ := r_val dk
  obtain ⟨a1, a2⟩ := add_val hR h5 dp hl (top_one dp hl)
  have t := times_val a2 r2 r3
  obtain ⟨m1, m2, m3⟩ := red_val (Ae.tiM_R (Ae.addH h p) (Ae.r0W key) (Ae.r1W key))
  rw [t, a1, r1] at m1
  have e : Ae.addW h p (Ae.r0W key) (Ae.r1W key) = Ae.rdM (Ae.tiM (Ae.addH h p) (Ae.r0W key) (Ae.r1W key)) := by unfold Ae.addW; rw [Ae.timesW, Lock_eq]
  rw [e]
  refine ⟨?_, m2, m3⟩
  rw [m1]
  generalize (hv h + nv (p ++ [1])) * nv (rQ key) = v
  omega
theorem sums_val {key text : List Int} (dk : Dg key) (dt : Dg text) : ∀ j, hv (Ae.hN text (Ae.r0W key) (Ae.r1W key) j) % 1361129467683753853853498429727072845819 = nv (sumQ key text j) % 1361129467683753853853498429727072845819 ∧ (∀ i, R (g (Ae.hN text (Ae.r0W key) (Ae.r1W key) j) i)) ∧ g (Ae.hN text (Ae.r0W key) (Ae.r1W key) j) 2 ≤ 5
  | 0 => ⟨by rfl, (Ae.hN_R text (Ae.r0W key) (Ae.r1W key) 0).2, by show (0 : Int) ≤ 5; decide⟩
  | j + 1 => by
    obtain ⟨h1, h2, h3⟩ := sums_val dk dt j
    have dp : Dg ((text.drop (16 * j)).take 16) := (dt.drop _).take _
    obtain ⟨s1, s2, s3⟩ := step_val h2 h3 dp (by rw [List.length_take]; omega) dk
    have q := (mkT_ok (sumQ_ok dk dt j).1 dp (rQ_dg dk)).2
    refine ⟨?_, s2, s3⟩
    show hv (Ae.addW (Ae.hN text (Ae.r0W key) (Ae.r1W key) j) ((text.drop (16 * j)).take 16) (Ae.r0W key) (Ae.r1W key)) % 1361129467683753853853498429727072845819 = nv (mkT (sumQ key text j) ((text.drop (16 * j)).take 16) (rQ key)) % 1361129467683753853853498429727072845819
    rw [s1, q, Int.mul_emod, Int.add_emod, h1, ← Int.add_emod, ← Int.mul_emod]
theorem enR_val {l : List Int} (hR : ∀ i, R (g l i)) (h7 : g l 2 ≤ 7) : (∀ i, R (g (Ae.enR l) i)) ∧ g (Ae.enR l) 2 ≤ 7 ∧ hv (Ae.enR l) = if 1361129467683753853853498429727072845819 ≤ hv l then hv l - 1361129467683753853853498429727072845819 else hv l := by
  obtain ⟨a1, a2, a3, a4⟩ := add_at (hR 0) Ae.five_R c0_bd
  obtain ⟨c1, c2, c3, c4⟩ := add_at (hR 1) Ae.zero_R ⟨a3, a4⟩
  have k0 := hR 0
  have k1 := hR 1
  have k2 := hR 2
  have et : Ae.enT l = g l 2 + Fe.addC (g l 1) 0 (Fe.addC (g l 0) 5 0) := by
    show Ae.W _ = _
    rw [W_eq]
    unfold R at *
    omega
  have ev : Fe.addS (g l 0) 5 0 + 18446744073709551616 * Fe.addS (g l 1) 0 (Fe.addC (g l 0) 5 0) + 340282366920938463463374607431768211456 * Ae.enT l = hv l + 5 := by
    rw [et]
    unfold hv
    omega
  by_cases q : Ae.enT l ≥ 4
  · have e : Ae.enR l = Ae.enA l := by unfold Ae.enR; rw [if_pos q]
    have e2 : g (Ae.enA l) 2 = Ae.enT l - 4 := by
      show Ae.W (Ae.enT l - 4) = _
      rw [W_eq]
      unfold R at *
      omega
    rw [e]
    refine ⟨Ae.enA_R l, by omega, ?_⟩
    rw [if_pos (by unfold R at *; omega)]
    show Fe.addS (g l 0) 5 0 + 18446744073709551616 * Fe.addS (g l 1) 0 (Fe.addC (g l 0) 5 0) + 340282366920938463463374607431768211456 * g (Ae.enA l) 2 = _
    rw [e2]
    omega
  · have e : Ae.enR l = l := by unfold Ae.enR; rw [if_neg q]
    rw [e]
    refine ⟨hR, h7, ?_⟩
    rw [if_neg (by unfold R at *; omega)]
theorem en_mod {l : List Int} (hR : ∀ i, R (g l i)) (h5 : g l 2 ≤ 5) : (∀ i, R (g (Ae.enR (Ae.enR l)) i)) ∧ hv (Ae.enR (Ae.enR l)) = hv l % 1361129467683753853853498429727072845819 := by
  obtain ⟨a1, a2, a3⟩ := enR_val hR (by omega)
  obtain ⟨b1, _, b3⟩ := enR_val a1 a2
  refine ⟨b1, ?_⟩
  have k0 := hR 0
  have k1 := hR 1
  have k2 := hR 2
  have hb : 0 ≤ hv l ∧ hv l < 2041694201525630780780247644590609268736 := by unfold hv R at *; omega
  rw [b3, a3]
  generalize hv l = v at *
  by_cases q : 1361129467683753853853498429727072845819 ≤ v
  · simp only [if_pos q]
    split <;> omega
  · simp only [if_neg q]
    omega
theorem dig_get : ∀ {a : List Int} (_ : Dg a) (i : Nat), a.getD i 0 = nv a / 256 ^ i % 256
  | [], _, i => by simp [nv]
  | x :: a, d, 0 => by
    have := (Dg.cons.1 d).1
    rw [List.getD_cons_zero, nv]
    omega
  | x :: a, d, i + 1 => by
    have h := (Dg.cons.1 d).1
    rw [List.getD_cons_succ, dig_get (Dg.cons.1 d).2 i, nv, show (256 : Int) ^ (i + 1) = 256 * 256 ^ i by rw [Int.pow_succ, Int.mul_comm], ← Int.ediv_ediv_of_nonneg (show (0 : Int) ≤ 256 by decide), show (x + 256 * nv a) / 256 = nv a by omega]
theorem fin_val {s : List Int} (h : SQ s) : Dg (finQ s) ∧ nv (finQ s) = nv s % 1361129467683753853853498429727072845819 := by
  refine ⟨(finQ_ok h).1, ?_⟩
  obtain ⟨ds, ts, vs⟩ := h
  obtain ⟨a1, a2⟩ := plL_ok ds d5
  have h0 := nv_nonneg ds
  have hg := dig_get a1 16
  rw [a2, pow16] at hg
  simp only [nv] at hg a2
  unfold finQ
  by_cases q : 17 ≤ plN s [5] ∧ 4 ≤ (plL s [5]).getD 16 0
  · rw [if_pos q, nv_set _ _ _ (by rw [plL_len]; omega), a2, pow16, tmod_pos (by omega)]
    have hb : (nv s + (5 + 256 * 0)) / 340282366920938463463374607431768211456 ≤ 4 := by omega
    have hb' : 4 ≤ (nv s + (5 + 256 * 0)) / 340282366920938463463374607431768211456 := by omega
    have hge : 1361129467683753853853498429727072845819 ≤ nv s := by omega
    have hv4 : (plL s [5]).getD 16 0 = 4 := by omega
    rw [hv4]
    omega
  · rw [if_neg q]
    have : ¬ 4 ≤ (plL s [5]).getD 16 0 := fun hq => by
      refine q ⟨?_, hq⟩
      rw [← plL_len]
      apply Classical.byContradiction
      intro hn
      rw [getD_out (by omega)] at hq
      exact absurd hq (by decide)
    omega
theorem put_val {n : Int} : Ae.putW n = [n % 256, n / 256 % 256, n / 65536 % 256, n / 16777216 % 256, n / 4294967296 % 256, n / 1099511627776 % 256, n / 281474976710656 % 256, n / 72057594037927936 % 256] := by
  have h : ∀ i : Nat, i < 8 → IntKind.u8.wrap (shrI .u64 n (8 * i)) = n / 2 ^ (8 * i) % 256 := fun i hi => by rw [Fe.wrap_u8, Fe.shr_eq _ _ _ (show 8 * i ≤ 64 by omega)]
  show [IntKind.u8.wrap (shrI .u64 n (8 * 0)), IntKind.u8.wrap (shrI .u64 n (8 * 1)), IntKind.u8.wrap (shrI .u64 n (8 * 2)), IntKind.u8.wrap (shrI .u64 n (8 * 3)), IntKind.u8.wrap (shrI .u64 n (8 * 4)), IntKind.u8.wrap (shrI .u64 n (8 * 5)), IntKind.u8.wrap (shrI .u64 n (8 * 6)), IntKind.u8.wrap (shrI .u64 n (8 * 7))] = _
  rw [h 0 (by decide), h 1 (by decide), h 2 (by decide), h 3 (by decide), h 4 (by decide), h 5 (by decide), h 6 (by decide), h 7 (by decide)]
  simp
theorem out_val {a : List Int} (d : Dg a) : outQ a = [nv a % 256, nv a / 256 % 256, nv a / 65536 % 256, nv a / 16777216 % 256, nv a / 4294967296 % 256, nv a / 1099511627776 % 256, nv a / 281474976710656 % 256, nv a / 72057594037927936 % 256,
    nv a / 18446744073709551616 % 256, nv a / 4722366482869645213696 % 256, nv a / 1208925819614629174706176 % 256, nv a / 309485009821345068724781056 % 256, nv a / 79228162514264337593543950336 % 256, nv a / 20282409603651670423947251286016 % 256, nv a / 5192296858534827628530496329220096 % 256, nv a / 1329227995784915872903807060280344576 % 256] := by
  have h : ∀ i : Nat, IntKind.u8.wrap (a.getD i 0) = nv a / 256 ^ i % 256 := fun i => by rw [Fe.wrap_u8, dig_get d i]; omega
  show [IntKind.u8.wrap (a.getD 0 0), IntKind.u8.wrap (a.getD 1 0), IntKind.u8.wrap (a.getD 2 0), IntKind.u8.wrap (a.getD 3 0), IntKind.u8.wrap (a.getD 4 0), IntKind.u8.wrap (a.getD 5 0), IntKind.u8.wrap (a.getD 6 0), IntKind.u8.wrap (a.getD 7 0), IntKind.u8.wrap (a.getD 8 0), IntKind.u8.wrap (a.getD 9 0), IntKind.u8.wrap (a.getD 10 0), IntKind.u8.wrap (a.getD 11 0), IntKind.u8.wrap (a.getD 12 0), IntKind.u8.wrap (a.getD 13 0), IntKind.u8.wrap (a.getD 14 0), IntKind.u8.wrap (a.getD 15 0)] = _
  rw [h 0, h 1, h 2, h 3, h 4, h 5, h 6, h 7, h 8, h 9, h 10, h 11, h 12, h 13, h 14, h 15]
  simp
theorem two_words {V A B : Int} (h : (A + 18446744073709551616 * B - V) % 340282366920938463463374607431768211456 = 0) (hA : R A) (hB : R B) : A = V % 18446744073709551616 ∧ B = V / 18446744073709551616 % 18446744073709551616 := by
  unfold R at *
  omega
theorem markQ_eq {key text : List Int} (hk : key.length = 32) (dk : Dg key) (dt : Dg text) : markQ key text = Ae.markW key text := by
  obtain ⟨s1, s2, s3⟩ := sums_val (key := key) dk dt ((text.length + 15) / 16)
  have hs := sumQ_ok dk dt ((text.length + 15) / 16)
  unfold markQ
  rw [Ae.markW, Lock_eq]
  unfold Ae.endW Ae.enW
  generalize Ae.hN text (Ae.r0W key) (Ae.r1W key) ((text.length + 15) / 16) = H at *
  generalize sumQ key text ((text.length + 15) / 16) = s at *
  obtain ⟨e1, e2⟩ := en_mod s2 s3
  obtain ⟨f1, f2⟩ := fin_val hs
  generalize Ae.enR (Ae.enR H) = L at *
  have d16 : Dg (k16 key) := (dk.drop 16).take 16
  obtain ⟨p1, p2⟩ := plL_ok f1 d16
  have ek : Ae.lowW (Ae.k16 key) + 18446744073709551616 * Ae.lowW (Ae.k24 key) = nv (k16 key) := by
    have d24 : Dg (Ae.k24 key) := (dk.drop 24).take 8
    have l16 : (k16 key).length = 16 := by unfold k16; rw [List.length_take, List.length_drop, hk]; rfl
    have h1 := low_nv (l := Ae.k16 key) d16 (by show 8 ≤ (k16 key).length; omega)
    have h2 := low_nv d24 (by unfold Ae.k24; rw [List.length_take, List.length_drop, hk]; decide)
    have s := nv_split (k16 key) 8 (by omega)
    have e8 : (256 : Int) ^ 8 = 18446744073709551616 := by decide
    have e24 : (k16 key).drop 8 = (Ae.k24 key).take 8 := by
      unfold k16 Ae.k24
      rw [List.drop_take, List.drop_drop, List.take_take]
      rfl
    rw [h1, h2, s, e8, e24]
    rfl
  obtain ⟨a1, a2, a3, a4⟩ := add_at (e1 0) (Ae.lowW_R (Ae.k16 key)) c0_bd
  obtain ⟨c1, c2, c3, c4⟩ := add_at (e1 1) (Ae.lowW_R (Ae.k24 key)) ⟨a3, a4⟩
  have hV : nv (plL (finQ s) (k16 key)) = hv L + nv (k16 key) := by rw [p2, f2, ← s1, e2]
  rw [out_val p1, put_val, put_val, hV]
  have hw := two_words (V := hv L + nv (k16 key)) (A := Fe.addS (g L 0) (Ae.lowW (Ae.k16 key)) 0) (B := Fe.addS (g L 1) (Ae.lowW (Ae.k24 key)) (Fe.addC (g L 0) (Ae.lowW (Ae.k16 key)) 0)) (by
    rw [← ek]
    unfold hv
    omega) a2 c2
  rw [hw.1, hw.2]
  generalize hv L + nv (k16 key) = V
  simp only [List.cons_append, List.nil_append, List.cons.injEq, and_true]
  omega
end Go.Proofs.YtibfpjeeanppjaaGreat.R4
end
