/- This file proves what sums, differences, products of field's words stand for, modulo p. Conditions: words as they come from carry. -/
import Derived.Test.YtailgcdcdhhpnaaFeH
namespace Go.Proofs.Ytailgcdcdhhpnaa.Fe
open Go Go.Sy

theorem Bd.z5 : Bd z5 := ⟨rfl, by decide, by decide, by decide, by decide, by decide⟩
theorem add_val {a b : List Int} (ha : Bd a) (hb : Bd b) : Bd (addFe a b) ∧ fv (addFe a b) = (fv a + fv b) % Pm := by
  obtain ⟨_, a0, a1, a2, a3, a4⟩ := ha
  obtain ⟨_, b0, b1, b2, b3, b4⟩ := hb
  have hw : ∀ x y : Int, 0 ≤ x → x < 4503599627370496 → 0 ≤ y → y < 4503599627370496 → w64 (x + y) = x + y := fun x y h1 h2 h3 h4 => by
    simp only [w64, wrap_u64]; omega
  have e : addL a b = [a.getD 0 0 + b.getD 0 0, a.getD 1 0 + b.getD 1 0, a.getD 2 0 + b.getD 2 0, a.getD 3 0 + b.getD 3 0, a.getD 4 0 + b.getD 4 0] := by
    unfold addL
    rw [hw _ _ (by omega) (by omega) (by omega) (by omega), hw _ _ (by omega) (by omega) (by omega) (by omega), hw _ _ (by omega) (by omega) (by omega) (by omega), hw _ _ (by omega) (by omega) (by omega) (by omega), hw _ _ (by omega) (by omega) (by omega) (by omega)]
  obtain ⟨h1, q, h2⟩ := car_val (l := addL a b) (fun i hi => by
    rw [e]
    have : i = 0 ∨ i = 1 ∨ i = 2 ∨ i = 3 ∨ i = 4 := by omega
    rcases this with rfl | rfl | rfl | rfl | rfl <;> simp only [List.getD_cons_zero, List.getD_cons_succ] <;> omega)
  refine ⟨h1, ?_⟩
  unfold addFe fv
  rw [fv_sub h2, ← Int.add_emod]
  congr 1
  rw [e]
  unfold val5 v5
  simp only [List.getD_cons_zero, List.getD_cons_succ]
  omega
theorem sub_val {a b : List Int} (ha : Bd a) (hb : Bd b) : Bd (subFe a b) ∧ fv (subFe a b) = (fv a - fv b) % Pm := by
  obtain ⟨_, a0, a1, a2, a3, a4⟩ := ha
  obtain ⟨_, b0, b1, b2, b3, b4⟩ := hb
  have hw : ∀ x y k : Int, 0 ≤ x → x < 4503599627370496 → 0 ≤ y → y ≤ k → k < 18014398509481984 → w64 (x + w64 (k - y)) = x + (k - y) := fun x y k h1 h2 h3 h4 h5 => by
    simp only [w64, wrap_u64]; omega
  have e : subL a b = [a.getD 0 0 + (9007199254740916 - b.getD 0 0), a.getD 1 0 + (9007199254740988 - b.getD 1 0), a.getD 2 0 + (9007199254740988 - b.getD 2 0), a.getD 3 0 + (9007199254740988 - b.getD 3 0), a.getD 4 0 + (9007199254740988 - b.getD 4 0)] := by
    unfold subL
    rw [hw _ _ _ (by omega) (by omega) (by omega) (by omega) (by omega), hw _ _ _ (by omega) (by omega) (by omega) (by omega) (by omega), hw _ _ _ (by omega) (by omega) (by omega) (by omega) (by omega), hw _ _ _ (by omega) (by omega) (by omega) (by omega) (by omega), hw _ _ _ (by omega) (by omega) (by omega) (by omega) (by omega)]
  obtain ⟨h1, q, h2⟩ := car_val (l := subL a b) (fun i hi => by
    rw [e]
    have : i = 0 ∨ i = 1 ∨ i = 2 ∨ i = 3 ∨ i = 4 := by omega
    rcases this with rfl | rfl | rfl | rfl | rfl <;> simp only [List.getD_cons_zero, List.getD_cons_succ] <;> omega)
  refine ⟨h1, ?_⟩
  unfold subFe fv
  rw [fv_sub h2, ← Int.sub_emod]
  have : val5 (subL a b) = (val5 a - val5 b) - (-4) * Pm := by
    rw [e, Pm_eq]
    unfold val5 v5
    simp only [List.getD_cons_zero, List.getD_cons_succ]
    omega
  exact fv_sub this

/-! ### Products -/
/-- 128 bits. -/
def W2 (s : Int × Int) : Int := 18446744073709551616 * s.1 + s.2
theorem pl_val {s : Int × Int} {x y : Int} (h1 : 0 ≤ s.1 ∧ s.1 < 1125899906842624) (h2 : 0 ≤ s.2 ∧ s.2 < 18446744073709551616) (hx : 0 ≤ x ∧ x < 4503599627370496) (hy : 0 ≤ y ∧ y < 144115188075855872) :
    W2 (pl s x y) = W2 s + x * y ∧ 0 ≤ (pl s x y).1 ∧ (0 ≤ (pl s x y).2 ∧ (pl s x y).2 < 18446744073709551616) := by
  obtain ⟨m1, m2, m3, m4, m5⟩ := mul64_eq hx.1 (show x < 18446744073709551616 by omega) hy.1 (show y < 18446744073709551616 by omega)
  have hb := mul_bound hx.1 (show x ≤ 4503599627370495 by omega) hy.1 (show y ≤ 144115188075855871 by omega)
  obtain ⟨e1, e2⟩ := addS_eq (x := s.2) (y := mulL x y) (c := 0) h2.1 m4 (Int.le_refl 0)
  unfold pl W2
  simp only [e1, e2, w64, wrap_u64]
  generalize mulH x y = H at *
  generalize mulL x y = L at *
  generalize x * y = Q at *
  obtain ⟨s1, s2⟩ := s
  simp only at h1 h2 ⊢
  refine ⟨?_, ?_, ?_⟩ <;> omega
theorem yB_val {b : List Int} (hb : Bd b) (k i : Nat) (hk : k < 5) (hi : i < 5) : (0 ≤ yB b k i ∧ yB b k i < 144115188075855872) ∧ yB b k i = if i ≤ k then b.getD (k - i) 0 else 19 * b.getD (k + 5 - i) 0 := by
  have key : ∀ j : Nat, j < 5 → 0 ≤ b.getD j 0 ∧ b.getD j 0 < 4503599627370496 := fun j hj => by
    obtain ⟨_, b0, b1, b2, b3, b4⟩ := hb
    have : j = 0 ∨ j = 1 ∨ j = 2 ∨ j = 3 ∨ j = 4 := by omega
    rcases this with rfl | rfl | rfl | rfl | rfl <;> omega
  unfold yB
  split
  · have := key (k - i) (by omega)
    exact ⟨by omega, rfl⟩
  · have := key (k + 5 - i) (by omega)
    have h19 : b.getD (k + 5 - i) 0 * 19 % 18446744073709551616 = b.getD (k + 5 - i) 0 * 19 := Int.emod_eq_of_lt (by omega) (by omega)
    simp only [w64, wrap_u64]
    rw [h19]
    exact ⟨by omega, by omega⟩
/-- A column of the product. -/
theorem sK_val {a b : List Int} (ha : Bd a) (hb : Bd b) (k : Nat) (hk : k < 5) : (0 ≤ (sK a b k).1 ∧ (sK a b k).1 < 562949953421312) ∧ (0 ≤ (sK a b k).2 ∧ (sK a b k).2 < 18446744073709551616) ∧
    W2 (sK a b k) = a.getD 0 0 * yB b k 0 + a.getD 1 0 * yB b k 1 + a.getD 2 0 * yB b k 2 + a.getD 3 0 * yB b k 3 + a.getD 4 0 * yB b k 4 := by
  have ka : ∀ j : Nat, j < 5 → 0 ≤ a.getD j 0 ∧ a.getD j 0 < 4503599627370496 := fun j hj => by
    obtain ⟨_, b0, b1, b2, b3, b4⟩ := ha
    have : j = 0 ∨ j = 1 ∨ j = 2 ∨ j = 3 ∨ j = 4 := by omega
    rcases this with rfl | rfl | rfl | rfl | rfl <;> omega
  have ky : ∀ j : Nat, j < 5 → (0 ≤ yB b k j ∧ yB b k j < 144115188075855872) := fun j hj => (yB_val hb k j hk hj).1
  have kb : ∀ j : Nat, j < 5 → 0 ≤ a.getD j 0 * yB b k j ∧ a.getD j 0 * yB b k j ≤ 4503599627370495 * 144115188075855871 := fun j hj =>
    mul_bound (ka j hj).1 (by have := (ka j hj).2; omega) (ky j hj).1 (by have := (ky j hj).2; omega)
  unfold sK
  simp only [List.foldl_cons, List.foldl_nil]
  have p0 := kb 0 (by omega)
  have p1 := kb 1 (by omega)
  have p2 := kb 2 (by omega)
  have p3 := kb 3 (by omega)
  have p4 := kb 4 (by omega)
  obtain ⟨e0, n0, l0⟩ := pl_val (s := (0, 0)) (by omega) (by omega) (ka 0 (by omega)) (ky 0 (by omega))
  generalize pl (0, 0) (a.getD 0 0) (yB b k 0) = s0 at *
  have w0 : W2 (0, 0) = 0 := rfl
  obtain ⟨e1, n1, l1⟩ := pl_val (s := s0) (by unfold W2 at e0 w0; omega) l0 (ka 1 (by omega)) (ky 1 (by omega))
  generalize pl s0 (a.getD 1 0) (yB b k 1) = s1 at *
  obtain ⟨e2, n2, l2⟩ := pl_val (s := s1) (by unfold W2 at e0 e1 w0; omega) l1 (ka 2 (by omega)) (ky 2 (by omega))
  generalize pl s1 (a.getD 2 0) (yB b k 2) = s2 at *
  obtain ⟨e3, n3, l3⟩ := pl_val (s := s2) (by unfold W2 at e0 e1 e2 w0; omega) l2 (ka 3 (by omega)) (ky 3 (by omega))
  generalize pl s2 (a.getD 3 0) (yB b k 3) = s3 at *
  obtain ⟨e4, n4, l4⟩ := pl_val (s := s3) (by unfold W2 at e0 e1 e2 e3 w0; omega) l3 (ka 4 (by omega)) (ky 4 (by omega))
  generalize pl s3 (a.getD 4 0) (yB b k 4) = s4 at *
  refine ⟨⟨n4, by unfold W2 at e0 e1 e2 e3 e4 w0; omega⟩, l4, by omega⟩
theorem orI_comm (k : IntKind) (a b : Int) : orI k a b = orI k b a := by unfold orI bitsI; simp only [BitVec.or_comm]
/-- What is carried on. -/
theorem nx_val {s : Int × Int} {c : Int} (h1 : 0 ≤ s.1 ∧ s.1 < 562949953421312) (h2 : 0 ≤ s.2 ∧ s.2 < 18446744073709551616) (hc : 0 ≤ c ∧ c < 9223372036854775808) :
    nx s c = (W2 s + c) / 2251799813685248 ∧ (0 ≤ nx s c ∧ nx s c < 9223372036854775808) ∧ lo51 (addS s.2 c 0) = (W2 s + c) % 2251799813685248 := by
  obtain ⟨e1, e2⟩ := addS_eq (x := s.2) (y := c) (c := 0) h2.1 hc.1 (Int.le_refl 0)
  have hn : nx s c = (W2 s + c) / 2251799813685248 := by
    unfold nx
    rw [e1, e2]
    simp only [w64, wrap_u64, hi51, shr51]
    have hh : (s.1 + (s.2 + c + 0) / 18446744073709551616) % 18446744073709551616 = s.1 + (s.2 + c) / 18446744073709551616 := by omega
    rw [hh, shl64 _ _ (by decide)]
    have hsh : (s.1 + (s.2 + c) / 18446744073709551616) * 2 ^ 13 % 18446744073709551616 = (s.1 + (s.2 + c) / 18446744073709551616) * 8192 := by omega
    rw [hsh]
    have hor : orI .u64 ((s.2 + c + 0) % 18446744073709551616 / 2251799813685248) ((s.1 + (s.2 + c) / 18446744073709551616) * 8192) = (s.1 + (s.2 + c) / 18446744073709551616) * 8192 + (s.2 + c + 0) % 18446744073709551616 / 2251799813685248 := by
      rw [orI_comm]
      exact or64 13 _ _ (by omega) (by omega) (by omega) (by omega) (by omega) (by decide)
    rw [hor]
    unfold W2
    omega
  refine ⟨hn, ?_, ?_⟩
  · rw [hn]; unfold W2; omega
  · rw [e1]
    simp only [lo51]
    rw [mask51 _ (by omega) (by omega)]
    unfold W2
    omega

/-- The words behind the columns. -/
theorem tail_val {s0 s1 s2 s3 s4 : Int × Int} (h0 : (0 ≤ s0.1 ∧ s0.1 < 562949953421312) ∧ (0 ≤ s0.2 ∧ s0.2 < 18446744073709551616)) (h1 : (0 ≤ s1.1 ∧ s1.1 < 562949953421312) ∧ (0 ≤ s1.2 ∧ s1.2 < 18446744073709551616))
    (h2 : (0 ≤ s2.1 ∧ s2.1 < 562949953421312) ∧ (0 ≤ s2.2 ∧ s2.2 < 18446744073709551616)) (h3 : (0 ≤ s3.1 ∧ s3.1 < 562949953421312) ∧ (0 ≤ s3.2 ∧ s3.2 < 18446744073709551616)) (h4 : (0 ≤ s4.1 ∧ s4.1 < 562949953421312) ∧ (0 ≤ s4.2 ∧ s4.2 < 18446744073709551616)) :
    (∀ i, i < 5 → 0 ≤ (mulTail s0 s1 s2 s3 s4).getD i 0 ∧ (mulTail s0 s1 s2 s3 s4).getD i 0 < 9223372036854775808) ∧ ∃ q, val5 (mulTail s0 s1 s2 s3 s4) = v5 (W2 s0) (W2 s1) (W2 s2) (W2 s3) (W2 s4) - q * Pm := by
  obtain ⟨n1, b1, o0⟩ := nx_val (c := 0) h0.1 h0.2 (by omega)
  generalize hc1 : nx s0 0 = c1 at *
  obtain ⟨n2, b2, o1⟩ := nx_val (c := c1) h1.1 h1.2 b1
  generalize hc2 : nx s1 c1 = c2 at *
  obtain ⟨n3, b3, o2⟩ := nx_val (c := c2) h2.1 h2.2 b2
  generalize hc3 : nx s2 c2 = c3 at *
  obtain ⟨n4, b4, o3⟩ := nx_val (c := c3) h3.1 h3.2 b3
  generalize hc4 : nx s3 c3 = c4 at *
  obtain ⟨n5, b5, o4⟩ := nx_val (c := c4) h4.1 h4.2 b4
  generalize hc5 : nx s4 c4 = c5 at *
  have hm : mulTail s0 s1 s2 s3 s4 = [lo51 (addS (lo51 (addS s0.2 0 0)) (mulL c5 19) 0), w64 (lo51 (addS s1.2 c1 0) + orI .u64 (shlI .u64 (w64 (mulH c5 19 + addC (lo51 (addS s0.2 0 0)) (mulL c5 19) 0)) 13) (hi51 (addS (lo51 (addS s0.2 0 0)) (mulL c5 19) 0))),
      lo51 (addS s2.2 c2 0), lo51 (addS s3.2 c3 0), lo51 (addS s4.2 c4 0)] := by
    unfold mulTail
    rw [hc1, hc2, hc3, hc4, hc5]
  rw [o0, o1, o2, o3, o4] at hm
  obtain ⟨m1, _, _, m4, m5⟩ := mul64_eq b5.1 (show c5 < 18446744073709551616 by omega) (y := 19) (by omega) (by omega)
  generalize mulH c5 19 = H at *
  generalize mulL c5 19 = L at *
  generalize hO0 : (W2 s0 + 0) % 2251799813685248 = O0 at *
  have bO0 : 0 ≤ O0 ∧ O0 < 2251799813685248 := by omega
  generalize hO1 : (W2 s1 + c1) % 2251799813685248 = O1 at *
  have bO1 : 0 ≤ O1 ∧ O1 < 2251799813685248 := by omega
  generalize hO2 : (W2 s2 + c2) % 2251799813685248 = O2 at *
  have bO2 : 0 ≤ O2 ∧ O2 < 2251799813685248 := by omega
  generalize hO3 : (W2 s3 + c3) % 2251799813685248 = O3 at *
  have bO3 : 0 ≤ O3 ∧ O3 < 2251799813685248 := by omega
  generalize hO4 : (W2 s4 + c4) % 2251799813685248 = O4 at *
  have bO4 : 0 ≤ O4 ∧ O4 < 2251799813685248 := by omega
  obtain ⟨e1, e2⟩ := addS_eq (x := O0) (y := L) (c := 0) bO0.1 m4 (Int.le_refl 0)
  rw [e1, e2] at hm
  -- what is beyond counts 19 times
  have hT : ∃ T r, T = (O0 + 19 * c5) / 2251799813685248 ∧ r = (O0 + 19 * c5) % 2251799813685248 ∧ mulTail s0 s1 s2 s3 s4 = [r, O1 + T, O2, O3, O4] ∧ 0 ≤ T ∧ T < 1125899906842624 := by
    refine ⟨_, _, rfl, rfl, ?_, by omega, by omega⟩
    rw [hm]
    have x1 : (O0 + L + 0) % 18446744073709551616 = (O0 + L) % 18446744073709551616 := by omega
    have x2 : (O0 + L + 0) / 18446744073709551616 = (O0 + L) / 18446744073709551616 := by omega
    rw [x1, x2]
    generalize hX : (O0 + L) % 18446744073709551616 = X at *
    generalize hC : (O0 + L) / 18446744073709551616 = C at *
    have hHC : 18446744073709551616 * (H + C) + X = O0 + 19 * c5 := by omega
    have bX : 0 ≤ X ∧ X < 18446744073709551616 := by omega
    have bHC : 0 ≤ H + C ∧ H + C < 1024 := by omega
    simp only [w64, wrap_u64, lo51, hi51, shr51]
    rw [mask51 X bX.1 bX.2]
    have y1 : (H + C) % 18446744073709551616 = H + C := by omega
    rw [y1, shl64 _ _ (by decide)]
    have y2 : (H + C) * 2 ^ 13 % 18446744073709551616 = (H + C) * 8192 := by omega
    rw [y2, or64 13 _ _ (by omega) (by omega) (by omega) (by omega) (by omega) (by decide)]
    have z1 : X % 2251799813685248 = (O0 + 19 * c5) % 2251799813685248 := by omega
    have z2 : (O1 + ((H + C) * 8192 + X / 2251799813685248)) % 18446744073709551616 = O1 + (O0 + 19 * c5) / 2251799813685248 := by omega
    rw [z1, z2]
  obtain ⟨T, r, eT, er, hl, bT, bT'⟩ := hT
  rw [hl]
  refine ⟨fun i hi => ?_, c5, ?_⟩
  · have : i = 0 ∨ i = 1 ∨ i = 2 ∨ i = 3 ∨ i = 4 := by omega
    rcases this with rfl | rfl | rfl | rfl | rfl <;> simp only [List.getD_cons_zero, List.getD_cons_succ] <;> omega
  · unfold val5 v5
    simp only [List.getD_cons_zero, List.getD_cons_succ]
    rw [Pm_eq]
    omega

/-- The columns make the product. -/
theorem cols (a0 a1 a2 a3 a4 b0 b1 b2 b3 b4 : Int) :
    v5 (a0 * b0 + a1 * (19 * b4) + a2 * (19 * b3) + a3 * (19 * b2) + a4 * (19 * b1)) (a0 * b1 + a1 * b0 + a2 * (19 * b4) + a3 * (19 * b3) + a4 * (19 * b2)) (a0 * b2 + a1 * b1 + a2 * b0 + a3 * (19 * b4) + a4 * (19 * b3))
      (a0 * b3 + a1 * b2 + a2 * b1 + a3 * b0 + a4 * (19 * b4)) (a0 * b4 + a1 * b3 + a2 * b2 + a3 * b1 + a4 * b0) =
    v5 a0 a1 a2 a3 a4 * v5 b0 b1 b2 b3 b4 - v5 (a1 * b4 + a2 * b3 + a3 * b2 + a4 * b1) (a2 * b4 + a3 * b3 + a4 * b2) (a3 * b4 + a4 * b3) (a4 * b4) 0 * Pm := by
  unfold v5
  rw [Pm_eq]
  grind
theorem mul_val {a b : List Int} (ha : Bd a) (hb : Bd b) : Bd (mulFe (lst 5 a) (lst 5 b)) ∧ fv (mulFe (lst 5 a) (lst 5 b)) = (fv a * fv b) % Pm := by
  rw [ha.lst, hb.lst]
  obtain ⟨p0, q0, v0⟩ := sK_val ha hb 0 (by omega)
  obtain ⟨p1, q1, v1⟩ := sK_val ha hb 1 (by omega)
  obtain ⟨p2, q2, v2⟩ := sK_val ha hb 2 (by omega)
  obtain ⟨p3, q3, v3⟩ := sK_val ha hb 3 (by omega)
  obtain ⟨p4, q4, v4⟩ := sK_val ha hb 4 (by omega)
  obtain ⟨t1, q, t2⟩ := tail_val ⟨p0, q0⟩ ⟨p1, q1⟩ ⟨p2, q2⟩ ⟨p3, q3⟩ ⟨p4, q4⟩
  obtain ⟨h1, q', h2⟩ := car_val t1
  have hm : mulFe a b = carF (mulTail (sK a b 0) (sK a b 1) (sK a b 2) (sK a b 3) (sK a b 4)) := by rw [mulFe, Lock_eq]
  rw [hm]
  refine ⟨h1, ?_⟩
  unfold fv
  rw [fv_sub h2, fv_sub t2, ← Int.mul_emod]
  rw [v0, v1, v2, v3, v4]
  have yv : ∀ k i, k < 5 → i < 5 → yB b k i = if i ≤ k then b.getD (k - i) 0 else 19 * b.getD (k + 5 - i) 0 := fun k i hk hi => (yB_val hb k i hk hi).2
  rw [yv 0 0 (by omega) (by omega), yv 0 1 (by omega) (by omega), yv 0 2 (by omega) (by omega), yv 0 3 (by omega) (by omega), yv 0 4 (by omega) (by omega), yv 1 0 (by omega) (by omega), yv 1 1 (by omega) (by omega), yv 1 2 (by omega) (by omega), yv 1 3 (by omega) (by omega), yv 1 4 (by omega) (by omega),
    yv 2 0 (by omega) (by omega), yv 2 1 (by omega) (by omega), yv 2 2 (by omega) (by omega), yv 2 3 (by omega) (by omega), yv 2 4 (by omega) (by omega), yv 3 0 (by omega) (by omega), yv 3 1 (by omega) (by omega), yv 3 2 (by omega) (by omega), yv 3 3 (by omega) (by omega), yv 3 4 (by omega) (by omega),
    yv 4 0 (by omega) (by omega), yv 4 1 (by omega) (by omega), yv 4 2 (by omega) (by omega), yv 4 3 (by omega) (by omega), yv 4 4 (by omega) (by omega)]
  simp only [Nat.reduceLeDiff, Nat.le_refl, if_true, if_false, Nat.reduceSub, Nat.reduceAdd, Nat.zero_le, Nat.sub_zero, Nat.sub_self]
  exact fv_sub (cols _ _ _ _ _ _ _ _ _ _)
end Go.Proofs.Ytailgcdcdhhpnaa.Fe
