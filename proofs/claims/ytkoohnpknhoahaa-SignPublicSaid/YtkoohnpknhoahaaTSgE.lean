/- This file proves that what is signed is right, and that a fixed signature is not right for another text. Conditions: bytes within their kind. -/
import Derived.Test.YtkoohnpknhoahaaTSgD
set_option linter.all false
namespace Go.Proofs.Ytkoohnpknhoahaa.Sh
open Go Go.Sy
noncomputable def wideX (s p k : List Int) : List Int := sumW s (rnds s k (sched (w16 p) 64) 80)
theorem wideX_eq : wideW = wideX := by
  funext s p k
  rw [wideW, Lock_eq]; rfl
noncomputable def stX (p kk st : List Int) : Nat → List Int
  | 0 => st
  | j + 1 => wideX (lst 8 (stX p kk st j)) ((p.drop (128 * j)).take 128) kk
theorem stX_eq (p kk st : List Int) : ∀ j, stN p kk st j = stX p kk st j
  | 0 => rfl
  | j + 1 => by
    show wideW (lst 8 (stN p kk st j)) ((p.drop (128 * j)).take 128) kk = wideX (lst 8 (stX p kk st j)) ((p.drop (128 * j)).take 128) kk
    rw [stX_eq, wideX_eq]
noncomputable def longX (xs : List Int) : List Int := outB (stX (padT xs) kL bL ((padT xs).length / 128))
theorem longX_eq (xs : List Int) : longW xs = longX xs := by rw [longW, Lock_eq, stX_eq]; rfl
end Go.Proofs.Ytkoohnpknhoahaa.Sh
namespace Go.Proofs.Ytkoohnpknhoahaa.Sg
open Go Go.Sy Re Fe Po Sh
def h1 : List Int := [30, 99, 235, 65, 17, 182, 247, 76, 178, 83, 156, 158, 43, 100, 56, 169, 221, 155, 58, 236, 127, 8, 57, 33, 240, 97, 130, 41, 171, 190, 109, 223, 133, 0, 0, 169, 105, 225, 93, 50, 128, 27, 49, 80, 119, 34, 43, 201, 50, 214, 165, 55, 186, 99, 169, 213, 1, 248, 60, 63, 148, 211, 115, 144]
def h2 : List Int := [34, 198, 10, 245, 47, 127, 24, 242, 226, 84, 49, 89, 24, 242, 174, 60, 118, 1, 23, 242, 173, 44, 58, 172, 104, 194, 152, 25, 226, 76, 177, 221, 45, 123, 104, 90, 154, 203, 19, 211, 44, 5, 172, 212, 188, 105, 54, 126, 31, 177, 206, 204, 0, 175, 60, 107, 92, 44, 110, 145, 11, 236, 213, 209]
def h3 : List Int := [176, 153, 186, 232, 6, 7, 181, 226, 181, 91, 64, 107, 13, 48, 197, 14, 206, 110, 106, 97, 219, 216, 90, 105, 94, 218, 138, 104, 54, 94, 97, 252, 135, 4, 120, 32, 220, 151, 226, 147, 6, 87, 129, 44, 65, 240, 111, 53, 24, 138, 23, 15, 252, 137, 140, 233, 189, 187, 0, 222, 24, 121, 116, 158]
def h4 : List Int := [112, 93, 13, 60, 112, 9, 122, 47, 214, 253, 25, 165, 189, 14, 192, 43, 99, 7, 250, 234, 64, 145, 129, 150, 179, 30, 96, 141, 167, 42, 3, 183, 140, 110, 90, 112, 102, 151, 5, 197, 113, 41, 174, 33, 234, 43, 13, 242, 82, 12, 181, 57, 142, 93, 147, 121, 38, 72, 79, 200, 238, 170, 175, 170]
def s7 : List Int := (List.replicate 32 0).set 0 7
set_option maxRecDepth 100000 in
theorem h1_eq : longW s7 = h1 := by rw [longX_eq]; decide +kernel
set_option maxRecDepth 100000 in
theorem h2_eq : longW (h1.drop 32 ++ [97, 98]) = h2 := by rw [longX_eq]; decide +kernel
set_option maxRecDepth 100000 in
theorem h3_eq : longW (first7 ++ (pub7 ++ [97, 98])) = h3 := by rw [longX_eq]; decide +kernel
set_option maxRecDepth 100000 in
theorem h4_eq : longW (first7 ++ (pub7 ++ [98])) = h4 := by rw [longX_eq]; decide +kernel
theorem red_num {l : List Int} {n : Nat} (h : Go.Proofs.Ytkoohnpknhoahaa.val256 l % ordL = n) : numB (redF l) = n := by
  have hL := ordL_pos
  have r := Int.emod_lt_of_pos (Go.Proofs.Ytkoohnpknhoahaa.val256 l) hL.1
  have r0 := Int.emod_nonneg (Go.Proofs.Ytkoohnpknhoahaa.val256 l) (b := ordL) (by omega)
  have hb : Go.Proofs.Ytkoohnpknhoahaa.val256 l % ordL < (256 : Int) ^ 32 := by
    have : (256 : Int) ^ 32 = 115792089237316195423570985008687907853269984665640564039457584007913129639936 := by decide
    omega
  unfold numB
  rw [redF, Lift.Lock_eq, ← vals_eq, Go.Proofs.Ytkoohnpknhoahaa.val_digN 32 _ r0 hb, h]
  rfl
theorem n7_ok : numB (nK s7) = n7 := by
  unfold nK
  rw [List.flatten_cons, List.flatten_nil, List.append_nil, h1_eq]
  decide +kernel
theorem pub7_ok : pubW s7 = pub7 := by rw [pubW_eq, n7_ok, pub7_eq]
theorem r7_ok : numB (rW s7 [97, 98]) = r7 := by
  have : preW s7 = h1.drop 32 := by
    unfold preW
    rw [List.flatten_cons, List.flatten_nil, List.append_nil, h1_eq]
  unfold rW
  rw [this, List.flatten_cons, List.flatten_cons, List.flatten_nil, List.append_nil, h2_eq]
  exact red_num (by decide +kernel)
theorem first7_ok : fstW s7 [97, 98] = first7 := by rw [fstW_eq, r7_ok, first7_eq]
theorem k7_ok : numB (kW s7 [97, 98]) = k7 := by
  unfold kW
  rw [first7_ok, pub7_ok, List.flatten_cons, List.flatten_cons, List.flatten_cons, List.flatten_nil, List.append_nil, h3_eq]
  exact red_num (by decide +kernel)
theorem sig_take (l t : List Int) : (sigW l t).take 32 = fstW l t := by
  unfold sigW
  exact List.take_left' (fstW_len l t)
theorem sig_drop (l t : List Int) : ((sigW l t).drop 32).take 32 = sW l t := by
  unfold sigW
  rw [List.drop_left' (fstW_len l t), List.take_of_length_le (by rw [sW_len]; exact Nat.le_refl _)]
theorem sig_len (l t : List Int) : (sigW l t).length = 64 := by
  unfold sigW
  rw [List.length_append, fstW_len, sW_len]
theorem fst_key (l t : List Int) : keyOK (fstW l t) = true := by
  rw [fstW_eq]
  exact (enc_ok (val_lt _).1 (val_lt _).2 _).1
theorem pub_key (l : List Int) : keyOK (pubW l) = true := by
  rw [pubW_eq]
  exact (enc_ok (val_lt _).1 (val_lt _).2 _).1
theorem sig_by (l t : List Int) : ∀ x ∈ sigW l t, 0 ≤ x ∧ x < 256 := by
  intro x hx
  rcases List.mem_append.1 hx with h | h
  · exact (keyBy (fst_key l t)).2 x h
  · exact (keyBy (sW_ok l t).1).2 x h
theorem ver_made (l t u : List Int) : verW (pubW l) (sigW l t) u = decide (encA (addA (mulA baseA (numB (sW l t))) (negA (mulA (mulA baseA (numB (nK l))) (numB (vkW (pubW l) (sigW l t) u))))) = encA (mulA baseA (numB (rW l t)))) := by
  have hA := (nK_pt l).on
  obtain ⟨f1, f2, f3⟩ := from_back hA
  rw [← pubW_eq] at f1 f2 f3
  have hs := base_pt.times (sW_ok l t).1
  have hk := f2.times (show keyOK (vkW (pubW l) (sigW l t) u) = true from (red_ok _).1)
  unfold verW vbW
  rw [sig_drop, sig_take, f1, res_iff (sW_ok l t).1, (hs.add hk.neg).bytes, (sW_ok l t).2, fstW_eq]
  rw [decide_eq_true (Nat.mod_lt _ (show 0 < LN by decide)), Bool.true_and, Bool.true_and]
theorem ver_sig (l t : List Int) : verW (pubW l) (sigW l t) t = true := by
  rw [ver_made, show vkW (pubW l) (sigW l t) t = kW l t from by unfold vkW kW; rw [sig_take], sign_back (sW_ok l t).2]
  exact decide_eq_true rfl
theorem ver_not : verW (pubW s7) (sigW s7 [97, 98]) [98] = false := by
  have hk : numB (vkW (pubW s7) (sigW s7 [97, 98]) [98]) = k7' := by
    unfold vkW
    rw [sig_take, first7_ok, pub7_ok, List.flatten_cons, List.flatten_cons, List.flatten_cons, List.flatten_nil, List.append_nil, h4_eq]
    exact red_num (by decide +kernel)
  rw [ver_made, hk, n7_ok, r7_ok]
  refine decide_eq_false fun h => ?_
  have hB := base_rv.on
  have h1 := enc_inj (add_on (mul_on hB _) (neg_on (mul_on (mul_on hB _) _))) (mul_on hB _) h
  have hs := (sW_ok s7 [97, 98]).2
  rw [n7_ok, r7_ok, k7_ok] at hs
  exact d7_ne (sign_other hs (by decide) h1)
end Go.Proofs.Ytkoohnpknhoahaa.Sg
