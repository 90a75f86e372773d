/- This file proves that the program's long digest is the document's. Conditions: bytes; lengths that memory bears. -/
import Derived.Test.YtkoohnpknhoahaaTShM
import Derived.Test.YtkoohnpknhoahaaTMe
set_option linter.all false
namespace Go.Proofs.Ytkoohnpknhoahaa.Sh
open Go Go.Sy
def InW (x : Int) : Prop := 0 ≤ x ∧ x < 18446744073709551616
def InL (l : List Int) : Prop := ∀ x ∈ l, InW x
theorem InL.getD {l : List Int} (h : InL l) (i : Nat) : InW (l.getD i 0) := by
  rw [List.getD_eq_getElem?_getD]
  cases e : l[i]? with
  | none => exact ⟨by decide, by decide⟩
  | some x => exact h x (List.mem_of_getElem? e)
theorem W_in (n : Int) : InW (W n) := by
  unfold W InW
  rw [wrap_u64]
  exact ⟨Int.emod_nonneg _ (by decide), Int.emod_lt_of_pos _ (by decide)⟩
theorem W_id {x : Int} (h : InW x) : W x = x := by
  unfold W
  rw [wrap_u64]
  exact Int.emod_eq_of_lt h.1 h.2
theorem turn_eq {x : Int} (hx : InW x) (n m : Nat) (h : n + m = 64) : orI .u64 (shlI .u64 x m) (shrI .u64 x n) = W (shrI .u64 x n + shlI .u64 x m) := by
  rw [Fe.shr_eq _ _ _ (show n ≤ 64 by omega), Fe.shl64 _ _ (by omega)]
  have hp : (2 : Int) ^ n * 2 ^ m = 18446744073709551616 := by rw [← Int.pow_add, h]; decide
  have hn : (0 : Int) < 2 ^ n := Int.pow_pos (by decide)
  have hm : (0 : Int) < 2 ^ m := Int.pow_pos (by decide)
  have e1 : x * 2 ^ m % 18446744073709551616 = (x % 2 ^ n) * 2 ^ m := by rw [← hp, Int.mul_comm x, Int.mul_comm (2 ^ n) (2 ^ m), Int.mul_emod_mul_of_pos _ _ hm, Int.mul_comm]
  have h1 := Int.emod_lt_of_pos x hn
  have h0 := Int.emod_nonneg x (Int.ne_of_gt hn)
  have h2 : x / 2 ^ n < 2 ^ m := Int.ediv_lt_of_lt_mul hn (by rw [Int.mul_comm, hp]; exact hx.2)
  have h3 : 0 ≤ x / 2 ^ n := Int.ediv_nonneg hx.1 (Int.le_of_lt hn)
  have h4 : (x % 2 ^ n + 1) * 2 ^ m ≤ 2 ^ n * 2 ^ m := Int.mul_le_mul_of_nonneg_right (by omega) (Int.le_of_lt hm)
  rw [hp, Int.add_mul] at h4
  have h5 : 0 ≤ (x % 2 ^ n) * 2 ^ m := Int.mul_nonneg h0 (Int.le_of_lt hm)
  rw [e1, Fe.or64 m _ _ h5 (Int.mul_emod_left _ _) (by omega) h3 h2 (by omega)]
  unfold W
  rw [wrap_u64, Int.emod_eq_of_lt (a := x / 2 ^ n + x % 2 ^ n * 2 ^ m) (by omega) (by omega)]
  omega
theorem rotP_eq {x : Int} (hx : InW x) (a : Int) (n m : Nat) (h : n + m = 64) (e1 : (andI .u64 (W (IntKind.i64.wrap (0 - a))) 63).toNat = m) (e2 : (W (64 - andI .u64 (W (IntKind.i64.wrap (0 - a))) 63)).toNat = n)
    (e3 : a.toNat = n) (e4 : (W (64 - a)).toNat = m) : rotP x a = rotQ x a := by
  unfold rotP rotQ
  rw [e1, e2, e3, e4]
  exact turn_eq hx n m h
theorem rotN_eq {x : Int} (hx : InW x) (a b : Int) (n m : Nat) (h : n + m = 64) (e1 : (andI .u64 (W a) 63).toNat = m) (e2 : (W (64 - andI .u64 (W a) 63)).toNat = n)
    (e3 : b.toNat = n) (e4 : (W (64 - b)).toNat = m) : rotN x a = rotQ x b := by
  unfold rotN rotQ
  rw [e1, e2, e3, e4]
  exact turn_eq hx n m h
theorem tn_one {x : Int} (hx : InW x) : tnP x 14 18 41 = tnQ x 14 18 41 := by
  unfold tnP tnQ
  rw [rotP_eq hx 14 14 50 rfl (by decide) (by decide) rfl (by decide), rotP_eq hx 18 18 46 rfl (by decide) (by decide) rfl (by decide), rotP_eq hx 41 41 23 rfl (by decide) (by decide) rfl (by decide)]
theorem tn_two {x : Int} (hx : InW x) : tnP x 28 34 39 = tnQ x 28 34 39 := by
  unfold tnP tnQ
  rw [rotP_eq hx 28 28 36 rfl (by decide) (by decide) rfl (by decide), rotP_eq hx 34 34 30 rfl (by decide) (by decide) rfl (by decide), rotP_eq hx 39 39 25 rfl (by decide) (by decide) rfl (by decide)]
theorem nx_eq {x y : Int} (hx : InW x) (hy : InW y) (a b : Int) : nxW y x a b = nxQ y x a b := by
  unfold nxW nxQ
  rw [rotN_eq hy (-19) 19 19 45 rfl (by decide) (by decide) rfl (by decide), rotN_eq hy (-61) 61 61 3 rfl (by decide) (by decide) rfl (by decide), rotN_eq hx (-1) 1 1 63 rfl (by decide) (by decide) rfl (by decide), rotN_eq hx (-8) 8 8 56 rfl (by decide) (by decide) rfl (by decide)]
theorem not_eq {e : Int} (h : InW e) : xorI .u64 IntKind.u64.max e = W (18446744073709551615 - e) := by
  obtain ⟨n, rfl⟩ := Int.eq_ofNat_of_zero_le h.1
  have hn : n < 2 ^ 64 := by have := h.2; omega
  unfold xorI bitsI
  rw [show IntKind.u64.max = ((2 ^ 64 - 1 : Nat) : Int) by decide]
  have e1 : BitVec.ofInt 64 ((2 ^ 64 - 1 : Nat) : Int) = BitVec.allOnes 64 := by decide
  show IntKind.u64.wrap ((BitVec.ofInt 64 ((2 ^ 64 - 1 : Nat) : Int) ^^^ BitVec.ofInt 64 (n : Int)).toNat : Int) = _
  rw [e1, BitVec.allOnes_xor, BitVec.toNat_not, BitVec.ofInt_natCast, BitVec.toNat_ofNat, Nat.mod_eq_of_lt hn]
  unfold W
  congr 1
  omega
theorem ch_eq {e : Int} (h : InW e) (f g : Int) : chW e f g = chQ e f g := by unfold chW chQ; rw [not_eq h]
theorem rnd_eq {s : List Int} (hs : InL s) (k w : Int) : rndW s k w = rndQ s k w := by
  unfold rndW rndQ t1W t2W t1Q t2Q
  rw [tn_one (hs.getD 4), tn_two (hs.getD 0), ch_eq (hs.getD 4)]
theorem rnd_in {s : List Int} (hs : InL s) (k w : Int) : InL (rndQ s k w) := by
  intro x hx
  simp only [rndQ, List.mem_cons, List.not_mem_nil, or_false] at hx
  rcases hx with rfl | rfl | rfl | rfl | rfl | rfl | rfl | rfl <;> first | exact W_in _ | exact hs.getD _
theorem rnds_eq {h : List Int} (hh : InL (lst 8 h)) (k w : List Int) : ∀ j, lst 8 (rnQ h k w j) = rnds (lst 8 h) k w j ∧ InL (rnds (lst 8 h) k w j)
  | 0 => ⟨rfl, hh⟩
  | j + 1 => by
    obtain ⟨h1, h2⟩ := rnds_eq hh k w j
    have e : lst 8 (rnQ h k w (j + 1)) = rndQ (lst 8 (rnQ h k w j)) (k.getD j 0) (w.getD j 0) := rfl
    rw [e, h1, rnds, rnd_eq h2]
    exact ⟨rfl, rnd_in h2 _ _⟩
theorem nxJ_eq {w : List Int} {j : Nat} (hj : j < 64) : nxJ w (16 + j) = nxQ (w.getD (14 + j) 0) (w.getD (1 + j) 0) (w.getD (9 + j) 0) (w.getD j 0) := by
  unfold nxJ
  rw [wrap_i64 _ (by omega) (by omega), wrap_i64 _ (by omega) (by omega), wrap_i64 _ (by omega) (by omega), wrap_i64 _ (by omega) (by omega)]
  rw [show 0 + ((16 : Int) + j - 2).toNat = 14 + j by omega, show 0 + ((16 : Int) + j - 15).toNat = 1 + j by omega, show 0 + ((16 : Int) + j - 7).toNat = 9 + j by omega, show 0 + ((16 : Int) + j - 16).toNat = j by omega]
theorem getD_left {a b : List Int} {i : Nat} (h : i < a.length) : (a ++ b).getD i 0 = a.getD i 0 := by
  rw [List.getD_eq_getElem?_getD, List.getD_eq_getElem?_getD, List.getElem?_append_left h]
theorem sched_eq {w : List Int} (hw : w.length = 16) (hi : InL w) : ∀ j, j ≤ 64 → sched (w ++ List.replicate 64 0) j = wG w j ++ List.replicate (64 - j) 0 ∧ InL (wG w j)
  | 0, _ => ⟨rfl, hi⟩
  | j + 1, hj => by
    obtain ⟨h1, h2⟩ := sched_eq hw hi j (by omega)
    have hl : (wG w j).length = 16 + j := by rw [wG_len, hw]
    refine ⟨?_, ?_⟩
    · rw [sched, h1, getD_left (by omega), getD_left (by omega), getD_left (by omega), getD_left (by omega), nx_eq (h2.getD _) (h2.getD _), wG, nxJ_eq (by omega)]
      rw [List.set_append_right _ _ (by omega), hl, show 16 + j - (16 + j) = 0 by omega, show 64 - j = (64 - (j + 1)) + 1 by omega, List.replicate_succ, List.set_cons_zero, List.append_assoc]
      rfl
    · intro x hx
      rw [wG, List.mem_append, List.mem_singleton] at hx
      rcases hx with hx | rfl
      · exact h2 x hx
      · exact W_in _
def wdN (q : List Int) (i : Nat) : Nat → Int
  | 0 => 0
  | j + 1 => orI .u64 (shlI .u64 (wdN q i j) 8) (W (q.getD (8 * i + j) 0))
theorem wdN_eq (q : List Int) (i : Nat) : ∀ n, (List.range n).foldl (fun a j => orI .u64 (shlI .u64 a 8) (W (q.getD (8 * i + j) 0))) 0 = wdN q i n
  | 0 => rfl
  | n + 1 => by rw [List.range_succ, List.foldl_append, wdN_eq q i n]; rfl
theorem wd_eq (q : List Int) (i : Nat) : wd q i = wdN q i 8 := wdN_eq q i 8
def By (l : List Int) : Prop := ∀ x ∈ l, 0 ≤ x ∧ x < 256
theorem By.getD {l : List Int} (h : By l) (i : Nat) : 0 ≤ l.getD i 0 ∧ l.getD i 0 < 256 := by
  rw [List.getD_eq_getElem?_getD]
  cases e : l[i]? with
  | none => exact ⟨by decide, by decide⟩
  | some x => exact h x (List.mem_of_getElem? e)
theorem piece_getD (p : List Int) (a : Nat) {i : Nat} (hi : i < 128) : ((p.drop a).take 128).getD i 0 = p.getD (a + i) 0 := by
  rw [List.getD_eq_getElem?_getD, List.getD_eq_getElem?_getD, List.getElem?_take_of_lt hi, List.getElem?_drop]
theorem pow256 {j : Nat} (hj : j ≤ 7) : (256 : Int) ^ j ≤ 72057594037927936 := by
  have : j = 0 ∨ j = 1 ∨ j = 2 ∨ j = 3 ∨ j = 4 ∨ j = 5 ∨ j = 6 ∨ j = 7 := by omega
  rcases this with rfl | rfl | rfl | rfl | rfl | rfl | rfl | rfl <;> decide
theorem wq_eq {p : List Int} (hp : By p) {a i : Nat} (ha : a < 10000000000000) (hi : i < 16) : ∀ j, j ≤ 8 → wq p a i j = wdN ((p.drop a).take 128) i j ∧ 0 ≤ wq p a i j ∧ wq p a i j < 256 ^ j
  | 0, _ => ⟨rfl, by show (0 : Int) ≤ 0; decide, by show (0 : Int) < 256 ^ 0; decide⟩
  | j + 1, hj => by
    obtain ⟨h1, h2, h3⟩ := wq_eq hp ha hi j (by omega)
    have hb := hp.getD (a + (8 * i + j))
    have h4 := pow256 (show j ≤ 7 by omega)
    rw [wq, wdN, piece_getD p a (by omega), ixQ_eq ha hi (by omega), Int.toNat_natCast, ← h1, Nat.add_assoc]
    generalize p.getD (a + (8 * i + j)) 0 = b at hb
    generalize wq p a i j = v at h2 h3
    have e1 : W b = b := W_id ⟨by omega, by omega⟩
    have e2 : W (v * 256) = v * 256 := W_id ⟨by omega, by omega⟩
    have e3 : shlI .u64 v 8 = v * 256 := by
      rw [Fe.shl64 _ _ (by decide)]
      exact Int.emod_eq_of_lt (by omega) (by omega)
    have e4 : W (v * 256 + b) = v * 256 + b := W_id ⟨by omega, by omega⟩
    rw [e1, e2, e3, e4, Fe.or64 8 _ _ (by omega) (by omega) (by omega) (by omega) (by omega) (by decide), Int.pow_succ]
    exact ⟨rfl, by omega, by omega⟩
theorem wA_eq {p : List Int} (hp : By p) {a : Nat} (ha : a < 10000000000000) : ∀ n, n ≤ 16 → wA p a n = (List.range n).map (wd ((p.drop a).take 128))
  | 0, _ => rfl
  | n + 1, hn => by rw [wA, wA_eq hp ha n (by omega), List.range_succ, List.map_append, (wq_eq hp ha (show n < 16 by omega) 8 (by omega)).1, ← wd_eq]; rfl
theorem wA_in {p : List Int} (hp : By p) {a : Nat} (ha : a < 10000000000000) : ∀ n, n ≤ 16 → InL (wA p a n)
  | 0, _ => fun x hx => absurd hx (by simp [wA])
  | n + 1, hn => by
    intro x hx
    rw [wA, List.mem_append, List.mem_singleton] at hx
    rcases hx with hx | rfl
    · exact wA_in hp ha n (by omega) x hx
    · have h := (wq_eq hp ha (show n < 16 by omega) 8 (by omega)).2
      exact ⟨h.1, Int.lt_of_lt_of_le h.2 (by decide)⟩
theorem piece_eq {p : List Int} (hp : By p) (kk : List Int) {h : List Int} (hh : InL (lst 8 h)) {a : Nat} (ha : a < 10000000000000) : wideW (lst 8 h) ((p.drop a).take 128) kk = pieceQ p kk h a := by
  have e := wA_eq hp ha 16 (by omega)
  have e2 := (sched_eq (wA_len p a 16) (wA_in hp ha 16 (by omega)) 64 (by omega)).1
  rw [e] at e2
  unfold wideW pieceQ
  rw [Lock_eq, (rnds_eq hh kk _ 80).1]
  unfold w16
  rw [e2, e, show 64 - 64 = 0 from rfl, List.replicate_zero, List.append_nil]
theorem sum_in (s t : List Int) : InL (sumW s t) := by
  intro x hx
  simp only [sumW, List.mem_map] at hx
  obtain ⟨i, _, rfl⟩ := hx
  exact W_in _
theorem lst_in {h : List Int} (hh : InL h) (n : Nat) : InL (lst n h) := by
  intro x hx
  simp only [lst, List.mem_map] at hx
  obtain ⟨i, _, rfl⟩ := hx
  exact hh.getD i
theorem stN_eq {p : List Int} (hp : By p) (kk : List Int) {h : List Int} (hh : InL h) : ∀ j, j < 10000000000 → stN p kk h j = hN p kk h j ∧ InL (hN p kk h j)
  | 0, _ => ⟨rfl, hh⟩
  | j + 1, hj => by
    obtain ⟨h1, h2⟩ := stN_eq hp kk hh j (by omega)
    rw [stN, hN, h1, piece_eq hp kk (lst_in h2 8) (show 128 * j < 10000000000000 by omega)]
    exact ⟨rfl, sum_in _ _⟩
theorem dQ_eq {n : Nat} (hn : n < 9223372036854775808) : ∀ i, dQ n i = ((n / 32 / 256 ^ i : Nat) : Int)
  | 0 => by
    rw [dQ, Int.tdiv_eq_ediv_of_nonneg (by omega), wrap_i64 _ (by omega) (by omega), Nat.pow_zero, Nat.div_one]
    omega
  | i + 1 => by
    have hle : n / 32 / 256 ^ i ≤ n / 32 := Nat.div_le_self _ _
    have e : n / 32 / 256 ^ (i + 1) = n / 32 / 256 ^ i / 256 := by rw [Nat.pow_succ, ← Nat.div_div_eq_div_mul]
    rw [dQ, dQ_eq hn i, e]
    generalize n / 32 / 256 ^ i = q at *
    rw [Int.tdiv_eq_ediv_of_nonneg (by omega), wrap_i64 _ (by omega) (by omega)]
    omega
theorem wrap_u8 (n : Int) : IntKind.u8.wrap n = n % 256 := by simp [IntKind.wrap, IntKind.signed, IntKind.bits]
theorem low_eq {n : Nat} (hn : n < 1000000000000000000) (i : Nat) : lowQ n i = ((8 * n / 256 ^ i % 256 : Nat) : Int) := by
  cases i with
  | zero =>
    rw [lowQ, Int.tmod_eq_emod_of_nonneg (by omega), wrap_i64 _ (by omega) (by omega), wrap_u8, Nat.pow_zero, Nat.div_one]
    omega
  | succ i =>
    have : 8 * n / 256 ^ (i + 1) = n / 32 / 256 ^ i := by
      rw [Nat.pow_succ, Nat.mul_comm (256 ^ i), ← Nat.div_div_eq_div_mul]
      congr 1
      omega
    rw [lowQ, dQ_eq (by omega), this]
    generalize n / 32 / 256 ^ i = q
    rw [Int.tmod_eq_emod_of_nonneg (by omega), wrap_u8]
    omega
theorem ln_eq {n : Nat} (hn : n < 1000000000000000000) (i : Nat) (hi : i < 8) : lnB n i = ((8 * n / 256 ^ i % 256 : Nat) : Int) := by
  unfold lnB
  rw [W_id ⟨by omega, by omega⟩, Fe.shl64 _ _ (by decide), Fe.shr_eq _ _ _ (show 8 * i ≤ 64 by omega), wrap_u8]
  rw [Int.emod_eq_of_lt (a := (n : Int) * 2 ^ 3) (by omega) (by omega), show (n : Int) * 2 ^ 3 = ((8 * n : Nat) : Int) by omega, Int.pow_mul, show ((2 : Int) ^ 8) = ((256 : Nat) : Int) by decide]
  rw [← Int.natCast_pow, ← Int.natCast_ediv]
  generalize 8 * n / 256 ^ i = q
  omega
theorem len16_eq {n : Nat} (hn : n < 1000000000000000000) : len16 n = endQ n 16 := by
  have hz : ∀ i, 8 ≤ i → lowQ n i = 0 := fun i hi => by
    rw [low_eq hn]
    have : 8 * n / 256 ^ i = 0 := Nat.div_eq_of_lt (Nat.lt_of_lt_of_le (show 8 * n < 256 ^ 8 by omega) (Nat.pow_le_pow_right (by decide) hi))
    rw [this]; rfl
  have hl : ∀ i, i < 8 → lowQ n i = lnB n i := fun i hi => by rw [low_eq hn, ln_eq hn i hi]
  have h61 : IntKind.u8.wrap (shrI .u64 (W n) 61) = 0 := by
    rw [W_id ⟨by omega, by omega⟩, Fe.shr_eq _ _ _ (by decide), wrap_u8, Int.ediv_eq_zero_of_lt (by omega) (by omega)]; rfl
  show _ = [lowQ n 15, lowQ n 14, lowQ n 13, lowQ n 12, lowQ n 11, lowQ n 10, lowQ n 9, lowQ n 8, lowQ n 7, lowQ n 6, lowQ n 5, lowQ n 4, lowQ n 3, lowQ n 2, lowQ n 1, lowQ n 0]
  rw [hz 15 (by decide), hz 14 (by decide), hz 13 (by decide), hz 12 (by decide), hz 11 (by decide), hz 10 (by decide), hz 9 (by decide), hz 8 (by decide), hl 7 (by decide), hl 6 (by decide), hl 5 (by decide), hl 4 (by decide), hl 3 (by decide), hl 2 (by decide), hl 1 (by decide), hl 0 (by decide)]
  unfold len16
  rw [h61]
theorem pad_eq {xs : List Int} (h : xs.length < 1000000000000000000) : padT xs = padQ xs := by unfold padT padQ; rw [len16_eq h]
theorem padL_by {xs : List Int} (h : By xs) (pc q : Nat) : By (padL xs pc q) := by
  intro x hx
  simp only [padL, List.mem_append, List.mem_singleton, List.mem_replicate] at hx
  rcases hx with (hx | rfl) | ⟨_, rfl⟩
  · exact h x hx
  · decide
  · decide
theorem pad_by {xs : List Int} (hn : xs.length < 1000000000000000000) (h : By xs) : By (padQ xs) := by
  intro x hx
  rw [padQ, List.mem_append] at hx
  rcases hx with hx | hx
  · exact padL_by h _ _ x hx
  · simp only [endQ, List.mem_map] at hx
    obtain ⟨i, _, rfl⟩ := hx
    rw [low_eq hn]; omega
theorem bL_in : InL bL := by
  have h : (bL.all fun x => decide (0 ≤ x) && decide (x < 18446744073709551616)) = true := by kernel_rfl
  intro x hx
  have := List.all_eq_true.1 h x hx
  simpa [InW] using this
theorem longW_eq {xs : List Int} (h : By xs) (hn : xs.length < 274877900000) : longW xs = longQ xs := by
  have hK : padK xs.length 128 112 < 128 := Nat.mod_lt _ (by omega)
  have hl : (padQ xs).length = xs.length + 1 + padK xs.length 128 112 + 16 := by unfold padQ; rw [List.length_append, padL_len]; rfl
  unfold longW longQ
  rw [pad_eq (by omega), (stN_eq (pad_by (by omega) h) kL bL_in _ (by omega)).1, Lock_eq, Lock_eq]
  unfold outB
  refine List.map_congr_left fun i hi => ?_
  have hi' : i < 64 := List.mem_range.1 hi
  rw [show (lst 8 (hN (padQ xs) kL bL ((padQ xs).length / 128))).getD (i / 8) 0 = (hN (padQ xs) kL bL ((padQ xs).length / 128)).getD (i / 8) 0 by
    rw [List.getD_eq_getElem?_getD, lst_get _ (by omega)]; rfl]
theorem longQ_by (xs : List Int) : By (longQ xs) := by
  intro x hx
  simp only [longQ, Lock_eq, outB, List.mem_map] at hx
  obtain ⟨i, _, rfl⟩ := hx
  rw [wrap_u8]; omega
theorem longQ_len (xs : List Int) : (longQ xs).length = 64 := by rw [longQ, Lock_eq]; simp [outB]
end Go.Proofs.Ytkoohnpknhoahaa.Sh
