/- This file proves the contract of the reference's Reduce (burrowref07). Conditions: digits of a byte, slices of at most 2^40 integers. -/
import Derived.Test.YtailgcdcdhhpnaaPtC
import Derived.Test.YtailgcdcdhhpnaaPtM
namespace Go.Proofs.Ytailgcdcdhhpnaa
open Go Go.Lift

/-! ### Order -/
def ordB : List Int := [237, 211, 245, 92, 26, 99, 18, 88, 214, 156, 247, 162, 222, 249, 222, 20, 0, 0, 0, 0, 0, 0, 0, 0, 0, 0, 0, 0, 0, 0, 0, 16]
set_option maxRecDepth 100000 in
noncomputable def refOrderE : Entry Try.prog := .val 28 (fun vs => match vs with | [] => some (aggI .u8 ordB, true) | _ => none) fun vs v e h => by
  split at e
  · simp only [Option.some.injEq, Prod.mk.injEq, and_true] at e
    subst e
    have key : (callS Try.prog (mk (P := Try.prog) []) 60 Try.f28 [] []).map (fun x => (x.1, x.2.2)) = some (aggI .u8 ordB, true) := by kernel_rfl
    exact ctr_val Try.func28 (by decide) (mk_sound _ _) 60 key rfl (by simp [plainL]) rfl h
  · cases e

/-! ### Reduce -/
def rdH (l R : List Int) : List Blk := [.rs .i64 l, .c (zeros .u8 32) 24, .c (intsV .u8 ordB) 24, .s .i64 ordB 3, .s .i64 R 3]
/-- Ahead of a round of the outer loop. -/
def rdS (l : List Int) (cap : Nat) (c : Int) (R : List Int) : St :=
  ⟨slotsOf 83 [(0, sliceArg 0 l.length cap), (2, .pointer (some ⟨1, 0, none⟩)), (4, sliceArg 3 32 32), (5, sliceArg 4 34 34), (6, .int .i64 c)], rdH l R, true⟩
/-- Ahead of a round of the subtraction. -/
def rdK (l : List Int) (cap : Nat) (c : Int) (R : List Int) (b k : Int) : St :=
  ⟨slotsOf 83 [(0, sliceArg 0 l.length cap), (2, .pointer (some ⟨1, 0, none⟩)), (4, sliceArg 3 32 32), (5, sliceArg 4 34 34), (6, .int .i64 c), (8, .int .i64 b), (9, .int .i64 k)], rdH l R, true⟩

noncomputable def rdB : Code := inner (inner (nthC 5 (bodyOf Try.f31)))
noncomputable def rdW : Code := inner (inner (nthC 3 (inner (nthC 2 rdB))))
noncomputable def rdQ : Code := inner (inner (nthC 2 (inner (nthC 2 rdW))))
def rdSym (x y : Bool) : Tmp → Option Bool := fun i => if i = 46 then some true else if i = 56 then some x else if i = 64 then some y else none
def idxN (n : Nat) (l : List Int) (c : Int) (o : Bool) : Bool := andT (andT o (decide (0 ≤ c) && decide (c < (n : Int)))) (decide (0 + c.toNat * 1 < l.length))
section
variable (l R : List Int) (cap : Nat) (c b k : Int)
def rdX (b x : Int) : Int := IntKind.i64.wrap (x - b)
def rdL : List Nat := [0, 2, 4, 5, 6, 8, 9]
set_option maxRecDepth 100000 in
theorem rd_tt : (exec Try.prog (mk (P := Try.prog) [] (rdSym true true)) 60 rdQ (rdK l cap c R b k)).map (fun r => (r.1, r.2.keep rdL)) =
    some (.normal, ⟨(rdK l cap c [] 1 (IntKind.i64.wrap (k + 1))).t, rdH l (R.set (0 + k.toNat * 1) (IntKind.i64.wrap (IntKind.i64.wrap (IntKind.i64.wrap (R.getD (0 + k.toNat * 1) 0 - b) - ordB.getD (0 + k.toNat * 1) 0) + 256))),
      idxN 34 R k (andT (idxN 32 ordB k (andT (idxN 34 R k (andT true (decide (k < 34)))) (decide (k < 32)))) (decide (IntKind.i64.wrap (IntKind.i64.wrap (R.getD (0 + k.toNat * 1) 0 - b) - ordB.getD (0 + k.toNat * 1) 0) < 0)))⟩) := by kernel_rfl
set_option maxRecDepth 100000 in
theorem rd_tf : (exec Try.prog (mk (P := Try.prog) [] (rdSym true false)) 60 rdQ (rdK l cap c R b k)).map (fun r => (r.1, r.2.keep rdL)) =
    some (.normal, ⟨(rdK l cap c [] 0 (IntKind.i64.wrap (k + 1))).t, rdH l (R.set (0 + k.toNat * 1) (IntKind.i64.wrap (IntKind.i64.wrap (R.getD (0 + k.toNat * 1) 0 - b) - ordB.getD (0 + k.toNat * 1) 0))),
      idxN 34 R k (andT (idxN 32 ordB k (andT (idxN 34 R k (andT true (decide (k < 34)))) (decide (k < 32)))) (!decide (IntKind.i64.wrap (IntKind.i64.wrap (R.getD (0 + k.toNat * 1) 0 - b) - ordB.getD (0 + k.toNat * 1) 0) < 0)))⟩) := by kernel_rfl
set_option maxRecDepth 100000 in
theorem rd_ft : (exec Try.prog (mk (P := Try.prog) [] (rdSym false true)) 60 rdQ (rdK l cap c R b k)).map (fun r => (r.1, r.2.keep rdL)) =
    some (.normal, ⟨(rdK l cap c [] 1 (IntKind.i64.wrap (k + 1))).t, rdH l (R.set (0 + k.toNat * 1) (IntKind.i64.wrap (IntKind.i64.wrap (R.getD (0 + k.toNat * 1) 0 - b) + 256))),
      idxN 34 R k (andT (andT (idxN 34 R k (andT true (decide (k < 34)))) (!decide (k < 32))) (decide (IntKind.i64.wrap (R.getD (0 + k.toNat * 1) 0 - b) < 0)))⟩) := by kernel_rfl
set_option maxRecDepth 100000 in
theorem rd_ff : (exec Try.prog (mk (P := Try.prog) [] (rdSym false false)) 60 rdQ (rdK l cap c R b k)).map (fun r => (r.1, r.2.keep rdL)) =
    some (.normal, ⟨(rdK l cap c [] 0 (IntKind.i64.wrap (k + 1))).t, rdH l (R.set (0 + k.toNat * 1) (IntKind.i64.wrap (R.getD (0 + k.toNat * 1) 0 - b))),
      idxN 34 R k (andT (andT (idxN 34 R k (andT true (decide (k < 34)))) (!decide (k < 32))) (!decide (IntKind.i64.wrap (R.getD (0 + k.toNat * 1) 0 - b) < 0)))⟩) := by kernel_rfl
set_option maxRecDepth 100000 in
theorem rd_qend : (exec Try.prog (mk (P := Try.prog) [] fun i => if i = 46 then some false else none) 60 rdQ (rdK l cap c R b k)).map (fun r => (r.1, r.2.keep [0, 2, 4, 5, 6])) =
    some (.exit 6, ⟨(rdS l cap c []).t, rdH l R, andT true (!decide (k < 34))⟩) := by kernel_rfl
set_option maxRecDepth 100000 in
theorem rd_wyes : (execL Try.prog (mk (P := Try.prog) [atLeastE] fun i => if i = 44 then some true else none) 60 2 (atoms rdW) (rdS l cap c (lst 34 R))).map (St.keep [0, 2, 4, 5, 6]) =
    some ⟨(rdS l cap c []).t, rdH l (lst 34 R), andT true (geF (lst 34 R) ordB)⟩ := by kernel_rfl
set_option maxRecDepth 100000 in
theorem rd_wno : (exec Try.prog (mk (P := Try.prog) [atLeastE] fun i => if i = 44 then some false else none) 60 rdW (rdS l cap c (lst 34 R))).map (fun r => (r.1, r.2.keep [0, 2, 4, 5, 6])) =
    some (.exit 4, ⟨(rdS l cap c []).t, rdH l (lst 34 R), andT true (!geF (lst 34 R) ordB)⟩) := by kernel_rfl
set_option maxRecDepth 100000 in
theorem rd_sub0 : (execL Try.prog (mk (P := Try.prog) []) 60 2 (atoms (inner (nthC 2 rdW))) (rdS l cap c (lst 34 R))).map (St.keep rdL) =
    some (rdK l cap c (lst 34 R) 0 0) := by kernel_rfl
set_option maxRecDepth 100000 in
theorem rd_bhead : (execL Try.prog (mk (P := Try.prog) [] fun i => if i = 21 then some true else none) 60 2 (atoms rdB) (rdS l cap c (lst 34 R))).map (St.keep [0, 2, 4, 5, 6]) =
    some ⟨(rdS l cap c []).t, rdH l (lst 34 R), andT true (decide (c ≥ 0))⟩ := by kernel_rfl
set_option maxRecDepth 100000 in
theorem rd_bend : (exec Try.prog (mk (P := Try.prog) [] fun i => if i = 21 then some false else none) 60 rdB (rdS l cap c (lst 34 R))).map (fun r => (r.1, r.2.keep [0, 2, 4, 5, 6])) =
    some (.exit 0, ⟨(rdS l cap c []).t, rdH l (lst 34 R), andT true (!decide (c ≥ 0))⟩) := by kernel_rfl
set_option maxRecDepth 100000 in
theorem rd_bstep : (exec Try.prog (mk (P := Try.prog) []) 60 (nthC 3 rdB) (rdS l cap c (lst 34 R))).map (fun r => (r.1, r.2.keep [0, 2, 4, 5, 6])) =
    some (.normal, rdS l cap (IntKind.i64.wrap (c - 1)) (lst 34 R)) := by kernel_rfl
set_option maxRecDepth 100000 in
theorem rd_shift : (execL Try.prog (mk (P := Try.prog) []) 60 3 (atoms (inner (nthC 2 rdB))) (rdS l cap c (lst 34 R))).map (St.keep [0, 2, 4, 5, 6]) =
    some ⟨(rdS l cap c []).t, rdH l (l.getD (0 + c.toNat * 1) 0 :: (lst 34 R).take 33), idxN l.length l c true⟩ := by kernel_rfl
set_option maxRecDepth 100000 in
theorem rd_fin : ((execA Try.prog (mk (P := Try.prog) []) 60 ((atoms (bodyOf Try.f31)).drop 6) (rdS l cap c (lst 34 R))).bind fun r => match r.1 with
      | .ret | .normal => (resS Try.prog r.2.t r.2.h Try.f31.results.toList).map fun q => (oneOf q.1, r.2.h.take 1, andT r.2.ob q.2)
      | _ => none) = some (aggI .u8 ((lst 34 R).take 32 |>.map IntKind.u8.wrap), [.rs .i64 l], true) := by kernel_rfl
end

/-! ### Digits -/
def digN : Nat → Int → List Int
  | 0, _ => []
  | n + 1, v => v % 256 :: digN n (v / 256)
theorem digN_length : ∀ (n : Nat) (v : Int), (digN n v).length = n
  | 0, _ => rfl
  | n + 1, v => by rw [digN, List.length_cons, digN_length n]
theorem digN_u8 : ∀ (n : Nat) (v : Int), (digN n v).all u8 = true
  | 0, _ => rfl
  | n + 1, v => by
    rw [digN, List.all_cons, digN_u8 n, Bool.and_true, u8_iff]
    omega
theorem digN_take : ∀ (m n : Nat) (v : Int), m ≤ n → (digN n v).take m = digN m v
  | 0, _, _, _ => by simp [digN]
  | m + 1, 0, _, h => by omega
  | m + 1, n + 1, v, h => by rw [digN, digN, List.take_succ_cons, digN_take m n _ (by omega)]
theorem val_digN : ∀ (n : Nat) (v : Int), 0 ≤ v → v < 256 ^ n → val256 (digN n v) = v
  | 0, v, h0, h1 => by simp at h1; simp [digN, val256]; omega
  | n + 1, v, h0, h1 => by
    rw [Int.pow_succ] at h1
    rw [digN, val256, val_digN n _ (by omega) (by omega)]
    omega
theorem digN_val : ∀ (l : List Int), l.all u8 = true → l = digN l.length (val256 l)
  | [], _ => rfl
  | x :: l, h => by
    simp only [List.all_cons, Bool.and_eq_true, u8_iff] at h
    have e1 : (x + 256 * val256 l) % 256 = x := by omega
    have e2 : (x + 256 * val256 l) / 256 = val256 l := by omega
    rw [List.length_cons, val256, digN, e1, e2, ← digN_val l h.2]
theorem dig32_digN (v : Int) : dig32 v = digN 32 v := by
  have h : ∀ (n : Nat) (v : Int), (List.range n).map (fun i => v / 256 ^ i % 256) = digN n v := by
    intro n
    induction n with
    | zero => intro v; rfl
    | succ n ih =>
      intro v
      rw [List.range_succ_eq_map, List.map_cons, List.map_map, digN, ← ih]
      congr 1
      · simp
      · apply List.map_congr_left
        intro i _
        show v / 256 ^ (i + 1) % 256 = v / 256 / 256 ^ i % 256
        rw [Int.ediv_ediv_of_nonneg (by omega), Int.pow_succ, Int.mul_comm]
  exact h 32 v

/-- The value of the first i digits. -/
def vN (S : List Int) : Nat → Int
  | 0 => 0
  | i + 1 => vN S i + 256 ^ i * S.getD i 0
theorem val_append (l : List Int) (x : Int) : val256 (l ++ [x]) = val256 l + 256 ^ l.length * x := by
  induction l with
  | nil => simp [val256]
  | cons y l ih =>
    rw [List.cons_append, val256, ih, val256, List.length_cons, Int.pow_succ]
    have : 256 ^ l.length * 256 * x = 256 * (256 ^ l.length * x) := by rw [Int.mul_comm (256 ^ l.length) 256, Int.mul_assoc]
    omega
theorem val_take (S : List Int) : ∀ i, i ≤ S.length → val256 (S.take i) = vN S i
  | 0, _ => rfl
  | i + 1, h => by
    rw [List.take_add_one, List.getElem?_eq_getElem (by omega), Option.toList_some, val_append, val_take S i (by omega), vN, List.length_take, Nat.min_eq_left (by omega)]
    simp [List.getD, List.getElem?_eq_getElem (show i < S.length by omega)]
theorem vN_val (S : List Int) : vN S S.length = val256 S := by rw [← val_take S _ (Nat.le_refl _), List.take_length]
theorem getD_u8 {S : List Int} (h : S.all u8 = true) (i : Nat) : 0 ≤ S.getD i 0 ∧ S.getD i 0 < 256 := by
  by_cases hi : i < S.length
  · exact all_getD h hi
  · have : S.getD i 0 = 0 := by simp [List.getD, List.getElem?_eq_none (show S.length ≤ i by omega)]
    rw [this]; omega
theorem pow256_pos (i : Nat) : (0 : Int) < 256 ^ i := Int.pow_pos (by omega)
theorem vN_bound {S : List Int} (h : S.all u8 = true) : ∀ i, 0 ≤ vN S i ∧ vN S i < 256 ^ i
  | 0 => by simp [vN]
  | i + 1 => by
    have ih := vN_bound h i
    have hd := getD_u8 h i
    have hp := pow256_pos i
    rw [vN, Int.pow_succ]
    have h1 := Int.mul_nonneg (Int.le_of_lt hp) hd.1
    have h2 : 256 ^ i * S.getD i 0 ≤ 256 ^ i * 255 := Int.mul_le_mul_of_nonneg_left (by omega) (Int.le_of_lt hp)
    omega
theorem vN_congr {S T : List Int} : ∀ i, (∀ k, k < i → S.getD k 0 = T.getD k 0) → vN S i = vN T i
  | 0, _ => rfl
  | i + 1, h => by rw [vN, vN, vN_congr i (fun k hk => h k (by omega)), h i (by omega)]

theorem geR_vN {a b : List Int} (ha : a.all u8 = true) (hb : b.all u8 = true) : ∀ i, geR a b i = decide (vN b i ≤ vN a i)
  | 0 => by simp [geR, vN]
  | i + 1 => by
    have ih := geR_vN ha hb i
    have ra := vN_bound ha i
    have rb := vN_bound hb i
    have hp := pow256_pos i
    rw [geR, vN, vN]
    split
    · rename_i h
      rw [ih, h, decide_eq_decide]
      omega
    · rename_i h
      rw [decide_eq_decide]
      constructor
      · intro hlt
        have : 256 ^ i * (b.getD i 0 + 1) ≤ 256 ^ i * a.getD i 0 := Int.mul_le_mul_of_nonneg_left (by omega) (Int.le_of_lt hp)
        rw [Int.mul_add] at this
        omega
      · intro hle
        have hne : ¬ a.getD i 0 < b.getD i 0 := fun hlt => by
          have : 256 ^ i * (a.getD i 0 + 1) ≤ 256 ^ i * b.getD i 0 := Int.mul_le_mul_of_nonneg_left (by omega) (Int.le_of_lt hp)
          rw [Int.mul_add] at this
          omega
        omega

/-- j digits less the order's, what is borrowed. -/
def subR (R : List Int) : Nat → List Int × Int
  | 0 => (R, 0)
  | j + 1 => if R.getD j 0 - (subR R j).2 - ordB.getD j 0 < 0 then ((subR R j).1.set j (R.getD j 0 - (subR R j).2 - ordB.getD j 0 + 256), 1) else ((subR R j).1.set j (R.getD j 0 - (subR R j).2 - ordB.getD j 0), 0)
theorem subR_length (R : List Int) : ∀ j, (subR R j).1.length = R.length
  | 0 => rfl
  | j + 1 => by rw [subR]; split <;> rw [List.length_set, subR_length R j]
theorem subR_rest (R : List Int) : ∀ j i, j ≤ i → (subR R j).1.getD i 0 = R.getD i 0
  | 0, _, _ => rfl
  | j + 1, i, h => by
    have : ∀ x, ((subR R j).1.set j x).getD i 0 = R.getD i 0 := fun x => by
      rw [← subR_rest R j i (by omega)]
      simp only [List.getD]
      rw [List.getElem?_set_ne (by omega)]
    rw [subR]; split <;> exact this _
theorem subR_b (R : List Int) : ∀ j, (subR R j).2 = 0 ∨ (subR R j).2 = 1
  | 0 => .inl rfl
  | j + 1 => by rw [subR]; split <;> simp

theorem ordB_u8 : ordB.all u8 = true := by decide
theorem set_u8 {S : List Int} (h : S.all u8 = true) {x : Int} (hx : 0 ≤ x ∧ x < 256) (j : Nat) : (S.set j x).all u8 = true := by
  rw [List.all_eq_true] at h ⊢
  intro y hy
  rcases List.mem_or_eq_of_mem_set hy with h1 | rfl
  · exact h y h1
  · rw [u8_iff]; exact hx
theorem subR_u8 {R : List Int} (h : R.all u8 = true) : ∀ j, (subR R j).1.all u8 = true
  | 0 => h
  | j + 1 => by
    have ih := subR_u8 h j
    have r := getD_u8 h j
    have m := getD_u8 ordB_u8 j
    have b := subR_b R j
    rw [subR]
    split
    · exact set_u8 ih (by omega) j
    · exact set_u8 ih (by omega) j
theorem vN_set {S : List Int} {x : Int} (j : Nat) : vN (S.set j x) j = vN S j := vN_congr j fun k hk => by
  simp only [List.getD]; rw [List.getElem?_set_ne (by omega)]
theorem getD_set {S : List Int} {x : Int} {j : Nat} (h : j < S.length) : (S.set j x).getD j 0 = x := by
  simp [List.getD, h]
theorem subR_val (R : List Int) : ∀ j, j ≤ R.length → vN (subR R j).1 j - 256 ^ j * (subR R j).2 = vN R j - vN ordB j
  | 0, _ => by simp [vN, subR]
  | j + 1, h => by
    have ih := subR_val R j (by omega)
    have hl := subR_length R j
    rw [subR]
    split
    · show vN (List.set _ _ _) (j + 1) - 256 ^ (j + 1) * 1 = _
      rw [vN, vN_set, getD_set (by omega), vN, vN, Int.pow_succ]
      simp only [Int.mul_add, Int.mul_sub]
      omega
    · show vN (List.set _ _ _) (j + 1) - 256 ^ (j + 1) * 0 = _
      rw [vN, vN_set, getD_set (by omega), vN, vN]
      simp only [Int.mul_sub]
      omega
theorem ordB_val : vN ordB 34 = ordL := by decide
theorem p34 : (256 : Int) ^ 34 = 7588550360256754183279148073529370729071901715047420004889892225542594864082845696 := by decide
theorem p33 : (256 : Int) ^ 33 = 29642774844752946028434172162224104410437116074403984394101141506025761187823616 := by decide

theorem sub_done {v : Int} (h0 : ordL ≤ v) (h1 : v < 256 ^ 34) : (subR (digN 34 v) 34).1 = digN 34 (v - ordL) := by
  have hL := ordL_pos
  have hu := subR_u8 (digN_u8 34 v) 34
  have hl := subR_length (digN 34 v) 34
  rw [digN_length] at hl
  have h := subR_val (digN 34 v) 34 (by rw [digN_length]; omega)
  have hb := subR_b (digN 34 v) 34
  have r := vN_bound hu 34
  have e1 : vN (digN 34 v) 34 = v := by
    have := vN_val (digN 34 v)
    rw [digN_length] at this
    rw [this, val_digN 34 v (by omega) h1]
  have e2 := vN_val (subR (digN 34 v) 34).1
  rw [hl] at e2
  rw [e1, ordB_val, e2] at h
  rw [e2] at r
  have := digN_val _ hu
  rw [hl] at this
  rw [this]
  congr 1
  rcases hb with hb | hb <;> rw [hb] at h <;> rw [p34] at * <;> omega

theorem shift_done {v x : Int} (hx : 0 ≤ x) (hx1 : x < 256) : x :: (digN 34 v).take 33 = digN 34 (256 * v + x) := by
  rw [digN_take 33 34 v (by omega), show digN 34 (256 * v + x) = (256 * v + x) % 256 :: digN 33 ((256 * v + x) / 256) from rfl]
  congr 1
  · omega
  · congr 1; omega
theorem geF_ord {v : Int} (h0 : 0 ≤ v) (h1 : v < 256 ^ 34) : geF (digN 34 v) ordB = decide (ordL ≤ v) := by
  have e1 : vN (digN 34 v) 34 = v := by
    have := vN_val (digN 34 v)
    rw [digN_length] at this
    rw [this, val_digN 34 v (by omega) h1]
  rw [geF, Lock_eq, geR_vN (digN_u8 34 v) ordB_u8, digN_length, ordB_val, e1]
end Go.Proofs.Ytailgcdcdhhpnaa
