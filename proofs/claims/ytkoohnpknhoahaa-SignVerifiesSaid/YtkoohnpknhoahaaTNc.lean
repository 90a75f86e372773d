/- This file proves the contract of the reference's MulAdd (burrowref07), its walk: columns of products, then carries. Conditions: bytes within their kind. -/
import Derived.Test.YtkoohnpknhoahaaTNb
set_option linter.all false
namespace Go.Proofs.Ytkoohnpknhoahaa
open Go Go.Lift
def maH (a b c L : List Int) : List Blk := [.s .u8 a 23, .s .u8 b 23, .c (intsV .u8 (lst 32 c)) 23, .c (zeros .u8 32) 23, .s .i64 L 3]
def maT : List (Nat × Value) := [(3, .pointer (some ⟨0, 0, none⟩)), (4, .pointer (some ⟨1, 0, none⟩)), (6, .pointer (some ⟨3, 0, none⟩)), (7, sliceArg 4 66 66)]
def maK : List Nat := [3, 4, 6, 7]
def maS (a b c : List Int) (i : Int) (L : List Int) : St := ⟨slotsOf 82 (maT ++ [(9, .int .i64 i)]), maH a b c L, true⟩
def maJ (a b c : List Int) (i j : Int) (L : List Int) : St := ⟨slotsOf 82 (maT ++ [(9, .int .i64 i), (10, .int .i64 j)]), maH a b c L, true⟩
def maC (a b c : List Int) (i : Int) (L : List Int) : St := ⟨slotsOf 82 (maT ++ [(11, .int .i64 i)]), maH a b c L, true⟩
noncomputable def maA : Code := bodyOf Try.f67
noncomputable def maR : Code := inner (inner (nthC 5 maA))
noncomputable def maQ : Code := inner (inner (nthC 1 (inner (nthC 2 maR))))
noncomputable def maL : Code := inner (inner (nthC 7 maA))
section
variable (a b c L : List Int) (i j : Int)
set_option maxRecDepth 100000 in
theorem ma_q : (exec Try.prog (mk (P := Try.prog) [] fun i => if i = 29 then some true else none) 60 maQ (maJ a b c i j L)).map (fun r => (r.1, r.2.keep (maK ++ [9, 10]))) =
    some (.normal, ⟨(maJ a b c i (IntKind.i64.wrap (j + 1)) []).t, maH a b c (L.set (0 + (IntKind.i64.wrap (i + j)).toNat * 1) (IntKind.i64.wrap (L.getD (0 + (IntKind.i64.wrap (i + j)).toNat * 1) 0 + IntKind.i64.wrap (IntKind.i64.wrap (a.getD (0 + i.toNat * 1) 0) * IntKind.i64.wrap (b.getD (0 + j.toNat * 1) 0))))),
      idxN 66 L (IntKind.i64.wrap (i + j)) (idxN 32 b j (idxN 32 a i (idxN 66 L (IntKind.i64.wrap (i + j)) (andT true (decide (j < 32))))))⟩) := by kernel_rfl
set_option maxRecDepth 100000 in
theorem ma_qend : (exec Try.prog (mk (P := Try.prog) [] fun i => if i = 29 then some false else none) 60 maQ (maJ a b c i j L)).map (fun r => (r.1, r.2.keep (maK ++ [9]))) =
    some (.exit 4, ⟨(maS a b c i []).t, maH a b c L, andT true (!decide (j < 32))⟩) := by kernel_rfl
set_option maxRecDepth 100000 in
theorem ma_rhead : (execL Try.prog (mk (P := Try.prog) [] fun i => if i = 25 then some true else none) 60 2 (atoms maR) (maS a b c i L)).map (St.keep (maK ++ [9])) =
    some ⟨(maS a b c i []).t, maH a b c L, andT true (decide (i < 32))⟩ := by kernel_rfl
set_option maxRecDepth 100000 in
theorem ma_rend : (exec Try.prog (mk (P := Try.prog) [] fun i => if i = 25 then some false else none) 60 maR (maS a b c i L)).map (fun r => (r.1, r.2.keep maK)) =
    some (.exit 2, ⟨slotsOf 82 maT, maH a b c L, andT true (!decide (i < 32))⟩) := by kernel_rfl
set_option maxRecDepth 100000 in
theorem ma_j0 : (execL Try.prog (mk (P := Try.prog) []) 60 1 (atoms (inner (nthC 2 maR))) (maS a b c i L)).map (St.keep (maK ++ [9, 10])) =
    some (maJ a b c i 0 L) := by kernel_rfl
set_option maxRecDepth 100000 in
theorem ma_rstep : (exec Try.prog (mk (P := Try.prog) []) 60 (nthC 3 maR) (maS a b c i L)).map (fun r => (r.1, r.2.keep (maK ++ [9]))) =
    some (.normal, maS a b c (IntKind.i64.wrap (i + 1)) L) := by kernel_rfl
set_option maxRecDepth 100000 in
theorem ma_c0 : (exec Try.prog (mk (P := Try.prog) []) 60 (nthC 6 maA) ⟨slotsOf 82 maT, maH a b c L, true⟩).map (fun r => (r.1, r.2.keep (maK ++ [11]))) =
    some (.normal, maC a b c 0 L) := by kernel_rfl
def carL (L : List Int) (i : Int) : List Int := L.set (0 + (IntKind.i64.wrap (i + 1)).toNat * 1) (IntKind.i64.wrap (L.getD (0 + (IntKind.i64.wrap (i + 1)).toNat * 1) 0 + IntKind.i64.wrap ((L.getD (0 + i.toNat * 1) 0).tdiv 256)))
set_option maxRecDepth 100000 in
theorem ma_c : (exec Try.prog (mk (P := Try.prog) [] fun i => if i = 54 then some true else none) 60 maL (maC a b c i L)).map (fun r => (r.1, r.2.keep (maK ++ [11]))) =
    some (.normal, ⟨(maC a b c (IntKind.i64.wrap (i + 1)) []).t, maH a b c ((carL L i).set (0 + i.toNat * 1) (((carL L i).getD (0 + i.toNat * 1) 0).tmod 256)),
      idxN 66 (carL L i) i (idxN 66 (carL L i) i (idxN 66 L (IntKind.i64.wrap (i + 1)) (idxN 66 L i (idxN 66 L (IntKind.i64.wrap (i + 1)) (andT true (decide (i < 65)))))))⟩) := by kernel_rfl
set_option maxRecDepth 100000 in
theorem ma_cend : (exec Try.prog (mk (P := Try.prog) [] fun i => if i = 54 then some false else none) 60 maL (maC a b c i L)).map (fun r => (r.1, r.2.keep maK)) =
    some (.exit 6, ⟨slotsOf 82 maT, maH a b c L, andT true (!decide (i < 65))⟩) := by kernel_rfl
set_option maxRecDepth 100000 in
theorem ma_head : (execL Try.prog (mk (P := Try.prog) []) 60 5 (atoms maA) ⟨slots0 82 [aggI .u8 (lst 32 a), aggI .u8 (lst 32 b), aggI .u8 (lst 32 c)], [], true⟩).map (St.keep (maK ++ [9])) =
    some ⟨(maS a b c 0 []).t, [.c (intsV .u8 (lst 32 a)) 23, .c (intsV .u8 (lst 32 b)) 23, .c (intsV .u8 (lst 32 c)) 23, .c (zeros .u8 32) 23, .s .i64 ((lst 32 c).map IntKind.i64.wrap ++ List.replicate 34 0) 3], true⟩ := by kernel_rfl
set_option maxRecDepth 100000 in
theorem ma_fin : ((execA Try.prog (mk [refReduceE]) 60 ((atoms maA).drop 8) ⟨slotsOf 82 maT, maH a b c L, true⟩).bind fun r => match r.1 with
      | .ret | .normal => (resS Try.prog r.2.t r.2.h Try.f67.results.toList).map fun q => (oneOf q.1, [] , andT r.2.ob q.2)
      | _ => none) = some (aggI .u8 (lst 32 (redF L)), ([] : List Blk), andT true (66 == L.length && L.all u8 && true)) := by kernel_rfl
end
end Go.Proofs.Ytkoohnpknhoahaa
namespace Go.Proofs.Ytkoohnpknhoahaa
open Go Go.Lift
def InB (L : List Int) (B : Int) : Prop := ∀ k, 0 ≤ L.getD k 0 ∧ L.getD k 0 ≤ B
theorem getD_set_ne {S : List Int} {x : Int} {j k : Nat} (h : j ≠ k) : (S.set j x).getD k 0 = S.getD k 0 := by
  simp only [List.getD]; rw [List.getElem?_set_ne h]
theorem vN_set_at {S : List Int} {x : Int} {k : Nat} (hk : k < S.length) : ∀ n, k < n → vN (S.set k x) n = vN S n + 256 ^ k * (x - S.getD k 0)
  | 0, h => by omega
  | n + 1, h => by
    rw [vN, vN]
    by_cases hkn : k = n
    · subst hkn
      rw [vN_set, getD_set hk, Int.mul_sub]; omega
    · rw [vN_set_at hk n (by omega), getD_set_ne hkn]; omega
def rowR (x : Int) (b L : List Int) (i : Nat) : Nat → List Int
  | 0 => L
  | j + 1 => (rowR x b L i j).set (i + j) ((rowR x b L i j).getD (i + j) 0 + x * b.getD j 0)
def mulR (a b L : List Int) : Nat → List Int
  | 0 => L
  | i + 1 => rowR (a.getD i 0) b (mulR a b L i) i 32
theorem rowR_length (x : Int) (b L : List Int) (i : Nat) : ∀ j, (rowR x b L i j).length = L.length
  | 0 => rfl
  | j + 1 => by rw [rowR, List.length_set, rowR_length x b L i j]
theorem mulR_length (a b L : List Int) : ∀ i, (mulR a b L i).length = L.length
  | 0 => rfl
  | i + 1 => by rw [mulR, rowR_length, mulR_length a b L i]
theorem prod_bound {x y : Int} (hx : 0 ≤ x ∧ x < 256) (hy : 0 ≤ y ∧ y < 256) : 0 ≤ x * y ∧ x * y ≤ 65025 := by
  refine ⟨Int.mul_nonneg hx.1 hy.1, ?_⟩
  have : x * y ≤ 255 * 255 := Int.mul_le_mul (by omega) (by omega) hy.1 (by omega)
  omega
theorem InB.set {L : List Int} {B B' x : Int} {k : Nat} (h : InB L B) (hB : B ≤ B') (hx : 0 ≤ x ∧ x ≤ B') : InB (L.set k x) B' := fun i => by
  by_cases hi : k = i
  · subst hi
    by_cases hl : k < L.length
    · rw [getD_set hl]; exact hx
    · rw [List.set_eq_of_length_le (by omega)]; have := h k; omega
  · rw [getD_set_ne hi]; have := h i; omega
theorem rowR_in {x : Int} {b L : List Int} {i : Nat} {B : Int} (hx : 0 ≤ x ∧ x < 256) (hb : b.all u8 = true) (h : InB L B) : ∀ j : Nat, InB (rowR x b L i j) (B + 65025 * j)
  | 0 => by simpa [rowR] using h
  | j + 1 => by
    have ih := rowR_in (i := i) hx hb h j
    have p := prod_bound hx (getD_u8 hb j)
    have q := ih (i + j)
    rw [rowR]
    exact ih.set (by omega) (by omega)
theorem mulR_in {a b L : List Int} {B : Int} (ha : a.all u8 = true) (hb : b.all u8 = true) (h : InB L B) : ∀ i : Nat, InB (mulR a b L i) (B + 2080800 * i)
  | 0 => by simpa [mulR] using h
  | i + 1 => by
    have ih := rowR_in (i := i) (getD_u8 ha i) hb (mulR_in ha hb h i) 32
    rw [mulR]
    have e : B + 2080800 * (i : Int) + 65025 * ((32 : Nat) : Int) = B + 2080800 * ((i + 1 : Nat) : Int) := by omega
    rwa [e] at ih
theorem rowR_val (x : Int) (b L : List Int) (i : Nat) (hL : L.length = 66) (hi : i < 32) : ∀ j : Nat, j ≤ 32 → vN (rowR x b L i j) 66 = vN L 66 + 256 ^ i * (x * vN b j)
  | 0, _ => by simp [rowR, vN]
  | j + 1, h => by
    have ih := rowR_val x b L i hL hi j (by omega)
    rw [rowR, vN_set_at (by rw [rowR_length, hL]; omega) 66 (by omega), ih, show vN b (j + 1) = vN b j + 256 ^ j * b.getD j 0 from rfl, Int.pow_add]
    have e : (rowR x b L i j).getD (i + j) 0 + x * b.getD j 0 - (rowR x b L i j).getD (i + j) 0 = x * b.getD j 0 := by omega
    rw [e, Int.mul_add x, Int.mul_add (256 ^ i)]
    have e2 : 256 ^ i * 256 ^ j * (x * b.getD j 0) = 256 ^ i * (x * (256 ^ j * b.getD j 0)) := by
      rw [Int.mul_assoc, Int.mul_left_comm (256 ^ j) x]
    omega
theorem mulR_val (a b L : List Int) (hL : L.length = 66) : ∀ i : Nat, i ≤ 32 → vN (mulR a b L i) 66 = vN L 66 + vN a i * vN b 32
  | 0, _ => by simp [mulR, vN]
  | i + 1, h => by
    rw [mulR, rowR_val _ _ _ _ (by rw [mulR_length, hL]) (by omega) 32 (by omega), mulR_val a b L hL i (by omega), show vN a (i + 1) = vN a i + 256 ^ i * a.getD i 0 from rfl, Int.add_mul]
    have : 256 ^ i * (a.getD i 0 * vN b 32) = 256 ^ i * a.getD i 0 * vN b 32 := by rw [Int.mul_assoc]
    omega
def carR (L : List Int) : Nat → List Int
  | 0 => L
  | k + 1 => ((carR L k).set (k + 1) ((carR L k).getD (k + 1) 0 + (carR L k).getD k 0 / 256)).set k ((carR L k).getD k 0 % 256)
theorem carR_length (L : List Int) : ∀ k, (carR L k).length = L.length
  | 0 => rfl
  | k + 1 => by rw [carR, List.length_set, List.length_set, carR_length L k]
theorem carR_val (L : List Int) (hL : L.length = 66) : ∀ k : Nat, k ≤ 65 → vN (carR L k) 66 = vN L 66
  | 0, _ => rfl
  | k + 1, h => by
    have hl := carR_length L k
    rw [carR, vN_set_at (by rw [List.length_set]; omega) 66 (by omega), vN_set_at (by omega) 66 (by omega), getD_set_ne (by omega), carR_val L hL k (by omega), Int.pow_succ]
    generalize (carR L k).getD k 0 = d
    generalize (carR L k).getD (k + 1) 0 = d'
    have e1 : d % 256 - d = -256 * (d / 256) := by omega
    have e2 : d' + d / 256 - d' = d / 256 := by omega
    rw [e1, e2]
    have e3 : 256 ^ k * (-256 * (d / 256)) = -(256 ^ k * 256 * (d / 256)) := by rw [Int.neg_mul, Int.mul_neg, Int.mul_assoc]
    omega
def CarOK (M : List Int) (k : Nat) (B : Int) : Prop := (∀ i, i < k → 0 ≤ M.getD i 0 ∧ M.getD i 0 < 256) ∧ (0 ≤ M.getD k 0 ∧ M.getD k 0 ≤ 2 * B) ∧ (∀ i, k < i → 0 ≤ M.getD i 0 ∧ M.getD i 0 ≤ B)
theorem carR_ok {L : List Int} (hL : L.length = 66) {B : Int} (hB : 0 ≤ B) (h : InB L B) : ∀ k : Nat, k ≤ 65 → CarOK (carR L k) k B
  | 0, _ => ⟨fun i hi => by omega, by have := h 0; rw [carR]; omega, fun i _ => h i⟩
  | k + 1, hk => by
    obtain ⟨h1, h2, h3⟩ := carR_ok hL hB h k (by omega)
    have hl := carR_length L k
    have h4 := h3 (k + 1) (by omega)
    refine ⟨fun i hi => ?_, ?_, fun i hi => ?_⟩
    · rw [carR]
      by_cases hik : k = i
      · subst hik
        rw [getD_set (by rw [List.length_set]; omega)]
        omega
      · rw [getD_set_ne hik, getD_set_ne (by omega)]
        exact h1 i (by omega)
    · rw [carR, getD_set_ne (by omega), getD_set (by omega)]
      omega
    · rw [carR, getD_set_ne (by omega), getD_set_ne (by omega)]
      exact h3 i (by omega)
theorem val_zeros (l : List Int) : ∀ n, val256 (l ++ List.replicate n 0) = val256 l := by
  intro n
  induction l with
  | nil =>
    induction n with
    | zero => rfl
    | succ n ih => rw [List.nil_append] at ih ⊢; rw [List.replicate_succ]; show 0 + 256 * val256 (List.replicate n 0) = 0; rw [ih]; rfl
  | cons x l ih => rw [List.cons_append, val256, ih, val256]
theorem p66 : (256 : Int) ^ 66 = 256 ^ 65 * 256 := rfl
theorem car_u8 {L : List Int} (hL : L.length = 66) {B : Int} (hB : 0 ≤ B) (h : InB L B) (hv : vN L 66 < 256 ^ 66) : (carR L 65).all u8 = true := by
  obtain ⟨h1, h2, h3⟩ := carR_ok hL hB h 65 (by omega)
  have hl := carR_length L 65
  have hval := carR_val L hL 65 (by omega)
  rw [vN] at hval
  have hlow : 0 ≤ vN (carR L 65) 65 := by
    have : ∀ n, n ≤ 65 → 0 ≤ vN (carR L 65) n := by
      intro n
      induction n with
      | zero => intro _; simp [vN]
      | succ n ih =>
        intro hn
        have := Int.mul_nonneg (Int.le_of_lt (pow256_pos n)) (h1 n (by omega)).1
        have := ih (by omega)
        rw [vN]; omega
    exact this 65 (by omega)
  have htop : (carR L 65).getD 65 0 < 256 := by
    rcases Int.lt_or_le ((carR L 65).getD 65 0) 256 with q | q
    · exact q
    · have := Int.mul_le_mul_of_nonneg_left q (Int.le_of_lt (pow256_pos 65))
      rw [p66] at hv
      omega
  rw [List.all_eq_true]
  intro x hx
  obtain ⟨i, hi, rfl⟩ := List.mem_iff_getElem.1 hx
  have e : (carR L 65)[i] = (carR L 65).getD i 0 := by simp [List.getD, List.getElem?_eq_getElem hi]
  rw [e, u8_iff]
  by_cases hi65 : i = 65
  · subst hi65; exact ⟨h2.1, htop⟩
  · exact h1 i (by omega)
theorem maQ_round (a b c L : List Int) (i j : Nat) (ha : a.all u8 = true) (hb : b.all u8 = true) (la : a.length = 32) (lb : b.length = 32) (hi : i < 32) (hj : j < 32) {B : Int} (hL : L.length = 66) (hin : InB L B) (hB : B ≤ 1000000000) :
    Tr Try.prog maQ (maJ a b c i j L) .normal (maJ a b c i ((j + 1 : Nat) : Int) (L.set (i + j) (L.getD (i + j) 0 + a.getD i 0 * b.getD j 0))) := by
  have k := ma_q a b c L i j
  have ra := getD_u8 ha i
  have rb := getD_u8 hb j
  have p := prod_bound ra rb
  have q := hin (i + j)
  have e : IntKind.i64.wrap ((i : Int) + j) = ((i + j : Nat) : Int) := by rw [IntWalk.i64_in _ (by omega)]; omega
  have e1 : IntKind.i64.wrap ((j : Int) + 1) = ((j + 1 : Nat) : Int) := by rw [IntWalk.i64_in _ (by omega)]; omega
  have n1 : 0 + (((i + j : Nat) : Int)).toNat * 1 = i + j := by omega
  have n2 : 0 + (i : Int).toNat * 1 = i := by omega
  have n3 : 0 + (j : Int).toNat * 1 = j := by omega
  rw [e, e1, n1, n2, n3, IntWalk.i64_in (a.getD i 0) (by omega), IntWalk.i64_in (b.getD j 0) (by omega), IntWalk.i64_in (a.getD i 0 * b.getD j 0) (by omega), IntWalk.i64_in (L.getD (i + j) 0 + a.getD i 0 * b.getD j 0) (by omega)] at k
  refine Tr.post (Tr.keep (mk_sound _ _) 60 _ k ?_) (Sub.same rfl rfl)
  exact idxN_iff (by omega) (by omega) (by omega) (idxN_iff (by omega) (by omega) (by omega) (idxN_iff (by omega) (by omega) (by omega) (idxN_iff (by omega) (by omega) (by omega) (by rw [decide_eq_true (by omega)]; rfl))))
theorem atoms_maR : (atoms maR).length = 4 := by kernel_rfl
theorem blk_maR : nthC 2 maR = .block 3 (inner (nthC 2 maR)) := by kernel_rfl
theorem atoms_maR2 : (atoms (inner (nthC 2 maR))).length = 2 := by kernel_rfl
theorem loop_maQ : isLoop 4 (nthC 1 (inner (nthC 2 maR))) = true := by kernel_rfl
theorem maR_round (a b c L : List Int) (i : Nat) (ha : a.all u8 = true) (hb : b.all u8 = true) (la : a.length = 32) (lb : b.length = 32) (hi : i < 32) {B : Int} (hL : L.length = 66) (hin : InB L B) (hB : B ≤ 900000000) :
    Tr Try.prog maR (maS a b c i L) .normal (maS a b c ((i + 1 : Nat) : Int) (rowR (a.getD i 0) b L i 32)) := by
  have k1 := ma_rhead a b c L i
  have k2 := ma_j0 a b c L i
  have k3 := ma_rstep a b c (rowR (a.getD i 0) b L i 32) i
  have e1 : IntKind.i64.wrap ((i : Int) + 1) = ((i + 1 : Nat) : Int) := by rw [IntWalk.i64_in _ (by omega)]; omega
  rw [e1] at k3
  have hloop : Tr Try.prog (nthC 1 (inner (nthC 2 maR))) (maJ a b c i 0 L) .normal (maS a b c i (rowR (a.getD i 0) b L i 32)) := by
    refine Tr.loop 4 loop_maQ (fun j : Nat => maJ a b c i j (rowR (a.getD i 0) b L i j)) 32 (fun j hj => ?_) ?_
    · have hr := rowR_in (i := i) (getD_u8 ha i) hb hin j
      exact maQ_round a b c _ i j ha hb la lb hi hj (by rw [rowR_length, hL]) hr (by omega)
    · have k := ma_qend a b c (rowR (a.getD i 0) b L i 32) i (32 : Nat)
      exact Tr.post (Tr.keep (mk_sound _ _) 60 _ k rfl) (Sub.same rfl rfl)
  have hin2 : Tr Try.prog (nthC 2 maR) (maS a b c i L) .normal (maS a b c i (rowR (a.getD i 0) b L i 32)) := by
    rw [blk_maR]
    refine Tr.block_pass (Tr.of_atoms ?_) (by simp)
    refine TrL.items (mk_sound _ _) 60 1 _ k2 rfl (by rw [atoms_maR2]; omega) (TrL.item 1 (by rw [atoms_maR2]; omega) hloop ?_)
    rw [List.drop_of_length_le (by rw [atoms_maR2]; omega)]
    exact ⟨rfl, rfl⟩
  refine Tr.of_atoms (TrL.items (mk_sound _ _) 60 2 _ k1 ?_ (by rw [atoms_maR]; omega) (TrL.item 2 (by rw [atoms_maR]; omega) (Tr.pre hin2 (Sub.same rfl rfl)) (TrL.item 3 (by rw [atoms_maR]; omega) (Tr.keep (mk_sound _ _) 60 _ k3 rfl) ?_)))
  · change andT true (decide ((i : Int) < 32)) = true
    rw [decide_eq_true (by omega)]; rfl
  · rw [List.drop_of_length_le (by rw [atoms_maR]; omega)]
    exact ⟨rfl, rfl⟩
theorem maL_round (a b c M : List Int) (k : Nat) (hk : k < 65) (hl : M.length = 66) {B : Int} (h : CarOK M k B) (hB : B ≤ 900000000) :
    Tr Try.prog maL (maC a b c k M) .normal (maC a b c ((k + 1 : Nat) : Int) ((M.set (k + 1) (M.getD (k + 1) 0 + M.getD k 0 / 256)).set k (M.getD k 0 % 256))) := by
  have kk := ma_c a b c M k
  obtain ⟨_, h2, h3⟩ := h
  have h4 := h3 (k + 1) (by omega)
  have e1 : IntKind.i64.wrap ((k : Int) + 1) = ((k + 1 : Nat) : Int) := by rw [IntWalk.i64_in _ (by omega)]; omega
  have n1 : 0 + (((k + 1 : Nat) : Int)).toNat * 1 = k + 1 := by omega
  have n2 : 0 + (k : Int).toNat * 1 = k := by omega
  have c1 : carL M k = M.set (k + 1) (M.getD (k + 1) 0 + M.getD k 0 / 256) := by
    unfold carL
    rw [e1, n1, n2, Int.tdiv_eq_ediv_of_nonneg h2.1, IntWalk.i64_in (M.getD k 0 / 256) (by omega), IntWalk.i64_in (M.getD (k + 1) 0 + M.getD k 0 / 256) (by omega)]
  have c2 : (carL M k).length = 66 := by rw [c1, List.length_set, hl]
  rw [e1, n2] at kk
  have c3 : (carL M k).getD k 0 = M.getD k 0 := by rw [c1, getD_set_ne (by omega)]
  rw [c3, Int.tmod_eq_emod_of_nonneg h2.1] at kk
  refine Tr.post (Tr.keep (mk_sound _ _) 60 _ kk ?_) (Sub.same rfl (by show maH _ _ _ _ = maH _ _ _ _; rw [c1]))
  exact idxN_iff (by omega) (by omega) (by omega) (idxN_iff (by omega) (by omega) (by omega) (idxN_iff (by omega) (by omega) (by omega) (idxN_iff (by omega) (by omega) (by omega) (idxN_iff (by omega) (by omega) (by omega) (by rw [decide_eq_true (by omega)]; rfl)))))
theorem Sub.blks {s s' : St} (h1 : s.t = s'.t) (h2 : s.h.map (fun b => (b.own, b.vals)) = s'.h.map fun b => (b.own, b.vals)) : Lift.Sub s s' where
  tl := by rw [h1]
  t := fun i v e => by rw [h1]; exact e
  hl := by have := congrArg List.length h2; simpa using this.symm
  h := fun i b b' e e' => by
    have := congrArg (·[i]?) h2
    simp only [List.getElem?_map, e, e', Option.map_some, Option.some.injEq, Prod.mk.injEq] at this
    exact ⟨this.1.symm, this.2.symm⟩
theorem FnTr.restE {P : Program} {Γ : Ctr} (hΓ : CtrSound P Γ) (n m : Nat) {fn : Func} {args : List Value} {h : List Blk} {s : St} {v : Value} {p : Bool} (hb : fn.body.isSome = true)
    (ht : ∀ s' x, TrL P ((atoms (bodyOf fn)).drop m) s x s' → TrL P (atoms (bodyOf fn)) ⟨slots0 fn.ntmps args, h, true⟩ x s')
    (e : ((execA P Γ n ((atoms (bodyOf fn)).drop m) s).bind fun r => match r.1 with
      | .ret | .normal => (resS P r.2.t r.2.h fn.results.toList).map fun q => (oneOf q.1, ([] : List Blk), andT r.2.ob q.2)
      | _ => none) = some (v, [], p)) (hp : p = true) : ∃ h', FnTr P fn args h v h' := by
  obtain ⟨⟨x, s'⟩, h1, e⟩ := Option.bind_eq_some_iff.1 e
  subst hp
  have key : ∀ (_ : x = .ret ∨ x = .normal), ((resS P s'.t s'.h fn.results.toList).map fun q => (oneOf q.1, ([] : List Blk), andT s'.ob q.2)) = some (v, [], true) → ∃ h', FnTr P fn args h v h' := fun hx e => by
    obtain ⟨⟨vs, q⟩, hr, e⟩ := Option.map_eq_some_iff.1 e
    simp only [Prod.mk.injEq, andT_iff, true_and] at e
    obtain ⟨rfl, hob, rfl⟩ := e
    exact ⟨_, FnTr.mk hb (ht s' x (TrL.rest hΓ n h1 hob)) hx hr⟩
  cases x <;> simp only at e <;> first | exact key (by simp) e | cases e
noncomputable def maF (a b c : List Int) : List Int := Lock (digN 32 ((val256 a * val256 b + val256 c) % ordL))
theorem maF_length (a b c : List Int) : (maF a b c).length = 32 := by rw [maF, Lock_eq, digN_length]
theorem val_bound {l : List Int} (h : l.all u8 = true) (hl : l.length = 32) : 0 ≤ val256 l ∧ val256 l < 115792089237316195423570985008687907853269984665640564039457584007913129639936 := by
  have := vN_bound h 32
  have e := vN_val l
  rw [hl] at e
  rw [e] at this
  exact this
theorem p66v : (256 : Int) ^ 66 = 878694100496718043517683302282418331810487718418343092402491322775749527474899974671687634004666183037093927858109549828751614463963730408009475621262727315456 := by decide
theorem wrap_bytes {c : List Int} (hc : c.all u8 = true) : c.map IntKind.i64.wrap = c := by
  rw [List.all_eq_true] at hc
  conv => rhs; rw [← List.map_id c]
  apply List.map_congr_left
  intro x hx
  have := hc x hx
  rw [u8_iff] at this
  rw [IntWalk.i64_in _ (by omega), id]
set_option maxRecDepth 100000 in
theorem ma_fn {a b c : List Int} (ha : a.all u8 = true) (hb : b.all u8 = true) (hc : c.all u8 = true) (la : a.length = 32) (lb : b.length = 32) (lc : c.length = 32) :
    ∃ g, FnTr Try.prog Try.f67 [aggI .u8 (lst 32 a), aggI .u8 (lst 32 b), aggI .u8 (lst 32 c)] [] (aggI .u8 (lst 32 (maF a b c))) g := by
  generalize hL0 : c ++ List.replicate 34 (0 : Int) = L0
  have hl0 : L0.length = 66 := by rw [← hL0, List.length_append, lc, List.length_replicate]
  have hin0 : InB L0 255 := fun k => by
    have : L0.all u8 = true := by
      rw [← hL0, List.all_append, hc, Bool.true_and, List.all_eq_true]
      intro x hx
      rw [List.eq_of_mem_replicate hx]; rfl
    have := getD_u8 this k
    omega
  have hv0 : vN L0 66 = val256 c := by rw [← hl0, vN_val, ← hL0, val_zeros]
  have k0 := ma_head a b c
  rw [show (lst 32 c).map IntKind.i64.wrap = c by rw [lst_eq lc]; exact wrap_bytes hc, hL0] at k0
  have hl1 := mulR_length a b L0 32
  have hin1 : InB (mulR a b L0 32) 100000000 := fun k => by have := mulR_in ha hb hin0 32 k; omega
  have hv1 := mulR_val a b L0 hl0 32 (by omega)
  have va := val_bound ha la
  have vb := val_bound hb lb
  have vc := val_bound hc lc
  have ea : vN a 32 = val256 a := by rw [← la, vN_val]
  have eb : vN b 32 = val256 b := by rw [← lb, vN_val]
  rw [ea, eb, hv0] at hv1
  have hprod : val256 a * val256 b ≤ 115792089237316195423570985008687907853269984665640564039457584007913129639935 * 115792089237316195423570985008687907853269984665640564039457584007913129639935 := Int.mul_le_mul (by omega) (by omega) vb.1 (by omega)
  have hprod0 : 0 ≤ val256 a * val256 b := Int.mul_nonneg va.1 vb.1
  have hlt : vN (mulR a b L0 32) 66 < 256 ^ 66 := by rw [hv1, p66v]; omega
  have hu := car_u8 (by rw [hl1, hl0]) (by omega) hin1 hlt
  have hlC := carR_length (mulR a b L0 32) 65
  have hvC := carR_val (mulR a b L0 32) (by rw [hl1, hl0]) 65 (by omega)
  have hval : val256 (carR (mulR a b L0 32) 65) = val256 a * val256 b + val256 c := by
    rw [← vN_val, hlC, hl1, hl0, hvC, hv1]; omega
  have hres : redF (carR (mulR a b L0 32) 65) = maF a b c := by rw [redF, maF, Lock_eq, Lock_eq, hval]
  have k2 := ma_fin a b c (carR (mulR a b L0 32) 65)
  rw [hres] at k2
  have hrows : Tr Try.prog (nthC 5 (bodyOf Try.f67)) (maS a b c 0 L0) .normal ⟨slotsOf 82 maT, maH a b c (mulR a b L0 32), true⟩ := by
    refine Tr.loop 2 (by kernel_rfl) (fun i : Nat => maS a b c i (mulR a b L0 i)) 32 (fun i hi => ?_) ?_
    · have hi0 := mulR_in ha hb hin0 i
      exact maR_round a b c _ i ha hb la lb hi (by rw [mulR_length, hl0]) hi0 (by omega)
    · have k := ma_rend a b c (mulR a b L0 32) (32 : Nat)
      exact Tr.post (Tr.keep (mk_sound _ _) 60 _ k rfl) (Sub.same rfl rfl)
  have hcarry : Tr Try.prog (nthC 7 (bodyOf Try.f67)) (maC a b c 0 (mulR a b L0 32)) .normal ⟨slotsOf 82 maT, maH a b c (carR (mulR a b L0 32) 65), true⟩ := by
    refine Tr.loop 6 (by kernel_rfl) (fun i : Nat => maC a b c i (carR (mulR a b L0 32) i)) 65 (fun i hi => ?_) ?_
    · exact maL_round a b c _ i hi (by rw [carR_length, hl1, hl0]) (carR_ok (by rw [hl1, hl0]) (by omega) hin1 i (by omega)) (by omega)
    · have k := ma_cend a b c (carR (mulR a b L0 32) 65) (65 : Nat)
      exact Tr.post (Tr.keep (mk_sound _ _) 60 _ k rfl) (Sub.same rfl rfl)
  have k6 := ma_c0 a b c (mulR a b L0 32)
  have hsub : Lift.Sub ⟨(maS a b c 0 []).t, [.c (intsV .u8 (lst 32 a)) 23, .c (intsV .u8 (lst 32 b)) 23, .c (intsV .u8 (lst 32 c)) 23, .c (zeros .u8 32) 23, .s .i64 L0 3], true⟩ (maS a b c 0 L0) := by
    refine Sub.blks rfl ?_
    simp only [maS, maH, List.map_cons, List.map_nil, Blk.own, Blk.vals, lst_eq la, lst_eq lb]
  refine FnTr.restE (mk_sound _ _) 60 8 (by decide) (fun s' x h => ?_) k2 ?_
  · exact TrL.items (mk_sound _ _) 60 5 _ k0 rfl (by decide) (TrL.item 5 (by decide) (Tr.pre hrows hsub) (TrL.item 6 (by decide) (Tr.keep (mk_sound _ _) 60 _ k6 rfl) (TrL.item 7 (by decide) hcarry h)))
  · rw [hu, hlC, hl1, hl0]; rfl
noncomputable def maG : List Value → Option (Value × Bool)
  | [.agg ⟨xs⟩, .agg ⟨ys⟩, .agg ⟨zs⟩] => match intsN .u8 32 xs, intsN .u8 32 ys, intsN .u8 32 zs with
    | some a, some b, some c => some (aggI .u8 (lst 32 (maF a b c)), a.all u8 && b.all u8 && c.all u8)
    | _, _, _ => none
  | _ => none
noncomputable def refMulAddE : Entry Try.prog := .val 67 maG fun vs v e h => by
  unfold maG at e
  split at e
  · split at e
    · rename_i xs ys zs a b c hx hy hz
      simp only [Option.some.injEq, Prod.mk.injEq, Bool.and_eq_true] at e
      obtain ⟨rfl, ⟨ha, hb⟩, hc⟩ := e
      obtain ⟨x1, la⟩ := intsN_eq hx
      obtain ⟨y1, lb⟩ := intsN_eq hy
      obtain ⟨z1, lc⟩ := intsN_eq hz
      rw [x1, y1, z1]
      obtain ⟨g, hg⟩ := ma_fn ha hb hc la lb lc
      exact ctr_ro Try.func67 (by decide) hg [] ⟨rfl, fun i b hb => by simp at hb⟩ (LR.plain [aggI .u8 (lst 32 a), aggI .u8 (lst 32 b), aggI .u8 (lst 32 c)] (by simp [plainL, plain_aggI])) (plain_aggI _ _)
    · cases e
  · cases e
end Go.Proofs.Ytkoohnpknhoahaa
namespace Go.Proofs.Ytkoohnpknhoahaa
open Go Go.Lift
def mulT (x y : Int) : Int := IntKind.u64.wrap (IntKind.u64.wrap (shrI .u64 x 32 * andI .u64 y 4294967295) + shrI .u64 (IntKind.u64.wrap (andI .u64 x 4294967295 * andI .u64 y 4294967295)) 32)
noncomputable def mulH (x y : Int) : Int := Lock (IntKind.u64.wrap (IntKind.u64.wrap (IntKind.u64.wrap (shrI .u64 x 32 * shrI .u64 y 32) + shrI .u64 (mulT x y) 32) +
  shrI .u64 (IntKind.u64.wrap (andI .u64 (mulT x y) 4294967295 + IntKind.u64.wrap (andI .u64 x 4294967295 * shrI .u64 y 32))) 32))
noncomputable def mulL (x y : Int) : Int := Lock (IntKind.u64.wrap (x * y))
noncomputable def mul64G : List Value → Option (Value × Bool)
  | [.int .u64 x, .int .u64 y] => some (.tuple #[.int .u64 (mulH x y), .int .u64 (mulL x y)], true)
  | _ => none
set_option maxRecDepth 100000 in
noncomputable def mul64E : Entry Try.prog := .val 110 mul64G fun vs v e h => by
  unfold mul64G at e
  split at e
  · rename_i x y
    simp only [Option.some.injEq, Prod.mk.injEq, and_true] at e
    subst e
    rw [mulH, mulL, Lock_eq, Lock_eq]
    have key : (callS Try.prog (mk (P := Try.prog) []) 60 Try.f110 [.int .u64 x, .int .u64 y] []).map (fun x => (x.1, x.2.2)) =
      some (.tuple #[.int .u64 (IntKind.u64.wrap (IntKind.u64.wrap (IntKind.u64.wrap (shrI .u64 x 32 * shrI .u64 y 32) + shrI .u64 (mulT x y) 32) +
        shrI .u64 (IntKind.u64.wrap (andI .u64 (mulT x y) 4294967295 + IntKind.u64.wrap (andI .u64 x 4294967295 * shrI .u64 y 32))) 32)), .int .u64 (IntKind.u64.wrap (x * y))], true) := by kernel_rfl
    exact ctr_val Try.func110 (by decide) (mk_sound _ _) 60 key rfl rfl (by simp [plain, plainL]) h
  · cases e
theorem and32 (x : Int) (h0 : 0 ≤ x) (h1 : x < 18446744073709551616) : andI .u64 x 4294967295 = x % 4294967296 := by
  exact (bits_mask .u64 64 (by decide) wraps_u64 32 (by decide) x h0 h1 : bits .and .u64 x (2 ^ 32 - 1) = x % 2 ^ 32)
theorem mul_bound {x y m n : Int} (hx0 : 0 ≤ x) (hx : x ≤ m) (hy0 : 0 ≤ y) (hy : y ≤ n) : 0 ≤ x * y ∧ x * y ≤ m * n :=
  ⟨Int.mul_nonneg hx0 hy0, Int.mul_le_mul hx hy hy0 (by omega)⟩
theorem mul64_eq {x y : Int} (hx0 : 0 ≤ x) (hx : x < 18446744073709551616) (hy0 : 0 ≤ y) (hy : y < 18446744073709551616) :
    18446744073709551616 * mulH x y + mulL x y = x * y ∧ 0 ≤ mulH x y ∧ mulH x y ≤ 18446744073709551614 ∧ 0 ≤ mulL x y ∧ mulL x y < 18446744073709551616 := by
  rw [mulH, mulL, Lock_eq, Lock_eq]
  unfold mulT
  have s : ∀ z : Int, shrI .u64 z 32 = z / 4294967296 := fun z => by rw [shr_eq _ _ _ (by decide)]; simp
  simp only [s, and32 x hx0 hx, and32 y hy0 hy, wrap_u64]
  have a0 : 0 ≤ x % 4294967296 ∧ x % 4294967296 ≤ 4294967295 := by omega
  have a1 : 0 ≤ x / 4294967296 ∧ x / 4294967296 ≤ 4294967295 := by omega
  have b0 : 0 ≤ y % 4294967296 ∧ y % 4294967296 ≤ 4294967295 := by omega
  have b1 : 0 ≤ y / 4294967296 ∧ y / 4294967296 ≤ 4294967295 := by omega
  have ex : x = 4294967296 * (x / 4294967296) + x % 4294967296 := by omega
  have ey : y = 4294967296 * (y / 4294967296) + y % 4294967296 := by omega
  have hp : x * y = 18446744073709551616 * (x / 4294967296 * (y / 4294967296)) + 4294967296 * (x / 4294967296 * (y % 4294967296)) + 4294967296 * (x % 4294967296 * (y / 4294967296)) + x % 4294967296 * (y % 4294967296) := by
    conv => lhs; rw [ex, ey]
    generalize x / 4294967296 = u
    generalize x % 4294967296 = v
    generalize y / 4294967296 = p
    generalize y % 4294967296 = q
    grind
  have m11 := mul_bound a1.1 a1.2 b1.1 b1.2
  have m10 := mul_bound a1.1 a1.2 b0.1 b0.2
  have m01 := mul_bound a0.1 a0.2 b1.1 b1.2
  have m00 := mul_bound a0.1 a0.2 b0.1 b0.2
  rw [hp]
  generalize x / 4294967296 * (y / 4294967296) = A at *
  generalize x / 4294967296 * (y % 4294967296) = B at *
  generalize x % 4294967296 * (y / 4294967296) = C at *
  generalize x % 4294967296 * (y % 4294967296) = D at *
  clear ex ey hp
  have t0 : (B % 18446744073709551616 + D % 18446744073709551616 / 4294967296) % 18446744073709551616 = B + D / 4294967296 := by omega
  rw [t0, and32 _ (by omega) (by omega)]
  generalize hT : B + D / 4294967296 = T at *
  have r1 : (T % 4294967296 + C % 18446744073709551616) % 18446744073709551616 = T % 4294967296 + C := by omega
  rw [r1]
  refine ⟨?_, ?_, ?_, ?_, ?_⟩ <;> omega
end Go.Proofs.Ytkoohnpknhoahaa
namespace Go.Proofs.Ytkoohnpknhoahaa
open Go Go.Lift
noncomputable def stepW (x y w c : Int) : Int := addS (addS (mulL x y) w 0) c 0
noncomputable def stepC (x y w c : Int) : Int := IntKind.u64.wrap (IntKind.u64.wrap (mulH x y + addC (mulL x y) w 0) + addC (addS (mulL x y) w 0) c 0)
noncomputable def rowC (i : Nat) (X Y W : List Int) : Nat → Int
  | 0 => 0
  | j + 1 => stepC (X.getD i 0) (Y.getD j 0) (W.getD (i + j) 0) (rowC i X Y W j)
noncomputable def rowM (i : Nat) (X Y W : List Int) : List Int := (List.range 9).map fun t =>
  if t < i then W.getD t 0 else if t < i + 4 then stepW (X.getD i 0) (Y.getD (t - i) 0) (W.getD t 0) (rowC i X Y W (t - i)) else if t = i + 4 then rowC i X Y W 4 else W.getD t 0
noncomputable def pmA : Code := bodyOf Try.f66
noncomputable def pmR : Code := inner (inner (nthC 4 pmA))
noncomputable def pmB : Code := inner (inner (nthC 11 pmA))
def pmH (a b c X Y W : List Int) : List Blk := [.c (intsV .u8 (lst 32 a)) 23, .c (intsV .u8 (lst 32 b)) 23, .c (intsV .u8 (lst 32 c)) 23, .c (zeros .u8 32) 23, .c (intsV .u64 (lst 9 W)) 155, .c (intsV .u64 (lst 4 X)) 142, .c (intsV .u64 (lst 4 Y)) 142]
def pmT : List (Nat × Value) := [(5, .pointer (some ⟨2, 0, none⟩)), (6, .pointer (some ⟨3, 0, none⟩)), (7, .pointer (some ⟨4, 0, none⟩)), (8, .pointer (some ⟨5, 0, none⟩)), (9, .pointer (some ⟨6, 0, none⟩))]
def pmK : List Nat := [5, 6, 7, 8, 9]
def pmS (a b c X Y : List Int) (i : Int) (W : List Int) : St := ⟨slotsOf 115 (pmT ++ [(27, .int .i64 i)]), pmH a b c X Y W, true⟩
section
variable (a b c X Y W : List Int)
set_option maxRecDepth 100000 in
theorem pm_r0 : (exec Try.prog (mk [mul64E, add64E]) 60 pmR (pmS a b c X Y 0 W)).map (fun r => (r.1, r.2.keep (pmK ++ [27]))) = some (.normal, pmS a b c X Y 1 (rowM 0 (lst 4 X) (lst 4 Y) (lst 9 W))) := by kernel_rfl
set_option maxRecDepth 100000 in
theorem pm_r1 : (exec Try.prog (mk [mul64E, add64E]) 60 pmR (pmS a b c X Y 1 W)).map (fun r => (r.1, r.2.keep (pmK ++ [27]))) = some (.normal, pmS a b c X Y 2 (rowM 1 (lst 4 X) (lst 4 Y) (lst 9 W))) := by kernel_rfl
set_option maxRecDepth 100000 in
theorem pm_r2 : (exec Try.prog (mk [mul64E, add64E]) 60 pmR (pmS a b c X Y 2 W)).map (fun r => (r.1, r.2.keep (pmK ++ [27]))) = some (.normal, pmS a b c X Y 3 (rowM 2 (lst 4 X) (lst 4 Y) (lst 9 W))) := by kernel_rfl
set_option maxRecDepth 100000 in
theorem pm_r3 : (exec Try.prog (mk [mul64E, add64E]) 60 pmR (pmS a b c X Y 3 W)).map (fun r => (r.1, r.2.keep (pmK ++ [27]))) = some (.normal, pmS a b c X Y 4 (rowM 3 (lst 4 X) (lst 4 Y) (lst 9 W))) := by kernel_rfl
set_option maxRecDepth 100000 in
theorem pm_rend : (exec Try.prog (mk [mul64E, add64E]) 60 pmR (pmS a b c X Y 4 W)).map (fun r => (r.1, r.2.keep pmK)) = some (.exit 0, ⟨slotsOf 115 pmT, pmH a b c X Y W, true⟩) := by kernel_rfl
end
noncomputable def addCy (W Z : List Int) : Nat → Int
  | 0 => 0
  | i + 1 => addC (W.getD i 0) (Z.getD i 0) (addCy W Z i)
noncomputable def sumW (W Z : List Int) : List Int := (List.range 9).map fun i => addS (W.getD i 0) (Z.getD i 0) (addCy W Z i)
noncomputable def wordW (l : List Int) (x : Int) : List Int :=
  ((List.range 64).map (63 - ·)).foldl (fun w k => bitF (lst 4 w) (andI .u64 (shrI .u64 x k) 1)) l
def pmI (a b c X Y W Z R : List Int) : List Blk := [.c (intsV .u8 (lst 32 a)) 23, .c (intsV .u8 (lst 32 b)) 23, .c (intsV .u8 (lst 32 c)) 23, .c (zeros .u8 32) 23, .s .u64 W 155, .c (intsV .u64 (lst 4 X)) 142, .c (intsV .u64 (lst 4 Y)) 142, .c (intsV .u64 (lst 4 Z)) 142, .c (intsV .u64 (lst 4 R)) 160]
def pmL : List (Nat × Value) := [(6, .pointer (some ⟨3, 0, none⟩)), (7, .pointer (some ⟨4, 0, none⟩)), (20, .pointer (some ⟨8, 0, none⟩))]
def pmQ (a b c X Y W Z R : List Int) (i : Int) : St := ⟨slotsOf 115 (pmL ++ [(21, .int .i64 i)]), pmI a b c X Y W Z R, true⟩
section
variable (a b c X Y W Z R : List Int)
set_option maxRecDepth 100000 in
theorem pm_sum : (execL Try.prog (mk [numberE, add64E]) 60 6 ((atoms pmA).drop 5) ⟨slotsOf 115 pmT, pmH a b c X Y W, true⟩).map (St.keep [6, 7, 20, 21]) =
    some ⟨(pmQ a b c X Y [] [] [] 8).t, [.c (intsV .u8 (lst 32 a)) 23, .c (intsV .u8 (lst 32 b)) 23, .c (intsV .u8 (lst 32 c)) 23, .c (zeros .u8 32) 23, .c (intsV .u64 (sumW (lst 9 W) (lst 4 (numF (lst 32 c))))) 155, .c (intsV .u64 (lst 4 X)) 142, .c (intsV .u64 (lst 4 Y)) 142, .c (intsV .u64 (lst 4 (numF (lst 32 c)))) 142, .c (zeros .u64 4) 160],
      (List.range 8).foldl (fun o i => andT o (carry1 (addCy (lst 9 W) (lst 4 (numF (lst 32 c))) (i + 1)))) true⟩ := by kernel_rfl
set_option maxRecDepth 100000 in
theorem pm_word (i : Int) : (exec Try.prog (mk [bitE] fun i => if i = 98 then some true else none) 200 pmB (pmQ a b c X Y W Z R i)).map (fun r => (r.1, r.2.keep [6, 7, 20, 21])) =
    some (.normal, ⟨(pmQ a b c X Y [] [] [] (IntKind.i64.wrap (i - 1))).t, pmI a b c X Y W Z (wordW (lst 4 R) (W.getD (0 + i.toNat * 1) 0)), (List.replicate 64 ()).foldl (fun o _ => idxN 9 W i o) (andT true (decide (i ≥ 0)))⟩) := by kernel_rfl
set_option maxRecDepth 100000 in
theorem pm_bend (i : Int) : (exec Try.prog (mk [bitE] fun i => if i = 98 then some false else none) 200 pmB (pmQ a b c X Y W Z R i)).map (fun r => (r.1, r.2.keep [6, 7, 20, 21])) =
    some (.exit 6, ⟨(pmQ a b c X Y [] [] [] i).t, pmI a b c X Y W Z R, andT true (!decide (i ≥ 0))⟩) := by kernel_rfl
end
end Go.Proofs.Ytkoohnpknhoahaa
namespace Go.Proofs.Ytkoohnpknhoahaa
open Go Go.Lift
def W64 (x : Int) : Prop := 0 ≤ x ∧ x < 18446744073709551616
theorem add64_eq {x y c : Int} (hx : W64 x) (hy : W64 y) (hc : 0 ≤ c ∧ c ≤ 1) : 18446744073709551616 * addC x y c + addS x y c = x + y + c ∧ W64 (addS x y c) ∧ 0 ≤ addC x y c ∧ addC x y c ≤ 1 := by
  unfold W64 at *
  unfold addC addS
  rw [Lock_eq, Lock_eq]
  have : Extern.MathBitsCarry.m64 = 18446744073709551616 := rfl
  rw [this]
  simp only [Int.ofNat_eq_natCast]
  omega
theorem step_eq {x y w c : Int} (hx : W64 x) (hy : W64 y) (hw : W64 w) (hc : W64 c) : 18446744073709551616 * stepC x y w c + stepW x y w c = x * y + w + c ∧ W64 (stepW x y w c) ∧ W64 (stepC x y w c) := by
  obtain ⟨m1, m2, m3, m4, m5⟩ := mul64_eq hx.1 hx.2 hy.1 hy.2
  have ⟨p1, p2⟩ := mul_bound (m := 18446744073709551615) (n := 18446744073709551615) hx.1 (by have := hx.2; omega) hy.1 (by have := hy.2; omega)
  obtain ⟨a1, a2, a3, a4⟩ := add64_eq (x := mulL x y) (y := w) (c := 0) ⟨m4, m5⟩ hw (by omega)
  obtain ⟨b1, b2, b3, b4⟩ := add64_eq (x := addS (mulL x y) w 0) (y := c) (c := 0) a2 hc (by omega)
  unfold stepC stepW
  rw [wrap_u64, wrap_u64]
  unfold W64 at *
  generalize x * y = p at *
  generalize mulH x y = H at *
  generalize mulL x y = L at *
  generalize addC L w 0 = c1 at *
  generalize addS L w 0 = s1 at *
  generalize addC s1 c 0 = c2 at *
  generalize addS s1 c 0 = s2 at *
  have e1 : (H + c1) % 18446744073709551616 = H + c1 := by omega
  rw [e1]
  have e2 : (H + c1 + c2) % 18446744073709551616 = H + c1 + c2 := by omega
  rw [e2]
  omega
def vW (S : List Int) : Nat → Int
  | 0 => 0
  | i + 1 => vW S i + 18446744073709551616 ^ i * S.getD i 0
def AllW (S : List Int) : Prop := ∀ i, W64 (S.getD i 0)
theorem rowC_w {i : Nat} {X Y W : List Int} (hX : AllW X) (hY : AllW Y) (hW : AllW W) : ∀ j, W64 (rowC i X Y W j)
  | 0 => by rw [rowC]; unfold W64; omega
  | j + 1 => by rw [rowC]; exact (step_eq (hX i) (hY j) (hW (i + j)) (rowC_w hX hY hW j)).2.2
theorem getD_map_range {f : Nat → Int} {n i : Nat} (h : i < n) : ((List.range n).map f).getD i 0 = f i := by
  simp [List.getD, h]
theorem rowM_w {i : Nat} {X Y W : List Int} (hX : AllW X) (hY : AllW Y) (hW : AllW W) : AllW (rowM i X Y W) := fun t => by
  unfold rowM
  by_cases h : t < 9
  · rw [getD_map_range h]
    split
    · exact hW t
    · split
      · exact (step_eq (hX i) (hY (t - i)) (hW t) (rowC_w hX hY hW (t - i))).2.1
      · split
        · exact rowC_w hX hY hW 4
        · exact hW t
  · have : ((List.range 9).map fun t => if t < i then W.getD t 0 else if t < i + 4 then stepW (X.getD i 0) (Y.getD (t - i) 0) (W.getD t 0) (rowC i X Y W (t - i)) else if t = i + 4 then rowC i X Y W 4 else W.getD t 0).getD t 0 = 0 := by
      simp [List.getD, show ¬ t < 9 from h]
    rw [this]; unfold W64; omega
theorem rowM_val {i : Nat} {X Y W : List Int} (hi : i < 4) (hX : AllW X) (hY : AllW Y) (hW : AllW W) (hz : W.getD (i + 4) 0 = 0) :
    vW (rowM i X Y W) 9 = vW W 9 + 18446744073709551616 ^ i * (X.getD i 0 * vW Y 4) := by
  have s0 := (step_eq (hX i) (hY 0) (hW (i + 0)) (rowC_w (i := i) hX hY hW 0)).1
  have s1 := (step_eq (hX i) (hY 1) (hW (i + 1)) (rowC_w (i := i) hX hY hW 1)).1
  have s2 := (step_eq (hX i) (hY 2) (hW (i + 2)) (rowC_w (i := i) hX hY hW 2)).1
  have s3 := (step_eq (hX i) (hY 3) (hW (i + 3)) (rowC_w (i := i) hX hY hW 3)).1
  change _ * rowC i X Y W 1 + _ = _ at s0
  change _ * rowC i X Y W 2 + _ = _ at s1
  change _ * rowC i X Y W 3 + _ = _ at s2
  change _ * rowC i X Y W 4 + _ = _ at s3
  have c0 : ∀ i, rowC i X Y W 0 = 0 := fun _ => rfl
  have hy : X.getD i 0 * vW Y 4 = X.getD i 0 * Y.getD 0 0 + 18446744073709551616 * (X.getD i 0 * Y.getD 1 0) + 340282366920938463463374607431768211456 * (X.getD i 0 * Y.getD 2 0) + 6277101735386680763835789423207666416102355444464034512896 * (X.getD i 0 * Y.getD 3 0) := by
    simp only [vW, Int.reducePow]
    grind
  rw [hy]
  simp only [c0, Nat.add_zero, Int.add_zero] at s0
  generalize X.getD i 0 * Y.getD 0 0 = p0 at *
  generalize X.getD i 0 * Y.getD 1 0 = p1 at *
  generalize X.getD i 0 * Y.getD 2 0 = p2 at *
  generalize X.getD i 0 * Y.getD 3 0 = p3 at *
  have e : ∀ t, t < 9 → (rowM i X Y W).getD t 0 = if t < i then W.getD t 0 else if t < i + 4 then stepW (X.getD i 0) (Y.getD (t - i) 0) (W.getD t 0) (rowC i X Y W (t - i)) else if t = i + 4 then rowC i X Y W 4 else W.getD t 0 := fun t h => by
    rw [rowM, getD_map_range h]
  simp only [vW, e 0 (by omega), e 1 (by omega), e 2 (by omega), e 3 (by omega), e 4 (by omega), e 5 (by omega), e 6 (by omega), e 7 (by omega), e 8 (by omega)]
  have : i = 0 ∨ i = 1 ∨ i = 2 ∨ i = 3 := by omega
  rcases this with rfl | rfl | rfl | rfl <;>
  · simp only [Nat.reduceLT, Nat.reduceAdd, Nat.reduceSub, Nat.reduceEqDiff, if_true, if_false, Int.reducePow, c0, Nat.sub_zero, Nat.lt_irrefl, Nat.sub_self, Nat.zero_add] at *
    omega
theorem getD_zeros (n t : Nat) : (List.replicate n (0 : Int)).getD t 0 = 0 := by
  rw [List.getD_eq_getElem?_getD, List.getElem?_replicate]
  split <;> rfl
noncomputable def rowsM (X Y : List Int) : Nat → List Int
  | 0 => List.replicate 9 0
  | i + 1 => rowM i X Y (rowsM X Y i)
theorem rowsM_w {X Y : List Int} (hX : AllW X) (hY : AllW Y) : ∀ i, AllW (rowsM X Y i)
  | 0 => fun t => by
    rw [rowsM, getD_zeros]; unfold W64; omega
  | i + 1 => rowM_w hX hY (rowsM_w hX hY i)
theorem rowsM_zero (X Y : List Int) : ∀ i t, i + 4 ≤ t → (rowsM X Y i).getD t 0 = 0
  | 0, t, _ => by
    rw [rowsM, getD_zeros]
  | i + 1, t, h => by
    rw [rowsM, rowM]
    by_cases h9 : t < 9
    · rw [getD_map_range h9, if_neg (by omega), if_neg (by omega), if_neg (by omega)]
      exact rowsM_zero X Y i t (by omega)
    · simp [List.getD, h9]
theorem rowsM_val {X Y : List Int} (hX : AllW X) (hY : AllW Y) : ∀ i, i ≤ 4 → vW (rowsM X Y i) 9 = vW X i * vW Y 4
  | 0, _ => by simp only [vW, rowsM]; simp
  | i + 1, h => by
    rw [rowsM, rowM_val (by omega) hX hY (rowsM_w hX hY i) (rowsM_zero X Y i (i + 4) (by omega)), rowsM_val hX hY i (by omega), show vW X (i + 1) = vW X i + 18446744073709551616 ^ i * X.getD i 0 from rfl, Int.add_mul, Int.mul_assoc]
theorem addCy_b {W Z : List Int} (hW : AllW W) (hZ : AllW Z) : ∀ i, 0 ≤ addCy W Z i ∧ addCy W Z i ≤ 1
  | 0 => by rw [addCy]; omega
  | i + 1 => by rw [addCy]; exact (add64_eq (hW i) (hZ i) (addCy_b hW hZ i)).2.2
theorem sumW_getD {W Z : List Int} {i : Nat} (h : i < 9) : (sumW W Z).getD i 0 = addS (W.getD i 0) (Z.getD i 0) (addCy W Z i) := by rw [sumW, getD_map_range h]
theorem sumW_w {W Z : List Int} (hW : AllW W) (hZ : AllW Z) : AllW (sumW W Z) := fun t => by
  by_cases h : t < 9
  · rw [sumW_getD h]; exact (add64_eq (hW t) (hZ t) (addCy_b hW hZ t)).2.1
  · have : (sumW W Z).getD t 0 = 0 := by simp [sumW, List.getD, h]
    rw [this]; unfold W64; omega
theorem sumW_val {W Z : List Int} (hW : AllW W) (hZ : AllW Z) : ∀ n, n ≤ 9 → vW (sumW W Z) n + 18446744073709551616 ^ n * addCy W Z n = vW W n + vW Z n
  | 0, _ => by simp [vW, addCy]
  | n + 1, h => by
    have ih := sumW_val hW hZ n (by omega)
    have e := (add64_eq (hW n) (hZ n) (addCy_b hW hZ n)).1
    rw [vW, vW, vW, sumW_getD (by omega), Int.pow_succ, show addCy W Z (n + 1) = addC (W.getD n 0) (Z.getD n 0) (addCy W Z n) from rfl]
    generalize addC (W.getD n 0) (Z.getD n 0) (addCy W Z n) = q at *
    generalize addS (W.getD n 0) (Z.getD n 0) (addCy W Z n) = r at *
    have e2 : (18446744073709551616 : Int) ^ n * 18446744073709551616 * q = 18446744073709551616 ^ n * (18446744073709551616 * q) := Int.mul_assoc _ _ _
    have e3 : (18446744073709551616 : Int) * q = W.getD n 0 + Z.getD n 0 + addCy W Z n - r := by omega
    rw [e2, e3]
    simp only [Int.mul_add, Int.mul_sub]
    omega
theorem vW_bound {S : List Int} (h : AllW S) : ∀ n, 0 ≤ vW S n ∧ vW S n < 18446744073709551616 ^ n
  | 0 => by simp [vW]
  | n + 1 => by
    have ih := vW_bound h n
    have hd := h n
    have hp : (0 : Int) < 18446744073709551616 ^ n := Int.pow_pos (by omega)
    rw [vW, Int.pow_succ]
    unfold W64 at hd
    have h1 := Int.mul_nonneg (Int.le_of_lt hp) hd.1
    have h2 : (18446744073709551616 : Int) ^ n * S.getD n 0 ≤ 18446744073709551616 ^ n * 18446744073709551615 := Int.mul_le_mul_of_nonneg_left (by omega) (Int.le_of_lt hp)
    omega
theorem and64_one (x : Int) (h0 : 0 ≤ x) (h1 : x < 18446744073709551616) : andI .u64 x 1 = x % 2 := by
  exact (bits_mask .u64 64 (by decide) wraps_u64 1 (by decide) x h0 h1 : bits .and .u64 x (2 ^ 1 - 1) = x % 2 ^ 1)
theorem bits_fold {n x : Int} (h0 : 0 ≤ n) (h1 : n < ordL) (hx : W64 x) : ∀ m : Nat, m ≤ 64 →
    ((List.range m).map (63 - ·)).foldl (fun w k => bitF (lst 4 w) (andI .u64 (shrI .u64 x k) 1)) (wds n) = wds ((2 ^ m * n + x / 2 ^ (64 - m)) % ordL)
  | 0, _ => by
    have hL := ordL_pos
    unfold W64 at hx
    simp only [List.range_zero, List.map_nil, List.foldl_nil, Nat.sub_zero]
    rw [show x / 2 ^ 64 = 0 by rw [show (2 : Int) ^ 64 = 18446744073709551616 from rfl]; omega]
    rw [show (2 : Int) ^ 0 * n + 0 = n by simp, Int.emod_eq_of_lt h0 h1]
  | m + 1, h => by
    have hL := ordL_pos
    unfold W64 at hx
    rw [List.range_succ, List.map_append, List.foldl_append, bits_fold h0 h1 hx m (by omega)]
    simp only [List.map_cons, List.map_nil, List.foldl_cons, List.foldl_nil]
    have hk : (63 - m) ≤ IntKind.u64.bits := by show 63 - m ≤ 64; omega
    have hp : (0 : Int) < 2 ^ (63 - m) := Int.pow_pos (by omega)
    have q0 : 0 ≤ x / 2 ^ (63 - m) := Int.ediv_nonneg hx.1 (by omega)
    have q1 : x / 2 ^ (63 - m) ≤ x := Int.ediv_le_self _ hx.1
    rw [shr_eq _ _ _ hk, and64_one _ q0 (by omega), bit_step (Int.emod_nonneg _ (by omega)) (Int.emod_lt_of_pos _ hL.1) (by omega) (by omega), twice_mod]
    congr 2
    have e1 : 64 - (m + 1) = 63 - m := by omega
    have e2 : x / 2 ^ (64 - m) = x / 2 ^ (63 - m) / 2 := by
      rw [Int.ediv_ediv_of_nonneg (by omega), ← Int.pow_succ]
      congr 2
      omega
    rw [e1, e2, Int.pow_succ, Int.mul_add, Int.mul_comm (2 ^ m) 2, Int.mul_assoc]
    omega
theorem word_wds {n x : Int} (h0 : 0 ≤ n) (h1 : n < ordL) (hx : W64 x) : wordW (wds n) x = wds ((18446744073709551616 * n + x) % ordL) := by
  have := bits_fold h0 h1 hx 64 (by omega)
  rw [wordW, this, Nat.sub_self]
  simp
noncomputable def redwW (W : List Int) : Nat → List Int
  | 0 => [0, 0, 0, 0]
  | j + 1 => wordW (lst 4 (redwW W j)) (W.getD (8 - j) 0)
def topW (W : List Int) : Nat → Int
  | 0 => 0
  | j + 1 => 18446744073709551616 * topW W j + W.getD (8 - j) 0
theorem redwW_eq {W : List Int} (hW : AllW W) : ∀ j, redwW W j = wds (topW W j % ordL)
  | 0 => by rw [redwW, topW]; rfl
  | j + 1 => by
    have hL := ordL_pos
    rw [redwW, redwW_eq hW j, lst_eq (by rfl), word_wds (Int.emod_nonneg _ (by omega)) (Int.emod_lt_of_pos _ hL.1) (hW _), topW]
    congr 1
    rw [Int.add_emod, Int.mul_emod, Int.emod_emod, ← Int.mul_emod, ← Int.add_emod]
theorem topW_nine (W : List Int) : topW W 9 = vW W 9 := by
  simp only [topW, vW, Nat.reduceSub, Int.reducePow]
  omega
end Go.Proofs.Ytkoohnpknhoahaa
