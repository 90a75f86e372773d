/- This file proves pieces of point.MulAdd as reckoned steps: rows of words, their sum, the bits of each word. No conditions: equations of the interpreter. -/
import Derived.Test.YtailgcdcdhhpnaaPtY
namespace Go.Proofs.Ytailgcdcdhhpnaa
open Go Go.Lift
noncomputable def stepW (x y w c : Int) : Int := addS (addS (mulL x y) w 0) c 0
noncomputable def stepC (x y w c : Int) : Int := IntKind.u64.wrap (IntKind.u64.wrap (mulH x y + addC (mulL x y) w 0) + addC (addS (mulL x y) w 0) c 0)
noncomputable def rowC (i : Nat) (X Y W : List Int) : Nat → Int
  | 0 => 0
  | j + 1 => stepC (X.getD i 0) (Y.getD j 0) (W.getD (i + j) 0) (rowC i X Y W j)
noncomputable def rowM (i : Nat) (X Y W : List Int) : List Int := (List.range 9).map fun t =>
  if t < i then W.getD t 0 else if t < i + 4 then stepW (X.getD i 0) (Y.getD (t - i) 0) (W.getD t 0) (rowC i X Y W (t - i)) else if t = i + 4 then rowC i X Y W 4 else W.getD t 0

noncomputable def pmA : Code := bodyOf Try.f13
noncomputable def pmR : Code := inner (inner (nthC 4 pmA))
noncomputable def pmZ : Code := inner (inner (nthC 8 pmA))
noncomputable def pmB : Code := inner (inner (nthC 11 pmA))
def pmH (a b c X Y W : List Int) : List Blk := [.c (intsV .u8 (lst 32 a)) 24, .c (intsV .u8 (lst 32 b)) 24, .c (intsV .u8 (lst 32 c)) 24, .c (zeros .u8 32) 24, .c (intsV .u64 (lst 9 W)) 70, .c (intsV .u64 (lst 4 X)) 59, .c (intsV .u64 (lst 4 Y)) 59]
def pmT : List (Nat × Value) := [(5, .pointer (some ⟨2, 0, none⟩)), (6, .pointer (some ⟨3, 0, none⟩)), (7, .pointer (some ⟨4, 0, none⟩)), (8, .pointer (some ⟨5, 0, none⟩)), (9, .pointer (some ⟨6, 0, none⟩))]
def pmK : List Nat := [5, 6, 7, 8, 9]
def pmS (a b c X Y : List Int) (i : Int) (W : List Int) : St := ⟨slotsOf 115 (pmT ++ [(27, .int .i64 i)]), pmH a b c X Y W, true⟩
section
variable (a b c X Y W : List Int)
set_option maxRecDepth 100000 in
theorem pm_r0 : (exec Try.prog (mk [mul64E, add64E]) 60 pmR (pmS a b c X Y 0 W)).map (fun r => (r.1, r.2.keep (pmK ++ [27]))) = some (.normal, pmS a b c X Y 1 (rowM 0 (lst 4 X) (lst 4 Y) (lst 9 W))) := by kernel_rfl
set_option maxRecDepth 100000 in
theorem pm_r1 : (exec Try.prog (mk [mul64E, add64E]) 60 pmR (pmS a b c X Y 1 W)).map (fun r => (r.1, r.2.keep (pmK ++ [27]))) = some (.normal, pmS a b c X Y 2 (rowM 1 (lst 4 X) (lst 4 Y) (lst 9 W))) := by kernel_rfl
set_option maxRecDepth 100000 in
theorem pm_r2 : (exec Try.prog (mk [mul64E, add64E]) 60 pmR (pmS a b c X Y 2 W)).map (fun r => (r.1, r.2.keep (pmK ++ [27]))) = some (.normal, pmS a b c X Y 3 (rowM 2 (lst 4 X) (lst 4 Y) (lst 9 W))) := by kernel_rfl
set_option maxRecDepth 100000 in
theorem pm_r3 : (exec Try.prog (mk [mul64E, add64E]) 60 pmR (pmS a b c X Y 3 W)).map (fun r => (r.1, r.2.keep (pmK ++ [27]))) = some (.normal, pmS a b c X Y 4 (rowM 3 (lst 4 X) (lst 4 Y) (lst 9 W))) := by kernel_rfl
set_option maxRecDepth 100000 in
theorem pm_rend : (exec Try.prog (mk [mul64E, add64E]) 60 pmR (pmS a b c X Y 4 W)).map (fun r => (r.1, r.2.keep pmK)) = some (.exit 0, ⟨slotsOf 115 pmT, pmH a b c X Y W, true⟩) := by kernel_rfl
end
noncomputable def addCy (W Z : List Int) : Nat → Int
  | 0 => 0
  | i + 1 => addC (W.getD i 0) (Z.getD i 0) (addCy W Z i)
/-- The nine words and four more. -/
noncomputable def sumW (W Z : List Int) : List Int := (List.range 9).map fun i => addS (W.getD i 0) (Z.getD i 0) (addCy W Z i)
noncomputable def wordW (l : List Int) (x : Int) : List Int :=
  ((List.range 64).map (63 - ·)).foldl (fun w k => bitF (lst 4 w) (andI .u64 (shrI .u64 x k) 1)) l
def pmI (a b c X Y W Z R : List Int) : List Blk := [.c (intsV .u8 (lst 32 a)) 24, .c (intsV .u8 (lst 32 b)) 24, .c (intsV .u8 (lst 32 c)) 24, .c (zeros .u8 32) 24, .s .u64 W 70, .c (intsV .u64 (lst 4 X)) 59, .c (intsV .u64 (lst 4 Y)) 59, .c (intsV .u64 (lst 4 Z)) 59, .c (intsV .u64 (lst 4 R)) 61]
def pmL : List (Nat × Value) := [(6, .pointer (some ⟨3, 0, none⟩)), (7, .pointer (some ⟨4, 0, none⟩)), (20, .pointer (some ⟨8, 0, none⟩))]
def pmQ (a b c X Y W Z R : List Int) (i : Int) : St := ⟨slotsOf 115 (pmL ++ [(21, .int .i64 i)]), pmI a b c X Y W Z R, true⟩
section
variable (a b c X Y W Z R : List Int)
set_option maxRecDepth 100000 in
theorem pm_sum : (execL Try.prog (mk [numberE, add64E]) 60 6 ((atoms pmA).drop 5) ⟨slotsOf 115 pmT, pmH a b c X Y W, true⟩).map (St.keep [6, 7, 20, 21]) =
    some ⟨(pmQ a b c X Y [] [] [] 8).t, [.c (intsV .u8 (lst 32 a)) 24, .c (intsV .u8 (lst 32 b)) 24, .c (intsV .u8 (lst 32 c)) 24, .c (zeros .u8 32) 24, .c (intsV .u64 (sumW (lst 9 W) (lst 4 (numF (lst 32 c))))) 70, .c (intsV .u64 (lst 4 X)) 59, .c (intsV .u64 (lst 4 Y)) 59, .c (intsV .u64 (lst 4 (numF (lst 32 c)))) 59, .c (zeros .u64 4) 61],
      (List.range 8).foldl (fun o i => andT o (carry1 (addCy (lst 9 W) (lst 4 (numF (lst 32 c))) (i + 1)))) true⟩ := by kernel_rfl
set_option maxRecDepth 100000 in
theorem pm_word (i : Int) : (exec Try.prog (mk [bitE] fun i => if i = 98 then some true else none) 200 pmB (pmQ a b c X Y W Z R i)).map (fun r => (r.1, r.2.keep [6, 7, 20, 21])) =
    some (.normal, ⟨(pmQ a b c X Y [] [] [] (IntKind.i64.wrap (i - 1))).t, pmI a b c X Y W Z (wordW (lst 4 R) (W.getD (0 + i.toNat * 1) 0)), (List.replicate 64 ()).foldl (fun o _ => idxN 9 W i o) (andT true (decide (i ≥ 0)))⟩) := by kernel_rfl
set_option maxRecDepth 100000 in
theorem pm_bend (i : Int) : (exec Try.prog (mk [bitE] fun i => if i = 98 then some false else none) 200 pmB (pmQ a b c X Y W Z R i)).map (fun r => (r.1, r.2.keep [6, 7, 20, 21])) =
    some (.exit 6, ⟨(pmQ a b c X Y [] [] [] i).t, pmI a b c X Y W Z R, andT true (!decide (i ≥ 0))⟩) := by kernel_rfl
set_option maxRecDepth 100000 in
theorem pm_fin (i : Int) : ((execA Try.prog (mk [keyE]) 60 ((atoms pmA).drop 12) (pmQ a b c X Y W Z R i)).bind fun r => match r.1 with
      | .ret | .normal => (resS Try.prog r.2.t r.2.h Try.f13.results.toList).map fun q => (oneOf q.1, ([] : List Blk), andT r.2.ob q.2)
      | _ => none) = some (aggI .u8 (lst 32 (keyF (lst 4 R))), ([] : List Blk), true) := by kernel_rfl
end
end Go.Proofs.Ytailgcdcdhhpnaa
