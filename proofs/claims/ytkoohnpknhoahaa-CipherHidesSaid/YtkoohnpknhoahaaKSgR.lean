/- This file reads slices of bytes, and structs that hold bytes and such a slice, that come in with a row. Conditions: what came in reads as data. -/
import Derived.Test.YtkoohnpknhoahaaKSxB
import Derived.ChangeSlices
import Derived.WideShapes
import Derived.RowKit
set_option linter.all false
namespace Go.Sy
open Go Go.ChangeShapes Go.WideShapes Go.RowKit
variable {P : Program}
theorem VR.tail {e : Env} {n k : Nat} {bs zs : List Int} {y : Value} (h : bs.length = n + k) (hy : VR e (.ro false .u8 zs) y) : VR e (.agg [.ints .u8 n (bs.take n), .ints .u8 k (bs.drop n), .ro false .u8 zs]) (.agg ⟨intsV .u8 bs ++ [y]⟩) := by
  refine ⟨intsV .u8 bs ++ [y], ⟨intsV .u8 (bs.drop n) ++ [y], ⟨[y], ⟨y, [], hy, rfl, rfl⟩, ?_⟩, ?_⟩, rfl⟩
  · rw [lst_eq (by simp; omega)]
  · rw [lst_eq (by simp; omega), ← List.append_assoc, ← intsV_append, List.take_append_drop]
end Go.Sy
