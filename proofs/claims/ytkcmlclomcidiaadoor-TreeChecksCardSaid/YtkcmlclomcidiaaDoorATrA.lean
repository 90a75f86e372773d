/- This file proves the contract of tree's leaf. No conditions. -/
import Derived.Test.YtkcmlclomcidiaaDoorATrO
import Derived.Test.YtkcmlclomcidiaaDoorRows
set_option linter.all false
namespace Go.Proofs.YtkcmlclomcidiaaDoor.Tr
open Go Go.Sy
def lfT (a b c : Bool) : Nat → Option Bool := fun i => if i = 5 then some a else if i = 10 then some b else if i = 15 then some c else none
noncomputable def lfC (a b c : Bool) : Ctr := mk (P := Tryd.prog) [] [] (lfT a b c)
theorem lfC_ok (a b c : Bool) : CtrSound Tryd.prog (lfC a b c) := mk_sound _ InlOK.nil _ _
abbrev nod (u : Bool) (n : Int) (k s p un : List Int) : SV := .agg [.bool u, .int .i64 n, .ints .u8 32 k, .ints .u8 32 s, .ints .u8 32 p, .ro false .i64 un]
def lfB (u : Bool) (n : Int) (un : List Int) : Bool := u && decide (n ≥ 0) && decide (n ≤ 255) && ((un.length : Int) == 0)
set_option maxRecDepth 100000 in
theorem leaf_fn (u : Bool) (n : Int) (k s p un : List Int) : FnTr Tryd.prog 45 [nod u n k s p un] [] (.bool (lfB u n un)) [] := by
  unfold lfB
  cases u with
  | false => exact call0 (lfC_ok false false false) 60 Tryd.func45 (v := .bool false) (p := true) (by kernel_rfl) rfl rfl
  | true =>
    cases h1 : decide (n ≥ 0) with
    | false => exact call0 (lfC_ok true false false) 60 Tryd.func45 (v := .bool false) (p := andT true (!decide (n ≥ 0))) (by kernel_rfl) (by rw [h1]; rfl) rfl
    | true =>
      cases h2 : decide (n ≤ 255) with
      | false => exact call0 (lfC_ok true true false) 60 Tryd.func45 (v := .bool false) (p := andT (andT true (decide (n ≥ 0))) (!decide (n ≤ 255))) (by kernel_rfl) (by rw [h1, h2]; rfl) rfl
      | true => exact call0 (lfC_ok true true true) 60 Tryd.func45 (v := .bool ((un.length : Int) == 0)) (p := andT (andT true (decide (n ≥ 0))) (decide (n ≤ 255))) (by kernel_rfl) (by rw [h1, h2]; rfl) rfl
end Go.Proofs.YtkcmlclomcidiaaDoor.Tr
