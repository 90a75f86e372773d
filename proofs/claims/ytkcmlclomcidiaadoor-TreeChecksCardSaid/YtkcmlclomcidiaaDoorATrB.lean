/- This file proves the contract of seat's Leaves. No conditions. -/
import Derived.Test.YtkcmlclomcidiaaDoorATrA
set_option linter.all false
namespace Go.Proofs.YtkcmlclomcidiaaDoor.Tr
open Go Go.Sy
def lvT (a b c : Bool) : Nat → Option Bool := fun i => if i = 5 then some a else if i = 9 then some b else if i = 15 then some c else none
noncomputable def lvC (a b c : Bool) : Ctr := mk (P := Tryd.prog) [] [] (lvT a b c)
theorem lvC_ok (a b c : Bool) : CtrSound Tryd.prog (lvC a b c) := mk_sound _ InlOK.nil _ _
def lvX (n : Int) : Bool := andI IntKind.i64 n (IntKind.i64.wrap (n + 1)) != 0
def leavesV (n : Int) : Int := bif decide (n < 1) || decide (n ≥ 64) || lvX n then 0 else IntKind.i64.wrap (IntKind.i64.wrap (n.tdiv 2) + 1)
set_option maxRecDepth 100000 in
theorem leaves_fn (n : Int) : FnTr Tryd.prog 43 [.int .i64 n] [] (.int .i64 (leavesV n)) [] := by
  unfold leavesV
  cases h1 : decide (n < 1) with
  | true => exact call0 (lvC_ok true true true) 60 Tryd.func43 (v := .int .i64 0) (p := andT true (decide (n < 1))) (by kernel_rfl) (by rw [h1]; rfl) rfl
  | false =>
    cases h2 : decide (n ≥ 64) with
    | true => exact call0 (lvC_ok false true true) 60 Tryd.func43 (v := .int .i64 0) (p := andT (andT true (!decide (n < 1))) (decide (n ≥ 64))) (by kernel_rfl) (by rw [h1, h2]; rfl) rfl
    | false =>
      cases h3 : lvX n with
      | true => exact call0 (lvC_ok false false true) 60 Tryd.func43 (v := .int .i64 0) (p := andT (andT (andT true (!decide (n < 1))) (!decide (n ≥ 64))) (lvX n)) (by kernel_rfl) (by rw [h1, h2, h3]; rfl) rfl
      | false => exact call0 (lvC_ok false false false) 60 Tryd.func43 (v := .int .i64 (IntKind.i64.wrap (IntKind.i64.wrap (n.tdiv 2) + 1))) (p := andT (andT (andT true (!decide (n < 1))) (!decide (n ≥ 64))) (!lvX n)) (by kernel_rfl) (by rw [h1, h2, h3]; rfl) rfl
end Go.Proofs.YtkcmlclomcidiaaDoor.Tr
