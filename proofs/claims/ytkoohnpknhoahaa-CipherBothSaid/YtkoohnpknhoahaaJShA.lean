/- This file proves the contract of sha's wideTurns, and words' operations as arithmetic. No conditions. -/
import Derived.Test.YtkoohnpknhoahaaJMd
import Derived.Test.YtkoohnpknhoahaaJSxA
import Derived.Test.YtkoohnpknhoahaaChecked
import Derived.Laws.Externs
import Derived.Laws.BitsLemmas
import Derived.IntWalk
set_option linter.all false
namespace Go.Proofs.Ytkoohnpknhoahaa.Sh
open Go Go.Sy
abbrev W (n : Int) : Int := IntKind.u64.wrap n
def W0 (n : Int) : Bool := decide (0 ≤ W n)
theorem wrap_u64 (n : Int) : IntKind.u64.wrap n = n % 18446744073709551616 := by simp [IntKind.wrap, IntKind.signed, IntKind.bits]
theorem W0_true (n : Int) : W0 n = true := by unfold W0 W; rw [wrap_u64]; exact decide_eq_true (Int.emod_nonneg _ (by decide))
def rotP (x a : Int) : Int := orI .u64 (shlI .u64 x (andI .u64 (W (IntKind.i64.wrap (0 - a))) 63).toNat) (shrI .u64 x (W (64 - andI .u64 (W (IntKind.i64.wrap (0 - a))) 63)).toNat)
def rotO (a : Int) : Bool := W0 (64 - andI .u64 (W (IntKind.i64.wrap (0 - a))) 63)
def tnP (x a b c : Int) : Int := xorI .u64 (xorI .u64 (rotP x a) (rotP x b)) (rotP x c)
theorem inlRot : InlOK Try.prog [(163, Try.f163)] := InlOK.cons Try.func163 (by decide) InlOK.nil
noncomputable def rotG := mk (P := Try.prog) [] [(163, Try.f163)]
theorem rotG_ok : CtrSound Try.prog rotG := mk_sound _ inlRot _ _
def turnsF : List SV → Option (SV × List Blk × Bool)
  | [.int .u64 x, .int .i64 a, .int .i64 b, .int .i64 c] => some (.int .u64 (tnP x a b c), [], true)
  | _ => none
set_option maxRecDepth 100000 in
noncomputable def turnsE : Entry Try.prog := .val 164 _ Try.func164 (by decide) rfl false 0 turnsF fun vs v new e => by
  unfold turnsF at e
  split at e
  · rename_i x a b c
    cases e
    exact call0 rotG_ok 60 Try.func164 (p := andT (andT (andT true (andT true (rotO a))) (andT true (rotO b))) (andT true (rotO c))) (by kernel_rfl) (by simp only [rotO, W0_true, andT_iff, and_self]) rfl
  · cases e
def rotF : List SV → Option (SV × List Blk × Bool)
  | [.int .u64 x, .int .i64 a] => some (.int .u64 (orI .u64 (shlI .u64 x (andI .u64 (W a) 63).toNat) (shrI .u64 x (W (64 - andI .u64 (W a) 63)).toNat)), [], true)
  | _ => none
theorem ctr0 : CtrSound Try.prog (mk (P := Try.prog) [] []) := mk_sound _ InlOK.nil _ _
set_option maxRecDepth 100000 in
noncomputable def rotE : Entry Try.prog := .val 163 _ Try.func163 (by decide) rfl false 0 rotF fun vs v new e => by
  unfold rotF at e
  split at e
  · rename_i x a
    cases e
    exact call0 ctr0 60 Try.func163 (p := andT true (W0 (64 - andI .u64 (W a) 63))) (by kernel_rfl) (by simp only [W0_true, andT_iff, and_self]) rfl
  · cases e
end Go.Proofs.Ytkoohnpknhoahaa.Sh
