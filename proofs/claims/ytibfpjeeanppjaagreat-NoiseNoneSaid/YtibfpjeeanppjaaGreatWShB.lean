/- This file holds the texts ShA, ShB, a section each. No conditions beyond those in the theorems. -/
import Derived.Test.YtibfpjeeanppjaaGreatWMd
import Derived.Test.YtibfpjeeanppjaaGreatWSxB
import Derived.Test.YtibfpjeeanppjaaGreatChecked
import Derived.Laws.Externs
import Derived.Laws.BitsLemmas
import Derived.IntWalk
set_option linter.all false
section
namespace Go.Proofs.YtibfpjeeanppjaaGreat.Sh
open Go Go.Sy
abbrev W (n : Int) : Int := IntKind.u64.wrap n
def W0 (n : Int) : Bool := decide (0 ≤ W n)
theorem wrap_u64 (n : Int) : IntKind.u64.wrap n = n % 18446744073709551616 := by simp [IntKind.wrap, IntKind.signed, IntKind.bits]
theorem W0_true (n : Int) : W0 n = true := by unfold W0 W; rw [wrap_u64]; exact decide_eq_true (Int.emod_nonneg _ (by decide))
def rotP (x a : Int) : Int := orI .u64 (shlI .u64 x (andI .u64 (W (IntKind.i64.wrap (0 - a))) 63).toNat) (shrI .u64 x (W (64 - andI .u64 (W (IntKind.i64.wrap (0 - a))) 63)).toNat)
def tnP (x a b c : Int) : Int := xorI .u64 (xorI .u64 (rotP x a) (rotP x b)) (rotP x c)
theorem ctr0 : CtrSound Tryz.prog (mk (P := Tryz.prog) [] []) := mk_sound _ InlOK.nil _ _
end Go.Proofs.YtibfpjeeanppjaaGreat.Sh
end
section
namespace Go.Proofs.YtibfpjeeanppjaaGreat.Sh
open Go Go.Sy
theorem wrap_i64 (n : Int) (h0 : -9223372036854775808 ≤ n) (h1 : n < 9223372036854775808) : IntKind.i64.wrap n = n := IntWalk.i64_in n (by omega)
theorem inB_true {i : Int} {n : Nat} (h0 : 0 ≤ i) (h1 : i < n) : inB i n = true := by
  unfold inB
  simp only [Bool.and_eq_true, decide_eq_true_eq]
  omega
theorem VE.lst (k : IntKind) (n : Nat) (l : List Int) : VE (.agg [.ints k n l]) (.agg [.ints k n (lst n l)]) := fun e _ ⟨ys, h1, h2⟩ => ⟨ys, (PE.lst k n l).2 e ys h1, h2⟩
end Go.Proofs.YtibfpjeeanppjaaGreat.Sh
end
