/- This file holds the texts ShA, ShB, a section each. No conditions beyond those in the theorems. -/
import Derived.Test.YtibfpjeeanppjaaGreatYMd
import Derived.Test.YtibfpjeeanppjaaGreatYSxB
import Derived.Test.YtibfpjeeanppjaaGreatChecked
import Derived.Laws.Externs
import Derived.Laws.BitsLemmas
import Derived.IntWalk
set_option linter.all false
section
namespace Go.Proofs.YtibfpjeeanppjaaGreat.Sh
open Go Go.Sy
abbrev W (n:Int):Int:=IntKind.u64.wrap n
def W0 (n:Int):Bool:=decide (0≤W n)
theorem wrap_u64 (n:Int):IntKind.u64.wrap n=n%18446744073709551616:=by simp [IntKind.wrap,IntKind.signed,IntKind.bits]
theorem HT (n:Int):W0 n=true:=by unfold W0 W;rw [wrap_u64];exact decide_eq_true (Int.emod_nonneg _ (by decide))
def Dm (x a:Int):Int:=gi .u64 (c7 .u64 x (bS .u64 (W (IntKind.i64.wrap (0-a))) 63).toNat) (bO .u64 x (W (64-bS .u64 (W (IntKind.i64.wrap (0-a))) 63)).toNat)
def Wa (x a b c:Int):Int:=cm .u64 (cm .u64 (Dm x a) (Dm x b)) (Dm x c)
theorem mV:ag Tryz.prog (mk (P:=Tryz.prog) [] []):=ah _ au.nil _ _
end Go.Proofs.YtibfpjeeanppjaaGreat.Sh
end
section
namespace Go.Proofs.YtibfpjeeanppjaaGreat.Sh
open Go Go.Sy
theorem wrap_i64 (n:Int) (h0: -9223372036854775808≤n) (h1:n<9223372036854775808):IntKind.i64.wrap n=n:=IntWalk.i64_in n (by omega)
theorem aK {i:Int} {n:Nat} (h0:0≤i) (h1:i<n):cL i n=true:=by
 unfold cL
 simp only [Bool.and_eq_true,decide_eq_true_eq]
 omega
theorem VE.aH (k:IntKind) (n:Nat) (l:List Int):VE (.agg [.ints k n l]) (.agg [.ints k n (aH n l)]):=fun e _ ⟨ys,h1,h2⟩=>⟨ys,(PE.aH k n l).2 e ys h1,h2⟩
end Go.Proofs.YtibfpjeeanppjaaGreat.Sh
end
