/- This file holds the texts ShA, ShB, a section each. No conditions beyond those in the theorems. -/
import Derived.Test.YtibfpjeeanppjaaGreatUMd
import Derived.Test.YtibfpjeeanppjaaGreatUSxB
import Derived.Test.YtibfpjeeanppjaaGreatChecked
import Derived.Laws.Externs
import Derived.Laws.BitsLemmas
import Derived.IntWalk
set_option linter.all false
section
namespace Go.Proofs.YtibfpjeeanppjaaGreat.Sh
open Go Go.Sy
abbrev W (n:Int):Int:=IntKind.u64.wrap n
def W0 (n:Int):Bool:=decide (0≤W n)
theorem wrap_u64 (n:Int):IntKind.u64.wrap n=n%18446744073709551616:=by simp [IntKind.wrap,IntKind.signed,IntKind.bits]
theorem Fj (n:Int):W0 n=true:=by unfold W0 W;rw [wrap_u64];exact decide_eq_true (Int.emod_nonneg _ (by decide))
def Ba (x a:Int):Int:=gj .u64 (cV .u64 x (bR .u64 (W (IntKind.i64.wrap (0-a))) 63).toNat) (bh .u64 x (W (64-bR .u64 (W (IntKind.i64.wrap (0-a))) 63)).toNat)
def Tk (x a b c:Int):Int:=cj .u64 (cj .u64 (Ba x a) (Ba x b)) (Ba x c)
theorem lV:ag Tryz.prog (mk (P:=Tryz.prog) [] []):=ai _ aF.nil _ _
end Go.Proofs.YtibfpjeeanppjaaGreat.Sh
end
section
namespace Go.Proofs.YtibfpjeeanppjaaGreat.Sh
open Go Go.Sy
theorem wrap_i64 (n:Int) (h0: -9223372036854775808≤n) (h1:n<9223372036854775808):IntKind.i64.wrap n=n:=IntWalk.i64_in n (by omega)
theorem aK {i:Int} {n:Nat} (h0:0≤i) (h1:i<n):cK i n=true:=by
 unfold cK
 simp only [Bool.and_eq_true,decide_eq_true_eq]
 omega
theorem VE.aO (k:IntKind) (n:Nat) (l:List Int):VE (.agg [.ints k n l]) (.agg [.ints k n (aO n l)]):=fun e _ ⟨ys,h1,h2⟩=>⟨ys,(PE.aO k n l).2 e ys h1,h2⟩
end Go.Proofs.YtibfpjeeanppjaaGreat.Sh
end
