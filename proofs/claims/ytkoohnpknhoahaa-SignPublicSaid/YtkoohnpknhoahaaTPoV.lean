/- This file proves the law PointDoubles as a call of the interpreter: it returns true. Conditions: bytes within their kind. -/
import Derived.Test.YtkoohnpknhoahaaTPoS
set_option linter.all false
namespace Go.Proofs.Ytkoohnpknhoahaa.Po
open Go Go.Sy Re Fe
def baseA : Pt := (ph BX, ph BY)
theorem base_pt : RP baseP baseA := by
  have hr : rootV (uV BY) = some BX := by
    rw [uV_i, rootV_i (show 0 ≤ uVi BY from (mod_range _).1)]
    exact base_root
  exact ⟨_, base_VW, (rv_one (root_sq hr) rfl).1⟩
end Go.Proofs.Ytkoohnpknhoahaa.Po
