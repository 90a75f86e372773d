/- This file proves the tied card of the row TreeOnce. No conditions. -/
import Derived.Test.YtkcmlclomcidiaaDoorCTtJ
import Derived.Test.YtkcmlclomcidiaaDoorTie
import Derived.Test.YtkcmlclomcidiaaDoorCards
import Derived.SevenTiedAt
set_option linter.all false
namespace Go.Proofs.YtkcmlclomcidiaaDoor
open Go
theorem treeOnceProved : Rows.TreeOnceCardSaid :=
  Claim7.holds_tied_plain_at .later [] [.data, .data] true (true, "bebb6020ae0cb2bd1112346e88cdc09d0af414d712a35b81447878af11cd0c9e") true
    treeOnce.over (fun _ h => by cases h) (by kernel_rfl) (fun _ h => by cases h) treeOnce_row_tie rfl ⟨rfl, rfl⟩ (by kernel_rfl) rfl
    (fun f fn hf hfn => by
      obtain rfl : f = 8 := Option.some.inj ((show Tryd.prog.funcNamed "burrow/burrowlaw14.TreeOnce" = some 8 by kernel_rfl).symm.trans hf) |>.symm
      obtain rfl : fn = Tryd.f8 := (Option.some.inj (Tryd.func8.symm.trans hfn)).symm
      exact ⟨by kernel_rfl, fun j t ht => by
        rw [Tryd.params8] at ht
        have h3 : t = 23 ∨ t = 3 := by
          rcases j with _ | j
          · left; simpa using ht.symm
          · simp at ht
        rcases h3 with rfl | rfl
        · exact (show Tryd.prog.wantsStandIn 23 = false by kernel_rfl)
        · exact (show Tryd.prog.wantsStandIn 3 = false by kernel_rfl)⟩)
    (by kernel_rfl)
#print axioms treeOnceProved
end Go.Proofs.YtkcmlclomcidiaaDoor
