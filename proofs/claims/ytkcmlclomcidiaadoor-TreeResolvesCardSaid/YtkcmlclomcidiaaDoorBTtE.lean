/- This file proves the tied card of the row TreeResolves. No conditions. -/
import Derived.Test.YtkcmlclomcidiaaDoorBTtD
import Derived.Test.YtkcmlclomcidiaaDoorTie
import Derived.Test.YtkcmlclomcidiaaDoorCards
import Derived.SevenTiedAt
set_option linter.all false
namespace Go.Proofs.YtkcmlclomcidiaaDoor
open Go
theorem treeResolvesProved : Rows.TreeResolvesCardSaid :=
  Claim7.holds_tied_plain_at .later [] [.data, .data] true (true, "bebb6020ae0cb2bd1112346e88cdc09d0af414d712a35b81447878af11cd0c9e") true
    treeResolves.over (fun _ h => by cases h) (by kernel_rfl) (fun _ h => by cases h) treeResolves_row_tie rfl ⟨rfl, rfl⟩ (by kernel_rfl) rfl
    (fun f fn hf hfn => by
      obtain rfl : f = 7 := Option.some.inj ((show Tryd.prog.funcNamed "burrow/burrowlaw14.TreeResolves" = some 7 by kernel_rfl).symm.trans hf) |>.symm
      obtain rfl : fn = Tryd.f7 := (Option.some.inj (Tryd.func7.symm.trans hfn)).symm
      exact ⟨by kernel_rfl, fun j t ht => by
        rw [Tryd.params7] at ht
        have h3 : t = 23 ∨ t = 3 := by
          rcases j with _ | _ | j
          · left; simpa using ht.symm
          · right; simpa using ht.symm
          · simp at ht
        rcases h3 with rfl | rfl
        · exact (show Tryd.prog.wantsStandIn 23 = false by kernel_rfl)
        · exact (show Tryd.prog.wantsStandIn 3 = false by kernel_rfl)⟩)
    (by kernel_rfl)
#print axioms treeResolvesProved
end Go.Proofs.YtkcmlclomcidiaaDoor
