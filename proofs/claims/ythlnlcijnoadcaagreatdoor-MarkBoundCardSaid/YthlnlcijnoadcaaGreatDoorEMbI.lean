/- This file proves the tied card of the row MarkBound. No conditions. -/
import Derived.Test.YthlnlcijnoadcaaGreatDoorEMbH
import Derived.Test.YthlnlcijnoadcaaGreatDoorTie
import Derived.Test.YthlnlcijnoadcaaGreatDoorCards
import Derived.SevenTiedAt
set_option linter.all false
namespace Go.Proofs.YthlnlcijnoadcaaGreatDoor
open Go
theorem markBoundProved:Rows.MarkBoundCardSaid:=
 Claim7.holds_tied_plain_at .later [] [.data,.data] true (true,"a88019d52237b3b2bcdfc654be927e8b6f6b87a54cf3af774734f59c7cf98027") true
  markBound.over (fun _ h=>by cases h) (by kernel_rfl) (fun _ h=>by cases h) markBound_row_tie rfl ⟨rfl,rfl⟩ (by kernel_rfl) rfl
  (fun f fn hf hfn=>by
   obtain rfl:f=7:=Option.some.inj ((show Tryz.prog.funcNamed "burrow/burrowlaw15.MarkBound"=some 7 by kernel_rfl).symm.trans hf) |>.symm
   obtain rfl:fn=Tryz.f7:=(Option.some.inj (Tryz.func7.symm.trans hfn)).symm
   exact ⟨by kernel_rfl,fun j t ht=>by
    rw [Tryz.params7] at ht
    have h3:t=23:=by
     rcases j with _|j
     ·simpa using ht.symm
     ·simp at ht
    rcases h3 with rfl
    ·exact (show Tryz.prog.wantsStandIn 23=false by kernel_rfl)⟩)
  (by kernel_rfl)
#print axioms markBoundProved
end Go.Proofs.YthlnlcijnoadcaaGreatDoor
