/- This file proves the tied card of the row MarkUnlike. No conditions. -/
import Derived.Test.YthlnlcijnoadcaaGreatDoorFMuG
import Derived.Test.YthlnlcijnoadcaaGreatDoorTie
import Derived.Test.YthlnlcijnoadcaaGreatDoorCards
import Derived.SevenTiedAt
set_option linter.all false
namespace Go.Proofs.YthlnlcijnoadcaaGreatDoor
open Go
theorem markUnlikeProved:Rows.MarkUnlikeCardSaid:=
 Claim7.holds_tied_plain_at .later [] [.data,.data] true (true,"a88019d52237b3b2bcdfc654be927e8b6f6b87a54cf3af774734f59c7cf98027") true
  markUnlike.over (fun _ h=>by cases h) (by kernel_rfl) (fun _ h=>by cases h) markUnlike_row_tie rfl ⟨rfl,rfl⟩ (by kernel_rfl) rfl
  (fun f fn hf hfn=>by
   obtain rfl:f=8:=Option.some.inj ((show Tryz.prog.funcNamed "burrow/burrowlaw15.MarkUnlike"=some 8 by kernel_rfl).symm.trans hf) |>.symm
   obtain rfl:fn=Tryz.f8:=(Option.some.inj (Tryz.func8.symm.trans hfn)).symm
   exact ⟨by kernel_rfl,fun j t ht=>by
    rw [Tryz.params8] at ht
    have h3:t=23:=by
     rcases j with _|_|j
     ·simpa using ht.symm
     ·simpa using ht.symm
     ·simp at ht
    rcases h3 with rfl
    ·exact (show Tryz.prog.wantsStandIn 23=false by kernel_rfl)⟩)
  (by kernel_rfl)
#print axioms markUnlikeProved
end Go.Proofs.YthlnlcijnoadcaaGreatDoor
