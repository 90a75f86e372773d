/- This file proves the tied card of the row PathPuts. No conditions. -/
import Derived.Test.YthlnlcijnoadcaaGreatDoorGPaK
import Derived.Test.YthlnlcijnoadcaaGreatDoorTie
import Derived.Test.YthlnlcijnoadcaaGreatDoorCards
import Derived.SevenTiedAt
noncomputable section
open Go.Proofs.Tryz
set_option linter.all false
namespace Go.Proofs.YthlnlcijnoadcaaGreatDoor
open Go
theorem pathPutsProved:Rows.PathPutsCardSaid:=
 Claim7.holds_tied_plain_at .later [] [.data,.data] true (true,"a88019d52237b3b2bcdfc654be927e8b6f6b87a54cf3af774734f59c7cf98027") true
  pathPuts.over (λ_ h=>by cases h) (by kernel_rfl) (λ_ h=>by cases h) pathPuts_row_tie rfl ⟨rfl,rfl⟩ (by kernel_rfl) rfl
  (λf fn hf hfn=>by
   obtain rfl:f=3:=ael ((show prog.funcNamed "burrow/burrowlaw17.PathPuts"=some 3 by kernel_rfl).symm.trans hf) |>.symm
   obtain rfl:fn=f3:=(ael (func3.symm.trans hfn)).symm
   exact ⟨by kernel_rfl,λj t ht=>by
    rw [Tryz.params3] at ht
    have h3:t=23\/t=3\/t=32:=by
     rcases j with _|_|_|j
     ·left;simpa using ht.symm
     ·right;left;simpa using ht.symm
     ·right;right;simpa using ht.symm
     ·simp at ht
    rcases h3 with rfl|rfl|rfl
    ·exact (show prog.wantsStandIn 23=false by kernel_rfl)
    ·exact (show prog.wantsStandIn 3=false by kernel_rfl)
    ·exact (show prog.wantsStandIn 32=false by kernel_rfl)⟩)
  (by kernel_rfl)
#print axioms pathPutsProved
end Go.Proofs.YthlnlcijnoadcaaGreatDoor
