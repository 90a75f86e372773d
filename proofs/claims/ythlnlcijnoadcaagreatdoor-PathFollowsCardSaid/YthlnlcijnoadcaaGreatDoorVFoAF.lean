/- This file proves the tied card of the row PathFollows. No conditions. -/
import Derived.Test.YthlnlcijnoadcaaGreatDoorVFoAH
import Derived.Test.YthlnlcijnoadcaaGreatDoorTie
import Derived.Test.YthlnlcijnoadcaaGreatDoorCards
import Derived.SevenTiedAt
noncomputable section
open Bool renaming true->Z,false->I
open Option renaming some->E,none->Y
open Decidable renaming decide->C
open List renaming length->A,getD->X,replicate->t9,range->t8
open Int renaming toNat->O
open Go.Proofs.Tryz
open Go.Proofs.Tryz renaming prog->Q
set_option linter.all false
namespace Go.Proofs.YthlnlcijnoadcaaGreatDoor
theorem pathFollowsProved:Rows.PathFollowsCardSaid:=
 Claim7.holds_tied_plain_at .later [] [.data,.data] true (true,"a88019d52237b3b2bcdfc654be927e8b6f6b87a54cf3af774734f59c7cf98027") true
  pathFollows.ax8 (λ_ h=>by cases h) (by kernel_rfl) (λ_ h=>by cases h) pathFollows_row_tie rfl ⟨rfl,rfl⟩ (by kernel_rfl) rfl
  (λf fn hf hfn=>by
   obtain rfl:f=4:=ajt ((show prog.funcNamed "burrow/burrowlaw17.PathFollows"=some 4 by kernel_rfl).symm.trans hf) |>.symm
   obtain rfl:fn=f4:=(ajt (func4.symm.trans hfn)).symm
   exact⟨by kernel_rfl,λj t ht=>by
    rw[Tryz.params4] at ht
    have h3:t=49:=by
     rcases j with _|j
     ·simpa using ht.symm
     ·simp at ht
    rw[h3]
    exact(show prog.wantsStandIn 49=false by kernel_rfl)⟩)
  (by kernel_rfl)
#print axioms pathFollowsProved
