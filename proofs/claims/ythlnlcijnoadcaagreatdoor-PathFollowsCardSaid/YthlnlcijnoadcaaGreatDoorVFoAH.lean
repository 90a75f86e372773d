/- This file proves lemmas for the last one. Conditions: those in them. -/
import Derived.Test.YthlnlcijnoadcaaGreatDoorVFoAG
noncomputable section
open Bool renaming true->Z,false->I
open Option renaming some->E,none->Y
open Decidable renaming decide->C
open List renaming length->A,getD->X,replicate->t9,range->t8
open Int renaming toNat->O
open Go.Proofs.Tryz
open Go.Proofs.Tryz renaming prog->Q
set_option linter.all false
namespace Go.Proofs.YthlnlcijnoadcaaGreatDoor
namespace pathFollows
open Go.ChangeShapes Go.WideShapes Go.ChangeAt Go.RowKit
def ax8:Rows.pathFollowsRow.holds Tryz.pinned (OpenSpec.ofChange Rows.pathFollowsSpec):=
 OpenClaim.holds_of_wide 4 f4 rfl rfl rfl rfl rfl rfl rfl ⟨rfl,rfl,rfl,rfl,rfl⟩ rfl rfl rfl rfl rfl named func4 closed
  (agm rfl) (by unfold Func.isWrapper;first|(rw[ae8 (by decide+kernel)];kernel_rfl)|(rw[acB (by decide+kernel)];exact⟨rfl,rfl⟩))
  (λos a H b _=>ahv os a H b)
