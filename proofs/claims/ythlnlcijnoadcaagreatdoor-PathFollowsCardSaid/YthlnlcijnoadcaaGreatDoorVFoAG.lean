/- This file proves lemmas for the last one. Conditions: those in them. -/
import Derived.Test.YthlnlcijnoadcaaGreatDoorVFoAE
noncomputable section
open Bool renaming true->Z,false->I
open Option renaming some->E,none->Y
open Decidable renaming decide->C
open List renaming length->A,getD->X,replicate->t9,range->t8
open Int renaming toNat->O
open Go.Proofs.Tryz
open Go.Proofs.Tryz renaming prog->Q
set_option linter.all false
namespace Go.Proofs.YthlnlcijnoadcaaGreatDoor
namespace pathFollows
open Go.ChangeShapes Go.WideShapes Go.ChangeAt Go.RowKit
theorem named:prog.funcNamed Rows.pathFollowsRow.func=some 4:=by kernel_rfl
theorem closed:joinedFacts Q 4 f4 Rows.pathFollowsSpec Rows.pathFollowsRow=true:=by kernel_rfl
