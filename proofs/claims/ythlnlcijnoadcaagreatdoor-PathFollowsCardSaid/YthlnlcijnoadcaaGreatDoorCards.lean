/-
  DERIVED. GIVEN WITH THE SEED: THE CARDS: each row of YthlnlcijnoadcaaGreatDoorRows.lean that lists a variable, with what it lists TIED to the program's text (the seventh form; the later family's looks); each row that meets fmt, with fmt's text TOLD by the authors' own Lean function (tested against real Go, not proved from fmt's source: count such statements apart). THE CARD IS WHAT COUNTS. Prove the row's statement (the work); the ties are given (YthlnlcijnoadcaaGreatDoorTie.lean); close each card by the builder's one call (the guide's Derived/Test/ToyasCard.lean, 'card_holds'). Laid BY PROGRAM, IN A SANDBOX (cutbox-door.mjs). By AI agents, Wed Nov 11 2026. No macro, syntax, notation, axiom, sorry.
-/
import Derived.Test.YthlnlcijnoadcaaGreatDoorRows
import GoSem.ClaimSeven
namespace Go.Proofs.YthlnlcijnoadcaaGreatDoor
namespace Rows

/-- THE TIED CARD OF 'burrowlaw17.PathPuts'. -/
def pathPutsCard : Claim7 := { stood := { row := pathPutsRow, standIns := [], harness := (true, "a88019d52237b3b2bcdfc654be927e8b6f6b87a54cf3af774734f59c7cf98027"), looks := true }, kinds := [], alts := [], laidByText := true, laidKinds := [.data, .data], laidTests := true, laidLooks := .later }
def PathPutsCardSaid : Prop := Claim7.holds Tryz.pinned (.plain (OpenSpec.ofChange pathPutsSpec)) pathPutsCard

/-- THE TIED CARD OF 'burrowlaw17.PathFollows'. -/
def pathFollowsCard : Claim7 := { stood := { row := pathFollowsRow, standIns := [], harness := (true, "a88019d52237b3b2bcdfc654be927e8b6f6b87a54cf3af774734f59c7cf98027"), looks := true }, kinds := [], alts := [], laidByText := true, laidKinds := [.data, .data], laidTests := true, laidLooks := .later }
def PathFollowsCardSaid : Prop := Claim7.holds Tryz.pinned (.plain (OpenSpec.ofChange pathFollowsSpec)) pathFollowsCard

/-- THE TIED CARD OF 'burrowlaw17.PathPlans'. -/
def pathPlansCard : Claim7 := { stood := { row := pathPlansRow, standIns := [], harness := (true, "a88019d52237b3b2bcdfc654be927e8b6f6b87a54cf3af774734f59c7cf98027"), looks := true }, kinds := [], alts := [], laidByText := true, laidKinds := [.data, .data], laidTests := true, laidLooks := .later }
def PathPlansCardSaid : Prop := Claim7.holds Tryz.pinned (.plain (OpenSpec.ofChange pathPlansSpec)) pathPlansCard

/-- THE TIED CARD OF 'burrowlaw15.MarkDigests'. -/
def markDigestsCard : Claim7 := { stood := { row := markDigestsRow, standIns := [], harness := (true, "a88019d52237b3b2bcdfc654be927e8b6f6b87a54cf3af774734f59c7cf98027"), looks := true }, kinds := [], alts := [], laidByText := true, laidKinds := [.data, .data], laidTests := true, laidLooks := .later }
def MarkDigestsCardSaid : Prop := Claim7.holds Tryz.pinned (.plain (OpenSpec.ofChange markDigestsSpec)) markDigestsCard

/-- THE TIED CARD OF 'burrowlaw15.MarkBound'. -/
def markBoundCard : Claim7 := { stood := { row := markBoundRow, standIns := [], harness := (true, "a88019d52237b3b2bcdfc654be927e8b6f6b87a54cf3af774734f59c7cf98027"), looks := true }, kinds := [], alts := [], laidByText := true, laidKinds := [.data, .data], laidTests := true, laidLooks := .later }
def MarkBoundCardSaid : Prop := Claim7.holds Tryz.pinned (.plain (OpenSpec.ofChange markBoundSpec)) markBoundCard

/-- THE TIED CARD OF 'burrowlaw15.MarkUnlike'. -/
def markUnlikeCard : Claim7 := { stood := { row := markUnlikeRow, standIns := [], harness := (true, "a88019d52237b3b2bcdfc654be927e8b6f6b87a54cf3af774734f59c7cf98027"), looks := true }, kinds := [], alts := [], laidByText := true, laidKinds := [.data, .data], laidTests := true, laidLooks := .later }
def MarkUnlikeCardSaid : Prop := Claim7.holds Tryz.pinned (.plain (OpenSpec.ofChange markUnlikeSpec)) markUnlikeCard

/-- THE TIED CARD OF 'burrowlaw15.MarkMarks'. -/
def markMarksCard : Claim7 := { stood := { row := markMarksRow, standIns := [], harness := (true, "a88019d52237b3b2bcdfc654be927e8b6f6b87a54cf3af774734f59c7cf98027"), looks := true }, kinds := [], alts := [], laidByText := true, laidKinds := [.data, .data], laidTests := true, laidLooks := .later }
def MarkMarksCardSaid : Prop := Claim7.holds Tryz.pinned (.plain (OpenSpec.ofChange markMarksSpec)) markMarksCard

/-- THE TIED CARD OF 'burrowlaw15.MarkKeeps'. -/
def markKeepsCard : Claim7 := { stood := { row := markKeepsRow, standIns := [], harness := (true, "a88019d52237b3b2bcdfc654be927e8b6f6b87a54cf3af774734f59c7cf98027"), looks := true }, kinds := [], alts := [], laidByText := true, laidKinds := [.data, .data], laidTests := true, laidLooks := .later }
def MarkKeepsCardSaid : Prop := Claim7.holds Tryz.pinned (.plain (OpenSpec.ofChange markKeepsSpec)) markKeepsCard

/-- THE TIED CARD OF 'burrowlaw17.PathMakes'. -/
def pathMakesCard : Claim7 := { stood := { row := pathMakesRow, standIns := [], harness := (true, "a88019d52237b3b2bcdfc654be927e8b6f6b87a54cf3af774734f59c7cf98027"), looks := true }, kinds := [], alts := [], laidByText := true, laidKinds := [.data, .data], laidTests := true, laidLooks := .later }
def PathMakesCardSaid : Prop := Claim7.holds Tryz.pinned (.plain (OpenSpec.ofChange pathMakesSpec)) pathMakesCard

/-- THE TIED CARD OF 'burrowlaw17.PathShares'. -/
def pathSharesCard : Claim7 := { stood := { row := pathSharesRow, standIns := [], harness := (true, "a88019d52237b3b2bcdfc654be927e8b6f6b87a54cf3af774734f59c7cf98027"), looks := true }, kinds := [], alts := [], laidByText := true, laidKinds := [.data, .data], laidTests := true, laidLooks := .later }
def PathSharesCardSaid : Prop := Claim7.holds Tryz.pinned (.plain (OpenSpec.ofChange pathSharesSpec)) pathSharesCard

/-- THE SECOND FORM's CARD OF 'burrowlaw17.PathPuts'. -/
def pathPutsUptoCard : Claim7 := { stood := { row := pathPutsUptoRow, standIns := [], harness := (true, "a88019d52237b3b2bcdfc654be927e8b6f6b87a54cf3af774734f59c7cf98027"), looks := true }, kinds := [], alts := [], laidByText := true, laidKinds := [.data, .data], laidTests := true, laidLooks := .later }
def PathPutsUptoCardSaid : Prop := Claim7.holds Tryz.pinned (.plain (OpenSpec.upto pathPutsSpec)) pathPutsUptoCard

/-- THE SECOND FORM's CARD OF 'burrowlaw17.PathFollows'. -/
def pathFollowsUptoCard : Claim7 := { stood := { row := pathFollowsUptoRow, standIns := [], harness := (true, "a88019d52237b3b2bcdfc654be927e8b6f6b87a54cf3af774734f59c7cf98027"), looks := true }, kinds := [], alts := [], laidByText := true, laidKinds := [.data, .data], laidTests := true, laidLooks := .later }
def PathFollowsUptoCardSaid : Prop := Claim7.holds Tryz.pinned (.plain (OpenSpec.upto pathFollowsSpec)) pathFollowsUptoCard

/-- THE SECOND FORM's CARD OF 'burrowlaw17.PathPlans'. -/
def pathPlansUptoCard : Claim7 := { stood := { row := pathPlansUptoRow, standIns := [], harness := (true, "a88019d52237b3b2bcdfc654be927e8b6f6b87a54cf3af774734f59c7cf98027"), looks := true }, kinds := [], alts := [], laidByText := true, laidKinds := [.data, .data], laidTests := true, laidLooks := .later }
def PathPlansUptoCardSaid : Prop := Claim7.holds Tryz.pinned (.plain (OpenSpec.upto pathPlansSpec)) pathPlansUptoCard

/-- THE SECOND FORM's CARD OF 'burrowlaw15.MarkDigests'. -/
def markDigestsUptoCard : Claim7 := { stood := { row := markDigestsUptoRow, standIns := [], harness := (true, "a88019d52237b3b2bcdfc654be927e8b6f6b87a54cf3af774734f59c7cf98027"), looks := true }, kinds := [], alts := [], laidByText := true, laidKinds := [.data, .data], laidTests := true, laidLooks := .later }
def MarkDigestsUptoCardSaid : Prop := Claim7.holds Tryz.pinned (.plain (OpenSpec.upto markDigestsSpec)) markDigestsUptoCard

/-- THE SECOND FORM's CARD OF 'burrowlaw15.MarkBound'. -/
def markBoundUptoCard : Claim7 := { stood := { row := markBoundUptoRow, standIns := [], harness := (true, "a88019d52237b3b2bcdfc654be927e8b6f6b87a54cf3af774734f59c7cf98027"), looks := true }, kinds := [], alts := [], laidByText := true, laidKinds := [.data, .data], laidTests := true, laidLooks := .later }
def MarkBoundUptoCardSaid : Prop := Claim7.holds Tryz.pinned (.plain (OpenSpec.upto markBoundSpec)) markBoundUptoCard

/-- THE SECOND FORM's CARD OF 'burrowlaw15.MarkUnlike'. -/
def markUnlikeUptoCard : Claim7 := { stood := { row := markUnlikeUptoRow, standIns := [], harness := (true, "a88019d52237b3b2bcdfc654be927e8b6f6b87a54cf3af774734f59c7cf98027"), looks := true }, kinds := [], alts := [], laidByText := true, laidKinds := [.data, .data], laidTests := true, laidLooks := .later }
def MarkUnlikeUptoCardSaid : Prop := Claim7.holds Tryz.pinned (.plain (OpenSpec.upto markUnlikeSpec)) markUnlikeUptoCard

/-- THE SECOND FORM's CARD OF 'burrowlaw15.MarkMarks'. -/
def markMarksUptoCard : Claim7 := { stood := { row := markMarksUptoRow, standIns := [], harness := (true, "a88019d52237b3b2bcdfc654be927e8b6f6b87a54cf3af774734f59c7cf98027"), looks := true }, kinds := [], alts := [], laidByText := true, laidKinds := [.data, .data], laidTests := true, laidLooks := .later }
def MarkMarksUptoCardSaid : Prop := Claim7.holds Tryz.pinned (.plain (OpenSpec.upto markMarksSpec)) markMarksUptoCard

/-- THE SECOND FORM's CARD OF 'burrowlaw15.MarkKeeps'. -/
def markKeepsUptoCard : Claim7 := { stood := { row := markKeepsUptoRow, standIns := [], harness := (true, "a88019d52237b3b2bcdfc654be927e8b6f6b87a54cf3af774734f59c7cf98027"), looks := true }, kinds := [], alts := [], laidByText := true, laidKinds := [.data, .data], laidTests := true, laidLooks := .later }
def MarkKeepsUptoCardSaid : Prop := Claim7.holds Tryz.pinned (.plain (OpenSpec.upto markKeepsSpec)) markKeepsUptoCard

/-- THE SECOND FORM's CARD OF 'burrowlaw17.PathMakes'. -/
def pathMakesUptoCard : Claim7 := { stood := { row := pathMakesUptoRow, standIns := [], harness := (true, "a88019d52237b3b2bcdfc654be927e8b6f6b87a54cf3af774734f59c7cf98027"), looks := true }, kinds := [], alts := [], laidByText := true, laidKinds := [.data, .data], laidTests := true, laidLooks := .later }
def PathMakesUptoCardSaid : Prop := Claim7.holds Tryz.pinned (.plain (OpenSpec.upto pathMakesSpec)) pathMakesUptoCard

/-- THE SECOND FORM's CARD OF 'burrowlaw17.PathShares'. -/
def pathSharesUptoCard : Claim7 := { stood := { row := pathSharesUptoRow, standIns := [], harness := (true, "a88019d52237b3b2bcdfc654be927e8b6f6b87a54cf3af774734f59c7cf98027"), looks := true }, kinds := [], alts := [], laidByText := true, laidKinds := [.data, .data], laidTests := true, laidLooks := .later }
def PathSharesUptoCardSaid : Prop := Claim7.holds Tryz.pinned (.plain (OpenSpec.upto pathSharesSpec)) pathSharesUptoCard
end Rows
end Go.Proofs.YthlnlcijnoadcaaGreatDoor
