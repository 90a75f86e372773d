/-
  DERIVED. GIVEN WITH THE SEED: THE CARDS: each row of YtkcmlclomcidiaaDoorRows.lean that lists a variable, with what it lists TIED to the program's text (the seventh form; the later family's looks); each row that meets fmt, with fmt's text TOLD by the authors' own Lean function (tested against real Go, not proved from fmt's source: count such statements apart). THE CARD IS WHAT COUNTS. Prove the row's statement (the work); the ties are given (YtkcmlclomcidiaaDoorTie.lean); close each card by the builder's one call (the guide's Derived/Test/ToyasCard.lean, 'card_holds'). Laid BY PROGRAM, IN A SANDBOX (cutbox-door.mjs). By AI agents, Wed Nov 11 2026. No macro, syntax, notation, axiom, sorry.
-/
import Derived.Test.YtkcmlclomcidiaaDoorRows
import GoSem.ClaimSeven
namespace Go.Proofs.YtkcmlclomcidiaaDoor
namespace Rows

/-- THE TIED CARD OF 'burrowlaw14.TreeMembers'. -/
def treeMembersCard : Claim7 := { stood := { row := treeMembersRow, standIns := [], harness := (true, "bebb6020ae0cb2bd1112346e88cdc09d0af414d712a35b81447878af11cd0c9e"), looks := true }, kinds := [], alts := [], laidByText := true, laidKinds := [.data, .data], laidTests := true, laidLooks := .later }
def TreeMembersCardSaid : Prop := Claim7.holds Tryd.pinned (.plain (OpenSpec.ofChange treeMembersSpec)) treeMembersCard

/-- THE TIED CARD OF 'burrowlaw14.TreeNames'. -/
def treeNamesCard : Claim7 := { stood := { row := treeNamesRow, standIns := [], harness := (true, "bebb6020ae0cb2bd1112346e88cdc09d0af414d712a35b81447878af11cd0c9e"), looks := true }, kinds := [], alts := [], laidByText := true, laidKinds := [.data, .data], laidTests := true, laidLooks := .later }
def TreeNamesCardSaid : Prop := Claim7.holds Tryd.pinned (.plain (OpenSpec.ofChange treeNamesSpec)) treeNamesCard

/-- THE TIED CARD OF 'burrowlaw14.TreeChecks'. -/
def treeChecksCard : Claim7 := { stood := { row := treeChecksRow, standIns := [], harness := (true, "bebb6020ae0cb2bd1112346e88cdc09d0af414d712a35b81447878af11cd0c9e"), looks := true }, kinds := [], alts := [], laidByText := true, laidKinds := [.data, .data], laidTests := true, laidLooks := .later }
def TreeChecksCardSaid : Prop := Claim7.holds Tryd.pinned (.plain (OpenSpec.ofChange treeChecksSpec)) treeChecksCard

/-- THE TIED CARD OF 'burrowlaw14.TreeChanges'. -/
def treeChangesCard : Claim7 := { stood := { row := treeChangesRow, standIns := [], harness := (true, "bebb6020ae0cb2bd1112346e88cdc09d0af414d712a35b81447878af11cd0c9e"), looks := true }, kinds := [], alts := [], laidByText := true, laidKinds := [.data, .data], laidTests := true, laidLooks := .later }
def TreeChangesCardSaid : Prop := Claim7.holds Tryd.pinned (.plain (OpenSpec.ofChange treeChangesSpec)) treeChangesCard

/-- THE TIED CARD OF 'burrowlaw14.TreeResolves'. -/
def treeResolvesCard : Claim7 := { stood := { row := treeResolvesRow, standIns := [], harness := (true, "bebb6020ae0cb2bd1112346e88cdc09d0af414d712a35b81447878af11cd0c9e"), looks := true }, kinds := [], alts := [], laidByText := true, laidKinds := [.data, .data], laidTests := true, laidLooks := .later }
def TreeResolvesCardSaid : Prop := Claim7.holds Tryd.pinned (.plain (OpenSpec.ofChange treeResolvesSpec)) treeResolvesCard

/-- THE TIED CARD OF 'burrowlaw14.TreeOnce'. -/
def treeOnceCard : Claim7 := { stood := { row := treeOnceRow, standIns := [], harness := (true, "bebb6020ae0cb2bd1112346e88cdc09d0af414d712a35b81447878af11cd0c9e"), looks := true }, kinds := [], alts := [], laidByText := true, laidKinds := [.data, .data], laidTests := true, laidLooks := .later }
def TreeOnceCardSaid : Prop := Claim7.holds Tryd.pinned (.plain (OpenSpec.ofChange treeOnceSpec)) treeOnceCard

/-- THE SECOND FORM's CARD OF 'burrowlaw14.TreeMembers'. -/
def treeMembersUptoCard : Claim7 := { stood := { row := treeMembersUptoRow, standIns := [], harness := (true, "bebb6020ae0cb2bd1112346e88cdc09d0af414d712a35b81447878af11cd0c9e"), looks := true }, kinds := [], alts := [], laidByText := true, laidKinds := [.data, .data], laidTests := true, laidLooks := .later }
def TreeMembersUptoCardSaid : Prop := Claim7.holds Tryd.pinned (.plain (OpenSpec.upto treeMembersSpec)) treeMembersUptoCard

/-- THE SECOND FORM's CARD OF 'burrowlaw14.TreeNames'. -/
def treeNamesUptoCard : Claim7 := { stood := { row := treeNamesUptoRow, standIns := [], harness := (true, "bebb6020ae0cb2bd1112346e88cdc09d0af414d712a35b81447878af11cd0c9e"), looks := true }, kinds := [], alts := [], laidByText := true, laidKinds := [.data, .data], laidTests := true, laidLooks := .later }
def TreeNamesUptoCardSaid : Prop := Claim7.holds Tryd.pinned (.plain (OpenSpec.upto treeNamesSpec)) treeNamesUptoCard

/-- THE SECOND FORM's CARD OF 'burrowlaw14.TreeChecks'. -/
def treeChecksUptoCard : Claim7 := { stood := { row := treeChecksUptoRow, standIns := [], harness := (true, "bebb6020ae0cb2bd1112346e88cdc09d0af414d712a35b81447878af11cd0c9e"), looks := true }, kinds := [], alts := [], laidByText := true, laidKinds := [.data, .data], laidTests := true, laidLooks := .later }
def TreeChecksUptoCardSaid : Prop := Claim7.holds Tryd.pinned (.plain (OpenSpec.upto treeChecksSpec)) treeChecksUptoCard

/-- THE SECOND FORM's CARD OF 'burrowlaw14.TreeChanges'. -/
def treeChangesUptoCard : Claim7 := { stood := { row := treeChangesUptoRow, standIns := [], harness := (true, "bebb6020ae0cb2bd1112346e88cdc09d0af414d712a35b81447878af11cd0c9e"), looks := true }, kinds := [], alts := [], laidByText := true, laidKinds := [.data, .data], laidTests := true, laidLooks := .later }
def TreeChangesUptoCardSaid : Prop := Claim7.holds Tryd.pinned (.plain (OpenSpec.upto treeChangesSpec)) treeChangesUptoCard

/-- THE SECOND FORM's CARD OF 'burrowlaw14.TreeResolves'. -/
def treeResolvesUptoCard : Claim7 := { stood := { row := treeResolvesUptoRow, standIns := [], harness := (true, "bebb6020ae0cb2bd1112346e88cdc09d0af414d712a35b81447878af11cd0c9e"), looks := true }, kinds := [], alts := [], laidByText := true, laidKinds := [.data, .data], laidTests := true, laidLooks := .later }
def TreeResolvesUptoCardSaid : Prop := Claim7.holds Tryd.pinned (.plain (OpenSpec.upto treeResolvesSpec)) treeResolvesUptoCard

/-- THE SECOND FORM's CARD OF 'burrowlaw14.TreeOnce'. -/
def treeOnceUptoCard : Claim7 := { stood := { row := treeOnceUptoRow, standIns := [], harness := (true, "bebb6020ae0cb2bd1112346e88cdc09d0af414d712a35b81447878af11cd0c9e"), looks := true }, kinds := [], alts := [], laidByText := true, laidKinds := [.data, .data], laidTests := true, laidLooks := .later }
def TreeOnceUptoCardSaid : Prop := Claim7.holds Tryd.pinned (.plain (OpenSpec.upto treeOnceSpec)) treeOnceUptoCard
end Rows
end Go.Proofs.YtkcmlclomcidiaaDoor
