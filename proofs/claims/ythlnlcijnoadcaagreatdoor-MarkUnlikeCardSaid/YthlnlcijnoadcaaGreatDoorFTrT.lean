/- This file proves the contract of tree's blank. Conditions: a tree of 32 leaves at most. -/
import Derived.Test.YthlnlcijnoadcaaGreatDoorFTrS
set_option linter.all false
namespace Go.Proofs.YthlnlcijnoadcaaGreatDoor.Tr
open Go Go.Sy
section
variable {N:Nat} {ex:Bool} {t:Nat→Nod} {j m:Nat}
end
noncomputable def usC (l:List (Nat×Bool)):Ctr:=mk (P:=Tryz.prog) [] [] (uT l)
theorem usC_ok (l:List (Nat×Bool)):CtrSound Tryz.prog (usC l):=mk_sound _ InlOK.nil _ _
end Go.Proofs.YthlnlcijnoadcaaGreatDoor.Tr
