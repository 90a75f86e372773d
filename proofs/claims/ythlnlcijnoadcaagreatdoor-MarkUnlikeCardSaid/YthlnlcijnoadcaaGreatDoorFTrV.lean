/- This file holds the texts TrU, TrV, a section each. No conditions beyond those in the theorems. -/
import Derived.Test.YthlnlcijnoadcaaGreatDoorFTrT
set_option linter.all false
section
namespace Go.Proofs.YthlnlcijnoadcaaGreatDoor.Tr
open Go Go.Sy
noncomputable def rmH (N:Nat) (t:Nat→Nod) (c:Int):List Blk:=[.b [.int .i64 c],.b [.rows 99 N (tng t)],.b [.rsl 1 99 N N false]]
noncomputable def rnS (N:Nat) (t u:Nat→Nod) (i c:Int):St:=⟨slotsOf 52 [(1,.int .i64 i),(7,.rsl 4 99 N N false)],rmH N t c++[.gap,.b [.rows 99 N (tng u)]],true⟩
end Go.Proofs.YthlnlcijnoadcaaGreatDoor.Tr
end
section
namespace Go.Proofs.YthlnlcijnoadcaaGreatDoor.Tr
open Go Go.Sy
theorem TOK.upd {N x:Nat} {t:Nat→Nod} {n:Nod} (h:TOK N t) (h1:n.un.length≤274877906944) (h2:n.key.length=32) (h3:n.sign.length=32) (h4:n.par.length=32):TOK N (updT t x n):=by
 refine ⟨h.le,fun i hi=>?_,fun i hi=>?_,fun i hi=>?_,fun i hi=>?_⟩<;>unfold updT<;>by_cases hx:i=x
 ·rw [if_pos hx];exact h1
 ·rw [if_neg hx];exact h.un i hi
 ·rw [if_pos hx];exact h2
 ·rw [if_neg hx];exact h.key i hi
 ·rw [if_pos hx];exact h3
 ·rw [if_neg hx];exact h.sign i hi
 ·rw [if_pos hx];exact h4
 ·rw [if_neg hx];exact h.par i hi
theorem TOK.zero {N x:Nat} {t:Nat→Nod} (h:TOK N t):TOK N (updT t x zeroN):=h.upd (by simp [zeroN]) (by simp [zeroN]) (by simp [zeroN]) (by simp [zeroN])
theorem leaves_half0:((List.range 72).all fun n=>decide (0≤IntKind.i64.wrap ((leavesV (n:Nat)).tdiv 2))&&decide (IntKind.i64.wrap ((leavesV (n:Nat)).tdiv 2)≤71))=true:=by decide+kernel
theorem leaves_half {n:Nat} (hn:n≤71):decide (0≤IntKind.i64.wrap ((leavesV (n:Nat)).tdiv 2))=true∧decide (IntKind.i64.wrap ((leavesV (n:Nat)).tdiv 2)≤71)=true:=by
 have:=List.all_eq_true.1 leaves_half0 n (List.mem_range.2 (by omega))
 exact Bool.and_eq_true_iff.1 this
section
variable {N:Nat} {t:Nat→Nod} {i:Int}
end
end Go.Proofs.YthlnlcijnoadcaaGreatDoor.Tr
end
