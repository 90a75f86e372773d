/- This file holds the texts TrX, TrW, a section each. No conditions beyond those in the theorems. -/
import Derived.Test.YthlnlcijnoadcaaGreatDoorFTrV
set_option linter.all false
section
namespace Go.Sy
open Go
section
variable {P:Program}
end
end Go.Sy
end
section
namespace Go.Proofs.YthlnlcijnoadcaaGreatDoor.Tr
open Go Go.Sy
def nodA:List SV→Option Nod
 | [.bool u,.int .i64 n,.ints .u8 32 k,.ints .u8 32 s,.ints .u8 32 p,.ro false .i64 un]=>some ⟨u,n,k,s,p,un⟩
 | [.bool u,.int .i64 n,.ints .u8 32 k,.ints .u8 32 s,.ints .u8 32 p,.nl (.slice none 0 0)]=>some ⟨u,n,k,s,p,[]⟩
 |_=>none
theorem nodA_ve {l:List SV} {n:Nod} (h:nodA l=some n):PE l n.cells:=by
 unfold nodA at h
 split at h
 ·cases h;exact PE.refl _
 ·rename_i u n' k s p
  cases h
  exact PE.last (ps:=[.bool u,.int .i64 n',.ints .u8 32 k,.ints .u8 32 s,.ints .u8 32 p]) rfl rfl (VE.nilRo false .i64)
 ·cases h
def freeJ (N:Nat) (t:Nat→Nod):Nat:=((List.range 32).find? fun j=>!(decide (2*j<N)&&(t (2*j)).used)).getD 32
def addM (N:Nat) (t:Nat→Nod):Nat:=bif decide (2*freeJ N t<N) then N else 2*N+1
def addL (N:Nat) (t:Nat→Nod):Nat:=(leavesV (addM N t)).toNat
theorem PE.one (z:Nat) {ps:List SV} {g:Nat→List SV} (hz:psize ps=z) (hc:closedL ps=true) (h:PE ps (g 0)):PE ps [.rows z 1 g]:=by
 refine ⟨by simp [psize,psz,hz],fun e ys q=>PR.consRows.2 ⟨ys,[],by rw [q.length];omega,fun i hi=>?_,rfl,by simp⟩⟩
 obtain rfl:i=0:=by omega
 have hl:=q.length
 rw [Nat.zero_mul,List.drop_zero,List.take_of_length_le (by omega)]
 exact h.2 _ _ (q.closed hc)
end Go.Proofs.YthlnlcijnoadcaaGreatDoor.Tr
end
