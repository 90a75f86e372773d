/- This file proves the tied card of the row MarkKeeps. No conditions. -/
import Derived.Test.YthlnlcijnoadcaaGreatDoorDMkU
import Derived.Test.YthlnlcijnoadcaaGreatDoorTie
import Derived.Test.YthlnlcijnoadcaaGreatDoorCards
import Derived.SevenTiedAt
set_option linter.all false
namespace Go.Proofs.YthlnlcijnoadcaaGreatDoor
open Go
theorem markKeepsProved:Rows.MarkKeepsCardSaid:=
 Claim7.holds_tied_plain_at .later [] [.data,.data] true (true,"a88019d52237b3b2bcdfc654be927e8b6f6b87a54cf3af774734f59c7cf98027") true
  markKeeps.over (fun _ h=>by cases h) (by kernel_rfl) (fun _ h=>by cases h) markKeeps_row_tie rfl ⟨rfl,rfl⟩ (by kernel_rfl) rfl
  (fun f fn hf hfn=>by
   obtain rfl:f=10:=Option.some.inj ((show Tryz.prog.funcNamed "burrow/burrowlaw15.MarkKeeps"=some 10 by kernel_rfl).symm.trans hf) |>.symm
   obtain rfl:fn=Tryz.f10:=(Option.some.inj (Tryz.func10.symm.trans hfn)).symm
   exact ⟨by kernel_rfl,fun j t ht=>by
    rw [Tryz.params10] at ht
    have h3:t=23∨t=3∨t=5:=by
     rcases j with _|_|_|j
     ·left;simpa using ht.symm
     ·right;left;simpa using ht.symm
     ·right;right;simpa using ht.symm
     ·simp at ht
    rcases h3 with rfl|rfl|rfl
    ·exact (show Tryz.prog.wantsStandIn 23=false by kernel_rfl)
    ·exact (show Tryz.prog.wantsStandIn 3=false by kernel_rfl)
    ·exact (show Tryz.prog.wantsStandIn 5=false by kernel_rfl)⟩)
  (by kernel_rfl)
#print axioms markKeepsProved
end Go.Proofs.YthlnlcijnoadcaaGreatDoor
