/- This file holds the texts TsM, TsN, a section each. No conditions beyond those in the theorems. -/
import Derived.Test.YthlnlcijnoadcaaGreatDoorFTsL
set_option linter.all false
section
namespace Go.Proofs.YthlnlcijnoadcaaGreatDoor.Tr
open Go Go.Sy
def okNod0:List SV→Bool
 | [.bool _,.int .i64 _,.ints .u8 32 k,.ints .u8 32 s,.ints .u8 32 p,.ro false .i64 _]=>decide (k.length=32)&&decide (s.length=32)&&decide (p.length=32)
 |_=>false
def okT0 (N:Nat) (g:Nat→List SV):Bool:=(List.range N).all fun i=>okNod0 (g i)
theorem okNod0_eq {l:List SV} (h:okNod0 l=true):l=(nodOf l).cells:=by
 unfold okNod0 at h
 split at h
 ·rfl
 ·cases h
theorem okT0_up {N:Nat} {t:Nat→Nod} (h:okT0 N (tng t)=true) (hl:∀i,i<N→(t i).un.length≤274877906944):okT N (tng t)=true:=okT_iff.2 fun i hi=>by
 have:=List.all_eq_true.1 h i (List.mem_range.2 hi)
 have q:(decide ((t i).key.length=32)&&decide ((t i).sign.length=32)&&decide ((t i).par.length=32))=true:=this
 simp only [Bool.and_eq_true,decide_eq_true_eq] at q
 exact ⟨rfl,hl i hi,q.1.1,q.1.2,q.2⟩
noncomputable def goodE (b:Bool):Entry Tryz.prog:=.val 19 _ Tryz.func19 (by decide) rfl true 0 (fun vs=>match vs with
 | [.rol false 99 N g]=>some (.bool b,[],okT N g&&decide (N≤71)&&(goodQ N (treeOf g)==b))
 |_=>none) fun vs v new e=>by
 split at e
 ·simp only [Option.some.injEq,Prod.mk.injEq,Bool.and_eq_true,decide_eq_true_eq,beq_iff_eq] at e
  obtain ⟨rfl,rfl,⟨h1,h2⟩,h3⟩:=e
  rw [←h3]
  exact FnTr.conv (good_fn (TOK.of h1 h2)) ⟨VE.tree h1,trivial⟩ trivial (VE.refl _) trivial
 ·cases e
noncomputable def rSameE:Entry Tryz.prog:=.val 17 _ Tryz.func17 (by decide) rfl true 0 (fun vs=>match vs with
 | [.rol false 99 N g,.rol false 99 M g']=>some (.bool (treeB N M (treeOf g) (treeOf g')),[],okT N g&&okT M g'&&decide (N≤71)&&decide (M≤71))
 |_=>none) fun vs v new e=>by
 split at e
 ·simp only [Option.some.injEq,Prod.mk.injEq,Bool.and_eq_true,decide_eq_true_eq] at e
  obtain ⟨rfl,rfl,⟨⟨h1,h2⟩,h3⟩,h4⟩:=e
  exact FnTr.conv (rSame_fn (t:=treeOf _) (u:=treeOf _) (by omega) (TOK.of h1 h3).parts (TOK.of h2 h4).parts) ⟨VE.tree h1,VE.tree h2,trivial⟩ trivial (VE.refl _) trivial
 ·cases e
end Go.Proofs.YthlnlcijnoadcaaGreatDoor.Tr
end
section
namespace Go.Proofs.YthlnlcijnoadcaaGreatDoor.Tr
open Go Go.Sy
section
variable {N M:Nat} {t u:Nat→Nod} {nm:Int}
end
end Go.Proofs.YthlnlcijnoadcaaGreatDoor.Tr
end
