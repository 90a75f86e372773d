/- This file holds the texts TsM, TsN, a section each. No conditions beyond those in the theorems. -/
import Derived.Test.YtkcmlclomcidiaaDoorCTsL
set_option linter.all false
section
namespace Go.Proofs.YtkcmlclomcidiaaDoor.Tr
open Go Go.Sy
noncomputable def aliveE : Entry Tryd.prog := .val 9 _ Tryd.func9 (by decide) rfl false 0 (fun vs => match vs with
  | [] => some (.bool true, [], true)
  | _ => none) fun vs v new e => by
  split at e
  · simp only [Option.some.injEq, Prod.mk.injEq] at e
    obtain ⟨rfl, rfl, _⟩ := e
    exact alive_fn
  · cases e
def okNod0 : List SV → Bool
  | [.bool _, .int .i64 _, .ints .u8 32 k, .ints .u8 32 s, .ints .u8 32 p, .ro false .i64 _] => decide (k.length = 32) && decide (s.length = 32) && decide (p.length = 32)
  | _ => false
def okT0 (N : Nat) (g : Nat → List SV) : Bool := (List.range N).all fun i => okNod0 (g i)
theorem okNod0_eq {l : List SV} (h : okNod0 l = true) : l = (nodOf l).cells := by
  unfold okNod0 at h
  split at h
  · rfl
  · cases h
theorem okT0_up {N : Nat} {t : Nat → Nod} (h : okT0 N (tng t) = true) (hl : ∀ i, i < N → (t i).un.length ≤ 274877906944) : okT N (tng t) = true := okT_iff.2 fun i hi => by
  have := List.all_eq_true.1 h i (List.mem_range.2 hi)
  have q : (decide ((t i).key.length = 32) && decide ((t i).sign.length = 32) && decide ((t i).par.length = 32)) = true := this
  simp only [Bool.and_eq_true, decide_eq_true_eq] at q
  exact ⟨rfl, hl i hi, q.1.1, q.1.2, q.2⟩
noncomputable def largeE : Entry Tryd.prog := .val 10 _ Tryd.func10 (by decide) rfl true 0 (fun vs => match vs with
  | [.rol false 99 N g] => some (.bool (largeB N (treeOf g)), [], okT0 N g)
  | _ => none) fun vs v new e => by
  split at e
  · rename_i N g
    simp only [Option.some.injEq, Prod.mk.injEq] at e
    obtain ⟨rfl, rfl, h1⟩ := e
    exact FnTr.conv (large_fn (t := treeOf g)) ⟨VE.rolc fun i hi => okNod0_eq (List.all_eq_true.1 h1 i (List.mem_range.2 hi)), trivial⟩ trivial (VE.refl _) trivial
  · cases e
noncomputable def goodE (b : Bool) : Entry Tryd.prog := .val 11 _ Tryd.func11 (by decide) rfl true 0 (fun vs => match vs with
  | [.rol false 99 N g] => some (.bool b, [], okT N g && decide (N ≤ 71) && (goodQ N (treeOf g) == b))
  | _ => none) fun vs v new e => by
  split at e
  · simp only [Option.some.injEq, Prod.mk.injEq, Bool.and_eq_true, decide_eq_true_eq, beq_iff_eq] at e
    obtain ⟨rfl, rfl, ⟨h1, h2⟩, h3⟩ := e
    rw [← h3]
    exact FnTr.conv (good_fn (TOK.of h1 h2)) ⟨VE.tree h1, trivial⟩ trivial (VE.refl _) trivial
  · cases e
end Go.Proofs.YtkcmlclomcidiaaDoor.Tr
end
section
namespace Go.Proofs.YtkcmlclomcidiaaDoor.Tr
open Go Go.Sy
section
variable {N M : Nat} {t u : Nat → Nod} {nm : Int}
theorem large_le (h : largeB N t = false) : N ≤ 71 := by
  unfold largeB scanV at h
  cases hq : firstN (lgJ t) N with
  | some j => rw [hq] at h; cases h
  | none =>
    refine Classical.byContradiction fun g => ?_
    have := firstN_none hq 71 (by omega)
    unfold lgJ at this
    rw [decide_eq_true (show ((71 : Nat) : Int) > 70 by omega)] at this
    cases this
theorem large_un (h : largeB N t = false) : ∀ i, i < N → (t i).un.length ≤ 274877906944 := by
  unfold largeB scanV at h
  cases hq : firstN (lgJ t) N with
  | some j => rw [hq] at h; cases h
  | none =>
    intro i hi
    have := firstN_none hq i hi
    unfold lgJ at this
    have h2 := (Bool.and_eq_true_iff.1 this).2
    refine Classical.byContradiction fun g => ?_
    rw [decide_eq_true (show ((t i).un.length : Int) > 50 by omega)] at h2
    cases h2
end
end Go.Proofs.YtkcmlclomcidiaaDoor.Tr
end
