/- This file proves the law TreeChecks from its runs. Conditions: those of its data. -/
import Derived.Test.YtkcmlclomcidiaaDoorATsM
set_option linter.all false
namespace Go.Proofs.YtkcmlclomcidiaaDoor.Tr
open Go Go.Sy
section
variable {N M : Nat} {t u : Nat → Nod} {nm : Int}
theorem large_le (h : largeB N t = false) : N ≤ 71 := by
  unfold largeB scanV at h
  cases hq : firstN (lgJ t) N with
  | some j => rw [hq] at h; cases h
  | none =>
    refine Classical.byContradiction fun g => ?_
    have := firstN_none hq 71 (by omega)
    unfold lgJ at this
    rw [decide_eq_true (show ((71 : Nat) : Int) > 70 by omega)] at this
    cases this
theorem large_un (h : largeB N t = false) : ∀ i, i < N → (t i).un.length ≤ 274877906944 := by
  unfold largeB scanV at h
  cases hq : firstN (lgJ t) N with
  | some j => rw [hq] at h; cases h
  | none =>
    intro i hi
    have := firstN_none hq i hi
    unfold lgJ at this
    have h2 := (Bool.and_eq_true_iff.1 this).2
    refine Classical.byContradiction fun g => ?_
    rw [decide_eq_true (show ((t i).un.length : Int) > 50 by omega)] at h2
    cases h2
theorem nsB_refl (a : Nod) : nsB a a = true := by
  unfold nsB sameB
  simp
theorem treeB_refl : treeB N N t t = true := by
  unfold treeB scanV
  cases hq : firstN (fun i => nsB (t i) (t i)) N with
  | none => simp
  | some j =>
    have := (find_range hq).2.1
    rw [nsB_refl] at this
    cases this
theorem treeChecks_law (hT0 : okT0 N (tng t) = true) (hU0 : okT0 M (tng u) = true) :
    FnTr Tryd.prog 5 [.rol false 99 N (tng t), .rol false 99 M (tng u), .int .i64 nm] [] (.bool true) [] := by
  have z1 : okT0 N (fun i => coolL (tng t i)) = true := hT0
  have z2 : okT0 M (fun i => coolL (tng u i)) = true := hU0
  cases g1 : largeB N t with
  | true => exact call0 (tcC_ok _ _) 60 Tryd.func5 (tc_a N M t u nm) (by rw [z1, show largeB N (treeOf fun i => coolL (tng t i)) = true from g1]; rfl) rfl
  | false =>
  have a1 : largeB N (treeOf fun i => coolL (tng t i)) = false := g1
  cases g2 : largeB M u with
  | true => exact call0 (tcC_ok _ _) 60 Tryd.func5 (tc_b N M t u nm) (by rw [z1, a1, z2, show largeB M (treeOf fun i => coolL (tng u i)) = true from g2]; rfl) rfl
  | false =>
  have a2 : largeB M (treeOf fun i => coolL (tng u i)) = false := g2
  have hT := okT0_up hT0 (large_un g1)
  have hU := okT0_up hU0 (large_un g2)
  have h1 : okT N (fun i => coolL (tng t i)) = true := hT
  have h2 : okT M (fun i => coolL (tng u i)) = true := hU
  have e1 := large_le g1
  have e2 := large_le g2
  have d3 : decide (N ≤ 71) = true := decide_eq_true e1
  have d4 : decide (M ≤ 71) = true := decide_eq_true e2
  have h3 : okT N (fun i => coolL (tng (treeOf fun i => coolL (tng t i)) i)) = true := hT
  have r : treeB N N (treeOf fun i => coolL (tng t i)) (treeOf fun i => coolL (tng (treeOf fun i => coolL (tng t i)) i)) = true := treeB_refl (N := N) (t := t)
  have hg := check_good (t := t) e1
  cases hc : checkB N t with
  | true =>
    have q := tc_c N M t u nm
    rw [hc, cond_true, beq_self_eq_true] at q
    refine call0 (tcC_ok _ _) 60 Tryd.func5 q ?_ rfl
    rw [z1, a1, z2, a2, h1, h2, d3, d4, h3, r, beq_self_eq_true, show checkB N (treeOf fun i => coolL (tng t i)) = true from hc, show goodQ N (treeOf fun i => coolL (tng t i)) = true from hg ▸ hc]
    rfl
  | false =>
    have q := tc_d N M t u nm
    rw [hc, cond_false, beq_self_eq_true] at q
    refine call0 (tcC_ok _ _) 60 Tryd.func5 q ?_ rfl
    rw [z1, a1, z2, a2, h1, h2, d3, d4, h3, r, show (treeB N M (treeOf fun i => coolL (tng t i)) (treeOf fun i => coolL (tng u i)) == treeB N M (treeOf fun i => coolL (tng t i)) (treeOf fun i => coolL (tng u i))) = true from beq_self_eq_true _, show checkB N (treeOf fun i => coolL (tng t i)) = false from hc, show goodQ N (treeOf fun i => coolL (tng t i)) = false from hg ▸ hc]
    rfl
end
end Go.Proofs.YtkcmlclomcidiaaDoor.Tr
