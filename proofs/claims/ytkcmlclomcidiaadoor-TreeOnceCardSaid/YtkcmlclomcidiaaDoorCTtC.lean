/- This file proves the law TreeResolves. Conditions: those of its data. -/
import Derived.Test.YtkcmlclomcidiaaDoorCTtB
set_option linter.all false
namespace Go.Proofs.YtkcmlclomcidiaaDoor.Tr
open Go Go.Sy
section
variable {N : Nat} {t : Nat → Nod} {x : Int}
theorem rsn_in (hc : checkB N t = true) (h0 : 0 ≤ x) (h1 : x < N) : rsnV N t x = resV t x := by
  unfold rsnV; rw [hc, decide_eq_true h0, decide_eq_true h1]; rfl
theorem resV_len (hT : TOK N t) (hc : checkB N t = true) (h0 : 0 ≤ x) (h1 : x < N) : (resV t x).length ≤ 8320 := by
  obtain ⟨hu, ht⟩ := check_un hT hc
  obtain ⟨n, hn, hN⟩ := treeN_iff ht
  obtain ⟨y, rfl⟩ := Int.eq_ofNat_of_zero_le h0
  have l := resL_len hu hn hN (lvN 7 y) y (by omega) rfl
  have hj : 2 ^ lvN 7 y ≤ 2 ^ 7 := Nat.pow_le_pow_right (by decide) (lvN_le 7 y)
  unfold resV
  rw [Int.toNat_natCast]
  omega
end
end Go.Proofs.YtkcmlclomcidiaaDoor.Tr
