/- This file proves the contract of the reference's Long: the document's long digest. Conditions: lengths that memory bears. -/
import Derived.Test.YtkoohnpknhoahaaTShJ
set_option linter.all false
namespace Go.Proofs.Ytkoohnpknhoahaa.Sh
open Go Go.Sy
def padQ (xs : List Int) : List Int := padL xs 128 112 ++ endQ xs.length 16
def padQ8 (xs : List Int) : List Int := padL xs 64 56 ++ endQ xs.length 8
def padRF : List SV → Option (SV × List Blk × Bool)
  | [.ro false .u8 xs, .int .i64 pc, .int .i64 sz] => bif pc == 128 && sz == 16 then some (.ro true .u8 (padQ xs), [], decide (xs.length < 274877900000)) else bif pc == 64 && sz == 8 then some (.ro true .u8 (padQ8 xs), [], decide (xs.length < 274877900000)) else none
  | _ => none
noncomputable def padRE : Entry Try.prog := .val 91 _ Try.func91 (by decide) rfl true 0 padRF fun vs v new e => by
  unfold padRF at e
  split at e
  · rename_i xs pc sz
    by_cases h1 : (pc == 128 && sz == 16) = true
    · rw [h1] at e
      simp only [Bool.and_eq_true, beq_iff_eq] at h1
      obtain ⟨rfl, rfl⟩ := h1
      simp only [cond_true, Option.some.injEq, Prod.mk.injEq, decide_eq_true_eq] at e
      obtain ⟨rfl, rfl, h⟩ := e
      exact padR_fn h
    · rw [Bool.not_eq_true] at h1
      rw [h1] at e
      by_cases h2 : (pc == 64 && sz == 8) = true
      · rw [h2] at e
        simp only [Bool.and_eq_true, beq_iff_eq] at h2
        obtain ⟨rfl, rfl⟩ := h2
        simp only [cond_true, cond_false, Option.some.injEq, Prod.mk.injEq, decide_eq_true_eq] at e
        obtain ⟨rfl, rfl, h⟩ := e
        exact padR_fn8 h
      · rw [Bool.not_eq_true] at h2
        rw [h2] at e
        cases e
  · cases e
end Go.Proofs.Ytkoohnpknhoahaa.Sh
