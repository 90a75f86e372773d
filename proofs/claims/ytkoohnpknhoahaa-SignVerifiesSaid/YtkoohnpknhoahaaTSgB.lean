/- This file proves contracts of sign.split and sign.residue. Conditions: lengths that memory bears. -/
import Derived.Test.YtkoohnpknhoahaaTSgA
import Derived.Test.YtkoohnpknhoahaaTShH
set_option linter.all false
namespace Go.Sy
open Go
theorem callH {P : Program} {Γ : Ctr} (hΓ : CtrSound P Γ) (n : Nat) {f : FuncId} {fn : Func} (hf : P.funcs[f]? = some fn) {args : List SV} {h h' : List Blk} {v : SV} {p : Bool} (e : callS P Γ n fn args h = some (v, h', p)) (hp : p = true) : FnTr P f args h v h' := by
  subst hp
  exact FnTr.of_callS hΓ hf e
end Go.Sy
namespace Go.Proofs.Ytkoohnpknhoahaa.Sg
open Go Go.Sy Sh
theorem longW_by (xs : List Int) : ∀ x ∈ longW xs, 0 ≤ x ∧ x < 256 := by
  intro x hx
  simp only [longW, Lock_eq, outB, List.mem_map] at hx
  obtain ⟨i, _, rfl⟩ := hx
  simp only [IntKind.wrap, IntKind.signed, IntKind.bits]
  simp
  omega
theorem by_u8 {l : List Int} (h : ∀ x ∈ l, 0 ≤ x ∧ x < 256) : l.all u8 = true := by
  rw [List.all_eq_true]
  intro x hx
  exact u8_iff.2 (h x hx)
theorem longW_u8 (xs : List Int) : (longW xs).all u8 = true := by_u8 (longW_by xs)
noncomputable def spC : Ctr := mk (P := Try.prog) [longE, clampE] []
theorem spC_ok : CtrSound Try.prog spC := mk_sound _ InlOK.nil _ _
noncomputable def spO (l : List Int) : Bool := andT (andT true (andT (andT true (andT (andT true (decide (l.length = 32) && true)) (decide (l.length = 32)))) (decide ([l].flatten.length < 274877900000) && true))) (andT true (decide (((longW [l].flatten).take 32).length = 32)))
noncomputable def nK (l : List Int) : List Int := clF ((longW [l].flatten).take 32)
noncomputable def preW (l : List Int) : List Int := (longW [l].flatten).drop 32
theorem split_fn {l : List Int} (hl : l.length = 32) : FnTr Try.prog 45 [.agg [.ints .u8 32 l]] [] (.tup [.agg [.ints .u8 32 (nK l)], .ro true .u8 (preW l)]) [] := by
  have h64 := longW_len [l].flatten
  have h64' := longW_len l
  have hp : spO l = true := by
    unfold spO
    simp [hl, h64', andT]
  have k1 : (callS Try.prog spC 60 Try.f45 [.agg [.ints .u8 32 l]] []) =
      some (.tup [.agg [.ints .u8 32 (nK l)], .sl 3 0 32 1 32 32 true false], [.b [.ints .u8 32 l], .b [.ints .u8 32 (nK l)], .b [.sl 0 0 0 1 32 32 true true], .b [.ints .u8 64 (longW [l].flatten)]], spO l) := by kernel_rfl
  have k2 := callH spC_ok 60 Try.func45 k1 hp
  have k3 := FnTr.fz 3 0 (by simp) (by simp) k2 (u := .tup [.agg [.ints .u8 32 (nK l)], .ro true .u8 (((longW [l].flatten).drop 32).take 32)]) (h2 := []) (p := decide ((longW [l].flatten).length = 64)) (by kernel_rfl) (decide_eq_true h64)
  rw [List.take_of_length_le (by simp [h64'])] at k3
  exact k3
noncomputable def splitF : List SV → Option (SV × List Blk × Bool)
  | [.agg [.ints .u8 32 l]] => some (.tup [.agg [.ints .u8 32 (nK l)], .ro true .u8 (preW l)], [], decide (l.length = 32))
  | _ => none
noncomputable def splitE : Entry Try.prog := .val 45 _ Try.func45 (by decide) rfl false 0 splitF fun vs v new e => by
  unfold splitF at e
  split at e
  · simp only [Option.some.injEq, Prod.mk.injEq, decide_eq_true_eq] at e
    obtain ⟨rfl, rfl, h⟩ := e
    exact split_fn h
  · cases e
noncomputable def rsC : Ctr := mk (P := Try.prog) [longE, reduceE] []
theorem rsC_ok : CtrSound Try.prog rsC := mk_sound _ InlOK.nil _ _
theorem residue_fn {xss : List (List Int)} (h1 : xss.flatten.length < 274877900000) (h2 : xss.length ≤ 274877906944) : FnTr Try.prog 57 [.rob false xss] [] (.agg [.ints .u8 32 (redF (longW xss.flatten))]) [] := by
  have h64 := longW_len xss.flatten
  have hb := longW_u8 xss.flatten
  exact call0 rsC_ok 60 Try.func57 (p := andT (andT true (andT true (decide (xss.flatten.length < 274877900000) && decide (xss.length ≤ 274877906944)))) (andT (andT (decide ((longW xss.flatten).length = 64) && true) (decide ((longW xss.flatten).length = 64))) ((longW xss.flatten).all u8 && (decide (0 < (longW xss.flatten).length) && decide ((longW xss.flatten).length ≤ 64))))) (by kernel_rfl)
    (by simp only [decide_eq_true h1, decide_eq_true h2, h64, hb]; rfl) rfl
noncomputable def residueF : List SV → Option (SV × List Blk × Bool)
  | [.rob false xss] => some (.agg [.ints .u8 32 (redF (longW xss.flatten))], [], decide (xss.flatten.length < 274877900000) && decide (xss.length ≤ 274877906944))
  | _ => none
noncomputable def residueE : Entry Try.prog := .val 57 _ Try.func57 (by decide) rfl true 0 residueF fun vs v new e => by
  unfold residueF at e
  split at e
  · simp only [Option.some.injEq, Prod.mk.injEq, Bool.and_eq_true, decide_eq_true_eq] at e
    obtain ⟨rfl, rfl, h1, h2⟩ := e
    exact residue_fn h1 h2
  · cases e
end Go.Proofs.Ytkoohnpknhoahaa.Sg
