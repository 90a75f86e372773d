/- This file proves the contracts of field's less (as it is used), Inv, imaginary, Root. Conditions: none. -/
import Derived.Test.YtailgcdcdhhpnaaFeE
namespace Go.Proofs.Ytailgcdcdhhpnaa.Fe
open Go Go.Sy

/-- The block that the closure has captured. -/
def pickC (vs : List SV) : List Nat := match vs with
  | [_, .fn _ _ [.ptr b _ _]] => [b]
  | _ => []
noncomputable def powEF : List SV → List Blk → Option (SV × Bool)
  | [.agg [.ints .u64 5 a], .fn (.func 74) [] [.ptr 0 0 0]], [.b [.ints .u8 32 e]] => some (.agg [.ints .u64 5 (powFe a e)], true)
  | _, _ => none
noncomputable def powE : Entry Try.prog := .rdm 71 _ Try.func71 (by decide) rfl pickC powEF fun vs h0 v e => by
  unfold powEF at e
  split at e
  · cases e; exact pw_fn _ _
  · cases e

/-! ### less -/
def e2 : List Int := 235 :: (List.replicate 30 255 ++ [127])
def e1 : List Int := 251 :: (List.replicate 30 255 ++ [31])
def e5 : List Int := 253 :: (List.replicate 30 255 ++ [15])
noncomputable def lessInl : List (FuncId × Func) := [(58, Try.f58), (55, Try.f55), (63, Try.f63), (38, Try.f38)]
theorem lessInl_ok : InlOK Try.prog lessInl :=
  InlOK.cons Try.func58 (by decide) (InlOK.cons Try.func55 (by decide) (InlOK.cons Try.func63 (by decide) (InlOK.cons Try.func38 (by decide) InlOK.nil)))
theorem ctrLess : CtrSound Try.prog (mk (P := Try.prog) [] lessInl) := mk_sound _ lessInl_ok _ _

noncomputable def lessEF : List SV → Option (SV × List Blk × Bool)
  | [.int .i64 n, .int .i64 m] => bif n == 2 && m == 0 then some (.agg [.ints .u8 32 e2], [], true) else bif n == 1 && m == 2 then some (.agg [.ints .u8 32 e1], [], true) else bif n == 5 && m == 3 then some (.agg [.ints .u8 32 e5], [], true) else none
  | _ => none
set_option maxRecDepth 100000 in
theorem less2 : FnTr Try.prog 72 [.int .i64 2, .int .i64 0] [] (.agg [.ints .u8 32 e2]) [] := call0 ctrLess 300 Try.func72 (p := true) (by kernel_rfl) rfl rfl
set_option maxRecDepth 100000 in
theorem less1 : FnTr Try.prog 72 [.int .i64 1, .int .i64 2] [] (.agg [.ints .u8 32 e1]) [] := call0 ctrLess 300 Try.func72 (p := true) (by kernel_rfl) rfl rfl
set_option maxRecDepth 100000 in
theorem less5 : FnTr Try.prog 72 [.int .i64 5, .int .i64 3] [] (.agg [.ints .u8 32 e5]) [] := call0 ctrLess 300 Try.func72 (p := true) (by kernel_rfl) rfl rfl
noncomputable def lessE : Entry Try.prog := .val 72 _ Try.func72 (by decide) rfl false 0 lessEF fun vs v new e => by
  unfold lessEF at e
  split at e
  · rename_i n m
    by_cases h1 : (n == 2 && m == 0) = true
    · rw [h1] at e
      simp only [Bool.and_eq_true, beq_iff_eq] at h1
      obtain ⟨rfl, rfl⟩ := h1
      cases e; exact less2
    · rw [Bool.not_eq_true] at h1
      rw [h1] at e
      by_cases h2 : (n == 1 && m == 2) = true
      · rw [h2] at e
        simp only [Bool.and_eq_true, beq_iff_eq] at h2
        obtain ⟨rfl, rfl⟩ := h2
        cases e; exact less1
      · rw [Bool.not_eq_true] at h2
        rw [h2] at e
        by_cases h3 : (n == 5 && m == 3) = true
        · rw [h3] at e
          simp only [Bool.and_eq_true, beq_iff_eq] at h3
          obtain ⟨rfl, rfl⟩ := h3
          cases e; exact less5
        · rw [Bool.not_eq_true] at h3
          rw [h3] at e
          cases e
  · cases e

end Go.Proofs.Ytailgcdcdhhpnaa.Fe
