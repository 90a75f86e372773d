/- This file proves the contracts of sha's wide, longs, begin and of slices.Chunk. Conditions: pieces of 128 bytes. -/
import Derived.Test.YtkoohnpknhoahaaJShF
set_option linter.all false
namespace Go.Proofs.Ytkoohnpknhoahaa.Sh
open Go Go.Sy
def pickK (vs : List SV) : List Nat := match vs with
  | [_, _, .ptr b _ _] => [b]
  | _ => []
noncomputable def wideF : List SV → List Blk → Option (SV × Bool)
  | [.agg [.ints .u64 8 st], .ro false .u8 p, .ptr 0 0 0], [.b [.ints .u64 80 kk]] => some (.agg [.ints .u64 8 (wideW (lst 8 st) p kk)], decide (p.length = 128))
  | _, _ => none
noncomputable def wideE : Entry Try.prog := .rdm 130 _ Try.func130 (by decide) rfl pickK wideF fun vs h0 v e => by
  unfold wideF at e
  split at e
  · simp only [Option.some.injEq, Prod.mk.injEq, decide_eq_true_eq] at e
    obtain ⟨rfl, h⟩ := e
    exact wide_fn h
  · cases e
def intsOf : Option (SV × List Blk × Bool) → List Int
  | some (.agg [.ints _ _ l], _, _) => l
  | _ => []
noncomputable def kL : List Int := intsOf (callS Try.prog (mk (P := Try.prog) [] []) 60 Try.f127 [] [])
noncomputable def bL : List Int := intsOf (callS Try.prog (mk (P := Try.prog) [] []) 60 Try.f126 [] [])
noncomputable def longsF : List SV → Option (SV × List Blk × Bool)
  | [] => some (.agg [.ints .u64 80 kL], [], true)
  | _ => none
set_option maxRecDepth 100000 in
noncomputable def longsE : Entry Try.prog := .val 127 _ Try.func127 (by decide) rfl false 0 longsF fun vs v new e => by
  unfold longsF at e
  split at e
  · cases e
    exact call0 ctr0 60 Try.func127 (p := true) (by kernel_rfl) rfl rfl
  · cases e
noncomputable def beginF : List SV → Option (SV × List Blk × Bool)
  | [] => some (.agg [.ints .u64 8 bL], [], true)
  | _ => none
set_option maxRecDepth 100000 in
noncomputable def beginE : Entry Try.prog := .val 126 _ Try.func126 (by decide) rfl false 0 beginF fun vs v new e => by
  unfold beginF at e
  split at e
  · cases e
    exact call0 ctr0 60 Try.func126 (p := true) (by kernel_rfl) rfl rfl
  · cases e
noncomputable def chC : Ctr := mk (P := Try.prog) [] [] fun i => if i = 6 then some false else none
theorem chC_ok : CtrSound Try.prog chC := mk_sound _ InlOK.nil _ _
noncomputable def chunkF : List SV → Option (SV × List Blk × Bool)
  | [.ro false .u8 xs, .int .i64 n] => some (.fn (.func 161) [] [.ptr 0 0 0, .ptr 1 0 0], [.b [.ro false .u8 xs], .b [.int .i64 n]], !decide (n < 1))
  | _ => none
set_option maxRecDepth 100000 in
noncomputable def chunkE : Entry Try.prog := .val 128 _ Try.func128 (by decide) rfl true 2 chunkF fun vs v new e => by
  unfold chunkF at e
  split at e
  · rename_i xs n
    simp only [Option.some.injEq, Prod.mk.injEq] at e
    obtain ⟨rfl, rfl, h⟩ := e
    exact callM chC_ok 30 Try.func128 2 (by simp) (p := andT true (!decide (n < 1))) (by kernel_rfl) (by rw [h]; rfl) rfl rfl
  · cases e
end Go.Proofs.Ytkoohnpknhoahaa.Sh
