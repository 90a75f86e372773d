/- This file proves the contracts of box's Seal, errors too. Conditions: bytes; keys of 32 bytes. -/
import Derived.Test.YtibfpjeeanppjaaWBxA
set_option linter.all false
set_option maxRecDepth 100000
namespace Go.Proofs.Ytibfpjeeanppjaa.Bx
open Go Go.Sy Sh La
noncomputable def blC (a : Bool) : Ctr := mk (P := Try.prog) [] [] fun i => if i = 17 then some a else if i = 21 then some true else none
theorem blC_ok (a : Bool) : CtrSound Try.prog (blC a) := mk_sound _ InlOK.nil _ _
def lenX : SV := .iface 40 (.int .i64 1)
section
variable (p d info text : List Int)
theorem bl_a : (callS Try.prog (blC true) 60 Try.f7 [.agg [.ints .u8 32 p], .agg [.ints .u8 32 d], .ro false .u8 info, .ro false .u8 text] []).map (fun x => (x.1, x.2.2)) =
    some (.tup [.nl (.slice none 0 0), lenX], andT true (decide ((info.length : Int) > 65536))) := by kernel_rfl
theorem bl_b : (callS Try.prog (blC false) 60 Try.f7 [.agg [.ints .u8 32 p], .agg [.ints .u8 32 d], .ro false .u8 info, .ro false .u8 text] []).map (fun x => (x.1, x.2.2)) =
    some (.tup [.nl (.slice none 0 0), lenX], andT (andT true (!decide ((info.length : Int) > 65536))) (decide ((text.length : Int) > 65536))) := by kernel_rfl
end
noncomputable def boxSF (u : Nat) : List SV → Option (SV × List Blk × Bool)
  | [.agg [.ints .u8 32 p], .agg [.ints .u8 32 d], .ro false .u8 info, .ro false .u8 text] => match u with
    | 0 => some (.tup [.nl (.slice none 0 0), lenX], [], decide (65536 < info.length ∨ 65536 < text.length))
    | 1 => some (.tup [.nl (.slice none 0 0), rangeX], [], Re.keyOK d && Re.keyOK p && agZ d p && decide (info.length ≤ 65536) && decide (text.length ≤ 65536))
    | _ => some (.tup [.ro true .u8 (boxW p d info text), .nl .nilIface], [], Re.keyOK d && Re.keyOK p && !agZ d p && decide (info.length ≤ 65536) && decide (text.length ≤ 65536))
  | _ => none
noncomputable def boxSE (u : Nat) : Entry Try.prog := .val 7 _ Try.func7 (by decide) rfl true 0 (boxSF u) fun vs v new e => by
  unfold boxSF at e
  split at e
  · rename_i p d info text
    split at e
    · simp only [Option.some.injEq, Prod.mk.injEq, decide_eq_true_eq] at e
      obtain ⟨rfl, rfl, h⟩ := e
      by_cases hi : 65536 < info.length
      · exact call0 (blC_ok true) 60 Try.func7 (bl_a p d info text) (by rw [decide_eq_true (show (info.length : Int) > 65536 by omega)]; rfl) rfl
      · exact call0 (blC_ok false) 60 Try.func7 (bl_b p d info text) (by rw [decide_eq_false (show ¬ (info.length : Int) > 65536 by omega), decide_eq_true (show (text.length : Int) > 65536 by omega)]; rfl) rfl
    · simp only [Option.some.injEq, Prod.mk.injEq, Bool.and_eq_true, decide_eq_true_eq] at e
      obtain ⟨rfl, rfl, ⟨⟨⟨h1, h2⟩, h3⟩, h4⟩, h5⟩ := e
      exact call0 (bsC_ok true false) 60 Try.func7 (bs_bad p d info text) (by rw [h1, h2, h3, decide_eq_false (show ¬ (info.length : Int) > 65536 by omega), decide_eq_false (show ¬ (text.length : Int) > 65536 by omega)]; rfl) rfl
    · simp only [Option.some.injEq, Prod.mk.injEq, Bool.and_eq_true, decide_eq_true_eq, Bool.not_eq_true'] at e
      obtain ⟨rfl, rfl, ⟨⟨⟨h1, h2⟩, h3⟩, h4⟩, h5⟩ := e
      exact bs_fn h1 h2 h3 h4 h5
  · cases e
end Go.Proofs.Ytibfpjeeanppjaa.Bx
