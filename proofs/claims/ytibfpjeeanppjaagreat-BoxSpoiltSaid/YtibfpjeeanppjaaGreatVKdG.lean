/- This file proves the contract of the reference's Tag with no key, and of its Label. Conditions: bytes; lengths that memory bears. -/
import Derived.Test.YtibfpjeeanppjaaGreatVKdF
set_option linter.all false
set_option maxRecDepth 100000
namespace Go.Proofs.YtibfpjeeanppjaaGreat.Q2
open Go Go.Sy Sh
set_option maxHeartbeats 0 in
theorem tq0_run (text : List Int) : (callS Tryz.prog tqC 300 Tryz.f80 [.nl (.slice none 0 0), .ro false .u8 text] []).map (fun x => (x.1, x.2.2)) = some (.agg [.ints .u8 32 (tqW (pad0 54) (pad0 92) text)], tqO (pad0 54) (pad0 92) text) := by kernel_rfl
theorem pad_pd0 (c : Int) : Kd.pdX (Kd.pdB (Kd.pdK [])) c = pad0 c := by kernel_rfl
theorem pad0_len (c : Int) : (pad0 c).length = 64 := by simp [pad0]
theorem pad0_by (c : Int) : By (pad0 c) := by
  intro x hx
  simp only [pad0, List.mem_replicate] at hx
  rw [hx.2]
  exact xor8_by _ _
theorem tq0_eq {text : List Int} (ht : By text) (hl : text.length < 274877890000) : tqW (pad0 54) (pad0 92) text = Kd.tagW [] text := by
  have h1 : By (pad0 54 ++ text) := (pad0_by _).app ht
  have e1 := shortW_eq h1 (by rw [List.length_append, pad0_len]; omega)
  have h2 : By (pad0 92 ++ S2.shortW (pad0 54 ++ text)) := (pad0_by _).app (S2.shortW_by _)
  have e2 := shortW_eq h2 (by rw [List.length_append, pad0_len, S2.shortW_len]; omega)
  unfold tqW
  rw [Kd.tagW, Lock_eq, Kd.pdW, Kd.pdW, Lock_eq, Lock_eq, pad_pd0, pad_pd0, e2, e1]
theorem tag0_fn {text : List Int} (ht : u8R text = true) (hl : text.length < 274877890000) : FnTr Tryz.prog 80 [.nl (.slice none 0 0), .ro false .u8 text] [] (.agg [.ints .u8 32 (Kd.tagW [] text)]) [] := by
  have k := call0 tqC_ok 300 Tryz.func80 (tq0_run text) (tqO_true (pad0_len _) (pad0_len _) hl) rfl
  rw [tq0_eq (by_of ht) hl] at k
  exact k
noncomputable def tag0F : List SV → Option (SV × List Blk × Bool)
  | [.nl (.slice none 0 0), .ro false .u8 text] => some (.agg [.ints .u8 32 (Kd.tagW [] text)], [], u8R text && decide (text.length < 274877890000))
  | _ => none
noncomputable def tag0E : Entry Tryz.prog := .val 80 _ Tryz.func80 (by decide) rfl true 0 tag0F fun vs v new e => by
  unfold tag0F at e
  split at e
  · simp only [Option.some.injEq, Prod.mk.injEq, Bool.and_eq_true, decide_eq_true_eq] at e
    obtain ⟨rfl, rfl, h2, h3⟩ := e
    exact tag0_fn h2 h3
  · cases e
end Go.Proofs.YtibfpjeeanppjaaGreat.Q2
