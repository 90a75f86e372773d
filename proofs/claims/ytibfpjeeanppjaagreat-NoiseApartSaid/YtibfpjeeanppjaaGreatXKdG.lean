/- This file proves the contract of the reference's Tag with no key, and of its Label. Conditions: bytes; lengths that memory bears. -/
import Derived.Test.YtibfpjeeanppjaaGreatXKdF
set_option linter.all false
set_option maxRecDepth 100000
namespace Go.Proofs.YtibfpjeeanppjaaGreat.Q2
open Go Go.Sy Sh
set_option maxHeartbeats 0 in
theorem Pe (text : List Int) : (bp Tryz.prog tqC 300 Tryz.f80 [.nl (.slice none 0 0), .ro false .u8 text] []).map (fun x => (x.1, x.2.2)) = some (.agg [.ints .u8 32 (YV (qf 54) (qf 92) text)], tqO (qf 54) (qf 92) text) := by kernel_rfl
theorem ET (c : Int) : Kd.Tc (Kd.EI (Kd.pdK [])) c = qf c := by kernel_rfl
theorem qh (c : Int) : (qf c).length = 64 := by simp [qf]
theorem EU (c : Int) : By (qf c) := by
  intro x hx
  simp only [qf, List.mem_replicate] at hx
  rw [hx.2]
  exact EP _ _
theorem VH {text : List Int} (ht : By text) (hl : text.length < 274877890000) : YV (qf 54) (qf 92) text = Kd.bP [] text := by
  have h1 : By (qf 54 ++ text) := (EU _).app ht
  have e1 := jX h1 (by rw [List.length_append, qh]; omega)
  have h2 : By (qf 92 ++ S2.aj (qf 54 ++ text)) := (EU _).app (S2.jY _)
  have e2 := jX h2 (by rw [List.length_append, qh, S2.bz]; omega)
  unfold YV
  rw [Kd.bP, aC, Kd.iQ, Kd.iQ, aC, aC, ET, ET, e2, e1]
theorem Pf {text : List Int} (ht : bU text = true) (hl : text.length < 274877890000) : ai Tryz.prog 80 [.nl (.slice none 0 0), .ro false .u8 text] [] (.agg [.ints .u8 32 (Kd.bP [] text)]) [] := by
  have k := aG JJ 300 Tryz.func80 (Pe text) (AL (qh _) (qh _) hl) rfl
  rw [VH (Jb ht) hl] at k
  exact k
noncomputable def Tj : List SV → Option (SV × List Blk × Bool)
  | [.nl (.slice none 0 0), .ro false .u8 text] => some (.agg [.ints .u8 32 (Kd.bP [] text)], [], bU text && decide (text.length < 274877890000))
  | _ => none
noncomputable def ZN : Entry Tryz.prog := .val 80 _ Tryz.func80 (by decide) rfl true 0 Tj fun vs v new e => by
  unfold Tj at e
  split at e
  · simp only [Option.some.injEq, Prod.mk.injEq, Bool.and_eq_true, decide_eq_true_eq] at e
    obtain ⟨rfl, rfl, h2, h3⟩ := e
    exact Pf h2 h3
  · cases e
end Go.Proofs.YtibfpjeeanppjaaGreat.Q2
