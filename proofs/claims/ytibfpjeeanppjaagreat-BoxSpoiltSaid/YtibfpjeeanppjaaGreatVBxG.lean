/- This file holds the texts BxF, BxG, a section each. No conditions beyond those in the theorems. -/
import Derived.Test.YtibfpjeeanppjaaGreatVBxE
import Derived.Test.YtibfpjeeanppjaaGreatVLaF
import Derived.Test.YtibfpjeeanppjaaGreatVCpC
import Derived.Test.YtibfpjeeanppjaaGreatVBnF
set_option linter.all false
section
namespace Go.Proofs.YtibfpjeeanppjaaGreat.Bx
open Go Go.Sy Sh La
noncomputable def opAF (vs : List SV) : Option (SV × List Blk × Bool) := match vs with
  | [.agg [.ints .u8 32 s, .ints .u8 32 p], .ro false .u8 info, .ro false .u8 x] => bif info.getD 0 0 == 105 then boxF 1 [.agg [.ints .u8 32 s, .ints .u8 32 p], .ro false .u8 info, .ro false .u8 x] else boxF 2 [.agg [.ints .u8 32 s, .ints .u8 32 p], .ro false .u8 info, .ro false .u8 x]
  | _ => none
theorem boxF_fn (u : Nat) {vs : List SV} {v : SV} {new : List Blk} (e : boxF u vs = some (v, new, true)) : FnTr Tryz.prog 19 vs [] v new := by
  unfold boxF at e
  split at e
  · rename_i s p info x
    split at e
    · simp only [Option.some.injEq, Prod.mk.injEq, Bool.and_eq_true, decide_eq_true_eq] at e
      obtain ⟨rfl, rfl, ⟨⟨hi, h0⟩, h1⟩, ⟨hs, hx⟩, hz⟩ := e
      exact call0 (boC_ok true false) 60 Tryz.func19 (bo_range s p info x) (by rw [boO_true hi h0 h1, drW_eq, hs, hx, hz]; rfl) rfl
    · simp only [Option.some.injEq, Prod.mk.injEq, Bool.and_eq_true, decide_eq_true_eq, Bool.not_eq_true'] at e
      obtain ⟨rfl, rfl, ⟨⟨hi, h0⟩, h1⟩, ⟨⟨⟨hs, hp⟩, hx⟩, hz⟩, ho⟩ := e
      exact call0 (boC_ok false true) 60 Tryz.func19 (bo_run s p info x) (boP_true hi h0 h1 hs hp hx hz ho) rfl
    · simp only [Option.some.injEq, Prod.mk.injEq, Bool.and_eq_true, decide_eq_true_eq, Bool.not_eq_true'] at e
      obtain ⟨rfl, rfl, ⟨⟨hi, h0⟩, h1⟩, ⟨⟨⟨hs, hp⟩, hx⟩, hz⟩, ho⟩ := e
      exact call0 (boC_ok false false) 60 Tryz.func19 (bo_bad s p info x) (boP_true hi h0 h1 hs hp hx hz (by rw [ho]; rfl)) rfl
  · cases e
noncomputable def opAE : Entry Tryz.prog := .val 19 _ Tryz.func19 (by decide) rfl true 0 opAF fun vs v new e => by
  unfold opAF at e
  split at e
  · rename_i s p info x
    cases hb : (info.getD 0 0 == 105) with
    | true => rw [hb] at e; exact boxF_fn 1 e
    | false => rw [hb] at e; exact boxF_fn 2 e
  · cases e
noncomputable def alC : Ctr := mk (P := Tryz.prog) [publicRE, boxSE 2, opAE, Bn.numE] [(18, Tryz.f18), (36, Tryz.f36)] fun i => if i = 22 || i = 26 then some false else if i = 45 || i = 50 then some true else none
end Go.Proofs.YtibfpjeeanppjaaGreat.Bx
end
section
namespace Go.Proofs.YtibfpjeeanppjaaGreat.Bx
open Go Go.Sy Sh La Fe
theorem pd_eq : ladW drwK 9 = digN 32 pubD := by rw [ladW, Lock_eq, lad_N, drw_pub]
theorem po_eq : ladW ownK 9 = digN 32 pubO := by rw [ladW, Lock_eq, lad_N, own_pub]
theorem uP_pd : uP (digN 32 pubD) = pubD := by decide +kernel
theorem uP_po : uP (digN 32 pubO) = pubO := by decide +kernel
theorem ag_own : agW ownK (ladW drwK 9) = digN 32 comS := by rw [agW, pd_eq, uP_pd, ladW, Lock_eq, lad_N, own_com]
theorem ag_drw : agW drwK (ladW ownK 9) = digN 32 comS := by rw [agW, po_eq, uP_po, ladW, Lock_eq, lad_N, drw_com]
theorem com_no : decide (digN 32 comS = k32) = false := by decide +kernel
theorem agZ_own : agZ ownK (ladW drwK 9) = false := by unfold agZ; rw [ag_own]; exact com_no
theorem agZ_drw : agZ drwK (ladW ownK 9) = false := by unfold agZ; rw [ag_drw]; exact com_no
def iL : List Int := [105]
def jL : List Int := [106]
def teL : List Int := [116, 101, 120, 116]
noncomputable def bxT : List Int := boxW (ladW ownK 9) drwK iL teL
theorem bxT_take : bxT.take 32 = ladW drwK 9 := List.take_left' (ladW_len _ _)
noncomputable def kI : List Int := keyW drwK (ladW ownK 9) (ladW drwK 9) (ladW ownK 9) iL
theorem bxT_drop : bxT.drop 32 = Ae.sealW kI (Ae.nonceW 0) iL teL := List.drop_left' (ladW_len _ _)
theorem opK_i : opK ownK (ladW ownK 9) iL bxT = kI := by
  unfold opK kI
  rw [drW_eq, bxT_take, keyW, keyW, Lock_eq, Lock_eq, lbW, lbW, ag_own, ag_drw]
theorem open_i : Ae.openB (opK ownK (ladW ownK 9) iL bxT) (Ae.nonceW 0) iL (bxT.drop 32) = true := by
  rw [opK_i, bxT_drop]
  exact Ae.seal_opens _ _ _ _
theorem text_i : Ae.openW (opK ownK (ladW ownK 9) iL bxT) (Ae.nonceW 0) (bxT.drop 32) = teL := by
  rw [opK_i, bxT_drop]
  exact Ae.open_seal (by decide)
end Go.Proofs.YtibfpjeeanppjaaGreat.Bx
end
