/- This file proves that the laws' fixed fact of chapter 10 holds. No conditions. -/
import Derived.Test.YtkoohnpknhoahaaKCpC
set_option linter.all false
namespace Go.Proofs.Ytkoohnpknhoahaa.Cp
open Go Go.Sy Sh
noncomputable def inlS : List (FuncId × Func) := [(39, Try.f39)]
theorem inlS_ok : InlOK Try.prog inlS := InlOK.cons Try.func39 (by decide) InlOK.nil
noncomputable def alC : Ctr := mk (P := Try.prog) [beginE, mixSecretE, hideE, showE] inlS fun i => if i = 26 then some false else if i = 39 || i = 46 then some true else none
theorem alC_ok : CtrSound Try.prog alC := mk_sound _ inlS_ok _ _
noncomputable def alO (D K X Y H : List Int) : Bool := andT (andT (andT (andT (andT (andT (andT (andT (andT (andT true (andT true (decide (D.length = 32) && true))) (andT true (decide (D.length = 32) && true))) (andT true (decide (D.length = 32) && true && true && true))) (!((X.length : Int) != 20))) (andT true (decide (D.length = 32) && true && true && decide (X.length ≤ 1048592) && Ae.openB K (Ae.nonceW 0) D X))) (andT (andT true (true && decide (Y.length = Y.length))) (u8R Y))) (decide (Y = tx))) (andT (decide (H.length = 32)) (decide (H.length = 32)))) (decide (H = H))) (decide (H.length = 32))
noncomputable def aD : List Int := S2.shortW nm
noncomputable def aK : List Int := tw2 (Kd.tagW aD [1])
noncomputable def aX : List Int := hiW aK aD 0 tx
noncomputable def aY : List Int := Ae.openW aK (Ae.nonceW 0) aX
noncomputable def aH : List Int := S2.shortW (aD ++ aX)
set_option maxRecDepth 100000 in
theorem al_run : (callS Try.prog alC 60 Try.f19 [] []).map (fun x => (x.1, x.2.2)) = some (.bool (!decide (aH = List.replicate 32 0)), alO aD aK aX aY aH) := by kernel_rfl
theorem aY_eq : aY = tx := Ae.open_seal (by decide)
theorem aH_eq : aH = hAL := by
  unfold aH aX aK aD
  rw [d0_eq, t0_eq, k0_eq, x0_eq, hA_eq]
theorem alive_fn : FnTr Try.prog 19 [] [] (.bool true) [] := by
  have hX : aX.length = 20 := by unfold aX hiW; rw [Ae.sealW_len]; rfl
  have hD : aD.length = 32 := by unfold aD; rw [d0_eq]; rfl
  have hO : Ae.openB aK (Ae.nonceW 0) aD aX = true := Ae.seal_opens _ _ _ _
  have key := call0 alC_ok 60 Try.func19 al_run (by
    unfold alO
    rw [hX, hD, hO, aY_eq, aH_eq]; decide) rfl
  rw [aH_eq, decide_eq_false (show ¬ hAL = List.replicate 32 0 by decide)] at key
  exact key
def aliveF : List SV → Option (SV × List Blk × Bool)
  | [] => some (.bool true, [], true)
  | _ => none
noncomputable def aliveE : Entry Try.prog := .val 19 _ Try.func19 (by decide) rfl false 0 aliveF fun vs v new e => by
  unfold aliveF at e
  split at e
  · cases e; exact alive_fn
  · cases e
end Go.Proofs.Ytkoohnpknhoahaa.Cp
