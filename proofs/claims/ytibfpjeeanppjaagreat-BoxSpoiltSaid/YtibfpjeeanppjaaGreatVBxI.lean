/- This file proves chapter 16's fixed fact. No conditions. -/
import Derived.Test.YtibfpjeeanppjaaGreatVBxH
set_option linter.all false
namespace Go.Proofs.YtibfpjeeanppjaaGreat.Bx
open Go Go.Sy Sh La
theorem inlP2 : InlOK Tryz.prog [(18, Tryz.f18), (36, Tryz.f36)] := InlOK.cons Tryz.func18 (by decide) (InlOK.cons Tryz.func36 (by decide) InlOK.nil)
theorem alC_ok : CtrSound Tryz.prog alC := mk_sound _ inlP2 _ _
noncomputable def alT : List Int := Ae.openW (opK ownK (ladW ownK 9) iL bxT) (Ae.nonceW 0) (bxT.drop 32)
noncomputable def alO : Bool :=
  andT (andT (andT (andT (andT (andT true (andT true (true && Re.keyOK (ladW ownK 9) && !agZ drwK (ladW ownK 9) && true && true))) (!((bxT.length : Int) != 52)))
    (andT true (true && decide (48 ≤ bxT.length) && decide (bxT.length ≤ 65584) && (true && Re.keyOK (ladW ownK 9) && Re.keyOK (bxT.take 32) && !agZ ownK (bxT.take 32) && Ae.openB (opK ownK (ladW ownK 9) iL bxT) (Ae.nonceW 0) iL (bxT.drop 32)))))
    (andT true (true && decide (48 ≤ bxT.length) && decide (bxT.length ≤ 65584) && (true && Re.keyOK (ladW ownK 9) && Re.keyOK (bxT.take 32) && !agZ ownK (bxT.take 32) && !Ae.openB (opK ownK (ladW ownK 9) jL bxT) (Ae.nonceW 0) jL (bxT.drop 32)))))
    (andT (andT true (true && decide (alT.length = alT.length))) (u8R alT))) (decide (alT = teL))
theorem alO_true : alO = true := by
  have hl : bxT.length = 52 := boxW_len _ _ _ _
  have ht : alT = teL := text_i
  unfold alO
  rw [ht, hl, bxT_take, open_i, open_j, agZ_drw, agZ_own, ladW_key, ladW_key]
  decide
set_option maxRecDepth 100000 in
theorem alive_run : (callS Tryz.prog alC 60 Tryz.f9 [] []).map (fun x => (x.1, x.2.2)) = some (.bool true, alO) := by kernel_rfl
theorem alive_fn : FnTr Tryz.prog 9 [] [] (.bool true) [] := call0 alC_ok 60 Tryz.func9 alive_run alO_true rfl
def aliveF : List SV → Option (SV × List Blk × Bool)
  | [] => some (.bool true, [], true)
  | _ => none
noncomputable def aliveE : Entry Tryz.prog := .val 9 _ Tryz.func9 (by decide) rfl false 0 aliveF fun vs v new e => by
  unfold aliveF at e
  split at e
  · cases e; exact alive_fn
  · cases e
end Go.Proofs.YtibfpjeeanppjaaGreat.Bx
