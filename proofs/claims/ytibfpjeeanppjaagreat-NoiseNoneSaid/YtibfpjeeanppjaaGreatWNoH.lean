/- This file proves chapter 11's fixed fact: two shake hands. No conditions. -/
import Derived.Test.YtibfpjeeanppjaaGreatWNoG
set_option linter.all false
namespace Go.Proofs.YtibfpjeeanppjaaGreat.No
open Go Go.Sy Sh La
def kA : List Int := (List.replicate 32 0).set 0 1
def kB : List Int := ((List.replicate 32 0).set 0 9).set 3 7
def kX : List Int := ((List.replicate 32 0).set 0 8).set 5 5
def kY : List Int := ((List.replicate 32 0).set 0 16).set 7 5
def hiL : List Int := [104, 105]
noncomputable def alC : Ctr := mk (P := Tryz.prog) [pairE, newVE, writeE, readE, keysE] [] fun i => if i = 40 || i = 53 then some false else if 90 ≤ i then some true else none
theorem alC_ok : CtrSound Tryz.prog alC := mk_sound _ InlOK.nil _ _
noncomputable def alO (p A B X Y H G M N G1 H1 C1 E1 c2 : List Int) (m1 r1 m2 r2 : K4) : Bool := andT (andT (andT (andT (andT (andT (andT (andT (andT (andT (andT (andT (andT true (andT true (decide (A.length = 32) && decide (B.length = 32)))) (andT true (decide (B.length = 32) && decide (A.length = 32)))) (andT true (decide (H.length = 32) && decide (h0W.length = 32) && true && true && meetQ m1))) (!(((M.length : Nat) : Int) != 50))) (andT true (decide (G.length = 32) && decide (h0W.length = 32) && decide (48 ≤ M.length) && decide (M.length ≤ 1072) && meetQ r1 && Ae.openB (mKy r1 h0W) (Ae.nonceW 0) (S2.shortW (G ++ List.take 32 M)) (List.drop 32 M)))) (andT (andT true (true && decide ((Ae.openW (mKy r1 h0W) (Ae.nonceW 0) (List.drop 32 M)).length = (Ae.openW (mKy r1 h0W) (Ae.nonceW 0) (List.drop 32 M)).length))) (u8R (Ae.openW (mKy r1 h0W) (Ae.nonceW 0) (List.drop 32 M))))) (!(!decide (Ae.openW (mKy r1 h0W) (Ae.nonceW 0) (List.drop 32 M) = p)))) (andT true (decide (G1.length = 32) && decide (C1.length = 32) && true && true && meetQ m2))) (andT true (decide (H1.length = 32) && decide (E1.length = 32) && decide (48 ≤ N.length) && decide (N.length ≤ 1072) && meetQ r2 && Ae.openB (mKy r2 E1) (Ae.nonceW 0) (S2.shortW (H1 ++ List.take 32 N)) (List.drop 32 N)))) (andT true (true && decide ((mCh r2 E1).length = 32)))) (andT true (true && decide ((mCh m2 C1).length = 32)))) (andT (decide ((Cp.tw1 (mCh r2 E1)).length = 32)) (decide ((Cp.tw1 (mCh m2 C1)).length = 32)))) (decide (Cp.tw1 (mCh r2 E1) = Cp.tw1 (mCh m2 C1)))
noncomputable def alV : Bool := alO hiL (ladW kA 9) (ladW kB 9) (ladW kX 9) (ladW kY 9) (sH kA kB []) (sG kA kB []) (sM kA kB kX hiL []) (sN kA kB kX kY hiL [] []) (sG1 kA kB kX hiL []) (sH1 kA kB kX hiL []) (sC1 kA kB kX hiL []) (sE1 kA kB kX) (sc2 kA kB kX kY hiL [] []) (sm1 kA kB kX) (sr1 kA kB kX hiL []) (sm2 kA kB kX kY hiL []) (sr2 kA kB kX kY hiL [] [])
theorem alO_true : alV = true := by
  have h := shook (a := kA) (b := kB) (x := kX) (y := kY) (p := hiL) (q := []) (by decide) (by decide) (by decide) (by decide) (by decide) (by decide) []
  have l1 : (sH1 kA kB kX hiL []).length = 32 := haW_len _ _ _
  have l2 : (sE1 kA kB kX).length = 32 := mCh_len _ _
  have t1 : ∀ s, (Cp.tw1 s).length = 32 := fun s => (Cp.tw_len s).1
  have up : u8R hiL = true := by decide
  have lp : hiL.length = 2 := rfl
  unfold alV alO
  rw [h.mt, h.md, h.nt, h.nd, h.C2, h.C1, h.G1, h.G, h.H, h.ml, h.nl, h.q1, h.q2, h.q3, h.q4, ← h.G, h.o1, h.w1, h.o2, l1, l2]
  simp [andT_iff, up, lp, t1, mCh_len, ladW_len, h0W_len]
set_option maxRecDepth 100000 in
theorem alive_run : (callS Tryz.prog alC 60 Tryz.f21 [] []).map (fun x => (x.1, x.2.2)) = some (.bool true, alV) := by kernel_rfl
theorem alive_fn : FnTr Tryz.prog 21 [] [] (.bool true) [] := call0 alC_ok 60 Tryz.func21 alive_run alO_true rfl
def aliveF : List SV → Option (SV × List Blk × Bool)
  | [] => some (.bool true, [], true)
  | _ => none
noncomputable def aliveE : Entry Tryz.prog := .val 21 _ Tryz.func21 (by decide) rfl false 0 aliveF fun vs v new e => by
  unfold aliveF at e
  split at e
  · cases e; exact alive_fn
  · cases e
end Go.Proofs.YtibfpjeeanppjaaGreat.No
