/- This file proves chapter 11's fixed fact: two shake hands. No conditions. -/
import Derived.Test.YtibfpjeeanppjaaGreatXNoG
set_option linter.all false
namespace Go.Proofs.YtibfpjeeanppjaaGreat.No
open Go Go.Sy Sh La
def kA : List Int := (List.replicate 32 0).set 0 1
def kB : List Int := ((List.replicate 32 0).set 0 9).set 3 7
def kX : List Int := ((List.replicate 32 0).set 0 8).set 5 5
def kY : List Int := ((List.replicate 32 0).set 0 16).set 7 5
def p7 : List Int := [104, 105]
noncomputable def TV : br := mk (P := Tryz.prog) [T8, T4, Mv, F9, acO] [] fun i => if i = 40 || i = 53 then some false else if 90 ≤ i then some true else none
theorem nH : ag Tryz.prog TV := ah _ aq.nil _ _
noncomputable def alO (p A B X Y H G M N G1 H1 C1 E1 c2 : List Int) (m1 r1 m2 r2 : K4) : Bool := aa (aa (aa (aa (aa (aa (aa (aa (aa (aa (aa (aa (aa true (aa true (decide (A.length = 32) && decide (B.length = 32)))) (aa true (decide (B.length = 32) && decide (A.length = 32)))) (aa true (decide (H.length = 32) && decide (gu.length = 32) && true && true && cu m1))) (!(((M.length : Nat) : Int) != 50))) (aa true (decide (G.length = 32) && decide (gu.length = 32) && decide (48 ≤ M.length) && decide (M.length ≤ 1072) && cu r1 && Ae.bk (eD r1 gu) (Ae.aD 0) (S2.aj (G ++ List.take 32 M)) (List.drop 32 M)))) (aa (aa true (true && decide ((Ae.b9 (eD r1 gu) (Ae.aD 0) (List.drop 32 M)).length = (Ae.b9 (eD r1 gu) (Ae.aD 0) (List.drop 32 M)).length))) (bU (Ae.b9 (eD r1 gu) (Ae.aD 0) (List.drop 32 M))))) (!(!decide (Ae.b9 (eD r1 gu) (Ae.aD 0) (List.drop 32 M) = p)))) (aa true (decide (G1.length = 32) && decide (C1.length = 32) && true && true && cu m2))) (aa true (decide (H1.length = 32) && decide (E1.length = 32) && decide (48 ≤ N.length) && decide (N.length ≤ 1072) && cu r2 && Ae.bk (eD r2 E1) (Ae.aD 0) (S2.aj (H1 ++ List.take 32 N)) (List.drop 32 N)))) (aa true (true && decide ((mc r2 E1).length = 32)))) (aa true (true && decide ((mc m2 C1).length = 32)))) (aa (decide ((Cp.qc (mc r2 E1)).length = 32)) (decide ((Cp.qc (mc m2 C1)).length = 32)))) (decide (Cp.qc (mc r2 E1) = Cp.qc (mc m2 C1)))
noncomputable def alV : Bool := alO p7 (aK kA 9) (aK kB 9) (aK kX 9) (aK kY 9) (sH kA kB []) (sG kA kB []) (sM kA kB kX p7 []) (sN kA kB kX kY p7 [] []) (sG1 kA kB kX p7 []) (Zh kA kB kX p7 []) (Zg kA kB kX p7 []) (Rd kA kB kX) (Rc kA kB kX kY p7 [] []) (HS kA kB kX) (Xm kA kB kX p7 []) (T9 kA kB kX kY p7 []) (Xn kA kB kX kY p7 [] [])
theorem Mz : alV = true := by
  have h := acS (a := kA) (b := kB) (x := kX) (y := kY) (p := p7) (q := []) (by decide) (by decide) (by decide) (by decide) (by decide) (by decide) []
  have l1 : (Zh kA kB kX p7 []).length = 32 := Rf _ _ _
  have l2 : (Rd kA kB kX).length = 32 := Gb _ _
  have t1 : ∀ s, (Cp.qc s).length = 32 := fun s => (Cp.uU s).1
  have up : bU p7 = true := by decide
  have lp : p7.length = 2 := rfl
  unfold alV alO
  rw [h.mt, h.md, h.nt, h.nd, h.C2, h.C1, h.G1, h.G, h.H, h.ml, h.nl, h.q1, h.q2, h.q3, h.q4, ← h.G, h.o1, h.w1, h.o2, l1, l2]
  simp [au, up, lp, t1, Gb, cI, zK]
set_option maxRecDepth 100000 in
theorem HT : (bp Tryz.prog TV 60 Tryz.f21 [] []).map (fun x => (x.1, x.2.2)) = some (.bool true, alV) := by kernel_rfl
theorem MA : ai Tryz.prog 21 [] [] (.bool true) [] := aG nH 60 Tryz.func21 HT Mz rfl
def MB : List SV → Option (SV × List Blk × Bool)
  | [] => some (.bool true, [], true)
  | _ => none
noncomputable def Xo : Entry Tryz.prog := .val 21 _ Tryz.func21 (by decide) rfl false 0 MB fun vs v new e => by
  unfold MB at e
  split at e
  · cases e; exact MA
  · cases e
end Go.Proofs.YtibfpjeeanppjaaGreat.No
