/- This file holds the texts NoF, NoG, a section each. No conditions beyond those in the theorems. -/
import Derived.Test.YtibfpjeeanppjaaGreatXNoE
import Derived.Test.YtibfpjeeanppjaaGreatXBnP
import Derived.Test.YtibfpjeeanppjaaGreatXLaK
set_option linter.all false
section
namespace Go.Proofs.YtibfpjeeanppjaaGreat.No
open Go Go.Sy Sh La
noncomputable def pC : br := mk (P := Tryz.prog) [AR] []
theorem acP : ag Tryz.prog pC := ah _ aq.nil _ _
noncomputable def T7 : List SV → Option (SV × List Blk × Bool)
  | [.agg [.ints .u8 32 s]] => some (.agg [.ints .u8 32 s, .ints .u8 32 (aK s 9)], [], Re.ak s)
  | _ => none
set_option maxRecDepth 100000 in
noncomputable def T8 : Entry Tryz.prog := .val 22 _ Tryz.func22 (by decide) rfl false 0 T7 fun vs v new e => by
  unfold T7 at e
  split at e
  · simp only [Option.some.injEq, Prod.mk.injEq] at e
    obtain ⟨rfl, rfl, h⟩ := e
    exact aG acP 60 Tryz.func22 (p := aa true (aa true (Re.ak _))) (by kernel_rfl) (by rw [h]; rfl) rfl
  · cases e
theorem Mw {a b x : List Int} (ha : Re.ak a = true) (hb : Re.ak b = true) (hx : Re.ak x = true) (ch : List Int) :
    eD (b, aK x 9, b, aK a 9) ch = eD (x, aK b 9, a, aK b 9) ch ∧ mc (b, aK x 9, b, aK a 9) ch = mc (x, aK b 9, a, aK b 9) ch := by
  unfold eD mc
  simp only
  rw [tU hx hb, tU ha hb]
  exact ⟨rfl, rfl⟩
theorem HR {a x y : List Int} (ha : Re.ak a = true) (hx : Re.ak x = true) (hy : Re.ak y = true) (ch : List Int) :
    eD (x, aK y 9, a, aK y 9) ch = eD (y, aK x 9, y, aK a 9) ch ∧ mc (x, aK y 9, a, aK y 9) ch = mc (y, aK x 9, y, aK a 9) ch := by
  unfold eD mc
  simp only
  rw [tU hy hx, tU hy ha]
  exact ⟨rfl, rfl⟩
theorem je {a b c d : List Int} (ha : Re.ak a = true) (hb : Re.ak b = true) (hc : Re.ak c = true) (hd : Re.ak d = true) : cu (a, aK b 9, c, aK d 9) = true := by
  unfold cu iL
  simp only
  rw [ha, hc, j6, j6, Ty hb ha, Ty hd hc]
  rfl
end Go.Proofs.YtibfpjeeanppjaaGreat.No
end
section
namespace Go.Proofs.YtibfpjeeanppjaaGreat.No
open Go Go.Sy Sh La
section
variable (a b x y p q bJ : List Int)
noncomputable def sH : List Int := jv true (aK a 9) (aK b 9) bJ
noncomputable def sG : List Int := jv false (aK b 9) (aK a 9) bJ
noncomputable def HS : K4 := meets true 0 a (aK b 9) x Cp.iA
noncomputable def Rb : List Int := Aq (HS a b x) gu (sH a b bJ) (aK x 9) p
noncomputable def sM : List Int := aK x 9 ++ Rb a b x p bJ
noncomputable def Xm : K4 := meets false 0 b (aK a 9) Cp.iA ((sM a b x p bJ).take 32)
noncomputable def Zg : List Int := mc (Xm a b x p bJ) gu
noncomputable def sG1 : List Int := zJ (sG a b bJ) ((sM a b x p bJ).take 32) ((sM a b x p bJ).drop 32)
noncomputable def T9 : K4 := meets true (0 + 1) b (aK a 9) y ((sM a b x p bJ).take 32)
noncomputable def Rc : List Int := Aq (T9 a b x y p bJ) (Zg a b x p bJ) (sG1 a b x p bJ) (aK y 9) q
noncomputable def sN : List Int := aK y 9 ++ Rc a b x y p q bJ
noncomputable def Rd : List Int := mc (HS a b x) gu
noncomputable def Zh : List Int := zJ (sH a b bJ) (aK x 9) (Rb a b x p bJ)
noncomputable def Xn : K4 := meets false (0 + 1) a (aK b 9) x ((sN a b x y p q bJ).take 32)
end
theorem BY (os pe ms th : List Int) : meets true 0 os pe ms th = (ms, pe, os, pe) := rfl
theorem BZ (os pe ms th : List Int) : meets false 0 os pe ms th = (os, th, os, pe) := rfl
theorem Mx (os pe ms th : List Int) : meets true (0 + 1) os pe ms th = (ms, th, ms, pe) := rfl
theorem My (os pe ms th : List Int) : meets false (0 + 1) os pe ms th = (ms, th, os, th) := rfl
structure acR (a b x y p q bJ : List Int) : Prop where
  G : sG a b bJ = sH a b bJ
  H : (sH a b bJ).length = 32
  mt : (sM a b x p bJ).take 32 = aK x 9
  md : (sM a b x p bJ).drop 32 = Rb a b x p bJ
  ml : (sM a b x p bJ).length = p.length + 48
  q1 : cu (HS a b x) = true
  q2 : cu (Xm a b x p bJ) = true
  o1 : Ae.bk (eD (Xm a b x p bJ) gu) (Ae.aD 0) (S2.aj (sG a b bJ ++ aK x 9)) (Rb a b x p bJ) = true
  w1 : Ae.b9 (eD (Xm a b x p bJ) gu) (Ae.aD 0) (Rb a b x p bJ) = p
  G1 : sG1 a b x p bJ = Zh a b x p bJ
  C1 : Zg a b x p bJ = Rd a b x
  nt : (sN a b x y p q bJ).take 32 = aK y 9
  nd : (sN a b x y p q bJ).drop 32 = Rc a b x y p q bJ
  nl : (sN a b x y p q bJ).length = q.length + 48
  q3 : cu (T9 a b x y p bJ) = true
  q4 : cu (Xn a b x y p q bJ) = true
  o2 : Ae.bk (eD (Xn a b x y p q bJ) (Rd a b x)) (Ae.aD 0) (S2.aj (Zh a b x p bJ ++ aK y 9)) (Rc a b x y p q bJ) = true
  w2 : Ae.b9 (eD (Xn a b x y p q bJ) (Rd a b x)) (Ae.aD 0) (Rc a b x y p q bJ) = q
  C2 : mc (Xn a b x y p q bJ) (Rd a b x) = mc (T9 a b x y p bJ) (Zg a b x p bJ)
theorem acS {a b x y p q : List Int} (ha : Re.ak a = true) (hb : Re.ak b = true) (hx : Re.ak x = true) (hy : Re.ak y = true) (hp : ∀ z ∈ p, 0 ≤ z ∧ z < 256) (hq : ∀ z ∈ q, 0 ≤ z ∧ z < 256) (bJ : List Int) : acR a b x y p q bJ := by
  have G : sG a b bJ = sH a b bJ := by unfold sG sH jv; rw [cond_true, cond_false]
  have mt : (sM a b x p bJ).take 32 = aK x 9 := by unfold sM; rw [List.take_left' (cI _ _)]
  have md : (sM a b x p bJ).drop 32 = Rb a b x p bJ := by unfold sM; rw [List.drop_left' (cI _ _)]
  have r1 : Xm a b x p bJ = (b, aK x 9, b, aK a 9) := by unfold Xm; rw [mt]; exact BZ _ _ _ _
  have m1 : HS a b x = (x, aK b 9, a, aK b 9) := by unfold HS; exact BY _ _ _ _
  have k1 := Mw ha hb hx gu
  have C1 : Zg a b x p bJ = Rd a b x := by unfold Zg Rd; rw [r1, m1, k1.2]
  have G1 : sG1 a b x p bJ = Zh a b x p bJ := by unfold sG1 Zh; rw [mt, md, G]
  have nt : (sN a b x y p q bJ).take 32 = aK y 9 := by unfold sN; rw [List.take_left' (cI _ _)]
  have nd : (sN a b x y p q bJ).drop 32 = Rc a b x y p q bJ := by unfold sN; rw [List.drop_left' (cI _ _)]
  have m2 : T9 a b x y p bJ = (y, aK x 9, y, aK a 9) := by unfold T9; rw [mt]; exact Mx _ _ _ _
  have r2 : Xn a b x y p q bJ = (x, aK y 9, a, aK y 9) := by unfold Xn; rw [nt]; exact My _ _ _ _
  have k2 := HR ha hx hy (Rd a b x)
  refine ⟨G, wm _ _ _ _, mt, md, ?_, ?_, ?_, ?_, ?_, G1, C1, nt, nd, ?_, ?_, ?_, ?_, ?_, ?_⟩
  · unfold sM Rb; rw [List.length_append, cI, uo]; omega
  · rw [m1]; exact je hx hb ha hb
  · rw [r1]; exact je hb hx hb ha
  · rw [r1, k1.1, G]; unfold Rb Aq Cp.tL; rw [m1]; exact Ae.uM _ _ _ _
  · rw [r1, k1.1]; unfold Rb Aq Cp.tL; rw [m1]; exact Ae.xx hp
  · unfold sN Rc; rw [List.length_append, cI, uo]; omega
  · rw [m2]; exact je hy hx hy ha
  · rw [r2]; exact je hx hy ha hy
  · unfold Rc Aq Cp.tL; rw [r2, k2.1, m2, C1, G1]; exact Ae.uM _ _ _ _
  · unfold Rc Aq Cp.tL; rw [r2, k2.1, m2, C1, G1]; exact Ae.xx hq
  · rw [r2, k2.2, m2, C1]
noncomputable def shO (a b x y p q bJ A B X Y H G M N G1 H1 C1 E1 c2 : List Int) (m1 r1 m2 r2 : K4) : Bool := aa (aa (aa (aa (aa (aa (aa (aa (aa (aa (aa (aa (aa (aa (aa (aa (aa (aa (aa (aa (aa (aa (aa true (!decide (((p.length : Nat) : Int) > 1024))) (!decide (((q.length : Nat) : Int) > 1024))) (!decide (((bJ.length : Nat) : Int) > 1000))) (aa true (Re.ak a))) (aa true (Re.ak b))) (aa true (decide (bJ.length < 270000000000) && decide (A.length = 32) && decide (B.length = 32)))) (aa true (decide (bJ.length < 270000000000) && decide (B.length = 32) && decide (A.length = 32)))) (aa true (decide (H.length = 32) && decide (gu.length = 32) && Re.ak x && decide (p.length ≤ 1024) && cu m1))) (aa true (decide (G.length = 32) && decide (gu.length = 32) && decide (48 ≤ M.length) && decide (M.length ≤ 1072) && cu r1 && Ae.bk (eD r1 gu) (Ae.aD 0) (S2.aj (G ++ List.take 32 M)) (List.drop 32 M)))) (aa true (bU (Ae.b9 (eD r1 gu) (Ae.aD 0) (List.drop 32 M)) && bU p))) (!(!decide (Ae.b9 (eD r1 gu) (Ae.aD 0) (List.drop 32 M) = p)))) (aa true (decide (G1.length = 32) && decide (C1.length = 32) && Re.ak y && decide (q.length ≤ 1024) && cu m2))) (aa true (decide (H1.length = 32) && decide (E1.length = 32) && decide (48 ≤ N.length) && decide (N.length ≤ 1072) && cu r2 && Ae.bk (eD r2 E1) (Ae.aD 0) (S2.aj (H1 ++ List.take 32 N)) (List.drop 32 N)))) (aa true (true && decide ((mc r2 E1).length = 32)))) (aa true (true && decide ((mc m2 C1).length = 32)))) (aa true (bU (Ae.b9 (eD r2 E1) (Ae.aD 0) (List.drop 32 N)) && bU q))) (decide (Ae.b9 (eD r2 E1) (Ae.aD 0) (List.drop 32 N) = q))) (aa (decide ((Cp.qc (mc r2 E1)).length = 32)) (decide ((Cp.qc (mc m2 C1)).length = 32)))) (decide (Cp.qc (mc r2 E1) = Cp.qc (mc m2 C1)))) (aa (decide ((Cp.xA (mc r2 E1)).length = 32)) (decide ((Cp.xA (mc m2 C1)).length = 32)))) (decide (Cp.xA (mc r2 E1) = Cp.xA (mc m2 C1)))) (aa (decide ((zJ H1 (List.take 32 N) (List.drop 32 N)).length = 32)) (decide ((zJ G1 Y c2).length = 32)))) (decide (zJ H1 (List.take 32 N) (List.drop 32 N) = zJ G1 Y c2))
theorem D3 {l : List Int} (h : ∀ x ∈ l, 0 ≤ x ∧ x < 256) : bU l = true := by
  unfold bU
  rw [List.all_eq_true]
  intro x hx
  simpa using h x hx
theorem Rf (a b c : List Int) : (zJ a b c).length = 32 := S2.bz _
theorem Gb (q : K4) (ch : List Int) : (mc q ch).length = 32 := Q1 _ _ _
theorem zK : gu.length = 32 := S2.bz _
end Go.Proofs.YtibfpjeeanppjaaGreat.No
end
