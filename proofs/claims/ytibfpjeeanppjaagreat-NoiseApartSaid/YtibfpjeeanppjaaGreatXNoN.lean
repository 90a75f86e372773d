/- This file proves the law NoiseApart. Conditions: bytes; keys of 32 bytes. -/
import Derived.Test.YtibfpjeeanppjaaGreatXNoH
import Derived.Test.YtibfpjeeanppjaaGreatXNoM
import Derived.Test.YtibfpjeeanppjaaGreatXNqF
set_option linter.all false
set_option maxRecDepth 100000
namespace Go.Proofs.YtibfpjeeanppjaaGreat.No
open Go Go.Sy Sh La
def fA (a b c : Bool) : Nat → Option Bool := fun i => if i = 23 then some a else if i = 29 then some b else if i = 33 then some c else if i = 83 then some false else none
noncomputable def Zi (u : Bool) (a b c : Bool) : br := mk (P := Tryz.prog) [Xo, T8, T4, Mv, AR, Nq.CZ, Nq.F9 u, bif u then F9 else Xr, Bn.ZG, Bn.afe, x5, T0] [] (fA a b c)
theorem wu (u a b c : Bool) : ag Tryz.prog (Zi u a b c) := ah _ aq.nil _ _
noncomputable def HU (a b x p bJ : List Int) : List Int := aK x 9 ++ Aq (meets true 0 a (aK b 9) x Cp.iA) gu (jv true (aK a 9) (aK b 9) bJ) (aK x 9) p
noncomputable def tD (p bJ lz a b x ot A B O H G M : List Int) (m1 r1 : K4) : Bool := aa (aa (aa (aa (aa (aa (aa (aa (aa (aa (aa (aa (aa (aa (aa true (!decide (((p.length : Nat) : Int) > 1024))) (!decide (((bJ.length : Nat) : Int) > 1000))) (!decide (((lz.length : Nat) : Int) > 1000))) (aa true (Re.ak a))) (aa true (Re.ak b))) (aa true (decide (bJ.length < 270000000000) && decide (A.length = 32) && decide (B.length = 32)))) (aa true (decide (H.length = 32) && decide (gu.length = 32) && Re.ak x && decide (p.length ≤ 1024) && cu m1))) (aa true (Re.ak ot))) (aa true (decide (lz.length < 270000000000) && decide (B.length = 32) && decide (O.length = 32)))) (aa true (Re.ak ot))) (aa true (bU lz && decide (lz.length < 270000000000) && Re.ak B && Re.ak O))) (aa true (decide (G.length = 32) && bU G && decide (gu.length = 32) && decide (48 ≤ M.length) && decide (M.length ≤ 1072) && bU M && true && cu r1 && Ae.bk (eD r1 gu) (Ae.aD 0) (S2.aj (G ++ List.take 32 M)) (List.drop 32 M)))) (aa true (decide (G.length = 32) && decide (gu.length = 32) && decide (48 ≤ M.length) && decide (M.length ≤ 1072) && cu r1 && Ae.bk (eD r1 gu) (Ae.aD 0) (S2.aj (G ++ List.take 32 M)) (List.drop 32 M)))) (aa true (bU (Ae.b9 (eD r1 gu) (Ae.aD 0) (List.drop 32 M)) && bU (Ae.b9 (eD r1 gu) (Ae.aD 0) (List.drop 32 M))))) (!(!decide (Ae.b9 (eD r1 gu) (Ae.aD 0) (List.drop 32 M) = Ae.b9 (eD r1 gu) (Ae.aD 0) (List.drop 32 M))))
noncomputable def Og (p bJ lz a b x ot A B O H G M : List Int) (m1 r1 : K4) : Bool := aa (aa (aa (aa (aa (aa (aa (aa (aa (aa (aa (aa (aa true (!decide (((p.length : Nat) : Int) > 1024))) (!decide (((bJ.length : Nat) : Int) > 1000))) (!decide (((lz.length : Nat) : Int) > 1000))) (aa true (Re.ak a))) (aa true (Re.ak b))) (aa true (decide (bJ.length < 270000000000) && decide (A.length = 32) && decide (B.length = 32)))) (aa true (decide (H.length = 32) && decide (gu.length = 32) && Re.ak x && decide (p.length ≤ 1024) && cu m1))) (aa true (Re.ak ot))) (aa true (decide (lz.length < 270000000000) && decide (B.length = 32) && decide (O.length = 32)))) (aa true (Re.ak ot))) (aa true (bU lz && decide (lz.length < 270000000000) && Re.ak B && Re.ak O))) (aa true (decide (G.length = 32) && bU G && decide (gu.length = 32) && decide (48 ≤ M.length) && decide (M.length ≤ 1072) && bU M && true && cu r1 && (!Ae.bk (eD r1 gu) (Ae.aD 0) (S2.aj (G ++ List.take 32 M)) (List.drop 32 M))))) (aa true (decide (G.length = 32) && decide (gu.length = 32) && decide (48 ≤ M.length) && decide (M.length ≤ 1072) && cu r1 && (!Ae.bk (eD r1 gu) (Ae.aD 0) (S2.aj (G ++ List.take 32 M)) (List.drop 32 M))))
section
variable (a b x y p q bJ ot lz : List Int)
theorem agU : (bp Tryz.prog (Zi true true true true) 60 Tryz.f5 [.agg [.ints .u8 32 a, .ints .u8 32 b, .ints .u8 32 x, .ints .u8 32 y, .ro false .u8 p, .ro false .u8 q, .ro false .u8 bJ], .agg [.ints .u8 32 ot], .ro false .u8 lz] []).map (fun x => (x.1, x.2.2)) = some (.bool true, aa true (decide ((p.length : Int) > 1024))) := by kernel_rfl
theorem agV : (bp Tryz.prog (Zi true false true true) 60 Tryz.f5 [.agg [.ints .u8 32 a, .ints .u8 32 b, .ints .u8 32 x, .ints .u8 32 y, .ro false .u8 p, .ro false .u8 q, .ro false .u8 bJ], .agg [.ints .u8 32 ot], .ro false .u8 lz] []).map (fun x => (x.1, x.2.2)) = some (.bool true, aa (aa true (!decide ((p.length : Int) > 1024))) (decide ((bJ.length : Int) > 1000))) := by kernel_rfl
theorem agX : (bp Tryz.prog (Zi true false false true) 60 Tryz.f5 [.agg [.ints .u8 32 a, .ints .u8 32 b, .ints .u8 32 x, .ints .u8 32 y, .ro false .u8 p, .ro false .u8 q, .ro false .u8 bJ], .agg [.ints .u8 32 ot], .ro false .u8 lz] []).map (fun x => (x.1, x.2.2)) = some (.bool true, aa (aa (aa true (!decide ((p.length : Int) > 1024))) (!decide ((bJ.length : Int) > 1000))) (decide ((lz.length : Int) > 1000))) := by kernel_rfl
theorem agY : (bp Tryz.prog (Zi true false false false) 60 Tryz.f5 [.agg [.ints .u8 32 a, .ints .u8 32 b, .ints .u8 32 x, .ints .u8 32 y, .ro false .u8 p, .ro false .u8 q, .ro false .u8 bJ], .agg [.ints .u8 32 ot], .ro false .u8 lz] []).map (fun x => (x.1, x.2.2)) = some (.bool true, tD p bJ lz a b x ot (aK a 9) (aK b 9) (aK ot 9) (jv true (aK a 9) (aK b 9) bJ) (jv false (aK b 9) (aK ot 9) lz) (HU a b x p bJ) (meets true 0 a (aK b 9) x Cp.iA) (meets false 0 b (aK ot 9) Cp.iA ((HU a b x p bJ).take 32))) := by kernel_rfl
theorem ag0 : (bp Tryz.prog (Zi false false false false) 60 Tryz.f5 [.agg [.ints .u8 32 a, .ints .u8 32 b, .ints .u8 32 x, .ints .u8 32 y, .ro false .u8 p, .ro false .u8 q, .ro false .u8 bJ], .agg [.ints .u8 32 ot], .ro false .u8 lz] []).map (fun x => (x.1, x.2.2)) = some (.bool true, Og p bJ lz a b x ot (aK a 9) (aK b 9) (aK ot 9) (jv true (aK a 9) (aK b 9) bJ) (jv false (aK b 9) (aK ot 9) lz) (HU a b x p bJ) (meets true 0 a (aK b 9) x Cp.iA) (meets false 0 b (aK ot 9) Cp.iA ((HU a b x p bJ).take 32))) := by kernel_rfl
end
theorem MH (key af x : List Int) : bU (Ae.b9 key af x) = true := R4.aV.2 (by unfold Ae.b9; exact R4.D4 1)
theorem Xs (q : K4) (ch ha cJ oG : List Int) : bU (Aq q ch ha cJ oG) = true := Nq.MI _ _ _ _
theorem Rh (bg : Bool) (op pe bJ : List Int) : bU (jv bg op pe bJ) = true := by cases bg <;> exact Nq.qW _
theorem HV {a b x p bJ ot lz : List Int} (ha : Re.ak a = true) (hb : Re.ak b = true) (hx : Re.ak x = true) (ho : Re.ak ot = true) (u2 : bU lz = true) (y q : List Int) :
    ai Tryz.prog 5 [.agg [.ints .u8 32 a, .ints .u8 32 b, .ints .u8 32 x, .ints .u8 32 y, .ro false .u8 p, .ro false .u8 q, .ro false .u8 bJ], .agg [.ints .u8 32 ot], .ro false .u8 lz] [] (.bool true) [] := by
  by_cases h1 : 1024 < p.length
  · exact aG (wu true true true true) 60 Tryz.func5 (agU a b x y p q bJ ot lz) (by rw [decide_eq_true (show (p.length : Int) > 1024 by omega)]; rfl) rfl
  by_cases h2 : 1000 < bJ.length
  · exact aG (wu true false true true) 60 Tryz.func5 (agV a b x y p q bJ ot lz) (by rw [decide_eq_false (show ¬ (p.length : Int) > 1024 by omega), decide_eq_true (show (bJ.length : Int) > 1000 by omega)]; rfl) rfl
  by_cases h3 : 1000 < lz.length
  · exact aG (wu true false false true) 60 Tryz.func5 (agX a b x y p q bJ ot lz) (by rw [decide_eq_false (show ¬ (p.length : Int) > 1024 by omega), decide_eq_false (show ¬ (bJ.length : Int) > 1000 by omega), decide_eq_true (show (lz.length : Int) > 1000 by omega)]; rfl) rfl
  have mt : (HU a b x p bJ).take 32 = aK x 9 := by unfold HU; rw [List.take_left' (cI _ _)]
  have ml : (HU a b x p bJ).length = p.length + 48 := by unfold HU; rw [List.length_append, cI, uo]; omega
  have um : bU (HU a b x p bJ) = true := by unfold HU; exact Bx.tJ (Bx.rG (j6 _ _)) (Xs _ _ _ _ _)
  have q1 : cu (meets true 0 a (aK b 9) x Cp.iA) = true := by rw [BY]; exact je hx hb ha hb
  have q2 : cu (meets false 0 b (aK ot 9) Cp.iA ((HU a b x p bJ).take 32)) = true := by rw [mt, BZ]; exact je hb hx hb ho
  have kt := agY a b x y p q bJ ot lz
  have kf := ag0 a b x y p q bJ ot lz
  have lH : (jv true (aK a 9) (aK b 9) bJ).length = 32 := wm _ _ _ _
  have lG : (jv false (aK b 9) (aK ot 9) lz).length = 32 := wm _ _ _ _
  have uG : bU (jv false (aK b 9) (aK ot 9) lz) = true := Rh _ _ _ _
  generalize jv true (aK a 9) (aK b 9) bJ = H at *
  generalize jv false (aK b 9) (aK ot 9) lz = G at *
  generalize meets true 0 a (aK b 9) x Cp.iA = m1 at *
  generalize meets false 0 b (aK ot 9) Cp.iA ((HU a b x p bJ).take 32) = r1 at *
  generalize HU a b x p bJ = M at *
  cases hop : Ae.bk (eD r1 gu) (Ae.aD 0) (S2.aj (G ++ M.take 32)) (M.drop 32) with
  | true =>
    refine aG (wu true false false false) 60 Tryz.func5 kt ?_ rfl
    unfold tD
    rw [hop]
    simp [au, ha, hb, hx, ho, u2, lH, lG, uG, ml, um, q1, q2, cI, j6, zK, MH]
    omega
  | false =>
    refine aG (wu false false false false) 60 Tryz.func5 kf ?_ rfl
    unfold Og
    rw [hop]
    simp [au, ha, hb, hx, ho, u2, lH, lG, uG, ml, um, q1, q2, cI, j6, zK]
    omega
end Go.Proofs.YtibfpjeeanppjaaGreat.No
