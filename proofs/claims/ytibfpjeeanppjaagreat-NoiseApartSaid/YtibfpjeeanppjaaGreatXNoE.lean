/- This file proves the contracts of noise's New, Write and Read (where they come to a message), Keys and Hash. Conditions: keys of 32 bytes; stages that there are; lengths that the program takes. -/
import Derived.Test.YtibfpjeeanppjaaGreatXNoD
set_option linter.all false
set_option maxRecDepth 100000
namespace Go.Proofs.YtibfpjeeanppjaaGreat.No
open Go Go.Sy Sh La
def nmL : List Int := [78, 111, 105, 115, 101, 95, 75, 75, 95, 50, 53, 53, 49, 57, 95, 67, 104, 97, 67, 104, 97, 80, 111, 108, 121, 95, 83, 72, 65, 50, 53, 54]
noncomputable def gu : List Int := S2.aj nmL
noncomputable def jv (bg : Bool) (op pe bJ : List Int) : List Int := bif bg then S2.aj (S2.aj (S2.aj (gu ++ bJ) ++ op) ++ pe) else S2.aj (S2.aj (S2.aj (gu ++ bJ) ++ pe) ++ op)
theorem wm (bg : Bool) (op pe bJ : List Int) : (jv bg op pe bJ).length = 32 := by cases bg <;> exact S2.bz _
noncomputable def nC : br := mk (P := Tryz.prog) [Cp.uW, kS] []
theorem T1 : ag Tryz.prog nC := ah _ aq.nil _ _
noncomputable def nO (bJ a b : List Int) : Bool :=
  aa (aa (aa true (aa true (decide (gu.length = 32) && decide (bJ.length < 270000000000)))) (aa true (decide ((S2.aj (gu ++ bJ)).length = 32) && decide (a.length = 32)))) (aa true (decide ((S2.aj (S2.aj (gu ++ bJ) ++ a)).length = 32) && decide (b.length = 32)))
theorem F7 {bJ a b : List Int} (h : bJ.length < 270000000000) (ha : a.length = 32) (hb : b.length = 32) : nO bJ a b = true := by
  unfold nO gu
  rw [S2.bz, S2.bz, S2.bz, ha, hb, decide_eq_true h]; rfl
section
variable (os op pe bJ : List Int)
theorem n_t : (bp Tryz.prog nC 60 Tryz.f23 [.bool true, .agg [.ints .u8 32 os, .ints .u8 32 op], .agg [.ints .u8 32 pe], .ro false .u8 bJ] []).map (fun x => (x.1, x.2.1.take 4, x.2.2)) =
    some (.ptr 3 0 0, [.b [.ints .u8 32 os, .ints .u8 32 op], .b [.ints .u8 32 pe], Cp.st Cp.iA false 0 gu gu, hb Cp.iA false 0 gu (jv true op pe bJ) true 0 os op pe Cp.iA Cp.iA Cp.iA], nO bJ op pe) := by kernel_rfl
theorem n_f : (bp Tryz.prog nC 60 Tryz.f23 [.bool false, .agg [.ints .u8 32 os, .ints .u8 32 op], .agg [.ints .u8 32 pe], .ro false .u8 bJ] []).map (fun x => (x.1, x.2.1.take 4, x.2.2)) =
    some (.ptr 3 0 0, [.b [.ints .u8 32 os, .ints .u8 32 op], .b [.ints .u8 32 pe], Cp.st Cp.iA false 0 gu gu, hb Cp.iA false 0 gu (jv false op pe bJ) false 0 os op pe Cp.iA Cp.iA Cp.iA], nO bJ pe op) := by kernel_rfl
end
theorem mQ {bg : Bool} {os op pe bJ : List Int} (h : bJ.length < 270000000000) (h1 : op.length = 32) (h2 : pe.length = 32) :
    ai Tryz.prog 23 [.bool bg, .agg [.ints .u8 32 os, .ints .u8 32 op], .agg [.ints .u8 32 pe], .ro false .u8 bJ] [] (.ptr 0 0 0) [hb Cp.iA false 0 gu (jv bg op pe bJ) bg 0 os op pe Cp.iA Cp.iA Cp.iA] := by
  cases bg with
  | true => exact ai.Js [3] (bn T1 60 Tryz.func23 4 (by simp) (n_t os op pe bJ) (F7 h h1 h2) rfl rfl) (by kernel_rfl)
  | false => exact ai.Js [3] (bn T1 60 Tryz.func23 4 (by simp) (n_f os op pe bJ) (F7 h h2 h1) rfl rfl) (by kernel_rfl)
noncomputable def newF : List SV → Option (SV × List Blk × Bool)
  | [.bool bg, .agg [.ints .u8 32 os, .ints .u8 32 op], .agg [.ints .u8 32 pe], .ro false .u8 bJ] => some (.ptr 0 0 0, [hb Cp.iA false 0 gu (jv bg op pe bJ) bg 0 os op pe Cp.iA Cp.iA Cp.iA], decide (bJ.length < 270000000000) && decide (op.length = 32) && decide (pe.length = 32))
  | [.bool bg, .agg [.ints .u8 32 os, .ints .u8 32 op], .agg [.ints .u8 32 pe], .nl (.slice none 0 0)] => some (.ptr 0 0 0, [hb Cp.iA false 0 gu (jv bg op pe []) bg 0 os op pe Cp.iA Cp.iA Cp.iA], decide (op.length = 32) && decide (pe.length = 32))
  | _ => none
noncomputable def CZ : Entry Tryz.prog := .val 23 _ Tryz.func23 (by decide) rfl true 1 newF fun vs v new e => by
  unfold newF at e
  split at e
  · simp only [Option.some.injEq, Prod.mk.injEq, Bool.and_eq_true, decide_eq_true_eq] at e
    obtain ⟨rfl, rfl, ⟨h, h1⟩, h2⟩ := e
    exact mQ h h1 h2
  · simp only [Option.some.injEq, Prod.mk.injEq, Bool.and_eq_true, decide_eq_true_eq] at e
    obtain ⟨rfl, rfl, h1, h2⟩ := e
    exact ai.conv (mQ (bJ := []) (by decide) h1 h2) ⟨VE.refl _, VE.refl _, VE.refl _, VE.rE _ _, trivial⟩ trivial (VE.refl _) ⟨PE.refl _, trivial⟩
  · cases e
noncomputable def T4 : Entry Tryz.prog := .val 23 _ Tryz.func23 (by decide) rfl false 1 newF fun vs v new e => by
  unfold newF at e
  split at e
  · simp only [Option.some.injEq, Prod.mk.injEq, Bool.and_eq_true, decide_eq_true_eq] at e
    obtain ⟨rfl, rfl, ⟨h, h1⟩, h2⟩ := e
    exact mQ h h1 h2
  · simp only [Option.some.injEq, Prod.mk.injEq, Bool.and_eq_true, decide_eq_true_eq] at e
    obtain ⟨rfl, rfl, h1, h2⟩ := e
    exact ai.conv (mQ (bJ := []) (by decide) h1 h2) ⟨VE.refl _, VE.refl _, VE.refl _, VE.rE _ _, trivial⟩ trivial (VE.refl _) ⟨PE.refl _, trivial⟩
  · cases e
noncomputable def wrR (bg : Bool) (aU : Int) (ij oG ch ha os op pe th : List Int) : Option (SV × List Blk × Bool) :=
  let q := meets true aU os pe ij th
  bif (aU == 0 && bg) || (aU == 1 && !bg) then some (.aQ [.ro true .u8 (aK ij 9 ++ Aq q ch ha (aK ij 9) oG), .nl .nilIface], [hb (eD q ch) true 1 (mc q ch) (zJ ha (aK ij 9) (Aq q ch ha (aK ij 9) oG)) bg (aU + 1) os op pe ij (aK ij 9) th],
    decide (ha.length = 32) && decide (ch.length = 32) && Re.ak ij && decide (oG.length ≤ 1024) && cu q) else none
noncomputable def Mt : List SV → List Blk → Option (SV × List Blk × Bool)
  | [.ptr 0 0 0, .agg [.ints .u8 32 ij], .ro false .u8 oG], [.b [.ints .u8 32 key, .bool has, .int .i64 n, .ints .u8 32 ch, .ints .u8 32 ha, .bool bg, .int .i64 aU, .ints .u8 32 os, .ints .u8 32 op, .ints .u8 32 pe, .ints .u8 32 ms, .ints .u8 32 mp, .ints .u8 32 th]] => wrR bg aU ij oG ch ha os op pe th
  | [.ptr 0 0 0, .agg [.ints .u8 32 ij], .nl (.slice none 0 0)], [.b [.ints .u8 32 key, .bool has, .int .i64 n, .ints .u8 32 ch, .ints .u8 32 ha, .bool bg, .int .i64 aU, .ints .u8 32 os, .ints .u8 32 op, .ints .u8 32 pe, .ints .u8 32 ms, .ints .u8 32 mp, .ints .u8 32 th]] => wrR bg aU ij [] ch ha os op pe th
  | _, _ => none
theorem acN {bg : Bool} {aU : Int} (h : ((aU == 0 && bg) || (aU == 1 && !bg)) = true) : aU = 0 ∧ bg = true ∨ aU = 1 ∧ bg = false := by simpa using h
theorem Mu {key ch ha os op pe ms mp th ij oG : List Int} {n aU : Int} {has bg : Bool} {v a : SV} {h1 : List Blk} (hv : VE a (.ro false .u8 oG)) (e : wrR bg aU ij oG ch ha os op pe th = some (v, h1, true)) :
    ai Tryz.prog 24 [.ptr 0 0 0, .agg [.ints .u8 32 ij], a] [hb key has n ch ha bg aU os op pe ms mp th] v h1 := by
  unfold wrR at e
  cases hs : ((aU == 0 && bg) || (aU == 1 && !bg)) with
  | true =>
    rw [hs] at e
    simp only [cond_true, Option.some.injEq, Prod.mk.injEq, Bool.and_eq_true, decide_eq_true_eq] at e
    obtain ⟨rfl, rfl, ⟨⟨⟨a, b⟩, c⟩, d⟩, m⟩ := e
    exact ai.conv (Ms (acN hs) a b c d m) ⟨VE.refl _, VE.refl _, hv, trivial⟩ ⟨PE.refl _, trivial⟩ (VE.refl _) ⟨PE.refl _, trivial⟩
  | false => rw [hs] at e; cases e
noncomputable def Mv : Entry Tryz.prog := .mut 24 _ Tryz.func24 (by decide) rfl Cp.jZ 0 Mt fun vs h0 v h1 e => by
  unfold Mt at e
  split at e
  · exact Mu (VE.refl _) e
  · exact Mu (VE.rE _ _) e
  · cases e
noncomputable def rdR (bg : Bool) (aU : Int) (x ch ha os op pe ms mp : List Int) : Option (SV × List Blk × Bool) :=
  let q := meets false aU os pe ms (x.take 32)
  bif (aU == 0 && !bg) || (aU == 1 && bg) then some (.aQ [.ro true .u8 (Ae.b9 (eD q ch) (Ae.aD 0) (x.drop 32)), .nl .nilIface], [hb (eD q ch) true 1 (mc q ch) (zJ ha (x.take 32) (x.drop 32)) bg (aU + 1) os op pe ms mp (x.take 32)],
    decide (ha.length = 32) && decide (ch.length = 32) && decide (48 ≤ x.length) && decide (x.length ≤ 1072) && cu q && Ae.bk (eD q ch) (Ae.aD 0) (S2.aj (ha ++ x.take 32)) (x.drop 32)) else none
noncomputable def BX : List SV → List Blk → Option (SV × List Blk × Bool)
  | [.ptr 0 0 0, .ro false .u8 x], [.b [.ints .u8 32 key, .bool has, .int .i64 n, .ints .u8 32 ch, .ints .u8 32 ha, .bool bg, .int .i64 aU, .ints .u8 32 os, .ints .u8 32 op, .ints .u8 32 pe, .ints .u8 32 ms, .ints .u8 32 mp, .ints .u8 32 th]] => rdR bg aU x ch ha os op pe ms mp
  | _, _ => none
theorem F8 {bg : Bool} {aU : Int} (h : ((aU == 0 && !bg) || (aU == 1 && bg)) = true) : aU = 0 ∧ bg = false ∨ aU = 1 ∧ bg = true := by simpa using h
noncomputable def F9 : Entry Tryz.prog := .mut 28 _ Tryz.func28 (by decide) rfl Cp.jZ 0 BX fun vs h0 v h1 e => by
  unfold BX at e
  split at e
  · rename_i x key has n ch ha bg aU os op pe ms mp th
    unfold rdR at e
    cases hs : ((aU == 0 && !bg) || (aU == 1 && bg)) with
    | true =>
      rw [hs] at e
      simp only [cond_true, Option.some.injEq, Prod.mk.injEq, Bool.and_eq_true, decide_eq_true_eq] at e
      obtain ⟨rfl, rfl, ⟨⟨⟨⟨a, b⟩, c⟩, d⟩, m⟩, o⟩ := e
      exact Q9 (F8 hs) a b c d m o
    | false => rw [hs] at e; cases e
  · cases e
noncomputable def kC : br := mk (P := Tryz.prog) [T0, Cp.Jv] [(62, Tryz.f62)]
theorem Ga : ag Tryz.prog kC := ah _ (aq.cons Tryz.func62 (by decide) aq.nil) _ _
noncomputable def hC : br := mk (P := Tryz.prog) [] [(61, Tryz.f61)]
theorem wo : ag Tryz.prog hC := ah _ (aq.cons Tryz.func61 (by decide) aq.nil) _ _
noncomputable def T5 (bg : Bool) (aU : Int) (ch : List Int) : SV := bif aU == 2 then (bif bg then .aQ [.agg [.ints .u8 32 (Cp.qc ch)], .agg [.ints .u8 32 (Cp.xA ch)], .nl .nilIface] else .aQ [.agg [.ints .u8 32 (Cp.xA ch)], .agg [.ints .u8 32 (Cp.qc ch)], .nl .nilIface])
  else .aQ [.agg [.ints .u8 32 gA], .agg [.ints .u8 32 gA], .iface 78 (.int .i64 10)]
section
variable {key ch ha os op pe ms mp th : List Int} {n aU : Int} {has bg : Bool}
theorem Ra (h : aU = 0 ∨ aU = 1 ∨ aU = 2) (hc : ch.length = 32) : ai Tryz.prog 34 [.ptr 0 0 0] [hb key has n ch ha bg aU os op pe ms mp th] (T5 bg aU ch) [hb key has n ch ha bg aU os op pe ms mp th] := by
  have ho : aa true (aa true (decide (ch.length = 32))) = true := by rw [hc]; rfl
  rcases h with rfl | rfl | rfl
  · exact bn Ga 60 Tryz.func34 1 (by simp) (p := true) (by kernel_rfl) rfl rfl rfl
  · exact bn Ga 60 Tryz.func34 1 (by simp) (p := true) (by kernel_rfl) rfl rfl rfl
  · cases bg with
    | true => exact bn Ga 60 Tryz.func34 1 (by simp) (p := aa true (aa true (aa true (decide (ch.length = 32))))) (by kernel_rfl) (by rw [ho]; rfl) rfl rfl
    | false => exact bn Ga 60 Tryz.func34 1 (by simp) (p := aa true (aa true (aa true (decide (ch.length = 32))))) (by kernel_rfl) (by rw [ho]; rfl) rfl rfl
end
noncomputable def T6 : List SV → List Blk → Option (SV × Bool)
  | [.ptr 0 0 0], [.b [.ints .u8 32 key, .bool has, .int .i64 n, .ints .u8 32 ch, .ints .u8 32 ha, .bool bg, .int .i64 aU, .ints .u8 32 os, .ints .u8 32 op, .ints .u8 32 pe, .ints .u8 32 ms, .ints .u8 32 mp, .ints .u8 32 th]] => some (T5 bg aU ch, HQ aU && decide (ch.length = 32))
  | _, _ => none
noncomputable def acO : Entry Tryz.prog := .YP 34 _ Tryz.func34 (by decide) rfl Mr T6 fun vs h0 v e => by
  unfold T6 at e
  split at e
  · simp only [Option.some.injEq, Prod.mk.injEq, Bool.and_eq_true, decide_eq_true_eq] at e
    obtain ⟨rfl, h, hc⟩ := e
    exact Ra (uj h) hc
  · cases e
end Go.Proofs.YtibfpjeeanppjaaGreat.No
