/- This file holds the texts NqC, NqD, a section each. No conditions beyond those in the theorems. -/
import Derived.Test.YtibfpjeeanppjaaGreatXNqB
import Derived.Test.YtibfpjeeanppjaaGreatXNoE
set_option linter.all false
set_option maxRecDepth 100000
section
namespace Go.Proofs.YtibfpjeeanppjaaGreat.Nq
open Go Go.Sy Sh La
open No (jv gu)
noncomputable def xm (b : Bool) : br := mk (P := Tryz.prog) [EH b, kS] []
theorem dz (b : Bool) : ag Tryz.prog (xm b) := ah _ aq.nil _ _
noncomputable def U3 (ha key x : List Int) (o : Bool) : Bool :=
  aa true (aa (aa true (aa (decide (ha.length = 32) && true) (decide (ha.length = 32)))) (true && decide (key.length = 32) && R4.dL key && R4.dL ha && R4.dL x && decide (ha.length ≤ 1048592) && decide (x.length ≤ 1048592) && o))
theorem MI (key af ctx x : List Int) : bU (Ae.fG key af ctx x) = true := R4.aV.2 ((R4.D4 1).app (R4.MK _ _ _ _))
noncomputable def acU : List SV → Option (SV × List Blk × Bool)
  | [.agg [.ints .u8 32 ch, .ints .u8 32 ha, .bool true, .ints .u8 32 key, .int .i64 n], .ro false .u8 x] => some (.aQ [.ro true .u8 (Cp.tL key ha 0 x), sv ch (S2.aj (ha ++ Cp.tL key ha 0 x)) true key 1, .int .i64 0], [], decide (n = 0) && decide (ha.length = 32) && decide (key.length = 32) && bU key && bU ha && decide (x.length ≤ 1048576))
  | _ => none
noncomputable def B4 (u : Bool) : List SV → Option (SV × List Blk × Bool)
  | [.agg [.ints .u8 32 ch, .ints .u8 32 ha, .bool true, .ints .u8 32 key, .int .i64 n], .ro false .u8 x] => match u with
    | true => some (.aQ [.ro true .u8 (Ae.b9 key (Ae.aD 0) x), sv ch (S2.aj (ha ++ x)) true key 1, .int .i64 0], [], decide (n = 0) && decide (ha.length = 32) && decide (key.length = 32) && bU key && bU ha && bU x && decide (x.length ≤ 1048592) && Ae.bk key (Ae.aD 0) ha x)
    | false => some (.aQ [.nl (.slice none 0 0), sv ch ha true key 0, .int .i64 2], [], decide (n = 0) && decide (ha.length = 32) && decide (key.length = 32) && bU key && bU ha && bU x && decide (x.length ≤ 1048592) && !Ae.bk key (Ae.aD 0) ha x)
  | _ => none
noncomputable def ML (u : Bool) : Entry Tryz.prog := .val 57 _ Tryz.func57 (by decide) rfl true 0 (B4 u) fun vs v new e => by
  unfold B4 at e
  split at e
  · rename_i ch ha key n x
    split at e
    · simp only [Option.some.injEq, Prod.mk.injEq, Bool.and_eq_true, decide_eq_true_eq] at e
      obtain ⟨rfl, rfl, ⟨⟨⟨⟨⟨⟨rfl, h1⟩, h2⟩, h3⟩, h4⟩, h5⟩, h6⟩, h7⟩ := e
      exact aG (dz true) 60 Tryz.func57 (p := aa (U3 ha key x (Ae.bk key (Ae.aD 0) ha x)) (aa true (decide (ha.length = 32) && bU ha && bU x && decide (x.length < 270000000000)))) (by kernel_rfl) (by
        have e1 : R4.dL key = true := h3
        have e2 : R4.dL ha = true := h4
        have e3 : R4.dL x = true := h5
        unfold U3
        rw [h1, h2, e1, e2, e3, h4, h5, h7, decide_eq_true h6, decide_eq_true (show x.length < 270000000000 by omega)]; rfl) rfl
    · simp only [Option.some.injEq, Prod.mk.injEq, Bool.and_eq_true, decide_eq_true_eq] at e
      obtain ⟨rfl, rfl, ⟨⟨⟨⟨⟨⟨rfl, h1⟩, h2⟩, h3⟩, h4⟩, h5⟩, h6⟩, h7⟩ := e
      exact aG (dz false) 60 Tryz.func57 (p := U3 ha key x (!Ae.bk key (Ae.aD 0) ha x)) (by kernel_rfl) (by
        have e1 : R4.dL key = true := h3
        have e2 : R4.dL ha = true := h4
        have e3 : R4.dL x = true := h5
        unfold U3
        rw [h1, h2, e1, e2, e3, h7, decide_eq_true h6]; rfl) rfl
  · cases e
abbrev hv (ch ha : List Int) (has : Bool) (key : List Int) (n : Int) (bg : Bool) (aU : Int) (os op pe mi th : List Int) : SV := .agg [.ints .u8 32 ch, .ints .u8 32 ha, .bool has, .ints .u8 32 key, .int .i64 n, .bool bg, .int .i64 aU, .ints .u8 32 os, .ints .u8 32 op, .ints .u8 32 pe, .ints .u8 32 mi, .ints .u8 32 th]
noncomputable def nwC : br := mk (P := Tryz.prog) [uW, kS] []
theorem zM : ag Tryz.prog nwC := ah _ aq.nil _ _
noncomputable def nwP (x y : List Int) : Bool := aa (aa true (aa (decide (y.length = 32) && true) (decide (y.length = 32)))) (decide ((S2.aj x).length = 32) && bU (S2.aj x) && bU y && decide (y.length < 270000000000))
noncomputable def nwO (bJ a b : List Int) : Bool :=
  aa (aa (aa true (aa true (decide (gu.length = 32) && bU gu && bU bJ && decide (bJ.length < 270000000000)))) (nwP (gu ++ bJ) a)) (nwP (S2.aj (gu ++ bJ) ++ a) b)
theorem qW (l : List Int) : bU (S2.aj l) = true := Bx.ld (S2.jY _)
theorem B5 {x y : List Int} (h : Re.ak y = true) : nwP x y = true := by
  unfold nwP
  rw [(Re.bK.1 h).1, S2.bz, qW, Bx.rG h]; rfl
theorem B6 {bJ a b : List Int} (up : bU bJ = true) (lp : bJ.length < 270000000000) (ha : Re.ak a = true) (hb : Re.ak b = true) : nwO bJ a b = true := by
  have e1 : gu.length = 32 := S2.bz _
  have e2 : bU gu = true := qW _
  unfold nwO
  rw [B5 ha, B5 hb, e1, e2, up, decide_eq_true lp]; rfl
noncomputable def newF : List SV → Option (SV × List Blk × Bool)
  | [.bool bg, .agg [.ints .u8 32 os, .ints .u8 32 op], .agg [.ints .u8 32 pe], .ro false .u8 bJ] => some (hv gu (jv bg op pe bJ) false Cp.iA 0 bg 0 os op pe Cp.iA Cp.iA, [], bU bJ && decide (bJ.length < 270000000000) && Re.ak op && Re.ak pe)
  | _ => none
noncomputable def CZ : Entry Tryz.prog := .val 27 _ Tryz.func27 (by decide) rfl true 0 newF fun vs v new e => by
  unfold newF at e
  split at e
  · rename_i bg os op pe bJ
    simp only [Option.some.injEq, Prod.mk.injEq, Bool.and_eq_true, decide_eq_true_eq] at e
    obtain ⟨rfl, rfl, ⟨⟨h1, h2⟩, h3⟩, h4⟩ := e
    cases bg with
    | true => exact aG zM 60 Tryz.func27 (p := nwO bJ op pe) (by kernel_rfl) (B6 h1 h2 h3 h4) rfl
    | false => exact aG zM 60 Tryz.func27 (p := nwO bJ pe op) (by kernel_rfl) (B6 h1 h2 h4 h3) rfl
  · cases e
end Go.Proofs.YtibfpjeeanppjaaGreat.Nq
end
section
namespace Go.Proofs.YtibfpjeeanppjaaGreat.Nq
open Go Go.Sy Sh La
noncomputable def tnC : br := mk (P := Tryz.prog) [] []
theorem fo : ag Tryz.prog tnC := ah _ aq.nil _ _
noncomputable def BV : List SV → Option (SV × List Blk × Bool)
  | [.agg [.ints .u8 32 _, .ints .u8 32 _, .bool _, .ints .u8 32 _, .int .i64 _, .bool bg, .int .i64 aU, .ints .u8 32 _, .ints .u8 32 _, .ints .u8 32 _, .ints .u8 32 _, .ints .u8 32 _]] => some (.bool (No.Mq bg aU), [], No.HQ aU)
  | _ => none
noncomputable def x5 : Entry Tryz.prog := .val 33 _ Tryz.func33 (by decide) rfl false 0 BV fun vs v new e => by
  unfold BV at e
  split at e
  · rename_i bg aU _ _ _ _ _
    simp only [Option.some.injEq, Prod.mk.injEq] at e
    obtain ⟨rfl, rfl, h⟩ := e
    rcases No.uj h with rfl | rfl | rfl <;> cases bg
    · exact aG fo 60 Tryz.func33 (p := true) (by kernel_rfl) rfl rfl
    · exact aG fo 60 Tryz.func33 (p := true) (by kernel_rfl) rfl rfl
    · exact aG fo 60 Tryz.func33 (p := true) (by kernel_rfl) rfl rfl
    · exact aG fo 60 Tryz.func33 (p := true) (by kernel_rfl) rfl rfl
    · exact aG fo 60 Tryz.func33 (p := true) (by kernel_rfl) rfl rfl
    · exact aG fo 60 Tryz.func33 (p := true) (by kernel_rfl) rfl rfl
  · cases e
noncomputable def meC : br := mk (P := Tryz.prog) [EC false, lg] []
theorem Xw : ag Tryz.prog meC := ah _ aq.nil _ _
noncomputable def meO (ch s p : List Int) : Bool :=
  aa (aa true (aa true (Re.ak s && Re.ak p && !oY s p))) (aa (aa true (aa (decide ((gr s p).length = 32) && true) (decide ((gr s p).length = 32)))) (decide (ch.length = 32) && bU (gr s p) && decide ((gr s p).length < 274877890000)))
noncomputable def Uc : List SV → Option (SV × List Blk × Bool)
  | [.agg [.ints .u8 32 ch, .ints .u8 32 ha, .bool _, .ints .u8 32 _, .int .i64 _, .bool bg, .int .i64 aU, .ints .u8 32 os, .ints .u8 32 op, .ints .u8 32 pe, .ints .u8 32 mi, .ints .u8 32 th], .agg [.ints .u8 32 s], .agg [.ints .u8 32 p]] =>
    some (.aQ [hv (Cp.qc (Kd.bP ch (gr s p))) ha true (Cp.xA (Kd.bP ch (gr s p))) 0 bg aU os op pe mi th, .int .i64 0], [], Re.ak s && Re.ak p && !oY s p && decide (ch.length = 32))
  | _ => none
noncomputable def acV : Entry Tryz.prog := .val 56 _ Tryz.func56 (by decide) rfl false 0 Uc fun vs v new e => by
  unfold Uc at e
  split at e
  · rename_i ch ha has key n bg aU os op pe mi th s p
    simp only [Option.some.injEq, Prod.mk.injEq, Bool.and_eq_true, decide_eq_true_eq, Bool.not_eq_true'] at e
    obtain ⟨rfl, rfl, ⟨⟨h1, h2⟩, h3⟩, h4⟩ := e
    exact aG Xw 60 Tryz.func56 (p := meO ch s p) (by kernel_rfl) (by
      unfold meO
      rw [h1, h2, h3, h4, jz, Bx.rG (PD s p)]; rfl) rfl
  · cases e
end Go.Proofs.YtibfpjeeanppjaaGreat.Nq
end
