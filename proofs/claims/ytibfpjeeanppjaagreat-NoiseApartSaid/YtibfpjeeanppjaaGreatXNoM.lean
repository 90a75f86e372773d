/- This file proves the contract of a handshake's Read where a message's mark is wrong. Conditions: keys of 32 bytes; stages that there are; lengths that the program takes. -/
import Derived.Test.YtibfpjeeanppjaaGreatXNoE
set_option linter.all false
set_option maxRecDepth 100000
namespace Go.Proofs.YtibfpjeeanppjaaGreat.No
open Go Go.Sy Sh La
noncomputable def sxC : br := mk (P := Tryz.prog) [S2.mM, Ae.Ew false, Ae.uL] Cp.O7 fun i => if i = 25 then some false else none
theorem Xp : ag Tryz.prog sxC := ah _ Cp.yx _ _
noncomputable def sxO (key ha x : List Int) : Bool := aa true (aa true (aa true (aa (aa true (aa true (aa (decide (ha.length = 32) && true) (decide (ha.length = 32))))) (true && decide (ha.length ≤ 1048592) && decide (x.length ≤ 1048592) && !Ae.bk key (Ae.aD 0) ha x))))
noncomputable def Rg : SV := .aQ [.nl (.slice none 0 0), .iface 78 (.int .i64 2)]
theorem MC {key ch ha os op pe ms mp th x : List Int} {aU : Int} {bg : Bool} (h1 : ha.length = 32) (ht : x.length ≤ 1048592) (no : Ae.bk key (Ae.aD 0) ha x = false) :
    ai Tryz.prog 59 [.ptr 0 0 0, .ro false .u8 x] [hb key true 0 ch ha bg aU os op pe ms mp th] Rg [hb key true 0 ch ha bg aU os op pe ms mp th] :=
  bn Xp 60 Tryz.func59 1 (by simp) (p := sxO key ha x) (by kernel_rfl) (by unfold sxO; rw [h1, no, decide_eq_true ht]; rfl) rfl rfl
noncomputable def MD : List SV → List Blk → Option (SV × List Blk × Bool)
  | [.ptr 0 0 0, .ro false .u8 x], [.b [.ints .u8 32 key, .bool true, .int .i64 n, .ints .u8 32 ch, .ints .u8 32 ha, .bool bg, .int .i64 aU, .ints .u8 32 os, .ints .u8 32 op, .ints .u8 32 pe, .ints .u8 32 ms, .ints .u8 32 mp, .ints .u8 32 th]] => some (Rg, [hb key true 0 ch ha bg aU os op pe ms mp th], decide (n = 0) && decide (ha.length = 32) && decide (x.length ≤ 1048592) && !Ae.bk key (Ae.aD 0) ha x)
  | _, _ => none
noncomputable def Xq : Entry Tryz.prog := .mut 59 _ Tryz.func59 (by decide) rfl Cp.jZ 0 MD fun vs h0 v h1 e => by
  unfold MD at e
  split at e
  · simp only [Option.some.injEq, Prod.mk.injEq, Bool.and_eq_true, decide_eq_true_eq, Bool.not_eq_true'] at e
    obtain ⟨rfl, rfl, ⟨⟨rfl, h1⟩, h2⟩, h3⟩ := e
    exact MC h1 h2 h3
  · cases e
noncomputable def rxC : br := mk (P := Tryz.prog) [x5, Au, Xq] [] fun i => if i = 29 || i = 25 then some false else none
theorem CL : ag Tryz.prog rxC := ah _ aq.nil _ _
noncomputable def rxO (q : K4) (ch ha x D : List Int) : Bool :=
  aa (aa (aa (aa (aa (aa (aa (aa true (!decide ((x.length : Int) < 48))) (!decide ((x.length : Int) > 1072))) (aa true (true && decide ((32 : Int) ≤ (x.length : Int))))) (decide (31 + 1 ≤ (x.take 32).length))) (true && decide (0 + 32 ≤ (x.take 32).length)))
    (aa true (decide (ha.length = 32) && decide (D.length = 32) && decide (ch.length = 32) && iL q.1 q.2.1 q.2.2.1 q.2.2.2))) (aa true (aa true (true && decide ((32 : Int) ≤ (x.length : Int))))))
    (aa true (true && decide ((S2.aj (ha ++ D)).length = 32) && decide ((x.drop 32).length ≤ 1048592) && !Ae.bk (eD q ch) (Ae.aD 0) (S2.aj (ha ++ D)) (x.drop 32)))
theorem ME {q : K4} {ch ha x D : List Int} (h1 : ha.length = 32) (h3 : ch.length = 32) (h0 : 48 ≤ x.length) (hx : x.length ≤ 1072) (hD : D.length = 32) (h : cu q = true) (ho : Ae.bk (eD q ch) (Ae.aD 0) (S2.aj (ha ++ D)) (x.drop 32) = false) : rxO q ch ha x D = true := by
  have hm : iL q.1 q.2.1 q.2.2.1 q.2.2.2 = true := h
  have ht : (x.take 32).length = 32 := by rw [List.length_take]; omega
  unfold rxO
  rw [h1, h3, hm, ho, hD, ht, S2.bz, decide_eq_false (show ¬ (x.length : Int) < 48 by omega), decide_eq_false (show ¬ (x.length : Int) > 1072 by omega), decide_eq_true (show (32 : Int) ≤ x.length by omega), decide_eq_true (show (x.drop 32).length ≤ 1048592 by rw [List.length_drop]; omega)]
  rfl
section
variable {key ch ha os op pe ms mp th x : List Int} {n : Int} {has : Bool}
theorem MF {bg : Bool} {aU : Int} (hs : aU = 0 ∧ bg = false ∨ aU = 1 ∧ bg = true) (h1 : ha.length = 32) (h3 : ch.length = 32) (h0 : 48 ≤ x.length) (hx : x.length ≤ 1072) (h : cu (meets false aU os pe ms (x.take 32)) = true)
    (ho : Ae.bk (eD (meets false aU os pe ms (x.take 32)) ch) (Ae.aD 0) (S2.aj (ha ++ x.take 32)) (x.drop 32) = false) :
    ai Tryz.prog 28 [.ptr 0 0 0, .ro false .u8 x] [hb key has n ch ha bg aU os op pe ms mp th] Rg [hb key has n ch ha bg aU os op pe ms mp th] := by
  have e : Bx.xy x = x.take 32 := Bx.yo x
  have hr : rxO (meets false aU os pe ms (Bx.xy x)) ch ha x (Bx.xy x) = true := by
    rw [e]
    exact ME h1 h3 h0 hx (by rw [List.length_take]; omega) h ho
  rcases hs with ⟨rfl, rfl⟩ | ⟨rfl, rfl⟩
  · exact bn CL 60 Tryz.func28 1 (by simp) (by kernel_rfl) hr rfl rfl
  · exact bn CL 60 Tryz.func28 1 (by simp) (by kernel_rfl) hr rfl rfl
end
noncomputable def MG : List SV → List Blk → Option (SV × List Blk × Bool)
  | [.ptr 0 0 0, .ro false .u8 x], [.b [.ints .u8 32 key, .bool has, .int .i64 n, .ints .u8 32 ch, .ints .u8 32 ha, .bool bg, .int .i64 aU, .ints .u8 32 os, .ints .u8 32 op, .ints .u8 32 pe, .ints .u8 32 ms, .ints .u8 32 mp, .ints .u8 32 th]] =>
    bif (aU == 0 && !bg) || (aU == 1 && bg) then some (Rg, [hb key has n ch ha bg aU os op pe ms mp th],
      decide (ha.length = 32) && decide (ch.length = 32) && decide (48 ≤ x.length) && decide (x.length ≤ 1072) && cu (meets false aU os pe ms (x.take 32)) && !Ae.bk (eD (meets false aU os pe ms (x.take 32)) ch) (Ae.aD 0) (S2.aj (ha ++ x.take 32)) (x.drop 32)) else none
  | _, _ => none
noncomputable def Xr : Entry Tryz.prog := .mut 28 _ Tryz.func28 (by decide) rfl Cp.jZ 0 MG fun vs h0 v h1 e => by
  unfold MG at e
  split at e
  · rename_i x key has n ch ha bg aU os op pe ms mp th
    cases hs : ((aU == 0 && !bg) || (aU == 1 && bg)) with
    | true =>
      rw [hs] at e
      simp only [cond_true, Option.some.injEq, Prod.mk.injEq, Bool.and_eq_true, decide_eq_true_eq, Bool.not_eq_true'] at e
      obtain ⟨rfl, rfl, ⟨⟨⟨⟨a, b⟩, c⟩, d⟩, m⟩, o⟩ := e
      exact MF (F8 hs) a b c d m o
    | false => rw [hs] at e; cases e
  · cases e
end Go.Proofs.YtibfpjeeanppjaaGreat.No
