/- This file holds the texts NoC, NoD, a section each. No conditions beyond those in the theorems. -/
import Derived.Test.YtibfpjeeanppjaaGreatXNoB
set_option linter.all false
set_option maxRecDepth 100000
section
namespace Go.Proofs.YtibfpjeeanppjaaGreat.No
open Go Go.Sy Sh La
noncomputable def tnC : br := mk (P := Tryz.prog) [] []
theorem fo : ag Tryz.prog tnC := ah _ aq.nil _ _
def Mq (bg : Bool) (aU : Int) : Bool := bif aU == 0 then bg else bif aU == 1 then !bg else false
section
variable {key ch ha os op pe ms mp th : List Int} {n : Int} {has : Bool}
theorem Q4 {bg : Bool} {aU : Int} (h : aU = 0 ∨ aU = 1 ∨ aU = 2) : ai Tryz.prog 30 [.ptr 0 0 0] [hb key has n ch ha bg aU os op pe ms mp th] (.bool (Mq bg aU)) [hb key has n ch ha bg aU os op pe ms mp th] := by
  rcases h with rfl | rfl | rfl <;> cases bg
  · exact bn fo 60 Tryz.func30 1 (by simp) (p := true) (by kernel_rfl) rfl rfl rfl
  · exact bn fo 60 Tryz.func30 1 (by simp) (p := true) (by kernel_rfl) rfl rfl rfl
  · exact bn fo 60 Tryz.func30 1 (by simp) (p := true) (by kernel_rfl) rfl rfl rfl
  · exact bn fo 60 Tryz.func30 1 (by simp) (p := true) (by kernel_rfl) rfl rfl rfl
  · exact bn fo 60 Tryz.func30 1 (by simp) (p := true) (by kernel_rfl) rfl rfl rfl
  · exact bn fo 60 Tryz.func30 1 (by simp) (p := true) (by kernel_rfl) rfl rfl rfl
theorem Q5 {bg : Bool} {aU : Int} (h : aU = 0 ∨ aU = 1 ∨ aU = 2) : ai Tryz.prog 29 [.ptr 0 0 0] [hb key has n ch ha bg aU os op pe ms mp th] (.bool (aU == 2)) [hb key has n ch ha bg aU os op pe ms mp th] := by
  rcases h with rfl | rfl | rfl
  · exact bn fo 60 Tryz.func29 1 (by simp) (p := true) (by kernel_rfl) rfl rfl rfl
  · exact bn fo 60 Tryz.func29 1 (by simp) (p := true) (by kernel_rfl) rfl rfl rfl
  · exact bn fo 60 Tryz.func29 1 (by simp) (p := true) (by kernel_rfl) rfl rfl rfl
end
def HQ (aU : Int) : Bool := aU == 0 || aU == 1 || aU == 2
theorem uj {aU : Int} (h : HQ aU = true) : aU = 0 ∨ aU = 1 ∨ aU = 2 := by
  unfold HQ at h
  simp only [Bool.or_eq_true, beq_iff_eq] at h
  omega
def Mr (vs : List SV) : List Nat := match vs with
  | .ptr b _ _ :: _ => [b]
  | _ => []
def BV : List SV → List Blk → Option (SV × Bool)
  | [.ptr 0 0 0], [.b [.ints .u8 32 _, .bool _, .int .i64 _, .ints .u8 32 _, .ints .u8 32 _, .bool bg, .int .i64 aU, .ints .u8 32 _, .ints .u8 32 _, .ints .u8 32 _, .ints .u8 32 _, .ints .u8 32 _, .ints .u8 32 _]] => some (.bool (Mq bg aU), HQ aU)
  | _, _ => none
noncomputable def x5 : Entry Tryz.prog := .YP 30 _ Tryz.func30 (by decide) rfl Mr BV fun vs h0 v e => by
  unfold BV at e
  split at e
  · simp only [Option.some.injEq, Prod.mk.injEq] at e
    obtain ⟨rfl, h⟩ := e
    exact Q4 (uj h)
  · cases e
def TZ : List SV → List Blk → Option (SV × Bool)
  | [.ptr 0 0 0], [.b [.ints .u8 32 _, .bool _, .int .i64 _, .ints .u8 32 _, .ints .u8 32 _, .bool _, .int .i64 aU, .ints .u8 32 _, .ints .u8 32 _, .ints .u8 32 _, .ints .u8 32 _, .ints .u8 32 _, .ints .u8 32 _]] => some (.bool (aU == 2), HQ aU)
  | _, _ => none
noncomputable def T0 : Entry Tryz.prog := .YP 29 _ Tryz.func29 (by decide) rfl Mr TZ fun vs h0 v e => by
  unfold TZ at e
  split at e
  · simp only [Option.some.injEq, Prod.mk.injEq] at e
    obtain ⟨rfl, h⟩ := e
    exact Q5 (uj h)
  · cases e
end Go.Proofs.YtibfpjeeanppjaaGreat.No
end
section
namespace Go.Proofs.YtibfpjeeanppjaaGreat.No
open Go Go.Sy Sh La
abbrev K4 := List Int × List Int × List Int × List Int
noncomputable def eD (q : K4) (ch : List Int) : List Int := Xh ch (gr q.1 q.2.1) (gr q.2.2.1 q.2.2.2)
noncomputable def mc (q : K4) (ch : List Int) : List Int := Mp ch (gr q.1 q.2.1) (gr q.2.2.1 q.2.2.2)
noncomputable def cu (q : K4) : Bool := iL q.1 q.2.1 q.2.2.1 q.2.2.2
noncomputable def Aq (q : K4) (ch ha cJ oG : List Int) : List Int := Cp.tL (eD q ch) (S2.aj (ha ++ cJ)) 0 oG
theorem uo (q : K4) (ch ha cJ oG : List Int) : (Aq q ch ha cJ oG).length = oG.length + 16 := by unfold Aq Cp.tL; rw [Ae.fH]
noncomputable def zJ (ha cJ ct : List Int) : List Int := S2.aj (S2.aj (ha ++ cJ) ++ ct)
noncomputable def Jh : List (FuncId × Func) := [(50, Tryz.f50)]
theorem Q6 : aq Tryz.prog Jh := aq.cons Tryz.func50 (by decide) aq.nil
noncomputable def wC : br := mk (P := Tryz.prog) [x5, Ez, Au, Jy, Sh.iO] Jh fun i => if i = 17 then some false else none
theorem wk : ag Tryz.prog wC := ah _ Q6 _ _
noncomputable def wO (q : K4) (ch ha ij oG : List Int) : Bool :=
  aa (aa (aa (aa (aa (aa true (!decide ((oG.length : Int) > 1024))) (aa true (aa true (Re.ak ij))))
    (aa true (decide (ha.length = 32) && decide ((aK ij 9).length = 32) && decide (ch.length = 32) && iL q.1 q.2.1 q.2.2.1 q.2.2.2)))
    (aa true (decide ((S2.aj (ha ++ aK ij 9)).length = 32) && true && true && decide (oG.length ≤ 1048576)))) (aa true true))
    (aa (aa true (aa (aa true (decide ((aK ij 9).length = 32) && true)) (decide ((aK ij 9).length = 32)))) (decide ([aK ij 9, Aq q ch ha (aK ij 9) oG].flatten.length ≤ 274877906944) && true))
theorem Q7 {q : K4} {ch ha ij oG : List Int} (h1 : ha.length = 32) (h3 : ch.length = 32) (he : Re.ak ij = true) (hp : oG.length ≤ 1024) (h : cu q = true) : wO q ch ha ij oG = true := by
  have hf : [aK ij 9, Aq q ch ha (aK ij 9) oG].flatten.length ≤ 274877906944 := by
    simp only [List.flatten_cons, List.flatten_nil, List.length_append, List.length_nil, uo, cI]; omega
  have hm : iL q.1 q.2.1 q.2.2.1 q.2.2.2 = true := h
  unfold wO
  rw [h1, h3, he, hm, cI, S2.bz, decide_eq_false (show ¬ (oG.length : Int) > 1024 by omega), decide_eq_true (show oG.length ≤ 1048576 by omega), decide_eq_true hf]
  rfl
section
variable {key ch ha os op pe ms mp th ij oG x : List Int} {n : Int} {has : Bool}
theorem Ms {bg : Bool} {aU : Int} (hs : aU = 0 ∧ bg = true ∨ aU = 1 ∧ bg = false) (h1 : ha.length = 32) (h3 : ch.length = 32) (he : Re.ak ij = true) (hp : oG.length ≤ 1024) (h : cu (meets true aU os pe ij th) = true) :
    ai Tryz.prog 24 [.ptr 0 0 0, .agg [.ints .u8 32 ij], .ro false .u8 oG] [hb key has n ch ha bg aU os op pe ms mp th] (.aQ [.ro true .u8 (aK ij 9 ++ Aq (meets true aU os pe ij th) ch ha (aK ij 9) oG), .nl .nilIface])
      [hb (eD (meets true aU os pe ij th) ch) true 1 (mc (meets true aU os pe ij th) ch) (zJ ha (aK ij 9) (Aq (meets true aU os pe ij th) ch ha (aK ij 9) oG)) bg (aU + 1) os op pe ij (aK ij 9) th] := by
  have k : ai Tryz.prog 24 [.ptr 0 0 0, .agg [.ints .u8 32 ij], .ro false .u8 oG] [hb key has n ch ha bg aU os op pe ms mp th] (.aQ [.ro true .u8 [aK ij 9, Aq (meets true aU os pe ij th) ch ha (aK ij 9) oG].flatten, .nl .nilIface])
      [hb (eD (meets true aU os pe ij th) ch) true 1 (mc (meets true aU os pe ij th) ch) (zJ ha (aK ij 9) (Aq (meets true aU os pe ij th) ch ha (aK ij 9) oG)) bg (aU + 1) os op pe ij (aK ij 9) th] := by
    have ho := Q7 h1 h3 he hp h
    rcases hs with ⟨rfl, rfl⟩ | ⟨rfl, rfl⟩
    · exact bn wk 60 Tryz.func24 1 (by simp) (by kernel_rfl) ho rfl rfl
    · exact bn wk 60 Tryz.func24 1 (by simp) (by kernel_rfl) ho rfl rfl
  rw [Cp.uV] at k
  exact k
noncomputable def rC : br := mk (P := Tryz.prog) [x5, Au, EH] [] fun i => if i = 29 || i = 25 then some false else none
theorem gm : ag Tryz.prog rC := ah _ aq.nil _ _
noncomputable def rO (q : K4) (ch ha x D : List Int) : Bool :=
  aa (aa (aa (aa (aa (aa (aa (aa true (!decide ((x.length : Int) < 48))) (!decide ((x.length : Int) > 1072))) (aa true (true && decide ((32 : Int) ≤ (x.length : Int))))) (decide (31 + 1 ≤ (x.take 32).length))) (true && decide (0 + 32 ≤ (x.take 32).length)))
    (aa true (decide (ha.length = 32) && decide (D.length = 32) && decide (ch.length = 32) && iL q.1 q.2.1 q.2.2.1 q.2.2.2))) (aa true (aa true (true && decide ((32 : Int) ≤ (x.length : Int))))))
    (aa true (decide ((S2.aj (ha ++ D)).length = 32) && true && true && decide ((x.drop 32).length ≤ 1048592) && Ae.bk (eD q ch) (Ae.aD 0) (S2.aj (ha ++ D)) (x.drop 32)))
theorem Q8 {q : K4} {ch ha x D : List Int} (h1 : ha.length = 32) (h3 : ch.length = 32) (h0 : 48 ≤ x.length) (hx : x.length ≤ 1072) (hD : D.length = 32) (h : cu q = true) (ho : Ae.bk (eD q ch) (Ae.aD 0) (S2.aj (ha ++ D)) (x.drop 32) = true) : rO q ch ha x D = true := by
  have hm : iL q.1 q.2.1 q.2.2.1 q.2.2.2 = true := h
  have ht : (x.take 32).length = 32 := by rw [List.length_take]; omega
  unfold rO
  rw [h1, h3, hm, ho, hD, ht, S2.bz, decide_eq_false (show ¬ (x.length : Int) < 48 by omega), decide_eq_false (show ¬ (x.length : Int) > 1072 by omega), decide_eq_true (show (32 : Int) ≤ x.length by omega), decide_eq_true (show (x.drop 32).length ≤ 1048592 by rw [List.length_drop]; omega)]
  rfl
theorem Q9 {bg : Bool} {aU : Int} (hs : aU = 0 ∧ bg = false ∨ aU = 1 ∧ bg = true) (h1 : ha.length = 32) (h3 : ch.length = 32) (h0 : 48 ≤ x.length) (hx : x.length ≤ 1072) (h : cu (meets false aU os pe ms (x.take 32)) = true)
    (ho : Ae.bk (eD (meets false aU os pe ms (x.take 32)) ch) (Ae.aD 0) (S2.aj (ha ++ x.take 32)) (x.drop 32) = true) :
    ai Tryz.prog 28 [.ptr 0 0 0, .ro false .u8 x] [hb key has n ch ha bg aU os op pe ms mp th] (.aQ [.ro true .u8 (Ae.b9 (eD (meets false aU os pe ms (x.take 32)) ch) (Ae.aD 0) (x.drop 32)), .nl .nilIface])
      [hb (eD (meets false aU os pe ms (x.take 32)) ch) true 1 (mc (meets false aU os pe ms (x.take 32)) ch) (zJ ha (x.take 32) (x.drop 32)) bg (aU + 1) os op pe ms mp (x.take 32)] := by
  have e : Bx.xy x = x.take 32 := Bx.yo x
  have k : ai Tryz.prog 28 [.ptr 0 0 0, .ro false .u8 x] [hb key has n ch ha bg aU os op pe ms mp th] (.aQ [.ro true .u8 (Ae.b9 (eD (meets false aU os pe ms (Bx.xy x)) ch) (Ae.aD 0) (x.drop 32)), .nl .nilIface])
      [hb (eD (meets false aU os pe ms (Bx.xy x)) ch) true 1 (mc (meets false aU os pe ms (Bx.xy x)) ch) (zJ ha (Bx.xy x) (x.drop 32)) bg (aU + 1) os op pe ms mp (Bx.xy x)] := by
    have hr : rO (meets false aU os pe ms (Bx.xy x)) ch ha x (Bx.xy x) = true := by
      rw [e]
      exact Q8 h1 h3 h0 hx (by rw [List.length_take]; omega) h ho
    rcases hs with ⟨rfl, rfl⟩ | ⟨rfl, rfl⟩
    · exact bn gm 60 Tryz.func28 1 (by simp) (by kernel_rfl) hr rfl rfl
    · exact bn gm 60 Tryz.func28 1 (by simp) (by kernel_rfl) hr rfl rfl
  rw [e] at k
  exact k
end
end Go.Proofs.YtibfpjeeanppjaaGreat.No
end
