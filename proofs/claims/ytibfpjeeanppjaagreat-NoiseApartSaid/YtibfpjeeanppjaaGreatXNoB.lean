/- This file holds the texts NoA, NoB, a section each. No conditions beyond those in the theorems. -/
import Derived.Test.YtibfpjeeanppjaaGreatXCpB
import Derived.Test.YtibfpjeeanppjaaGreatXBnP
import Derived.Test.YtibfpjeeanppjaaGreatXBxB
set_option linter.all false
set_option maxRecDepth 100000
section
namespace Go.Proofs.YtibfpjeeanppjaaGreat.No
open Go Go.Sy Sh
abbrev hb (key : List Int) (has : Bool) (n : Int) (ch ha : List Int) (bg : Bool) (aU : Int) (os op pe ms mp th : List Int) : Blk :=
  .b [.ints .u8 32 key, .bool has, .int .i64 n, .ints .u8 32 ch, .ints .u8 32 ha, .bool bg, .int .i64 aU, .ints .u8 32 os, .ints .u8 32 op, .ints .u8 32 pe, .ints .u8 32 ms, .ints .u8 32 mp, .ints .u8 32 th]
noncomputable def mtC : br := mk (P := Tryz.prog) [S2.mM] []
theorem zI : ag Tryz.prog mtC := ah _ aq.nil _ _
def mtO (ha x : List Int) : Bool := aa true (aa (aa true (aa (aa (aa (aa true (decide (x.length = 32) && true)) (decide (x.length = 32))) (decide (ha.length = 32) && true)) (decide (ha.length = 32)))) (decide ([ha, x].flatten.length < 274877900000) && true))
section
variable {key ch ha os op pe ms mp th x : List Int} {n aU : Int} {has bg ex wh : Bool}
theorem acG (h1 : ha.length = 32) (h2 : x.length = 32) : ai Tryz.prog 49 [.ptr 0 0 0, .sl 1 0 0 1 1 1 ex wh] [hb key has n ch ha bg aU os op pe ms mp th, .b [.sl 2 0 0 1 32 32 true true], .b [.ints .u8 32 x]] (.aQ [])
    [hb key has n ch (S2.aj (ha ++ x)) bg aU os op pe ms mp th, .b [.sl 2 0 0 1 32 32 true true], .b [.ints .u8 32 x]] := by
  have k : ai Tryz.prog 49 [.ptr 0 0 0, .sl 1 0 0 1 1 1 ex wh] [hb key has n ch ha bg aU os op pe ms mp th, .b [.sl 2 0 0 1 32 32 true true], .b [.ints .u8 32 x]] (.aQ [])
      [hb key has n ch (S2.aj [ha, x].flatten) bg aU os op pe ms mp th, .b [.sl 2 0 0 1 32 32 true true], .b [.ints .u8 32 x]] :=
    bn zI 60 Tryz.func49 3 (by simp) (p := mtO ha x) (by kernel_rfl) (by
      unfold mtO
      rw [h1, h2, decide_eq_true (show [ha, x].flatten.length < 274877900000 by simp; omega)]; rfl) rfl rfl
  rw [Cp.uV] at k
  exact k
theorem acH (h1 : ha.length = 32) (h2 : x.length < 270000000000) : ai Tryz.prog 49 [.ptr 0 0 0, .sl 1 0 0 1 1 1 ex wh] [hb key has n ch ha bg aU os op pe ms mp th, .b [.ro false .u8 x]] (.aQ [])
    [hb key has n ch (S2.aj (ha ++ x)) bg aU os op pe ms mp th, .b [.ro false .u8 x]] := by
  have k : ai Tryz.prog 49 [.ptr 0 0 0, .sl 1 0 0 1 1 1 ex wh] [hb key has n ch ha bg aU os op pe ms mp th, .b [.ro false .u8 x]] (.aQ [])
      [hb key has n ch (S2.aj [ha, x].flatten) bg aU os op pe ms mp th, .b [.ro false .u8 x]] :=
    bn zI 60 Tryz.func49 2 (by simp) (p := Cp.hiX ha x) (by kernel_rfl) (Cp.mP h1 h2) rfl rfl
  rw [Cp.uV] at k
  exact k
theorem acI (hc : ch.length = 32) (hm : x.length < 274877890000) : ai Tryz.prog 83 [.ptr 0 0 0, .ro false .u8 x] [hb key has n ch ha bg aU os op pe ms mp th] (.aQ [])
    [hb (Cp.xA (Kd.bP ch x)) true 0 (Cp.qc (Kd.bP ch x)) ha bg aU os op pe ms mp th] :=
  bn Cp.JA 60 Tryz.func83 1 (by simp) (p := Cp.mcO ch x) (by kernel_rfl) (by
    unfold Cp.mcO
    rw [hc, Kd.eG, decide_eq_true hm]
    rfl) rfl rfl
end
section
variable (key ch ha os op pe ms mp th x : List Int) (n aU : Int) (bg : Bool)
theorem CX : (bp Tryz.prog Cp.hiC 60 Tryz.f52 [.ptr 0 0 0, .ro false .u8 x] [hb key true n ch ha bg aU os op pe ms mp th]).map (fun x => (x.1, x.2.1.take 1, x.2.2)) =
    some (.aQ [.ro true .u8 (Cp.tL key ha n x), .nl .nilIface], [hb key true (IntKind.i64.wrap (n + 1)) ch (S2.aj [ha, Cp.tL key ha n x].flatten) bg aU os op pe ms mp th], Cp.hiO ha x (Cp.tL key ha n x) n) := by kernel_rfl
theorem CY : (bp Tryz.prog Cp.shC 60 Tryz.f59 [.ptr 0 0 0, .ro false .u8 x] [hb key true n ch ha bg aU os op pe ms mp th]).map (fun x => (x.1, x.2.1.take 1, x.2.2)) =
    some (.aQ [.ro true .u8 (Ae.b9 key (Ae.aD n) x), .nl .nilIface], [hb key true (IntKind.i64.wrap (n + 1)) ch (S2.aj [ha, x].flatten) bg aU os op pe ms mp th], Cp.shO key ha x n) := by kernel_rfl
end
section
variable {key ch ha os op pe ms mp th x : List Int} {n aU : Int} {bg : Bool}
theorem yz (h1 : ha.length = 32) (h0 : 0 ≤ n) (hn : n < 4294967295) (ht : x.length ≤ 1048576) :
    ai Tryz.prog 52 [.ptr 0 0 0, .ro false .u8 x] [hb key true n ch ha bg aU os op pe ms mp th] (.aQ [.ro true .u8 (Cp.tL key ha n x), .nl .nilIface]) [hb key true (n + 1) ch (S2.aj (ha ++ Cp.tL key ha n x)) bg aU os op pe ms mp th] := by
  have e := CX key ch ha os op pe ms mp th x n aU bg
  rw [wrap_i64 _ (by omega) (by omega), Cp.uV] at e
  exact bn Cp.Jx 60 Tryz.func52 1 (by simp) e (by
    unfold Cp.hiO
    rw [h1, decide_eq_false (show ¬ (n ≥ 4294967295) by omega), decide_eq_true ht, Cp.mP h1 (by unfold Cp.tL; rw [Ae.fH]; omega)]
    rfl) rfl rfl
theorem yA (h1 : ha.length = 32) (h0 : 0 ≤ n) (hn : n < 4294967295) (ht : x.length ≤ 1048592) (ok : Ae.bk key (Ae.aD n) ha x = true) :
    ai Tryz.prog 59 [.ptr 0 0 0, .ro false .u8 x] [hb key true n ch ha bg aU os op pe ms mp th] (.aQ [.ro true .u8 (Ae.b9 key (Ae.aD n) x), .nl .nilIface]) [hb key true (n + 1) ch (S2.aj (ha ++ x)) bg aU os op pe ms mp th] := by
  have e := CY key ch ha os op pe ms mp th x n aU bg
  rw [wrap_i64 _ (by omega) (by omega), Cp.uV] at e
  exact bn Cp.yy 60 Tryz.func59 1 (by simp) e (by
    unfold Cp.shO
    rw [h1, decide_eq_false (show ¬ (n ≥ 4294967295) by omega), decide_eq_true ht, ok, Cp.mP h1 (by omega)]
    rfl) rfl rfl
end
def acJ (vs : List SV) (h : List Blk) : List Nat := match vs with
  | [.ptr b _ _, .sl c _ _ _ _ _ _ _] => b :: c :: Bn.SW h c
  | _ => []
noncomputable def nI : List SV → List Blk → Option (SV × List Blk × Bool)
  | [.ptr 0 0 0, .sl 1 0 0 1 1 1 _ _], [.b [.ints .u8 32 key, .bool has, .int .i64 n, .ints .u8 32 ch, .ints .u8 32 ha, .bool bg, .int .i64 aU, .ints .u8 32 os, .ints .u8 32 op, .ints .u8 32 pe, .ints .u8 32 ms, .ints .u8 32 mp, .ints .u8 32 th], .b [.sl 2 0 0 1 32 32 true true], .b [.ints .u8 32 x]] =>
    some (.aQ [], [hb key has n ch (S2.aj (ha ++ x)) bg aU os op pe ms mp th, .b [.sl 2 0 0 1 32 32 true true], .b [.ints .u8 32 x]], decide (ha.length = 32) && decide (x.length = 32))
  | [.ptr 0 0 0, .sl 1 0 0 1 1 1 _ _], [.b [.ints .u8 32 key, .bool has, .int .i64 n, .ints .u8 32 ch, .ints .u8 32 ha, .bool bg, .int .i64 aU, .ints .u8 32 os, .ints .u8 32 op, .ints .u8 32 pe, .ints .u8 32 ms, .ints .u8 32 mp, .ints .u8 32 th], .b [.ro false .u8 x]] =>
    some (.aQ [], [hb key has n ch (S2.aj (ha ++ x)) bg aU os op pe ms mp th, .b [.ro false .u8 x]], decide (ha.length = 32) && decide (x.length < 270000000000))
  | _, _ => none
noncomputable def kS : Entry Tryz.prog := .mut 49 _ Tryz.func49 (by decide) rfl acJ 0 nI fun vs h0 v h1 e => by
  unfold nI at e
  split at e
  · simp only [Option.some.injEq, Prod.mk.injEq, Bool.and_eq_true, decide_eq_true_eq] at e
    obtain ⟨rfl, rfl, h1, h2⟩ := e
    exact acG h1 h2
  · simp only [Option.some.injEq, Prod.mk.injEq, Bool.and_eq_true, decide_eq_true_eq] at e
    obtain ⟨rfl, rfl, h1, h2⟩ := e
    exact acH h1 h2
  · cases e
noncomputable def eI : List SV → List Blk → Option (SV × List Blk × Bool)
  | [.ptr 0 0 0, .ro false .u8 x], [.b [.ints .u8 32 key, .bool has, .int .i64 n, .ints .u8 32 ch, .ints .u8 32 ha, .bool bg, .int .i64 aU, .ints .u8 32 os, .ints .u8 32 op, .ints .u8 32 pe, .ints .u8 32 ms, .ints .u8 32 mp, .ints .u8 32 th]] =>
    some (.aQ [], [hb (Cp.xA (Kd.bP ch x)) true 0 (Cp.qc (Kd.bP ch x)) ha bg aU os op pe ms mp th], decide (ch.length = 32) && decide (x.length < 274877890000))
  | _, _ => none
noncomputable def lg : Entry Tryz.prog := .mut 83 _ Tryz.func83 (by decide) rfl Cp.jZ 0 eI fun vs h0 v h1 e => by
  unfold eI at e
  split at e
  · simp only [Option.some.injEq, Prod.mk.injEq, Bool.and_eq_true, decide_eq_true_eq] at e
    obtain ⟨rfl, rfl, h1, h2⟩ := e
    exact acI h1 h2
  · cases e
noncomputable def sP : List SV → List Blk → Option (SV × List Blk × Bool)
  | [.ptr 0 0 0, .ro false .u8 x], [.b [.ints .u8 32 key, .bool true, .int .i64 n, .ints .u8 32 ch, .ints .u8 32 ha, .bool bg, .int .i64 aU, .ints .u8 32 os, .ints .u8 32 op, .ints .u8 32 pe, .ints .u8 32 ms, .ints .u8 32 mp, .ints .u8 32 th]] =>
    some (.aQ [.ro true .u8 (Cp.tL key ha n x), .nl .nilIface], [hb key true (n + 1) ch (S2.aj (ha ++ Cp.tL key ha n x)) bg aU os op pe ms mp th], decide (ha.length = 32) && decide (0 ≤ n) && decide (n < 4294967295) && decide (x.length ≤ 1048576))
  | _, _ => none
noncomputable def Jy : Entry Tryz.prog := .mut 52 _ Tryz.func52 (by decide) rfl Cp.jZ 0 sP fun vs h0 v h1 e => by
  unfold sP at e
  split at e
  · simp only [Option.some.injEq, Prod.mk.injEq, Bool.and_eq_true, decide_eq_true_eq] at e
    obtain ⟨rfl, rfl, ⟨⟨h1, h2⟩, h3⟩, h4⟩ := e
    exact yz h1 h2 h3 h4
  · cases e
noncomputable def sQ : List SV → List Blk → Option (SV × List Blk × Bool)
  | [.ptr 0 0 0, .ro false .u8 x], [.b [.ints .u8 32 key, .bool true, .int .i64 n, .ints .u8 32 ch, .ints .u8 32 ha, .bool bg, .int .i64 aU, .ints .u8 32 os, .ints .u8 32 op, .ints .u8 32 pe, .ints .u8 32 ms, .ints .u8 32 mp, .ints .u8 32 th]] =>
    some (.aQ [.ro true .u8 (Ae.b9 key (Ae.aD n) x), .nl .nilIface], [hb key true (n + 1) ch (S2.aj (ha ++ x)) bg aU os op pe ms mp th], decide (ha.length = 32) && decide (0 ≤ n) && decide (n < 4294967295) && decide (x.length ≤ 1048592) && Ae.bk key (Ae.aD n) ha x)
  | _, _ => none
noncomputable def EH : Entry Tryz.prog := .mut 59 _ Tryz.func59 (by decide) rfl Cp.jZ 0 sQ fun vs h0 v h1 e => by
  unfold sQ at e
  split at e
  · simp only [Option.some.injEq, Prod.mk.injEq, Bool.and_eq_true, decide_eq_true_eq] at e
    obtain ⟨rfl, rfl, ⟨⟨⟨h1, h2⟩, h3⟩, h4⟩, h5⟩ := e
    exact yA h1 h2 h3 h4 h5
  · cases e
end Go.Proofs.YtibfpjeeanppjaaGreat.No
end
section
namespace Go.Proofs.YtibfpjeeanppjaaGreat.No
open Go Go.Sy Sh La
noncomputable def acK : List (FuncId × Func) := [(82, Tryz.f82)]
theorem Q0 : aq Tryz.prog acK := aq.cons Tryz.func82 (by decide) aq.nil
noncomputable def mC : br := mk (P := Tryz.prog) [I4 false, kS, lg] acK fun _ => none
theorem F6 : ag Tryz.prog mC := ah _ Q0 _ _
noncomputable def Mp (ch k1 k2 : List Int) : List Int := Cp.qc (Kd.bP (Cp.qc (Kd.bP ch k1)) k2)
noncomputable def Xh (ch k1 k2 : List Int) : List Int := Cp.xA (Kd.bP (Cp.qc (Kd.bP ch k1)) k2)
theorem Q1 (ch k1 k2 : List Int) : (Mp ch k1 k2).length = 32 := (Cp.uU _).1
theorem Q3 (ch k1 k2 : List Int) : (Xh ch k1 k2).length = 32 := (Cp.uU _).2
noncomputable def N3 (ch ha cJ s1 p1 s2 p2 : List Int) : Bool :=
  aa (aa (aa (aa (aa (aa (aa true (aa true (decide (ha.length = 32) && decide (cJ.length = 32)))) (aa true (Re.ak s1 && Re.ak p1 && !oY s1 p1)))
    (aa (aa true (aa (decide ((gr s1 p1).length = 32) && true) (decide ((gr s1 p1).length = 32)))) (decide (ch.length = 32) && decide ((gr s1 p1).length < 274877890000))))
    (true && cN (IntKind.i64.wrap (0 + 1)) 2)) (aa true (Re.ak s2 && Re.ak p2 && !oY s2 p2))) (aa true (decide (0 + 0 + 32 ≤ 32))))
    (aa (aa true (aa (decide ((gr s2 p2).length = 32) && true) (decide ((gr s2 p2).length = 32)))) (decide ((Cp.qc (Kd.bP ch (gr s1 p1))).length = 32) && decide ((gr s2 p2).length < 274877890000)))
noncomputable def iL (s1 p1 s2 p2 : List Int) : Bool := Re.ak s1 && Re.ak p1 && !oY s1 p1 && Re.ak s2 && Re.ak p2 && !oY s2 p2
theorem qV {ch ha cJ s1 p1 s2 p2 : List Int} (h1 : ha.length = 32) (h2 : cJ.length = 32) (h3 : ch.length = 32) (h : iL s1 p1 s2 p2 = true) : N3 ch ha cJ s1 p1 s2 p2 = true := by
  unfold iL at h
  simp only [Bool.and_eq_true, Bool.not_eq_true'] at h
  obtain ⟨⟨⟨⟨⟨a, b⟩, c⟩, d⟩, e⟩, f⟩ := h
  unfold N3
  rw [h1, h2, h3, a, b, c, d, e, f, jz, jz, (Cp.uU _).1]
  rfl
section
variable {key ch ha os op pe ms mp th cJ : List Int} {n : Int} {has bg : Bool} (h1 : ha.length = 32) (h2 : cJ.length = 32) (h3 : ch.length = 32)
include h1 h2 h3
theorem Xi (h : iL ms pe os pe = true) : ai Tryz.prog 51 [.ptr 0 0 0, .agg [.ints .u8 32 cJ], .bool true] [hb key has n ch ha bg 0 os op pe ms mp th] (.nl .nilIface)
    [hb (Xh ch (gr ms pe) (gr os pe)) true 0 (Mp ch (gr ms pe) (gr os pe)) (S2.aj (ha ++ cJ)) bg 0 os op pe ms mp th] :=
  bn F6 60 Tryz.func51 1 (by simp) (p := N3 ch ha cJ ms pe os pe) (by kernel_rfl) (qV h1 h2 h3 h) rfl rfl
theorem Xj (h : iL os th os pe = true) : ai Tryz.prog 51 [.ptr 0 0 0, .agg [.ints .u8 32 cJ], .bool false] [hb key has n ch ha bg 0 os op pe ms mp th] (.nl .nilIface)
    [hb (Xh ch (gr os th) (gr os pe)) true 0 (Mp ch (gr os th) (gr os pe)) (S2.aj (ha ++ cJ)) bg 0 os op pe ms mp th] :=
  bn F6 60 Tryz.func51 1 (by simp) (p := N3 ch ha cJ os th os pe) (by kernel_rfl) (qV h1 h2 h3 h) rfl rfl
theorem Xk (h : iL ms th ms pe = true) : ai Tryz.prog 51 [.ptr 0 0 0, .agg [.ints .u8 32 cJ], .bool true] [hb key has n ch ha bg 1 os op pe ms mp th] (.nl .nilIface)
    [hb (Xh ch (gr ms th) (gr ms pe)) true 0 (Mp ch (gr ms th) (gr ms pe)) (S2.aj (ha ++ cJ)) bg 1 os op pe ms mp th] :=
  bn F6 60 Tryz.func51 1 (by simp) (p := N3 ch ha cJ ms th ms pe) (by kernel_rfl) (qV h1 h2 h3 h) rfl rfl
theorem Xl (h : iL ms th os th = true) : ai Tryz.prog 51 [.ptr 0 0 0, .agg [.ints .u8 32 cJ], .bool false] [hb key has n ch ha bg 1 os op pe ms mp th] (.nl .nilIface)
    [hb (Xh ch (gr ms th) (gr os th)) true 0 (Mp ch (gr ms th) (gr os th)) (S2.aj (ha ++ cJ)) bg 1 os op pe ms mp th] :=
  bn F6 60 Tryz.func51 1 (by simp) (p := N3 ch ha cJ ms th os th) (by kernel_rfl) (qV h1 h2 h3 h) rfl rfl
end
def meets (w : Bool) (aU : Int) (os pe ms th : List Int) : List Int × List Int × List Int × List Int :=
  bif aU == 0 then (bif w then (ms, pe, os, pe) else (os, th, os, pe)) else (bif w then (ms, th, ms, pe) else (ms, th, os, th))
noncomputable def acL (w : Bool) (aU : Int) (cJ ch ha : List Int) (bg : Bool) (os op pe ms mp th : List Int) : Option (SV × List Blk × Bool) :=
  let q := meets w aU os pe ms th
  bif aU == 0 || aU == 1 then some (.nl .nilIface, [hb (Xh ch (gr q.1 q.2.1) (gr q.2.2.1 q.2.2.2)) true 0 (Mp ch (gr q.1 q.2.1) (gr q.2.2.1 q.2.2.2)) (S2.aj (ha ++ cJ)) bg aU os op pe ms mp th],
    decide (ha.length = 32) && decide (cJ.length = 32) && decide (ch.length = 32) && iL q.1 q.2.1 q.2.2.1 q.2.2.2) else none
noncomputable def AD : List SV → List Blk → Option (SV × List Blk × Bool)
  | [.ptr 0 0 0, .agg [.ints .u8 32 cJ], .bool w], [.b [.ints .u8 32 _, .bool _, .int .i64 _, .ints .u8 32 ch, .ints .u8 32 ha, .bool bg, .int .i64 aU, .ints .u8 32 os, .ints .u8 32 op, .ints .u8 32 pe, .ints .u8 32 ms, .ints .u8 32 mp, .ints .u8 32 th]] => acL w aU cJ ch ha bg os op pe ms mp th
  | _, _ => none
noncomputable def Au : Entry Tryz.prog := .mut 51 _ Tryz.func51 (by decide) rfl Cp.jZ 0 AD fun vs h0 v h1 e => by
  unfold AD at e
  split at e
  · rename_i cJ w key has n ch ha bg aU os op pe ms mp th
    unfold acL meets at e
    by_cases s0 : aU = 0
    · subst s0
      cases w with
      | true =>
        simp only [beq_self_eq_true, cond_true, Bool.true_or, Option.some.injEq, Prod.mk.injEq, Bool.and_eq_true, decide_eq_true_eq] at e
        obtain ⟨rfl, rfl, ⟨⟨a, b⟩, c⟩, d⟩ := e
        exact Xi a b c d
      | false =>
        simp only [beq_self_eq_true, cond_true, cond_false, Bool.true_or, Option.some.injEq, Prod.mk.injEq, Bool.and_eq_true, decide_eq_true_eq] at e
        obtain ⟨rfl, rfl, ⟨⟨a, b⟩, c⟩, d⟩ := e
        exact Xj a b c d
    · rw [show (aU == 0) = false by simpa using s0] at e
      by_cases s1 : aU = 1
      · subst s1
        cases w with
        | true =>
          simp only [beq_self_eq_true, cond_true, cond_false, Bool.or_true, Option.some.injEq, Prod.mk.injEq, Bool.and_eq_true, decide_eq_true_eq] at e
          obtain ⟨rfl, rfl, ⟨⟨a, b⟩, c⟩, d⟩ := e
          exact Xk a b c d
        | false =>
          simp only [beq_self_eq_true, cond_true, cond_false, Bool.or_true, Option.some.injEq, Prod.mk.injEq, Bool.and_eq_true, decide_eq_true_eq] at e
          obtain ⟨rfl, rfl, ⟨⟨a, b⟩, c⟩, d⟩ := e
          exact Xl a b c d
      · rw [show (aU == 1) = false by simpa using s1] at e
        cases e
  · cases e
end Go.Proofs.YtibfpjeeanppjaaGreat.No
end
