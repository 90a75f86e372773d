/- This file proves the contract of a handshake's mix, where both secrets come. Conditions: keys of 32 bytes. -/
import Derived.Test.YtibfpjeeanppjaaGreatWNoA
import Derived.Test.YtibfpjeeanppjaaGreatWBxA
set_option linter.all false
set_option maxRecDepth 100000
namespace Go.Proofs.YtibfpjeeanppjaaGreat.No
open Go Go.Sy Sh La
noncomputable def inlM : List (FuncId × Func) := [(82, Tryz.f82)]
theorem inlM_ok : InlOK Tryz.prog inlM := InlOK.cons Tryz.func82 (by decide) InlOK.nil
noncomputable def mC : Ctr := mk (P := Tryz.prog) [agreeE false, mixTextE, mixSecretE] inlM fun _ => none
theorem mC_ok : CtrSound Tryz.prog mC := mk_sound _ inlM_ok _ _
noncomputable def chW (ch k1 k2 : List Int) : List Int := Cp.tw1 (Kd.tagW (Cp.tw1 (Kd.tagW ch k1)) k2)
noncomputable def kyW (ch k1 k2 : List Int) : List Int := Cp.tw2 (Kd.tagW (Cp.tw1 (Kd.tagW ch k1)) k2)
theorem chW_len (ch k1 k2 : List Int) : (chW ch k1 k2).length = 32 := (Cp.tw_len _).1
noncomputable def mxO (ch ha pub s1 p1 s2 p2 : List Int) : Bool :=
  andT (andT (andT (andT (andT (andT (andT true (andT true (decide (ha.length = 32) && decide (pub.length = 32)))) (andT true (Re.keyOK s1 && Re.keyOK p1 && !agZ s1 p1)))
    (andT (andT true (andT (decide ((agW s1 p1).length = 32) && true) (decide ((agW s1 p1).length = 32)))) (decide (ch.length = 32) && decide ((agW s1 p1).length < 274877890000))))
    (true && inB (IntKind.i64.wrap (0 + 1)) 2)) (andT true (Re.keyOK s2 && Re.keyOK p2 && !agZ s2 p2))) (andT true (decide (0 + 0 + 32 ≤ 32))))
    (andT (andT true (andT (decide ((agW s2 p2).length = 32) && true) (decide ((agW s2 p2).length = 32)))) (decide ((Cp.tw1 (Kd.tagW ch (agW s1 p1))).length = 32) && decide ((agW s2 p2).length < 274877890000)))
noncomputable def meetB (s1 p1 s2 p2 : List Int) : Bool := Re.keyOK s1 && Re.keyOK p1 && !agZ s1 p1 && Re.keyOK s2 && Re.keyOK p2 && !agZ s2 p2
theorem mxO_true {ch ha pub s1 p1 s2 p2 : List Int} (h1 : ha.length = 32) (h2 : pub.length = 32) (h3 : ch.length = 32) (h : meetB s1 p1 s2 p2 = true) : mxO ch ha pub s1 p1 s2 p2 = true := by
  unfold meetB at h
  simp only [Bool.and_eq_true, Bool.not_eq_true'] at h
  obtain ⟨⟨⟨⟨⟨a, b⟩, c⟩, d⟩, e⟩, f⟩ := h
  unfold mxO
  rw [h1, h2, h3, a, b, c, d, e, f, agW_len, agW_len, (Cp.tw_len _).1]
  rfl
section
variable {key ch ha os op pe ms mp th pub : List Int} {n : Int} {has bg : Bool} (h1 : ha.length = 32) (h2 : pub.length = 32) (h3 : ch.length = 32)
include h1 h2 h3
theorem mix_w0 (h : meetB ms pe os pe = true) : FnTr Tryz.prog 51 [.ptr 0 0 0, .agg [.ints .u8 32 pub], .bool true] [hb key has n ch ha bg 0 os op pe ms mp th] (.nl .nilIface)
    [hb (kyW ch (agW ms pe) (agW os pe)) true 0 (chW ch (agW ms pe) (agW os pe)) (S2.shortW (ha ++ pub)) bg 0 os op pe ms mp th] :=
  callM mC_ok 60 Tryz.func51 1 (by simp) (p := mxO ch ha pub ms pe os pe) (by kernel_rfl) (mxO_true h1 h2 h3 h) rfl rfl
theorem mix_r0 (h : meetB os th os pe = true) : FnTr Tryz.prog 51 [.ptr 0 0 0, .agg [.ints .u8 32 pub], .bool false] [hb key has n ch ha bg 0 os op pe ms mp th] (.nl .nilIface)
    [hb (kyW ch (agW os th) (agW os pe)) true 0 (chW ch (agW os th) (agW os pe)) (S2.shortW (ha ++ pub)) bg 0 os op pe ms mp th] :=
  callM mC_ok 60 Tryz.func51 1 (by simp) (p := mxO ch ha pub os th os pe) (by kernel_rfl) (mxO_true h1 h2 h3 h) rfl rfl
theorem mix_w1 (h : meetB ms th ms pe = true) : FnTr Tryz.prog 51 [.ptr 0 0 0, .agg [.ints .u8 32 pub], .bool true] [hb key has n ch ha bg 1 os op pe ms mp th] (.nl .nilIface)
    [hb (kyW ch (agW ms th) (agW ms pe)) true 0 (chW ch (agW ms th) (agW ms pe)) (S2.shortW (ha ++ pub)) bg 1 os op pe ms mp th] :=
  callM mC_ok 60 Tryz.func51 1 (by simp) (p := mxO ch ha pub ms th ms pe) (by kernel_rfl) (mxO_true h1 h2 h3 h) rfl rfl
theorem mix_r1 (h : meetB ms th os th = true) : FnTr Tryz.prog 51 [.ptr 0 0 0, .agg [.ints .u8 32 pub], .bool false] [hb key has n ch ha bg 1 os op pe ms mp th] (.nl .nilIface)
    [hb (kyW ch (agW ms th) (agW os th)) true 0 (chW ch (agW ms th) (agW os th)) (S2.shortW (ha ++ pub)) bg 1 os op pe ms mp th] :=
  callM mC_ok 60 Tryz.func51 1 (by simp) (p := mxO ch ha pub ms th os th) (by kernel_rfl) (mxO_true h1 h2 h3 h) rfl rfl
end
def meets (w : Bool) (stg : Int) (os pe ms th : List Int) : List Int × List Int × List Int × List Int :=
  bif stg == 0 then (bif w then (ms, pe, os, pe) else (os, th, os, pe)) else (bif w then (ms, th, ms, pe) else (ms, th, os, th))
noncomputable def mixR (w : Bool) (stg : Int) (pub ch ha : List Int) (bg : Bool) (os op pe ms mp th : List Int) : Option (SV × List Blk × Bool) :=
  let q := meets w stg os pe ms th
  bif stg == 0 || stg == 1 then some (.nl .nilIface, [hb (kyW ch (agW q.1 q.2.1) (agW q.2.2.1 q.2.2.2)) true 0 (chW ch (agW q.1 q.2.1) (agW q.2.2.1 q.2.2.2)) (S2.shortW (ha ++ pub)) bg stg os op pe ms mp th],
    decide (ha.length = 32) && decide (pub.length = 32) && decide (ch.length = 32) && meetB q.1 q.2.1 q.2.2.1 q.2.2.2) else none
noncomputable def mixF : List SV → List Blk → Option (SV × List Blk × Bool)
  | [.ptr 0 0 0, .agg [.ints .u8 32 pub], .bool w], [.b [.ints .u8 32 _, .bool _, .int .i64 _, .ints .u8 32 ch, .ints .u8 32 ha, .bool bg, .int .i64 stg, .ints .u8 32 os, .ints .u8 32 op, .ints .u8 32 pe, .ints .u8 32 ms, .ints .u8 32 mp, .ints .u8 32 th]] => mixR w stg pub ch ha bg os op pe ms mp th
  | _, _ => none
noncomputable def mixE : Entry Tryz.prog := .mut 51 _ Tryz.func51 (by decide) rfl Cp.pickS 0 mixF fun vs h0 v h1 e => by
  unfold mixF at e
  split at e
  · rename_i pub w key has n ch ha bg stg os op pe ms mp th
    unfold mixR meets at e
    by_cases s0 : stg = 0
    · subst s0
      cases w with
      | true =>
        simp only [beq_self_eq_true, cond_true, Bool.true_or, Option.some.injEq, Prod.mk.injEq, Bool.and_eq_true, decide_eq_true_eq] at e
        obtain ⟨rfl, rfl, ⟨⟨a, b⟩, c⟩, d⟩ := e
        exact mix_w0 a b c d
      | false =>
        simp only [beq_self_eq_true, cond_true, cond_false, Bool.true_or, Option.some.injEq, Prod.mk.injEq, Bool.and_eq_true, decide_eq_true_eq] at e
        obtain ⟨rfl, rfl, ⟨⟨a, b⟩, c⟩, d⟩ := e
        exact mix_r0 a b c d
    · rw [show (stg == 0) = false by simpa using s0] at e
      by_cases s1 : stg = 1
      · subst s1
        cases w with
        | true =>
          simp only [beq_self_eq_true, cond_true, cond_false, Bool.or_true, Option.some.injEq, Prod.mk.injEq, Bool.and_eq_true, decide_eq_true_eq] at e
          obtain ⟨rfl, rfl, ⟨⟨a, b⟩, c⟩, d⟩ := e
          exact mix_w1 a b c d
        | false =>
          simp only [beq_self_eq_true, cond_true, cond_false, Bool.or_true, Option.some.injEq, Prod.mk.injEq, Bool.and_eq_true, decide_eq_true_eq] at e
          obtain ⟨rfl, rfl, ⟨⟨a, b⟩, c⟩, d⟩ := e
          exact mix_r1 a b c d
      · rw [show (stg == 1) = false by simpa using s1] at e
        cases e
  · cases e
end Go.Proofs.YtibfpjeeanppjaaGreat.No
