/- This file holds the texts NoC, NoD, a section each. No conditions beyond those in the theorems. -/
import Derived.Test.YtibfpjeeanppjaaGreatWNoB
set_option linter.all false
set_option maxRecDepth 100000
section
namespace Go.Proofs.YtibfpjeeanppjaaGreat.No
open Go Go.Sy Sh La
noncomputable def tnC : Ctr := mk (P := Tryz.prog) [] []
theorem tnC_ok : CtrSound Tryz.prog tnC := mk_sound _ InlOK.nil _ _
def turnB (bg : Bool) (stg : Int) : Bool := bif stg == 0 then bg else bif stg == 1 then !bg else false
section
variable {key ch ha os op pe ms mp th : List Int} {n : Int} {has : Bool}
theorem turn_fn {bg : Bool} {stg : Int} (h : stg = 0 ∨ stg = 1 ∨ stg = 2) : FnTr Tryz.prog 30 [.ptr 0 0 0] [hb key has n ch ha bg stg os op pe ms mp th] (.bool (turnB bg stg)) [hb key has n ch ha bg stg os op pe ms mp th] := by
  rcases h with rfl | rfl | rfl <;> cases bg
  · exact callM tnC_ok 60 Tryz.func30 1 (by simp) (p := true) (by kernel_rfl) rfl rfl rfl
  · exact callM tnC_ok 60 Tryz.func30 1 (by simp) (p := true) (by kernel_rfl) rfl rfl rfl
  · exact callM tnC_ok 60 Tryz.func30 1 (by simp) (p := true) (by kernel_rfl) rfl rfl rfl
  · exact callM tnC_ok 60 Tryz.func30 1 (by simp) (p := true) (by kernel_rfl) rfl rfl rfl
  · exact callM tnC_ok 60 Tryz.func30 1 (by simp) (p := true) (by kernel_rfl) rfl rfl rfl
  · exact callM tnC_ok 60 Tryz.func30 1 (by simp) (p := true) (by kernel_rfl) rfl rfl rfl
theorem done_fn {bg : Bool} {stg : Int} (h : stg = 0 ∨ stg = 1 ∨ stg = 2) : FnTr Tryz.prog 29 [.ptr 0 0 0] [hb key has n ch ha bg stg os op pe ms mp th] (.bool (stg == 2)) [hb key has n ch ha bg stg os op pe ms mp th] := by
  rcases h with rfl | rfl | rfl
  · exact callM tnC_ok 60 Tryz.func29 1 (by simp) (p := true) (by kernel_rfl) rfl rfl rfl
  · exact callM tnC_ok 60 Tryz.func29 1 (by simp) (p := true) (by kernel_rfl) rfl rfl rfl
  · exact callM tnC_ok 60 Tryz.func29 1 (by simp) (p := true) (by kernel_rfl) rfl rfl rfl
end
def stgB (stg : Int) : Bool := stg == 0 || stg == 1 || stg == 2
theorem stgB_or {stg : Int} (h : stgB stg = true) : stg = 0 ∨ stg = 1 ∨ stg = 2 := by
  unfold stgB at h
  simp only [Bool.or_eq_true, beq_iff_eq] at h
  omega
def pick1 (vs : List SV) : List Nat := match vs with
  | .ptr b _ _ :: _ => [b]
  | _ => []
def turnF : List SV → List Blk → Option (SV × Bool)
  | [.ptr 0 0 0], [.b [.ints .u8 32 _, .bool _, .int .i64 _, .ints .u8 32 _, .ints .u8 32 _, .bool bg, .int .i64 stg, .ints .u8 32 _, .ints .u8 32 _, .ints .u8 32 _, .ints .u8 32 _, .ints .u8 32 _, .ints .u8 32 _]] => some (.bool (turnB bg stg), stgB stg)
  | _, _ => none
noncomputable def turnE : Entry Tryz.prog := .rdm 30 _ Tryz.func30 (by decide) rfl pick1 turnF fun vs h0 v e => by
  unfold turnF at e
  split at e
  · simp only [Option.some.injEq, Prod.mk.injEq] at e
    obtain ⟨rfl, h⟩ := e
    exact turn_fn (stgB_or h)
  · cases e
def doneF : List SV → List Blk → Option (SV × Bool)
  | [.ptr 0 0 0], [.b [.ints .u8 32 _, .bool _, .int .i64 _, .ints .u8 32 _, .ints .u8 32 _, .bool _, .int .i64 stg, .ints .u8 32 _, .ints .u8 32 _, .ints .u8 32 _, .ints .u8 32 _, .ints .u8 32 _, .ints .u8 32 _]] => some (.bool (stg == 2), stgB stg)
  | _, _ => none
noncomputable def doneE : Entry Tryz.prog := .rdm 29 _ Tryz.func29 (by decide) rfl pick1 doneF fun vs h0 v e => by
  unfold doneF at e
  split at e
  · simp only [Option.some.injEq, Prod.mk.injEq] at e
    obtain ⟨rfl, h⟩ := e
    exact done_fn (stgB_or h)
  · cases e
end Go.Proofs.YtibfpjeeanppjaaGreat.No
end
section
namespace Go.Proofs.YtibfpjeeanppjaaGreat.No
open Go Go.Sy Sh La
abbrev K4 := List Int × List Int × List Int × List Int
noncomputable def mKy (q : K4) (ch : List Int) : List Int := kyW ch (agW q.1 q.2.1) (agW q.2.2.1 q.2.2.2)
noncomputable def mCh (q : K4) (ch : List Int) : List Int := chW ch (agW q.1 q.2.1) (agW q.2.2.1 q.2.2.2)
noncomputable def meetQ (q : K4) : Bool := meetB q.1 q.2.1 q.2.2.1 q.2.2.2
noncomputable def ctW (q : K4) (ch ha pub pay : List Int) : List Int := Cp.hiW (mKy q ch) (S2.shortW (ha ++ pub)) 0 pay
theorem ctW_len (q : K4) (ch ha pub pay : List Int) : (ctW q ch ha pub pay).length = pay.length + 16 := by unfold ctW Cp.hiW; rw [Ae.sealW_len]
noncomputable def haW (ha pub ct : List Int) : List Int := S2.shortW (S2.shortW (ha ++ pub) ++ ct)
noncomputable def inlW : List (FuncId × Func) := [(50, Tryz.f50)]
theorem inlW_ok : InlOK Tryz.prog inlW := InlOK.cons Tryz.func50 (by decide) InlOK.nil
noncomputable def wC : Ctr := mk (P := Tryz.prog) [turnE, publicE, mixE, hideE, Sh.concatE] inlW fun i => if i = 17 then some false else none
theorem wC_ok : CtrSound Tryz.prog wC := mk_sound _ inlW_ok _ _
noncomputable def wO (q : K4) (ch ha eph pay : List Int) : Bool :=
  andT (andT (andT (andT (andT (andT true (!decide ((pay.length : Int) > 1024))) (andT true (andT true (Re.keyOK eph))))
    (andT true (decide (ha.length = 32) && decide ((ladW eph 9).length = 32) && decide (ch.length = 32) && meetB q.1 q.2.1 q.2.2.1 q.2.2.2)))
    (andT true (decide ((S2.shortW (ha ++ ladW eph 9)).length = 32) && true && true && decide (pay.length ≤ 1048576)))) (andT true true))
    (andT (andT true (andT (andT true (decide ((ladW eph 9).length = 32) && true)) (decide ((ladW eph 9).length = 32)))) (decide ([ladW eph 9, ctW q ch ha (ladW eph 9) pay].flatten.length ≤ 274877906944) && true))
theorem wO_true {q : K4} {ch ha eph pay : List Int} (h1 : ha.length = 32) (h3 : ch.length = 32) (he : Re.keyOK eph = true) (hp : pay.length ≤ 1024) (h : meetQ q = true) : wO q ch ha eph pay = true := by
  have hf : [ladW eph 9, ctW q ch ha (ladW eph 9) pay].flatten.length ≤ 274877906944 := by
    simp only [List.flatten_cons, List.flatten_nil, List.length_append, List.length_nil, ctW_len, ladW_len]; omega
  have hm : meetB q.1 q.2.1 q.2.2.1 q.2.2.2 = true := h
  unfold wO
  rw [h1, h3, he, hm, ladW_len, S2.shortW_len, decide_eq_false (show ¬ (pay.length : Int) > 1024 by omega), decide_eq_true (show pay.length ≤ 1048576 by omega), decide_eq_true hf]
  rfl
section
variable {key ch ha os op pe ms mp th eph pay x : List Int} {n : Int} {has : Bool}
theorem write_fn {bg : Bool} {stg : Int} (hs : stg = 0 ∧ bg = true ∨ stg = 1 ∧ bg = false) (h1 : ha.length = 32) (h3 : ch.length = 32) (he : Re.keyOK eph = true) (hp : pay.length ≤ 1024) (h : meetQ (meets true stg os pe eph th) = true) :
    FnTr Tryz.prog 24 [.ptr 0 0 0, .agg [.ints .u8 32 eph], .ro false .u8 pay] [hb key has n ch ha bg stg os op pe ms mp th] (.tup [.ro true .u8 (ladW eph 9 ++ ctW (meets true stg os pe eph th) ch ha (ladW eph 9) pay), .nl .nilIface])
      [hb (mKy (meets true stg os pe eph th) ch) true 1 (mCh (meets true stg os pe eph th) ch) (haW ha (ladW eph 9) (ctW (meets true stg os pe eph th) ch ha (ladW eph 9) pay)) bg (stg + 1) os op pe eph (ladW eph 9) th] := by
  have k : FnTr Tryz.prog 24 [.ptr 0 0 0, .agg [.ints .u8 32 eph], .ro false .u8 pay] [hb key has n ch ha bg stg os op pe ms mp th] (.tup [.ro true .u8 [ladW eph 9, ctW (meets true stg os pe eph th) ch ha (ladW eph 9) pay].flatten, .nl .nilIface])
      [hb (mKy (meets true stg os pe eph th) ch) true 1 (mCh (meets true stg os pe eph th) ch) (haW ha (ladW eph 9) (ctW (meets true stg os pe eph th) ch ha (ladW eph 9) pay)) bg (stg + 1) os op pe eph (ladW eph 9) th] := by
    have ho := wO_true h1 h3 he hp h
    rcases hs with ⟨rfl, rfl⟩ | ⟨rfl, rfl⟩
    · exact callM wC_ok 60 Tryz.func24 1 (by simp) (by kernel_rfl) ho rfl rfl
    · exact callM wC_ok 60 Tryz.func24 1 (by simp) (by kernel_rfl) ho rfl rfl
  rw [Cp.flat2] at k
  exact k
noncomputable def rC : Ctr := mk (P := Tryz.prog) [turnE, mixE, showE] [] fun i => if i = 29 || i = 25 then some false else none
theorem rC_ok : CtrSound Tryz.prog rC := mk_sound _ InlOK.nil _ _
noncomputable def rO (q : K4) (ch ha x D : List Int) : Bool :=
  andT (andT (andT (andT (andT (andT (andT (andT true (!decide ((x.length : Int) < 48))) (!decide ((x.length : Int) > 1072))) (andT true (true && decide ((32 : Int) ≤ (x.length : Int))))) (decide (31 + 1 ≤ (x.take 32).length))) (true && decide (0 + 32 ≤ (x.take 32).length)))
    (andT true (decide (ha.length = 32) && decide (D.length = 32) && decide (ch.length = 32) && meetB q.1 q.2.1 q.2.2.1 q.2.2.2))) (andT true (andT true (true && decide ((32 : Int) ≤ (x.length : Int))))))
    (andT true (decide ((S2.shortW (ha ++ D)).length = 32) && true && true && decide ((x.drop 32).length ≤ 1048592) && Ae.openB (mKy q ch) (Ae.nonceW 0) (S2.shortW (ha ++ D)) (x.drop 32)))
theorem rO_true {q : K4} {ch ha x D : List Int} (h1 : ha.length = 32) (h3 : ch.length = 32) (h0 : 48 ≤ x.length) (hx : x.length ≤ 1072) (hD : D.length = 32) (h : meetQ q = true) (ho : Ae.openB (mKy q ch) (Ae.nonceW 0) (S2.shortW (ha ++ D)) (x.drop 32) = true) : rO q ch ha x D = true := by
  have hm : meetB q.1 q.2.1 q.2.2.1 q.2.2.2 = true := h
  have ht : (x.take 32).length = 32 := by rw [List.length_take]; omega
  unfold rO
  rw [h1, h3, hm, ho, hD, ht, S2.shortW_len, decide_eq_false (show ¬ (x.length : Int) < 48 by omega), decide_eq_false (show ¬ (x.length : Int) > 1072 by omega), decide_eq_true (show (32 : Int) ≤ x.length by omega), decide_eq_true (show (x.drop 32).length ≤ 1048592 by rw [List.length_drop]; omega)]
  rfl
theorem read_fn {bg : Bool} {stg : Int} (hs : stg = 0 ∧ bg = false ∨ stg = 1 ∧ bg = true) (h1 : ha.length = 32) (h3 : ch.length = 32) (h0 : 48 ≤ x.length) (hx : x.length ≤ 1072) (h : meetQ (meets false stg os pe ms (x.take 32)) = true)
    (ho : Ae.openB (mKy (meets false stg os pe ms (x.take 32)) ch) (Ae.nonceW 0) (S2.shortW (ha ++ x.take 32)) (x.drop 32) = true) :
    FnTr Tryz.prog 28 [.ptr 0 0 0, .ro false .u8 x] [hb key has n ch ha bg stg os op pe ms mp th] (.tup [.ro true .u8 (Ae.openW (mKy (meets false stg os pe ms (x.take 32)) ch) (Ae.nonceW 0) (x.drop 32)), .nl .nilIface])
      [hb (mKy (meets false stg os pe ms (x.take 32)) ch) true 1 (mCh (meets false stg os pe ms (x.take 32)) ch) (haW ha (x.take 32) (x.drop 32)) bg (stg + 1) os op pe ms mp (x.take 32)] := by
  have e : Bx.drW x = x.take 32 := Bx.drW_eq x
  have k : FnTr Tryz.prog 28 [.ptr 0 0 0, .ro false .u8 x] [hb key has n ch ha bg stg os op pe ms mp th] (.tup [.ro true .u8 (Ae.openW (mKy (meets false stg os pe ms (Bx.drW x)) ch) (Ae.nonceW 0) (x.drop 32)), .nl .nilIface])
      [hb (mKy (meets false stg os pe ms (Bx.drW x)) ch) true 1 (mCh (meets false stg os pe ms (Bx.drW x)) ch) (haW ha (Bx.drW x) (x.drop 32)) bg (stg + 1) os op pe ms mp (Bx.drW x)] := by
    have hr : rO (meets false stg os pe ms (Bx.drW x)) ch ha x (Bx.drW x) = true := by
      rw [e]
      exact rO_true h1 h3 h0 hx (by rw [List.length_take]; omega) h ho
    rcases hs with ⟨rfl, rfl⟩ | ⟨rfl, rfl⟩
    · exact callM rC_ok 60 Tryz.func28 1 (by simp) (by kernel_rfl) hr rfl rfl
    · exact callM rC_ok 60 Tryz.func28 1 (by simp) (by kernel_rfl) hr rfl rfl
  rw [e] at k
  exact k
end
end Go.Proofs.YtibfpjeeanppjaaGreat.No
end
