/- This file proves the contracts of noise's New, Write and Read (where they come to a message), Keys and Hash. Conditions: keys of 32 bytes; stages that there are; lengths that the program takes. -/
import Derived.Test.YtibfpjeeanppjaaGreatWNoD
set_option linter.all false
set_option maxRecDepth 100000
namespace Go.Proofs.YtibfpjeeanppjaaGreat.No
open Go Go.Sy Sh La
def nmL : List Int := [78, 111, 105, 115, 101, 95, 75, 75, 95, 50, 53, 53, 49, 57, 95, 67, 104, 97, 67, 104, 97, 80, 111, 108, 121, 95, 83, 72, 65, 50, 53, 54]
noncomputable def h0W : List Int := S2.shortW nmL
noncomputable def begW (bg : Bool) (op pe pro : List Int) : List Int := bif bg then S2.shortW (S2.shortW (S2.shortW (h0W ++ pro) ++ op) ++ pe) else S2.shortW (S2.shortW (S2.shortW (h0W ++ pro) ++ pe) ++ op)
theorem begW_len (bg : Bool) (op pe pro : List Int) : (begW bg op pe pro).length = 32 := by cases bg <;> exact S2.shortW_len _
noncomputable def nC : Ctr := mk (P := Tryz.prog) [Cp.beginE, mixTextE] []
theorem nC_ok : CtrSound Tryz.prog nC := mk_sound _ InlOK.nil _ _
noncomputable def nO (pro a b : List Int) : Bool :=
  andT (andT (andT true (andT true (decide (h0W.length = 32) && decide (pro.length < 270000000000)))) (andT true (decide ((S2.shortW (h0W ++ pro)).length = 32) && decide (a.length = 32)))) (andT true (decide ((S2.shortW (S2.shortW (h0W ++ pro) ++ a)).length = 32) && decide (b.length = 32)))
theorem nO_true {pro a b : List Int} (h : pro.length < 270000000000) (ha : a.length = 32) (hb : b.length = 32) : nO pro a b = true := by
  unfold nO h0W
  rw [S2.shortW_len, S2.shortW_len, S2.shortW_len, ha, hb, decide_eq_true h]; rfl
section
variable (os op pe pro : List Int)
theorem n_t : (callS Tryz.prog nC 60 Tryz.f23 [.bool true, .agg [.ints .u8 32 os, .ints .u8 32 op], .agg [.ints .u8 32 pe], .ro false .u8 pro] []).map (fun x => (x.1, x.2.1.take 4, x.2.2)) =
    some (.ptr 3 0 0, [.b [.ints .u8 32 os, .ints .u8 32 op], .b [.ints .u8 32 pe], Cp.st Cp.z32 false 0 h0W h0W, hb Cp.z32 false 0 h0W (begW true op pe pro) true 0 os op pe Cp.z32 Cp.z32 Cp.z32], nO pro op pe) := by kernel_rfl
theorem n_f : (callS Tryz.prog nC 60 Tryz.f23 [.bool false, .agg [.ints .u8 32 os, .ints .u8 32 op], .agg [.ints .u8 32 pe], .ro false .u8 pro] []).map (fun x => (x.1, x.2.1.take 4, x.2.2)) =
    some (.ptr 3 0 0, [.b [.ints .u8 32 os, .ints .u8 32 op], .b [.ints .u8 32 pe], Cp.st Cp.z32 false 0 h0W h0W, hb Cp.z32 false 0 h0W (begW false op pe pro) false 0 os op pe Cp.z32 Cp.z32 Cp.z32], nO pro pe op) := by kernel_rfl
end
theorem new_fn {bg : Bool} {os op pe pro : List Int} (h : pro.length < 270000000000) (h1 : op.length = 32) (h2 : pe.length = 32) :
    FnTr Tryz.prog 23 [.bool bg, .agg [.ints .u8 32 os, .ints .u8 32 op], .agg [.ints .u8 32 pe], .ro false .u8 pro] [] (.ptr 0 0 0) [hb Cp.z32 false 0 h0W (begW bg op pe pro) bg 0 os op pe Cp.z32 Cp.z32 Cp.z32] := by
  cases bg with
  | true => exact FnTr.sel [3] (callM nC_ok 60 Tryz.func23 4 (by simp) (n_t os op pe pro) (nO_true h h1 h2) rfl rfl) (by kernel_rfl)
  | false => exact FnTr.sel [3] (callM nC_ok 60 Tryz.func23 4 (by simp) (n_f os op pe pro) (nO_true h h2 h1) rfl rfl) (by kernel_rfl)
noncomputable def newF : List SV → Option (SV × List Blk × Bool)
  | [.bool bg, .agg [.ints .u8 32 os, .ints .u8 32 op], .agg [.ints .u8 32 pe], .ro false .u8 pro] => some (.ptr 0 0 0, [hb Cp.z32 false 0 h0W (begW bg op pe pro) bg 0 os op pe Cp.z32 Cp.z32 Cp.z32], decide (pro.length < 270000000000) && decide (op.length = 32) && decide (pe.length = 32))
  | [.bool bg, .agg [.ints .u8 32 os, .ints .u8 32 op], .agg [.ints .u8 32 pe], .nl (.slice none 0 0)] => some (.ptr 0 0 0, [hb Cp.z32 false 0 h0W (begW bg op pe []) bg 0 os op pe Cp.z32 Cp.z32 Cp.z32], decide (op.length = 32) && decide (pe.length = 32))
  | _ => none
noncomputable def newE : Entry Tryz.prog := .val 23 _ Tryz.func23 (by decide) rfl true 1 newF fun vs v new e => by
  unfold newF at e
  split at e
  · simp only [Option.some.injEq, Prod.mk.injEq, Bool.and_eq_true, decide_eq_true_eq] at e
    obtain ⟨rfl, rfl, ⟨h, h1⟩, h2⟩ := e
    exact new_fn h h1 h2
  · simp only [Option.some.injEq, Prod.mk.injEq, Bool.and_eq_true, decide_eq_true_eq] at e
    obtain ⟨rfl, rfl, h1, h2⟩ := e
    exact FnTr.conv (new_fn (pro := []) (by decide) h1 h2) ⟨VE.refl _, VE.refl _, VE.refl _, VE.nil_ro _ _, trivial⟩ trivial (VE.refl _) ⟨PE.refl _, trivial⟩
  · cases e
noncomputable def newVE : Entry Tryz.prog := .val 23 _ Tryz.func23 (by decide) rfl false 1 newF fun vs v new e => by
  unfold newF at e
  split at e
  · simp only [Option.some.injEq, Prod.mk.injEq, Bool.and_eq_true, decide_eq_true_eq] at e
    obtain ⟨rfl, rfl, ⟨h, h1⟩, h2⟩ := e
    exact new_fn h h1 h2
  · simp only [Option.some.injEq, Prod.mk.injEq, Bool.and_eq_true, decide_eq_true_eq] at e
    obtain ⟨rfl, rfl, h1, h2⟩ := e
    exact FnTr.conv (new_fn (pro := []) (by decide) h1 h2) ⟨VE.refl _, VE.refl _, VE.refl _, VE.nil_ro _ _, trivial⟩ trivial (VE.refl _) ⟨PE.refl _, trivial⟩
  · cases e
noncomputable def wrR (bg : Bool) (stg : Int) (eph pay ch ha os op pe th : List Int) : Option (SV × List Blk × Bool) :=
  let q := meets true stg os pe eph th
  bif (stg == 0 && bg) || (stg == 1 && !bg) then some (.tup [.ro true .u8 (ladW eph 9 ++ ctW q ch ha (ladW eph 9) pay), .nl .nilIface], [hb (mKy q ch) true 1 (mCh q ch) (haW ha (ladW eph 9) (ctW q ch ha (ladW eph 9) pay)) bg (stg + 1) os op pe eph (ladW eph 9) th],
    decide (ha.length = 32) && decide (ch.length = 32) && Re.keyOK eph && decide (pay.length ≤ 1024) && meetQ q) else none
noncomputable def writeF : List SV → List Blk → Option (SV × List Blk × Bool)
  | [.ptr 0 0 0, .agg [.ints .u8 32 eph], .ro false .u8 pay], [.b [.ints .u8 32 key, .bool has, .int .i64 n, .ints .u8 32 ch, .ints .u8 32 ha, .bool bg, .int .i64 stg, .ints .u8 32 os, .ints .u8 32 op, .ints .u8 32 pe, .ints .u8 32 ms, .ints .u8 32 mp, .ints .u8 32 th]] => wrR bg stg eph pay ch ha os op pe th
  | [.ptr 0 0 0, .agg [.ints .u8 32 eph], .nl (.slice none 0 0)], [.b [.ints .u8 32 key, .bool has, .int .i64 n, .ints .u8 32 ch, .ints .u8 32 ha, .bool bg, .int .i64 stg, .ints .u8 32 os, .ints .u8 32 op, .ints .u8 32 pe, .ints .u8 32 ms, .ints .u8 32 mp, .ints .u8 32 th]] => wrR bg stg eph [] ch ha os op pe th
  | _, _ => none
theorem stg_w {bg : Bool} {stg : Int} (h : ((stg == 0 && bg) || (stg == 1 && !bg)) = true) : stg = 0 ∧ bg = true ∨ stg = 1 ∧ bg = false := by simpa using h
theorem wrR_fn {key ch ha os op pe ms mp th eph pay : List Int} {n stg : Int} {has bg : Bool} {v a : SV} {h1 : List Blk} (hv : VE a (.ro false .u8 pay)) (e : wrR bg stg eph pay ch ha os op pe th = some (v, h1, true)) :
    FnTr Tryz.prog 24 [.ptr 0 0 0, .agg [.ints .u8 32 eph], a] [hb key has n ch ha bg stg os op pe ms mp th] v h1 := by
  unfold wrR at e
  cases hs : ((stg == 0 && bg) || (stg == 1 && !bg)) with
  | true =>
    rw [hs] at e
    simp only [cond_true, Option.some.injEq, Prod.mk.injEq, Bool.and_eq_true, decide_eq_true_eq] at e
    obtain ⟨rfl, rfl, ⟨⟨⟨a, b⟩, c⟩, d⟩, m⟩ := e
    exact FnTr.conv (write_fn (stg_w hs) a b c d m) ⟨VE.refl _, VE.refl _, hv, trivial⟩ ⟨PE.refl _, trivial⟩ (VE.refl _) ⟨PE.refl _, trivial⟩
  | false => rw [hs] at e; cases e
noncomputable def writeE : Entry Tryz.prog := .mut 24 _ Tryz.func24 (by decide) rfl Cp.pickS 0 writeF fun vs h0 v h1 e => by
  unfold writeF at e
  split at e
  · exact wrR_fn (VE.refl _) e
  · exact wrR_fn (VE.nil_ro _ _) e
  · cases e
noncomputable def rdR (bg : Bool) (stg : Int) (x ch ha os op pe ms mp : List Int) : Option (SV × List Blk × Bool) :=
  let q := meets false stg os pe ms (x.take 32)
  bif (stg == 0 && !bg) || (stg == 1 && bg) then some (.tup [.ro true .u8 (Ae.openW (mKy q ch) (Ae.nonceW 0) (x.drop 32)), .nl .nilIface], [hb (mKy q ch) true 1 (mCh q ch) (haW ha (x.take 32) (x.drop 32)) bg (stg + 1) os op pe ms mp (x.take 32)],
    decide (ha.length = 32) && decide (ch.length = 32) && decide (48 ≤ x.length) && decide (x.length ≤ 1072) && meetQ q && Ae.openB (mKy q ch) (Ae.nonceW 0) (S2.shortW (ha ++ x.take 32)) (x.drop 32)) else none
noncomputable def readF : List SV → List Blk → Option (SV × List Blk × Bool)
  | [.ptr 0 0 0, .ro false .u8 x], [.b [.ints .u8 32 key, .bool has, .int .i64 n, .ints .u8 32 ch, .ints .u8 32 ha, .bool bg, .int .i64 stg, .ints .u8 32 os, .ints .u8 32 op, .ints .u8 32 pe, .ints .u8 32 ms, .ints .u8 32 mp, .ints .u8 32 th]] => rdR bg stg x ch ha os op pe ms mp
  | _, _ => none
theorem stg_r {bg : Bool} {stg : Int} (h : ((stg == 0 && !bg) || (stg == 1 && bg)) = true) : stg = 0 ∧ bg = false ∨ stg = 1 ∧ bg = true := by simpa using h
noncomputable def readE : Entry Tryz.prog := .mut 28 _ Tryz.func28 (by decide) rfl Cp.pickS 0 readF fun vs h0 v h1 e => by
  unfold readF at e
  split at e
  · rename_i x key has n ch ha bg stg os op pe ms mp th
    unfold rdR at e
    cases hs : ((stg == 0 && !bg) || (stg == 1 && bg)) with
    | true =>
      rw [hs] at e
      simp only [cond_true, Option.some.injEq, Prod.mk.injEq, Bool.and_eq_true, decide_eq_true_eq] at e
      obtain ⟨rfl, rfl, ⟨⟨⟨⟨a, b⟩, c⟩, d⟩, m⟩, o⟩ := e
      exact read_fn (stg_r hs) a b c d m o
    | false => rw [hs] at e; cases e
  · cases e
noncomputable def kC : Ctr := mk (P := Tryz.prog) [doneE, Cp.twoE] [(62, Tryz.f62)]
theorem kC_ok : CtrSound Tryz.prog kC := mk_sound _ (InlOK.cons Tryz.func62 (by decide) InlOK.nil) _ _
noncomputable def hC : Ctr := mk (P := Tryz.prog) [] [(61, Tryz.f61)]
theorem hC_ok : CtrSound Tryz.prog hC := mk_sound _ (InlOK.cons Tryz.func61 (by decide) InlOK.nil) _ _
noncomputable def keysV (bg : Bool) (stg : Int) (ch : List Int) : SV := bif stg == 2 then (bif bg then .tup [.agg [.ints .u8 32 (Cp.tw1 ch)], .agg [.ints .u8 32 (Cp.tw2 ch)], .nl .nilIface] else .tup [.agg [.ints .u8 32 (Cp.tw2 ch)], .agg [.ints .u8 32 (Cp.tw1 ch)], .nl .nilIface])
  else .tup [.agg [.ints .u8 32 k32], .agg [.ints .u8 32 k32], .iface 78 (.int .i64 10)]
section
variable {key ch ha os op pe ms mp th : List Int} {n stg : Int} {has bg : Bool}
theorem keys_fn (h : stg = 0 ∨ stg = 1 ∨ stg = 2) (hc : ch.length = 32) : FnTr Tryz.prog 34 [.ptr 0 0 0] [hb key has n ch ha bg stg os op pe ms mp th] (keysV bg stg ch) [hb key has n ch ha bg stg os op pe ms mp th] := by
  have ho : andT true (andT true (decide (ch.length = 32))) = true := by rw [hc]; rfl
  rcases h with rfl | rfl | rfl
  · exact callM kC_ok 60 Tryz.func34 1 (by simp) (p := true) (by kernel_rfl) rfl rfl rfl
  · exact callM kC_ok 60 Tryz.func34 1 (by simp) (p := true) (by kernel_rfl) rfl rfl rfl
  · cases bg with
    | true => exact callM kC_ok 60 Tryz.func34 1 (by simp) (p := andT true (andT true (andT true (decide (ch.length = 32))))) (by kernel_rfl) (by rw [ho]; rfl) rfl rfl
    | false => exact callM kC_ok 60 Tryz.func34 1 (by simp) (p := andT true (andT true (andT true (decide (ch.length = 32))))) (by kernel_rfl) (by rw [ho]; rfl) rfl rfl
theorem hash_fn : FnTr Tryz.prog 32 [.ptr 0 0 0] [hb key has n ch ha bg stg os op pe ms mp th] (.agg [.ints .u8 32 ha]) [hb key has n ch ha bg stg os op pe ms mp th] :=
  callM hC_ok 60 Tryz.func32 1 (by simp) (p := true) (by kernel_rfl) rfl rfl rfl
end
noncomputable def keysF : List SV → List Blk → Option (SV × Bool)
  | [.ptr 0 0 0], [.b [.ints .u8 32 key, .bool has, .int .i64 n, .ints .u8 32 ch, .ints .u8 32 ha, .bool bg, .int .i64 stg, .ints .u8 32 os, .ints .u8 32 op, .ints .u8 32 pe, .ints .u8 32 ms, .ints .u8 32 mp, .ints .u8 32 th]] => some (keysV bg stg ch, stgB stg && decide (ch.length = 32))
  | _, _ => none
noncomputable def keysE : Entry Tryz.prog := .rdm 34 _ Tryz.func34 (by decide) rfl pick1 keysF fun vs h0 v e => by
  unfold keysF at e
  split at e
  · simp only [Option.some.injEq, Prod.mk.injEq, Bool.and_eq_true, decide_eq_true_eq] at e
    obtain ⟨rfl, h, hc⟩ := e
    exact keys_fn (stgB_or h) hc
  · cases e
def hashF : List SV → List Blk → Option (SV × Bool)
  | [.ptr 0 0 0], [.b [.ints .u8 32 key, .bool has, .int .i64 n, .ints .u8 32 ch, .ints .u8 32 ha, .bool bg, .int .i64 stg, .ints .u8 32 os, .ints .u8 32 op, .ints .u8 32 pe, .ints .u8 32 ms, .ints .u8 32 mp, .ints .u8 32 th]] => some (.agg [.ints .u8 32 ha], true)
  | _, _ => none
noncomputable def hashE : Entry Tryz.prog := .rdm 32 _ Tryz.func32 (by decide) rfl pick1 hashF fun vs h0 v e => by
  unfold hashF at e
  split at e
  · simp only [Option.some.injEq, Prod.mk.injEq, and_true] at e
    subst e
    exact hash_fn
  · cases e
end Go.Proofs.YtibfpjeeanppjaaGreat.No
