/- This file proves the contracts of a state's MixText, MixSecret, Hide and Show within a handshake's memory. Conditions: states of 32 bytes; lengths that the program takes. -/
import Derived.Test.YtibfpjeeanppjaaGreatWCpB
import Derived.Test.YtibfpjeeanppjaaGreatWBnP
set_option linter.all false
set_option maxRecDepth 100000
namespace Go.Proofs.YtibfpjeeanppjaaGreat.No
open Go Go.Sy Sh
abbrev hb (key : List Int) (has : Bool) (n : Int) (ch ha : List Int) (bg : Bool) (stg : Int) (os op pe ms mp th : List Int) : Blk :=
  .b [.ints .u8 32 key, .bool has, .int .i64 n, .ints .u8 32 ch, .ints .u8 32 ha, .bool bg, .int .i64 stg, .ints .u8 32 os, .ints .u8 32 op, .ints .u8 32 pe, .ints .u8 32 ms, .ints .u8 32 mp, .ints .u8 32 th]
noncomputable def mtC : Ctr := mk (P := Tryz.prog) [S2.shortE] []
theorem mtC_ok : CtrSound Tryz.prog mtC := mk_sound _ InlOK.nil _ _
def mtO (ha x : List Int) : Bool := andT true (andT (andT true (andT (andT (andT (andT true (decide (x.length = 32) && true)) (decide (x.length = 32))) (decide (ha.length = 32) && true)) (decide (ha.length = 32)))) (decide ([ha, x].flatten.length < 274877900000) && true))
section
variable {key ch ha os op pe ms mp th x : List Int} {n stg : Int} {has bg ex wh : Bool}
theorem mt_sl (h1 : ha.length = 32) (h2 : x.length = 32) : FnTr Tryz.prog 49 [.ptr 0 0 0, .sl 1 0 0 1 1 1 ex wh] [hb key has n ch ha bg stg os op pe ms mp th, .b [.sl 2 0 0 1 32 32 true true], .b [.ints .u8 32 x]] (.tup [])
    [hb key has n ch (S2.shortW (ha ++ x)) bg stg os op pe ms mp th, .b [.sl 2 0 0 1 32 32 true true], .b [.ints .u8 32 x]] := by
  have k : FnTr Tryz.prog 49 [.ptr 0 0 0, .sl 1 0 0 1 1 1 ex wh] [hb key has n ch ha bg stg os op pe ms mp th, .b [.sl 2 0 0 1 32 32 true true], .b [.ints .u8 32 x]] (.tup [])
      [hb key has n ch (S2.shortW [ha, x].flatten) bg stg os op pe ms mp th, .b [.sl 2 0 0 1 32 32 true true], .b [.ints .u8 32 x]] :=
    callM mtC_ok 60 Tryz.func49 3 (by simp) (p := mtO ha x) (by kernel_rfl) (by
      unfold mtO
      rw [h1, h2, decide_eq_true (show [ha, x].flatten.length < 274877900000 by simp; omega)]; rfl) rfl rfl
  rw [Cp.flat2] at k
  exact k
theorem mt_ro (h1 : ha.length = 32) (h2 : x.length < 270000000000) : FnTr Tryz.prog 49 [.ptr 0 0 0, .sl 1 0 0 1 1 1 ex wh] [hb key has n ch ha bg stg os op pe ms mp th, .b [.ro false .u8 x]] (.tup [])
    [hb key has n ch (S2.shortW (ha ++ x)) bg stg os op pe ms mp th, .b [.ro false .u8 x]] := by
  have k : FnTr Tryz.prog 49 [.ptr 0 0 0, .sl 1 0 0 1 1 1 ex wh] [hb key has n ch ha bg stg os op pe ms mp th, .b [.ro false .u8 x]] (.tup [])
      [hb key has n ch (S2.shortW [ha, x].flatten) bg stg os op pe ms mp th, .b [.ro false .u8 x]] :=
    callM mtC_ok 60 Tryz.func49 2 (by simp) (p := Cp.hiX ha x) (by kernel_rfl) (Cp.hiX_true h1 h2) rfl rfl
  rw [Cp.flat2] at k
  exact k
theorem ms_fn (hc : ch.length = 32) (hm : x.length < 274877890000) : FnTr Tryz.prog 83 [.ptr 0 0 0, .ro false .u8 x] [hb key has n ch ha bg stg os op pe ms mp th] (.tup [])
    [hb (Cp.tw2 (Kd.tagW ch x)) true 0 (Cp.tw1 (Kd.tagW ch x)) ha bg stg os op pe ms mp th] :=
  callM Cp.mcC_ok 60 Tryz.func83 1 (by simp) (p := Cp.mcO ch x) (by kernel_rfl) (by
    unfold Cp.mcO
    rw [hc, Kd.tagW_len, decide_eq_true hm]
    rfl) rfl rfl
end
section
variable (key ch ha os op pe ms mp th x : List Int) (n stg : Int) (bg : Bool)
theorem hi_run : (callS Tryz.prog Cp.hiC 60 Tryz.f52 [.ptr 0 0 0, .ro false .u8 x] [hb key true n ch ha bg stg os op pe ms mp th]).map (fun x => (x.1, x.2.1.take 1, x.2.2)) =
    some (.tup [.ro true .u8 (Cp.hiW key ha n x), .nl .nilIface], [hb key true (IntKind.i64.wrap (n + 1)) ch (S2.shortW [ha, Cp.hiW key ha n x].flatten) bg stg os op pe ms mp th], Cp.hiO ha x (Cp.hiW key ha n x) n) := by kernel_rfl
theorem sh_run : (callS Tryz.prog Cp.shC 60 Tryz.f59 [.ptr 0 0 0, .ro false .u8 x] [hb key true n ch ha bg stg os op pe ms mp th]).map (fun x => (x.1, x.2.1.take 1, x.2.2)) =
    some (.tup [.ro true .u8 (Ae.openW key (Ae.nonceW n) x), .nl .nilIface], [hb key true (IntKind.i64.wrap (n + 1)) ch (S2.shortW [ha, x].flatten) bg stg os op pe ms mp th], Cp.shO key ha x n) := by kernel_rfl
end
section
variable {key ch ha os op pe ms mp th x : List Int} {n stg : Int} {bg : Bool}
theorem hide_fn (h1 : ha.length = 32) (h0 : 0 ≤ n) (hn : n < 4294967295) (ht : x.length ≤ 1048576) :
    FnTr Tryz.prog 52 [.ptr 0 0 0, .ro false .u8 x] [hb key true n ch ha bg stg os op pe ms mp th] (.tup [.ro true .u8 (Cp.hiW key ha n x), .nl .nilIface]) [hb key true (n + 1) ch (S2.shortW (ha ++ Cp.hiW key ha n x)) bg stg os op pe ms mp th] := by
  have e := hi_run key ch ha os op pe ms mp th x n stg bg
  rw [wrap_i64 _ (by omega) (by omega), Cp.flat2] at e
  exact callM Cp.hiC_ok 60 Tryz.func52 1 (by simp) e (by
    unfold Cp.hiO
    rw [h1, decide_eq_false (show ¬ (n ≥ 4294967295) by omega), decide_eq_true ht, Cp.hiX_true h1 (by unfold Cp.hiW; rw [Ae.sealW_len]; omega)]
    rfl) rfl rfl
theorem show_fn (h1 : ha.length = 32) (h0 : 0 ≤ n) (hn : n < 4294967295) (ht : x.length ≤ 1048592) (ok : Ae.openB key (Ae.nonceW n) ha x = true) :
    FnTr Tryz.prog 59 [.ptr 0 0 0, .ro false .u8 x] [hb key true n ch ha bg stg os op pe ms mp th] (.tup [.ro true .u8 (Ae.openW key (Ae.nonceW n) x), .nl .nilIface]) [hb key true (n + 1) ch (S2.shortW (ha ++ x)) bg stg os op pe ms mp th] := by
  have e := sh_run key ch ha os op pe ms mp th x n stg bg
  rw [wrap_i64 _ (by omega) (by omega), Cp.flat2] at e
  exact callM Cp.shC_ok 60 Tryz.func59 1 (by simp) e (by
    unfold Cp.shO
    rw [h1, decide_eq_false (show ¬ (n ≥ 4294967295) by omega), decide_eq_true ht, ok, Cp.hiX_true h1 (by omega)]
    rfl) rfl rfl
end
def pickM (vs : List SV) (h : List Blk) : List Nat := match vs with
  | [.ptr b _ _, .sl c _ _ _ _ _ _ _] => b :: c :: Bn.contB h c
  | _ => []
noncomputable def mixTextF : List SV → List Blk → Option (SV × List Blk × Bool)
  | [.ptr 0 0 0, .sl 1 0 0 1 1 1 _ _], [.b [.ints .u8 32 key, .bool has, .int .i64 n, .ints .u8 32 ch, .ints .u8 32 ha, .bool bg, .int .i64 stg, .ints .u8 32 os, .ints .u8 32 op, .ints .u8 32 pe, .ints .u8 32 ms, .ints .u8 32 mp, .ints .u8 32 th], .b [.sl 2 0 0 1 32 32 true true], .b [.ints .u8 32 x]] =>
    some (.tup [], [hb key has n ch (S2.shortW (ha ++ x)) bg stg os op pe ms mp th, .b [.sl 2 0 0 1 32 32 true true], .b [.ints .u8 32 x]], decide (ha.length = 32) && decide (x.length = 32))
  | [.ptr 0 0 0, .sl 1 0 0 1 1 1 _ _], [.b [.ints .u8 32 key, .bool has, .int .i64 n, .ints .u8 32 ch, .ints .u8 32 ha, .bool bg, .int .i64 stg, .ints .u8 32 os, .ints .u8 32 op, .ints .u8 32 pe, .ints .u8 32 ms, .ints .u8 32 mp, .ints .u8 32 th], .b [.ro false .u8 x]] =>
    some (.tup [], [hb key has n ch (S2.shortW (ha ++ x)) bg stg os op pe ms mp th, .b [.ro false .u8 x]], decide (ha.length = 32) && decide (x.length < 270000000000))
  | _, _ => none
noncomputable def mixTextE : Entry Tryz.prog := .mut 49 _ Tryz.func49 (by decide) rfl pickM 0 mixTextF fun vs h0 v h1 e => by
  unfold mixTextF at e
  split at e
  · simp only [Option.some.injEq, Prod.mk.injEq, Bool.and_eq_true, decide_eq_true_eq] at e
    obtain ⟨rfl, rfl, h1, h2⟩ := e
    exact mt_sl h1 h2
  · simp only [Option.some.injEq, Prod.mk.injEq, Bool.and_eq_true, decide_eq_true_eq] at e
    obtain ⟨rfl, rfl, h1, h2⟩ := e
    exact mt_ro h1 h2
  · cases e
noncomputable def mixSecretF : List SV → List Blk → Option (SV × List Blk × Bool)
  | [.ptr 0 0 0, .ro false .u8 x], [.b [.ints .u8 32 key, .bool has, .int .i64 n, .ints .u8 32 ch, .ints .u8 32 ha, .bool bg, .int .i64 stg, .ints .u8 32 os, .ints .u8 32 op, .ints .u8 32 pe, .ints .u8 32 ms, .ints .u8 32 mp, .ints .u8 32 th]] =>
    some (.tup [], [hb (Cp.tw2 (Kd.tagW ch x)) true 0 (Cp.tw1 (Kd.tagW ch x)) ha bg stg os op pe ms mp th], decide (ch.length = 32) && decide (x.length < 274877890000))
  | _, _ => none
noncomputable def mixSecretE : Entry Tryz.prog := .mut 83 _ Tryz.func83 (by decide) rfl Cp.pickS 0 mixSecretF fun vs h0 v h1 e => by
  unfold mixSecretF at e
  split at e
  · simp only [Option.some.injEq, Prod.mk.injEq, Bool.and_eq_true, decide_eq_true_eq] at e
    obtain ⟨rfl, rfl, h1, h2⟩ := e
    exact ms_fn h1 h2
  · cases e
noncomputable def hideF : List SV → List Blk → Option (SV × List Blk × Bool)
  | [.ptr 0 0 0, .ro false .u8 x], [.b [.ints .u8 32 key, .bool true, .int .i64 n, .ints .u8 32 ch, .ints .u8 32 ha, .bool bg, .int .i64 stg, .ints .u8 32 os, .ints .u8 32 op, .ints .u8 32 pe, .ints .u8 32 ms, .ints .u8 32 mp, .ints .u8 32 th]] =>
    some (.tup [.ro true .u8 (Cp.hiW key ha n x), .nl .nilIface], [hb key true (n + 1) ch (S2.shortW (ha ++ Cp.hiW key ha n x)) bg stg os op pe ms mp th], decide (ha.length = 32) && decide (0 ≤ n) && decide (n < 4294967295) && decide (x.length ≤ 1048576))
  | _, _ => none
noncomputable def hideE : Entry Tryz.prog := .mut 52 _ Tryz.func52 (by decide) rfl Cp.pickS 0 hideF fun vs h0 v h1 e => by
  unfold hideF at e
  split at e
  · simp only [Option.some.injEq, Prod.mk.injEq, Bool.and_eq_true, decide_eq_true_eq] at e
    obtain ⟨rfl, rfl, ⟨⟨h1, h2⟩, h3⟩, h4⟩ := e
    exact hide_fn h1 h2 h3 h4
  · cases e
noncomputable def showF : List SV → List Blk → Option (SV × List Blk × Bool)
  | [.ptr 0 0 0, .ro false .u8 x], [.b [.ints .u8 32 key, .bool true, .int .i64 n, .ints .u8 32 ch, .ints .u8 32 ha, .bool bg, .int .i64 stg, .ints .u8 32 os, .ints .u8 32 op, .ints .u8 32 pe, .ints .u8 32 ms, .ints .u8 32 mp, .ints .u8 32 th]] =>
    some (.tup [.ro true .u8 (Ae.openW key (Ae.nonceW n) x), .nl .nilIface], [hb key true (n + 1) ch (S2.shortW (ha ++ x)) bg stg os op pe ms mp th], decide (ha.length = 32) && decide (0 ≤ n) && decide (n < 4294967295) && decide (x.length ≤ 1048592) && Ae.openB key (Ae.nonceW n) ha x)
  | _, _ => none
noncomputable def showE : Entry Tryz.prog := .mut 59 _ Tryz.func59 (by decide) rfl Cp.pickS 0 showF fun vs h0 v h1 e => by
  unfold showF at e
  split at e
  · simp only [Option.some.injEq, Prod.mk.injEq, Bool.and_eq_true, decide_eq_true_eq] at e
    obtain ⟨rfl, rfl, ⟨⟨⟨h1, h2⟩, h3⟩, h4⟩, h5⟩ := e
    exact show_fn h1 h2 h3 h4 h5
  · cases e
end Go.Proofs.YtibfpjeeanppjaaGreat.No
