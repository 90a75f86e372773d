/- This file proves the contracts of cipher's New and Begin and of a state's MixSecret and Hash. Conditions: lengths that the program takes. -/
import Derived.Test.YtkoohnpknhoahaaJCpA
set_option linter.all false
namespace Go.Proofs.Ytkoohnpknhoahaa.Cp
open Go Go.Sy Sh
noncomputable def c0 : Ctr := mk (P := Try.prog) [] []
theorem c0_ok : CtrSound Try.prog c0 := mk_sound _ InlOK.nil _ _
def ci (key : List Int) (h : Bool) (n : Int) : Blk := .b [.ints .u8 32 key, .bool h, .int .i64 n]
set_option maxRecDepth 100000 in
theorem new_fn (key : List Int) : FnTr Try.prog 21 [.agg [.ints .u8 32 key]] [] (.ptr 0 0 0) [ci key true 0] := by
  have k : FnTr Try.prog 21 [.agg [.ints .u8 32 key]] [] (.ptr 1 0 0) [.b [.ints .u8 32 key], ci key true 0] :=
    callM c0_ok 60 Try.func21 2 (by simp) (p := true) (by kernel_rfl) rfl rfl rfl
  exact FnTr.sel [1] k (by kernel_rfl)
def newF : List SV → Option (SV × List Blk × Bool)
  | [.agg [.ints .u8 32 key]] => some (.ptr 0 0 0, [ci key true 0], true)
  | _ => none
noncomputable def newE : Entry Try.prog := .val 21 _ Try.func21 (by decide) rfl false 1 newF fun vs v new e => by
  unfold newF at e
  split at e
  · cases e; exact new_fn _
  · cases e
set_option maxRecDepth 100000 in
theorem begin_run (xs : List Int) : (callS Try.prog beC 60 Try.f34 [.str xs] []).map (fun x => x) =
    some (.ptr 2 0 0, [.b [.ro true .u8 xs], .b [.ints .u8 32 (S2.shortW [xs].flatten)], st z32 false 0 (S2.shortW [xs].flatten) (S2.shortW [xs].flatten)], andT true (andT true (decide ([xs].flatten.length < 274877900000) && true))) := by kernel_rfl
theorem begin_fn {xs : List Int} (h : xs.length < 274877900000) : FnTr Try.prog 34 [.str xs] [] (.ptr 0 0 0) [st z32 false 0 (S2.shortW xs) (S2.shortW xs)] := by
  have k := begin_run xs
  rw [show [xs].flatten = xs by simp, decide_eq_true h] at k
  obtain ⟨x, h2, h3⟩ := Option.map_eq_some_iff.1 k
  subst h3
  exact FnTr.sel [2] (FnTr.of_callS beC_ok Try.func34 h2) (by kernel_rfl)
noncomputable def beginF : List SV → Option (SV × List Blk × Bool)
  | [.str xs] => some (.ptr 0 0 0, [st z32 false 0 (S2.shortW xs) (S2.shortW xs)], decide (xs.length < 274877900000))
  | _ => none
noncomputable def beginE : Entry Try.prog := .val 34 _ Try.func34 (by decide) rfl false 1 beginF fun vs v new e => by
  unfold beginF at e
  split at e
  · simp only [Option.some.injEq, Prod.mk.injEq, decide_eq_true_eq] at e
    obtain ⟨rfl, rfl, h⟩ := e
    exact begin_fn h
  · cases e
noncomputable def mcC : Ctr := mk (P := Try.prog) [Kd.extractE, twoE, newE] []
theorem mcC_ok : CtrSound Try.prog mcC := mk_sound _ InlOK.nil _ _
noncomputable def mcO (ch m : List Int) : Bool := andT (andT true (andT (andT (decide (ch.length = 32) && true) (decide (ch.length = 32))) (decide (ch.length < 274877900000) && decide (m.length < 274877890000)))) (andT true (decide ((Kd.tagW ch m).length = 32)))
set_option maxRecDepth 100000 in
theorem mixSecret_fn {key ch ha m : List Int} {h : Bool} {n : Int} (hc : ch.length = 32) (hm : m.length < 274877890000) : FnTr Try.prog 36 [.ptr 0 0 0, .ro false .u8 m] [st key h n ch ha] (.tup []) [st (tw2 (Kd.tagW ch m)) true 0 (tw1 (Kd.tagW ch m)) ha] :=
  callM mcC_ok 60 Try.func36 1 (by simp) (p := mcO ch m) (by kernel_rfl) (by
    unfold mcO
    rw [hc, Kd.tagW_len, decide_eq_true hm]
    rfl) rfl rfl
noncomputable def mixSecretF : List SV → List Blk → Option (SV × List Blk × Bool)
  | [.ptr 0 0 0, .ro false .u8 m], [.b [.ints .u8 32 key, .bool h, .int .i64 n, .ints .u8 32 ch, .ints .u8 32 ha]] => some (.tup [], [st (tw2 (Kd.tagW ch m)) true 0 (tw1 (Kd.tagW ch m)) ha], decide (ch.length = 32) && decide (m.length < 274877890000))
  | _, _ => none
noncomputable def mixSecretE : Entry Try.prog := .mut 36 _ Try.func36 (by decide) rfl pickS 0 mixSecretF fun vs h0 v h1 e => by
  unfold mixSecretF at e
  split at e
  · simp only [Option.some.injEq, Prod.mk.injEq, Bool.and_eq_true, decide_eq_true_eq] at e
    obtain ⟨rfl, rfl, h1, h2⟩ := e
    exact mixSecret_fn h1 h2
  · cases e
end Go.Proofs.Ytkoohnpknhoahaa.Cp
