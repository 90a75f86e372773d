/- This file proves the contracts of aead's low, put and of a sum's times and add. Conditions: words within their kind; pieces of 16 bytes at most. -/
import Derived.Test.YtkoohnpknhoahaaJMe
import Derived.Test.YtkoohnpknhoahaaJShG
set_option linter.all false
namespace Go.Proofs.Ytkoohnpknhoahaa.Ae
open Go Go.Sy
abbrev W (n : Int) : Int := IntKind.u64.wrap n
noncomputable def c0 : Ctr := mk (P := Try.prog) [] []
theorem c0_ok : CtrSound Try.prog c0 := mk_sound _ InlOK.nil _ _
def lowW (l : List Int) : Int := [7, 6, 5, 4, 3, 2, 1, 0].foldl (fun n i => orI .u64 (shlI .u64 n 8) (W (l.getD i 0))) 0
set_option maxRecDepth 100000 in
theorem low_fn {l : List Int} (h : 8 ≤ l.length) : FnTr Try.prog 171 [.ro false .u8 l] [] (.int .u64 (lowW l)) [] := by
  have i8 : ∀ i : Nat, i < 8 → inB (i : Int) l.length = true := fun i hi => by
    unfold inB
    simp only [Bool.and_eq_true, decide_eq_true_eq]
    omega
  have d8 : ∀ i : Nat, i < 8 → decide (i < l.length) = true := fun i hi => decide_eq_true (by omega)
  exact call0 c0_ok 200 Try.func171 (p := [7, 6, 5, 4, 3, 2, 1, 0].foldl (fun o i => andT (andT o (inB ((i : Nat) : Int) l.length)) (decide (i < l.length))) true) (by kernel_rfl)
    (by simp only [List.foldl, i8 7 (by decide), i8 6 (by decide), i8 5 (by decide), i8 4 (by decide), i8 3 (by decide), i8 2 (by decide), i8 1 (by decide), i8 0 (by decide), d8 7 (by decide), d8 6 (by decide), d8 5 (by decide), d8 4 (by decide), d8 3 (by decide), d8 2 (by decide), d8 1 (by decide), d8 0 (by decide)]; rfl) rfl
def lowF : List SV → Option (SV × List Blk × Bool)
  | [.ro false .u8 l] => some (.int .u64 (lowW l), [], decide (8 ≤ l.length))
  | _ => none
noncomputable def lowE : Entry Try.prog := .val 171 _ Try.func171 (by decide) rfl true 0 lowF fun vs v new e => by
  unfold lowF at e
  split at e
  · simp only [Option.some.injEq, Prod.mk.injEq, decide_eq_true_eq] at e
    obtain ⟨rfl, rfl, h⟩ := e
    exact low_fn h
  · cases e
def putW (n : Int) : List Int := (List.range 8).map fun i => IntKind.u8.wrap (shrI .u64 n (8 * i))
set_option maxRecDepth 100000 in
theorem put_fn (n : Int) : FnTr Try.prog 148 [.int .u64 n] [] (.ro true .u8 (putW n)) [] :=
  FnTr.frozen (N := 8) (ex := true) (wh := true) (FnTr.of_callS c0_ok Try.func148 (n := 200) (by kernel_rfl)) rfl
def putF : List SV → Option (SV × List Blk × Bool)
  | [.int .u64 n] => some (.ro true .u8 (putW n), [], true)
  | _ => none
noncomputable def putE : Entry Try.prog := .val 148 _ Try.func148 (by decide) rfl false 0 putF fun vs v new e => by
  unfold putF at e
  split at e
  · cases e; exact put_fn _
  · cases e
def g (m : List Int) (i : Nat) : Int := m.getD i 0
noncomputable def at1 (x y : Int) (m : List Int) : List Int := [g m 0, Fe.addS (g m 1) (Fe.mulL x y) 0, Fe.addS (g m 2) (Fe.mulH x y) (Fe.addC (g m 1) (Fe.mulL x y) 0), W (g m 3 + Fe.addC (g m 2) (Fe.mulH x y) (Fe.addC (g m 1) (Fe.mulL x y) 0))]
noncomputable def at2 (x y : Int) (m : List Int) : List Int := [g m 0, g m 1, Fe.addS (g m 2) (Fe.mulL x y) 0, Fe.addS (g m 3) (Fe.mulH x y) (Fe.addC (g m 2) (Fe.mulL x y) 0)]
noncomputable def atC : Ctr := mk (P := Try.prog) [Fe.add64E, Fe.mul64E] []
theorem atC_ok : CtrSound Try.prog atC := mk_sound _ InlOK.nil _ _
noncomputable def atF : List SV → List Blk → Option (SV × List Blk × Bool)
  | [.int .i64 i, .int .u64 x, .int .u64 y, .ptr 0 0 0], [.b [.ints .u64 4 m]] => bif i == 1 then some (.tup [], [.b [.ints .u64 4 (at1 x y m)]], decide (m.length = 4) && Fe.carry1 (Fe.addC (g m 1) (Fe.mulL x y) 0)) else
    bif i == 2 then some (.tup [], [.b [.ints .u64 4 (at2 x y m)]], decide (m.length = 4) && Fe.carry1 (Fe.addC (g m 2) (Fe.mulL x y) 0)) else none
  | _, _ => none
def pickA (vs : List SV) (_ : List Blk) : List Nat := match vs with
  | [_, _, _, .ptr b _ _] => [b]
  | _ => []
set_option maxRecDepth 100000 in
theorem at1_fn {x y : Int} {m : List Int} (hm : m.length = 4) (hc : Fe.carry1 (Fe.addC (g m 1) (Fe.mulL x y) 0) = true) : FnTr Try.prog 186 [.int .i64 1, .int .u64 x, .int .u64 y, .ptr 0 0 0] [.b [.ints .u64 4 m]] (.tup []) [.b [.ints .u64 4 (at1 x y m)]] := by
  have k : FnTr Try.prog 186 [.int .i64 1, .int .u64 x, .int .u64 y, .ptr 0 0 0] [.b [.ints .u64 4 (lst 4 m)]] (.tup []) [.b [.ints .u64 4 (at1 x y m)]] :=
    callM atC_ok 60 Try.func186 1 (by simp) (p := andT true (Fe.carry1 (Fe.addC (g m 1) (Fe.mulL x y) 0))) (by kernel_rfl) (by rw [hc]; rfl) rfl rfl
  rw [lst_eq hm] at k
  exact k
set_option maxRecDepth 100000 in
theorem at2_fn {x y : Int} {m : List Int} (hm : m.length = 4) (hc : Fe.carry1 (Fe.addC (g m 2) (Fe.mulL x y) 0) = true) : FnTr Try.prog 186 [.int .i64 2, .int .u64 x, .int .u64 y, .ptr 0 0 0] [.b [.ints .u64 4 m]] (.tup []) [.b [.ints .u64 4 (at2 x y m)]] := by
  have k : FnTr Try.prog 186 [.int .i64 2, .int .u64 x, .int .u64 y, .ptr 0 0 0] [.b [.ints .u64 4 (lst 4 m)]] (.tup []) [.b [.ints .u64 4 (at2 x y m)]] :=
    callM atC_ok 60 Try.func186 1 (by simp) (p := andT true (Fe.carry1 (Fe.addC (g m 2) (Fe.mulL x y) 0))) (by kernel_rfl) (by rw [hc]; rfl) rfl rfl
  rw [lst_eq hm] at k
  exact k
noncomputable def atE : Entry Try.prog := .mut 186 _ Try.func186 (by decide) rfl pickA 0 atF fun vs h0 v h1 e => by
  unfold atF at e
  split at e
  · rename_i i x y m
    by_cases h1 : i = 1
    · subst h1
      simp only [beq_self_eq_true, cond_true, Option.some.injEq, Prod.mk.injEq, Bool.and_eq_true, decide_eq_true_eq] at e
      obtain ⟨rfl, rfl, hm, hc⟩ := e
      exact at1_fn hm hc
    · rw [beq_false_of_ne h1] at e
      by_cases h2 : i = 2
      · subst h2
        simp only [beq_self_eq_true, cond_true, cond_false, Option.some.injEq, Prod.mk.injEq, Bool.and_eq_true, decide_eq_true_eq] at e
        obtain ⟨rfl, rfl, hm, hc⟩ := e
        exact at2_fn hm hc
      · rw [beq_false_of_ne h2] at e; cases e
  · cases e
end Go.Proofs.Ytkoohnpknhoahaa.Ae
