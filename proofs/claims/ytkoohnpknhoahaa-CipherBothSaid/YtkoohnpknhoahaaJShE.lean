/- This file proves the contracts of slices.Clone, sha's length and padded. Conditions: lengths that memory bears. -/
import Derived.Test.YtkoohnpknhoahaaJShD
set_option linter.all false
namespace Go.Sy
open Go
variable {P : Program}
theorem FnTr.split {f : FuncId} {args : List SV} {h h1 : List Blk} {v : SV} {k : IntKind} {xs : List Int} (g1 : 0 < xs.length → FnTr P f (.ro false k xs :: args) h v h1)
    (g2 : xs = [] → FnTr P f (.nl (.slice none 0 0) :: args) h v h1) (g3 : xs = [] → ∀ a c, FnTr P f (.nl (.slice (some a) 0 c) :: args) h v h1) : FnTr P f (.ro false k xs :: args) h v h1 := by
  by_cases hx : xs = []
  · intro B e w args' hB hl R
    obtain ⟨y, zs, h1, h2, rfl⟩ := hl
    rcases h1 with ⟨_, a, cap, rfl, ha⟩ | ⟨n, o, cap, c, t, fr, rfl, _⟩
    · cases a with
      | none =>
        obtain rfl := ha rfl
        exact g2 hx B e w _ hB ⟨.slice none 0 0, _, rfl, h2, rfl⟩ R
      | some a => exact g3 hx a cap B e w _ hB ⟨_, _, rfl, h2, rfl⟩ R
    · subst hx
      exact g3 rfl _ cap B e w _ hB ⟨_, _, rfl, h2, rfl⟩ R
  · exact g1 (List.length_pos_iff.2 hx)
end Go.Sy
namespace Go.Proofs.Ytkoohnpknhoahaa.Sh
open Go Go.Sy
theorem clone_fn {xs : List Int} (h : xs.length ≤ 274877906944) : FnTr Try.prog 114 [.ro false .u8 xs] [] (.sl 0 0 0 1 xs.length xs.length false true) [.b [.ints .u8 xs.length xs]] := by
  refine FnTr.split (fun h0 => ?_) (fun hx => ?_) (fun hx a c => ?_)
  · have k : (callS Try.prog (mk (P := Try.prog) [] []) 60 Try.f114 [.ro false .u8 xs] []).map (fun x => x) =
        some (.sl 0 0 0 1 (0 + xs.length) (0 + xs.length) false true, [.b [.ints .u8 (0 + xs.length) (List.replicate 0 0 ++ xs)]], andT (andT true (decide (0 < xs.length))) (andT true (decide (0 + xs.length ≤ 2 ^ 38)))) := by kernel_rfl
    rw [Nat.zero_add, decide_eq_true h0, decide_eq_true (show xs.length ≤ 2 ^ 38 by omega)] at k
    obtain ⟨x, h2, h3⟩ := Option.map_eq_some_iff.1 k
    subst h3
    exact FnTr.of_callS ctr0 Try.func114 h2
  · subst hx
    exact (call0 ctr0 60 Try.func114 (v := .nl (.slice none 0 0)) (p := true) (by kernel_rfl) rfl rfl).empty .u8 false true
  · subst hx
    have k : callS Try.prog (mk (P := Try.prog) [] []) 60 Try.f114 [.nl (.slice (some a) 0 c)] [] = some (.sl 0 0 0 1 0 0 false true, [.b [.ints .u8 0 []]], true) := by kernel_rfl
    exact FnTr.of_callS ctr0 Try.func114 k
def cloneF : List SV → Option (SV × List Blk × Bool)
  | [.ro false .u8 xs] => some (.sl 0 0 0 1 xs.length xs.length false true, [.b [.ints .u8 xs.length xs]], decide (xs.length ≤ 274877906944))
  | _ => none
noncomputable def cloneE : Entry Try.prog := .val 114 _ Try.func114 (by decide) rfl true 1 cloneF fun vs v new e => by
  unfold cloneF at e
  split at e
  · simp only [Option.some.injEq, Prod.mk.injEq, decide_eq_true_eq] at e
    obtain ⟨rfl, rfl, h⟩ := e
    exact clone_fn h
  · cases e
def lnB (n : Int) (i : Nat) : Int := IntKind.u8.wrap (shrI .u64 (shlI .u64 (W n) 3) (8 * i))
def len16 (n : Int) : List Int := [0, 0, 0, 0, 0, 0, 0, IntKind.u8.wrap (shrI .u64 (W n) 61), lnB n 7, lnB n 6, lnB n 5, lnB n 4, lnB n 3, lnB n 2, lnB n 1, lnB n 0]
def len8 (n : Int) : List Int := [lnB n 7, lnB n 6, lnB n 5, lnB n 4, lnB n 3, lnB n 2, lnB n 1, lnB n 0]
set_option maxRecDepth 100000 in
theorem len_fn (n : Int) : FnTr Try.prog 162 [.int .i64 n, .int .i64 16] [] (.ro true .u8 (len16 n)) [] :=
  FnTr.frozen (N := 16) (ex := true) (wh := true) (FnTr.of_callS ctr0 Try.func162 (n := 200) (by kernel_rfl)) rfl
set_option maxRecDepth 100000 in
theorem len_fn8 (n : Int) : FnTr Try.prog 162 [.int .i64 n, .int .i64 8] [] (.ro true .u8 (len8 n)) [] :=
  FnTr.frozen (N := 8) (ex := true) (wh := true) (FnTr.of_callS ctr0 Try.func162 (n := 200) (by kernel_rfl)) rfl
def lenF : List SV → Option (SV × List Blk × Bool)
  | [.int .i64 n, .int .i64 m] => bif m == 16 then some (.ro true .u8 (len16 n), [], true) else bif m == 8 then some (.ro true .u8 (len8 n), [], true) else none
  | _ => none
noncomputable def lenE : Entry Try.prog := .val 162 _ Try.func162 (by decide) rfl false 0 lenF fun vs v new e => by
  unfold lenF at e
  split at e
  · rename_i n m
    by_cases h1 : m = 16
    · subst h1; cases e; exact len_fn n
    · rw [beq_false_of_ne h1] at e
      by_cases h2 : m = 8
      · subst h2; cases e; exact len_fn8 n
      · rw [beq_false_of_ne h2] at e; cases e
  · cases e
end Go.Proofs.Ytkoohnpknhoahaa.Sh
