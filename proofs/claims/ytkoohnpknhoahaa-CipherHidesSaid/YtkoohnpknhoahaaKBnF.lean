/- This file proves the contracts of burrownum's Num and Same and of a cipher's Number. Conditions: texts of bytes. -/
import Derived.Test.YtkoohnpknhoahaaKBnE
set_option linter.all false
namespace Go.Proofs.Ytkoohnpknhoahaa.Bn
open Go Go.Sy Sh
noncomputable def nmC : Ctr := mk (P := Try.prog) [] []
theorem nmC_ok : CtrSound Try.prog nmC := mk_sound _ InlOK.nil _ _
noncomputable def numF : List SV → Option (SV × List Blk × Bool)
  | [.nl .nilIface] => some (.int .i64 0, [], true)
  | [.iface 76 (.int .i64 2)] => some (.int .i64 2, [], true)
  | [.iface 76 (.int .i64 8)] => some (.int .i64 8, [], true)
  | _ => none
set_option maxRecDepth 100000 in
noncomputable def numE : Entry Try.prog := .val 29 _ Try.func29 (by decide) rfl false 0 numF fun vs v new e => by
  unfold numF at e
  split at e
  · cases e; exact call0 nmC_ok 60 Try.func29 (p := true) (by kernel_rfl) rfl rfl
  · cases e; exact call0 nmC_ok 60 Try.func29 (p := true) (by kernel_rfl) rfl rfl
  · cases e; exact call0 nmC_ok 60 Try.func29 (p := true) (by kernel_rfl) rfl rfl
  · cases e
def smO (xs ys : List Int) : Bool := andT (andT true (andT (andT true (true && decide (xs.length = xs.length))) (u8R xs))) (andT (andT true (true && decide (ys.length = ys.length))) (u8R ys))
set_option maxRecDepth 100000 in
theorem same_fn {xs ys : List Int} (h1 : u8R xs = true) (h2 : u8R ys = true) : FnTr Try.prog 30 [.ro false .u8 xs, .ro false .u8 ys] [] (.bool (decide (xs = ys))) [] :=
  call0 nmC_ok 60 Try.func30 (p := smO xs ys) (by kernel_rfl) (by unfold smO; rw [h1, h2, decide_eq_true (rfl : xs.length = xs.length), decide_eq_true (rfl : ys.length = ys.length)]; rfl) rfl
def nilS : SV → Option (List Int)
  | .ro false .u8 xs => some xs
  | .nl (.slice none 0 0) => some []
  | _ => none
noncomputable def sameF : List SV → Option (SV × List Blk × Bool)
  | [.ro false .u8 xs, .ro false .u8 ys] => some (.bool (decide (xs = ys)), [], u8R xs && u8R ys)
  | [.nl (.slice none 0 0), .nl (.slice none 0 0)] => some (.bool true, [], true)
  | _ => none
set_option maxRecDepth 100000 in
noncomputable def sameE : Entry Try.prog := .val 30 _ Try.func30 (by decide) rfl true 0 sameF fun vs v new e => by
  unfold sameF at e
  split at e
  · simp only [Option.some.injEq, Prod.mk.injEq, Bool.and_eq_true] at e
    obtain ⟨rfl, rfl, h1, h2⟩ := e
    exact same_fn h1 h2
  · cases e; exact call0 nmC_ok 60 Try.func30 (p := true) (by kernel_rfl) rfl rfl
  · cases e
def ciph (key : List Int) (n : Int) : Blk := .b [.ints .u8 32 key, .bool true, .int .i64 n]
def numberF : List SV → List Blk → Option (SV × Bool)
  | [.ptr 0 0 0], [.b [.ints .u8 32 key, .bool true, .int .i64 n]] => some (.int .i64 n, true)
  | _, _ => none
def pickP (vs : List SV) : List Nat := match vs with
  | .ptr b _ _ :: _ => [b]
  | _ => []
set_option maxRecDepth 100000 in
theorem number_fn (key : List Int) (n : Int) : FnTr Try.prog 31 [.ptr 0 0 0] [ciph key n] (.int .i64 n) [ciph key n] :=
  callM nmC_ok 60 Try.func31 1 (by simp) (p := true) (by kernel_rfl) rfl rfl rfl
noncomputable def numberE : Entry Try.prog := .rdm 31 _ Try.func31 (by decide) rfl pickP numberF fun vs h0 v e => by
  unfold numberF at e
  split at e
  · simp only [Option.some.injEq, Prod.mk.injEq, and_true] at e
    subst e
    exact number_fn _ _
  · cases e
end Go.Proofs.Ytkoohnpknhoahaa.Bn
