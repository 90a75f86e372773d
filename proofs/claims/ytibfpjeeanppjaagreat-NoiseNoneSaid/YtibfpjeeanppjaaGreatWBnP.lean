/- This file holds the texts BnF, BnP, a section each. No conditions beyond those in the theorems. -/
import Derived.Test.YtibfpjeeanppjaaGreatWShG
set_option linter.all false
set_option maxRecDepth 100000
section
namespace Go.Proofs.YtibfpjeeanppjaaGreat.Bn
open Go Go.Sy Sh
noncomputable def nmC : Ctr := mk (P := Tryz.prog) [] []
theorem nmC_ok : CtrSound Tryz.prog nmC := mk_sound _ InlOK.nil _ _
noncomputable def numF : List SV → Option (SV × List Blk × Bool)
  | [.nl .nilIface] => some (.int .i64 0, [], true)
  | [.iface 78 (.int .i64 1)] => some (.int .i64 1, [], true)
  | [.iface 78 (.int .i64 2)] => some (.int .i64 2, [], true)
  | [.iface 78 (.int .i64 3)] => some (.int .i64 3, [], true)
  | [.iface 78 (.int .i64 4)] => some (.int .i64 4, [], true)
  | [.iface 78 (.int .i64 5)] => some (.int .i64 5, [], true)
  | [.iface 78 (.int .i64 6)] => some (.int .i64 6, [], true)
  | [.iface 78 (.int .i64 7)] => some (.int .i64 7, [], true)
  | [.iface 78 (.int .i64 8)] => some (.int .i64 8, [], true)
  | [.iface 78 (.int .i64 9)] => some (.int .i64 9, [], true)
  | [.iface 78 (.int .i64 10)] => some (.int .i64 10, [], true)
  | [.iface 78 (.int .i64 11)] => some (.int .i64 11, [], true)
  | [.iface 78 (.int .i64 12)] => some (.int .i64 12, [], true)
  | _ => none
noncomputable def numE : Entry Tryz.prog := .val 15 _ Tryz.func15 (by decide) rfl false 0 numF fun vs v new e => by
  unfold numF at e
  split at e
  · cases e; exact call0 nmC_ok 60 Tryz.func15 (p := true) (by kernel_rfl) rfl rfl
  · cases e; exact call0 nmC_ok 60 Tryz.func15 (p := true) (by kernel_rfl) rfl rfl
  · cases e; exact call0 nmC_ok 60 Tryz.func15 (p := true) (by kernel_rfl) rfl rfl
  · cases e; exact call0 nmC_ok 60 Tryz.func15 (p := true) (by kernel_rfl) rfl rfl
  · cases e; exact call0 nmC_ok 60 Tryz.func15 (p := true) (by kernel_rfl) rfl rfl
  · cases e; exact call0 nmC_ok 60 Tryz.func15 (p := true) (by kernel_rfl) rfl rfl
  · cases e; exact call0 nmC_ok 60 Tryz.func15 (p := true) (by kernel_rfl) rfl rfl
  · cases e; exact call0 nmC_ok 60 Tryz.func15 (p := true) (by kernel_rfl) rfl rfl
  · cases e; exact call0 nmC_ok 60 Tryz.func15 (p := true) (by kernel_rfl) rfl rfl
  · cases e; exact call0 nmC_ok 60 Tryz.func15 (p := true) (by kernel_rfl) rfl rfl
  · cases e; exact call0 nmC_ok 60 Tryz.func15 (p := true) (by kernel_rfl) rfl rfl
  · cases e; exact call0 nmC_ok 60 Tryz.func15 (p := true) (by kernel_rfl) rfl rfl
  · cases e; exact call0 nmC_ok 60 Tryz.func15 (p := true) (by kernel_rfl) rfl rfl
  · cases e
def smO (xs ys : List Int) : Bool := andT (andT true (andT (andT true (true && decide (xs.length = xs.length))) (u8R xs))) (andT (andT true (true && decide (ys.length = ys.length))) (u8R ys))
theorem same_fn {xs ys : List Int} (h1 : u8R xs = true) (h2 : u8R ys = true) : FnTr Tryz.prog 14 [.ro false .u8 xs, .ro false .u8 ys] [] (.bool (decide (xs = ys))) [] :=
  call0 nmC_ok 60 Tryz.func14 (p := smO xs ys) (by kernel_rfl) (by unfold smO; rw [h1, h2, decide_eq_true (rfl : xs.length = xs.length), decide_eq_true (rfl : ys.length = ys.length)]; rfl) rfl
def nilS : SV → Option (List Int)
  | .ro false .u8 xs => some xs
  | .nl (.slice none 0 0) => some []
  | _ => none
noncomputable def sameF : List SV → Option (SV × List Blk × Bool)
  | [.ro false .u8 xs, .ro false .u8 ys] => some (.bool (decide (xs = ys)), [], u8R xs && u8R ys)
  | [.nl (.slice none 0 0), .nl (.slice none 0 0)] => some (.bool true, [], true)
  | _ => none
noncomputable def sameE : Entry Tryz.prog := .val 14 _ Tryz.func14 (by decide) rfl true 0 sameF fun vs v new e => by
  unfold sameF at e
  split at e
  · simp only [Option.some.injEq, Prod.mk.injEq, Bool.and_eq_true] at e
    obtain ⟨rfl, rfl, h1, h2⟩ := e
    exact same_fn h1 h2
  · cases e; exact call0 nmC_ok 60 Tryz.func14 (p := true) (by kernel_rfl) rfl rfl
  · cases e
def numberF : List SV → List Blk → Option (SV × Bool)
  | [.ptr 0 0 0], [.b [.ints .u8 32 key, .bool true, .int .i64 n]] => some (.int .i64 n, true)
  | _, _ => none
def pickP (vs : List SV) : List Nat := match vs with
  | .ptr b _ _ :: _ => [b]
  | _ => []
end Go.Proofs.YtibfpjeeanppjaaGreat.Bn
end
section
namespace Go.Proofs.YtibfpjeeanppjaaGreat.Bn
open Go Go.Sy Sh
def contB (h : List Blk) (b : Nat) : List Nat := match h[b]? with
  | some (.b ps) => ps.filterMap fun p => match p with
    | .sl c _ _ _ _ _ _ _ => some c
    | _ => none
  | _ => []
def pickA (vs : List SV) (h : List Blk) : List Nat := match vs with
  | [.sl b _ _ _ _ _ _ _] => b :: contB h b
  | _ => []
end Go.Proofs.YtibfpjeeanppjaaGreat.Bn
end
