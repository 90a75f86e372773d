/- This file holds the texts BnF, BnP, a section each. No conditions beyond those in the theorems. -/
import Derived.Test.YtibfpjeeanppjaaGreatXShG
set_option linter.all false
set_option maxRecDepth 100000
section
namespace Go.Proofs.YtibfpjeeanppjaaGreat.Bn
open Go Go.Sy Sh
noncomputable def nmC : br := mk (P := Tryz.prog) [] []
theorem fD : ag Tryz.prog nmC := ah _ aq.nil _ _
noncomputable def ZF : List SV → Option (SV × List Blk × Bool)
  | [.nl .nilIface] => some (.int .i64 0, [], true)
  | [.iface 78 (.int .i64 1)] => some (.int .i64 1, [], true)
  | [.iface 78 (.int .i64 2)] => some (.int .i64 2, [], true)
  | [.iface 78 (.int .i64 3)] => some (.int .i64 3, [], true)
  | [.iface 78 (.int .i64 4)] => some (.int .i64 4, [], true)
  | [.iface 78 (.int .i64 5)] => some (.int .i64 5, [], true)
  | [.iface 78 (.int .i64 6)] => some (.int .i64 6, [], true)
  | [.iface 78 (.int .i64 7)] => some (.int .i64 7, [], true)
  | [.iface 78 (.int .i64 8)] => some (.int .i64 8, [], true)
  | [.iface 78 (.int .i64 9)] => some (.int .i64 9, [], true)
  | [.iface 78 (.int .i64 10)] => some (.int .i64 10, [], true)
  | [.iface 78 (.int .i64 11)] => some (.int .i64 11, [], true)
  | [.iface 78 (.int .i64 12)] => some (.int .i64 12, [], true)
  | _ => none
noncomputable def afe : Entry Tryz.prog := .val 15 _ Tryz.func15 (by decide) rfl false 0 ZF fun vs v new e => by
  unfold ZF at e
  split at e
  · cases e; exact aG fD 60 Tryz.func15 (p := true) (by kernel_rfl) rfl rfl
  · cases e; exact aG fD 60 Tryz.func15 (p := true) (by kernel_rfl) rfl rfl
  · cases e; exact aG fD 60 Tryz.func15 (p := true) (by kernel_rfl) rfl rfl
  · cases e; exact aG fD 60 Tryz.func15 (p := true) (by kernel_rfl) rfl rfl
  · cases e; exact aG fD 60 Tryz.func15 (p := true) (by kernel_rfl) rfl rfl
  · cases e; exact aG fD 60 Tryz.func15 (p := true) (by kernel_rfl) rfl rfl
  · cases e; exact aG fD 60 Tryz.func15 (p := true) (by kernel_rfl) rfl rfl
  · cases e; exact aG fD 60 Tryz.func15 (p := true) (by kernel_rfl) rfl rfl
  · cases e; exact aG fD 60 Tryz.func15 (p := true) (by kernel_rfl) rfl rfl
  · cases e; exact aG fD 60 Tryz.func15 (p := true) (by kernel_rfl) rfl rfl
  · cases e; exact aG fD 60 Tryz.func15 (p := true) (by kernel_rfl) rfl rfl
  · cases e; exact aG fD 60 Tryz.func15 (p := true) (by kernel_rfl) rfl rfl
  · cases e; exact aG fD 60 Tryz.func15 (p := true) (by kernel_rfl) rfl rfl
  · cases e
def U3 (xs ys : List Int) : Bool := aa (aa true (aa (aa true (true && decide (xs.length = xs.length))) (bU xs))) (aa (aa true (true && decide (ys.length = ys.length))) (bU ys))
theorem OF {xs ys : List Int} (h1 : bU xs = true) (h2 : bU ys = true) : ai Tryz.prog 14 [.ro false .u8 xs, .ro false .u8 ys] [] (.bool (decide (xs = ys))) [] :=
  aG fD 60 Tryz.func14 (p := U3 xs ys) (by kernel_rfl) (by unfold U3; rw [h1, h2, decide_eq_true (rfl : xs.length = xs.length), decide_eq_true (rfl : ys.length = ys.length)]; rfl) rfl
def akg : SV → Option (List Int)
  | .ro false .u8 xs => some xs
  | .nl (.slice none 0 0) => some []
  | _ => none
noncomputable def SS : List SV → Option (SV × List Blk × Bool)
  | [.ro false .u8 xs, .ro false .u8 ys] => some (.bool (decide (xs = ys)), [], bU xs && bU ys)
  | [.nl (.slice none 0 0), .nl (.slice none 0 0)] => some (.bool true, [], true)
  | _ => none
noncomputable def ZG : Entry Tryz.prog := .val 14 _ Tryz.func14 (by decide) rfl true 0 SS fun vs v new e => by
  unfold SS at e
  split at e
  · simp only [Option.some.injEq, Prod.mk.injEq, Bool.and_eq_true] at e
    obtain ⟨rfl, rfl, h1, h2⟩ := e
    exact OF h1 h2
  · cases e; exact aG fD 60 Tryz.func14 (p := true) (by kernel_rfl) rfl rfl
  · cases e
def adZ : List SV → List Blk → Option (SV × Bool)
  | [.ptr 0 0 0], [.b [.ints .u8 32 key, .bool true, .int .i64 n]] => some (.int .i64 n, true)
  | _, _ => none
def SU (vs : List SV) : List Nat := match vs with
  | .ptr b _ _ :: _ => [b]
  | _ => []
end Go.Proofs.YtibfpjeeanppjaaGreat.Bn
end
section
namespace Go.Proofs.YtibfpjeeanppjaaGreat.Bn
open Go Go.Sy Sh
def SW (h : List Blk) (b : Nat) : List Nat := match h[b]? with
  | some (.b ps) => ps.filterMap fun p => match p with
    | .sl c _ _ _ _ _ _ _ => some c
    | _ => none
  | _ => []
def SE (vs : List SV) (h : List Blk) : List Nat := match vs with
  | [.sl b _ _ _ _ _ _ _] => b :: SW h b
  | _ => []
end Go.Proofs.YtibfpjeeanppjaaGreat.Bn
end
