/- This file proves the contracts of the reference's Leaves and Children, by running them on all numbers that are asked. Conditions: numbers below 72 and 64. -/
import Derived.Test.YtkcmlclomcidiaaDoorATrZ
set_option linter.all false
namespace Go.Proofs.YtkcmlclomcidiaaDoor.Tr
open Go Go.Sy
def runI : Option (SV × List Blk × Bool) → Option (Int × Bool)
  | some (.int .i64 a, [], p) => some (a, p)
  | _ => none
theorem runI_eq {r : Option (SV × List Blk × Bool)} {a : Int} {p : Bool} (h : runI r = some (a, p)) : r = some (.int .i64 a, [], p) := by
  unfold runI at h
  split at h
  · simp only [Option.some.injEq, Prod.mk.injEq] at h
    obtain ⟨rfl, rfl⟩ := h
    rfl
  · cases h
def runII : Option (SV × List Blk × Bool) → Option (Int × Int × Bool)
  | some (.tup [.int .i64 a, .int .i64 b], [], p) => some (a, b, p)
  | _ => none
theorem runII_eq {r : Option (SV × List Blk × Bool)} {a b : Int} {p : Bool} (h : runII r = some (a, b, p)) : r = some (.tup [.int .i64 a, .int .i64 b], [], p) := by
  unfold runII at h
  split at h
  · simp only [Option.some.injEq, Prod.mk.injEq] at h
    obtain ⟨rfl, rfl, rfl⟩ := h
    rfl
  · cases h
theorem rLeaves_all : ((List.range 72).all fun N => decide (runI (callS Tryd.prog (mk (P := Tryd.prog) [] []) 60 Tryd.f32 [.int .i64 ((N : Nat) : Int)] []) = some (leavesV ((N : Nat) : Int), true))) = true := by kernel_rfl
theorem rLeaves_fn {N : Nat} (h : N < 72) : FnTr Tryd.prog 32 [.int .i64 ((N : Nat) : Int)] [] (.int .i64 (leavesV ((N : Nat) : Int))) [] :=
  FnTr.of_callS noC_ok Tryd.func32 (runI_eq (of_decide_eq_true (List.all_eq_true.1 rLeaves_all N (List.mem_range.2 h))))
noncomputable def rlInl : List (FuncId × Func) := [(71, Tryd.f71)]
theorem rlInl_ok : InlOK Tryd.prog rlInl := InlOK.cons Tryd.func71 (by decide) InlOK.nil
noncomputable def rlC : Ctr := mk (P := Tryd.prog) [] rlInl fun _ => none
theorem rlC_ok : CtrSound Tryd.prog rlC := mk_sound _ rlInl_ok _ _
theorem rChildren_all : ((List.range 64).all fun x => decide (runII (callS Tryd.prog rlC 60 Tryd.f57 [.int .i64 ((x : Nat) : Int)] []) = some (leftV ((x : Nat) : Int), rightV ((x : Nat) : Int), true))) = true := by kernel_rfl
theorem rChildren_fn {x : Nat} (h : x < 64) : FnTr Tryd.prog 57 [.int .i64 ((x : Nat) : Int)] [] (.tup [.int .i64 (leftV ((x : Nat) : Int)), .int .i64 (rightV ((x : Nat) : Int))]) [] :=
  FnTr.of_callS rlC_ok Tryd.func57 (runII_eq (of_decide_eq_true (List.all_eq_true.1 rChildren_all x (List.mem_range.2 h))))
end Go.Proofs.YtkcmlclomcidiaaDoor.Tr
