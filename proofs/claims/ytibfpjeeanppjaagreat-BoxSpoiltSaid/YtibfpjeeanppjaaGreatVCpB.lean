/- This file holds the texts CpA, CpB, a section each. No conditions beyond those in the theorems. -/
import Derived.Test.YtibfpjeeanppjaaGreatVKdD
import Derived.Test.YtibfpjeeanppjaaGreatVAeF
set_option linter.all false
set_option maxRecDepth 100000
section
namespace Go.Proofs.YtibfpjeeanppjaaGreat.Cp
open Go Go.Sy Sh
noncomputable def tw1 (s : List Int) : List Int := (Kd.expandW s [] 64).take 32
noncomputable def tw2 (s : List Int) : List Int := (Kd.expandW s [] 64).drop 32
noncomputable def twoF : List SV → Option (SV × List Blk × Bool)
  | [.agg [.ints .u8 32 s]] => some (.tup [.agg [.ints .u8 32 (tw1 s)], .agg [.ints .u8 32 (tw2 s)]], [], decide (s.length = 32))
  | _ => none
def st (key : List Int) (h : Bool) (n : Int) (ch ha : List Int) : Blk := .b [.ints .u8 32 key, .bool h, .int .i64 n, .ints .u8 32 ch, .ints .u8 32 ha]
noncomputable def z32 : List Int := List.replicate 32 0
noncomputable def beC : Ctr := mk (P := Tryz.prog) [S2.shortE] []
theorem beC_ok : CtrSound Tryz.prog beC := mk_sound _ InlOK.nil _ _
def pickS (vs : List SV) (_ : List Blk) : List Nat := match vs with
  | .ptr b _ _ :: _ => [b]
  | _ => []
noncomputable def inlH : List (FuncId × Func) := [(84, Tryz.f84), (94, Tryz.f94), (125, Tryz.f125), (49, Tryz.f49)]
theorem inlH_ok : InlOK Tryz.prog inlH := InlOK.cons Tryz.func84 (by decide) (InlOK.cons Tryz.func94 (by decide) (InlOK.cons Tryz.func125 (by decide) (InlOK.cons Tryz.func49 (by decide) InlOK.nil)))
noncomputable def shC : Ctr := mk (P := Tryz.prog) [S2.shortE, Ae.openE true, Ae.nonceE] inlH fun i => if i = 25 then some false else none
theorem shC_ok : CtrSound Tryz.prog shC := mk_sound _ inlH_ok _ _
section
variable (key ch ha text : List Int) (h : Bool) (n : Int)
end
end Go.Proofs.YtibfpjeeanppjaaGreat.Cp
end
section
namespace Go.Proofs.YtibfpjeeanppjaaGreat.Cp
open Go Go.Sy Sh
noncomputable def c0 : Ctr := mk (P := Tryz.prog) [] []
theorem c0_ok : CtrSound Tryz.prog c0 := mk_sound _ InlOK.nil _ _
def ci (key : List Int) (h : Bool) (n : Int) : Blk := .b [.ints .u8 32 key, .bool h, .int .i64 n]
theorem new_fn (key : List Int) : FnTr Tryz.prog 124 [.agg [.ints .u8 32 key]] [] (.ptr 0 0 0) [ci key true 0] := by
  have k : FnTr Tryz.prog 124 [.agg [.ints .u8 32 key]] [] (.ptr 1 0 0) [.b [.ints .u8 32 key], ci key true 0] :=
    callM c0_ok 60 Tryz.func124 2 (by simp) (p := true) (by kernel_rfl) rfl rfl rfl
  exact FnTr.sel [1] k (by kernel_rfl)
def newF : List SV → Option (SV × List Blk × Bool)
  | [.agg [.ints .u8 32 key]] => some (.ptr 0 0 0, [ci key true 0], true)
  | _ => none
noncomputable def newE : Entry Tryz.prog := .val 124 _ Tryz.func124 (by decide) rfl false 1 newF fun vs v new e => by
  unfold newF at e
  split at e
  · cases e; exact new_fn _
  · cases e
theorem begin_run (xs : List Int) : (callS Tryz.prog beC 60 Tryz.f48 [.str xs] []).map (fun x => x) =
    some (.ptr 2 0 0, [.b [.ro true .u8 xs], .b [.ints .u8 32 (S2.shortW [xs].flatten)], st z32 false 0 (S2.shortW [xs].flatten) (S2.shortW [xs].flatten)], andT true (andT true (decide ([xs].flatten.length < 274877900000) && true))) := by kernel_rfl
theorem begin_fn {xs : List Int} (h : xs.length < 274877900000) : FnTr Tryz.prog 48 [.str xs] [] (.ptr 0 0 0) [st z32 false 0 (S2.shortW xs) (S2.shortW xs)] := by
  have k := begin_run xs
  rw [show [xs].flatten = xs by simp, decide_eq_true h] at k
  obtain ⟨x, h2, h3⟩ := Option.map_eq_some_iff.1 k
  subst h3
  exact FnTr.sel [2] (FnTr.of_callS beC_ok Tryz.func48 h2) (by kernel_rfl)
noncomputable def beginF : List SV → Option (SV × List Blk × Bool)
  | [.str xs] => some (.ptr 0 0 0, [st z32 false 0 (S2.shortW xs) (S2.shortW xs)], decide (xs.length < 274877900000))
  | _ => none
noncomputable def beginE : Entry Tryz.prog := .val 48 _ Tryz.func48 (by decide) rfl false 1 beginF fun vs v new e => by
  unfold beginF at e
  split at e
  · simp only [Option.some.injEq, Prod.mk.injEq, decide_eq_true_eq] at e
    obtain ⟨rfl, rfl, h⟩ := e
    exact begin_fn h
  · cases e
end Go.Proofs.YtibfpjeeanppjaaGreat.Cp
end
