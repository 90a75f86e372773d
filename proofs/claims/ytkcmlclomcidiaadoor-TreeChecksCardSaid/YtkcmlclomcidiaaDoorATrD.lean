/- This file proves the contracts of slices' Index, Contains, Equal and IsSorted for numbers. Conditions: lengths that a machine bears. -/
import Derived.Test.YtkcmlclomcidiaaDoorATrC
import Derived.Test.YtkcmlclomcidiaaDoorASxD
set_option linter.all false
set_option maxRecDepth 100000
namespace Go.Proofs.YtkcmlclomcidiaaDoor.Tr
open Go Go.Sy
theorem wrapI {n : Int} (h0 : -4611686018427387904 ≤ n) (h1 : n < 4611686018427387904) : IntKind.i64.wrap n = n := IntWalk.i64_in n (by omega)
theorem wrapS {i : Nat} (h : i < 274877906944 + 2) : IntKind.i64.wrap ((i : Int) + 1) = ((i + 1 : Nat) : Int) := by
  rw [wrapI (by omega) (by omega)]; omega
theorem inBt {i : Int} {n : Nat} (h0 : 0 ≤ i) (h1 : i < n) : inB i n = true := by
  unfold inB
  simp only [Bool.and_eq_true, decide_eq_true_eq]
  omega
theorem inBN {i n : Nat} (h : i < n) : inB (i : Int) n = true := inBt (by omega) (by omega)
theorem ltN {i n : Nat} (h : i < n) : decide ((i : Int) < (n : Int)) = true := decide_eq_true (by omega)
theorem nltN {i n : Nat} (h : n ≤ i) : decide ((i : Int) < (n : Int)) = false := decide_eq_false (by omega)
theorem getD_get {l : List Int} {i : Nat} (h : i < l.length) : l.getD i 0 = l[i] := by simp [List.getD, List.getElem?_eq_getElem h]
theorem range_all_list {l : List Int} {p : Int → Bool} : (List.range l.length).all (fun i => p (l.getD i 0)) = l.all p := by
  rw [Bool.eq_iff_iff, List.all_eq_true, List.all_eq_true]
  constructor
  · intro h x hx
    obtain ⟨i, hi, rfl⟩ := List.getElem_of_mem hx
    have := h i (List.mem_range.2 hi)
    rwa [getD_get hi] at this
  · intro h i hi
    have hi := List.mem_range.1 hi
    rw [getD_get hi]
    exact h _ (List.getElem_mem hi)
def ixT (a b : Bool) : Nat → Option Bool := fun i => if i = 9 then some a else if i = 16 then some b else none
noncomputable def ixC (a b : Bool) : Ctr := mk (P := Tryd.prog) [] [] (ixT a b)
theorem ixC_ok (a b : Bool) : CtrSound Tryd.prog (ixC a b) := mk_sound _ InlOK.nil _ _
noncomputable def ixB : Code := bodyOf Tryd.f91
noncomputable def ixS (xs : List Int) (v : Int) (i : Int) : St := ⟨slotsOf 19 [(0, .ro false .i64 xs), (1, .int .i64 v), (7, .int .i64 xs.length), (8, .int .i64 i)], [], true⟩
noncomputable def ixF (i : Int) : St := ⟨slotsOf 19 [(4, .int .i64 i)], [], true⟩
def indexV (xs : List Int) (v : Int) : Int := scanV (fun i => !(v == xs.getD i 0)) xs.length (fun i => (i : Int)) (-1)
section
variable (xs : List Int) (v i : Int)
theorem ix_head : (execL Tryd.prog (ixC true true) 60 0 2 (atoms ixB) ⟨slots0 Tryd.f91.ntmps [.ro false .i64 xs, .int .i64 v], [], true⟩).bind (St.cut [0, 1, 7, 8] 0) = some (ixS xs v 0) := by kernel_rfl
theorem ix_one : resX (cutR [0, 1, 7, 8] 0 (exec Tryd.prog (ixC true false) 60 0 (inner (inner (nthC 2 ixB))) (ixS xs v i))) = some (.normal, (ixS xs v (IntKind.i64.wrap (i + 1))).t, []) := by kernel_rfl
theorem ix_one' : obX (cutR [0, 1, 7, 8] 0 (exec Tryd.prog (ixC true false) 60 0 (inner (inner (nthC 2 ixB))) (ixS xs v i))) = andT (andT (andT (andT true (decide (i < (xs.length : Int)))) (inB i xs.length)) (decide (i.toNat < xs.length))) (!(v == xs.getD i.toNat 0)) := by kernel_rfl
theorem ix_out : resX (cutR [4] 0 (exec Tryd.prog (ixC true true) 60 0 (inner (inner (nthC 2 ixB))) (ixS xs v i))) = some (.ret, (ixF i).t, []) := by kernel_rfl
theorem ix_out' : obX (cutR [4] 0 (exec Tryd.prog (ixC true true) 60 0 (inner (inner (nthC 2 ixB))) (ixS xs v i))) = andT (andT (andT (andT true (decide (i < (xs.length : Int)))) (inB i xs.length)) (decide (i.toNat < xs.length))) (v == xs.getD i.toNat 0) := by kernel_rfl
theorem ix_end : resX (cutR [] 0 (exec Tryd.prog (ixC false true) 60 0 (inner (inner (nthC 2 ixB))) (ixS xs v i))) = some (.exit 0, slotsOf 19 [], []) := by kernel_rfl
theorem ix_end' : obX (cutR [] 0 (exec Tryd.prog (ixC false true) 60 0 (inner (inner (nthC 2 ixB))) (ixS xs v i))) = andT true (!decide (i < (xs.length : Int))) := by kernel_rfl
end
theorem oneOf_scan {b : Nat → Bool} {N : Nat} {α : Type} {g : α → SV} {vF : Nat → α} {vE : α} : oneOf (scanV b N (fun i => [g (vF i)]) [g vE]) = g (scanV b N vF vE) := by
  unfold scanV; cases firstN b N <;> rfl
theorem index_fn {xs : List Int} {v : Int} (h : xs.length ≤ 274877906944) : FnTr Tryd.prog 91 [.ro false .i64 xs, .int .i64 v] [] (.int .i64 (indexV xs v)) [] := by
  have key := FnTr.scan (P := Tryd.prog) (args := [.ro false .i64 xs, .int .i64 v]) (h := []) (h' := []) Tryd.func91 rfl 2 0 (fun j : Nat => ixS xs v j) (fun i => !(v == xs.getD i 0)) xs.length
    (fun x s' g => TrL.items (ixC_ok true true) 60 2 _ 0 (by simp) (ix_head xs v) rfl (by decide) g) (by decide) (by kernel_rfl)
    (fun i hi hb _ => ?_) (fun i => ixF i) (fun i => [.int .i64 (i : Int)]) (fun i hi hb _ => ⟨?_, rfl, rfl⟩) (sE := ⟨slotsOf 19 [], [], true⟩) (sE' := ixF (-1)) (vE := [.int .i64 (-1)]) (xE := .ret) (fun _ => ?_) (fun _ => ⟨?_, .inl rfl, rfl, rfl⟩)
  · rw [oneOf_scan (g := SV.int .i64) (vF := fun i : Nat => (i : Int)) (vE := -1)] at key
    exact key
  · have e := ix_one xs v i
    rw [wrapS (by omega)] at e
    exact Tr.cutX (ixC_ok true false) 60 _ 0 (Nat.le_refl _) (s' := ixS xs v ((i + 1 : Nat) : Int)) _ e (ix_one' xs v i) (by rw [ltN hi, inBN hi, Int.toNat_natCast, decide_eq_true hi, hb]; rfl)
  · exact Tr.cutX (ixC_ok true true) 60 _ 0 (Nat.le_refl _) (s' := ixF i) _ (ix_out xs v i) (ix_out' xs v i) (by rw [ltN hi, inBN hi, Int.toNat_natCast, decide_eq_true hi, show (v == xs.getD i 0) = true by simpa using hb]; rfl)
  · exact Tr.cutX (ixC_ok false true) 60 _ 0 (Nat.le_refl _) (s' := ⟨slotsOf 19 [], [], true⟩) _ (ix_end xs v xs.length) (ix_end' xs v xs.length) (by rw [nltN (Nat.le_refl _)]; rfl)
  · exact TrL.rest (ixC_ok true true) 60 (by kernel_rfl) rfl
def hasB (xs : List Int) (v : Int) : Bool := xs.any fun x => v == x
theorem index_has (xs : List Int) (v : Int) : decide (indexV xs v ≥ 0) = hasB xs v := by
  have h1 : xs.all (fun x => !(v == x)) = !hasB xs v := by simp [hasB, List.all_eq_not_any_not]
  have h2 := range_all_list (l := xs) (p := fun x => !(v == x))
  rw [← firstN_all, h1] at h2
  unfold indexV scanV
  cases hq : firstN (fun i => !(v == xs.getD i 0)) xs.length with
  | none =>
    rw [hq] at h2
    rw [show hasB xs v = false by simpa using h2.symm]
    decide
  | some i =>
    rw [hq] at h2
    rw [show hasB xs v = true by simpa using h2.symm]
    exact decide_eq_true (show (i : Int) ≥ 0 by omega)
noncomputable def indexF : List SV → Option (SV × List Blk × Bool)
  | [.ro false .i64 xs, .int .i64 v] => some (.int .i64 (indexV xs v), [], decide (xs.length ≤ 274877906944))
  | _ => none
noncomputable def indexE : Entry Tryd.prog := .val 91 _ Tryd.func91 (by decide) rfl true 0 indexF fun vs v new e => by
  unfold indexF at e
  split at e
  · simp only [Option.some.injEq, Prod.mk.injEq, decide_eq_true_eq] at e
    obtain ⟨rfl, rfl, h⟩ := e
    exact index_fn h
  · cases e
noncomputable def coC : Ctr := mk (P := Tryd.prog) [indexE] []
theorem coC_ok : CtrSound Tryd.prog coC := mk_sound _ InlOK.nil _ _
theorem co_run (xs : List Int) (v : Int) : (callS Tryd.prog coC 60 Tryd.f76 [.ro false .i64 xs, .int .i64 v] []).map (fun x => (x.1, x.2.2)) = some (.bool (decide (indexV xs v ≥ 0)), andT true (andT true (decide (xs.length ≤ 274877906944)))) := by kernel_rfl
theorem contains_fn {xs : List Int} {v : Int} (h : xs.length ≤ 274877906944) : FnTr Tryd.prog 76 [.ro false .i64 xs, .int .i64 v] [] (.bool (hasB xs v)) [] := by
  rw [← index_has]
  exact call0 coC_ok 60 Tryd.func76 (co_run xs v) (by rw [decide_eq_true h]; rfl) rfl
noncomputable def containsF : List SV → Option (SV × List Blk × Bool)
  | [.ro false .i64 xs, .int .i64 v] => some (.bool (hasB xs v), [], decide (xs.length ≤ 274877906944))
  | _ => none
noncomputable def containsE : Entry Tryd.prog := .val 76 _ Tryd.func76 (by decide) rfl true 0 containsF fun vs v new e => by
  unfold containsF at e
  split at e
  · simp only [Option.some.injEq, Prod.mk.injEq, decide_eq_true_eq] at e
    obtain ⟨rfl, rfl, h⟩ := e
    exact contains_fn h
  · cases e
end Go.Proofs.YtkcmlclomcidiaaDoor.Tr
