/- This file proves the contracts of seat's Level, Children, Parent and Below. Conditions: numbers of nodes of trees of 32 leaves at most. -/
import Derived.Test.YtkcmlclomcidiaaDoorATrB
set_option linter.all false
set_option maxRecDepth 100000
namespace Go.Proofs.YtkcmlclomcidiaaDoor.Tr
open Go Go.Sy
def lvN : Nat → Nat → Nat
  | 0, _ => 0
  | f + 1, x => match x % 2 with
    | 1 => lvN f (x / 2) + 1
    | _ => 0
def levelV (x : Int) : Int := (lvN 7 x.toNat : Nat)
noncomputable def lvInl : List (FuncId × Func) := [(90, Tryd.f90), (98, Tryd.f98)]
theorem lvInl_ok : InlOK Tryd.prog lvInl := InlOK.cons Tryd.func90 (by decide) (InlOK.cons Tryd.func98 (by decide) InlOK.nil)
noncomputable def lvlC : Ctr := mk (P := Tryd.prog) [] lvInl
theorem lvlC_ok : CtrSound Tryd.prog lvlC := mk_sound _ lvInl_ok _ _
def isI (v : Int) : Option (SV × List Blk × Bool) → Bool
  | some (.int .i64 m, _, p) => decide (m = v) && p
  | _ => false
theorem isI_iff {v : Int} {r : Option (SV × List Blk × Bool)} (h : isI v r = true) : r.map (fun x => (x.1, x.2.2)) = some (.int .i64 v, true) := by
  unfold isI at h
  split at h
  · simp only [Bool.and_eq_true, decide_eq_true_eq] at h
    obtain ⟨rfl, rfl⟩ := h
    rfl
  · cases h
theorem level_all : ((List.range 64).all fun x => isI (levelV x) (callS Tryd.prog lvlC 60 Tryd.f75 [.int .i64 x] [])) = true := by kernel_rfl
theorem level_fn {x : Int} (h0 : 0 ≤ x) (h1 : x < 64) : FnTr Tryd.prog 75 [.int .i64 x] [] (.int .i64 (levelV x)) [] := by
  obtain ⟨n, rfl⟩ := Int.eq_ofNat_of_zero_le h0
  have h := List.all_eq_true.1 level_all n (List.mem_range.2 (by omega))
  exact call0 lvlC_ok 60 Tryd.func75 (isI_iff h) rfl rfl
noncomputable def levelF : List SV → Option (SV × List Blk × Bool)
  | [.int .i64 x] => some (.int .i64 (levelV x), [], decide (0 ≤ x) && decide (x < 64))
  | _ => none
noncomputable def levelE : Entry Tryd.prog := .val 75 _ Tryd.func75 (by decide) rfl false 0 levelF fun vs v new e => by
  unfold levelF at e
  split at e
  · simp only [Option.some.injEq, Prod.mk.injEq, Bool.and_eq_true, decide_eq_true_eq] at e
    obtain ⟨rfl, rfl, h1, h2⟩ := e
    exact level_fn h1 h2
  · cases e
def isT (v u : Int) : Option (SV × List Blk × Bool) → Bool
  | some (.tup [.int .i64 m, .int .i64 n], _, p) => decide (m = v) && decide (n = u) && p
  | _ => false
theorem isT_iff {v u : Int} {r : Option (SV × List Blk × Bool)} (h : isT v u r = true) : r.map (fun x => (x.1, x.2.2)) = some (.tup [.int .i64 v, .int .i64 u], true) := by
  unfold isT at h
  split at h
  · simp only [Bool.and_eq_true, decide_eq_true_eq] at h
    obtain ⟨⟨rfl, rfl⟩, rfl⟩ := h
    rfl
  · cases h
def leftV (x : Int) : Int := match lvN 7 x.toNat with
  | 0 => -1
  | k + 1 => x - 2 ^ k
def rightV (x : Int) : Int := match lvN 7 x.toNat with
  | 0 => -1
  | k + 1 => x + 2 ^ k
def sizes : List Nat := [1, 2, 4, 8, 16, 32]
def nodeB (x n : Int) : Bool := sizes.any fun m => decide (n = m) && decide (0 ≤ x) && decide (x ≤ 2 * m - 2)
theorem nodeB_iff {x n : Int} (h : nodeB x n = true) : ∃ m ∈ sizes, ∃ y : Nat, n = (m : Int) ∧ x = (y : Int) ∧ y < 2 * m - 1 := by
  unfold nodeB at h
  obtain ⟨m, hm, h⟩ := List.any_eq_true.1 h
  simp only [Bool.and_eq_true, decide_eq_true_eq] at h
  obtain ⟨⟨rfl, h0⟩, h1⟩ := h
  obtain ⟨y, rfl⟩ := Int.eq_ofNat_of_zero_le h0
  have : 1 ≤ m := by simp only [sizes, List.mem_cons, List.not_mem_nil, or_false] at hm; omega
  exact ⟨m, hm, y, rfl, rfl, by omega⟩
def parV (x n : Int) : Int := if x = n - 1 then -1 else if (x.toNat / 2 ^ (lvN 7 x.toNat + 1)) % 2 = 0 then x + 2 ^ lvN 7 x.toNat else x - 2 ^ lvN 7 x.toNat
def firstV (x : Int) : Int := (x - (2 ^ lvN 7 x.toNat - 1)) / 2
def lastV (x : Int) : Int := (x + (2 ^ lvN 7 x.toNat - 1)) / 2
noncomputable def ndInl : List (FuncId × Func) := [(89, Tryd.f89), (74, Tryd.f74), (77, Tryd.f77)]
theorem ndInl_ok : InlOK Tryd.prog ndInl := InlOK.cons Tryd.func89 (by decide) (InlOK.cons Tryd.func74 (by decide) (InlOK.cons Tryd.func77 (by decide) InlOK.nil))
noncomputable def paC : Ctr := mk (P := Tryd.prog) [levelE] ndInl
theorem paC_ok : CtrSound Tryd.prog paC := mk_sound _ ndInl_ok _ _
theorem parent_all : (sizes.all fun n => (List.range (2 * n - 1)).all fun x => isI (parV x n) (callS Tryd.prog paC 60 Tryd.f66 [.int .i64 x, .int .i64 n] [])) = true := by kernel_rfl
theorem parent_fn {x n : Int} (h : nodeB x n = true) : FnTr Tryd.prog 66 [.int .i64 x, .int .i64 n] [] (.int .i64 (parV x n)) [] := by
  obtain ⟨m, hm, y, rfl, rfl, hy⟩ := nodeB_iff h
  have h := List.all_eq_true.1 (List.all_eq_true.1 parent_all m hm) y (List.mem_range.2 hy)
  exact call0 paC_ok 60 Tryd.func66 (isI_iff h) rfl rfl
noncomputable def parentF : List SV → Option (SV × List Blk × Bool)
  | [.int .i64 x, .int .i64 n] => some (.int .i64 (parV x n), [], nodeB x n)
  | _ => none
noncomputable def parentE : Entry Tryd.prog := .val 66 _ Tryd.func66 (by decide) rfl false 0 parentF fun vs v new e => by
  unfold parentF at e
  split at e
  · simp only [Option.some.injEq, Prod.mk.injEq] at e
    obtain ⟨rfl, rfl, h⟩ := e
    exact parent_fn h
  · cases e
theorem below_all : (sizes.all fun n => (List.range (2 * n - 1)).all fun x => isT (firstV x) (lastV x) (callS Tryd.prog paC 60 Tryd.f63 [.int .i64 x, .int .i64 n] [])) = true := by kernel_rfl
theorem below_fn {x n : Int} (h : nodeB x n = true) : FnTr Tryd.prog 63 [.int .i64 x, .int .i64 n] [] (.tup [.int .i64 (firstV x), .int .i64 (lastV x)]) [] := by
  obtain ⟨m, hm, y, rfl, rfl, hy⟩ := nodeB_iff h
  have h := List.all_eq_true.1 (List.all_eq_true.1 below_all m hm) y (List.mem_range.2 hy)
  exact call0 paC_ok 60 Tryd.func63 (isT_iff h) rfl rfl
noncomputable def belowF : List SV → Option (SV × List Blk × Bool)
  | [.int .i64 x, .int .i64 n] => some (.tup [.int .i64 (firstV x), .int .i64 (lastV x)], [], nodeB x n)
  | _ => none
noncomputable def belowE : Entry Tryd.prog := .val 63 _ Tryd.func63 (by decide) rfl false 0 belowF fun vs v new e => by
  unfold belowF at e
  split at e
  · simp only [Option.some.injEq, Prod.mk.injEq] at e
    obtain ⟨rfl, rfl, h⟩ := e
    exact below_fn h
  · cases e
end Go.Proofs.YtkcmlclomcidiaaDoor.Tr
