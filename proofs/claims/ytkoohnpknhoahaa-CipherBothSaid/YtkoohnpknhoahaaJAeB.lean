/- This file proves the contracts of a sum's times and add. Conditions: words within their kind; pieces of 16 bytes at most. -/
import Derived.Test.YtkoohnpknhoahaaJAeA
set_option linter.all false
namespace Go.Proofs.Ytkoohnpknhoahaa.Ae
open Go Go.Sy
def R (x : Int) : Prop := 0 ≤ x ∧ x < 18446744073709551616
theorem W_R (n : Int) : R (W n) := by
  unfold W R
  rw [Fe.wrap_u64]
  exact ⟨Int.emod_nonneg _ (by decide), Int.emod_lt_of_pos _ (by decide)⟩
theorem addS_R (x y c : Int) : R (Fe.addS x y c) := by
  unfold Fe.addS R
  rw [Lock_eq]
  have e : Extern.MathBitsCarry.m64 = 18446744073709551616 := rfl
  rw [e]
  have := Nat.mod_lt (x.toNat + y.toNat + c.toNat) (show 0 < 18446744073709551616 by decide)
  simp only [Int.ofNat_eq_natCast]
  omega
theorem mulL_R (x y : Int) : R (Fe.mulL x y) := by rw [Fe.mulL, Lock_eq]; exact W_R _
theorem mulH_R (x y : Int) : R (Fe.mulH x y) := by rw [Fe.mulH, Lock_eq]; exact W_R _
theorem or_R (a b : Int) : R (orI .u64 a b) := W_R _
theorem andNot_R (a b : Int) : R (andNotI .u64 a b) := W_R _
theorem carry_ok {x y : Int} (hx : R x) (hy : R y) : Fe.carry1 (Fe.addC x y 0) = true := by
  obtain ⟨_, h⟩ := Fe.addS_eq hx.1 hy.1 (Int.le_refl 0)
  unfold Fe.carry1
  rw [h]
  have := hx.2
  have := hy.2
  exact decide_eq_true (by omega)
theorem zero_R : R 0 := ⟨by decide, by decide⟩
theorem lowW_R (l : List Int) : R (lowW l) := by
  unfold lowW
  simp only [List.foldl]
  exact or_R _ _
noncomputable def ti0 (h : List Int) (r : Int) : List Int := [Fe.mulL (g h 0) r, Fe.mulH (g h 0) r, 0, 0]
noncomputable def ti1 (h : List Int) (r s : Int) : List Int := at1 (g h 0) s (ti0 h r)
noncomputable def ti2 (h : List Int) (r s : Int) : List Int := at1 (g h 1) r (ti1 h r s)
noncomputable def ti3 (h : List Int) (r s : Int) : List Int := at2 (g h 1) s (ti2 h r s)
noncomputable def ti4 (h : List Int) (r s : Int) : List Int := at2 (g h 2) r (ti3 h r s)
noncomputable def tiM (h : List Int) (r s : Int) : List Int := [g (ti4 h r s) 0, g (ti4 h r s) 1, g (ti4 h r s) 2, W (g (ti4 h r s) 3 + W (g h 2 * s))]
noncomputable def tiO (h : List Int) (r s : Int) : Bool := andT (andT (andT (andT true (andT true (Fe.carry1 (Fe.addC (g (ti0 h r) 1) (Fe.mulL (g h 0) s) 0)))) (andT true (Fe.carry1 (Fe.addC (g (ti1 h r s) 1) (Fe.mulL (g h 1) r) 0)))) (andT true (Fe.carry1 (Fe.addC (g (ti2 h r s) 2) (Fe.mulL (g h 1) s) 0)))) (andT true (Fe.carry1 (Fe.addC (g (ti3 h r s) 2) (Fe.mulL (g h 2) r) 0)))
noncomputable def rd (h : List Int) (x y : Int) : List Int := [Fe.addS (g h 0) x 0, Fe.addS (g h 1) y (Fe.addC (g h 0) x 0), W (g h 2 + Fe.addC (g h 1) y (Fe.addC (g h 0) x 0))]
noncomputable def rdM (m : List Int) : List Int := rd (rd [g m 0, g m 1, andI .u64 (g m 2) 3] (andNotI .u64 (g m 2) 3) (g m 3)) (orI .u64 (shrI .u64 (g m 2) 2) (shlI .u64 (g m 3) 62)) (shrI .u64 (g m 3) 2)
noncomputable def rdO (m : List Int) : Bool := andT (andT true (Fe.carry1 (Fe.addC (g m 0) (andNotI .u64 (g m 2) 3) 0))) (Fe.carry1 (Fe.addC (Fe.addS (g m 0) (andNotI .u64 (g m 2) 3) 0) (orI .u64 (shrI .u64 (g m 2) 2) (shlI .u64 (g m 3) 62)) 0))
noncomputable def timesW (h : List Int) (r s : Int) : List Int := Lock (rdM (tiM h r s))
noncomputable def tiC : Ctr := mk (P := Try.prog) [Fe.add64E, Fe.mul64E, atE] []
theorem tiC_ok : CtrSound Try.prog tiC := mk_sound _ InlOK.nil _ _
noncomputable def tiB : Code := bodyOf Try.f184
noncomputable def su (h : List Int) (r s : Int) : Blk := .b [.ints .u64 3 h, .int .u64 r, .int .u64 s]
noncomputable def tiS (h m : List Int) (r s : Int) : St := ⟨slotsOf 164 [(0, .ptr 0 0 0), (4, .ptr 1 0 0)], [su h r s, .b [.ints .u64 4 m]], true⟩
set_option maxRecDepth 100000 in
theorem ti_head (h : List Int) (r s : Int) : (execL Try.prog tiC 60 1 8 (atoms tiB) ⟨slots0 Try.f184.ntmps [.ptr 0 0 0], [su h r s], true⟩).bind (St.cut [0, 4] 2) = some { tiS h (tiM h r s) r s with ob := tiO h r s } := by kernel_rfl
theorem at1_R {x y : Int} {m : List Int} (h : R (g m 0)) : ∀ i, R (g (at1 x y m) i) := fun i => by
  match i with
  | 0 => exact h
  | 1 => exact addS_R _ _ _
  | 2 => exact addS_R _ _ _
  | 3 => exact W_R _
  | n + 4 => exact zero_R
theorem at2_R {x y : Int} {m : List Int} (h : R (g m 0)) (h1 : R (g m 1)) : ∀ i, R (g (at2 x y m) i) := fun i => by
  match i with
  | 0 => exact h
  | 1 => exact h1
  | 2 => exact addS_R _ _ _
  | 3 => exact addS_R _ _ _
  | n + 4 => exact zero_R
theorem ti_R (h : List Int) (r s : Int) : (∀ i, R (g (ti0 h r) i)) ∧ (∀ i, R (g (ti1 h r s) i)) ∧ (∀ i, R (g (ti2 h r s) i)) ∧ (∀ i, R (g (ti3 h r s) i)) ∧ (∀ i, R (g (ti4 h r s) i)) := by
  have h0 : ∀ i, R (g (ti0 h r) i) := fun i => by
    match i with
    | 0 => exact mulL_R _ _
    | 1 => exact mulH_R _ _
    | 2 => exact zero_R
    | 3 => exact zero_R
    | n + 4 => exact zero_R
  have h1 : ∀ i, R (g (ti1 h r s) i) := at1_R (h0 0)
  have h2 : ∀ i, R (g (ti2 h r s) i) := at1_R (h1 0)
  have h3 : ∀ i, R (g (ti3 h r s) i) := at2_R (h2 0) (h2 1)
  exact ⟨h0, h1, h2, h3, at2_R (h3 0) (h3 1)⟩
theorem tiO_true (h : List Int) (r s : Int) : tiO h r s = true := by
  obtain ⟨h0, h1, h2, h3, _⟩ := ti_R h r s
  unfold tiO
  rw [carry_ok (h0 1) (mulL_R _ _), carry_ok (h1 1) (mulL_R _ _), carry_ok (h2 2) (mulL_R _ _), carry_ok (h3 2) (mulL_R _ _)]
  rfl
theorem tiM_R (h : List Int) (r s : Int) : ∀ i, R (g (tiM h r s) i) := fun i => by
  obtain ⟨_, _, _, _, h4⟩ := ti_R h r s
  match i with
  | 0 => exact h4 0
  | 1 => exact h4 1
  | 2 => exact h4 2
  | 3 => exact W_R _
  | n + 4 => exact zero_R
theorem rdO_true {m : List Int} (h : ∀ i, R (g m i)) : rdO m = true := by
  unfold rdO
  rw [carry_ok (h 0) (andNot_R _ _), carry_ok (addS_R _ _ _) (or_R _ _)]
  rfl
theorem rdM_R (m : List Int) : ∀ i, R (g (rdM m) i) := fun i => by
  match i with
  | 0 => exact addS_R _ _ _
  | 1 => exact addS_R _ _ _
  | 2 => exact W_R _
  | n + 3 => exact zero_R
theorem timesW_R (h : List Int) (r s : Int) : (timesW h r s).length = 3 ∧ ∀ i, R (g (timesW h r s) i) := by
  rw [timesW, Lock_eq]
  exact ⟨rfl, rdM_R _⟩
set_option maxRecDepth 100000 in
theorem times_fn {h : List Int} (r s : Int) (hl : h.length = 3) : FnTr Try.prog 184 [.ptr 0 0 0] [su h r s] (.tup []) [su (timesW h r s) r s] := by
  have k : FnTr Try.prog 184 [.ptr 0 0 0] [su (lst 3 h) r s] (.tup []) [su (rdM (lst 4 (tiM (lst 3 h) r s))) r s] := by
    refine FnTr.restM tiC_ok 60 8 1 Try.func184 (by simp) rfl (fun s' x hh => ?_) (s := tiS (lst 3 h) (lst 4 (tiM (lst 3 h) r s)) r s) (p := rdO (lst 4 (tiM (lst 3 h) r s))) ?_ ?_ rfl rfl
    · refine TrL.items tiC_ok 60 8 _ 2 (by simp) (ti_head (lst 3 h) r s) (tiO_true _ _ _) (by decide) ?_
      rw [lst_eq (show (tiM (lst 3 h) r s).length = 4 from rfl)] at hh
      exact TrL.pre hh (Ent.same rfl rfl) (by decide)
    · generalize tiM (lst 3 h) r s = m
      kernel_rfl
    · rw [lst_eq (show (tiM (lst 3 h) r s).length = 4 from rfl)]
      exact rdO_true (tiM_R _ _ _)
  rw [lst_eq hl, lst_eq (show (tiM h r s).length = 4 from rfl)] at k
  rw [timesW, Lock_eq]
  exact k
def pickT (vs : List SV) (_ : List Blk) : List Nat := match vs with
  | .ptr b _ _ :: _ => [b]
  | _ => []
noncomputable def timesF : List SV → List Blk → Option (SV × List Blk × Bool)
  | [.ptr 0 0 0], [.b [.ints .u64 3 h, .int .u64 r, .int .u64 s]] => some (.tup [], [su (timesW h r s) r s], decide (h.length = 3))
  | _, _ => none
noncomputable def timesE : Entry Try.prog := .mut 184 _ Try.func184 (by decide) rfl pickT 0 timesF fun vs h0 v h1 e => by
  unfold timesF at e
  split at e
  · simp only [Option.some.injEq, Prod.mk.injEq, decide_eq_true_eq] at e
    obtain ⟨rfl, rfl, h⟩ := e
    exact times_fn _ _ h
  · cases e
end Go.Proofs.Ytkoohnpknhoahaa.Ae
