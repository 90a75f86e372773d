/- This file holds the texts AeA, AeB, AeC, a section each. No conditions beyond those in the theorems. -/
import Derived.Test.YtibfpjeeanppjaaGreatWMe
import Derived.Test.YtibfpjeeanppjaaGreatWShG
set_option linter.all false
set_option maxRecDepth 100000
section
namespace Go.Proofs.YtibfpjeeanppjaaGreat.Ae
open Go Go.Sy
abbrev W (n : Int) : Int := IntKind.u64.wrap n
noncomputable def c0 : Ctr := mk (P := Tryz.prog) [] []
theorem c0_ok : CtrSound Tryz.prog c0 := mk_sound _ InlOK.nil _ _
def lowW (l : List Int) : Int := [7, 6, 5, 4, 3, 2, 1, 0].foldl (fun n i => orI .u64 (shlI .u64 n 8) (W (l.getD i 0))) 0
theorem low_fn {l : List Int} (h : 8 ≤ l.length) : FnTr Tryz.prog 150 [.ro false .u8 l] [] (.int .u64 (lowW l)) [] := by
  have i8 : ∀ i : Nat, i < 8 → inB (i : Int) l.length = true := fun i hi => by
    unfold inB
    simp only [Bool.and_eq_true, decide_eq_true_eq]
    omega
  have d8 : ∀ i : Nat, i < 8 → decide (i < l.length) = true := fun i hi => decide_eq_true (by omega)
  exact call0 c0_ok 200 Tryz.func150 (p := [7, 6, 5, 4, 3, 2, 1, 0].foldl (fun o i => andT (andT o (inB ((i : Nat) : Int) l.length)) (decide (i < l.length))) true) (by kernel_rfl)
    (by simp only [List.foldl, i8 7 (by decide), i8 6 (by decide), i8 5 (by decide), i8 4 (by decide), i8 3 (by decide), i8 2 (by decide), i8 1 (by decide), i8 0 (by decide), d8 7 (by decide), d8 6 (by decide), d8 5 (by decide), d8 4 (by decide), d8 3 (by decide), d8 2 (by decide), d8 1 (by decide), d8 0 (by decide)]; rfl) rfl
def lowF : List SV → Option (SV × List Blk × Bool)
  | [.ro false .u8 l] => some (.int .u64 (lowW l), [], decide (8 ≤ l.length))
  | _ => none
noncomputable def lowE : Entry Tryz.prog := .val 150 _ Tryz.func150 (by decide) rfl true 0 lowF fun vs v new e => by
  unfold lowF at e
  split at e
  · simp only [Option.some.injEq, Prod.mk.injEq, decide_eq_true_eq] at e
    obtain ⟨rfl, rfl, h⟩ := e
    exact low_fn h
  · cases e
def putW (n : Int) : List Int := (List.range 8).map fun i => IntKind.u8.wrap (shrI .u64 n (8 * i))
theorem put_fn (n : Int) : FnTr Tryz.prog 73 [.int .u64 n] [] (.ro true .u8 (putW n)) [] :=
  FnTr.frozen (N := 8) (ex := true) (wh := true) (FnTr.of_callS c0_ok Tryz.func73 (n := 200) (by kernel_rfl)) rfl
def putF : List SV → Option (SV × List Blk × Bool)
  | [.int .u64 n] => some (.ro true .u8 (putW n), [], true)
  | _ => none
noncomputable def putE : Entry Tryz.prog := .val 73 _ Tryz.func73 (by decide) rfl false 0 putF fun vs v new e => by
  unfold putF at e
  split at e
  · cases e; exact put_fn _
  · cases e
def g (m : List Int) (i : Nat) : Int := m.getD i 0
noncomputable def at1 (x y : Int) (m : List Int) : List Int := [g m 0, Fe.addS (g m 1) (Fe.mulL x y) 0, Fe.addS (g m 2) (Fe.mulH x y) (Fe.addC (g m 1) (Fe.mulL x y) 0), W (g m 3 + Fe.addC (g m 2) (Fe.mulH x y) (Fe.addC (g m 1) (Fe.mulL x y) 0))]
noncomputable def at2 (x y : Int) (m : List Int) : List Int := [g m 0, g m 1, Fe.addS (g m 2) (Fe.mulL x y) 0, Fe.addS (g m 3) (Fe.mulH x y) (Fe.addC (g m 2) (Fe.mulL x y) 0)]
noncomputable def atC : Ctr := mk (P := Tryz.prog) [Fe.add64E, Fe.mul64E] []
theorem atC_ok : CtrSound Tryz.prog atC := mk_sound _ InlOK.nil _ _
noncomputable def atF : List SV → List Blk → Option (SV × List Blk × Bool)
  | [.int .i64 i, .int .u64 x, .int .u64 y, .ptr 0 0 0], [.b [.ints .u64 4 m]] => bif i == 1 then some (.tup [], [.b [.ints .u64 4 (at1 x y m)]], decide (m.length = 4) && Fe.carry1 (Fe.addC (g m 1) (Fe.mulL x y) 0)) else
    bif i == 2 then some (.tup [], [.b [.ints .u64 4 (at2 x y m)]], decide (m.length = 4) && Fe.carry1 (Fe.addC (g m 2) (Fe.mulL x y) 0)) else none
  | _, _ => none
def pickA (vs : List SV) (_ : List Blk) : List Nat := match vs with
  | [_, _, _, .ptr b _ _] => [b]
  | _ => []
theorem at1_fn {x y : Int} {m : List Int} (hm : m.length = 4) (hc : Fe.carry1 (Fe.addC (g m 1) (Fe.mulL x y) 0) = true) : FnTr Tryz.prog 169 [.int .i64 1, .int .u64 x, .int .u64 y, .ptr 0 0 0] [.b [.ints .u64 4 m]] (.tup []) [.b [.ints .u64 4 (at1 x y m)]] := by
  have k : FnTr Tryz.prog 169 [.int .i64 1, .int .u64 x, .int .u64 y, .ptr 0 0 0] [.b [.ints .u64 4 (lst 4 m)]] (.tup []) [.b [.ints .u64 4 (at1 x y m)]] :=
    callM atC_ok 60 Tryz.func169 1 (by simp) (p := andT true (Fe.carry1 (Fe.addC (g m 1) (Fe.mulL x y) 0))) (by kernel_rfl) (by rw [hc]; rfl) rfl rfl
  rw [lst_eq hm] at k
  exact k
theorem at2_fn {x y : Int} {m : List Int} (hm : m.length = 4) (hc : Fe.carry1 (Fe.addC (g m 2) (Fe.mulL x y) 0) = true) : FnTr Tryz.prog 169 [.int .i64 2, .int .u64 x, .int .u64 y, .ptr 0 0 0] [.b [.ints .u64 4 m]] (.tup []) [.b [.ints .u64 4 (at2 x y m)]] := by
  have k : FnTr Tryz.prog 169 [.int .i64 2, .int .u64 x, .int .u64 y, .ptr 0 0 0] [.b [.ints .u64 4 (lst 4 m)]] (.tup []) [.b [.ints .u64 4 (at2 x y m)]] :=
    callM atC_ok 60 Tryz.func169 1 (by simp) (p := andT true (Fe.carry1 (Fe.addC (g m 2) (Fe.mulL x y) 0))) (by kernel_rfl) (by rw [hc]; rfl) rfl rfl
  rw [lst_eq hm] at k
  exact k
noncomputable def atE : Entry Tryz.prog := .mut 169 _ Tryz.func169 (by decide) rfl pickA 0 atF fun vs h0 v h1 e => by
  unfold atF at e
  split at e
  · rename_i i x y m
    by_cases h1 : i = 1
    · subst h1
      simp only [beq_self_eq_true, cond_true, Option.some.injEq, Prod.mk.injEq, Bool.and_eq_true, decide_eq_true_eq] at e
      obtain ⟨rfl, rfl, hm, hc⟩ := e
      exact at1_fn hm hc
    · rw [beq_false_of_ne h1] at e
      by_cases h2 : i = 2
      · subst h2
        simp only [beq_self_eq_true, cond_true, cond_false, Option.some.injEq, Prod.mk.injEq, Bool.and_eq_true, decide_eq_true_eq] at e
        obtain ⟨rfl, rfl, hm, hc⟩ := e
        exact at2_fn hm hc
      · rw [beq_false_of_ne h2] at e; cases e
  · cases e
end Go.Proofs.YtibfpjeeanppjaaGreat.Ae
end
section
namespace Go.Proofs.YtibfpjeeanppjaaGreat.Ae
open Go Go.Sy
def R (x : Int) : Prop := 0 ≤ x ∧ x < 18446744073709551616
theorem W_R (n : Int) : R (W n) := by
  unfold W R
  rw [Fe.wrap_u64]
  exact ⟨Int.emod_nonneg _ (by decide), Int.emod_lt_of_pos _ (by decide)⟩
theorem addS_R (x y c : Int) : R (Fe.addS x y c) := by
  unfold Fe.addS R
  rw [Lock_eq]
  have e : Extern.MathBitsCarry.m64 = 18446744073709551616 := rfl
  rw [e]
  have := Nat.mod_lt (x.toNat + y.toNat + c.toNat) (show 0 < 18446744073709551616 by decide)
  simp only [Int.ofNat_eq_natCast]
  omega
theorem mulL_R (x y : Int) : R (Fe.mulL x y) := by rw [Fe.mulL, Lock_eq]; exact W_R _
theorem mulH_R (x y : Int) : R (Fe.mulH x y) := by rw [Fe.mulH, Lock_eq]; exact W_R _
theorem or_R (a b : Int) : R (orI .u64 a b) := W_R _
theorem andNot_R (a b : Int) : R (andNotI .u64 a b) := W_R _
theorem carry_ok {x y : Int} (hx : R x) (hy : R y) : Fe.carry1 (Fe.addC x y 0) = true := by
  obtain ⟨_, h⟩ := Fe.addS_eq hx.1 hy.1 (Int.le_refl 0)
  unfold Fe.carry1
  rw [h]
  have := hx.2
  have := hy.2
  exact decide_eq_true (by omega)
theorem zero_R : R 0 := ⟨by decide, by decide⟩
theorem lowW_R (l : List Int) : R (lowW l) := by
  unfold lowW
  simp only [List.foldl]
  exact or_R _ _
noncomputable def ti0 (h : List Int) (r : Int) : List Int := [Fe.mulL (g h 0) r, Fe.mulH (g h 0) r, 0, 0]
noncomputable def ti1 (h : List Int) (r s : Int) : List Int := at1 (g h 0) s (ti0 h r)
noncomputable def ti2 (h : List Int) (r s : Int) : List Int := at1 (g h 1) r (ti1 h r s)
noncomputable def ti3 (h : List Int) (r s : Int) : List Int := at2 (g h 1) s (ti2 h r s)
noncomputable def ti4 (h : List Int) (r s : Int) : List Int := at2 (g h 2) r (ti3 h r s)
noncomputable def tiM (h : List Int) (r s : Int) : List Int := [g (ti4 h r s) 0, g (ti4 h r s) 1, g (ti4 h r s) 2, W (g (ti4 h r s) 3 + W (g h 2 * s))]
noncomputable def tiO (h : List Int) (r s : Int) : Bool := andT (andT (andT (andT true (andT true (Fe.carry1 (Fe.addC (g (ti0 h r) 1) (Fe.mulL (g h 0) s) 0)))) (andT true (Fe.carry1 (Fe.addC (g (ti1 h r s) 1) (Fe.mulL (g h 1) r) 0)))) (andT true (Fe.carry1 (Fe.addC (g (ti2 h r s) 2) (Fe.mulL (g h 1) s) 0)))) (andT true (Fe.carry1 (Fe.addC (g (ti3 h r s) 2) (Fe.mulL (g h 2) r) 0)))
noncomputable def rd (h : List Int) (x y : Int) : List Int := [Fe.addS (g h 0) x 0, Fe.addS (g h 1) y (Fe.addC (g h 0) x 0), W (g h 2 + Fe.addC (g h 1) y (Fe.addC (g h 0) x 0))]
noncomputable def rdM (m : List Int) : List Int := rd (rd [g m 0, g m 1, andI .u64 (g m 2) 3] (andNotI .u64 (g m 2) 3) (g m 3)) (orI .u64 (shrI .u64 (g m 2) 2) (shlI .u64 (g m 3) 62)) (shrI .u64 (g m 3) 2)
noncomputable def rdO (m : List Int) : Bool := andT (andT true (Fe.carry1 (Fe.addC (g m 0) (andNotI .u64 (g m 2) 3) 0))) (Fe.carry1 (Fe.addC (Fe.addS (g m 0) (andNotI .u64 (g m 2) 3) 0) (orI .u64 (shrI .u64 (g m 2) 2) (shlI .u64 (g m 3) 62)) 0))
noncomputable def timesW (h : List Int) (r s : Int) : List Int := Lock (rdM (tiM h r s))
noncomputable def tiC : Ctr := mk (P := Tryz.prog) [Fe.add64E, Fe.mul64E, atE] []
theorem tiC_ok : CtrSound Tryz.prog tiC := mk_sound _ InlOK.nil _ _
noncomputable def tiB : Code := bodyOf Tryz.f167
noncomputable def su (h : List Int) (r s : Int) : Blk := .b [.ints .u64 3 h, .int .u64 r, .int .u64 s]
noncomputable def tiS (h m : List Int) (r s : Int) : St := ⟨slotsOf 164 [(0, .ptr 0 0 0), (4, .ptr 1 0 0)], [su h r s, .b [.ints .u64 4 m]], true⟩
theorem ti_head (h : List Int) (r s : Int) : (execL Tryz.prog tiC 60 1 8 (atoms tiB) ⟨slots0 Tryz.f167.ntmps [.ptr 0 0 0], [su h r s], true⟩).bind (St.cut [0, 4] 2) = some { tiS h (tiM h r s) r s with ob := tiO h r s } := by kernel_rfl
theorem at1_R {x y : Int} {m : List Int} (h : R (g m 0)) : ∀ i, R (g (at1 x y m) i) := fun i => by
  match i with
  | 0 => exact h
  | 1 => exact addS_R _ _ _
  | 2 => exact addS_R _ _ _
  | 3 => exact W_R _
  | n + 4 => exact zero_R
theorem at2_R {x y : Int} {m : List Int} (h : R (g m 0)) (h1 : R (g m 1)) : ∀ i, R (g (at2 x y m) i) := fun i => by
  match i with
  | 0 => exact h
  | 1 => exact h1
  | 2 => exact addS_R _ _ _
  | 3 => exact addS_R _ _ _
  | n + 4 => exact zero_R
theorem ti_R (h : List Int) (r s : Int) : (∀ i, R (g (ti0 h r) i)) ∧ (∀ i, R (g (ti1 h r s) i)) ∧ (∀ i, R (g (ti2 h r s) i)) ∧ (∀ i, R (g (ti3 h r s) i)) ∧ (∀ i, R (g (ti4 h r s) i)) := by
  have h0 : ∀ i, R (g (ti0 h r) i) := fun i => by
    match i with
    | 0 => exact mulL_R _ _
    | 1 => exact mulH_R _ _
    | 2 => exact zero_R
    | 3 => exact zero_R
    | n + 4 => exact zero_R
  have h1 : ∀ i, R (g (ti1 h r s) i) := at1_R (h0 0)
  have h2 : ∀ i, R (g (ti2 h r s) i) := at1_R (h1 0)
  have h3 : ∀ i, R (g (ti3 h r s) i) := at2_R (h2 0) (h2 1)
  exact ⟨h0, h1, h2, h3, at2_R (h3 0) (h3 1)⟩
theorem tiO_true (h : List Int) (r s : Int) : tiO h r s = true := by
  obtain ⟨h0, h1, h2, h3, _⟩ := ti_R h r s
  unfold tiO
  rw [carry_ok (h0 1) (mulL_R _ _), carry_ok (h1 1) (mulL_R _ _), carry_ok (h2 2) (mulL_R _ _), carry_ok (h3 2) (mulL_R _ _)]
  rfl
theorem tiM_R (h : List Int) (r s : Int) : ∀ i, R (g (tiM h r s) i) := fun i => by
  obtain ⟨_, _, _, _, h4⟩ := ti_R h r s
  match i with
  | 0 => exact h4 0
  | 1 => exact h4 1
  | 2 => exact h4 2
  | 3 => exact W_R _
  | n + 4 => exact zero_R
theorem rdO_true {m : List Int} (h : ∀ i, R (g m i)) : rdO m = true := by
  unfold rdO
  rw [carry_ok (h 0) (andNot_R _ _), carry_ok (addS_R _ _ _) (or_R _ _)]
  rfl
theorem rdM_R (m : List Int) : ∀ i, R (g (rdM m) i) := fun i => by
  match i with
  | 0 => exact addS_R _ _ _
  | 1 => exact addS_R _ _ _
  | 2 => exact W_R _
  | n + 3 => exact zero_R
theorem timesW_R (h : List Int) (r s : Int) : (timesW h r s).length = 3 ∧ ∀ i, R (g (timesW h r s) i) := by
  rw [timesW, Lock_eq]
  exact ⟨rfl, rdM_R _⟩
theorem times_fn {h : List Int} (r s : Int) (hl : h.length = 3) : FnTr Tryz.prog 167 [.ptr 0 0 0] [su h r s] (.tup []) [su (timesW h r s) r s] := by
  have k : FnTr Tryz.prog 167 [.ptr 0 0 0] [su (lst 3 h) r s] (.tup []) [su (rdM (lst 4 (tiM (lst 3 h) r s))) r s] := by
    refine FnTr.restM tiC_ok 60 8 1 Tryz.func167 (by simp) rfl (fun s' x hh => ?_) (s := tiS (lst 3 h) (lst 4 (tiM (lst 3 h) r s)) r s) (p := rdO (lst 4 (tiM (lst 3 h) r s))) ?_ ?_ rfl rfl
    · refine TrL.items tiC_ok 60 8 _ 2 (by simp) (ti_head (lst 3 h) r s) (tiO_true _ _ _) (by decide) ?_
      rw [lst_eq (show (tiM (lst 3 h) r s).length = 4 from rfl)] at hh
      exact TrL.pre hh (Ent.same rfl rfl) (by decide)
    · generalize tiM (lst 3 h) r s = m
      kernel_rfl
    · rw [lst_eq (show (tiM (lst 3 h) r s).length = 4 from rfl)]
      exact rdO_true (tiM_R _ _ _)
  rw [lst_eq hl, lst_eq (show (tiM h r s).length = 4 from rfl)] at k
  rw [timesW, Lock_eq]
  exact k
def pickT (vs : List SV) (_ : List Blk) : List Nat := match vs with
  | .ptr b _ _ :: _ => [b]
  | _ => []
noncomputable def timesF : List SV → List Blk → Option (SV × List Blk × Bool)
  | [.ptr 0 0 0], [.b [.ints .u64 3 h, .int .u64 r, .int .u64 s]] => some (.tup [], [su (timesW h r s) r s], decide (h.length = 3))
  | _, _ => none
noncomputable def timesE : Entry Tryz.prog := .mut 167 _ Tryz.func167 (by decide) rfl pickT 0 timesF fun vs h0 v h1 e => by
  unfold timesF at e
  split at e
  · simp only [Option.some.injEq, Prod.mk.injEq, decide_eq_true_eq] at e
    obtain ⟨rfl, rfl, h⟩ := e
    exact times_fn _ _ h
  · cases e
end Go.Proofs.YtibfpjeeanppjaaGreat.Ae
end
section
namespace Go.Proofs.YtibfpjeeanppjaaGreat.Ae
open Go Go.Sy
def bW (p : List Int) : List Int := (spl (List.replicate 17 0) 0 p (Nat.min p.length 17)).set (0 + (p.length : Int).toNat) 1
def bH (p : List Int) : List Int := ((bW p).drop 8).take 9
noncomputable def addH (h p : List Int) : List Int := [Fe.addS (g h 0) (lowW (bW p)) 0, Fe.addS (g h 1) (lowW (bH p)) (Fe.addC (g h 0) (lowW (bW p)) 0), W (g h 2 + W (W ((bW p).getD 16 0) + Fe.addC (g h 1) (lowW (bH p)) (Fe.addC (g h 0) (lowW (bW p)) 0)))]
noncomputable def addC0 : Ctr := mk (P := Tryz.prog) [Fe.add64E, lowE, timesE] []
theorem addC0_ok : CtrSound Tryz.prog addC0 := mk_sound _ InlOK.nil _ _
noncomputable def addO (h p : List Int) : Bool :=
  let L := p.length
  let b0 := spl (List.replicate 17 0) 0 p (Nat.min L 17)
  let o1 := andT (andT (andT true (andT true (true && decide (0 + Nat.min L 17 ≤ 17) && decide (Nat.min L 17 ≤ L)))) (inB (L : Int) 17)) (decide (0 + (L : Int).toNat < 17) && decide (b0.length = 17))
  let o2 := andT o1 (andT (andT (decide ((bW p).length = 17) && true) (decide ((bW p).length = 17))) (decide (8 ≤ (bW p).length)))
  let o3 := andT o2 (andT (andT (true && decide (17 ≤ (bW p).length)) (decide ((bH p).length = 9))) (decide (8 ≤ (bH p).length)))
  andT (andT o3 (Fe.carry1 (Fe.addC (g h 0) (lowW (bW p)) 0))) (andT true (decide (3 = 3)))
theorem bW_len {p : List Int} (hp : p.length ≤ 16) : (spl (List.replicate 17 0) 0 p (Nat.min p.length 17)).length = 17 ∧ (bW p).length = 17 ∧ (bH p).length = 9 := by
  have e : Nat.min p.length 17 = p.length := Nat.min_eq_left (by omega)
  have h1 : (spl (List.replicate 17 (0 : Int)) 0 p (Nat.min p.length 17)).length = 17 := spl_length (by simp) (by rw [e]; omega) (by rw [e]; exact Nat.le_refl _)
  have h2 : (bW p).length = 17 := by unfold bW; rw [List.length_set]; exact h1
  exact ⟨h1, h2, by unfold bH; rw [List.length_take, List.length_drop, h2]; rfl⟩
theorem addO_true {h p : List Int} (h0 : R (g h 0)) (hp : p.length ≤ 16) : addO h p = true := by
  obtain ⟨h1, h2, h3⟩ := bW_len hp
  have e : Nat.min p.length 17 = p.length := Nat.min_eq_left (by omega)
  have hi : inB (p.length : Int) 17 = true := by
    unfold inB
    simp only [Bool.and_eq_true, decide_eq_true_eq]
    omega
  unfold addO
  simp only [h1, h2, h3, hi, carry_ok h0 (lowW_R _)]
  rw [e, decide_eq_true (show 0 + p.length ≤ 17 by omega), decide_eq_true (Nat.le_refl _), decide_eq_true (show 0 + (p.length : Int).toNat < 17 by omega)]
  rfl
noncomputable def addW (h p : List Int) (r s : Int) : List Int := timesW (addH h p) r s
theorem add_fn {h p : List Int} (r s : Int) (hl : h.length = 3) (h0 : R (g h 0)) (hp : p.length ≤ 16) : FnTr Tryz.prog 151 [.ptr 0 0 0, .ro false .u8 p] [su h r s] (.tup []) [su (addW h p r s) r s] := by
  have k : FnTr Tryz.prog 151 [.ptr 0 0 0, .ro false .u8 p] [su (lst 3 h) r s] (.tup []) [su (addW (lst 3 h) p r s) r s] :=
    callM addC0_ok 60 Tryz.func151 1 (by simp) (p := addO (lst 3 h) p) (by kernel_rfl) (addO_true (by rw [lst_eq hl]; exact h0) hp) rfl rfl
  rw [lst_eq hl] at k
  exact k
theorem addW_R (h p : List Int) (r s : Int) : (addW h p r s).length = 3 ∧ ∀ i, R (g (addW h p r s) i) := timesW_R _ _ _
noncomputable def addF : List SV → List Blk → Option (SV × List Blk × Bool)
  | [.ptr 0 0 0, .ro false .u8 p], [.b [.ints .u64 3 h, .int .u64 r, .int .u64 s]] => some (.tup [], [su (addW h p r s) r s], decide (h.length = 3) && Fe.u64 (g h 0) && decide (p.length ≤ 16))
  | _, _ => none
noncomputable def addE : Entry Tryz.prog := .mut 151 _ Tryz.func151 (by decide) rfl pickT 0 addF fun vs h0 v h1 e => by
  unfold addF at e
  split at e
  · simp only [Option.some.injEq, Prod.mk.injEq, Bool.and_eq_true, decide_eq_true_eq] at e
    obtain ⟨rfl, rfl, ⟨h1, h2⟩, h3⟩ := e
    exact add_fn _ _ h1 (Fe.u64_iff.1 h2) h3
  · cases e
noncomputable def enT (l : List Int) : Int := W (g l 2 + Fe.addC (g l 1) 0 (Fe.addC (g l 0) 5 0))
noncomputable def enA (l : List Int) : List Int := [Fe.addS (g l 0) 5 0, Fe.addS (g l 1) 0 (Fe.addC (g l 0) 5 0), W (enT l - 4)]
noncomputable def enR (l : List Int) : List Int := if enT l ≥ 4 then enA l else l
noncomputable def enC (a : Bool) : Ctr := mk (P := Tryz.prog) [Fe.add64E, lowE, putE, Sh.concatE] [] fun i => if i = 38 then some a else none
theorem enC_ok (a : Bool) : CtrSound Tryz.prog (enC a) := mk_sound _ InlOK.nil _ _
noncomputable def enB : Code := bodyOf Tryz.f152
noncomputable def enS (h key l : List Int) (r s i : Int) : St := ⟨slotsOf 71 [(3, .ptr 1 0 0), (4, .ptr 2 0 0), (5, .ptr 3 0 0), (18, .int .i64 i)], [su h r s, .b [.ints .u8 32 key], .b [.ints .u8 16 (List.replicate 16 0)], .b [.ints .u64 3 (lst 3 l)]], true⟩
def k16 (key : List Int) : List Int := (key.drop 16).take 16
def k24 (key : List Int) : List Int := (key.drop 24).take 8
noncomputable def enW (l key : List Int) : List Int := putW (Fe.addS (g l 0) (lowW (k16 key)) 0) ++ putW (Fe.addS (g l 1) (lowW (k24 key)) (Fe.addC (g l 0) (lowW (k16 key)) 0))
noncomputable def enO (l key : List Int) : Bool := andT (andT (andT true (andT (andT (true && decide (32 ≤ key.length)) (decide ((k16 key).length = 16))) (decide (8 ≤ (k16 key).length)))) (andT (andT (true && decide (32 ≤ key.length)) (decide ((k24 key).length = 8))) (decide (8 ≤ (k24 key).length)))) (Fe.carry1 (Fe.addC (g l 0) (lowW (k16 key)) 0))
section
variable (h key l : List Int) (r s : Int)
theorem en_head : (execL Tryz.prog (enC true) 60 1 3 (atoms enB) ⟨slots0 Tryz.f152.ntmps [.ptr 0 0 0, .agg [.ints .u8 32 key]], [su (lst 3 h) r s], true⟩).bind (St.cut [3, 4, 5, 18] 4) = some (enS (lst 3 h) key h r s 0) := by kernel_rfl
theorem en_t0 : (exec Tryz.prog (enC true) 60 1 (inner (inner (nthC 3 enB))) (enS h key l r s 0)).bind (fun r => (r.2.cut [3, 4, 5, 18] 4).map fun q => (r.1, q)) =
    some (.normal, { enS h key (enA (lst 3 l)) r s 1 with ob := andT (andT true (Fe.carry1 (Fe.addC (g (lst 3 l) 0) 5 0))) (decide (enT (lst 3 l) ≥ 4)) }) := by kernel_rfl
theorem en_f0 : (exec Tryz.prog (enC false) 60 1 (inner (inner (nthC 3 enB))) (enS h key l r s 0)).bind (fun r => (r.2.cut [3, 4, 5, 18] 4).map fun q => (r.1, q)) =
    some (.normal, { enS h key l r s 1 with ob := andT (andT true (Fe.carry1 (Fe.addC (g (lst 3 l) 0) 5 0))) (!decide (enT (lst 3 l) ≥ 4)) }) := by kernel_rfl
theorem en_t1 : (exec Tryz.prog (enC true) 60 1 (inner (inner (nthC 3 enB))) (enS h key l r s 1)).bind (fun r => (r.2.cut [3, 4, 5, 18] 4).map fun q => (r.1, q)) =
    some (.normal, { enS h key (enA (lst 3 l)) r s 2 with ob := andT (andT true (Fe.carry1 (Fe.addC (g (lst 3 l) 0) 5 0))) (decide (enT (lst 3 l) ≥ 4)) }) := by kernel_rfl
theorem en_f1 : (exec Tryz.prog (enC false) 60 1 (inner (inner (nthC 3 enB))) (enS h key l r s 1)).bind (fun r => (r.2.cut [3, 4, 5, 18] 4).map fun q => (r.1, q)) =
    some (.normal, { enS h key l r s 2 with ob := andT (andT true (Fe.carry1 (Fe.addC (g (lst 3 l) 0) 5 0))) (!decide (enT (lst 3 l) ≥ 4)) }) := by kernel_rfl
theorem en_end : (exec Tryz.prog (enC true) 60 1 (inner (inner (nthC 3 enB))) (enS h key l r s 2)).bind (fun r => (r.2.cut [3, 4, 5, 18] 4).map fun q => (r.1, q)) =
    some (.exit 0, enS h key l r s 2) := by kernel_rfl
end
theorem five_R : R 5 := ⟨by decide, by decide⟩
theorem enA_R (l : List Int) : ∀ i, R (g (enA l) i) := fun i => by
  match i with
  | 0 => exact addS_R _ _ _
  | 1 => exact addS_R _ _ _
  | 2 => exact W_R _
  | n + 3 => exact zero_R
theorem enR_R {l : List Int} (hl : l.length = 3) (h : ∀ i, R (g l i)) : (enR l).length = 3 ∧ ∀ i, R (g (enR l) i) := by
  unfold enR
  split
  · exact ⟨rfl, enA_R l⟩
  · exact ⟨hl, h⟩
theorem en_one0 (h key : List Int) {l : List Int} (r s : Int) (hl : l.length = 3) (h0 : R (g l 0)) : Tr Tryz.prog none 1 (inner (inner (nthC 3 enB))) (enS h key l r s 0) .normal (enS h key (enR l) r s 1) := by
  have e := lst_eq hl
  unfold enR
  split
  · rename_i ht
    have k := en_t0 h key l r s
    rw [e, carry_ok h0 five_R, decide_eq_true ht] at k
    exact Tr.post (Tr.cut (enC_ok true) 60 _ 4 (by omega) k rfl) (Ent.same rfl rfl)
  · rename_i ht
    have k := en_f0 h key l r s
    rw [e, carry_ok h0 five_R, decide_eq_false ht] at k
    exact Tr.post (Tr.cut (enC_ok false) 60 _ 4 (by omega) k rfl) (Ent.same rfl rfl)
theorem en_one1 (h key : List Int) {l : List Int} (r s : Int) (hl : l.length = 3) (h0 : R (g l 0)) : Tr Tryz.prog none 1 (inner (inner (nthC 3 enB))) (enS h key l r s 1) .normal (enS h key (enR l) r s 2) := by
  have e := lst_eq hl
  unfold enR
  split
  · rename_i ht
    have k := en_t1 h key l r s
    rw [e, carry_ok h0 five_R, decide_eq_true ht] at k
    exact Tr.post (Tr.cut (enC_ok true) 60 _ 4 (by omega) k rfl) (Ent.same rfl rfl)
  · rename_i ht
    have k := en_f1 h key l r s
    rw [e, carry_ok h0 five_R, decide_eq_false ht] at k
    exact Tr.post (Tr.cut (enC_ok false) 60 _ 4 (by omega) k rfl) (Ent.same rfl rfl)
noncomputable def endW (h key : List Int) : List Int := enW (enR (enR h)) key
theorem end_fn {h key : List Int} (r s : Int) (hl : h.length = 3) (hh : ∀ i, R (g h i)) (hk : key.length = 32) : FnTr Tryz.prog 152 [.ptr 0 0 0, .agg [.ints .u8 32 key]] [su h r s] (.agg [.ints .u8 16 (endW h key)]) [su h r s] := by
  obtain ⟨l1, r1⟩ := enR_R hl hh
  obtain ⟨l2, r2⟩ := enR_R l1 r1
  have hloop : Tr Tryz.prog none 1 (nthC 3 enB) (enS (lst 3 h) key h r s 0) .normal (enS (lst 3 h) key (enR (enR h)) r s 2) :=
    Tr.loopR 0 (by kernel_rfl) (TrR.step (en_one0 _ key r s hl (hh 0)) (TrR.step (en_one1 _ key r s l1 (r1 0)) (TrR.leave (Tr.cut (enC_ok true) 60 _ 4 (by omega) (en_end (lst 3 h) key (enR (enR h)) r s) rfl) (by simp))))
  have k : FnTr Tryz.prog 152 [.ptr 0 0 0, .agg [.ints .u8 32 key]] [su (lst 3 h) r s] (.agg [.ints .u8 16 (enW (lst 3 (enR (enR h))) key)]) [su (lst 3 h) r s] := by
    refine FnTr.restM (enC_ok true) 60 4 1 Tryz.func152 (by simp) rfl (fun s' x hx => ?_) (s := enS (lst 3 h) key (enR (enR h)) r s 2) (p := enO (lst 3 (enR (enR h))) key) ?_ ?_ rfl rfl
    · refine TrL.items (enC_ok true) 60 3 _ 4 (by simp) (en_head h key r s) rfl (by decide) ?_
      exact TrL.item 3 (by decide) hloop hx
    · generalize enR (enR h) = l
      kernel_rfl
    · unfold enO k16 k24
      rw [lst_eq l2, carry_ok (r2 0) (lowW_R _)]
      simp [hk, andT]
  rw [lst_eq hl, lst_eq l2] at k
  exact k
noncomputable def endF : List SV → List Blk → Option (SV × Bool)
  | [.ptr 0 0 0, .agg [.ints .u8 32 key]], [.b [.ints .u64 3 h, .int .u64 r, .int .u64 s]] => some (.agg [.ints .u8 16 (endW h key)], decide (h.length = 3) && Fe.u64 (g h 0) && Fe.u64 (g h 1) && Fe.u64 (g h 2) && decide (key.length = 32))
  | _, _ => none
def pickU (vs : List SV) : List Nat := match vs with
  | .ptr b _ _ :: _ => [b]
  | _ => []
noncomputable def endE : Entry Tryz.prog := .rdm 152 _ Tryz.func152 (by decide) rfl pickU endF fun vs h0 v e => by
  unfold endF at e
  split at e
  · rename_i key h r s
    simp only [Option.some.injEq, Prod.mk.injEq, Bool.and_eq_true, decide_eq_true_eq] at e
    obtain ⟨rfl, ⟨⟨⟨h1, h2⟩, h3⟩, h4⟩, h5⟩ := e
    refine end_fn _ _ h1 (fun i => ?_) h5
    match i with
    | 0 => exact Fe.u64_iff.1 h2
    | 1 => exact Fe.u64_iff.1 h3
    | 2 => exact Fe.u64_iff.1 h4
    | n + 3 =>
      have : g h (n + 3) = 0 := by
        unfold g
        rw [List.getD_eq_getElem?_getD, List.getElem?_eq_none (by omega)]; rfl
      rw [this]; exact zero_R
  · cases e
end Go.Proofs.YtibfpjeeanppjaaGreat.Ae
end
