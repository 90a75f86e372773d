/- This file proves the contracts of the reference's Add, Sub, Mul: modulo p. Conditions: numbers below p. -/
import Derived.Test.YtailgcdcdhhpnaaReE
namespace Go.Proofs.Ytailgcdcdhhpnaa.Re
open Go Go.Sy Fe

/-- A number below p, by its parts. -/
def okN (l : List Int) : Bool := okP l && decide (vR l < Pm)
theorem okN_iff {l : List Int} : okN l = true ↔ okP l = true ∧ vR l < Pm := by simp [okN]
theorem okN_range {l : List Int} (h : okN l = true) : 0 ≤ vR l ∧ vR l < Pm := ⟨(vR_range (okN_iff.1 h).1).1, (okN_iff.1 h).2⟩
theorem refN_okN {n : Int} (h0 : 0 ≤ n) (h1 : n < Pm) : okN (refN n) = true := okN_iff.2 ⟨refN_ok n, by rw [vR_refN h0 h1]; exact h1⟩
theorem refM_okN (n : Int) : okN (refN (n % Pm)) = true := refN_okN (Int.emod_nonneg _ (by have := Pm_pos; omega)) (Int.emod_lt_of_pos _ Pm_pos)
theorem vR_refM (n : Int) : vR (refN (n % Pm)) = n % Pm := vR_refN (Int.emod_nonneg _ (by have := Pm_pos; omega)) (Int.emod_lt_of_pos _ Pm_pos)
theorem Pm_lt_B : Pm < B256 := by rw [Pm_eq]; show _ < (115792089237316195423570985008687907853269984665640564039457584007913129639936 : Int); omega

/-! ### Add -/
theorem VE.lst (k : IntKind) (n : Nat) (l : List Int) : VE (.agg [.ints k n l]) (.agg [.ints k n (lst n l)]) := Fe.VE.lst k n l
def addRL (a b : List Int) : List Int := (List.range 16).map (fun i => iw (a.getD i 0 + b.getD i 0)) ++ List.replicate 16 0
theorem addRL_get {a b : List Int} (ha : okP a = true) (hb : okP b = true) (i : Nat) (hi : i < 32) : gD (addRL a b) i = if i < 16 then gD a i + gD b i else 0 := by
  unfold gD addRL
  rw [List.getD_eq_getElem?_getD]
  by_cases h : i < 16
  · have p1 := (okP_iff.1 ha).2 i h
    have p2 := (okP_iff.1 hb).2 i h
    rw [List.getElem?_append_left (by simpa using h), List.getElem?_map, List.getElem?_range h, if_pos h]
    show iw (a.getD i 0 + b.getD i 0) = _
    rw [iw, wrap_i64 _ (by omega) (by omega)]
  · rw [List.getElem?_append_right (by simp; omega), if_neg h, List.getElem?_replicate, if_pos (by simp; omega)]; rfl
theorem sB32 {f : Nat → Int} (h : ∀ i, 16 ≤ i → i < 32 → f i = 0) : sB f 32 = sB f 16 := by
  have := sB_split f 16 16
  rw [sB_zero (f := fun i => f (16 + i)) 16 (fun i hi => h (16 + i) (by omega) (by omega)), Int.mul_zero, Int.add_zero] at this
  exact this
theorem addRL_val {a b : List Int} (ha : okP a = true) (hb : okP b = true) : okS (addRL a b) = true ∧ sB (gD (addRL a b)) 32 = vR a + vR b := by
  have g := addRL_get ha hb
  have e : sB (gD (addRL a b)) 32 = vR a + vR b := by
    rw [sB32 (fun i h1 h2 => by rw [g i h2, if_neg (by omega)]), sB_congr (g := fun i => gD a i + gD b i) 16 fun i hi => by rw [g i (by omega), if_pos hi], sB_add]
    rfl
  refine ⟨okS_iff.2 ⟨⟨by simp [addRL], fun i hi => ?_⟩, ?_⟩, e⟩
  · rw [g i hi]
    split
    · rename_i h
      have p1 := (okP_iff.1 ha).2 i h
      have p2 := (okP_iff.1 hb).2 i h
      unfold gD
      omega
    · omega
  · have r1 := vR_range ha
    have r2 := vR_range hb
    rw [e]
    show vR a + vR b < (115792089237316195423570985008687907853269984665640564039457584007913129639936 : Int) * 115792089237316195423570985008687907853269984665640564039457584007913129639936
    omega
theorem ctrSm : CtrSound Try.prog (mk [smallE] []) := mk_sound _ InlOK.nil _ _
set_option maxRecDepth 100000 in
theorem addR_fn {a b : List Int} (ha : okP a = true) (hb : okP b = true) : FnTr Try.prog 44 [.agg [.ints .i64 16 a], .agg [.ints .i64 16 b]] [] (.agg [.ints .i64 16 (refN ((vR a + vR b) % Pm))]) [] := by
  obtain ⟨h1, h2⟩ := addRL_val ha hb
  have key : FnTr Try.prog 44 [.agg [.ints .i64 16 a], .agg [.ints .i64 16 b]] [] (.agg [.ints .i64 16 (smF (addRL a b))]) [] :=
    call0 ctrSm 80 Try.func44 (p := andT true (andT true (okS (addRL a b)))) (by kernel_rfl) (by rw [h1]; rfl) rfl
  rw [smF, h2] at key
  exact key
noncomputable def addEF : List SV → Option (SV × List Blk × Bool)
  | [.agg [.ints .i64 16 a], .agg [.ints .i64 16 b]] => some (.agg [.ints .i64 16 (refN ((vR a + vR b) % Pm))], [], okP a && okP b)
  | _ => none
noncomputable def addE : Entry Try.prog := .val 44 _ Try.func44 (by decide) rfl false 0 addEF fun vs v new e => by
  unfold addEF at e
  split at e
  · simp only [Option.some.injEq, Prod.mk.injEq, Bool.and_eq_true] at e
    obtain ⟨rfl, rfl, ha, hb⟩ := e
    exact addR_fn ha hb
  · cases e

/-! ### Sub -/
theorem mnF_eq (a b : List Int) : mnF a b = refN (vR a - vR b) := by rw [mnF, Lock_eq, refN_eq]
theorem ctrSub : CtrSound Try.prog (mk [primeE, minusE, addE] []) := mk_sound _ InlOK.nil _ _
set_option maxRecDepth 100000 in
theorem subR_fn {a b : List Int} (ha : okP a = true) (hb : okP b = true) (hle : vR b ≤ Pm) : FnTr Try.prog 47 [.agg [.ints .i64 16 a], .agg [.ints .i64 16 b]] [] (.agg [.ints .i64 16 (refN ((vR a - vR b) % Pm))]) [] := by
  have hm : okP (mnF prL b) = true := by rw [mnF_eq]; exact refN_ok _
  have r := vR_range hb
  have key : FnTr Try.prog 47 [.agg [.ints .i64 16 a], .agg [.ints .i64 16 b]] [] (.agg [.ints .i64 16 (refN ((vR a + vR (mnF prL b)) % Pm))]) [] :=
    call0 ctrSub 60 Try.func47 (p := andT (andT true (andT true (okP prL && okP b && decide (vR b ≤ vR prL)))) (andT true (okP a && okP (mnF prL b)))) (by kernel_rfl)
      (by rw [hb, ha, hm, prL_ok, prL_val, decide_eq_true hle]; rfl) rfl
  have hv : vR (mnF prL b) = Pm - vR b := by rw [mnF_eq, refN_eq, prL_val]; exact vR_digR (by omega) (by rw [Pm_eq]; omega)
  rw [hv, show vR a + (Pm - vR b) = (vR a - vR b) - (-1) * Pm by omega, fv_sub rfl] at key
  exact key
noncomputable def subEF : List SV → Option (SV × List Blk × Bool)
  | [.agg [.ints .i64 16 a], .agg [.ints .i64 16 b]] => some (.agg [.ints .i64 16 (refN ((vR a - vR b) % Pm))], [], okP a && okN b)
  | _ => none
noncomputable def subE : Entry Try.prog := .val 47 _ Try.func47 (by decide) rfl false 0 subEF fun vs v new e => by
  unfold subEF at e
  split at e
  · simp only [Option.some.injEq, Prod.mk.injEq, Bool.and_eq_true] at e
    obtain ⟨rfl, rfl, ha, hb⟩ := e
    have := okN_iff.1 hb
    exact subR_fn ha this.1 (by omega)
  · cases e

/-! ### Mul -/
noncomputable def muC (x : Bool) : Ctr := mk (P := Try.prog) [] [] fun i => if i = 9 then some x else none
theorem muC_ok (x : Bool) : CtrSound Try.prog (muC x) := mk_sound _ InlOK.nil _ _
noncomputable def muH (a b L : List Int) : List Blk := [.b [.ints .i64 16 a], .b [.ints .i64 16 b], .b [.ints .i64 16 z16], .b [.ints .i64 32 L]]
noncomputable def muS (a b L : List Int) (i : Int) : St := ⟨slotsOf 35 [(2, .ptr 0 0 0), (3, .ptr 1 0 0), (4, .ptr 2 0 0), (5, .ptr 3 0 0), (6, .int .i64 i)], muH a b L, true⟩
noncomputable def muB : Code := inner (inner (nthC 3 (bodyOf Try.f43)))
/-- One product added. -/
def muStp (a b : List Int) (i : Int) (s : List Int × Bool) (j : Nat) : List Int × Bool :=
  (s.1.set (0 + (iw (i + j)).toNat) (iw (s.1.getD (0 + (iw (i + j)).toNat) 0 + iw (a.getD (0 + i.toNat) 0 * b.getD j 0))),
   andT (andT (andT (andT (andT (andT s.2 (inB (iw (i + j)) 32)) (decide (0 + (iw (i + j)).toNat < 32))) (inB i 16)) (decide (0 + i.toNat < 16))) (inB (iw (i + j)) 32)) (decide (0 + (iw (i + j)).toNat < 32) && decide (s.1.length = 32)))
def muRow (a b : List Int) (i : Int) (s : List Int × Bool) : List Int × Bool := [0, 1, 2, 3, 4, 5, 6, 7, 8, 9, 10, 11, 12, 13, 14, 15].foldl (muStp a b i) s
set_option maxRecDepth 100000 in
theorem mu_row (a b L : List Int) (i : Int) : (exec Try.prog (muC true) 80 0 muB (muS a b L i)).bind (fun r => (r.2.cut [2, 3, 4, 5, 6] 4).map fun q => (r.1, q)) =
    some (.normal, ⟨(muS a b L (iw (i + 1))).t, muH a b (muRow a b i (L, andT true (decide (i < 16)))).1, (muRow a b i (L, andT true (decide (i < 16)))).2⟩) := by kernel_rfl
set_option maxRecDepth 100000 in
theorem mu_end (a b L : List Int) (i : Int) : (exec Try.prog (muC false) 80 0 muB (muS a b L i)).bind (fun r => (r.2.cut [2, 3, 4, 5, 6] 4).map fun q => (r.1, q)) =
    some (.exit 0, ⟨(muS a b L i).t, muH a b L, andT true (!decide (i < 16))⟩) := by kernel_rfl
set_option maxRecDepth 100000 in
theorem mu_head (a b : List Int) : (execL Try.prog (muC true) 60 0 3 (atoms (bodyOf Try.f43)) ⟨slots0 Try.f43.ntmps [.agg [.ints .i64 16 a], .agg [.ints .i64 16 b]], [], true⟩).bind (St.cut [2, 3, 4, 5, 6] 4) = some (muS a b (List.replicate 32 0) 0) := by kernel_rfl
end Go.Proofs.Ytailgcdcdhhpnaa.Re
