/- This file proves the contract of the reference's small: the number modulo p. Conditions: parts of 50 bits, a number of 512 bits. -/
import Derived.Test.YtailgcdcdhhpnaaReD
namespace Go.Proofs.Ytailgcdcdhhpnaa.Re
open Go Go.Sy Fe

/-- The parts, 2^255 and more counted 19 times. -/
def gO (f : Nat → Int) (i : Nat) : Int := (if i = 15 then dC f 15 % 32768 else dC f i) + (if i = 0 then 19 * (dC f 15 / 32768) else 0)
theorem out_val {L : List Int} (h : ∀ i, i < 16 → 0 ≤ gD L i ∧ gD L i ≤ 1125899906842624) (hv : sB (gD L) 16 < B256) :
    okP (outL L) = true ∧ ∃ t, vR (outL L) = sB (gD L) 16 - t * Pm ∧ 0 ≤ vR (outL L) ∧ vR (outL L) < 57896044618658097711785492504343953926634992332820282019728792003956564819987 := by
  have hp := dC_part h
  have e0 := no_carry h (by rw [B256_pow]; exact hv)
  have p15 := hp 15 (by omega)
  have p0 := hp 0 (by omega)
  have hg : ∀ i, i < 16 → 0 ≤ gO (gD L) i ∧ gO (gD L) i ≤ 1125899906842624 := fun i hi => by
    have := hp i hi
    unfold gO
    split <;> split <;> omega
  -- the chain is the one of these parts
  have hm : ∀ i, i < 16 → mC (gD L) i = gO (gD L) i + cC (gO (gD L)) i := by
    intro i
    induction i with
    | zero =>
      intro _
      rw [mC, cC, gO, if_neg (by omega), if_pos rfl, Int.tdiv_eq_ediv_of_nonneg p15.1, iw, iw, iw, wrap_i64 (_ / 32768) (by omega) (by omega), wrap_i64 (19 * _) (by omega) (by omega), wrap_i64 _ (by omega) (by omega)]
      omega
    | succ i ih =>
      intro hi
      have c1 := cC_b hg (i + 1) (by omega)
      have c0 := cC_b hg i (by omega)
      have g0 := hg i (by omega)
      have g1 := hg (i + 1) hi
      have hsel : (if i = 14 then (dC (gD L) 15).tmod 32768 else dC (gD L) (i + 1)) = gO (gD L) (i + 1) := by
        unfold gO
        rw [if_neg (show ¬ i + 1 = 0 by omega), Int.add_zero]
        by_cases h14 : i = 14
        · subst h14
          rw [if_pos rfl, if_pos rfl, Int.tmod_eq_emod_of_nonneg p15.1]
        · rw [if_neg h14, if_neg (by omega)]
      rw [cC] at c1
      rw [mC, ih (by omega), hsel, cC, Int.tdiv_eq_ediv_of_nonneg (by omega), iw, iw, wrap_i64 ((gO (gD L) i + cC (gO (gD L)) i) / 65536) (by omega) (by omega), wrap_i64 _ (by omega) (by omega)]
  have hget : ∀ i, i < 16 → gD (outL L) i = (gO (gD L) i + cC (gO (gD L)) i) % 65536 := fun i hi => by
    unfold gD outL
    rw [List.getD_eq_getElem?_getD, List.getElem?_map, List.getElem?_range hi]
    show (mC (gD L) i).tmod 65536 = _
    have c0 := cC_b hg i (by omega)
    have g0 := hg i hi
    rw [hm i hi, Int.tmod_eq_emod_of_nonneg (by omega)]
    rfl
  have hok : okP (outL L) = true := okP_iff.2 ⟨by simp [outL], fun i hi => by have := hget i hi; unfold gD at this; rw [this]; omega⟩
  -- the sum of the parts
  have hs : sB (gO (gD L)) 16 = sB (gD L) 16 - (dC (gD L) 15 / 32768) * Pm := by
    rw [← e0]
    have s1 : sB (gO (gD L)) 16 = sB (gO (gD L)) 15 + gO (gD L) 15 * 65536 ^ 15 := rfl
    have s2 : sB (dC (gD L)) 16 = sB (dC (gD L)) 15 + dC (gD L) 15 * 65536 ^ 15 := rfl
    have s3 : sB (gO (gD L)) 15 = sB (dC (gD L)) 15 + 19 * (dC (gD L) 15 / 32768) := by
      have a1 := sB_split (gO (gD L)) 1 14
      have a2 := sB_split (dC (gD L)) 1 14
      have a3 : sB (fun i => gO (gD L) (1 + i)) 14 = sB (fun i => dC (gD L) (1 + i)) 14 := sB_congr 14 fun i hi => by
        show gO (gD L) (1 + i) = dC (gD L) (1 + i)
        unfold gO
        rw [if_neg (by omega), if_neg (by omega), Int.add_zero]
      have a4 : sB (gO (gD L)) 1 = dC (gD L) 0 + 19 * (dC (gD L) 15 / 32768) := by simp [sB, gO]
      have a5 : sB (dC (gD L)) 1 = dC (gD L) 0 := by simp [sB]
      show sB (gO (gD L)) (1 + 14) = sB (dC (gD L)) (1 + 14) + _
      rw [a1, a2, a3, a4, a5]
      omega
    have s4 : gO (gD L) 15 = dC (gD L) 15 % 32768 := by unfold gO; rw [if_pos rfl, if_neg (by omega), Int.add_zero]
    rw [s1, s2, s3, s4, Pm_eq]
    have hpw : (65536 : Int) ^ 15 = 1766847064778384329583297500742918515827483896875618958121606201292619776 := by decide
    rw [hpw]
    omega
  have hlt : sB (gO (gD L)) 16 < 57896044618658097711785492504343953926634992332820282019728792003956564819987 := by
    have s1 : sB (gO (gD L)) 16 = sB (gO (gD L)) 15 + gO (gD L) 15 * 65536 ^ 15 := rfl
    have s4 : gO (gD L) 15 = dC (gD L) 15 % 32768 := by unfold gO; rw [if_pos rfl, if_neg (by omega), Int.add_zero]
    have s3 : sB (gO (gD L)) 15 = sB (dC (gD L)) 15 + 19 * (dC (gD L) 15 / 32768) := by
      have a1 := sB_split (gO (gD L)) 1 14
      have a2 := sB_split (dC (gD L)) 1 14
      have a3 : sB (fun i => gO (gD L) (1 + i)) 14 = sB (fun i => dC (gD L) (1 + i)) 14 := sB_congr 14 fun i hi => by
        show gO (gD L) (1 + i) = dC (gD L) (1 + i)
        unfold gO
        rw [if_neg (by omega), if_neg (by omega), Int.add_zero]
      have a4 : sB (gO (gD L)) 1 = dC (gD L) 0 + 19 * (dC (gD L) 15 / 32768) := by simp [sB, gO]
      have a5 : sB (dC (gD L)) 1 = dC (gD L) 0 := by simp [sB]
      show sB (gO (gD L)) (1 + 14) = sB (dC (gD L)) (1 + 14) + _
      rw [a1, a2, a3, a4, a5]
      omega
    have r := sB_range 15 fun i hi => hp i (by omega)
    have hpw : (65536 : Int) ^ 15 = 1766847064778384329583297500742918515827483896875618958121606201292619776 := by decide
    rw [hpw] at r
    rw [s1, s3, s4, hpw]
    omega
  have hv2 : vR (outL L) = sB (gO (gD L)) 16 := by
    have e1 : sB (dC (gO (gD L))) 16 = sB (gO (gD L)) 16 := no_carry hg (by
      rw [B256_pow]
      have hB : B256 = 115792089237316195423570985008687907853269984665640564039457584007913129639936 := rfl
      rw [hB]; omega)
    rw [← e1]
    exact sB_congr 16 fun i hi => by rw [hget i hi, (nC_val hg i hi).2]
  refine ⟨hok, dC (gD L) 15 / 32768, by rw [hv2, hs], (vR_range hok).1, by rw [hv2]; exact hlt⟩

/-! ### The end: less p, if it is that at least -/
section
variable (L O : List Int)
noncomputable def smCW (x : Bool) : Ctr := mk (P := Try.prog) [primeE, atLeastE, minusE] [] fun i => if i = 98 then some x else none
theorem smCW_ok (x : Bool) : CtrSound Try.prog (smCW x) := mk_sound _ InlOK.nil _ _
set_option maxRecDepth 100000 in
theorem sm_wt : (exec Try.prog (smCW true) 80 0 smW (smQ L O)).bind (fun r => (r.2.cut [2, 3] 3).map fun q => (r.1, q)) =
    some (.normal, ⟨(smQ L O).t, smH L (mnF O prL), andT (andT (andT true (andT true (okP O && okP prL))) (decide (vR prL ≤ vR O))) (andT true (okP O && okP prL && decide (vR prL ≤ vR O)))⟩) := by kernel_rfl
set_option maxRecDepth 100000 in
theorem sm_wf : (exec Try.prog (smCW false) 80 0 smW (smQ L O)).bind (fun r => (r.2.cut [2, 3] 3).map fun q => (r.1, q)) =
    some (.exit 10, ⟨(smQ L O).t, smH L O, andT (andT true (andT true (okP O && okP prL))) (!decide (vR prL ≤ vR O))⟩) := by kernel_rfl
end
/-- The reference's parts of a number. -/
noncomputable def refN (n : Int) : List Int := Lock (digR n)
theorem refN_eq (n : Int) : refN n = digR n := Lock_eq _
theorem refN_ok (n : Int) : okP (refN n) = true := by rw [refN_eq]; exact digR_ok n
theorem vR_refN {n : Int} (h0 : 0 ≤ n) (h1 : n < Pm) : vR (refN n) = n := by rw [refN_eq]; exact vR_digR h0 (by rw [Pm_eq] at h1; omega)
theorem sm_while {L O : List Int} (ho : okP O = true) (h1 : vR O < 57896044618658097711785492504343953926634992332820282019728792003956564819987) :
    Tr Try.prog none 0 (nthC 12 (bodyOf Try.f66)) (smQ L O) .normal (smQ L (refN (vR O % Pm))) := by
  have h0 := (vR_range ho).1
  have hpr := prL_val
  have stop : ∀ Q : List Int, okP Q = true → vR Q < Pm → Tr Try.prog none 0 smW (smQ L Q) (.exit 10) (smQ L Q) := fun Q hq hlt => by
    have k := sm_wf L Q
    refine Tr.post (Tr.cut (smCW_ok false) 80 _ 3 (by omega) k ?_) (Ent.same rfl rfl)
    rw [hq, prL_ok, hpr, decide_eq_false (by omega)]; rfl
  by_cases hle : Pm ≤ vR O
  · have hm : mnF O prL = refN (vR O % Pm) := by
      rw [mnF, Lock_eq, refN_eq, hpr]
      congr 1
      rw [Pm_eq] at *
      omega
    have hr : Tr Try.prog none 0 smW (smQ L O) .normal (smQ L (refN (vR O % Pm))) := by
      have k := sm_wt L O
      rw [hm] at k
      refine Tr.post (Tr.cut (smCW_ok true) 80 _ 3 (by omega) k ?_) (Ent.same rfl rfl)
      rw [ho, prL_ok, hpr, decide_eq_true hle]; rfl
    refine Tr.loopR 10 (by kernel_rfl) (TrR.step hr (TrR.leave (stop _ (refN_ok _) ?_) (by simp)))
    have := Int.emod_lt_of_pos (vR O) Pm_pos
    rw [vR_refN (Int.emod_nonneg _ (by have := Pm_pos; omega)) this]
    exact this
  · have hq : refN (vR O % Pm) = O := by
      rw [refN_eq, Int.emod_eq_of_lt h0 (by omega), digR_vR ho]
    rw [hq]
    exact Tr.loopR 10 (by kernel_rfl) (TrR.leave (stop O ho (by omega)) (by simp))

/-! ### small -/
def okS (l : List Int) : Bool := decide (l.length = 32) && (l.all (fun x => decide (0 ≤ x) && decide (x ≤ 1125899906842624)) && decide (sB (gD l) 32 < B256 * B256))
theorem okS_iff {l : List Int} : okS l = true ↔ Lk l ∧ sB (gD l) 32 < B256 * B256 := by
  unfold okS
  rw [Bool.and_eq_true, Bool.and_eq_true, decide_eq_true_eq, decide_eq_true_eq, List.all_eq_true]
  constructor
  · rintro ⟨h1, h2, h3⟩
    refine ⟨⟨h1, fun i hi => ?_⟩, h3⟩
    have := h2 (gD l i) (by unfold gD; rw [List.getD_eq_getElem?_getD, List.getElem?_eq_getElem (by omega)]; exact List.getElem_mem _)
    simpa using this
  · rintro ⟨⟨h1, h2⟩, h3⟩
    refine ⟨h1, fun x hx => ?_, h3⟩
    obtain ⟨i, hi, rfl⟩ := List.getElem_of_mem hx
    have := h2 i (by omega)
    unfold gD at this
    rw [List.getD_eq_getElem?_getD, List.getElem?_eq_getElem hi] at this
    simpa using this
noncomputable def smF (l : List Int) : List Int := refN (sB (gD l) 32 % Pm)
theorem sm_fn {l : List Int} (h : okS l = true) : FnTr Try.prog 66 [.agg [.ints .i64 32 l]] [] (.agg [.ints .i64 16 (smF l)]) [] := by
  obtain ⟨hk, hv⟩ := okS_iff.1 h
  have hr := rnds_val hk hv
  have l32 : ∀ j, j ≤ 4 → lst 32 (rnds l j) = rnds l j := fun j hj => lst_eq (hr j hj).1.len
  have hloop : Tr Try.prog none 0 (nthC 3 (bodyOf Try.f66)) (smS l 0) .normal (smS (rnds l 4) 4) := by
    have key := Tr.loop (P := Try.prog) (ro := none) (k := 0) 0 (c := nthC 3 (bodyOf Try.f66)) (by kernel_rfl) (fun j : Nat => smS (rnds l j) j) 4 (s' := smS (rnds l 4) 4) (fun j hj => ?_) ?_
    · exact key
    · have k := sm_round (rnds l j) j
      rw [l32 j (by omega), iw, wrap_i64 _ (by omega) (by omega), show (j : Int) + 1 = ((j + 1 : Nat) : Int) by omega] at k
      refine Tr.post (Tr.cut (smC_ok true) 80 _ 3 (by omega) k ?_) (Ent.same rfl rfl)
      rw [decide_eq_true (by omega)]; rfl
    · have k := sm_rend (rnds l 4) 4
      exact Tr.post (Tr.cut (smC_ok false) 80 _ 3 (by omega) k rfl) (Ent.same rfl rfl)
  -- the last number of 16 parts
  obtain ⟨k4, v4⟩ := hr 4 (by omega)
  obtain ⟨k3, v3⟩ := hr 3 (by omega)
  have h0 : 0 ≤ sB (gD l) 32 := by
    have : ∀ n, n ≤ 32 → 0 ≤ sB (gD l) n := by
      intro n
      induction n with
      | zero => intro _; simp [sB]
      | succ n ih =>
        intro hn
        rw [sB]
        have h1 := ih (by omega)
        have h2 := Int.mul_nonneg (hk.b n (by omega)).1 (show 0 ≤ (65536 : Int) ^ n from Int.pow_nonneg (by omega))
        omega
    exact this 32 (Nat.le_refl _)
  obtain ⟨_, _, b3, b4⟩ := rvs_b h0 hv
  obtain ⟨_, _, z4, _⟩ := rnd_val k3 (by rw [v3]; have hB : B256 = 115792089237316195423570985008687907853269984665640564039457584007913129639936 := rfl; rw [hB] at b3 ⊢; omega)
  have e16 : sB (gD (rnds l 4)) 16 = rvs (sB (gD l) 32) 4 := by
    have := sB_split (gD (rnds l 4)) 16 16
    rw [sB_zero (f := fun i => gD (rnds l 4) (16 + i)) 16 (fun i hi => z4 (16 + i) (by omega) (by omega)), Int.mul_zero, Int.add_zero] at this
    rw [← this]
    exact v4
  obtain ⟨o1, t, o2, o3, o4⟩ := out_val (L := rnds l 4) (fun i hi => k4.b i (by omega)) (by rw [e16]; exact b4.2)
  have hmod : vR (outL (rnds l 4)) % Pm = sB (gD l) 32 % Pm := by
    rw [fv_sub o2, e16]
    show rv (rv (rv (rv (sB (gD l) 32)))) % Pm = _
    rw [rv_mod, rv_mod, rv_mod, rv_mod]
  have hw := sm_while (L := rnds l 4) o1 o4
  rw [hmod] at hw
  have ko := sm_out (rnds l 4)
  rw [l32 4 (by omega)] at ko
  refine FnTr.restM smC0_ok 60 13 0 Try.func66 (by simp) rfl (fun s' x hh => ?_) (s := smQ (rnds l 4) (smF l)) (p := true) (by kernel_rfl) rfl rfl rfl
  refine TrL.items smC0_ok 60 3 _ 3 (by simp) (sm_head l) rfl (by decide) ?_
  refine TrL.item 3 (by decide) hloop ?_
  refine TrL.items smC0_ok 80 8 _ 3 (by simp) ko rfl (by decide) ?_
  rw [List.drop_drop]
  exact TrL.item 12 (by decide) hw hh
noncomputable def smallEF : List SV → Option (SV × List Blk × Bool)
  | [.agg [.ints .i64 32 l]] => some (.agg [.ints .i64 16 (smF l)], [], okS l)
  | _ => none
noncomputable def smallE : Entry Try.prog := .val 66 _ Try.func66 (by decide) rfl false 0 smallEF fun vs v new e => by
  unfold smallEF at e
  split at e
  · simp only [Option.some.injEq, Prod.mk.injEq] at e
    obtain ⟨rfl, rfl, h⟩ := e
    exact sm_fn h
  · cases e
end Go.Proofs.Ytailgcdcdhhpnaa.Re
