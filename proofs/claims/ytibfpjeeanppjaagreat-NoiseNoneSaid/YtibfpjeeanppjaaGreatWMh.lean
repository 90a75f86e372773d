/- This file proves the contracts of the reference's Add, Sub, Mul: modulo p. Conditions: numbers below p. -/
import Derived.Test.YtibfpjeeanppjaaGreatWMg
set_option linter.all false
set_option maxRecDepth 100000
namespace Go.Proofs.YtibfpjeeanppjaaGreat.Re
open Go Go.Sy Fe
def okN (l : List Int) : Bool := okP l && decide (vR l < Pm)
theorem okN_iff {l : List Int} : okN l = true ↔ okP l = true ∧ vR l < Pm := by simp [okN]
theorem okN_range {l : List Int} (h : okN l = true) : 0 ≤ vR l ∧ vR l < Pm := ⟨(vR_range (okN_iff.1 h).1).1, (okN_iff.1 h).2⟩
theorem refN_okN {n : Int} (h0 : 0 ≤ n) (h1 : n < Pm) : okN (refN n) = true := okN_iff.2 ⟨refN_ok n, by rw [vR_refN h0 h1]; exact h1⟩
theorem refM_okN (n : Int) : okN (refN (n % Pm)) = true := refN_okN (Int.emod_nonneg _ (by have := Pm_pos; omega)) (Int.emod_lt_of_pos _ Pm_pos)
theorem vR_refM (n : Int) : vR (refN (n % Pm)) = n % Pm := vR_refN (Int.emod_nonneg _ (by have := Pm_pos; omega)) (Int.emod_lt_of_pos _ Pm_pos)
theorem VE.lst (k : IntKind) (n : Nat) (l : List Int) : VE (.agg [.ints k n l]) (.agg [.ints k n (lst n l)]) := Fe.VE.lst k n l
def addRL (a b : List Int) : List Int := (List.range 16).map (fun i => iw (a.getD i 0 + b.getD i 0)) ++ List.replicate 16 0
theorem addRL_get {a b : List Int} (ha : okP a = true) (hb : okP b = true) (i : Nat) (hi : i < 32) : gD (addRL a b) i = if i < 16 then gD a i + gD b i else 0 := by
  unfold gD addRL
  rw [List.getD_eq_getElem?_getD]
  by_cases h : i < 16
  · have p1 := (okP_iff.1 ha).2 i h
    have p2 := (okP_iff.1 hb).2 i h
    rw [List.getElem?_append_left (by simpa using h), List.getElem?_map, List.getElem?_range h, if_pos h]
    show iw (a.getD i 0 + b.getD i 0) = _
    rw [iw, wrap_i64 _ (by omega) (by omega)]
  · rw [List.getElem?_append_right (by simp; omega), if_neg h, List.getElem?_replicate, if_pos (by simp; omega)]; rfl
theorem sB32 {f : Nat → Int} (h : ∀ i, 16 ≤ i → i < 32 → f i = 0) : sB f 32 = sB f 16 := by
  have := sB_split f 16 16
  rw [sB_zero (f := fun i => f (16 + i)) 16 (fun i hi => h (16 + i) (by omega) (by omega)), Int.mul_zero, Int.add_zero] at this
  exact this
theorem addRL_val {a b : List Int} (ha : okP a = true) (hb : okP b = true) : okS (addRL a b) = true ∧ sB (gD (addRL a b)) 32 = vR a + vR b := by
  have g := addRL_get ha hb
  have e : sB (gD (addRL a b)) 32 = vR a + vR b := by
    rw [sB32 (fun i h1 h2 => by rw [g i h2, if_neg (by omega)]), sB_congr (g := fun i => gD a i + gD b i) 16 fun i hi => by rw [g i (by omega), if_pos hi], sB_add]
    rfl
  refine ⟨okS_iff.2 ⟨⟨by simp [addRL], fun i hi => ?_⟩, ?_⟩, e⟩
  · rw [g i hi]
    split
    · rename_i h
      have p1 := (okP_iff.1 ha).2 i h
      have p2 := (okP_iff.1 hb).2 i h
      unfold gD
      omega
    · omega
  · have r1 := vR_range ha
    have r2 := vR_range hb
    rw [e]
    show vR a + vR b < (115792089237316195423570985008687907853269984665640564039457584007913129639936 : Int) * 115792089237316195423570985008687907853269984665640564039457584007913129639936
    omega
theorem ctrSm : CtrSound Tryz.prog (mk [smallE] []) := mk_sound _ InlOK.nil _ _
theorem addR_fn {a b : List Int} (ha : okP a = true) (hb : okP b = true) : FnTr Tryz.prog 86 [.agg [.ints .i64 16 a], .agg [.ints .i64 16 b]] [] (.agg [.ints .i64 16 (refN ((vR a + vR b) % Pm))]) [] := by
  obtain ⟨h1, h2⟩ := addRL_val ha hb
  have key : FnTr Tryz.prog 86 [.agg [.ints .i64 16 a], .agg [.ints .i64 16 b]] [] (.agg [.ints .i64 16 (smF (addRL a b))]) [] :=
    call0 ctrSm 80 Tryz.func86 (p := andT true (andT true (okS (addRL a b)))) (by kernel_rfl) (by rw [h1]; rfl) rfl
  rw [smF, h2] at key
  exact key
noncomputable def addEF : List SV → Option (SV × List Blk × Bool)
  | [.agg [.ints .i64 16 a], .agg [.ints .i64 16 b]] => some (.agg [.ints .i64 16 (refN ((vR a + vR b) % Pm))], [], okP a && okP b)
  | _ => none
noncomputable def addE : Entry Tryz.prog := .val 86 _ Tryz.func86 (by decide) rfl false 0 addEF fun vs v new e => by
  unfold addEF at e
  split at e
  · simp only [Option.some.injEq, Prod.mk.injEq, Bool.and_eq_true] at e
    obtain ⟨rfl, rfl, ha, hb⟩ := e
    exact addR_fn ha hb
  · cases e
theorem mnF_eq (a b : List Int) : mnF a b = refN (vR a - vR b) := by rw [mnF, Lock_eq, refN_eq]
theorem ctrSub : CtrSound Tryz.prog (mk [primeE, minusE, addE] []) := mk_sound _ InlOK.nil _ _
theorem subR_fn {a b : List Int} (ha : okP a = true) (hb : okP b = true) (hle : vR b ≤ Pm) : FnTr Tryz.prog 87 [.agg [.ints .i64 16 a], .agg [.ints .i64 16 b]] [] (.agg [.ints .i64 16 (refN ((vR a - vR b) % Pm))]) [] := by
  have hm : okP (mnF prL b) = true := by rw [mnF_eq]; exact refN_ok _
  have r := vR_range hb
  have key : FnTr Tryz.prog 87 [.agg [.ints .i64 16 a], .agg [.ints .i64 16 b]] [] (.agg [.ints .i64 16 (refN ((vR a + vR (mnF prL b)) % Pm))]) [] :=
    call0 ctrSub 60 Tryz.func87 (p := andT (andT true (andT true (okP prL && okP b && decide (vR b ≤ vR prL)))) (andT true (okP a && okP (mnF prL b)))) (by kernel_rfl)
      (by rw [hb, ha, hm, prL_ok, prL_val, decide_eq_true hle]; rfl) rfl
  have hv : vR (mnF prL b) = Pm - vR b := by rw [mnF_eq, refN_eq, prL_val]; exact vR_digR (by omega) (by rw [Pm_eq]; omega)
  rw [hv, show vR a + (Pm - vR b) = (vR a - vR b) - (-1) * Pm by omega, fv_sub rfl] at key
  exact key
noncomputable def subEF : List SV → Option (SV × List Blk × Bool)
  | [.agg [.ints .i64 16 a], .agg [.ints .i64 16 b]] => some (.agg [.ints .i64 16 (refN ((vR a - vR b) % Pm))], [], okP a && okN b)
  | _ => none
noncomputable def subE : Entry Tryz.prog := .val 87 _ Tryz.func87 (by decide) rfl false 0 subEF fun vs v new e => by
  unfold subEF at e
  split at e
  · simp only [Option.some.injEq, Prod.mk.injEq, Bool.and_eq_true] at e
    obtain ⟨rfl, rfl, ha, hb⟩ := e
    have := okN_iff.1 hb
    exact subR_fn ha this.1 (by omega)
  · cases e
noncomputable def muC (x : Bool) : Ctr := mk (P := Tryz.prog) [] [] fun i => if i = 9 then some x else none
theorem muC_ok (x : Bool) : CtrSound Tryz.prog (muC x) := mk_sound _ InlOK.nil _ _
noncomputable def muH (a b L : List Int) : List Blk := [.b [.ints .i64 16 a], .b [.ints .i64 16 b], .b [.ints .i64 16 z16], .b [.ints .i64 32 L]]
noncomputable def muS (a b L : List Int) (i : Int) : St := ⟨slotsOf 35 [(2, .ptr 0 0 0), (3, .ptr 1 0 0), (4, .ptr 2 0 0), (5, .ptr 3 0 0), (6, .int .i64 i)], muH a b L, true⟩
noncomputable def muB : Code := inner (inner (nthC 3 (bodyOf Tryz.f88)))
def muStp (a b : List Int) (i : Int) (s : List Int × Bool) (j : Nat) : List Int × Bool :=
  (s.1.set (0 + (iw (i + j)).toNat) (iw (s.1.getD (0 + (iw (i + j)).toNat) 0 + iw (a.getD (0 + i.toNat) 0 * b.getD j 0))),
   andT (andT (andT (andT (andT (andT s.2 (inB (iw (i + j)) 32)) (decide (0 + (iw (i + j)).toNat < 32))) (inB i 16)) (decide (0 + i.toNat < 16))) (inB (iw (i + j)) 32)) (decide (0 + (iw (i + j)).toNat < 32) && decide (s.1.length = 32)))
def muRow (a b : List Int) (i : Int) (s : List Int × Bool) : List Int × Bool := [0, 1, 2, 3, 4, 5, 6, 7, 8, 9, 10, 11, 12, 13, 14, 15].foldl (muStp a b i) s
theorem mu_row (a b L : List Int) (i : Int) : (exec Tryz.prog (muC true) 80 0 muB (muS a b L i)).bind (fun r => (r.2.cut [2, 3, 4, 5, 6] 4).map fun q => (r.1, q)) =
    some (.normal, ⟨(muS a b L (iw (i + 1))).t, muH a b (muRow a b i (L, andT true (decide (i < 16)))).1, (muRow a b i (L, andT true (decide (i < 16)))).2⟩) := by kernel_rfl
theorem mu_end (a b L : List Int) (i : Int) : (exec Tryz.prog (muC false) 80 0 muB (muS a b L i)).bind (fun r => (r.2.cut [2, 3, 4, 5, 6] 4).map fun q => (r.1, q)) =
    some (.exit 0, ⟨(muS a b L i).t, muH a b L, andT true (!decide (i < 16))⟩) := by kernel_rfl
theorem mu_head (a b : List Int) : (execL Tryz.prog (muC true) 60 0 3 (atoms (bodyOf Tryz.f88)) ⟨slots0 Tryz.f88.ntmps [.agg [.ints .i64 16 a], .agg [.ints .i64 16 b]], [], true⟩).bind (St.cut [2, 3, 4, 5, 6] 4) = some (muS a b (List.replicate 32 0) 0) := by kernel_rfl
end Go.Proofs.YtibfpjeeanppjaaGreat.Re
namespace Go.Proofs.YtibfpjeeanppjaaGreat.Re
open Go Go.Sy Fe
def muN (a b : List Int) (i : Int) (s : List Int × Bool) : Nat → List Int × Bool
  | 0 => s
  | j + 1 => muStp a b i (muN a b i s j) j
theorem muRow_N (a b : List Int) (i : Int) (s : List Int × Bool) : muRow a b i s = muN a b i s 16 := rfl
theorem muN_val {a b L : List Int} {o : Bool} {i : Nat} (hi : i < 16) (hL : L.length = 32) (ho : o = true) : ∀ j : Nat, j ≤ 16 →
    (muN a b i (L, o) j).1.length = 32 ∧ (muN a b i (L, o) j).2 = true ∧ ∀ k, gD (muN a b i (L, o) j).1 k = if i ≤ k ∧ k < i + j then iw (gD L k + iw (gD a i * gD b (k - i))) else gD L k
  | 0, _ => ⟨hL, ho, fun k => by rw [if_neg (by omega)]; rfl⟩
  | j + 1, hj => by
    obtain ⟨h1, h2, h3⟩ := muN_val hi hL ho j (by omega)
    have e1 : iw ((i : Int) + (j : Int)) = ((i + j : Nat) : Int) := by rw [iw, wrap_i64 _ (by omega) (by omega)]; omega
    have e2 : 0 + (((i + j : Nat) : Int)).toNat = i + j := by omega
    have e3 : 0 + ((i : Int)).toNat = i := by omega
    rw [muN]
    generalize muN a b i (L, o) j = s at *
    unfold muStp
    rw [e1, e2, e3]
    refine ⟨by rw [List.length_set]; exact h1, ?_, fun k => ?_⟩
    · have b1 : inB ((i + j : Nat) : Int) 32 = true := by unfold inB; rw [decide_eq_true (by omega), decide_eq_true (by omega)]; rfl
      have b2 : inB (i : Int) 16 = true := by unfold inB; rw [decide_eq_true (by omega), decide_eq_true (by omega)]; rfl
      rw [h2, b1, b2, h1, decide_eq_true (show i + j < 32 by omega), decide_eq_true hi]; rfl
    · show (s.1.set (i + j) _).getD k 0 = _
      rw [List.getD_eq_getElem?_getD]
      by_cases hk : i + j = k
      · subst hk
        rw [List.getElem?_set_self (by omega), if_pos (by omega)]
        have := h3 (i + j)
        rw [if_neg (by omega)] at this
        show iw (gD s.1 (i + j) + iw (gD a i * gD b j)) = _
        rw [this, show i + j - i = j by omega]
      · rw [List.getElem?_set_ne hk, ← List.getD_eq_getElem?_getD]
        show gD s.1 k = _
        rw [h3 k]
        by_cases h4 : i ≤ k ∧ k < i + j
        · rw [if_pos h4, if_pos (by omega)]
        · rw [if_neg h4, if_neg (by omega)]
def mR (a b : List Int) : Nat → List Int
  | 0 => List.replicate 32 0
  | i + 1 => (muRow a b i (mR a b i, true)).1
theorem mR_len (a b : List Int) : ∀ i, i ≤ 16 → (mR a b i).length = 32
  | 0, _ => by simp [mR]
  | i + 1, h => by rw [mR, muRow_N]; exact (muN_val (by omega) (mR_len a b i (by omega)) rfl 16 (Nat.le_refl _)).1
theorem gD_replicate (n k : Nat) : gD (List.replicate n 0) k = 0 := by
  unfold gD
  rw [List.getD_eq_getElem?_getD, List.getElem?_replicate]
  split <;> rfl
theorem mR_get {a b : List Int} (ha : okP a = true) (hb : okP b = true) : ∀ i, i ≤ 16 → (∀ k, 0 ≤ gD (mR a b i) k ∧ gD (mR a b i) k ≤ 4294836225 * i) ∧
    (i < 16 → ∀ k, gD (mR a b (i + 1)) k = gD (mR a b i) k + if i ≤ k ∧ k < i + 16 then gD a i * gD b (k - i) else 0) := by
  have prod : ∀ i j, i < 16 → j < 16 → 0 ≤ gD a i * gD b j ∧ gD a i * gD b j ≤ 65535 * 65535 := fun i j h1 h2 => by
    have p1 := (okP_iff.1 ha).2 i h1
    have p2 := (okP_iff.1 hb).2 j h2
    exact mul_bound p1.1 (show gD a i ≤ 65535 by unfold gD; omega) p2.1 (show gD b j ≤ 65535 by unfold gD; omega)
  have step : ∀ i, i < 16 → (∀ k, 0 ≤ gD (mR a b i) k ∧ gD (mR a b i) k ≤ 4294836225 * i) → ∀ k, gD (mR a b (i + 1)) k = gD (mR a b i) k + if i ≤ k ∧ k < i + 16 then gD a i * gD b (k - i) else 0 := fun i hi hb' k => by
    have := (muN_val (a := a) (b := b) (o := true) hi (mR_len a b i (by omega)) rfl 16 (Nat.le_refl _)).2.2 k
    rw [mR, muRow_N, this]
    split
    · rename_i h
      have q := prod i (k - i) hi (by omega)
      have r := hb' k
      rw [iw, iw, wrap_i64 (gD a i * _) (by omega) (by omega), wrap_i64 _ (by omega) (by omega)]
    · omega
  intro i
  induction i with
  | zero =>
    intro _
    have h0 : ∀ k, 0 ≤ gD (mR a b 0) k ∧ gD (mR a b 0) k ≤ 4294836225 * ((0 : Nat) : Int) := fun k => by rw [mR, gD_replicate]; omega
    exact ⟨h0, fun h => step 0 h h0⟩
  | succ i ih =>
    intro h
    obtain ⟨h1, h2⟩ := ih (by omega)
    have h3 : ∀ k, 0 ≤ gD (mR a b (i + 1)) k ∧ gD (mR a b (i + 1)) k ≤ 4294836225 * ((i + 1 : Nat) : Int) := fun k => by
      rw [h2 (by omega) k]
      have r := h1 k
      split
      · have q := prod i (k - i) (by omega) (by omega)
        omega
      · omega
    exact ⟨h3, fun h => step (i + 1) h h3⟩
theorem window (c : Int) (g : Nat → Int) (i : Nat) (hi : i ≤ 16) : sB (fun k => if i ≤ k ∧ k < i + 16 then c * g (k - i) else 0) 32 = 65536 ^ i * (c * sB g 16) := by
  have h := sB_split (fun k => if i ≤ k ∧ k < i + 16 then c * g (k - i) else 0) i (32 - i)
  rw [show i + (32 - i) = 32 by omega] at h
  rw [h, sB_zero (f := fun k => if i ≤ k ∧ k < i + 16 then c * g (k - i) else 0) i (fun k hk => if_neg (by omega)), Int.zero_add]
  congr 1
  have h2 := sB_split (fun t => if i ≤ i + t ∧ i + t < i + 16 then c * g (i + t - i) else 0) 16 (16 - i)
  rw [show 16 + (16 - i) = 32 - i by omega] at h2
  rw [h2, sB_zero (f := fun t => if i ≤ i + (16 + t) ∧ i + (16 + t) < i + 16 then c * g (i + (16 + t) - i) else 0) (16 - i) (fun t ht => if_neg (by omega)), Int.mul_zero, Int.add_zero, ← sB_mul]
  refine sB_congr 16 fun t ht => ?_
  show (if i ≤ i + t ∧ i + t < i + 16 then c * g (i + t - i) else 0) = c * g t
  rw [if_pos (by omega), show i + t - i = t by omega]
theorem mR_sum {a b : List Int} (ha : okP a = true) (hb : okP b = true) : ∀ i, i ≤ 16 → sB (gD (mR a b i)) 32 = sB (gD a) i * vR b
  | 0, _ => by rw [sB_zero 32 fun k _ => by rw [mR, gD_replicate]]; simp [sB]
  | i + 1, h => by
    rw [sB_congr (g := fun k => gD (mR a b i) k + if i ≤ k ∧ k < i + 16 then gD a i * gD b (k - i) else 0) 32 fun k _ => (mR_get ha hb i (by omega)).2 (by omega) k, sB_add, mR_sum ha hb i (by omega), window _ _ i (by omega)]
    show sB (gD a) i * vR b + 65536 ^ i * (gD a i * vR b) = (sB (gD a) i + gD a i * 65536 ^ i) * vR b
    rw [Int.add_mul, ← Int.mul_assoc, Int.mul_comm (65536 ^ i)]
theorem mR_ok {a b : List Int} (ha : okP a = true) (hb : okP b = true) : okS (mR a b 16) = true ∧ sB (gD (mR a b 16)) 32 = vR a * vR b := by
  have e := mR_sum ha hb 16 (Nat.le_refl _)
  have e' : sB (gD (mR a b 16)) 32 = vR a * vR b := e
  refine ⟨okS_iff.2 ⟨⟨mR_len a b 16 (Nat.le_refl _), fun i hi => ?_⟩, ?_⟩, e'⟩
  · have := (mR_get ha hb 16 (Nat.le_refl _)).1 i
    omega
  · rw [e']
    have r1 := vR_range ha
    have r2 := vR_range hb
    have hB : B256 = 115792089237316195423570985008687907853269984665640564039457584007913129639936 := rfl
    have := mul_bound r1.1 (show vR a ≤ B256 - 1 by rw [hB]; omega) r2.1 (show vR b ≤ B256 - 1 by rw [hB]; omega)
    have h2 : (B256 - 1) * (B256 - 1) < B256 * B256 := by decide
    omega
theorem mulR_fn {a b : List Int} (ha : okP a = true) (hb : okP b = true) : FnTr Tryz.prog 88 [.agg [.ints .i64 16 a], .agg [.ints .i64 16 b]] [] (.agg [.ints .i64 16 (refN (vR a * vR b % Pm))]) [] := by
  obtain ⟨h1, h2⟩ := mR_ok ha hb
  have hloop : Tr Tryz.prog none 0 (nthC 3 (bodyOf Tryz.f88)) (muS a b (List.replicate 32 0) 0) .normal (muS a b (mR a b 16) 16) := by
    have key := Tr.loop (P := Tryz.prog) (ro := none) (k := 0) 0 (c := nthC 3 (bodyOf Tryz.f88)) (by kernel_rfl) (fun j : Nat => muS a b (mR a b j) j) 16 (s' := muS a b (mR a b 16) 16) (fun j hj => ?_) ?_
    · exact key
    · have k := mu_row a b (mR a b j) j
      have e1 : iw ((j : Int) + 1) = ((j + 1 : Nat) : Int) := by rw [iw, wrap_i64 _ (by omega) (by omega)]; omega
      have e2 : andT true (decide ((j : Int) < 16)) = true := by rw [decide_eq_true (by omega)]; rfl
      rw [e1, e2] at k
      refine Tr.post (Tr.cut (muC_ok true) 80 _ 4 (by omega) k ?_) (Ent.same rfl rfl)
      rw [muRow_N]
      exact (muN_val hj (mR_len a b j (by omega)) rfl 16 (Nat.le_refl _)).2.1
    · have k := mu_end a b (mR a b 16) 16
      exact Tr.post (Tr.cut (muC_ok false) 80 _ 4 (by omega) k rfl) (Ent.same rfl rfl)
  have key : FnTr Tryz.prog 88 [.agg [.ints .i64 16 a], .agg [.ints .i64 16 b]] [] (.agg [.ints .i64 16 (smF (mR a b 16))]) [] := by
    refine FnTr.restM ctrSm 60 4 0 Tryz.func88 (by simp) rfl (fun s' x h => ?_) (s := muS a b (mR a b 16) 16) (p := andT true (andT true (okS (mR a b 16)))) (by kernel_rfl) (by rw [h1]; rfl) rfl rfl
    refine TrL.items (muC_ok true) 60 3 _ 4 (by simp) (mu_head a b) rfl (by decide) ?_
    exact TrL.item 3 (by decide) hloop h
  rw [smF, h2] at key
  exact key
noncomputable def mulEF : List SV → Option (SV × List Blk × Bool)
  | [.agg [.ints .i64 16 a], .agg [.ints .i64 16 b]] => some (.agg [.ints .i64 16 (refN (vR a * vR b % Pm))], [], okP a && okP b)
  | _ => none
noncomputable def mulE : Entry Tryz.prog := .val 88 _ Tryz.func88 (by decide) rfl false 0 mulEF fun vs v new e => by
  unfold mulEF at e
  split at e
  · simp only [Option.some.injEq, Prod.mk.injEq, Bool.and_eq_true] at e
    obtain ⟨rfl, rfl, ha, hb⟩ := e
    exact mulR_fn ha hb
  · cases e
end Go.Proofs.YtibfpjeeanppjaaGreat.Re
namespace Go.Proofs.YtibfpjeeanppjaaGreat.Re
open Go Go.Sy Fe
abbrev uw (n : Int) : Int := IntKind.u8.wrap n
def frI (l : List Int) (i : Nat) : Int := iw (iw (l.getD (2 * i) 0) + iw (256 * iw (l.getD (2 * i + 1) 0)))
def frL (l : List Int) : List Int := (List.range 15).map (frI l) ++ [(frI l 15).tmod 32768] ++ List.replicate 16 0
theorem pair_eq {v : Int} (i : Nat) (hi : i < 16) : frI (digN 32 v) i = v / 65536 ^ i % 65536 := by
  unfold frI
  rw [digN_getD _ _ _ (by omega), digN_getD _ _ _ (by omega)]
  have h1 : v / 256 ^ (2 * i) = v / 65536 ^ i := by rw [Int.pow_mul]; rfl
  have h2 : v / 256 ^ (2 * i + 1) = v / 65536 ^ i / 256 := by
    rw [Int.pow_succ, ← Int.ediv_ediv_of_nonneg (Int.pow_nonneg (by omega)), h1]
  rw [h1, h2]
  generalize v / 65536 ^ i = Y
  rw [iw, iw, iw, iw, wrap_i64 (Y % 256) (by omega) (by omega), wrap_i64 (Y / 256 % 256) (by omega) (by omega), wrap_i64 (256 * _) (by omega) (by omega), wrap_i64 _ (by omega) (by omega)]
  omega
theorem frL_get {v : Int} (i : Nat) (hi : i < 32) : gD (frL (digN 32 v)) i = if i < 15 then v / 65536 ^ i % 65536 else if i = 15 then v / 65536 ^ 15 % 65536 % 32768 else 0 := by
  unfold gD frL
  rw [List.getD_eq_getElem?_getD, List.append_assoc]
  by_cases h : i < 15
  · rw [List.getElem?_append_left (by simpa using h), List.getElem?_map, List.getElem?_range h, if_pos h]
    show frI _ i = _
    exact pair_eq i (by omega)
  · rw [List.getElem?_append_right (by simp; omega), if_neg h]
    simp only [List.length_map, List.length_range]
    by_cases h2 : i = 15
    · subst h2
      rw [if_pos rfl]
      show (frI _ 15).tmod 32768 = _
      rw [pair_eq 15 (by omega), Int.tmod_eq_emod_of_nonneg (by omega)]
    · rw [if_neg h2, show i - 15 = (i - 16) + 1 by omega, List.singleton_append, List.getElem?_cons_succ, List.getElem?_replicate, if_pos (by omega)]; rfl
theorem frL_val {l : List Int} (hl : l.all u8 = true) (hn : l.length = 32) : okS (frL l) = true ∧ sB (gD (frL l)) 32 = val256 l % 57896044618658097711785492504343953926634992332820282019728792003956564819968 := by
  have hd := digN_val l hl
  rw [hn] at hd
  have v0 := val256_nonneg hl
  generalize val256 l = v at *
  subst hd
  have g := frL_get (v := v)
  have p15 : (65536 : Int) ^ 15 = 1766847064778384329583297500742918515827483896875618958121606201292619776 := by decide
  have e : sB (gD (frL (digN 32 v))) 32 = v % 57896044618658097711785492504343953926634992332820282019728792003956564819968 := by
    rw [sB32 (fun i h1 h2 => by rw [g i h2, if_neg (by omega), if_neg (by omega)])]
    have s1 : sB (gD (frL (digN 32 v))) 16 = sB (gD (frL (digN 32 v))) 15 + gD (frL (digN 32 v)) 15 * 65536 ^ 15 := rfl
    rw [s1, g 15 (by omega), if_neg (by omega), if_pos rfl, sB_congr (g := fun i => v / 65536 ^ i % 65536) 15 fun i hi => by rw [g i (by omega), if_pos hi], sB_dig v 15 v0, p15]
    omega
  refine ⟨okS_iff.2 ⟨⟨by simp [frL], fun i hi => ?_⟩, ?_⟩, e⟩
  · rw [g i hi]
    split
    · omega
    · split <;> omega
  · rw [e]
    show _ < (115792089237316195423570985008687907853269984665640564039457584007913129639936 : Int) * 115792089237316195423570985008687907853269984665640564039457584007913129639936
    omega
theorem fromR_fn {l : List Int} (hl : l.all u8 = true) (hn : l.length = 32) : FnTr Tryz.prog 75 [.agg [.ints .u8 32 l]] [] (.agg [.ints .i64 16 (refN (val256 l % 57896044618658097711785492504343953926634992332820282019728792003956564819968 % Pm))]) [] := by
  obtain ⟨h1, h2⟩ := frL_val hl hn
  have key : FnTr Tryz.prog 75 [.agg [.ints .u8 32 l]] [] (.agg [.ints .i64 16 (smF (frL l))]) [] :=
    call0 ctrSm 80 Tryz.func75 (p := andT true (andT true (okS (frL l)))) (by kernel_rfl) (by rw [h1]; rfl) rfl
  rw [smF, h2] at key
  exact key
def keyOK (l : List Int) : Bool := decide (l.length = 32) && l.all u8
theorem keyOK_iff {l : List Int} : keyOK l = true ↔ l.length = 32 ∧ l.all u8 = true := by simp [keyOK]
noncomputable def fromEF : List SV → Option (SV × List Blk × Bool)
  | [.agg [.ints .u8 32 l]] => some (.agg [.ints .i64 16 (refN (val256 l % 57896044618658097711785492504343953926634992332820282019728792003956564819968 % Pm))], [], keyOK l)
  | _ => none
noncomputable def fromE : Entry Tryz.prog := .val 75 _ Tryz.func75 (by decide) rfl false 0 fromEF fun vs v new e => by
  unfold fromEF at e
  split at e
  · simp only [Option.some.injEq, Prod.mk.injEq, keyOK_iff] at e
    obtain ⟨rfl, rfl, h1, h2⟩ := e
    exact fromR_fn h2 h1
  · cases e
def byL (a : List Int) : List Int := (List.range 32).map fun k => if k % 2 = 0 then uw ((a.getD (k / 2) 0).tmod 256) else uw (iw ((a.getD (k / 2) 0).tdiv 256))
theorem byL_val {a : List Int} (ha : okP a = true) : byL a = digN 32 (vR a) := by
  unfold byL
  rw [← dig_range]
  apply List.map_congr_left
  intro k hk
  rw [List.mem_range] at hk
  have h16 := (okP_iff.1 ha).2 (k / 2) (by omega)
  have hd : a.getD (k / 2) 0 = vR a / 65536 ^ (k / 2) % 65536 := sB_digit 16 (k / 2) (by omega) (okP_iff.1 ha).2
  rw [Int.tmod_eq_emod_of_nonneg h16.1, Int.tdiv_eq_ediv_of_nonneg h16.1, iw, wrap_i64 _ (by omega) (by omega), uw, uw, wrap_u8, wrap_u8, hd]
  by_cases he : k % 2 = 0
  · rw [if_pos he, show (256 : Int) ^ k = 65536 ^ (k / 2) by rw [show (65536 : Int) = 256 ^ 2 from rfl, ← Int.pow_mul]; congr 1; omega]
    generalize vR a / 65536 ^ (k / 2) = Y
    omega
  · rw [if_neg he, show (256 : Int) ^ k = 65536 ^ (k / 2) * 256 by rw [show (65536 : Int) = 256 ^ 2 from rfl, ← Int.pow_mul, ← Int.pow_succ]; congr 1; omega, ← Int.ediv_ediv_of_nonneg (Int.pow_nonneg (by omega))]
    generalize vR a / 65536 ^ (k / 2) = Y
    omega
theorem bytesR_fn {a : List Int} (ha : okP a = true) : FnTr Tryz.prog 89 [.agg [.ints .i64 16 a]] [] (.agg [.ints .u8 32 (Lock (digN 32 (vR a)))]) [] := by
  rw [Lock_eq, ← byL_val ha]
  exact call0 ctrSm 80 Tryz.func89 (p := true) (by kernel_rfl) rfl rfl
noncomputable def bytesEF : List SV → Option (SV × List Blk × Bool)
  | [.agg [.ints .i64 16 a]] => some (.agg [.ints .u8 32 (Lock (digN 32 (vR a)))], [], okP a)
  | _ => none
noncomputable def bytesE : Entry Tryz.prog := .val 89 _ Tryz.func89 (by decide) rfl false 0 bytesEF fun vs v new e => by
  unfold bytesEF at e
  split at e
  · simp only [Option.some.injEq, Prod.mk.injEq] at e
    obtain ⟨rfl, rfl, h1⟩ := e
    exact bytesR_fn h1
  · cases e
noncomputable def poC (x y : Bool) : Ctr := mk (P := Tryz.prog) [mulE] [] fun i => if i = 9 then some x else if i = 24 then some y else none
theorem poC_ok (x y : Bool) : CtrSound Tryz.prog (poC x y) := mk_sound _ InlOK.nil _ _
noncomputable def poB : Code := inner (inner (nthC 3 (bodyOf Tryz.f128)))
noncomputable def poH (a e o : List Int) : List Blk := [.b [.ints .i64 16 a], .b [.ints .i64 16 e], .b [.ints .i64 16 z16], .b [.ints .i64 16 o]]
noncomputable def poS (a e o : List Int) (i : Int) : St := ⟨slotsOf 29 [(2, .ptr 0 0 0), (3, .ptr 1 0 0), (4, .ptr 2 0 0), (5, .ptr 3 0 0), (6, .int .i64 i)], poH a e o, true⟩
def poBit (e : List Int) (i : Int) : Int := (shrI .i64 (e.getD (0 + (iw (i.tdiv 16)).toNat) 0) (IntKind.u64.wrap (i.tmod 16)).toNat).tmod 2
def poO (o : List Int) (i : Int) : Bool := andT (andT (andT (andT (andT true (decide (i ≥ 0))) (andT true (okP o && okP o))) (inB (iw (i.tdiv 16)) 16)) (decide (0 + (iw (i.tdiv 16)).toNat < 16))) (decide (0 ≤ IntKind.u64.wrap (i.tmod 16)))
noncomputable def sqR (o : List Int) : List Int := refN (vR o * vR o % Pm)
section
variable (a e o : List Int) (i : Int)
theorem po_one : (exec Tryz.prog (poC true true) 60 0 poB (poS a e o i)).bind (fun r => (r.2.cut [2, 3, 4, 5, 6] 4).map fun q => (r.1, q)) =
    some (.normal, ⟨(poS a e o (iw (i - 1))).t, poH a e (refN (vR (sqR o) * vR a % Pm)), andT (andT (poO o i) (poBit e i == 1)) (andT true (okP (sqR o) && okP a))⟩) := by kernel_rfl
theorem po_zero : (exec Tryz.prog (poC true false) 60 0 poB (poS a e o i)).bind (fun r => (r.2.cut [2, 3, 4, 5, 6] 4).map fun q => (r.1, q)) =
    some (.normal, ⟨(poS a e o (iw (i - 1))).t, poH a e (sqR o), andT (poO o i) (!(poBit e i == 1))⟩) := by kernel_rfl
theorem po_end : (exec Tryz.prog (poC false false) 60 0 poB (poS a e o i)).bind (fun r => (r.2.cut [2, 3, 4, 5, 6] 4).map fun q => (r.1, q)) =
    some (.exit 0, ⟨(poS a e o i).t, poH a e o, andT true (!decide (i ≥ 0))⟩) := by kernel_rfl
def one16 : List Int := 1 :: List.replicate 15 0
theorem po_head : (execL Tryz.prog (poC true true) 60 0 3 (atoms (bodyOf Tryz.f128)) ⟨slots0 Tryz.f128.ntmps [.agg [.ints .i64 16 a], .agg [.ints .i64 16 e]], [], true⟩).bind (St.cut [2, 3, 4, 5, 6] 4) = some (poS a e one16 255) := by kernel_rfl
end
theorem poBit_val {e : List Int} (he : okP e = true) {i : Nat} (h1 : i < 256) : poBit e i = vR e / 2 ^ i % 2 := by
  have e1 : (i : Int).tdiv 16 = ((i / 16 : Nat) : Int) := by rw [Int.tdiv_eq_ediv_of_nonneg (by omega)]; omega
  have e2 : (i : Int).tmod 16 = ((i % 16 : Nat) : Int) := by rw [Int.tmod_eq_emod_of_nonneg (by omega)]; omega
  have w1 : iw ((i / 16 : Nat) : Int) = ((i / 16 : Nat) : Int) := wrap_i64 _ (by omega) (by omega)
  have w2 : IntKind.u64.wrap ((i % 16 : Nat) : Int) = ((i % 16 : Nat) : Int) := by rw [wrap_u64]; omega
  have hd : e.getD (i / 16) 0 = vR e / 65536 ^ (i / 16) % 65536 := sB_digit 16 (i / 16) (by omega) (okP_iff.1 he).2
  unfold poBit
  rw [e1, e2, w1, w2, Int.toNat_natCast, Int.toNat_natCast, Nat.zero_add, hd, shr_eq _ _ _ (by show i % 16 ≤ 64; omega)]
  have hs : vR e / 65536 ^ (i / 16) / 2 ^ (i % 16) = vR e / 2 ^ i := by
    rw [Int.ediv_ediv_of_nonneg (Int.pow_nonneg (by omega)), show (65536 : Int) = 2 ^ 16 from rfl, ← Int.pow_mul, ← Int.pow_add]
    congr 2
    omega
  rw [← hs]
  generalize vR e / 65536 ^ (i / 16) = Y
  have hr : i % 16 = 0 ∨ i % 16 = 1 ∨ i % 16 = 2 ∨ i % 16 = 3 ∨ i % 16 = 4 ∨ i % 16 = 5 ∨ i % 16 = 6 ∨ i % 16 = 7 ∨ i % 16 = 8 ∨ i % 16 = 9 ∨ i % 16 = 10 ∨ i % 16 = 11 ∨ i % 16 = 12 ∨ i % 16 = 13 ∨ i % 16 = 14 ∨ i % 16 = 15 := by omega
  rcases hr with h | h | h | h | h | h | h | h | h | h | h | h | h | h | h | h <;> rw [h] <;> simp only [Int.reducePow] <;> rw [Int.tmod_eq_emod_of_nonneg (by omega)] <;> omega
theorem poO_iff {o : List Int} {i : Nat} (ho : okP o = true) (h1 : i < 256) : poO o i = true := by
  have e1 : (i : Int).tdiv 16 = ((i / 16 : Nat) : Int) := by rw [Int.tdiv_eq_ediv_of_nonneg (by omega)]; omega
  have e2 : (i : Int).tmod 16 = ((i % 16 : Nat) : Int) := by rw [Int.tmod_eq_emod_of_nonneg (by omega)]; omega
  have w1 : iw ((i / 16 : Nat) : Int) = ((i / 16 : Nat) : Int) := wrap_i64 _ (by omega) (by omega)
  have w2 : IntKind.u64.wrap ((i % 16 : Nat) : Int) = ((i % 16 : Nat) : Int) := by rw [wrap_u64]; omega
  have b : inB ((i / 16 : Nat) : Int) 16 = true := by unfold inB; rw [decide_eq_true (by omega), decide_eq_true (by omega)]; rfl
  unfold poO
  rw [e1, e2, w1, w2, ho, b, decide_eq_true (by omega), decide_eq_true (by omega), decide_eq_true (by omega)]; rfl
noncomputable def poN (a e : List Int) (j : Nat) : List Int := refN (pwm (vR a) (vR e / 2 ^ (256 - j)).toNat)
theorem pwm_range (x : Int) (n : Nat) : 0 ≤ pwm x n ∧ pwm x n < Pm := ⟨Int.emod_nonneg _ (by have := Pm_pos; omega), Int.emod_lt_of_pos _ Pm_pos⟩
theorem vR_poN (a e : List Int) (j : Nat) : vR (poN a e j) = pwm (vR a) (vR e / 2 ^ (256 - j)).toNat := vR_refN (pwm_range _ _).1 (pwm_range _ _).2
theorem pwm_mul (x : Int) (m n : Nat) : pwm x m * pwm x n % Pm = pwm x (m + n) := pow_mod_mul x m n
theorem pwm_one {x : Int} (h0 : 0 ≤ x) (h1 : x < Pm) : pwm x 1 = x := by unfold pwm; rw [Int.pow_one, Int.emod_eq_of_lt h0 h1]
theorem po_step {a e : List Int} (ha : okN a = true) (he : okP e = true) {j : Nat} (hj : j < 256) : Tr Tryz.prog none 0 poB (poS a e (poN a e j) (255 - j)) .normal (poS a e (poN a e (j + 1)) (255 - ((j + 1 : Nat) : Int))) := by
  have hi : (255 : Int) - j = ((255 - j : Nat) : Int) := by omega
  have hw : iw (255 - (j : Int) - 1) = 255 - ((j + 1 : Nat) : Int) := by rw [iw, wrap_i64 _ (by omega) (by omega)]; omega
  have ho := poO_iff (o := poN a e j) (i := 255 - j) (refN_ok _) (by omega)
  have hb := poBit_val he (i := 255 - j) (by omega)
  have r := vR_range he
  have ra := okN_range ha
  have hE : vR e / 2 ^ (256 - (j + 1)) = 2 * (vR e / 2 ^ (256 - j)) + vR e / 2 ^ (255 - j) % 2 := by
    have h1 : vR e / 2 ^ (256 - j) = vR e / 2 ^ (255 - j) / 2 := by
      rw [Int.ediv_ediv_of_nonneg (Int.pow_nonneg (by omega)), show 256 - j = (255 - j) + 1 by omega, Int.pow_succ]
    rw [h1, show 256 - (j + 1) = 255 - j by omega]
    omega
  have hnn : 0 ≤ vR e / 2 ^ (256 - j) := Int.ediv_nonneg r.1 (Int.pow_nonneg (by omega))
  have hsq : sqR (poN a e j) = refN (pwm (vR a) (2 * (vR e / 2 ^ (256 - j))).toNat) := by
    unfold sqR
    rw [vR_poN, pwm_mul]
    congr 2
    omega
  cases hc : (poBit e ((255 - j : Nat) : Int) == 1) with
  | true =>
    have k := po_one a e (poN a e j) (255 - j)
    rw [hw, hi] at k
    rw [hi]
    have h1 : vR e / 2 ^ (255 - j) % 2 = 1 := by rw [beq_iff_eq, hb] at hc; exact hc
    refine Tr.post (Tr.cut (poC_ok true true) 60 _ 4 (by omega) k ?_) (Ent.same rfl ?_)
    · rw [ho, hc, hsq, refN_ok, (okN_iff.1 ha).1]; rfl
    · show poH _ _ _ = poH _ _ _
      rw [hsq, vR_refN (pwm_range _ _).1 (pwm_range _ _).2]
      conv => lhs; arg 3; arg 1; arg 1; arg 2; rw [← pwm_one ra.1 ra.2]
      rw [pwm_mul, poN, hE, h1, show (2 * (vR e / 2 ^ (256 - j)) + 1).toNat = (2 * (vR e / 2 ^ (256 - j))).toNat + 1 by omega]
  | false =>
    have k := po_zero a e (poN a e j) (255 - j)
    rw [hw, hi] at k
    rw [hi]
    have h1 : vR e / 2 ^ (255 - j) % 2 = 0 := by rw [beq_eq_false_iff_ne, hb] at hc; omega
    refine Tr.post (Tr.cut (poC_ok true false) 60 _ 4 (by omega) k ?_) (Ent.same rfl ?_)
    · rw [ho, hc]; rfl
    · show poH _ _ _ = poH _ _ _
      rw [hsq, poN, hE, h1, Int.add_zero]
theorem powR_fn {a e : List Int} (ha : okN a = true) (he : okP e = true) : FnTr Tryz.prog 128 [.agg [.ints .i64 16 a], .agg [.ints .i64 16 e]] [] (.agg [.ints .i64 16 (refN (pwm (vR a) (vR e).toNat))]) [] := by
  have h0 : poN a e 0 = one16 := by
    have r := vR_range he
    rw [poN, Nat.sub_zero, show vR e / 2 ^ 256 = 0 by rw [show (2 : Int) ^ 256 = 115792089237316195423570985008687907853269984665640564039457584007913129639936 by decide]; omega, refN_eq]
    rw [show pwm (vR a) (Int.toNat 0) = 1 by simp only [pwm, Int.toNat_zero, Int.pow_zero]; decide]
    decide
  have hloop : Tr Tryz.prog none 0 (nthC 3 (bodyOf Tryz.f128)) (poS a e one16 255) .normal (poS a e (poN a e 256) (-1)) := by
    have key := Tr.loop (P := Tryz.prog) (ro := none) (k := 0) 0 (c := nthC 3 (bodyOf Tryz.f128)) (by kernel_rfl) (fun j : Nat => poS a e (poN a e j) (255 - j)) 256 (s' := poS a e (poN a e 256) (-1)) (fun j hj => ?_) ?_
    · rw [← h0]; exact key
    · exact po_step ha he hj
    · have k := po_end a e (poN a e 256) (-1)
      exact Tr.post (Tr.cut (poC_ok false false) 60 _ 4 (by omega) k rfl) (Ent.same rfl rfl)
  have e256 : refN (pwm (vR a) (vR e).toNat) = poN a e 256 := by rw [poN, Nat.sub_self, Int.pow_zero, Int.ediv_one]
  rw [e256]
  refine FnTr.restM (poC_ok true true) 60 4 0 Tryz.func128 (by simp) rfl (fun s' x h => ?_) (s := poS a e (poN a e 256) (-1)) (p := true) (by kernel_rfl) rfl rfl rfl
  refine TrL.items (poC_ok true true) 60 3 _ 4 (by simp) (po_head a e) rfl (by decide) ?_
  exact TrL.item 3 (by decide) hloop h
noncomputable def powEF : List SV → Option (SV × List Blk × Bool)
  | [.agg [.ints .i64 16 a], .agg [.ints .i64 16 e]] => some (.agg [.ints .i64 16 (refN (pwm (vR a) (vR e).toNat))], [], okN a && okP e)
  | _ => none
noncomputable def powE : Entry Tryz.prog := .val 128 _ Tryz.func128 (by decide) rfl false 0 powEF fun vs v new e => by
  unfold powEF at e
  split at e
  · simp only [Option.some.injEq, Prod.mk.injEq, Bool.and_eq_true] at e
    obtain ⟨rfl, rfl, h1, h2⟩ := e
    exact powR_fn h1 h2
  · cases e
end Go.Proofs.YtibfpjeeanppjaaGreat.Re
namespace Go.Proofs.YtibfpjeeanppjaaGreat.Re
open Go Go.Sy Fe
theorem ctrInv : CtrSound Tryz.prog (mk [primeE, minusE, powE] []) := mk_sound _ InlOK.nil _ _
def two16 : List Int := 2 :: List.replicate 15 0
theorem exp2 : vR (mnF prL two16) = Pm - 2 ∧ okP (mnF prL two16) = true := by
  rw [mnF_eq]
  refine ⟨?_, refN_ok _⟩
  rw [show vR prL - vR two16 = Pm - 2 by decide]
  exact vR_refN (by decide) (by decide)
theorem invR_fn {a : List Int} (ha : okN a = true) : FnTr Tryz.prog 90 [.agg [.ints .i64 16 a]] [] (.agg [.ints .i64 16 (refN (pwm (vR a) (Pm - 2).toNat))]) [] := by
  have key : FnTr Tryz.prog 90 [.agg [.ints .i64 16 a]] [] (.agg [.ints .i64 16 (refN (pwm (vR a) (vR (mnF prL two16)).toNat))]) [] :=
    call0 ctrInv 60 Tryz.func90 (p := andT (andT true (andT true (okP prL && okP two16 && decide (vR two16 ≤ vR prL)))) (andT true (okN a && okP (mnF prL two16)))) (by kernel_rfl)
      (by rw [ha, exp2.2]; decide) rfl
  rw [exp2.1] at key
  exact key
noncomputable def invEF : List SV → Option (SV × List Blk × Bool)
  | [.agg [.ints .i64 16 a]] => some (.agg [.ints .i64 16 (refN (pwm (vR a) (Pm - 2).toNat))], [], okN a)
  | _ => none
noncomputable def invE : Entry Tryz.prog := .val 90 _ Tryz.func90 (by decide) rfl false 0 invEF fun vs v new e => by
  unfold invEF at e
  split at e
  · simp only [Option.some.injEq, Prod.mk.injEq] at e
    obtain ⟨rfl, rfl, h1⟩ := e
    exact invR_fn h1
  · cases e
end Go.Proofs.YtibfpjeeanppjaaGreat.Re
