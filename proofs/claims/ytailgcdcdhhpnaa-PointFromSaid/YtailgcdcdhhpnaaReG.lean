/- This file proves the contract of the reference's Mul: modulo p. Conditions: numbers below p. -/
import Derived.Test.YtailgcdcdhhpnaaReF
namespace Go.Proofs.Ytailgcdcdhhpnaa.Re
open Go Go.Sy Fe

def muN (a b : List Int) (i : Int) (s : List Int × Bool) : Nat → List Int × Bool
  | 0 => s
  | j + 1 => muStp a b i (muN a b i s j) j
theorem muRow_N (a b : List Int) (i : Int) (s : List Int × Bool) : muRow a b i s = muN a b i s 16 := rfl
theorem muN_val {a b L : List Int} {o : Bool} {i : Nat} (hi : i < 16) (hL : L.length = 32) (ho : o = true) : ∀ j : Nat, j ≤ 16 →
    (muN a b i (L, o) j).1.length = 32 ∧ (muN a b i (L, o) j).2 = true ∧ ∀ k, gD (muN a b i (L, o) j).1 k = if i ≤ k ∧ k < i + j then iw (gD L k + iw (gD a i * gD b (k - i))) else gD L k
  | 0, _ => ⟨hL, ho, fun k => by rw [if_neg (by omega)]; rfl⟩
  | j + 1, hj => by
    obtain ⟨h1, h2, h3⟩ := muN_val hi hL ho j (by omega)
    have e1 : iw ((i : Int) + (j : Int)) = ((i + j : Nat) : Int) := by rw [iw, wrap_i64 _ (by omega) (by omega)]; omega
    have e2 : 0 + (((i + j : Nat) : Int)).toNat = i + j := by omega
    have e3 : 0 + ((i : Int)).toNat = i := by omega
    rw [muN]
    generalize muN a b i (L, o) j = s at *
    unfold muStp
    rw [e1, e2, e3]
    refine ⟨by rw [List.length_set]; exact h1, ?_, fun k => ?_⟩
    · have b1 : inB ((i + j : Nat) : Int) 32 = true := by unfold inB; rw [decide_eq_true (by omega), decide_eq_true (by omega)]; rfl
      have b2 : inB (i : Int) 16 = true := by unfold inB; rw [decide_eq_true (by omega), decide_eq_true (by omega)]; rfl
      rw [h2, b1, b2, h1, decide_eq_true (show i + j < 32 by omega), decide_eq_true hi]; rfl
    · show (s.1.set (i + j) _).getD k 0 = _
      rw [List.getD_eq_getElem?_getD]
      by_cases hk : i + j = k
      · subst hk
        rw [List.getElem?_set_self (by omega), if_pos (by omega)]
        have := h3 (i + j)
        rw [if_neg (by omega)] at this
        show iw (gD s.1 (i + j) + iw (gD a i * gD b j)) = _
        rw [this, show i + j - i = j by omega]
      · rw [List.getElem?_set_ne hk, ← List.getD_eq_getElem?_getD]
        show gD s.1 k = _
        rw [h3 k]
        by_cases h4 : i ≤ k ∧ k < i + j
        · rw [if_pos h4, if_pos (by omega)]
        · rw [if_neg h4, if_neg (by omega)]
/-- The parts behind so many rows. -/
def mR (a b : List Int) : Nat → List Int
  | 0 => List.replicate 32 0
  | i + 1 => (muRow a b i (mR a b i, true)).1
theorem mR_len (a b : List Int) : ∀ i, i ≤ 16 → (mR a b i).length = 32
  | 0, _ => by simp [mR]
  | i + 1, h => by rw [mR, muRow_N]; exact (muN_val (by omega) (mR_len a b i (by omega)) rfl 16 (Nat.le_refl _)).1
theorem gD_replicate (n k : Nat) : gD (List.replicate n 0) k = 0 := by
  unfold gD
  rw [List.getD_eq_getElem?_getD, List.getElem?_replicate]
  split <;> rfl
theorem mR_get {a b : List Int} (ha : okP a = true) (hb : okP b = true) : ∀ i, i ≤ 16 → (∀ k, 0 ≤ gD (mR a b i) k ∧ gD (mR a b i) k ≤ 4294836225 * i) ∧
    (i < 16 → ∀ k, gD (mR a b (i + 1)) k = gD (mR a b i) k + if i ≤ k ∧ k < i + 16 then gD a i * gD b (k - i) else 0) := by
  have prod : ∀ i j, i < 16 → j < 16 → 0 ≤ gD a i * gD b j ∧ gD a i * gD b j ≤ 65535 * 65535 := fun i j h1 h2 => by
    have p1 := (okP_iff.1 ha).2 i h1
    have p2 := (okP_iff.1 hb).2 j h2
    exact mul_bound p1.1 (show gD a i ≤ 65535 by unfold gD; omega) p2.1 (show gD b j ≤ 65535 by unfold gD; omega)
  have step : ∀ i, i < 16 → (∀ k, 0 ≤ gD (mR a b i) k ∧ gD (mR a b i) k ≤ 4294836225 * i) → ∀ k, gD (mR a b (i + 1)) k = gD (mR a b i) k + if i ≤ k ∧ k < i + 16 then gD a i * gD b (k - i) else 0 := fun i hi hb' k => by
    have := (muN_val (a := a) (b := b) (o := true) hi (mR_len a b i (by omega)) rfl 16 (Nat.le_refl _)).2.2 k
    rw [mR, muRow_N, this]
    split
    · rename_i h
      have q := prod i (k - i) hi (by omega)
      have r := hb' k
      rw [iw, iw, wrap_i64 (gD a i * _) (by omega) (by omega), wrap_i64 _ (by omega) (by omega)]
    · omega
  intro i
  induction i with
  | zero =>
    intro _
    have h0 : ∀ k, 0 ≤ gD (mR a b 0) k ∧ gD (mR a b 0) k ≤ 4294836225 * ((0 : Nat) : Int) := fun k => by rw [mR, gD_replicate]; omega
    exact ⟨h0, fun h => step 0 h h0⟩
  | succ i ih =>
    intro h
    obtain ⟨h1, h2⟩ := ih (by omega)
    have h3 : ∀ k, 0 ≤ gD (mR a b (i + 1)) k ∧ gD (mR a b (i + 1)) k ≤ 4294836225 * ((i + 1 : Nat) : Int) := fun k => by
      rw [h2 (by omega) k]
      have r := h1 k
      split
      · have q := prod i (k - i) (by omega) (by omega)
        omega
      · omega
    exact ⟨h3, fun h => step (i + 1) h h3⟩
theorem window (c : Int) (g : Nat → Int) (i : Nat) (hi : i ≤ 16) : sB (fun k => if i ≤ k ∧ k < i + 16 then c * g (k - i) else 0) 32 = 65536 ^ i * (c * sB g 16) := by
  have h := sB_split (fun k => if i ≤ k ∧ k < i + 16 then c * g (k - i) else 0) i (32 - i)
  rw [show i + (32 - i) = 32 by omega] at h
  rw [h, sB_zero (f := fun k => if i ≤ k ∧ k < i + 16 then c * g (k - i) else 0) i (fun k hk => if_neg (by omega)), Int.zero_add]
  congr 1
  have h2 := sB_split (fun t => if i ≤ i + t ∧ i + t < i + 16 then c * g (i + t - i) else 0) 16 (16 - i)
  rw [show 16 + (16 - i) = 32 - i by omega] at h2
  rw [h2, sB_zero (f := fun t => if i ≤ i + (16 + t) ∧ i + (16 + t) < i + 16 then c * g (i + (16 + t) - i) else 0) (16 - i) (fun t ht => if_neg (by omega)), Int.mul_zero, Int.add_zero, ← sB_mul]
  refine sB_congr 16 fun t ht => ?_
  show (if i ≤ i + t ∧ i + t < i + 16 then c * g (i + t - i) else 0) = c * g t
  rw [if_pos (by omega), show i + t - i = t by omega]
theorem mR_sum {a b : List Int} (ha : okP a = true) (hb : okP b = true) : ∀ i, i ≤ 16 → sB (gD (mR a b i)) 32 = sB (gD a) i * vR b
  | 0, _ => by rw [sB_zero 32 fun k _ => by rw [mR, gD_replicate]]; simp [sB]
  | i + 1, h => by
    rw [sB_congr (g := fun k => gD (mR a b i) k + if i ≤ k ∧ k < i + 16 then gD a i * gD b (k - i) else 0) 32 fun k _ => (mR_get ha hb i (by omega)).2 (by omega) k, sB_add, mR_sum ha hb i (by omega), window _ _ i (by omega)]
    show sB (gD a) i * vR b + 65536 ^ i * (gD a i * vR b) = (sB (gD a) i + gD a i * 65536 ^ i) * vR b
    rw [Int.add_mul, ← Int.mul_assoc, Int.mul_comm (65536 ^ i)]
theorem mR_ok {a b : List Int} (ha : okP a = true) (hb : okP b = true) : okS (mR a b 16) = true ∧ sB (gD (mR a b 16)) 32 = vR a * vR b := by
  have e := mR_sum ha hb 16 (Nat.le_refl _)
  have e' : sB (gD (mR a b 16)) 32 = vR a * vR b := e
  refine ⟨okS_iff.2 ⟨⟨mR_len a b 16 (Nat.le_refl _), fun i hi => ?_⟩, ?_⟩, e'⟩
  · have := (mR_get ha hb 16 (Nat.le_refl _)).1 i
    omega
  · rw [e']
    have r1 := vR_range ha
    have r2 := vR_range hb
    have hB : B256 = 115792089237316195423570985008687907853269984665640564039457584007913129639936 := rfl
    have := mul_bound r1.1 (show vR a ≤ B256 - 1 by rw [hB]; omega) r2.1 (show vR b ≤ B256 - 1 by rw [hB]; omega)
    have h2 : (B256 - 1) * (B256 - 1) < B256 * B256 := by decide
    omega
set_option maxRecDepth 100000 in
theorem mulR_fn {a b : List Int} (ha : okP a = true) (hb : okP b = true) : FnTr Try.prog 43 [.agg [.ints .i64 16 a], .agg [.ints .i64 16 b]] [] (.agg [.ints .i64 16 (refN (vR a * vR b % Pm))]) [] := by
  obtain ⟨h1, h2⟩ := mR_ok ha hb
  have hloop : Tr Try.prog none 0 (nthC 3 (bodyOf Try.f43)) (muS a b (List.replicate 32 0) 0) .normal (muS a b (mR a b 16) 16) := by
    have key := Tr.loop (P := Try.prog) (ro := none) (k := 0) 0 (c := nthC 3 (bodyOf Try.f43)) (by kernel_rfl) (fun j : Nat => muS a b (mR a b j) j) 16 (s' := muS a b (mR a b 16) 16) (fun j hj => ?_) ?_
    · exact key
    · have k := mu_row a b (mR a b j) j
      have e1 : iw ((j : Int) + 1) = ((j + 1 : Nat) : Int) := by rw [iw, wrap_i64 _ (by omega) (by omega)]; omega
      have e2 : andT true (decide ((j : Int) < 16)) = true := by rw [decide_eq_true (by omega)]; rfl
      rw [e1, e2] at k
      refine Tr.post (Tr.cut (muC_ok true) 80 _ 4 (by omega) k ?_) (Ent.same rfl rfl)
      rw [muRow_N]
      exact (muN_val hj (mR_len a b j (by omega)) rfl 16 (Nat.le_refl _)).2.1
    · have k := mu_end a b (mR a b 16) 16
      exact Tr.post (Tr.cut (muC_ok false) 80 _ 4 (by omega) k rfl) (Ent.same rfl rfl)
  have key : FnTr Try.prog 43 [.agg [.ints .i64 16 a], .agg [.ints .i64 16 b]] [] (.agg [.ints .i64 16 (smF (mR a b 16))]) [] := by
    refine FnTr.restM ctrSm 60 4 0 Try.func43 (by simp) rfl (fun s' x h => ?_) (s := muS a b (mR a b 16) 16) (p := andT true (andT true (okS (mR a b 16)))) (by kernel_rfl) (by rw [h1]; rfl) rfl rfl
    refine TrL.items (muC_ok true) 60 3 _ 4 (by simp) (mu_head a b) rfl (by decide) ?_
    exact TrL.item 3 (by decide) hloop h
  rw [smF, h2] at key
  exact key
noncomputable def mulEF : List SV → Option (SV × List Blk × Bool)
  | [.agg [.ints .i64 16 a], .agg [.ints .i64 16 b]] => some (.agg [.ints .i64 16 (refN (vR a * vR b % Pm))], [], okP a && okP b)
  | _ => none
noncomputable def mulE : Entry Try.prog := .val 43 _ Try.func43 (by decide) rfl false 0 mulEF fun vs v new e => by
  unfold mulEF at e
  split at e
  · simp only [Option.some.injEq, Prod.mk.injEq, Bool.and_eq_true] at e
    obtain ⟨rfl, rfl, ha, hb⟩ := e
    exact mulR_fn ha hb
  · cases e
end Go.Proofs.Ytailgcdcdhhpnaa.Re
