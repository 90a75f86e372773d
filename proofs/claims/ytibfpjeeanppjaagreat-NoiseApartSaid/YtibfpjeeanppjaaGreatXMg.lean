/- This file proves contracts of the reference's numbers: prime, atLeast, minus. Conditions: parts within 16 bits. -/
import Derived.Test.YtibfpjeeanppjaaGreatXMf
set_option linter.all false
set_option maxRecDepth 100000
namespace Go.Proofs.YtibfpjeeanppjaaGreat.Re
open Go Go.Sy Fe
def sB (f : Nat → Int) : Nat → Int
  | 0 => 0
  | n + 1 => sB f n + f n * 65536 ^ n
theorem dH {f g : Nat → Int} : ∀ (n : Nat), (∀ i, i < n → f i = g i) → sB f n = sB g n
  | 0, _ => rfl
  | n + 1, h => by rw [sB, sB, dH n fun i hi => h i (by omega), h n (by omega)]
theorem zu (f g : Nat → Int) : ∀ n : Nat, sB (fun i => f i + g i) n = sB f n + sB g n
  | 0 => rfl
  | n + 1 => by rw [sB, sB, sB, zu f g n, Int.add_mul]; omega
theorem DW (c : Int) (f : Nat → Int) : ∀ n : Nat, sB (fun i => c * f i) n = c * sB f n
  | 0 => by simp [sB]
  | n + 1 => by rw [sB, sB, DW c f n, Int.mul_add, Int.mul_assoc]
theorem lX {f : Nat → Int} : ∀ (n : Nat), (∀ i, i < n → f i = 0) → sB f n = 0
  | 0, _ => rfl
  | n + 1, h => by rw [sB, lX n fun i hi => h i (by omega), h n (by omega)]; simp
theorem eU (f : Nat → Int) (a : Nat) : ∀ n : Nat, sB f (a + n) = sB f a + 65536 ^ a * sB (fun i => f (a + i)) n
  | 0 => by simp [sB]
  | n + 1 => by
    rw [← Nat.add_assoc, sB, sB, eU f a n, Int.mul_add, Int.pow_add]
    have : f (a + n) * (65536 ^ a * 65536 ^ n) = 65536 ^ a * (f (a + n) * 65536 ^ n) := by rw [← Int.mul_assoc, Int.mul_comm (f (a + n)), Int.mul_assoc]
    omega
theorem gl {f : Nat → Int} : ∀ (n : Nat), (∀ i, i < n → 0 ≤ f i ∧ f i < 65536) → 0 ≤ sB f n ∧ sB f n < 65536 ^ n
  | 0, _ => by simp [sB]
  | n + 1, h => by
    have ih := gl n fun i hi => h i (by omega)
    have hn := h n (by omega)
    have hp : (0 : Int) < 65536 ^ n := Int.pow_pos (by omega)
    rw [sB, Int.pow_succ]
    have h1 : 0 ≤ f n * 65536 ^ n := Int.mul_nonneg hn.1 (by omega)
    have h2 : f n * 65536 ^ n ≤ 65535 * 65536 ^ n := Int.mul_le_mul_of_nonneg_right (by omega) (by omega)
    omega
theorem qT {f : Nat → Int} : ∀ (n i : Nat), i < n → (∀ i, i < n → 0 ≤ f i ∧ f i < 65536) → f i = sB f n / 65536 ^ i % 65536
  | 0, i, h, _ => by omega
  | n + 1, i, h, hf => by
    have hp : (0 : Int) < 65536 ^ n := Int.pow_pos (by omega)
    have hr := gl n fun i hi => hf i (by omega)
    rw [sB]
    by_cases hi : i = n
    · subst hi
      rw [Int.add_mul_ediv_right _ _ (by omega), Int.ediv_eq_zero_of_lt hr.1 hr.2, Int.zero_add]
      have := hf i (by omega)
      omega
    · rw [qT n i (by omega) fun i hi => hf i (by omega)]
      have hq : (65536 : Int) ^ n = 65536 ^ i * (65536 * 65536 ^ (n - i - 1)) := by
        rw [← Int.pow_succ', ← Int.pow_add]; congr 1; omega
      have Fy : (65536 : Int) ^ i ≠ 0 := by have : (0 : Int) < 65536 ^ i := Int.pow_pos (by omega); omega
      rw [hq, show f n * (65536 ^ i * (65536 * 65536 ^ (n - i - 1))) = 65536 ^ i * (f n * (65536 * 65536 ^ (n - i - 1))) by rw [← Int.mul_assoc, Int.mul_comm (f n), Int.mul_assoc],
        Int.add_mul_ediv_left _ _ Fy, show f n * (65536 * 65536 ^ (n - i - 1)) = 65536 * (f n * 65536 ^ (n - i - 1)) by rw [← Int.mul_assoc, Int.mul_comm (f n), Int.mul_assoc], Int.add_mul_emod_self_left]
theorem TU {f g : Nat → Int} {n m : Nat} (hm : m < n) (hf : ∀ i, i < n → 0 ≤ f i ∧ f i < 65536) (hg : ∀ i, i < n → 0 ≤ g i ∧ g i < 65536) (he : ∀ i, m < i → i < n → f i = g i) (hl : f m < g m) : sB f n < sB g n := by
  have key : ∀ k : Nat, m < k → k ≤ n → sB f k < sB g k := by
    intro k
    induction k with
    | zero => intro h; omega
    | succ k ih =>
      intro h1 h2
      rw [sB, sB]
      by_cases hk : k = m
      · subst hk
        have r1 := gl k fun i hi => hf i (by omega)
        have r2 := gl k fun i hi => hg i (by omega)
        have hp : (0 : Int) < 65536 ^ k := Int.pow_pos (by omega)
        have : f k * 65536 ^ k + 65536 ^ k ≤ g k * 65536 ^ k := by
          have := Int.mul_le_mul_of_nonneg_right (show f k + 1 ≤ g k by omega) (show 0 ≤ (65536 : Int) ^ k by omega)
          rw [Int.add_mul, Int.one_mul] at this
          exact this
        omega
      · have := ih (by omega) (by omega)
        rw [he k (by omega) (by omega)]
        omega
  exact key n hm (Nat.le_refl _)
def gD (l : List Int) : Nat → Int := fun i => l.getD i 0
def vR (l : List Int) : Int := sB (gD l) 16
def part (x : Int) : Bool := decide (0 ≤ x) && decide (x < 65536)
theorem BP {x : Int} : part x = true ↔ 0 ≤ x ∧ x < 65536 := by simp [part]
def cD (l : List Int) : Bool := decide (l.length = 16) && l.all part
theorem cm {l : List Int} : cD l = true ↔ l.length = 16 ∧ ∀ i, i < 16 → 0 ≤ l.getD i 0 ∧ l.getD i 0 < 65536 := by
  unfold cD
  rw [Bool.and_eq_true, decide_eq_true_eq, List.all_eq_true]
  constructor
  · rintro ⟨h1, h2⟩
    refine ⟨h1, fun i hi => BP.1 (h2 _ ?_)⟩
    rw [List.getD_eq_getElem?_getD, List.getElem?_eq_getElem (by omega)]
    exact List.getElem_mem _
  · rintro ⟨h1, h2⟩
    refine ⟨h1, fun x hx => ?_⟩
    obtain ⟨i, hi, rfl⟩ := List.getElem_of_mem hx
    have := h2 i (by omega)
    rw [List.getD_eq_getElem?_getD, List.getElem?_eq_getElem hi] at this
    exact BP.2 this
def pQ (n : Int) : List Int := (List.range 16).map fun i => n / 65536 ^ i % 65536
theorem vY (n : Int) {i : Nat} (h : i < 16) : (pQ n).getD i 0 = n / 65536 ^ i % 65536 := by
  unfold pQ
  rw [List.getD_eq_getElem?_getD, List.getElem?_map, List.getElem?_range h]; rfl
theorem QF (n : Int) : cD (pQ n) = true := cm.2 ⟨by simp [pQ], fun i hi => by rw [vY n hi]; omega⟩
theorem FQ {l : List Int} (h : cD l = true) : pQ (vR l) = l := by
  obtain ⟨h1, h2⟩ := cm.1 h
  apply List.ext_getElem?
  intro i
  by_cases hi : i < 16
  · have e1 : (pQ (vR l))[i]? = some ((pQ (vR l)).getD i 0) := by rw [List.getD_eq_getElem?_getD, List.getElem?_eq_getElem (by simp [pQ]; omega)]; rfl
    have e2 : l[i]? = some (l.getD i 0) := by rw [List.getD_eq_getElem?_getD, List.getElem?_eq_getElem (by omega)]; rfl
    rw [e1, e2, vY _ hi]
    congr 1
    exact (qT 16 i hi h2).symm
  · rw [List.getElem?_eq_none (by simp [pQ]; omega), List.getElem?_eq_none (by omega)]
theorem DX (n : Int) : ∀ k : Nat, 0 ≤ n → sB (fun i => n / 65536 ^ i % 65536) k = n % 65536 ^ k
  | 0, h => by simp [sB]
  | k + 1, h => by
    rw [sB, DX n k h, Int.pow_succ]
    have hp : (0 : Int) < 65536 ^ k := Int.pow_pos (by omega)
    have h1 := Int.mul_ediv_add_emod n (65536 ^ k)
    have h2 := Int.mul_ediv_add_emod (n / 65536 ^ k) 65536
    have h3 : n = 65536 ^ k * 65536 * (n / 65536 ^ k / 65536) + (n % 65536 ^ k + n / 65536 ^ k % 65536 * 65536 ^ k) := by
      conv => lhs; rw [← h1, ← h2]
      rw [Int.mul_add, ← Int.mul_assoc, Int.mul_comm (n / 65536 ^ k % 65536)]
      generalize 65536 ^ k * (n / 65536 ^ k % 65536) = z
      rw [Int.add_assoc, Int.add_comm z]
    have r1 := Int.emod_nonneg n (show (65536 : Int) ^ k ≠ 0 by omega)
    have r2 := Int.emod_lt_of_pos n hp
    have r3 : 0 ≤ n / 65536 ^ k % 65536 ∧ n / 65536 ^ k % 65536 < 65536 := by omega
    have r4 : n / 65536 ^ k % 65536 * 65536 ^ k ≤ 65535 * 65536 ^ k := Int.mul_le_mul_of_nonneg_right (by omega) (by omega)
    have r5 : 0 ≤ n / 65536 ^ k % 65536 * 65536 ^ k := Int.mul_nonneg r3.1 (by omega)
    have h4 : n % (65536 ^ k * 65536) = _ := congrArg (· % ((65536 : Int) ^ k * 65536)) h3
    have h5 : ∀ m q r : Int, 0 ≤ r → r < m → (m * q + r) % m = r := fun m q r a b => by rw [Int.add_comm, Int.add_mul_emod_self_left]; exact Int.emod_eq_of_lt a b
    exact (h4.trans (h5 _ _ _ (by omega) (by omega))).symm
theorem FR {n : Int} (h0 : 0 ≤ n) (h1 : n < 115792089237316195423570985008687907853269984665640564039457584007913129639936) : vR (pQ n) = n := by
  unfold vR
  rw [dH (f := gD (pQ n)) (g := fun i => n / 65536 ^ i % 65536) 16 fun i hi => vY n hi, DX n 16 h0]
  exact Int.emod_eq_of_lt h0 (by rw [show (65536 : Int) ^ 16 = 115792089237316195423570985008687907853269984665640564039457584007913129639936 by decide]; exact h1)
theorem dI {l : List Int} (h : cD l = true) : 0 ≤ vR l ∧ vR l < 115792089237316195423570985008687907853269984665640564039457584007913129639936 := by
  have := gl 16 (cm.1 h).2
  rw [show (65536 : Int) ^ 16 = 115792089237316195423570985008687907853269984665640564039457584007913129639936 by decide] at this
  exact this
end Go.Proofs.YtibfpjeeanppjaaGreat.Re
namespace Go.Proofs.YtibfpjeeanppjaaGreat.Re
open Go Go.Sy Fe
def ua : List Int := [65517, 65535, 65535, 65535, 65535, 65535, 65535, 65535, 65535, 65535, 65535, 65535, 65535, 65535, 65535, 32767]
theorem DY : cD ua = true := by decide
theorem zw : vR ua = Pm := by decide
def FT : List SV → Option (SV × List Blk × Bool)
  | [] => some (.agg [.ints .i64 16 ua], [], true)
  | _ => none
noncomputable def zx : Entry Tryz.prog := .val 127 _ Tryz.func127 (by decide) rfl false 0 FT fun vs v new e => by
  unfold FT at e
  split at e
  · cases e
    exact aG mF 20 Tryz.func127 (p := true) (by kernel_rfl) rfl rfl
  · cases e
def FU (i : Int) (o : Bool) : Bool := aa (aa o (cN i 16)) (decide (0 + i.toNat < 16))
theorem jO {i : Int} {o : Bool} (h0 : 0 ≤ i) (h1 : i < 16) (ho : o = true) : FU i o = true := by
  subst ho; unfold FU cN
  rw [decide_eq_true h0, decide_eq_true (show i < (16 : Nat) by omega), decide_eq_true (show 0 + i.toNat < 16 by omega)]; rfl
noncomputable def TV (x y : Bool) : br := mk (P := Tryz.prog) [] [] fun i => if i = 7 then some x else if i = 16 then some y else none
theorem nH (x y : Bool) : ag Tryz.prog (TV x y) := ah _ aq.nil _ _
noncomputable def Zd : Code := inner (inner (az 2 (aE Tryz.f129)))
noncomputable def WV (a b : List Int) : List Blk := [.b [.ints .i64 16 a], .b [.ints .i64 16 b]]
noncomputable def Cy (a b : List Int) (i : Int) : St := ⟨slotsOf 24 [(2, .ptr 0 0 0), (3, .ptr 1 0 0), (5, .int .i64 i)], WV a b, true⟩
section
variable (a b : List Int) (i : Int)
theorem aco : (exec Tryz.prog (TV true true) 40 0 Zd (Cy a b i)).bind (fun r => (r.2.cut [4] 2).map fun q => (r.1, q)) =
    some (.ret, ⟨slotsOf 24 [(4, .bool (decide (a.getD (0 + i.toNat) 0 > b.getD (0 + i.toNat) 0)))], WV a b, FU i (FU i (aa (FU i (FU i (aa true (decide (i ≥ 0))))) (a.getD (0 + i.toNat) 0 != b.getD (0 + i.toNat) 0)))⟩) := by kernel_rfl
theorem acp : (exec Tryz.prog (TV true false) 40 0 Zd (Cy a b i)).bind (fun r => (r.2.cut [2, 3, 5] 2).map fun q => (r.1, q)) =
    some (.normal, ⟨(Cy a b (IntKind.i64.wrap (i - 1))).t, WV a b, aa (FU i (FU i (aa true (decide (i ≥ 0))))) (!(a.getD (0 + i.toNat) 0 != b.getD (0 + i.toNat) 0))⟩) := by kernel_rfl
theorem WW : (exec Tryz.prog (TV false false) 40 0 Zd (Cy a b i)).bind (fun r => (r.2.cut [2, 3, 5] 2).map fun q => (r.1, q)) =
    some (.exit 0, ⟨(Cy a b i).t, WV a b, aa true (!decide (i ≥ 0))⟩) := by kernel_rfl
theorem FV : (aT Tryz.prog (TV true true) 40 0 2 (atoms (aE Tryz.f129)) ⟨aO Tryz.f129.ntmps [.agg [.ints .i64 16 a], .agg [.ints .i64 16 b]], [], true⟩).bind (St.cut [2, 3, 5] 2) = some (Cy a b 15) := by kernel_rfl
end
theorem BQ (f g : Nat → Int) : ∀ n : Nat, (∀ i, i < n → f i = g i) ∨ ∃ m, m < n ∧ f m ≠ g m ∧ ∀ i, m < i → i < n → f i = g i
  | 0 => .inl fun i hi => by omega
  | n + 1 => by
    by_cases h : f n = g n
    · rcases BQ f g n with q | ⟨m, h1, h2, h3⟩
      · exact .inl fun i hi => by
          by_cases hn : i = n
          · subst hn; exact h
          · exact q i (by omega)
      · exact .inr ⟨m, by omega, h2, fun i h4 h5 => by
          by_cases hn : i = n
          · subst hn; exact h
          · exact h3 i h4 (by omega)⟩
    · exact .inr ⟨n, by omega, h, fun i h4 h5 => by omega⟩
theorem FW {a b : List Int} {j : Nat} (hj : j < 16) (h : a.getD (15 - j) 0 = b.getD (15 - j) 0) : Tr Tryz.prog none 0 Zd (Cy a b (15 - j)) .normal (Cy a b (15 - ((j + 1 : Nat) : Int))) := by
  have k := acp a b (15 - j)
  have e1 : IntKind.i64.wrap (15 - (j : Int) - 1) = 15 - ((j + 1 : Nat) : Int) := by rw [wrap_i64 _ (by omega) (by omega)]; omega
  have e2 : 0 + (15 - (j : Int)).toNat = 15 - j := by omega
  rw [e1, e2] at k
  refine Tr.post (Tr.cut (nH true false) 40 _ 2 (by omega) k ?_) (bh.same rfl rfl)
  rw [au]
  refine ⟨jO (by omega) (by omega) (jO (by omega) (by omega) (by rw [decide_eq_true (by omega)]; rfl)), ?_⟩
  rw [h]; simp
theorem acq {a b : List Int} (ha : cD a = true) (hb : cD b = true) : ai Tryz.prog 129 [.agg [.ints .i64 16 a], .agg [.ints .i64 16 b]] [] (.bool (decide (vR b ≤ vR a))) [] := by
  have Y6 := (cm.1 ha).2
  have hb' := (cm.1 hb).2
  rcases BQ (gD a) (gD b) 16 with hall | ⟨m, hm, hne, hab⟩
  · have hv : vR a = vR b := dH 16 hall
    rw [decide_eq_true (show vR b ≤ vR a by omega)]
    have bS : Tr Tryz.prog none 0 (az 2 (aE Tryz.f129)) (Cy a b 15) .normal (Cy a b (-1)) := by
      have key := Tr.loop (P := Tryz.prog) (ro := none) (k := 0) 0 (c := az 2 (aE Tryz.f129)) (by kernel_rfl) (fun j : Nat => Cy a b (15 - j)) 16 (s' := Cy a b (-1)) (fun j hj => ?_) ?_
      · exact key
      · have q := hall (15 - j) (by omega)
        exact FW hj q
      · have k := WW a b (-1)
        exact Tr.post (Tr.cut (nH false false) 40 _ 2 (by omega) k rfl) (bh.same rfl rfl)
    refine ai.cz (nH true true) 40 3 0 Tryz.func129 (by simp) rfl (fun s' x h => ?_) (s := Cy a b (-1)) (p := true) (by kernel_rfl) rfl rfl rfl
    refine aY.items (nH true true) 40 2 _ 2 (by simp) (FV a b) rfl (by decide) ?_
    exact aY.item 2 (by decide) bS h
  · have hv : decide (vR b ≤ vR a) = decide (a.getD m 0 > b.getD m 0) := by
      rcases Int.lt_or_gt_of_ne hne with h | h
      · have h1 : vR a < vR b := TU (f := gD a) (g := gD b) hm Y6 hb' hab h
        have h' : a.getD m 0 < b.getD m 0 := h
        rw [decide_eq_false (by omega), decide_eq_false (by omega)]
      · have h1 : vR b < vR a := TU (f := gD b) (g := gD a) hm hb' Y6 (fun i h1 h2 => (hab i h1 h2).symm) h
        have h' : b.getD m 0 < a.getD m 0 := h
        rw [decide_eq_true (by omega), decide_eq_true (by omega)]
    rw [hv]
    have Lv : Tr Tryz.prog none 0 Zd (Cy a b (15 - ((15 - m : Nat) : Int))) .ret ⟨slotsOf 24 [(4, .bool (decide (a.getD m 0 > b.getD m 0)))], WV a b, true⟩ := by
      have k := aco a b (15 - ((15 - m : Nat) : Int))
      have e2 : 0 + ((15 : Int) - ((15 - m : Nat) : Int)).toNat = m := by omega
      rw [e2] at k
      refine Tr.post (Tr.cut (nH true true) 40 _ 2 (by omega) k ?_) (bh.same rfl rfl)
      refine jO (by omega) (by omega) (jO (by omega) (by omega) ?_)
      rw [au]
      refine ⟨jO (by omega) (by omega) (jO (by omega) (by omega) (by rw [decide_eq_true (by omega)]; rfl)), ?_⟩
      exact bne_iff_ne.2 hne
    have bS : iH Tryz.prog none 0 Zd (Cy a b 15) .ret ⟨slotsOf 24 [(4, .bool (decide (a.getD m 0 > b.getD m 0)))], WV a b, true⟩ :=
      by
        refine iH.for (by simp) (fun j : Nat => Cy a b (15 - j)) (15 - m) (fun j hj => ?_) Lv
        have q := hab (15 - j) (by omega) (by omega)
        exact FW (by omega) q
    refine (ai.mk (vs := [.bool (decide (a.getD m 0 > b.getD m 0))]) (h := []) Tryz.func129 rfl (x := .ret) (s := ⟨slotsOf 24 [(4, .bool (decide (a.getD m 0 > b.getD m 0)))], WV a b, true⟩) ?_ (.inl rfl) (by kernel_rfl)).post (bh.fU (n := 0) (by simp) (by rfl))
    refine aY.items (nH true true) 40 2 _ 2 (by simp) (FV a b) rfl (by decide) ?_
    exact aY.leave 2 (by decide) (by simp) (Tr.tI 0 (by kernel_rfl) bS)
noncomputable def acr : List SV → Option (SV × List Blk × Bool)
  | [.agg [.ints .i64 16 a], .agg [.ints .i64 16 b]] => some (.bool (decide (vR b ≤ vR a)), [], cD a && cD b)
  | _ => none
noncomputable def BS : Entry Tryz.prog := .val 129 _ Tryz.func129 (by decide) rfl false 0 acr fun vs v new e => by
  unfold acr at e
  split at e
  · simp only [Option.some.injEq, Prod.mk.injEq, Bool.and_eq_true] at e
    obtain ⟨rfl, rfl, ha, hb⟩ := e
    exact acq ha hb
  · cases e
def bw (a b : List Int) : Nat → Int
  | 0 => 0
  | j + 1 => if a.getD j 0 - b.getD j 0 - bw a b j < 0 then 1 else 0
def Oc (a b : List Int) (j : Nat) : Int := a.getD j 0 - b.getD j 0 - bw a b j + 65536 * bw a b (j + 1)
def tC (a b : List Int) : Nat → List Int
  | 0 => a
  | j + 1 => (tC a b j).set j (Oc a b j)
theorem lY (a b : List Int) : ∀ j, (tC a b j).length = a.length
  | 0 => rfl
  | j + 1 => by rw [tC, List.length_set, lY a b j]
theorem uc (a b : List Int) : ∀ (j i : Nat), i < a.length → (tC a b j).getD i 0 = if i < j then Oc a b i else a.getD i 0
  | 0, i, _ => rfl
  | j + 1, i, h => by
    rw [tC, List.getD_eq_getElem?_getD]
    by_cases hij : j = i
    · subst hij
      rw [List.getElem?_set_self (by rw [lY]; exact h), if_pos (by omega)]; rfl
    · rw [List.getElem?_set_ne hij, ← List.getD_eq_getElem?_getD, uc a b j i h]
      by_cases h2 : i < j
      · rw [if_pos h2, if_pos (by omega)]
      · rw [if_neg h2, if_neg (by omega)]
theorem DZ (a b : List Int) : ∀ j, bw a b j = 0 ∨ bw a b j = 1
  | 0 => .inl rfl
  | j + 1 => by rw [bw]; split
                · exact .inr rfl
                · exact .inl rfl
theorem Mg {a b : List Int} (ha : cD a = true) (hb : cD b = true) {j : Nat} (hj : j < 16) : 0 ≤ Oc a b j ∧ Oc a b j < 65536 := by
  have h1 := (cm.1 ha).2 j hj
  have h2 := (cm.1 hb).2 j hj
  have h3 := DZ a b j
  unfold Oc
  rw [bw]
  split <;> omega
theorem FX (a b : List Int) : ∀ n, sB (Oc a b) n = sB (gD a) n - sB (gD b) n + 65536 ^ n * bw a b n
  | 0 => by simp [sB, bw]
  | n + 1 => by
    rw [sB, sB, sB, FX a b n]
    have e : Oc a b n = gD a n - gD b n - bw a b n + 65536 * bw a b (n + 1) := rfl
    rw [e, Int.pow_succ]
    generalize gD a n = x
    generalize gD b n = y
    generalize bw a b n = u
    generalize bw a b (n + 1) = v
    generalize (65536 : Int) ^ n = P
    grind
theorem WX {a b : List Int} (ha : cD a = true) (hb : cD b = true) (hle : vR b ≤ vR a) : tC a b 16 = pQ (vR a - vR b) := by
  have hl : (tC a b 16).length = 16 := by rw [lY, (cm.1 ha).1]
  have hla := (cm.1 ha).1
  have hok : cD (tC a b 16) = true := cm.2 ⟨hl, fun i hi => by rw [uc a b 16 i (by omega), if_pos hi]; exact Mg ha hb hi⟩
  have hs := FX a b 16
  have hv : vR (tC a b 16) = sB (Oc a b) 16 := dH 16 fun i hi => by show (tC a b 16).getD i 0 = _; rw [uc a b 16 i (by omega), if_pos hi]
  have r := dI hok
  have r1 := dI ha
  have r2 := dI hb
  have hbw := DZ a b 16
  have hp : (65536 : Int) ^ 16 = 115792089237316195423570985008687907853269984665640564039457584007913129639936 := by decide
  rw [hp] at hs
  have hs' : vR (tC a b 16) = vR a - vR b + 115792089237316195423570985008687907853269984665640564039457584007913129639936 * bw a b 16 := by rw [hv]; exact hs
  have h0 : vR (tC a b 16) = vR a - vR b := by rcases hbw with h | h <;> rw [h] at hs' <;> omega
  rw [← h0, FQ hok]
noncomputable def mnC (x y : Bool) : br := mk (P := Tryz.prog) [] [] fun i => if i = 9 then some x else if i = 22 then some y else none
theorem vZ (x y : Bool) : ag Tryz.prog (mnC x y) := ah _ aq.nil _ _
noncomputable def mnB : Code := inner (inner (az 3 (aE Tryz.f126)))
def Ix : List Int := List.replicate 16 0
noncomputable def TW (a b : List Int) : List Blk := [.b [.ints .i64 16 a], .b [.ints .i64 16 b], .b [.ints .i64 16 Ix]]
noncomputable def FY (a b : List Int) (c : Int) (i : Int) : St := ⟨slotsOf 29 [(2, .ptr 0 0 0), (3, .ptr 1 0 0), (4, .ptr 2 0 0), (5, .int .i64 c), (6, .int .i64 i)], TW a b, true⟩
def Ze (a b : List Int) (c i : Int) : Int := IntKind.i64.wrap (IntKind.i64.wrap (a.getD (0 + i.toNat) 0 - b.getD (0 + i.toNat) 0) - c)
section
variable (a b : List Int) (c i : Int)
theorem WY : (exec Tryz.prog (mnC true true) 40 0 mnB (FY a b c i)).bind (fun r => (r.2.cut [2, 3, 4, 5, 6] 3).map fun q => (r.1, q)) =
    some (.normal, ⟨(FY a b 1 (IntKind.i64.wrap (i + 1))).t, TW (a.set (0 + i.toNat) (IntKind.i64.wrap (Ze a b c i + 65536))) b,
      aa (aa (aa (FU i (FU i (aa true (decide (i < 16))))) (decide (Ze a b c i < 0))) (cN i 16)) (decide (0 + i.toNat < 16) && decide (a.length = 16))⟩) := by kernel_rfl
theorem WZ : (exec Tryz.prog (mnC true false) 40 0 mnB (FY a b c i)).bind (fun r => (r.2.cut [2, 3, 4, 5, 6] 3).map fun q => (r.1, q)) =
    some (.normal, ⟨(FY a b 0 (IntKind.i64.wrap (i + 1))).t, TW (a.set (0 + i.toNat) (Ze a b c i)) b,
      aa (aa (aa (FU i (FU i (aa true (decide (i < 16))))) (!decide (Ze a b c i < 0))) (cN i 16)) (decide (0 + i.toNat < 16) && decide (a.length = 16))⟩) := by kernel_rfl
theorem W3 : (exec Tryz.prog (mnC false false) 40 0 mnB (FY a b c i)).bind (fun r => (r.2.cut [2, 3, 4, 5, 6] 3).map fun q => (r.1, q)) =
    some (.exit 0, ⟨(FY a b c i).t, TW a b, aa true (!decide (i < 16))⟩) := by kernel_rfl
theorem QG : (aT Tryz.prog (mnC true true) 40 0 3 (atoms (aE Tryz.f126)) ⟨aO Tryz.f126.ntmps [.agg [.ints .i64 16 a], .agg [.ints .i64 16 b]], [], true⟩).bind (St.cut [2, 3, 4, 5, 6] 3) = some (FY a b 0 0) := by kernel_rfl
end
noncomputable def Cz (a b : List Int) : List Int := gH (pQ (vR a - vR b))
theorem QH {a b : List Int} (ha : cD a = true) (hb : cD b = true) {j : Nat} (hj : j < 16) : Tr Tryz.prog none 0 mnB (FY (tC a b j) b (bw a b j) j) .normal (FY (tC a b (j + 1)) b (bw a b (j + 1)) ((j + 1 : Nat) : Int)) := by
  have hla := (cm.1 ha).1
  have p1 := (cm.1 ha).2 j hj
  have p2 := (cm.1 hb).2 j hj
  have p3 := DZ a b j
  have hT : Ze (tC a b j) b (bw a b j) j = a.getD j 0 - b.getD j 0 - bw a b j := by
    unfold Ze
    rw [show 0 + (j : Int).toNat = j by omega, uc a b j j (by omega), if_neg (by omega), wrap_i64 (a.getD j 0 - b.getD j 0) (by omega) (by omega), wrap_i64 _ (by omega) (by omega)]
  have e1 : IntKind.i64.wrap ((j : Int) + 1) = ((j + 1 : Nat) : Int) := by rw [wrap_i64 _ (by omega) (by omega)]; omega
  have e2 : 0 + (j : Int).toNat = j := by omega
  have hlen : (tC a b j).length = 16 := by rw [lY, hla]
  have o1 : FU j (FU j (aa true (decide ((j : Int) < 16)))) = true := jO (by omega) (by omega) (jO (by omega) (by omega) (by rw [decide_eq_true (by omega)]; rfl))
  have o2 : cN (j : Int) 16 = true := by unfold cN; rw [decide_eq_true (by omega), decide_eq_true (by omega)]; rfl
  by_cases hneg : a.getD j 0 - b.getD j 0 - bw a b j < 0
  · have k := WY (tC a b j) b (bw a b j) j
    rw [hT, e1, e2] at k
    refine Tr.post (Tr.cut (vZ true true) 40 _ 3 (by omega) k ?_) (bh.same ?_ ?_)
    · rw [o1, o2, hlen, decide_eq_true hneg, decide_eq_true (show j < 16 from hj)]; rfl
    · rw [show bw a b (j + 1) = 1 by rw [bw, if_pos hneg]]; rfl
    · show TW _ _ = TW _ _
      rw [tC, Oc, bw, if_pos hneg, wrap_i64 _ (by omega) (by omega)]
      rfl
  · have k := WZ (tC a b j) b (bw a b j) j
    rw [hT, e1, e2] at k
    refine Tr.post (Tr.cut (vZ true false) 40 _ 3 (by omega) k ?_) (bh.same ?_ ?_)
    · rw [o1, o2, hlen, decide_eq_false hneg, decide_eq_true (show j < 16 from hj)]; rfl
    · rw [show bw a b (j + 1) = 0 by rw [bw, if_neg hneg]]; rfl
    · show TW _ _ = TW _ _
      rw [tC, Oc, bw, if_neg hneg]
      rw [Int.mul_zero, Int.add_zero]
theorem acu {a b : List Int} (ha : cD a = true) (hb : cD b = true) (hle : vR b ≤ vR a) : ai Tryz.prog 126 [.agg [.ints .i64 16 a], .agg [.ints .i64 16 b]] [] (.agg [.ints .i64 16 (Cz a b)]) [] := by
  rw [Cz, aC, ← WX ha hb hle]
  have bS : Tr Tryz.prog none 0 (az 3 (aE Tryz.f126)) (FY a b 0 0) .normal (FY (tC a b 16) b (bw a b 16) 16) := by
    have key := Tr.loop (P := Tryz.prog) (ro := none) (k := 0) 0 (c := az 3 (aE Tryz.f126)) (by kernel_rfl) (fun j : Nat => FY (tC a b j) b (bw a b j) j) 16 (s' := FY (tC a b 16) b (bw a b 16) 16) (fun j hj => ?_) ?_
    · exact key
    · exact QH ha hb hj
    · have k := W3 (tC a b 16) b (bw a b 16) 16
      exact Tr.post (Tr.cut (vZ false false) 40 _ 3 (by omega) k rfl) (bh.same rfl rfl)
  refine ai.cz (vZ true true) 40 4 0 Tryz.func126 (by simp) rfl (fun s' x h => ?_) (s := FY (tC a b 16) b (bw a b 16) 16) (p := true) (by kernel_rfl) rfl rfl rfl
  refine aY.items (vZ true true) 40 3 _ 3 (by simp) (QG a b) rfl (by decide) ?_
  exact aY.item 3 (by decide) bS h
noncomputable def acv : List SV → Option (SV × List Blk × Bool)
  | [.agg [.ints .i64 16 a], .agg [.ints .i64 16 b]] => some (.agg [.ints .i64 16 (Cz a b)], [], cD a && cD b && decide (vR b ≤ vR a))
  | _ => none
noncomputable def zy : Entry Tryz.prog := .val 126 _ Tryz.func126 (by decide) rfl false 0 acv fun vs v new e => by
  unfold acv at e
  split at e
  · simp only [Option.some.injEq, Prod.mk.injEq, Bool.and_eq_true, decide_eq_true_eq] at e
    obtain ⟨rfl, rfl, ⟨ha, hb⟩, hc⟩ := e
    exact acu ha hb hc
  · cases e
end Go.Proofs.YtibfpjeeanppjaaGreat.Re
namespace Go.Proofs.YtibfpjeeanppjaaGreat.Re
open Go Go.Sy Fe
abbrev iw (n : Int) : Int := IntKind.i64.wrap n
def nC (f : Nat → Int) : Nat → Int
  | 0 => iw (f 0 + 0)
  | i + 1 => iw (f (i + 1) + iw ((nC f i).tdiv 65536))
def dC (f : Nat → Int) (i : Nat) : Int := (nC f i).tmod 65536
def lZ (L : List Int) : List Int := (List.range 16).map (fun i => iw (dC (gD L) i + iw (38 * dC (gD L) (i + 16)))) ++ List.replicate 16 0
noncomputable def W5 (L O : List Int) : List Blk := [.b [.ints .i64 32 L], .b [.ints .i64 16 Ix], .b [.ints .i64 16 O]]
noncomputable def xl (L : List Int) (i : Int) : St := ⟨slotsOf 103 [(1, .ptr 0 0 0), (2, .ptr 1 0 0), (3, .ptr 2 0 0), (4, .int .i64 i)], W5 L Ix, true⟩
noncomputable def xm (x : Bool) : br := mk (P := Tryz.prog) [zx, BS, zy] [] fun i => if i = 16 then some x else if i = 98 then some x else none
theorem dz (x : Bool) : ag Tryz.prog (xm x) := ah _ aq.nil _ _
noncomputable def W6 : br := mk (P := Tryz.prog) [] []
theorem zA : ag Tryz.prog W6 := ah _ aq.nil _ _
noncomputable def smB : Code := inner (inner (az 3 (aE Tryz.f91)))
def mC (f : Nat → Int) : Nat → Int
  | 0 => iw (dC f 0 + iw (19 * iw ((dC f 15).tdiv 32768)))
  | i + 1 => iw ((if i = 14 then (dC f 15).tmod 32768 else dC f (i + 1)) + iw ((mC f i).tdiv 65536))
def v7 (L : List Int) : List Int := (List.range 16).map fun i => (mC (gD L) i).tmod 65536
noncomputable def Ao (L O : List Int) : St := ⟨slotsOf 103 [(2, .ptr 1 0 0), (3, .ptr 2 0 0)], W5 L O, true⟩
noncomputable def Od : Code := inner (inner (az 12 (aE Tryz.f91)))
section
variable (L O : List Int) (i : Int)
theorem v8 : (exec Tryz.prog (xm true) 80 0 smB (xl (aH 32 L) i)).bind (fun r => (r.2.cut [1, 2, 3, 4] 3).map fun q => (r.1, q)) =
    some (.normal, ⟨(xl L (iw (i + 1))).t, W5 (lZ (aH 32 L)) Ix, aa true (decide (i < 4))⟩) := by kernel_rfl
theorem QI : (exec Tryz.prog (xm false) 80 0 smB (xl L i)).bind (fun r => (r.2.cut [1, 2, 3, 4] 3).map fun q => (r.1, q)) =
    some (.exit 0, ⟨(xl L i).t, W5 L Ix, aa true (!decide (i < 4))⟩) := by kernel_rfl
theorem zB : (aT Tryz.prog W6 60 0 3 (atoms (aE Tryz.f91)) ⟨aO Tryz.f91.ntmps [.agg [.ints .i64 32 L]], [], true⟩).bind (St.cut [1, 2, 3, 4] 3) = some (xl L 0) := by kernel_rfl
theorem W7 : (aT Tryz.prog W6 80 0 8 ((atoms (aE Tryz.f91)).drop 4) ⟨(xl L 4).t, W5 (aH 32 L) Ix, true⟩).bind (St.cut [2, 3] 3) = some (Ao (aH 32 L) (v7 (aH 32 L))) := by kernel_rfl
end
end Go.Proofs.YtibfpjeeanppjaaGreat.Re
namespace Go.Proofs.YtibfpjeeanppjaaGreat.Re
open Go Go.Sy Fe
def cC (f : Nat → Int) : Nat → Int
  | 0 => 0
  | i + 1 => (f i + cC f i) / 65536
theorem BT {f : Nat → Int} {n : Nat} (h : ∀ i, i < n → 0 ≤ f i ∧ f i ≤ 1125899906842624) : ∀ i, i ≤ n → 0 ≤ cC f i ∧ cC f i ≤ 1125899906842624
  | 0, _ => by simp [cC]
  | i + 1, hi => by
    have := h i (by omega)
    have := BT h i (by omega)
    rw [cC]; omega
theorem xZ (f : Nat → Int) : ∀ n : Nat, sB f n = sB (fun i => (f i + cC f i) % 65536) n + 65536 ^ n * cC f n
  | 0 => by simp [sB, cC]
  | n + 1 => by
    rw [sB, sB, xZ f n, cC, Int.pow_succ]
    have e : f n = (f n + cC f n) % 65536 + 65536 * ((f n + cC f n) / 65536) - cC f n := by omega
    generalize (f n + cC f n) % 65536 = x at *
    generalize (f n + cC f n) / 65536 = y at *
    generalize cC f n = z at *
    generalize (65536 : Int) ^ n = P
    rw [e]
    grind
theorem D0 {f : Nat → Int} {n : Nat} (h : ∀ i, i < n → 0 ≤ f i ∧ f i ≤ 1125899906842624) : ∀ i, i < n → nC f i = f i + cC f i ∧ dC f i = (f i + cC f i) % 65536 := by
  have key : ∀ i, i < n → nC f i = f i + cC f i := by
    intro i
    induction i with
    | zero =>
      intro hi
      have := h 0 hi
      rw [nC, cC, iw, wrap_i64 _ (by omega) (by omega)]
    | succ i ih =>
      intro hi
      have h0 := h i (by omega)
      have h1 := h (i + 1) hi
      have c0 := BT h i (by omega)
      have c1 := BT h (i + 1) (by omega)
      rw [cC] at c1
      rw [nC, ih (by omega), Int.tdiv_eq_ediv_of_nonneg (by omega), cC, iw, iw, wrap_i64 ((f i + cC f i) / 65536) (by omega) (by omega), wrap_i64 _ (by omega) (by omega)]
  intro i hi
  have h0 := h i hi
  have c0 := BT h i (by omega)
  refine ⟨key i hi, ?_⟩
  unfold dC
  rw [key i hi, Int.tmod_eq_emod_of_nonneg (by omega)]
theorem v9 {f : Nat → Int} {n : Nat} (h : ∀ i, i < n → 0 ≤ f i ∧ f i ≤ 1125899906842624) (hv : sB f n < 65536 ^ n) : sB (dC f) n = sB f n := by
  have e := xZ f n
  have hd : sB (dC f) n = sB (fun i => (f i + cC f i) % 65536) n := dH n fun i hi => (D0 h i hi).2
  have r := gl (f := fun i => (f i + cC f i) % 65536) n fun i hi => by show 0 ≤ (f i + cC f i) % 65536 ∧ _; omega
  have hc := BT h n (Nat.le_refl _)
  have hp : (0 : Int) < 65536 ^ n := Int.pow_pos (by omega)
  have : cC f n = 0 := by
    by_cases h1 : 1 ≤ cC f n
    · have := Int.mul_le_mul_of_nonneg_left h1 (show 0 ≤ (65536 : Int) ^ n by omega)
      omega
    · omega
  rw [this] at e
  omega
theorem ue {f : Nat → Int} {n : Nat} (h : ∀ i, i < n → 0 ≤ f i ∧ f i ≤ 1125899906842624) : ∀ i, i < n → 0 ≤ dC f i ∧ dC f i < 65536 := fun i hi => by
  rw [(D0 h i hi).2]; omega
def c8 : Int := 115792089237316195423570985008687907853269984665640564039457584007913129639936
theorem we : (65536 : Int) ^ 16 = c8 := by decide
theorem Mh : (65536 : Int) ^ 32 = c8 * c8 := by decide
def rv (V : Int) : Int := V % c8 + 38 * (V / c8)
structure Lk (L : List Int) : Prop where
  len : L.length = 32
  b : ∀ i, i < 32 → 0 ≤ gD L i ∧ gD L i ≤ 1125899906842624
theorem uf {L : List Int} (h : Lk L) (i : Nat) (hi : i < 32) : gD (lZ L) i = if i < 16 then dC (gD L) i + 38 * dC (gD L) (i + 16) else 0 := by
  unfold gD lZ
  rw [List.getD_eq_getElem?_getD]
  by_cases zD : i < 16
  · have p1 := ue h.b i (by omega)
    have p2 := ue h.b (i + 16) (by omega)
    rw [List.getElem?_append_left (by simpa using zD), List.getElem?_map, List.getElem?_range zD, if_pos zD]
    show iw (dC (gD L) i + iw (38 * dC (gD L) (i + 16))) = _
    rw [iw, iw, wrap_i64 (38 * _) (by omega) (by omega), wrap_i64 _ (by omega) (by omega)]
    rfl
  · rw [List.getElem?_append_right (by simp; omega), if_neg zD, List.getElem?_replicate, if_pos (by simp; omega)]; rfl
theorem FZ {L : List Int} (h : Lk L) (hv : sB (gD L) 32 < c8 * c8) : Lk (lZ L) ∧ (∀ i, i < 32 → gD (lZ L) i ≤ 2555865) ∧ (∀ i, 16 ≤ i → i < 32 → gD (lZ L) i = 0) ∧ sB (gD (lZ L)) 32 = rv (sB (gD L) 32) := by
  have hp := ue h.b
  have hb : ∀ i, i < 32 → 0 ≤ gD (lZ L) i ∧ gD (lZ L) i ≤ 2555865 := fun i hi => by
    rw [uf h i hi]
    split
    · have := hp i hi
      have := hp (i + 16) (by omega)
      omega
    · omega
  refine ⟨⟨by simp [lZ], fun i hi => by have := hb i hi; omega⟩, fun i hi => (hb i hi).2, fun i h1 hi => by rw [uf h i hi, if_neg (by omega)], ?_⟩
  have e0 := v9 h.b (by rw [Mh]; exact hv)
  have e1 : sB (dC (gD L)) (16 + 16) = sB (dC (gD L)) 16 + 65536 ^ 16 * sB (fun i => dC (gD L) (16 + i)) 16 := eU _ 16 16
  have e2 : sB (gD (lZ L)) (16 + 16) = sB (gD (lZ L)) 16 + 65536 ^ 16 * sB (fun i => gD (lZ L) (16 + i)) 16 := eU _ 16 16
  have e3 : sB (fun i => gD (lZ L) (16 + i)) 16 = 0 := lX 16 fun i hi => by show gD (lZ L) (16 + i) = 0; rw [uf h _ (by omega), if_neg (by omega)]
  have e4 : sB (gD (lZ L)) 16 = sB (dC (gD L)) 16 + 38 * sB (fun i => dC (gD L) (16 + i)) 16 := by
    rw [← DW, ← zu]
    refine dH 16 fun i hi => ?_
    rw [uf h i (by omega), if_pos hi, Nat.add_comm 16 i]
  have r1 := gl 16 fun i hi => hp i (by omega)
  have r2 := gl (f := fun i => dC (gD L) (16 + i)) 16 fun i hi => hp (16 + i) (by omega)
  rw [we] at *
  have hB : c8 = 115792089237316195423570985008687907853269984665640564039457584007913129639936 := rfl
  unfold rv
  rw [← e0]
  show sB (gD (lZ L)) (16 + 16) = sB (dC (gD L)) (16 + 16) % c8 + 38 * (sB (dC (gD L)) (16 + 16) / c8)
  rw [e2, e3, e4, e1]
  generalize sB (dC (gD L)) 16 = x at *
  generalize sB (fun i => dC (gD L) (16 + i)) 16 = y at *
  rw [hB] at *
  omega
theorem zE (V : Int) : rv V % Pm = V % Pm := by
  have : rv V = V - 2 * (V / c8) * Pm := by
    unfold rv
    have hB : c8 = 115792089237316195423570985008687907853269984665640564039457584007913129639936 := rfl
    rw [jm, hB]
    omega
  exact jV this
def dK (L : List Int) : Nat → List Int
  | 0 => L
  | j + 1 => lZ (dK L j)
def pR (V : Int) : Nat → Int
  | 0 => V
  | j + 1 => rv (pR V j)
theorem TX {V : Int} (h0 : 0 ≤ V) (h1 : V < c8 * c8) : (0 ≤ pR V 1 ∧ pR V 1 < 39 * c8) ∧ (0 ≤ pR V 2 ∧ pR V 2 < c8 + 1444) ∧ (0 ≤ pR V 3 ∧ pR V 3 < c8) ∧ (0 ≤ pR V 4 ∧ pR V 4 < c8) := by
  have hB : c8 = 115792089237316195423570985008687907853269984665640564039457584007913129639936 := rfl
  have a1 : 0 ≤ pR V 1 ∧ pR V 1 < 39 * c8 := by
    show 0 ≤ rv V ∧ rv V < 39 * c8
    unfold rv
    rw [hB] at h1 ⊢
    omega
  have a2 : 0 ≤ pR V 2 ∧ pR V 2 < c8 + 1444 := by
    show 0 ≤ rv (pR V 1) ∧ rv (pR V 1) < c8 + 1444
    generalize pR V 1 = x at *
    unfold rv
    rw [hB] at a1 ⊢
    omega
  have a3 : 0 ≤ pR V 3 ∧ pR V 3 < c8 := by
    show 0 ≤ rv (pR V 2) ∧ rv (pR V 2) < c8
    generalize pR V 2 = x at *
    unfold rv
    rw [hB] at a2 ⊢
    omega
  refine ⟨a1, a2, a3, ?_⟩
  show 0 ≤ rv (pR V 3) ∧ rv (pR V 3) < c8
  generalize pR V 3 = x at *
  unfold rv
  rw [hB] at a3 ⊢
  omega
theorem Mi {L : List Int} (h : Lk L) (hv : sB (gD L) 32 < c8 * c8) : ∀ j, j ≤ 4 → Lk (dK L j) ∧ sB (gD (dK L j)) 32 = pR (sB (gD L) 32) j := by
  have h0 : 0 ≤ sB (gD L) 32 := by
    have : ∀ n, n ≤ 32 → 0 ≤ sB (gD L) n := by
      intro n
      induction n with
      | zero => intro _; simp [sB]
      | succ n ih =>
        intro hn
        rw [sB]
        have h1 := ih (by omega)
        have h2 := Int.mul_nonneg (h.b n (by omega)).1 (show 0 ≤ (65536 : Int) ^ n from Int.pow_nonneg (by omega))
        omega
    exact this 32 (Nat.le_refl _)
  obtain ⟨b1, b2, b3, b4⟩ := TX h0 hv
  have hB : c8 = 115792089237316195423570985008687907853269984665640564039457584007913129639936 := rfl
  have step : ∀ j, Lk (dK L j) ∧ sB (gD (dK L j)) 32 = pR (sB (gD L) 32) j → pR (sB (gD L) 32) j < c8 * c8 → Lk (dK L (j + 1)) ∧ sB (gD (dK L (j + 1))) 32 = pR (sB (gD L) 32) (j + 1) := fun j g hlt => by
    obtain ⟨k1, _, _, k2⟩ := FZ g.1 (by rw [g.2]; exact hlt)
    exact ⟨k1, by show sB (gD (lZ (dK L j))) 32 = rv (pR (sB (gD L) 32) j); rw [k2, g.2]⟩
  have s0 : Lk (dK L 0) ∧ sB (gD (dK L 0)) 32 = pR (sB (gD L) 32) 0 := ⟨h, rfl⟩
  have s1 := step 0 s0 hv
  rw [hB] at b1 b2 b3
  have s2 := step 1 s1 (by rw [hB]; omega)
  have s3 := step 2 s2 (by rw [hB]; omega)
  have s4 := step 3 s3 (by rw [hB]; omega)
  intro j hj
  have : j = 0 ∨ j = 1 ∨ j = 2 ∨ j = 3 ∨ j = 4 := by omega
  rcases this with rfl | rfl | rfl | rfl | rfl
  · exact s0
  · exact s1
  · exact s2
  · exact s3
  · exact s4
end Go.Proofs.YtibfpjeeanppjaaGreat.Re
namespace Go.Proofs.YtibfpjeeanppjaaGreat.Re
open Go Go.Sy Fe
def gO (f : Nat → Int) (i : Nat) : Int := (if i = 15 then dC f 15 % 32768 else dC f i) + (if i = 0 then 19 * (dC f 15 / 32768) else 0)
theorem zF {L : List Int} (h : ∀ i, i < 16 → 0 ≤ gD L i ∧ gD L i ≤ 1125899906842624) (hv : sB (gD L) 16 < c8) :
    cD (v7 L) = true ∧ ∃ t, vR (v7 L) = sB (gD L) 16 - t * Pm ∧ 0 ≤ vR (v7 L) ∧ vR (v7 L) < 57896044618658097711785492504343953926634992332820282019728792003956564819987 := by
  have hp := ue h
  have e0 := v9 h (by rw [we]; exact hv)
  have p15 := hp 15 (by omega)
  have p0 := hp 0 (by omega)
  have hg : ∀ i, i < 16 → 0 ≤ gO (gD L) i ∧ gO (gD L) i ≤ 1125899906842624 := fun i hi => by
    have := hp i hi
    unfold gO
    split <;> split <;> omega
  -- the chain is the one of aju parts
  have hm : ∀ i, i < 16 → mC (gD L) i = gO (gD L) i + cC (gO (gD L)) i := by
    intro i
    induction i with
    | zero =>
      intro _
      rw [mC, cC, gO, if_neg (by omega), if_pos rfl, Int.tdiv_eq_ediv_of_nonneg p15.1, iw, iw, iw, wrap_i64 (_ / 32768) (by omega) (by omega), wrap_i64 (19 * _) (by omega) (by omega), wrap_i64 _ (by omega) (by omega)]
      omega
    | succ i ih =>
      intro hi
      have c1 := BT hg (i + 1) (by omega)
      have c0 := BT hg i (by omega)
      have g0 := hg i (by omega)
      have g1 := hg (i + 1) hi
      have hsel : (if i = 14 then (dC (gD L) 15).tmod 32768 else dC (gD L) (i + 1)) = gO (gD L) (i + 1) := by
        unfold gO
        rw [if_neg (show ¬ i + 1 = 0 by omega), Int.add_zero]
        by_cases h14 : i = 14
        · subst h14
          rw [if_pos rfl, if_pos rfl, Int.tmod_eq_emod_of_nonneg p15.1]
        · rw [if_neg h14, if_neg (by omega)]
      rw [cC] at c1
      rw [mC, ih (by omega), hsel, cC, Int.tdiv_eq_ediv_of_nonneg (by omega), iw, iw, wrap_i64 ((gO (gD L) i + cC (gO (gD L)) i) / 65536) (by omega) (by omega), wrap_i64 _ (by omega) (by omega)]
  have vG : ∀ i, i < 16 → gD (v7 L) i = (gO (gD L) i + cC (gO (gD L)) i) % 65536 := fun i hi => by
    unfold gD v7
    rw [List.getD_eq_getElem?_getD, List.getElem?_map, List.getElem?_range hi]
    show (mC (gD L) i).tmod 65536 = _
    have c0 := BT hg i (by omega)
    have g0 := hg i hi
    rw [hm i hi, Int.tmod_eq_emod_of_nonneg (by omega)]
    rfl
  have hok : cD (v7 L) = true := cm.2 ⟨by simp [v7], fun i hi => by have := vG i hi; unfold gD at this; rw [this]; omega⟩
  -- the sum of the parts
  have hs : sB (gO (gD L)) 16 = sB (gD L) 16 - (dC (gD L) 15 / 32768) * Pm := by
    rw [← e0]
    have s1 : sB (gO (gD L)) 16 = sB (gO (gD L)) 15 + gO (gD L) 15 * 65536 ^ 15 := rfl
    have s2 : sB (dC (gD L)) 16 = sB (dC (gD L)) 15 + dC (gD L) 15 * 65536 ^ 15 := rfl
    have s3 : sB (gO (gD L)) 15 = sB (dC (gD L)) 15 + 19 * (dC (gD L) 15 / 32768) := by
      have a1 := eU (gO (gD L)) 1 14
      have a2 := eU (dC (gD L)) 1 14
      have a3 : sB (fun i => gO (gD L) (1 + i)) 14 = sB (fun i => dC (gD L) (1 + i)) 14 := dH 14 fun i hi => by
        show gO (gD L) (1 + i) = dC (gD L) (1 + i)
        unfold gO
        rw [if_neg (by omega), if_neg (by omega), Int.add_zero]
      have a4 : sB (gO (gD L)) 1 = dC (gD L) 0 + 19 * (dC (gD L) 15 / 32768) := by simp [sB, gO]
      have a5 : sB (dC (gD L)) 1 = dC (gD L) 0 := by simp [sB]
      show sB (gO (gD L)) (1 + 14) = sB (dC (gD L)) (1 + 14) + _
      rw [a1, a2, a3, a4, a5]
      omega
    have s4 : gO (gD L) 15 = dC (gD L) 15 % 32768 := by unfold gO; rw [if_pos rfl, if_neg (by omega), Int.add_zero]
    rw [s1, s2, s3, s4, jm]
    have hpw : (65536 : Int) ^ 15 = 1766847064778384329583297500742918515827483896875618958121606201292619776 := by decide
    rw [hpw]
    omega
  have hlt : sB (gO (gD L)) 16 < 57896044618658097711785492504343953926634992332820282019728792003956564819987 := by
    have s1 : sB (gO (gD L)) 16 = sB (gO (gD L)) 15 + gO (gD L) 15 * 65536 ^ 15 := rfl
    have s4 : gO (gD L) 15 = dC (gD L) 15 % 32768 := by unfold gO; rw [if_pos rfl, if_neg (by omega), Int.add_zero]
    have s3 : sB (gO (gD L)) 15 = sB (dC (gD L)) 15 + 19 * (dC (gD L) 15 / 32768) := by
      have a1 := eU (gO (gD L)) 1 14
      have a2 := eU (dC (gD L)) 1 14
      have a3 : sB (fun i => gO (gD L) (1 + i)) 14 = sB (fun i => dC (gD L) (1 + i)) 14 := dH 14 fun i hi => by
        show gO (gD L) (1 + i) = dC (gD L) (1 + i)
        unfold gO
        rw [if_neg (by omega), if_neg (by omega), Int.add_zero]
      have a4 : sB (gO (gD L)) 1 = dC (gD L) 0 + 19 * (dC (gD L) 15 / 32768) := by simp [sB, gO]
      have a5 : sB (dC (gD L)) 1 = dC (gD L) 0 := by simp [sB]
      show sB (gO (gD L)) (1 + 14) = sB (dC (gD L)) (1 + 14) + _
      rw [a1, a2, a3, a4, a5]
      omega
    have r := gl 15 fun i hi => hp i (by omega)
    have hpw : (65536 : Int) ^ 15 = 1766847064778384329583297500742918515827483896875618958121606201292619776 := by decide
    rw [hpw] at r
    rw [s1, s3, s4, hpw]
    omega
  have hv2 : vR (v7 L) = sB (gO (gD L)) 16 := by
    have e1 : sB (dC (gO (gD L))) 16 = sB (gO (gD L)) 16 := v9 hg (by
      rw [we]
      have hB : c8 = 115792089237316195423570985008687907853269984665640564039457584007913129639936 := rfl
      rw [hB]; omega)
    rw [← e1]
    exact dH 16 fun i hi => by rw [vG i hi, (D0 hg i hi).2]
  refine ⟨hok, dC (gD L) 15 / 32768, by rw [hv2, hs], (dI hok).1, by rw [hv2]; exact hlt⟩
section
variable (L O : List Int)
noncomputable def W8 (x : Bool) : br := mk (P := Tryz.prog) [zx, BS, zy] [] fun i => if i = 98 then some x else none
theorem F0 (x : Bool) : ag Tryz.prog (W8 x) := ah _ aq.nil _ _
theorem acy : (exec Tryz.prog (W8 true) 80 0 Od (Ao L O)).bind (fun r => (r.2.cut [2, 3] 3).map fun q => (r.1, q)) =
    some (.normal, ⟨(Ao L O).t, W5 L (Cz O ua), aa (aa (aa true (aa true (cD O && cD ua))) (decide (vR ua ≤ vR O))) (aa true (cD O && cD ua && decide (vR ua ≤ vR O)))⟩) := by kernel_rfl
theorem acz : (exec Tryz.prog (W8 false) 80 0 Od (Ao L O)).bind (fun r => (r.2.cut [2, 3] 3).map fun q => (r.1, q)) =
    some (.exit 10, ⟨(Ao L O).t, W5 L O, aa (aa true (aa true (cD O && cD ua))) (!decide (vR ua ≤ vR O))⟩) := by kernel_rfl
end
noncomputable def cn (n : Int) : List Int := gH (pQ n)
theorem mb (n : Int) : cn n = pQ n := aC _
theorem bI (n : Int) : cD (cn n) = true := by rw [mb]; exact QF n
theorem iR {n : Int} (h0 : 0 ≤ n) (h1 : n < Pm) : vR (cn n) = n := by rw [mb]; exact FR h0 (by rw [jm] at h1; omega)
theorem Mj {L O : List Int} (ho : cD O = true) (h1 : vR O < 57896044618658097711785492504343953926634992332820282019728792003956564819987) :
    Tr Tryz.prog none 0 (az 12 (aE Tryz.f91)) (Ao L O) .normal (Ao L (cn (vR O % Pm))) := by
  have h0 := (dI ho).1
  have pY := zw
  have stop : ∀ Q : List Int, cD Q = true → vR Q < Pm → Tr Tryz.prog none 0 Od (Ao L Q) (.exit 10) (Ao L Q) := fun Q hq hlt => by
    have k := acz L Q
    refine Tr.post (Tr.cut (F0 false) 80 _ 3 (by omega) k ?_) (bh.same rfl rfl)
    rw [hq, DY, pY, decide_eq_false (by omega)]; rfl
  by_cases hle : Pm ≤ vR O
  · have hm : Cz O ua = cn (vR O % Pm) := by
      rw [Cz, aC, mb, pY]
      congr 1
      rw [jm] at *
      omega
    have hr : Tr Tryz.prog none 0 Od (Ao L O) .normal (Ao L (cn (vR O % Pm))) := by
      have k := acy L O
      rw [hm] at k
      refine Tr.post (Tr.cut (F0 true) 80 _ 3 (by omega) k ?_) (bh.same rfl rfl)
      rw [ho, DY, pY, decide_eq_true hle]; rfl
    refine Tr.As 10 (by kernel_rfl) (iH.step hr (iH.leave (stop _ (bI _) ?_) (by simp)))
    have := Int.emod_lt_of_pos (vR O) gM
    rw [iR (Int.emod_nonneg _ (by have := gM; omega)) this]
    exact this
  · have hq : cn (vR O % Pm) = O := by
      rw [mb, Int.emod_eq_of_lt h0 (by omega), FQ ho]
    rw [hq]
    exact Tr.As 10 (by kernel_rfl) (iH.leave (stop O ho (by omega)) (by simp))
def Oe (l : List Int) : Bool := decide (l.length = 32) && (l.all (fun x => decide (0 ≤ x) && decide (x ≤ 1125899906842624)) && decide (sB (gD l) 32 < c8 * c8))
theorem ug {l : List Int} : Oe l = true ↔ Lk l ∧ sB (gD l) 32 < c8 * c8 := by
  unfold Oe
  rw [Bool.and_eq_true, Bool.and_eq_true, decide_eq_true_eq, decide_eq_true_eq, List.all_eq_true]
  constructor
  · rintro ⟨h1, h2, h3⟩
    refine ⟨⟨h1, fun i hi => ?_⟩, h3⟩
    have := h2 (gD l i) (by unfold gD; rw [List.getD_eq_getElem?_getD, List.getElem?_eq_getElem (by omega)]; exact List.getElem_mem _)
    simpa using this
  · rintro ⟨⟨h1, h2⟩, h3⟩
    refine ⟨h1, fun x hx => ?_, h3⟩
    obtain ⟨i, hi, rfl⟩ := List.getElem_of_mem hx
    have := h2 i (by omega)
    unfold gD at this
    rw [List.getD_eq_getElem?_getD, List.getElem?_eq_getElem hi] at this
    simpa using this
noncomputable def AP (l : List Int) : List Int := cn (sB (gD l) 32 % Pm)
theorem acA {l : List Int} (h : Oe l = true) : ai Tryz.prog 91 [.agg [.ints .i64 32 l]] [] (.agg [.ints .i64 16 (AP l)]) [] := by
  obtain ⟨hk, hv⟩ := ug.1 h
  have hr := Mi hk hv
  have l32 : ∀ j, j ≤ 4 → aH 32 (dK l j) = dK l j := fun j hj => aF (hr j hj).1.len
  have bS : Tr Tryz.prog none 0 (az 3 (aE Tryz.f91)) (xl l 0) .normal (xl (dK l 4) 4) := by
    have key := Tr.loop (P := Tryz.prog) (ro := none) (k := 0) 0 (c := az 3 (aE Tryz.f91)) (by kernel_rfl) (fun j : Nat => xl (dK l j) j) 4 (s' := xl (dK l 4) 4) (fun j hj => ?_) ?_
    · exact key
    · have k := v8 (dK l j) j
      rw [l32 j (by omega), iw, wrap_i64 _ (by omega) (by omega), show (j : Int) + 1 = ((j + 1 : Nat) : Int) by omega] at k
      refine Tr.post (Tr.cut (dz true) 80 _ 3 (by omega) k ?_) (bh.same rfl rfl)
      rw [decide_eq_true (by omega)]; rfl
    · have k := QI (dK l 4) 4
      exact Tr.post (Tr.cut (dz false) 80 _ 3 (by omega) k rfl) (bh.same rfl rfl)
  -- the last number of 16 parts
  obtain ⟨k4, v4⟩ := hr 4 (by omega)
  obtain ⟨k3, v3⟩ := hr 3 (by omega)
  have h0 : 0 ≤ sB (gD l) 32 := by
    have : ∀ n, n ≤ 32 → 0 ≤ sB (gD l) n := by
      intro n
      induction n with
      | zero => intro _; simp [sB]
      | succ n ih =>
        intro hn
        rw [sB]
        have h1 := ih (by omega)
        have h2 := Int.mul_nonneg (hk.b n (by omega)).1 (show 0 ≤ (65536 : Int) ^ n from Int.pow_nonneg (by omega))
        omega
    exact this 32 (Nat.le_refl _)
  obtain ⟨_, _, b3, b4⟩ := TX h0 hv
  obtain ⟨_, _, z4, _⟩ := FZ k3 (by rw [v3]; have hB : c8 = 115792089237316195423570985008687907853269984665640564039457584007913129639936 := rfl; rw [hB] at b3 ⊢; omega)
  have e16 : sB (gD (dK l 4)) 16 = pR (sB (gD l) 32) 4 := by
    have := eU (gD (dK l 4)) 16 16
    rw [lX (f := fun i => gD (dK l 4) (16 + i)) 16 (fun i hi => z4 (16 + i) (by omega) (by omega)), Int.mul_zero, Int.add_zero] at this
    rw [← this]
    exact v4
  obtain ⟨o1, t, o2, o3, o4⟩ := zF (L := dK l 4) (fun i hi => k4.b i (by omega)) (by rw [e16]; exact b4.2)
  have hmod : vR (v7 (dK l 4)) % Pm = sB (gD l) 32 % Pm := by
    rw [jV o2, e16]
    show rv (rv (rv (rv (sB (gD l) 32)))) % Pm = _
    rw [zE, zE, zE, zE]
  have hw := Mj (L := dK l 4) o1 o4
  rw [hmod] at hw
  have ko := W7 (dK l 4)
  rw [l32 4 (by omega)] at ko
  refine ai.cz zA 60 13 0 Tryz.func91 (by simp) rfl (fun s' x hh => ?_) (s := Ao (dK l 4) (AP l)) (p := true) (by kernel_rfl) rfl rfl rfl
  refine aY.items zA 60 3 _ 3 (by simp) (zB l) rfl (by decide) ?_
  refine aY.item 3 (by decide) bS ?_
  refine aY.items zA 80 8 _ 3 (by simp) ko rfl (by decide) ?_
  rw [List.drop_drop]
  exact aY.item 12 (by decide) hw hh
noncomputable def qQ : List SV → Option (SV × List Blk × Bool)
  | [.agg [.ints .i64 32 l]] => some (.agg [.ints .i64 16 (AP l)], [], Oe l)
  | _ => none
noncomputable def fj : Entry Tryz.prog := .val 91 _ Tryz.func91 (by decide) rfl false 0 qQ fun vs v new e => by
  unfold qQ at e
  split at e
  · simp only [Option.some.injEq, Prod.mk.injEq] at e
    obtain ⟨rfl, rfl, h⟩ := e
    exact acA h
  · cases e
end Go.Proofs.YtibfpjeeanppjaaGreat.Re
