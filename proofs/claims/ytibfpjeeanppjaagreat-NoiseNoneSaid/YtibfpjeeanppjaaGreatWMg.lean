/- This file proves contracts of the reference's numbers: prime, atLeast, minus. Conditions: parts within 16 bits. -/
import Derived.Test.YtibfpjeeanppjaaGreatWMf
set_option linter.all false
set_option maxRecDepth 100000
namespace Go.Proofs.YtibfpjeeanppjaaGreat.Re
open Go Go.Sy Fe
def sB (f : Nat → Int) : Nat → Int
  | 0 => 0
  | n + 1 => sB f n + f n * 65536 ^ n
theorem sB_congr {f g : Nat → Int} : ∀ (n : Nat), (∀ i, i < n → f i = g i) → sB f n = sB g n
  | 0, _ => rfl
  | n + 1, h => by rw [sB, sB, sB_congr n fun i hi => h i (by omega), h n (by omega)]
theorem sB_add (f g : Nat → Int) : ∀ n : Nat, sB (fun i => f i + g i) n = sB f n + sB g n
  | 0 => rfl
  | n + 1 => by rw [sB, sB, sB, sB_add f g n, Int.add_mul]; omega
theorem sB_mul (c : Int) (f : Nat → Int) : ∀ n : Nat, sB (fun i => c * f i) n = c * sB f n
  | 0 => by simp [sB]
  | n + 1 => by rw [sB, sB, sB_mul c f n, Int.mul_add, Int.mul_assoc]
theorem sB_zero {f : Nat → Int} : ∀ (n : Nat), (∀ i, i < n → f i = 0) → sB f n = 0
  | 0, _ => rfl
  | n + 1, h => by rw [sB, sB_zero n fun i hi => h i (by omega), h n (by omega)]; simp
theorem sB_split (f : Nat → Int) (a : Nat) : ∀ n : Nat, sB f (a + n) = sB f a + 65536 ^ a * sB (fun i => f (a + i)) n
  | 0 => by simp [sB]
  | n + 1 => by
    rw [← Nat.add_assoc, sB, sB, sB_split f a n, Int.mul_add, Int.pow_add]
    have : f (a + n) * (65536 ^ a * 65536 ^ n) = 65536 ^ a * (f (a + n) * 65536 ^ n) := by rw [← Int.mul_assoc, Int.mul_comm (f (a + n)), Int.mul_assoc]
    omega
theorem sB_range {f : Nat → Int} : ∀ (n : Nat), (∀ i, i < n → 0 ≤ f i ∧ f i < 65536) → 0 ≤ sB f n ∧ sB f n < 65536 ^ n
  | 0, _ => by simp [sB]
  | n + 1, h => by
    have ih := sB_range n fun i hi => h i (by omega)
    have hn := h n (by omega)
    have hp : (0 : Int) < 65536 ^ n := Int.pow_pos (by omega)
    rw [sB, Int.pow_succ]
    have h1 : 0 ≤ f n * 65536 ^ n := Int.mul_nonneg hn.1 (by omega)
    have h2 : f n * 65536 ^ n ≤ 65535 * 65536 ^ n := Int.mul_le_mul_of_nonneg_right (by omega) (by omega)
    omega
theorem sB_digit {f : Nat → Int} : ∀ (n i : Nat), i < n → (∀ i, i < n → 0 ≤ f i ∧ f i < 65536) → f i = sB f n / 65536 ^ i % 65536
  | 0, i, h, _ => by omega
  | n + 1, i, h, hf => by
    have hp : (0 : Int) < 65536 ^ n := Int.pow_pos (by omega)
    have hr := sB_range n fun i hi => hf i (by omega)
    rw [sB]
    by_cases hi : i = n
    · subst hi
      rw [Int.add_mul_ediv_right _ _ (by omega), Int.ediv_eq_zero_of_lt hr.1 hr.2, Int.zero_add]
      have := hf i (by omega)
      omega
    · rw [sB_digit n i (by omega) fun i hi => hf i (by omega)]
      have hq : (65536 : Int) ^ n = 65536 ^ i * (65536 * 65536 ^ (n - i - 1)) := by
        rw [← Int.pow_succ', ← Int.pow_add]; congr 1; omega
      have hi0 : (65536 : Int) ^ i ≠ 0 := by have : (0 : Int) < 65536 ^ i := Int.pow_pos (by omega); omega
      rw [hq, show f n * (65536 ^ i * (65536 * 65536 ^ (n - i - 1))) = 65536 ^ i * (f n * (65536 * 65536 ^ (n - i - 1))) by rw [← Int.mul_assoc, Int.mul_comm (f n), Int.mul_assoc],
        Int.add_mul_ediv_left _ _ hi0, show f n * (65536 * 65536 ^ (n - i - 1)) = 65536 * (f n * 65536 ^ (n - i - 1)) by rw [← Int.mul_assoc, Int.mul_comm (f n), Int.mul_assoc], Int.add_mul_emod_self_left]
theorem sB_lt {f g : Nat → Int} {n m : Nat} (hm : m < n) (hf : ∀ i, i < n → 0 ≤ f i ∧ f i < 65536) (hg : ∀ i, i < n → 0 ≤ g i ∧ g i < 65536) (he : ∀ i, m < i → i < n → f i = g i) (hl : f m < g m) : sB f n < sB g n := by
  have key : ∀ k : Nat, m < k → k ≤ n → sB f k < sB g k := by
    intro k
    induction k with
    | zero => intro h; omega
    | succ k ih =>
      intro h1 h2
      rw [sB, sB]
      by_cases hk : k = m
      · subst hk
        have r1 := sB_range k fun i hi => hf i (by omega)
        have r2 := sB_range k fun i hi => hg i (by omega)
        have hp : (0 : Int) < 65536 ^ k := Int.pow_pos (by omega)
        have : f k * 65536 ^ k + 65536 ^ k ≤ g k * 65536 ^ k := by
          have := Int.mul_le_mul_of_nonneg_right (show f k + 1 ≤ g k by omega) (show 0 ≤ (65536 : Int) ^ k by omega)
          rw [Int.add_mul, Int.one_mul] at this
          exact this
        omega
      · have := ih (by omega) (by omega)
        rw [he k (by omega) (by omega)]
        omega
  exact key n hm (Nat.le_refl _)
def gD (l : List Int) : Nat → Int := fun i => l.getD i 0
def vR (l : List Int) : Int := sB (gD l) 16
def part (x : Int) : Bool := decide (0 ≤ x) && decide (x < 65536)
theorem part_iff {x : Int} : part x = true ↔ 0 ≤ x ∧ x < 65536 := by simp [part]
def okP (l : List Int) : Bool := decide (l.length = 16) && l.all part
theorem okP_iff {l : List Int} : okP l = true ↔ l.length = 16 ∧ ∀ i, i < 16 → 0 ≤ l.getD i 0 ∧ l.getD i 0 < 65536 := by
  unfold okP
  rw [Bool.and_eq_true, decide_eq_true_eq, List.all_eq_true]
  constructor
  · rintro ⟨h1, h2⟩
    refine ⟨h1, fun i hi => part_iff.1 (h2 _ ?_)⟩
    rw [List.getD_eq_getElem?_getD, List.getElem?_eq_getElem (by omega)]
    exact List.getElem_mem _
  · rintro ⟨h1, h2⟩
    refine ⟨h1, fun x hx => ?_⟩
    obtain ⟨i, hi, rfl⟩ := List.getElem_of_mem hx
    have := h2 i (by omega)
    rw [List.getD_eq_getElem?_getD, List.getElem?_eq_getElem hi] at this
    exact part_iff.2 this
def digR (n : Int) : List Int := (List.range 16).map fun i => n / 65536 ^ i % 65536
theorem digR_get (n : Int) {i : Nat} (h : i < 16) : (digR n).getD i 0 = n / 65536 ^ i % 65536 := by
  unfold digR
  rw [List.getD_eq_getElem?_getD, List.getElem?_map, List.getElem?_range h]; rfl
theorem digR_ok (n : Int) : okP (digR n) = true := okP_iff.2 ⟨by simp [digR], fun i hi => by rw [digR_get n hi]; omega⟩
theorem digR_vR {l : List Int} (h : okP l = true) : digR (vR l) = l := by
  obtain ⟨h1, h2⟩ := okP_iff.1 h
  apply List.ext_getElem?
  intro i
  by_cases hi : i < 16
  · have e1 : (digR (vR l))[i]? = some ((digR (vR l)).getD i 0) := by rw [List.getD_eq_getElem?_getD, List.getElem?_eq_getElem (by simp [digR]; omega)]; rfl
    have e2 : l[i]? = some (l.getD i 0) := by rw [List.getD_eq_getElem?_getD, List.getElem?_eq_getElem (by omega)]; rfl
    rw [e1, e2, digR_get _ hi]
    congr 1
    exact (sB_digit 16 i hi h2).symm
  · rw [List.getElem?_eq_none (by simp [digR]; omega), List.getElem?_eq_none (by omega)]
theorem sB_dig (n : Int) : ∀ k : Nat, 0 ≤ n → sB (fun i => n / 65536 ^ i % 65536) k = n % 65536 ^ k
  | 0, h => by simp [sB]
  | k + 1, h => by
    rw [sB, sB_dig n k h, Int.pow_succ]
    have hp : (0 : Int) < 65536 ^ k := Int.pow_pos (by omega)
    have h1 := Int.mul_ediv_add_emod n (65536 ^ k)
    have h2 := Int.mul_ediv_add_emod (n / 65536 ^ k) 65536
    have h3 : n = 65536 ^ k * 65536 * (n / 65536 ^ k / 65536) + (n % 65536 ^ k + n / 65536 ^ k % 65536 * 65536 ^ k) := by
      conv => lhs; rw [← h1, ← h2]
      rw [Int.mul_add, ← Int.mul_assoc, Int.mul_comm (n / 65536 ^ k % 65536)]
      generalize 65536 ^ k * (n / 65536 ^ k % 65536) = z
      rw [Int.add_assoc, Int.add_comm z]
    have r1 := Int.emod_nonneg n (show (65536 : Int) ^ k ≠ 0 by omega)
    have r2 := Int.emod_lt_of_pos n hp
    have r3 : 0 ≤ n / 65536 ^ k % 65536 ∧ n / 65536 ^ k % 65536 < 65536 := by omega
    have r4 : n / 65536 ^ k % 65536 * 65536 ^ k ≤ 65535 * 65536 ^ k := Int.mul_le_mul_of_nonneg_right (by omega) (by omega)
    have r5 : 0 ≤ n / 65536 ^ k % 65536 * 65536 ^ k := Int.mul_nonneg r3.1 (by omega)
    have h4 : n % (65536 ^ k * 65536) = _ := congrArg (· % ((65536 : Int) ^ k * 65536)) h3
    have h5 : ∀ m q r : Int, 0 ≤ r → r < m → (m * q + r) % m = r := fun m q r a b => by rw [Int.add_comm, Int.add_mul_emod_self_left]; exact Int.emod_eq_of_lt a b
    exact (h4.trans (h5 _ _ _ (by omega) (by omega))).symm
theorem vR_digR {n : Int} (h0 : 0 ≤ n) (h1 : n < 115792089237316195423570985008687907853269984665640564039457584007913129639936) : vR (digR n) = n := by
  unfold vR
  rw [sB_congr (f := gD (digR n)) (g := fun i => n / 65536 ^ i % 65536) 16 fun i hi => digR_get n hi, sB_dig n 16 h0]
  exact Int.emod_eq_of_lt h0 (by rw [show (65536 : Int) ^ 16 = 115792089237316195423570985008687907853269984665640564039457584007913129639936 by decide]; exact h1)
theorem vR_range {l : List Int} (h : okP l = true) : 0 ≤ vR l ∧ vR l < 115792089237316195423570985008687907853269984665640564039457584007913129639936 := by
  have := sB_range 16 (okP_iff.1 h).2
  rw [show (65536 : Int) ^ 16 = 115792089237316195423570985008687907853269984665640564039457584007913129639936 by decide] at this
  exact this
end Go.Proofs.YtibfpjeeanppjaaGreat.Re
namespace Go.Proofs.YtibfpjeeanppjaaGreat.Re
open Go Go.Sy Fe
def prL : List Int := [65517, 65535, 65535, 65535, 65535, 65535, 65535, 65535, 65535, 65535, 65535, 65535, 65535, 65535, 65535, 32767]
theorem prL_ok : okP prL = true := by decide
theorem prL_val : vR prL = Pm := by decide
def primeEF : List SV → Option (SV × List Blk × Bool)
  | [] => some (.agg [.ints .i64 16 prL], [], true)
  | _ => none
noncomputable def primeE : Entry Tryz.prog := .val 127 _ Tryz.func127 (by decide) rfl false 0 primeEF fun vs v new e => by
  unfold primeEF at e
  split at e
  · cases e
    exact call0 ctr0 20 Tryz.func127 (p := true) (by kernel_rfl) rfl rfl
  · cases e
def ixO (i : Int) (o : Bool) : Bool := andT (andT o (inB i 16)) (decide (0 + i.toNat < 16))
theorem ixO_iff {i : Int} {o : Bool} (h0 : 0 ≤ i) (h1 : i < 16) (ho : o = true) : ixO i o = true := by
  subst ho; unfold ixO inB
  rw [decide_eq_true h0, decide_eq_true (show i < (16 : Nat) by omega), decide_eq_true (show 0 + i.toNat < 16 by omega)]; rfl
noncomputable def alC (x y : Bool) : Ctr := mk (P := Tryz.prog) [] [] fun i => if i = 7 then some x else if i = 16 then some y else none
theorem alC_ok (x y : Bool) : CtrSound Tryz.prog (alC x y) := mk_sound _ InlOK.nil _ _
noncomputable def alB : Code := inner (inner (nthC 2 (bodyOf Tryz.f129)))
noncomputable def alH (a b : List Int) : List Blk := [.b [.ints .i64 16 a], .b [.ints .i64 16 b]]
noncomputable def alS (a b : List Int) (i : Int) : St := ⟨slotsOf 24 [(2, .ptr 0 0 0), (3, .ptr 1 0 0), (5, .int .i64 i)], alH a b, true⟩
section
variable (a b : List Int) (i : Int)
theorem al_ne : (exec Tryz.prog (alC true true) 40 0 alB (alS a b i)).bind (fun r => (r.2.cut [4] 2).map fun q => (r.1, q)) =
    some (.ret, ⟨slotsOf 24 [(4, .bool (decide (a.getD (0 + i.toNat) 0 > b.getD (0 + i.toNat) 0)))], alH a b, ixO i (ixO i (andT (ixO i (ixO i (andT true (decide (i ≥ 0))))) (a.getD (0 + i.toNat) 0 != b.getD (0 + i.toNat) 0)))⟩) := by kernel_rfl
theorem al_eq : (exec Tryz.prog (alC true false) 40 0 alB (alS a b i)).bind (fun r => (r.2.cut [2, 3, 5] 2).map fun q => (r.1, q)) =
    some (.normal, ⟨(alS a b (IntKind.i64.wrap (i - 1))).t, alH a b, andT (ixO i (ixO i (andT true (decide (i ≥ 0))))) (!(a.getD (0 + i.toNat) 0 != b.getD (0 + i.toNat) 0))⟩) := by kernel_rfl
theorem al_end : (exec Tryz.prog (alC false false) 40 0 alB (alS a b i)).bind (fun r => (r.2.cut [2, 3, 5] 2).map fun q => (r.1, q)) =
    some (.exit 0, ⟨(alS a b i).t, alH a b, andT true (!decide (i ≥ 0))⟩) := by kernel_rfl
theorem al_head : (execL Tryz.prog (alC true true) 40 0 2 (atoms (bodyOf Tryz.f129)) ⟨slots0 Tryz.f129.ntmps [.agg [.ints .i64 16 a], .agg [.ints .i64 16 b]], [], true⟩).bind (St.cut [2, 3, 5] 2) = some (alS a b 15) := by kernel_rfl
end
theorem top_diff (f g : Nat → Int) : ∀ n : Nat, (∀ i, i < n → f i = g i) ∨ ∃ m, m < n ∧ f m ≠ g m ∧ ∀ i, m < i → i < n → f i = g i
  | 0 => .inl fun i hi => by omega
  | n + 1 => by
    by_cases h : f n = g n
    · rcases top_diff f g n with q | ⟨m, h1, h2, h3⟩
      · exact .inl fun i hi => by
          by_cases hn : i = n
          · subst hn; exact h
          · exact q i (by omega)
      · exact .inr ⟨m, by omega, h2, fun i h4 h5 => by
          by_cases hn : i = n
          · subst hn; exact h
          · exact h3 i h4 (by omega)⟩
    · exact .inr ⟨n, by omega, h, fun i h4 h5 => by omega⟩
theorem al_step {a b : List Int} {j : Nat} (hj : j < 16) (h : a.getD (15 - j) 0 = b.getD (15 - j) 0) : Tr Tryz.prog none 0 alB (alS a b (15 - j)) .normal (alS a b (15 - ((j + 1 : Nat) : Int))) := by
  have k := al_eq a b (15 - j)
  have e1 : IntKind.i64.wrap (15 - (j : Int) - 1) = 15 - ((j + 1 : Nat) : Int) := by rw [wrap_i64 _ (by omega) (by omega)]; omega
  have e2 : 0 + (15 - (j : Int)).toNat = 15 - j := by omega
  rw [e1, e2] at k
  refine Tr.post (Tr.cut (alC_ok true false) 40 _ 2 (by omega) k ?_) (Ent.same rfl rfl)
  rw [andT_iff]
  refine ⟨ixO_iff (by omega) (by omega) (ixO_iff (by omega) (by omega) (by rw [decide_eq_true (by omega)]; rfl)), ?_⟩
  rw [h]; simp
theorem al_fn {a b : List Int} (ha : okP a = true) (hb : okP b = true) : FnTr Tryz.prog 129 [.agg [.ints .i64 16 a], .agg [.ints .i64 16 b]] [] (.bool (decide (vR b ≤ vR a))) [] := by
  have ha' := (okP_iff.1 ha).2
  have hb' := (okP_iff.1 hb).2
  rcases top_diff (gD a) (gD b) 16 with hall | ⟨m, hm, hne, hab⟩
  · have hv : vR a = vR b := sB_congr 16 hall
    rw [decide_eq_true (show vR b ≤ vR a by omega)]
    have hloop : Tr Tryz.prog none 0 (nthC 2 (bodyOf Tryz.f129)) (alS a b 15) .normal (alS a b (-1)) := by
      have key := Tr.loop (P := Tryz.prog) (ro := none) (k := 0) 0 (c := nthC 2 (bodyOf Tryz.f129)) (by kernel_rfl) (fun j : Nat => alS a b (15 - j)) 16 (s' := alS a b (-1)) (fun j hj => ?_) ?_
      · exact key
      · have q := hall (15 - j) (by omega)
        exact al_step hj q
      · have k := al_end a b (-1)
        exact Tr.post (Tr.cut (alC_ok false false) 40 _ 2 (by omega) k rfl) (Ent.same rfl rfl)
    refine FnTr.restM (alC_ok true true) 40 3 0 Tryz.func129 (by simp) rfl (fun s' x h => ?_) (s := alS a b (-1)) (p := true) (by kernel_rfl) rfl rfl rfl
    refine TrL.items (alC_ok true true) 40 2 _ 2 (by simp) (al_head a b) rfl (by decide) ?_
    exact TrL.item 2 (by decide) hloop h
  · have hv : decide (vR b ≤ vR a) = decide (a.getD m 0 > b.getD m 0) := by
      rcases Int.lt_or_gt_of_ne hne with h | h
      · have h1 : vR a < vR b := sB_lt (f := gD a) (g := gD b) hm ha' hb' hab h
        have h' : a.getD m 0 < b.getD m 0 := h
        rw [decide_eq_false (by omega), decide_eq_false (by omega)]
      · have h1 : vR b < vR a := sB_lt (f := gD b) (g := gD a) hm hb' ha' (fun i h1 h2 => (hab i h1 h2).symm) h
        have h' : b.getD m 0 < a.getD m 0 := h
        rw [decide_eq_true (by omega), decide_eq_true (by omega)]
    rw [hv]
    have hlast : Tr Tryz.prog none 0 alB (alS a b (15 - ((15 - m : Nat) : Int))) .ret ⟨slotsOf 24 [(4, .bool (decide (a.getD m 0 > b.getD m 0)))], alH a b, true⟩ := by
      have k := al_ne a b (15 - ((15 - m : Nat) : Int))
      have e2 : 0 + ((15 : Int) - ((15 - m : Nat) : Int)).toNat = m := by omega
      rw [e2] at k
      refine Tr.post (Tr.cut (alC_ok true true) 40 _ 2 (by omega) k ?_) (Ent.same rfl rfl)
      refine ixO_iff (by omega) (by omega) (ixO_iff (by omega) (by omega) ?_)
      rw [andT_iff]
      refine ⟨ixO_iff (by omega) (by omega) (ixO_iff (by omega) (by omega) (by rw [decide_eq_true (by omega)]; rfl)), ?_⟩
      exact bne_iff_ne.2 hne
    have hloop : TrR Tryz.prog none 0 alB (alS a b 15) .ret ⟨slotsOf 24 [(4, .bool (decide (a.getD m 0 > b.getD m 0)))], alH a b, true⟩ :=
      by
        refine TrR.for (by simp) (fun j : Nat => alS a b (15 - j)) (15 - m) (fun j hj => ?_) hlast
        have q := hab (15 - j) (by omega) (by omega)
        exact al_step (by omega) q
    refine (FnTr.mk (vs := [.bool (decide (a.getD m 0 > b.getD m 0))]) (h := []) Tryz.func129 rfl (x := .ret) (s := ⟨slotsOf 24 [(4, .bool (decide (a.getD m 0 > b.getD m 0)))], alH a b, true⟩) ?_ (.inl rfl) (by kernel_rfl)).post (Ent.trunc (n := 0) (by simp) (by rfl))
    refine TrL.items (alC_ok true true) 40 2 _ 2 (by simp) (al_head a b) rfl (by decide) ?_
    exact TrL.leave 2 (by decide) (by simp) (Tr.loopRet 0 (by kernel_rfl) hloop)
noncomputable def alEF : List SV → Option (SV × List Blk × Bool)
  | [.agg [.ints .i64 16 a], .agg [.ints .i64 16 b]] => some (.bool (decide (vR b ≤ vR a)), [], okP a && okP b)
  | _ => none
noncomputable def atLeastE : Entry Tryz.prog := .val 129 _ Tryz.func129 (by decide) rfl false 0 alEF fun vs v new e => by
  unfold alEF at e
  split at e
  · simp only [Option.some.injEq, Prod.mk.injEq, Bool.and_eq_true] at e
    obtain ⟨rfl, rfl, ha, hb⟩ := e
    exact al_fn ha hb
  · cases e
def bw (a b : List Int) : Nat → Int
  | 0 => 0
  | j + 1 => if a.getD j 0 - b.getD j 0 - bw a b j < 0 then 1 else 0
def mnD (a b : List Int) (j : Nat) : Int := a.getD j 0 - b.getD j 0 - bw a b j + 65536 * bw a b (j + 1)
def mnL (a b : List Int) : Nat → List Int
  | 0 => a
  | j + 1 => (mnL a b j).set j (mnD a b j)
theorem mnL_length (a b : List Int) : ∀ j, (mnL a b j).length = a.length
  | 0 => rfl
  | j + 1 => by rw [mnL, List.length_set, mnL_length a b j]
theorem mnL_get (a b : List Int) : ∀ (j i : Nat), i < a.length → (mnL a b j).getD i 0 = if i < j then mnD a b i else a.getD i 0
  | 0, i, _ => rfl
  | j + 1, i, h => by
    rw [mnL, List.getD_eq_getElem?_getD]
    by_cases hij : j = i
    · subst hij
      rw [List.getElem?_set_self (by rw [mnL_length]; exact h), if_pos (by omega)]; rfl
    · rw [List.getElem?_set_ne hij, ← List.getD_eq_getElem?_getD, mnL_get a b j i h]
      by_cases h2 : i < j
      · rw [if_pos h2, if_pos (by omega)]
      · rw [if_neg h2, if_neg (by omega)]
theorem bw_bit (a b : List Int) : ∀ j, bw a b j = 0 ∨ bw a b j = 1
  | 0 => .inl rfl
  | j + 1 => by rw [bw]; split
                · exact .inr rfl
                · exact .inl rfl
theorem mnD_part {a b : List Int} (ha : okP a = true) (hb : okP b = true) {j : Nat} (hj : j < 16) : 0 ≤ mnD a b j ∧ mnD a b j < 65536 := by
  have h1 := (okP_iff.1 ha).2 j hj
  have h2 := (okP_iff.1 hb).2 j hj
  have h3 := bw_bit a b j
  unfold mnD
  rw [bw]
  split <;> omega
theorem mnD_sum (a b : List Int) : ∀ n, sB (mnD a b) n = sB (gD a) n - sB (gD b) n + 65536 ^ n * bw a b n
  | 0 => by simp [sB, bw]
  | n + 1 => by
    rw [sB, sB, sB, mnD_sum a b n]
    have e : mnD a b n = gD a n - gD b n - bw a b n + 65536 * bw a b (n + 1) := rfl
    rw [e, Int.pow_succ]
    generalize gD a n = x
    generalize gD b n = y
    generalize bw a b n = u
    generalize bw a b (n + 1) = v
    generalize (65536 : Int) ^ n = P
    grind
theorem mn_val {a b : List Int} (ha : okP a = true) (hb : okP b = true) (hle : vR b ≤ vR a) : mnL a b 16 = digR (vR a - vR b) := by
  have hl : (mnL a b 16).length = 16 := by rw [mnL_length, (okP_iff.1 ha).1]
  have hla := (okP_iff.1 ha).1
  have hok : okP (mnL a b 16) = true := okP_iff.2 ⟨hl, fun i hi => by rw [mnL_get a b 16 i (by omega), if_pos hi]; exact mnD_part ha hb hi⟩
  have hs := mnD_sum a b 16
  have hv : vR (mnL a b 16) = sB (mnD a b) 16 := sB_congr 16 fun i hi => by show (mnL a b 16).getD i 0 = _; rw [mnL_get a b 16 i (by omega), if_pos hi]
  have r := vR_range hok
  have r1 := vR_range ha
  have r2 := vR_range hb
  have hbw := bw_bit a b 16
  have hp : (65536 : Int) ^ 16 = 115792089237316195423570985008687907853269984665640564039457584007913129639936 := by decide
  rw [hp] at hs
  have hs' : vR (mnL a b 16) = vR a - vR b + 115792089237316195423570985008687907853269984665640564039457584007913129639936 * bw a b 16 := by rw [hv]; exact hs
  have h0 : vR (mnL a b 16) = vR a - vR b := by rcases hbw with h | h <;> rw [h] at hs' <;> omega
  rw [← h0, digR_vR hok]
noncomputable def mnC (x y : Bool) : Ctr := mk (P := Tryz.prog) [] [] fun i => if i = 9 then some x else if i = 22 then some y else none
theorem mnC_ok (x y : Bool) : CtrSound Tryz.prog (mnC x y) := mk_sound _ InlOK.nil _ _
noncomputable def mnB : Code := inner (inner (nthC 3 (bodyOf Tryz.f126)))
def z16 : List Int := List.replicate 16 0
noncomputable def mnH (a b : List Int) : List Blk := [.b [.ints .i64 16 a], .b [.ints .i64 16 b], .b [.ints .i64 16 z16]]
noncomputable def mnS (a b : List Int) (c : Int) (i : Int) : St := ⟨slotsOf 29 [(2, .ptr 0 0 0), (3, .ptr 1 0 0), (4, .ptr 2 0 0), (5, .int .i64 c), (6, .int .i64 i)], mnH a b, true⟩
def mnT (a b : List Int) (c i : Int) : Int := IntKind.i64.wrap (IntKind.i64.wrap (a.getD (0 + i.toNat) 0 - b.getD (0 + i.toNat) 0) - c)
section
variable (a b : List Int) (c i : Int)
theorem mn_neg : (exec Tryz.prog (mnC true true) 40 0 mnB (mnS a b c i)).bind (fun r => (r.2.cut [2, 3, 4, 5, 6] 3).map fun q => (r.1, q)) =
    some (.normal, ⟨(mnS a b 1 (IntKind.i64.wrap (i + 1))).t, mnH (a.set (0 + i.toNat) (IntKind.i64.wrap (mnT a b c i + 65536))) b,
      andT (andT (andT (ixO i (ixO i (andT true (decide (i < 16))))) (decide (mnT a b c i < 0))) (inB i 16)) (decide (0 + i.toNat < 16) && decide (a.length = 16))⟩) := by kernel_rfl
theorem mn_pos : (exec Tryz.prog (mnC true false) 40 0 mnB (mnS a b c i)).bind (fun r => (r.2.cut [2, 3, 4, 5, 6] 3).map fun q => (r.1, q)) =
    some (.normal, ⟨(mnS a b 0 (IntKind.i64.wrap (i + 1))).t, mnH (a.set (0 + i.toNat) (mnT a b c i)) b,
      andT (andT (andT (ixO i (ixO i (andT true (decide (i < 16))))) (!decide (mnT a b c i < 0))) (inB i 16)) (decide (0 + i.toNat < 16) && decide (a.length = 16))⟩) := by kernel_rfl
theorem mn_end : (exec Tryz.prog (mnC false false) 40 0 mnB (mnS a b c i)).bind (fun r => (r.2.cut [2, 3, 4, 5, 6] 3).map fun q => (r.1, q)) =
    some (.exit 0, ⟨(mnS a b c i).t, mnH a b, andT true (!decide (i < 16))⟩) := by kernel_rfl
theorem mn_head : (execL Tryz.prog (mnC true true) 40 0 3 (atoms (bodyOf Tryz.f126)) ⟨slots0 Tryz.f126.ntmps [.agg [.ints .i64 16 a], .agg [.ints .i64 16 b]], [], true⟩).bind (St.cut [2, 3, 4, 5, 6] 3) = some (mnS a b 0 0) := by kernel_rfl
end
noncomputable def mnF (a b : List Int) : List Int := Lock (digR (vR a - vR b))
theorem mn_step {a b : List Int} (ha : okP a = true) (hb : okP b = true) {j : Nat} (hj : j < 16) : Tr Tryz.prog none 0 mnB (mnS (mnL a b j) b (bw a b j) j) .normal (mnS (mnL a b (j + 1)) b (bw a b (j + 1)) ((j + 1 : Nat) : Int)) := by
  have hla := (okP_iff.1 ha).1
  have p1 := (okP_iff.1 ha).2 j hj
  have p2 := (okP_iff.1 hb).2 j hj
  have p3 := bw_bit a b j
  have hT : mnT (mnL a b j) b (bw a b j) j = a.getD j 0 - b.getD j 0 - bw a b j := by
    unfold mnT
    rw [show 0 + (j : Int).toNat = j by omega, mnL_get a b j j (by omega), if_neg (by omega), wrap_i64 (a.getD j 0 - b.getD j 0) (by omega) (by omega), wrap_i64 _ (by omega) (by omega)]
  have e1 : IntKind.i64.wrap ((j : Int) + 1) = ((j + 1 : Nat) : Int) := by rw [wrap_i64 _ (by omega) (by omega)]; omega
  have e2 : 0 + (j : Int).toNat = j := by omega
  have hlen : (mnL a b j).length = 16 := by rw [mnL_length, hla]
  have o1 : ixO j (ixO j (andT true (decide ((j : Int) < 16)))) = true := ixO_iff (by omega) (by omega) (ixO_iff (by omega) (by omega) (by rw [decide_eq_true (by omega)]; rfl))
  have o2 : inB (j : Int) 16 = true := by unfold inB; rw [decide_eq_true (by omega), decide_eq_true (by omega)]; rfl
  by_cases hneg : a.getD j 0 - b.getD j 0 - bw a b j < 0
  · have k := mn_neg (mnL a b j) b (bw a b j) j
    rw [hT, e1, e2] at k
    refine Tr.post (Tr.cut (mnC_ok true true) 40 _ 3 (by omega) k ?_) (Ent.same ?_ ?_)
    · rw [o1, o2, hlen, decide_eq_true hneg, decide_eq_true (show j < 16 from hj)]; rfl
    · rw [show bw a b (j + 1) = 1 by rw [bw, if_pos hneg]]; rfl
    · show mnH _ _ = mnH _ _
      rw [mnL, mnD, bw, if_pos hneg, wrap_i64 _ (by omega) (by omega)]
      rfl
  · have k := mn_pos (mnL a b j) b (bw a b j) j
    rw [hT, e1, e2] at k
    refine Tr.post (Tr.cut (mnC_ok true false) 40 _ 3 (by omega) k ?_) (Ent.same ?_ ?_)
    · rw [o1, o2, hlen, decide_eq_false hneg, decide_eq_true (show j < 16 from hj)]; rfl
    · rw [show bw a b (j + 1) = 0 by rw [bw, if_neg hneg]]; rfl
    · show mnH _ _ = mnH _ _
      rw [mnL, mnD, bw, if_neg hneg]
      rw [Int.mul_zero, Int.add_zero]
theorem mn_fn {a b : List Int} (ha : okP a = true) (hb : okP b = true) (hle : vR b ≤ vR a) : FnTr Tryz.prog 126 [.agg [.ints .i64 16 a], .agg [.ints .i64 16 b]] [] (.agg [.ints .i64 16 (mnF a b)]) [] := by
  rw [mnF, Lock_eq, ← mn_val ha hb hle]
  have hloop : Tr Tryz.prog none 0 (nthC 3 (bodyOf Tryz.f126)) (mnS a b 0 0) .normal (mnS (mnL a b 16) b (bw a b 16) 16) := by
    have key := Tr.loop (P := Tryz.prog) (ro := none) (k := 0) 0 (c := nthC 3 (bodyOf Tryz.f126)) (by kernel_rfl) (fun j : Nat => mnS (mnL a b j) b (bw a b j) j) 16 (s' := mnS (mnL a b 16) b (bw a b 16) 16) (fun j hj => ?_) ?_
    · exact key
    · exact mn_step ha hb hj
    · have k := mn_end (mnL a b 16) b (bw a b 16) 16
      exact Tr.post (Tr.cut (mnC_ok false false) 40 _ 3 (by omega) k rfl) (Ent.same rfl rfl)
  refine FnTr.restM (mnC_ok true true) 40 4 0 Tryz.func126 (by simp) rfl (fun s' x h => ?_) (s := mnS (mnL a b 16) b (bw a b 16) 16) (p := true) (by kernel_rfl) rfl rfl rfl
  refine TrL.items (mnC_ok true true) 40 3 _ 3 (by simp) (mn_head a b) rfl (by decide) ?_
  exact TrL.item 3 (by decide) hloop h
noncomputable def mnEF : List SV → Option (SV × List Blk × Bool)
  | [.agg [.ints .i64 16 a], .agg [.ints .i64 16 b]] => some (.agg [.ints .i64 16 (mnF a b)], [], okP a && okP b && decide (vR b ≤ vR a))
  | _ => none
noncomputable def minusE : Entry Tryz.prog := .val 126 _ Tryz.func126 (by decide) rfl false 0 mnEF fun vs v new e => by
  unfold mnEF at e
  split at e
  · simp only [Option.some.injEq, Prod.mk.injEq, Bool.and_eq_true, decide_eq_true_eq] at e
    obtain ⟨rfl, rfl, ⟨ha, hb⟩, hc⟩ := e
    exact mn_fn ha hb hc
  · cases e
end Go.Proofs.YtibfpjeeanppjaaGreat.Re
namespace Go.Proofs.YtibfpjeeanppjaaGreat.Re
open Go Go.Sy Fe
abbrev iw (n : Int) : Int := IntKind.i64.wrap n
def nC (f : Nat → Int) : Nat → Int
  | 0 => iw (f 0 + 0)
  | i + 1 => iw (f (i + 1) + iw ((nC f i).tdiv 65536))
def dC (f : Nat → Int) (i : Nat) : Int := (nC f i).tmod 65536
def rndL (L : List Int) : List Int := (List.range 16).map (fun i => iw (dC (gD L) i + iw (38 * dC (gD L) (i + 16)))) ++ List.replicate 16 0
noncomputable def smH (L O : List Int) : List Blk := [.b [.ints .i64 32 L], .b [.ints .i64 16 z16], .b [.ints .i64 16 O]]
noncomputable def smS (L : List Int) (i : Int) : St := ⟨slotsOf 103 [(1, .ptr 0 0 0), (2, .ptr 1 0 0), (3, .ptr 2 0 0), (4, .int .i64 i)], smH L z16, true⟩
noncomputable def smC (x : Bool) : Ctr := mk (P := Tryz.prog) [primeE, atLeastE, minusE] [] fun i => if i = 16 then some x else if i = 98 then some x else none
theorem smC_ok (x : Bool) : CtrSound Tryz.prog (smC x) := mk_sound _ InlOK.nil _ _
noncomputable def smC0 : Ctr := mk (P := Tryz.prog) [] []
theorem smC0_ok : CtrSound Tryz.prog smC0 := mk_sound _ InlOK.nil _ _
noncomputable def smB : Code := inner (inner (nthC 3 (bodyOf Tryz.f91)))
def mC (f : Nat → Int) : Nat → Int
  | 0 => iw (dC f 0 + iw (19 * iw ((dC f 15).tdiv 32768)))
  | i + 1 => iw ((if i = 14 then (dC f 15).tmod 32768 else dC f (i + 1)) + iw ((mC f i).tdiv 65536))
def outL (L : List Int) : List Int := (List.range 16).map fun i => (mC (gD L) i).tmod 65536
noncomputable def smQ (L O : List Int) : St := ⟨slotsOf 103 [(2, .ptr 1 0 0), (3, .ptr 2 0 0)], smH L O, true⟩
noncomputable def smW : Code := inner (inner (nthC 12 (bodyOf Tryz.f91)))
section
variable (L O : List Int) (i : Int)
theorem sm_round : (exec Tryz.prog (smC true) 80 0 smB (smS (lst 32 L) i)).bind (fun r => (r.2.cut [1, 2, 3, 4] 3).map fun q => (r.1, q)) =
    some (.normal, ⟨(smS L (iw (i + 1))).t, smH (rndL (lst 32 L)) z16, andT true (decide (i < 4))⟩) := by kernel_rfl
theorem sm_rend : (exec Tryz.prog (smC false) 80 0 smB (smS L i)).bind (fun r => (r.2.cut [1, 2, 3, 4] 3).map fun q => (r.1, q)) =
    some (.exit 0, ⟨(smS L i).t, smH L z16, andT true (!decide (i < 4))⟩) := by kernel_rfl
theorem sm_head : (execL Tryz.prog smC0 60 0 3 (atoms (bodyOf Tryz.f91)) ⟨slots0 Tryz.f91.ntmps [.agg [.ints .i64 32 L]], [], true⟩).bind (St.cut [1, 2, 3, 4] 3) = some (smS L 0) := by kernel_rfl
theorem sm_out : (execL Tryz.prog smC0 80 0 8 ((atoms (bodyOf Tryz.f91)).drop 4) ⟨(smS L 4).t, smH (lst 32 L) z16, true⟩).bind (St.cut [2, 3] 3) = some (smQ (lst 32 L) (outL (lst 32 L))) := by kernel_rfl
end
end Go.Proofs.YtibfpjeeanppjaaGreat.Re
namespace Go.Proofs.YtibfpjeeanppjaaGreat.Re
open Go Go.Sy Fe
def cC (f : Nat → Int) : Nat → Int
  | 0 => 0
  | i + 1 => (f i + cC f i) / 65536
theorem cC_b {f : Nat → Int} {n : Nat} (h : ∀ i, i < n → 0 ≤ f i ∧ f i ≤ 1125899906842624) : ∀ i, i ≤ n → 0 ≤ cC f i ∧ cC f i ≤ 1125899906842624
  | 0, _ => by simp [cC]
  | i + 1, hi => by
    have := h i (by omega)
    have := cC_b h i (by omega)
    rw [cC]; omega
theorem carry_sum (f : Nat → Int) : ∀ n : Nat, sB f n = sB (fun i => (f i + cC f i) % 65536) n + 65536 ^ n * cC f n
  | 0 => by simp [sB, cC]
  | n + 1 => by
    rw [sB, sB, carry_sum f n, cC, Int.pow_succ]
    have e : f n = (f n + cC f n) % 65536 + 65536 * ((f n + cC f n) / 65536) - cC f n := by omega
    generalize (f n + cC f n) % 65536 = x at *
    generalize (f n + cC f n) / 65536 = y at *
    generalize cC f n = z at *
    generalize (65536 : Int) ^ n = P
    rw [e]
    grind
theorem nC_val {f : Nat → Int} {n : Nat} (h : ∀ i, i < n → 0 ≤ f i ∧ f i ≤ 1125899906842624) : ∀ i, i < n → nC f i = f i + cC f i ∧ dC f i = (f i + cC f i) % 65536 := by
  have key : ∀ i, i < n → nC f i = f i + cC f i := by
    intro i
    induction i with
    | zero =>
      intro hi
      have := h 0 hi
      rw [nC, cC, iw, wrap_i64 _ (by omega) (by omega)]
    | succ i ih =>
      intro hi
      have h0 := h i (by omega)
      have h1 := h (i + 1) hi
      have c0 := cC_b h i (by omega)
      have c1 := cC_b h (i + 1) (by omega)
      rw [cC] at c1
      rw [nC, ih (by omega), Int.tdiv_eq_ediv_of_nonneg (by omega), cC, iw, iw, wrap_i64 ((f i + cC f i) / 65536) (by omega) (by omega), wrap_i64 _ (by omega) (by omega)]
  intro i hi
  have h0 := h i hi
  have c0 := cC_b h i (by omega)
  refine ⟨key i hi, ?_⟩
  unfold dC
  rw [key i hi, Int.tmod_eq_emod_of_nonneg (by omega)]
theorem no_carry {f : Nat → Int} {n : Nat} (h : ∀ i, i < n → 0 ≤ f i ∧ f i ≤ 1125899906842624) (hv : sB f n < 65536 ^ n) : sB (dC f) n = sB f n := by
  have e := carry_sum f n
  have hd : sB (dC f) n = sB (fun i => (f i + cC f i) % 65536) n := sB_congr n fun i hi => (nC_val h i hi).2
  have r := sB_range (f := fun i => (f i + cC f i) % 65536) n fun i hi => by show 0 ≤ (f i + cC f i) % 65536 ∧ _; omega
  have hc := cC_b h n (Nat.le_refl _)
  have hp : (0 : Int) < 65536 ^ n := Int.pow_pos (by omega)
  have : cC f n = 0 := by
    by_cases h1 : 1 ≤ cC f n
    · have := Int.mul_le_mul_of_nonneg_left h1 (show 0 ≤ (65536 : Int) ^ n by omega)
      omega
    · omega
  rw [this] at e
  omega
theorem dC_part {f : Nat → Int} {n : Nat} (h : ∀ i, i < n → 0 ≤ f i ∧ f i ≤ 1125899906842624) : ∀ i, i < n → 0 ≤ dC f i ∧ dC f i < 65536 := fun i hi => by
  rw [(nC_val h i hi).2]; omega
def B256 : Int := 115792089237316195423570985008687907853269984665640564039457584007913129639936
theorem B256_pow : (65536 : Int) ^ 16 = B256 := by decide
theorem B512_pow : (65536 : Int) ^ 32 = B256 * B256 := by decide
def rv (V : Int) : Int := V % B256 + 38 * (V / B256)
structure Lk (L : List Int) : Prop where
  len : L.length = 32
  b : ∀ i, i < 32 → 0 ≤ gD L i ∧ gD L i ≤ 1125899906842624
theorem rnd_get {L : List Int} (h : Lk L) (i : Nat) (hi : i < 32) : gD (rndL L) i = if i < 16 then dC (gD L) i + 38 * dC (gD L) (i + 16) else 0 := by
  unfold gD rndL
  rw [List.getD_eq_getElem?_getD]
  by_cases h16 : i < 16
  · have p1 := dC_part h.b i (by omega)
    have p2 := dC_part h.b (i + 16) (by omega)
    rw [List.getElem?_append_left (by simpa using h16), List.getElem?_map, List.getElem?_range h16, if_pos h16]
    show iw (dC (gD L) i + iw (38 * dC (gD L) (i + 16))) = _
    rw [iw, iw, wrap_i64 (38 * _) (by omega) (by omega), wrap_i64 _ (by omega) (by omega)]
    rfl
  · rw [List.getElem?_append_right (by simp; omega), if_neg h16, List.getElem?_replicate, if_pos (by simp; omega)]; rfl
theorem rnd_val {L : List Int} (h : Lk L) (hv : sB (gD L) 32 < B256 * B256) : Lk (rndL L) ∧ (∀ i, i < 32 → gD (rndL L) i ≤ 2555865) ∧ (∀ i, 16 ≤ i → i < 32 → gD (rndL L) i = 0) ∧ sB (gD (rndL L)) 32 = rv (sB (gD L) 32) := by
  have hp := dC_part h.b
  have hb : ∀ i, i < 32 → 0 ≤ gD (rndL L) i ∧ gD (rndL L) i ≤ 2555865 := fun i hi => by
    rw [rnd_get h i hi]
    split
    · have := hp i hi
      have := hp (i + 16) (by omega)
      omega
    · omega
  refine ⟨⟨by simp [rndL], fun i hi => by have := hb i hi; omega⟩, fun i hi => (hb i hi).2, fun i h1 hi => by rw [rnd_get h i hi, if_neg (by omega)], ?_⟩
  have e0 := no_carry h.b (by rw [B512_pow]; exact hv)
  have e1 : sB (dC (gD L)) (16 + 16) = sB (dC (gD L)) 16 + 65536 ^ 16 * sB (fun i => dC (gD L) (16 + i)) 16 := sB_split _ 16 16
  have e2 : sB (gD (rndL L)) (16 + 16) = sB (gD (rndL L)) 16 + 65536 ^ 16 * sB (fun i => gD (rndL L) (16 + i)) 16 := sB_split _ 16 16
  have e3 : sB (fun i => gD (rndL L) (16 + i)) 16 = 0 := sB_zero 16 fun i hi => by show gD (rndL L) (16 + i) = 0; rw [rnd_get h _ (by omega), if_neg (by omega)]
  have e4 : sB (gD (rndL L)) 16 = sB (dC (gD L)) 16 + 38 * sB (fun i => dC (gD L) (16 + i)) 16 := by
    rw [← sB_mul, ← sB_add]
    refine sB_congr 16 fun i hi => ?_
    rw [rnd_get h i (by omega), if_pos hi, Nat.add_comm 16 i]
  have r1 := sB_range 16 fun i hi => hp i (by omega)
  have r2 := sB_range (f := fun i => dC (gD L) (16 + i)) 16 fun i hi => hp (16 + i) (by omega)
  rw [B256_pow] at *
  have hB : B256 = 115792089237316195423570985008687907853269984665640564039457584007913129639936 := rfl
  unfold rv
  rw [← e0]
  show sB (gD (rndL L)) (16 + 16) = sB (dC (gD L)) (16 + 16) % B256 + 38 * (sB (dC (gD L)) (16 + 16) / B256)
  rw [e2, e3, e4, e1]
  generalize sB (dC (gD L)) 16 = x at *
  generalize sB (fun i => dC (gD L) (16 + i)) 16 = y at *
  rw [hB] at *
  omega
theorem rv_mod (V : Int) : rv V % Pm = V % Pm := by
  have : rv V = V - 2 * (V / B256) * Pm := by
    unfold rv
    have hB : B256 = 115792089237316195423570985008687907853269984665640564039457584007913129639936 := rfl
    rw [Pm_eq, hB]
    omega
  exact fv_sub this
def rnds (L : List Int) : Nat → List Int
  | 0 => L
  | j + 1 => rndL (rnds L j)
def rvs (V : Int) : Nat → Int
  | 0 => V
  | j + 1 => rv (rvs V j)
theorem rvs_b {V : Int} (h0 : 0 ≤ V) (h1 : V < B256 * B256) : (0 ≤ rvs V 1 ∧ rvs V 1 < 39 * B256) ∧ (0 ≤ rvs V 2 ∧ rvs V 2 < B256 + 1444) ∧ (0 ≤ rvs V 3 ∧ rvs V 3 < B256) ∧ (0 ≤ rvs V 4 ∧ rvs V 4 < B256) := by
  have hB : B256 = 115792089237316195423570985008687907853269984665640564039457584007913129639936 := rfl
  have a1 : 0 ≤ rvs V 1 ∧ rvs V 1 < 39 * B256 := by
    show 0 ≤ rv V ∧ rv V < 39 * B256
    unfold rv
    rw [hB] at h1 ⊢
    omega
  have a2 : 0 ≤ rvs V 2 ∧ rvs V 2 < B256 + 1444 := by
    show 0 ≤ rv (rvs V 1) ∧ rv (rvs V 1) < B256 + 1444
    generalize rvs V 1 = x at *
    unfold rv
    rw [hB] at a1 ⊢
    omega
  have a3 : 0 ≤ rvs V 3 ∧ rvs V 3 < B256 := by
    show 0 ≤ rv (rvs V 2) ∧ rv (rvs V 2) < B256
    generalize rvs V 2 = x at *
    unfold rv
    rw [hB] at a2 ⊢
    omega
  refine ⟨a1, a2, a3, ?_⟩
  show 0 ≤ rv (rvs V 3) ∧ rv (rvs V 3) < B256
  generalize rvs V 3 = x at *
  unfold rv
  rw [hB] at a3 ⊢
  omega
theorem rnds_val {L : List Int} (h : Lk L) (hv : sB (gD L) 32 < B256 * B256) : ∀ j, j ≤ 4 → Lk (rnds L j) ∧ sB (gD (rnds L j)) 32 = rvs (sB (gD L) 32) j := by
  have h0 : 0 ≤ sB (gD L) 32 := by
    have : ∀ n, n ≤ 32 → 0 ≤ sB (gD L) n := by
      intro n
      induction n with
      | zero => intro _; simp [sB]
      | succ n ih =>
        intro hn
        rw [sB]
        have h1 := ih (by omega)
        have h2 := Int.mul_nonneg (h.b n (by omega)).1 (show 0 ≤ (65536 : Int) ^ n from Int.pow_nonneg (by omega))
        omega
    exact this 32 (Nat.le_refl _)
  obtain ⟨b1, b2, b3, b4⟩ := rvs_b h0 hv
  have hB : B256 = 115792089237316195423570985008687907853269984665640564039457584007913129639936 := rfl
  have step : ∀ j, Lk (rnds L j) ∧ sB (gD (rnds L j)) 32 = rvs (sB (gD L) 32) j → rvs (sB (gD L) 32) j < B256 * B256 → Lk (rnds L (j + 1)) ∧ sB (gD (rnds L (j + 1))) 32 = rvs (sB (gD L) 32) (j + 1) := fun j g hlt => by
    obtain ⟨k1, _, _, k2⟩ := rnd_val g.1 (by rw [g.2]; exact hlt)
    exact ⟨k1, by show sB (gD (rndL (rnds L j))) 32 = rv (rvs (sB (gD L) 32) j); rw [k2, g.2]⟩
  have s0 : Lk (rnds L 0) ∧ sB (gD (rnds L 0)) 32 = rvs (sB (gD L) 32) 0 := ⟨h, rfl⟩
  have s1 := step 0 s0 hv
  rw [hB] at b1 b2 b3
  have s2 := step 1 s1 (by rw [hB]; omega)
  have s3 := step 2 s2 (by rw [hB]; omega)
  have s4 := step 3 s3 (by rw [hB]; omega)
  intro j hj
  have : j = 0 ∨ j = 1 ∨ j = 2 ∨ j = 3 ∨ j = 4 := by omega
  rcases this with rfl | rfl | rfl | rfl | rfl
  · exact s0
  · exact s1
  · exact s2
  · exact s3
  · exact s4
end Go.Proofs.YtibfpjeeanppjaaGreat.Re
namespace Go.Proofs.YtibfpjeeanppjaaGreat.Re
open Go Go.Sy Fe
def gO (f : Nat → Int) (i : Nat) : Int := (if i = 15 then dC f 15 % 32768 else dC f i) + (if i = 0 then 19 * (dC f 15 / 32768) else 0)
theorem out_val {L : List Int} (h : ∀ i, i < 16 → 0 ≤ gD L i ∧ gD L i ≤ 1125899906842624) (hv : sB (gD L) 16 < B256) :
    okP (outL L) = true ∧ ∃ t, vR (outL L) = sB (gD L) 16 - t * Pm ∧ 0 ≤ vR (outL L) ∧ vR (outL L) < 57896044618658097711785492504343953926634992332820282019728792003956564819987 := by
  have hp := dC_part h
  have e0 := no_carry h (by rw [B256_pow]; exact hv)
  have p15 := hp 15 (by omega)
  have p0 := hp 0 (by omega)
  have hg : ∀ i, i < 16 → 0 ≤ gO (gD L) i ∧ gO (gD L) i ≤ 1125899906842624 := fun i hi => by
    have := hp i hi
    unfold gO
    split <;> split <;> omega
  -- the chain is the one of these parts
  have hm : ∀ i, i < 16 → mC (gD L) i = gO (gD L) i + cC (gO (gD L)) i := by
    intro i
    induction i with
    | zero =>
      intro _
      rw [mC, cC, gO, if_neg (by omega), if_pos rfl, Int.tdiv_eq_ediv_of_nonneg p15.1, iw, iw, iw, wrap_i64 (_ / 32768) (by omega) (by omega), wrap_i64 (19 * _) (by omega) (by omega), wrap_i64 _ (by omega) (by omega)]
      omega
    | succ i ih =>
      intro hi
      have c1 := cC_b hg (i + 1) (by omega)
      have c0 := cC_b hg i (by omega)
      have g0 := hg i (by omega)
      have g1 := hg (i + 1) hi
      have hsel : (if i = 14 then (dC (gD L) 15).tmod 32768 else dC (gD L) (i + 1)) = gO (gD L) (i + 1) := by
        unfold gO
        rw [if_neg (show ¬ i + 1 = 0 by omega), Int.add_zero]
        by_cases h14 : i = 14
        · subst h14
          rw [if_pos rfl, if_pos rfl, Int.tmod_eq_emod_of_nonneg p15.1]
        · rw [if_neg h14, if_neg (by omega)]
      rw [cC] at c1
      rw [mC, ih (by omega), hsel, cC, Int.tdiv_eq_ediv_of_nonneg (by omega), iw, iw, wrap_i64 ((gO (gD L) i + cC (gO (gD L)) i) / 65536) (by omega) (by omega), wrap_i64 _ (by omega) (by omega)]
  have hget : ∀ i, i < 16 → gD (outL L) i = (gO (gD L) i + cC (gO (gD L)) i) % 65536 := fun i hi => by
    unfold gD outL
    rw [List.getD_eq_getElem?_getD, List.getElem?_map, List.getElem?_range hi]
    show (mC (gD L) i).tmod 65536 = _
    have c0 := cC_b hg i (by omega)
    have g0 := hg i hi
    rw [hm i hi, Int.tmod_eq_emod_of_nonneg (by omega)]
    rfl
  have hok : okP (outL L) = true := okP_iff.2 ⟨by simp [outL], fun i hi => by have := hget i hi; unfold gD at this; rw [this]; omega⟩
  -- the sum of the parts
  have hs : sB (gO (gD L)) 16 = sB (gD L) 16 - (dC (gD L) 15 / 32768) * Pm := by
    rw [← e0]
    have s1 : sB (gO (gD L)) 16 = sB (gO (gD L)) 15 + gO (gD L) 15 * 65536 ^ 15 := rfl
    have s2 : sB (dC (gD L)) 16 = sB (dC (gD L)) 15 + dC (gD L) 15 * 65536 ^ 15 := rfl
    have s3 : sB (gO (gD L)) 15 = sB (dC (gD L)) 15 + 19 * (dC (gD L) 15 / 32768) := by
      have a1 := sB_split (gO (gD L)) 1 14
      have a2 := sB_split (dC (gD L)) 1 14
      have a3 : sB (fun i => gO (gD L) (1 + i)) 14 = sB (fun i => dC (gD L) (1 + i)) 14 := sB_congr 14 fun i hi => by
        show gO (gD L) (1 + i) = dC (gD L) (1 + i)
        unfold gO
        rw [if_neg (by omega), if_neg (by omega), Int.add_zero]
      have a4 : sB (gO (gD L)) 1 = dC (gD L) 0 + 19 * (dC (gD L) 15 / 32768) := by simp [sB, gO]
      have a5 : sB (dC (gD L)) 1 = dC (gD L) 0 := by simp [sB]
      show sB (gO (gD L)) (1 + 14) = sB (dC (gD L)) (1 + 14) + _
      rw [a1, a2, a3, a4, a5]
      omega
    have s4 : gO (gD L) 15 = dC (gD L) 15 % 32768 := by unfold gO; rw [if_pos rfl, if_neg (by omega), Int.add_zero]
    rw [s1, s2, s3, s4, Pm_eq]
    have hpw : (65536 : Int) ^ 15 = 1766847064778384329583297500742918515827483896875618958121606201292619776 := by decide
    rw [hpw]
    omega
  have hlt : sB (gO (gD L)) 16 < 57896044618658097711785492504343953926634992332820282019728792003956564819987 := by
    have s1 : sB (gO (gD L)) 16 = sB (gO (gD L)) 15 + gO (gD L) 15 * 65536 ^ 15 := rfl
    have s4 : gO (gD L) 15 = dC (gD L) 15 % 32768 := by unfold gO; rw [if_pos rfl, if_neg (by omega), Int.add_zero]
    have s3 : sB (gO (gD L)) 15 = sB (dC (gD L)) 15 + 19 * (dC (gD L) 15 / 32768) := by
      have a1 := sB_split (gO (gD L)) 1 14
      have a2 := sB_split (dC (gD L)) 1 14
      have a3 : sB (fun i => gO (gD L) (1 + i)) 14 = sB (fun i => dC (gD L) (1 + i)) 14 := sB_congr 14 fun i hi => by
        show gO (gD L) (1 + i) = dC (gD L) (1 + i)
        unfold gO
        rw [if_neg (by omega), if_neg (by omega), Int.add_zero]
      have a4 : sB (gO (gD L)) 1 = dC (gD L) 0 + 19 * (dC (gD L) 15 / 32768) := by simp [sB, gO]
      have a5 : sB (dC (gD L)) 1 = dC (gD L) 0 := by simp [sB]
      show sB (gO (gD L)) (1 + 14) = sB (dC (gD L)) (1 + 14) + _
      rw [a1, a2, a3, a4, a5]
      omega
    have r := sB_range 15 fun i hi => hp i (by omega)
    have hpw : (65536 : Int) ^ 15 = 1766847064778384329583297500742918515827483896875618958121606201292619776 := by decide
    rw [hpw] at r
    rw [s1, s3, s4, hpw]
    omega
  have hv2 : vR (outL L) = sB (gO (gD L)) 16 := by
    have e1 : sB (dC (gO (gD L))) 16 = sB (gO (gD L)) 16 := no_carry hg (by
      rw [B256_pow]
      have hB : B256 = 115792089237316195423570985008687907853269984665640564039457584007913129639936 := rfl
      rw [hB]; omega)
    rw [← e1]
    exact sB_congr 16 fun i hi => by rw [hget i hi, (nC_val hg i hi).2]
  refine ⟨hok, dC (gD L) 15 / 32768, by rw [hv2, hs], (vR_range hok).1, by rw [hv2]; exact hlt⟩
section
variable (L O : List Int)
noncomputable def smCW (x : Bool) : Ctr := mk (P := Tryz.prog) [primeE, atLeastE, minusE] [] fun i => if i = 98 then some x else none
theorem smCW_ok (x : Bool) : CtrSound Tryz.prog (smCW x) := mk_sound _ InlOK.nil _ _
theorem sm_wt : (exec Tryz.prog (smCW true) 80 0 smW (smQ L O)).bind (fun r => (r.2.cut [2, 3] 3).map fun q => (r.1, q)) =
    some (.normal, ⟨(smQ L O).t, smH L (mnF O prL), andT (andT (andT true (andT true (okP O && okP prL))) (decide (vR prL ≤ vR O))) (andT true (okP O && okP prL && decide (vR prL ≤ vR O)))⟩) := by kernel_rfl
theorem sm_wf : (exec Tryz.prog (smCW false) 80 0 smW (smQ L O)).bind (fun r => (r.2.cut [2, 3] 3).map fun q => (r.1, q)) =
    some (.exit 10, ⟨(smQ L O).t, smH L O, andT (andT true (andT true (okP O && okP prL))) (!decide (vR prL ≤ vR O))⟩) := by kernel_rfl
end
noncomputable def refN (n : Int) : List Int := Lock (digR n)
theorem refN_eq (n : Int) : refN n = digR n := Lock_eq _
theorem refN_ok (n : Int) : okP (refN n) = true := by rw [refN_eq]; exact digR_ok n
theorem vR_refN {n : Int} (h0 : 0 ≤ n) (h1 : n < Pm) : vR (refN n) = n := by rw [refN_eq]; exact vR_digR h0 (by rw [Pm_eq] at h1; omega)
theorem sm_while {L O : List Int} (ho : okP O = true) (h1 : vR O < 57896044618658097711785492504343953926634992332820282019728792003956564819987) :
    Tr Tryz.prog none 0 (nthC 12 (bodyOf Tryz.f91)) (smQ L O) .normal (smQ L (refN (vR O % Pm))) := by
  have h0 := (vR_range ho).1
  have hpr := prL_val
  have stop : ∀ Q : List Int, okP Q = true → vR Q < Pm → Tr Tryz.prog none 0 smW (smQ L Q) (.exit 10) (smQ L Q) := fun Q hq hlt => by
    have k := sm_wf L Q
    refine Tr.post (Tr.cut (smCW_ok false) 80 _ 3 (by omega) k ?_) (Ent.same rfl rfl)
    rw [hq, prL_ok, hpr, decide_eq_false (by omega)]; rfl
  by_cases hle : Pm ≤ vR O
  · have hm : mnF O prL = refN (vR O % Pm) := by
      rw [mnF, Lock_eq, refN_eq, hpr]
      congr 1
      rw [Pm_eq] at *
      omega
    have hr : Tr Tryz.prog none 0 smW (smQ L O) .normal (smQ L (refN (vR O % Pm))) := by
      have k := sm_wt L O
      rw [hm] at k
      refine Tr.post (Tr.cut (smCW_ok true) 80 _ 3 (by omega) k ?_) (Ent.same rfl rfl)
      rw [ho, prL_ok, hpr, decide_eq_true hle]; rfl
    refine Tr.loopR 10 (by kernel_rfl) (TrR.step hr (TrR.leave (stop _ (refN_ok _) ?_) (by simp)))
    have := Int.emod_lt_of_pos (vR O) Pm_pos
    rw [vR_refN (Int.emod_nonneg _ (by have := Pm_pos; omega)) this]
    exact this
  · have hq : refN (vR O % Pm) = O := by
      rw [refN_eq, Int.emod_eq_of_lt h0 (by omega), digR_vR ho]
    rw [hq]
    exact Tr.loopR 10 (by kernel_rfl) (TrR.leave (stop O ho (by omega)) (by simp))
def okS (l : List Int) : Bool := decide (l.length = 32) && (l.all (fun x => decide (0 ≤ x) && decide (x ≤ 1125899906842624)) && decide (sB (gD l) 32 < B256 * B256))
theorem okS_iff {l : List Int} : okS l = true ↔ Lk l ∧ sB (gD l) 32 < B256 * B256 := by
  unfold okS
  rw [Bool.and_eq_true, Bool.and_eq_true, decide_eq_true_eq, decide_eq_true_eq, List.all_eq_true]
  constructor
  · rintro ⟨h1, h2, h3⟩
    refine ⟨⟨h1, fun i hi => ?_⟩, h3⟩
    have := h2 (gD l i) (by unfold gD; rw [List.getD_eq_getElem?_getD, List.getElem?_eq_getElem (by omega)]; exact List.getElem_mem _)
    simpa using this
  · rintro ⟨⟨h1, h2⟩, h3⟩
    refine ⟨h1, fun x hx => ?_, h3⟩
    obtain ⟨i, hi, rfl⟩ := List.getElem_of_mem hx
    have := h2 i (by omega)
    unfold gD at this
    rw [List.getD_eq_getElem?_getD, List.getElem?_eq_getElem hi] at this
    simpa using this
noncomputable def smF (l : List Int) : List Int := refN (sB (gD l) 32 % Pm)
theorem sm_fn {l : List Int} (h : okS l = true) : FnTr Tryz.prog 91 [.agg [.ints .i64 32 l]] [] (.agg [.ints .i64 16 (smF l)]) [] := by
  obtain ⟨hk, hv⟩ := okS_iff.1 h
  have hr := rnds_val hk hv
  have l32 : ∀ j, j ≤ 4 → lst 32 (rnds l j) = rnds l j := fun j hj => lst_eq (hr j hj).1.len
  have hloop : Tr Tryz.prog none 0 (nthC 3 (bodyOf Tryz.f91)) (smS l 0) .normal (smS (rnds l 4) 4) := by
    have key := Tr.loop (P := Tryz.prog) (ro := none) (k := 0) 0 (c := nthC 3 (bodyOf Tryz.f91)) (by kernel_rfl) (fun j : Nat => smS (rnds l j) j) 4 (s' := smS (rnds l 4) 4) (fun j hj => ?_) ?_
    · exact key
    · have k := sm_round (rnds l j) j
      rw [l32 j (by omega), iw, wrap_i64 _ (by omega) (by omega), show (j : Int) + 1 = ((j + 1 : Nat) : Int) by omega] at k
      refine Tr.post (Tr.cut (smC_ok true) 80 _ 3 (by omega) k ?_) (Ent.same rfl rfl)
      rw [decide_eq_true (by omega)]; rfl
    · have k := sm_rend (rnds l 4) 4
      exact Tr.post (Tr.cut (smC_ok false) 80 _ 3 (by omega) k rfl) (Ent.same rfl rfl)
  -- the last number of 16 parts
  obtain ⟨k4, v4⟩ := hr 4 (by omega)
  obtain ⟨k3, v3⟩ := hr 3 (by omega)
  have h0 : 0 ≤ sB (gD l) 32 := by
    have : ∀ n, n ≤ 32 → 0 ≤ sB (gD l) n := by
      intro n
      induction n with
      | zero => intro _; simp [sB]
      | succ n ih =>
        intro hn
        rw [sB]
        have h1 := ih (by omega)
        have h2 := Int.mul_nonneg (hk.b n (by omega)).1 (show 0 ≤ (65536 : Int) ^ n from Int.pow_nonneg (by omega))
        omega
    exact this 32 (Nat.le_refl _)
  obtain ⟨_, _, b3, b4⟩ := rvs_b h0 hv
  obtain ⟨_, _, z4, _⟩ := rnd_val k3 (by rw [v3]; have hB : B256 = 115792089237316195423570985008687907853269984665640564039457584007913129639936 := rfl; rw [hB] at b3 ⊢; omega)
  have e16 : sB (gD (rnds l 4)) 16 = rvs (sB (gD l) 32) 4 := by
    have := sB_split (gD (rnds l 4)) 16 16
    rw [sB_zero (f := fun i => gD (rnds l 4) (16 + i)) 16 (fun i hi => z4 (16 + i) (by omega) (by omega)), Int.mul_zero, Int.add_zero] at this
    rw [← this]
    exact v4
  obtain ⟨o1, t, o2, o3, o4⟩ := out_val (L := rnds l 4) (fun i hi => k4.b i (by omega)) (by rw [e16]; exact b4.2)
  have hmod : vR (outL (rnds l 4)) % Pm = sB (gD l) 32 % Pm := by
    rw [fv_sub o2, e16]
    show rv (rv (rv (rv (sB (gD l) 32)))) % Pm = _
    rw [rv_mod, rv_mod, rv_mod, rv_mod]
  have hw := sm_while (L := rnds l 4) o1 o4
  rw [hmod] at hw
  have ko := sm_out (rnds l 4)
  rw [l32 4 (by omega)] at ko
  refine FnTr.restM smC0_ok 60 13 0 Tryz.func91 (by simp) rfl (fun s' x hh => ?_) (s := smQ (rnds l 4) (smF l)) (p := true) (by kernel_rfl) rfl rfl rfl
  refine TrL.items smC0_ok 60 3 _ 3 (by simp) (sm_head l) rfl (by decide) ?_
  refine TrL.item 3 (by decide) hloop ?_
  refine TrL.items smC0_ok 80 8 _ 3 (by simp) ko rfl (by decide) ?_
  rw [List.drop_drop]
  exact TrL.item 12 (by decide) hw hh
noncomputable def smallEF : List SV → Option (SV × List Blk × Bool)
  | [.agg [.ints .i64 32 l]] => some (.agg [.ints .i64 16 (smF l)], [], okS l)
  | _ => none
noncomputable def smallE : Entry Tryz.prog := .val 91 _ Tryz.func91 (by decide) rfl false 0 smallEF fun vs v new e => by
  unfold smallEF at e
  split at e
  · simp only [Option.some.injEq, Prod.mk.injEq] at e
    obtain ⟨rfl, rfl, h⟩ := e
    exact sm_fn h
  · cases e
end Go.Proofs.YtibfpjeeanppjaaGreat.Re
