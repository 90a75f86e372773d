/- This file proves contracts of the reference's numbers: prime, atLeast, minus. Conditions: parts within 16 bits. -/
import Derived.Test.YtailgcdcdhhpnaaFeL
namespace Go.Proofs.Ytailgcdcdhhpnaa.Re
open Go Go.Sy Fe

/-! ### Sums of parts -/
/-- The first n parts as a number. -/
def sB (f : Nat → Int) : Nat → Int
  | 0 => 0
  | n + 1 => sB f n + f n * 65536 ^ n
theorem sB_congr {f g : Nat → Int} : ∀ (n : Nat), (∀ i, i < n → f i = g i) → sB f n = sB g n
  | 0, _ => rfl
  | n + 1, h => by rw [sB, sB, sB_congr n fun i hi => h i (by omega), h n (by omega)]
theorem sB_add (f g : Nat → Int) : ∀ n : Nat, sB (fun i => f i + g i) n = sB f n + sB g n
  | 0 => rfl
  | n + 1 => by rw [sB, sB, sB, sB_add f g n, Int.add_mul]; omega
theorem sB_mul (c : Int) (f : Nat → Int) : ∀ n : Nat, sB (fun i => c * f i) n = c * sB f n
  | 0 => by simp [sB]
  | n + 1 => by rw [sB, sB, sB_mul c f n, Int.mul_add, Int.mul_assoc]
theorem sB_zero {f : Nat → Int} : ∀ (n : Nat), (∀ i, i < n → f i = 0) → sB f n = 0
  | 0, _ => rfl
  | n + 1, h => by rw [sB, sB_zero n fun i hi => h i (by omega), h n (by omega)]; simp
theorem sB_split (f : Nat → Int) (a : Nat) : ∀ n : Nat, sB f (a + n) = sB f a + 65536 ^ a * sB (fun i => f (a + i)) n
  | 0 => by simp [sB]
  | n + 1 => by
    rw [← Nat.add_assoc, sB, sB, sB_split f a n, Int.mul_add, Int.pow_add]
    have : f (a + n) * (65536 ^ a * 65536 ^ n) = 65536 ^ a * (f (a + n) * 65536 ^ n) := by rw [← Int.mul_assoc, Int.mul_comm (f (a + n)), Int.mul_assoc]
    omega
theorem sB_range {f : Nat → Int} : ∀ (n : Nat), (∀ i, i < n → 0 ≤ f i ∧ f i < 65536) → 0 ≤ sB f n ∧ sB f n < 65536 ^ n
  | 0, _ => by simp [sB]
  | n + 1, h => by
    have ih := sB_range n fun i hi => h i (by omega)
    have hn := h n (by omega)
    have hp : (0 : Int) < 65536 ^ n := Int.pow_pos (by omega)
    rw [sB, Int.pow_succ]
    have h1 : 0 ≤ f n * 65536 ^ n := Int.mul_nonneg hn.1 (by omega)
    have h2 : f n * 65536 ^ n ≤ 65535 * 65536 ^ n := Int.mul_le_mul_of_nonneg_right (by omega) (by omega)
    omega
/-- Parts are told by the number. -/
theorem sB_digit {f : Nat → Int} : ∀ (n i : Nat), i < n → (∀ i, i < n → 0 ≤ f i ∧ f i < 65536) → f i = sB f n / 65536 ^ i % 65536
  | 0, i, h, _ => by omega
  | n + 1, i, h, hf => by
    have hp : (0 : Int) < 65536 ^ n := Int.pow_pos (by omega)
    have hr := sB_range n fun i hi => hf i (by omega)
    rw [sB]
    by_cases hi : i = n
    · subst hi
      rw [Int.add_mul_ediv_right _ _ (by omega), Int.ediv_eq_zero_of_lt hr.1 hr.2, Int.zero_add]
      have := hf i (by omega)
      omega
    · rw [sB_digit n i (by omega) fun i hi => hf i (by omega)]
      have hq : (65536 : Int) ^ n = 65536 ^ i * (65536 * 65536 ^ (n - i - 1)) := by
        rw [← Int.pow_succ', ← Int.pow_add]; congr 1; omega
      have hi0 : (65536 : Int) ^ i ≠ 0 := by have : (0 : Int) < 65536 ^ i := Int.pow_pos (by omega); omega
      rw [hq, show f n * (65536 ^ i * (65536 * 65536 ^ (n - i - 1))) = 65536 ^ i * (f n * (65536 * 65536 ^ (n - i - 1))) by rw [← Int.mul_assoc, Int.mul_comm (f n), Int.mul_assoc],
        Int.add_mul_ediv_left _ _ hi0, show f n * (65536 * 65536 ^ (n - i - 1)) = 65536 * (f n * 65536 ^ (n - i - 1)) by rw [← Int.mul_assoc, Int.mul_comm (f n), Int.mul_assoc], Int.add_mul_emod_self_left]
/-- Which of two numbers is the greater one: by the highest parts that differ. -/
theorem sB_lt {f g : Nat → Int} {n m : Nat} (hm : m < n) (hf : ∀ i, i < n → 0 ≤ f i ∧ f i < 65536) (hg : ∀ i, i < n → 0 ≤ g i ∧ g i < 65536) (he : ∀ i, m < i → i < n → f i = g i) (hl : f m < g m) : sB f n < sB g n := by
  have key : ∀ k : Nat, m < k → k ≤ n → sB f k < sB g k := by
    intro k
    induction k with
    | zero => intro h; omega
    | succ k ih =>
      intro h1 h2
      rw [sB, sB]
      by_cases hk : k = m
      · subst hk
        have r1 := sB_range k fun i hi => hf i (by omega)
        have r2 := sB_range k fun i hi => hg i (by omega)
        have hp : (0 : Int) < 65536 ^ k := Int.pow_pos (by omega)
        have : f k * 65536 ^ k + 65536 ^ k ≤ g k * 65536 ^ k := by
          have := Int.mul_le_mul_of_nonneg_right (show f k + 1 ≤ g k by omega) (show 0 ≤ (65536 : Int) ^ k by omega)
          rw [Int.add_mul, Int.one_mul] at this
          exact this
        omega
      · have := ih (by omega) (by omega)
        rw [he k (by omega) (by omega)]
        omega
  exact key n hm (Nat.le_refl _)

/-! ### Numbers of 16 parts -/
def gD (l : List Int) : Nat → Int := fun i => l.getD i 0
/-- The number. -/
def vR (l : List Int) : Int := sB (gD l) 16
def part (x : Int) : Bool := decide (0 ≤ x) && decide (x < 65536)
theorem part_iff {x : Int} : part x = true ↔ 0 ≤ x ∧ x < 65536 := by simp [part]
def okP (l : List Int) : Bool := decide (l.length = 16) && l.all part
theorem okP_iff {l : List Int} : okP l = true ↔ l.length = 16 ∧ ∀ i, i < 16 → 0 ≤ l.getD i 0 ∧ l.getD i 0 < 65536 := by
  unfold okP
  rw [Bool.and_eq_true, decide_eq_true_eq, List.all_eq_true]
  constructor
  · rintro ⟨h1, h2⟩
    refine ⟨h1, fun i hi => part_iff.1 (h2 _ ?_)⟩
    rw [List.getD_eq_getElem?_getD, List.getElem?_eq_getElem (by omega)]
    exact List.getElem_mem _
  · rintro ⟨h1, h2⟩
    refine ⟨h1, fun x hx => ?_⟩
    obtain ⟨i, hi, rfl⟩ := List.getElem_of_mem hx
    have := h2 i (by omega)
    rw [List.getD_eq_getElem?_getD, List.getElem?_eq_getElem hi] at this
    exact part_iff.2 this
/-- The parts of a number. -/
def digR (n : Int) : List Int := (List.range 16).map fun i => n / 65536 ^ i % 65536
theorem digR_get (n : Int) {i : Nat} (h : i < 16) : (digR n).getD i 0 = n / 65536 ^ i % 65536 := by
  unfold digR
  rw [List.getD_eq_getElem?_getD, List.getElem?_map, List.getElem?_range h]; rfl
theorem digR_ok (n : Int) : okP (digR n) = true := okP_iff.2 ⟨by simp [digR], fun i hi => by rw [digR_get n hi]; omega⟩
theorem digR_vR {l : List Int} (h : okP l = true) : digR (vR l) = l := by
  obtain ⟨h1, h2⟩ := okP_iff.1 h
  apply List.ext_getElem?
  intro i
  by_cases hi : i < 16
  · have e1 : (digR (vR l))[i]? = some ((digR (vR l)).getD i 0) := by rw [List.getD_eq_getElem?_getD, List.getElem?_eq_getElem (by simp [digR]; omega)]; rfl
    have e2 : l[i]? = some (l.getD i 0) := by rw [List.getD_eq_getElem?_getD, List.getElem?_eq_getElem (by omega)]; rfl
    rw [e1, e2, digR_get _ hi]
    congr 1
    exact (sB_digit 16 i hi h2).symm
  · rw [List.getElem?_eq_none (by simp [digR]; omega), List.getElem?_eq_none (by omega)]
theorem sB_dig (n : Int) : ∀ k : Nat, 0 ≤ n → sB (fun i => n / 65536 ^ i % 65536) k = n % 65536 ^ k
  | 0, h => by simp [sB]
  | k + 1, h => by
    rw [sB, sB_dig n k h, Int.pow_succ]
    have hp : (0 : Int) < 65536 ^ k := Int.pow_pos (by omega)
    have h1 := Int.mul_ediv_add_emod n (65536 ^ k)
    have h2 := Int.mul_ediv_add_emod (n / 65536 ^ k) 65536
    have h3 : n = 65536 ^ k * 65536 * (n / 65536 ^ k / 65536) + (n % 65536 ^ k + n / 65536 ^ k % 65536 * 65536 ^ k) := by
      conv => lhs; rw [← h1, ← h2]
      rw [Int.mul_add, ← Int.mul_assoc, Int.mul_comm (n / 65536 ^ k % 65536)]
      generalize 65536 ^ k * (n / 65536 ^ k % 65536) = z
      rw [Int.add_assoc, Int.add_comm z]
    have r1 := Int.emod_nonneg n (show (65536 : Int) ^ k ≠ 0 by omega)
    have r2 := Int.emod_lt_of_pos n hp
    have r3 : 0 ≤ n / 65536 ^ k % 65536 ∧ n / 65536 ^ k % 65536 < 65536 := by omega
    have r4 : n / 65536 ^ k % 65536 * 65536 ^ k ≤ 65535 * 65536 ^ k := Int.mul_le_mul_of_nonneg_right (by omega) (by omega)
    have r5 : 0 ≤ n / 65536 ^ k % 65536 * 65536 ^ k := Int.mul_nonneg r3.1 (by omega)
    have h4 : n % (65536 ^ k * 65536) = _ := congrArg (· % ((65536 : Int) ^ k * 65536)) h3
    have h5 : ∀ m q r : Int, 0 ≤ r → r < m → (m * q + r) % m = r := fun m q r a b => by rw [Int.add_comm, Int.add_mul_emod_self_left]; exact Int.emod_eq_of_lt a b
    exact (h4.trans (h5 _ _ _ (by omega) (by omega))).symm
theorem vR_digR {n : Int} (h0 : 0 ≤ n) (h1 : n < 115792089237316195423570985008687907853269984665640564039457584007913129639936) : vR (digR n) = n := by
  unfold vR
  rw [sB_congr (f := gD (digR n)) (g := fun i => n / 65536 ^ i % 65536) 16 fun i hi => digR_get n hi, sB_dig n 16 h0]
  exact Int.emod_eq_of_lt h0 (by rw [show (65536 : Int) ^ 16 = 115792089237316195423570985008687907853269984665640564039457584007913129639936 by decide]; exact h1)
theorem vR_range {l : List Int} (h : okP l = true) : 0 ≤ vR l ∧ vR l < 115792089237316195423570985008687907853269984665640564039457584007913129639936 := by
  have := sB_range 16 (okP_iff.1 h).2
  rw [show (65536 : Int) ^ 16 = 115792089237316195423570985008687907853269984665640564039457584007913129639936 by decide] at this
  exact this
theorem vR_inj {a b : List Int} (ha : okP a = true) (hb : okP b = true) : a = b ↔ vR a = vR b := ⟨fun h => by rw [h], fun h => by rw [← digR_vR ha, ← digR_vR hb, h]⟩
end Go.Proofs.Ytailgcdcdhhpnaa.Re
