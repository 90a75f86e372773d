/- This file holds the texts LaP, LaL, a section each. No conditions beyond those in the theorems. -/
import Derived.Test.YtibfpjeeanppjaaGreatWMh
set_option linter.all false
section
namespace Go.Proofs.YtibfpjeeanppjaaGreat.La
structure Prm (n : Nat) : Prop where
  gt : 1 < n
  dv : ∀ m, m ∣ n → m = 1 ∨ m = n
theorem least_of {n : Nat} (h : 1 < n) : ∃ r, 1 < r ∧ r ∣ n ∧ ∀ m, 1 < m → m ∣ n → r ≤ m := by
  have key : ∀ k m, m ≤ k → 1 < m → m ∣ n → ∃ r, 1 < r ∧ r ∣ n ∧ ∀ m, 1 < m → m ∣ n → r ≤ m := by
    intro k
    induction k with
    | zero => intro m h1 h2; omega
    | succ k ih =>
      intro m h1 h2 h3
      by_cases hc : ∃ m', m' ≤ k ∧ 1 < m' ∧ m' ∣ n
      · obtain ⟨m', a, b, c⟩ := hc
        exact ih m' a b c
      · refine ⟨m, h2, h3, fun m' h4 h5 => ?_⟩
        by_cases hk : m' ≤ k
        · exact absurd ⟨m', hk, h4, h5⟩ hc
        · omega
  exact key n n (Nat.le_refl _) h (Nat.dvd_refl _)
theorem Prm.of {n : Nat} (h : 1 < n) (hn : ∀ r, 1 < r → r ∣ n → r * r ≤ n → False) : Prm n := by
  refine ⟨h, fun m hm => ?_⟩
  by_cases h1 : m = 1
  · exact .inl h1
  refine .inr ?_
  obtain ⟨r, r1, r2, r3⟩ := least_of h
  have hm0 : m ≠ 0 := fun q => by subst q; have := Nat.eq_zero_of_zero_dvd hm; omega
  obtain ⟨k, hk⟩ := r2
  by_cases k1 : k = 1
  · have := r3 m (by omega) hm
    have h2 := Nat.le_of_dvd (by omega) hm
    rw [k1, Nat.mul_one] at hk
    omega
  · have k0 : k ≠ 0 := fun q => by rw [q, Nat.mul_zero] at hk; omega
    have := r3 k (by omega) ⟨r, by rw [hk, Nat.mul_comm]⟩
    exact absurd (by have := Nat.mul_le_mul_left r this; omega) (hn r r1 ⟨k, hk⟩)
def tdiv (n : Nat) : Nat → Bool
  | 0 => true
  | k + 1 => Nat.blt 0 (n % (k + 2)) && tdiv n k
theorem tdiv_no {n : Nat} : ∀ k, tdiv n k = true → ∀ r, 1 < r → r ≤ k + 1 → ¬ r ∣ n
  | 0, _, r, h1, h2, _ => by omega
  | k + 1, h, r, h1, h2, h3 => by
    rw [tdiv, Bool.and_eq_true] at h
    by_cases hr : r = k + 2
    · subst hr
      have h4 := Nat.mod_eq_zero_of_dvd h3
      have h5 := h.1
      rw [h4] at h5
      cases h5
    · exact tdiv_no k h.2 r h1 (by omega) h3
theorem Prm.trial {n : Nat} (k : Nat) (h : (Nat.blt 1 n && (Nat.blt n ((k + 2) * (k + 2)) && tdiv n k)) = true) : Prm n := by
  rw [Bool.and_eq_true, Bool.and_eq_true] at h
  obtain ⟨h1, h2, h3⟩ := h
  have h2 : n < (k + 2) * (k + 2) := Nat.le_of_ble_eq_true h2
  refine Prm.of (Nat.le_of_ble_eq_true h1) fun r r1 r2 r3 => ?_
  by_cases hr : r ≤ k + 1
  · exact tdiv_no k h3 r r1 hr r2
  · have := Nat.mul_le_mul (show k + 2 ≤ r by omega) (show k + 2 ≤ r by omega)
    omega
theorem pow_per {b r m : Nat} (h : b ^ m % r = 1 % r) (k s : Nat) : b ^ (m * k + s) % r = b ^ s % r := by
  have h1 : (b ^ m) ^ k % r = 1 % r := by
    rw [Nat.pow_mod, h, ← Nat.pow_mod, Nat.one_pow]
  rw [Nat.pow_add, Nat.pow_mul, Nat.mul_mod, h1, ← Nat.mul_mod, Nat.one_mul]
theorem pow_gcd {b r : Nat} (m n : Nat) : b ^ m % r = 1 % r → b ^ n % r = 1 % r → b ^ (Nat.gcd m n) % r = 1 % r := by
  induction m, n using Nat.gcd.induction with
  | H0 n => intro _ h; rw [Nat.gcd_zero_left]; exact h
  | H1 m n _ ih =>
    intro h1 h2
    rw [Nat.gcd_rec]
    refine ih ?_ h1
    rw [← pow_per h1 (n / m) (n % m), Nat.div_add_mod]
    exact h2
theorem pow_diff {b r F i j : Nat} (h : b ^ F % r = 1 % r) (hij : i < j) (hj : j < F) (he : b ^ i % r = b ^ j % r) : b ^ (j - i) % r = 1 % r := by
  have h1 : b ^ (i + (F - i)) % r = b ^ (j + (F - i)) % r := by
    rw [Nat.pow_add, Nat.mul_mod, he, ← Nat.mul_mod, ← Nat.pow_add]
  rw [show i + (F - i) = F by omega, show j + (F - i) = F * 1 + (j - i) by omega, pow_per h, h] at h1
  exact h1.symm
def prodL : List Nat → Nat
  | [] => 1
  | l :: L => l * prodL L
theorem prod_dvd : ∀ (L : List Nat) (_ : ∀ l ∈ L, Prm l) (g : Nat), g ∣ prodL L → g ≠ prodL L → ∃ l, l ∈ L ∧ g * l ∣ prodL L
  | [], _, g, h, hn => absurd (Nat.eq_one_of_dvd_one h) hn
  | l :: L, hp, g, h, hn => by
    have hl := hp l (List.mem_cons_self ..)
    rcases hl.dv (Nat.gcd g l) (Nat.gcd_dvd_right g l) with h1 | h1
    · have := Nat.Coprime.dvd_of_dvd_mul_left (k := g) (m := l) (n := prodL L) h1 h
      exact ⟨l, List.mem_cons_self .., by rw [prodL, Nat.mul_comm g l]; exact Nat.mul_dvd_mul_left l this⟩
    · have hlg : l ∣ g := h1 ▸ Nat.gcd_dvd_left g l
      obtain ⟨g', rfl⟩ := hlg
      have h0 : 0 < l := by have := hl.gt; omega
      have h2 : g' ∣ prodL L := Nat.dvd_of_mul_dvd_mul_left h0 h
      obtain ⟨l', m1, m2⟩ := prod_dvd L (fun x hx => hp x (List.mem_cons_of_mem _ hx)) g' h2 (fun q => hn (by rw [q]; rfl))
      exact ⟨l', List.mem_cons_of_mem _ m1, by rw [prodL, Nat.mul_assoc]; exact Nat.mul_dvd_mul_left l m2⟩
theorem pigeon : ∀ (r N : Nat) (f : Nat → Nat), (∀ i, i < N → f i < r) → (∀ i j, i < j → j < N → f i ≠ f j) → N ≤ r
  | 0, N, f, h1, _ => by
    cases N with
    | zero => omega
    | succ N => have := h1 0 (by omega); omega
  | r + 1, N, f, h1, h2 => by
    by_cases hc : ∃ i, i < N ∧ f i = r
    · obtain ⟨k, k1, k2⟩ := hc
      have := pigeon r (N - 1) (fun i => if i = k then f (N - 1) else f i) (fun i hi => by
        show (if i = k then f (N - 1) else f i) < r
        by_cases hik : i = k
        · rw [if_pos hik]
          have a := h1 (N - 1) (by omega)
          have b := h2 k (N - 1) (by omega) (by omega)
          omega
        · rw [if_neg hik]
          have a := h1 i (by omega)
          have b : f i ≠ r := by
            rw [← k2]
            by_cases hlt : i < k
            · exact h2 i k hlt k1
            · exact (h2 k i (by omega) (by omega)).symm
          omega) (fun i j hij hj => by
        show (if i = k then f (N - 1) else f i) ≠ (if j = k then f (N - 1) else f j)
        by_cases hik : i = k
        · rw [if_pos hik, if_neg (by omega)]
          exact (h2 j (N - 1) (by omega) (by omega)).symm
        · rw [if_neg hik]
          by_cases hjk : j = k
          · rw [if_pos hjk]
            exact h2 i (N - 1) (by omega) (by omega)
          · rw [if_neg hjk]
            exact h2 i j hij (by omega))
      omega
    · have := pigeon r N f (fun i hi => by
        have a := h1 i hi
        have b : f i ≠ r := fun q => hc ⟨i, hi, q⟩
        omega) h2
      omega
theorem pigeon_onto {r : Nat} (f : Nat → Nat) (hr : 0 < r) (h1 : ∀ i, i < r - 1 → 0 < f i ∧ f i < r) (h2 : ∀ i j, i < j → j < r - 1 → f i ≠ f j) {y : Nat} (y0 : 0 < y) (y1 : y < r) : ∃ i, i < r - 1 ∧ f i = y := by
  refine Classical.byContradiction fun hc => ?_
  have hy : ∀ i, i < r - 1 → f i ≠ y := fun i hi q => hc ⟨i, hi, q⟩
  have := pigeon r (r + 1) (fun i => if i < r - 1 then f i else if i = r - 1 then 0 else y) (fun i hi => by
    show (if i < r - 1 then f i else if i = r - 1 then 0 else y) < r
    by_cases a : i < r - 1
    · rw [if_pos a]; exact (h1 i a).2
    · rw [if_neg a]
      by_cases b : i = r - 1
      · rw [if_pos b]; exact hr
      · rw [if_neg b]; exact y1) (fun i j hij hj => by
    show (if i < r - 1 then f i else if i = r - 1 then 0 else y) ≠ (if j < r - 1 then f j else if j = r - 1 then 0 else y)
    by_cases a : i < r - 1
    · rw [if_pos a]
      by_cases a' : j < r - 1
      · rw [if_pos a']; exact h2 i j hij a'
      · rw [if_neg a']
        by_cases b : j = r - 1
        · rw [if_pos b]; have := (h1 i a).1; omega
        · rw [if_neg b]; exact hy i a
    · rw [if_neg a, if_neg (show ¬ j < r - 1 by omega), if_neg (show ¬ j = r - 1 by omega)]
      by_cases b : i = r - 1
      · rw [if_pos b]; omega
      · omega)
  omega
structure Cert (n b : Nat) (L : List Nat) : Prop where
  pr : ∀ l ∈ L, Prm l
  one : b ^ prodL L % n = 1 % n
  ne : ∀ l ∈ L, ∃ e, prodL L = e * l ∧ Nat.gcd (b ^ e % n + n - 1) n = 1
theorem Cert.distinct {n b : Nat} {L : List Nat} (h : Cert n b L) {r : Nat} (r1 : 1 < r) (hr : r ∣ n) (hn : 0 < n) : ∀ i j, i < j → j < prodL L → b ^ i % r ≠ b ^ j % r := by
  intro i j hij hj he
  have h1 : b ^ prodL L % r = 1 % r := by rw [← Nat.mod_mod_of_dvd (b ^ prodL L) hr, h.one, Nat.mod_mod_of_dvd 1 hr]
  have h2 := pow_gcd (j - i) (prodL L) (pow_diff h1 hij hj he) h1
  obtain ⟨l, l1, l2⟩ := prod_dvd L h.pr _ (Nat.gcd_dvd_right (j - i) (prodL L)) (fun q => by
    have := Nat.le_of_dvd (by omega) (q ▸ Nat.gcd_dvd_left (j - i) (prodL L))
    omega)
  obtain ⟨e, e1, e2⟩ := h.ne l l1
  rw [e1] at l2
  have hl0 : 0 < l := by have := (h.pr l l1).gt; omega
  obtain ⟨k, hk⟩ := Nat.dvd_of_mul_dvd_mul_right hl0 l2
  rw [← e1] at hk
  have h3 : b ^ e % r = 1 % r := by
    have := pow_per h2 k 0
    rw [Nat.add_zero, ← hk, Nat.pow_zero] at this
    exact this
  have h4 : b ^ e % n % r = 1 := by rw [Nat.mod_mod_of_dvd _ hr, h3, Nat.mod_eq_of_lt r1]
  have h5 : r ∣ b ^ e % n + n - 1 := by
    have h6 := Nat.div_add_mod (b ^ e % n) r
    rw [h4] at h6
    rw [show b ^ e % n + n - 1 = r * (b ^ e % n / r) + n by omega]
    exact Nat.dvd_add (Nat.dvd_mul_right _ _) hr
  have := Nat.dvd_gcd h5 hr
  rw [e2] at this
  have := Nat.eq_one_of_dvd_one this
  omega
theorem Cert.prime {n b : Nat} {L : List Nat} (h : Cert n b L) (hn : 1 < n) (hF : n < prodL L * prodL L) : Prm n := by
  refine Prm.of hn fun r r1 r2 r3 => ?_
  have := pigeon r (prodL L) (fun i => b ^ i % r) (fun i _ => Nat.mod_lt _ (by omega)) (h.distinct r1 r2 (by omega))
  have := Nat.mul_le_mul this this
  omega
def pgS (m x a : Nat) (b : Bool) : Nat := bif b then a * a % m * x % m else a * a % m
def pgL (m x n : Nat) : Nat → Nat
  | 0 => 1 % m
  | j + 1 => pgS m x (pgL m x n j) (Nat.beq (n / 2 ^ (255 - j) % 2) 1)
theorem pgL_eq (m x n : Nat) (hn : n < 2 ^ 256) : ∀ j, j ≤ 256 → pgL m x n j = x ^ (n / 2 ^ (256 - j)) % m
  | 0, _ => by
    rw [pgL, Nat.sub_zero, Nat.div_eq_of_lt hn, Nat.pow_zero]
  | j + 1, h => by
    have ih := pgL_eq m x n hn j (by omega)
    have hE : n / 2 ^ (256 - (j + 1)) = 2 * (n / 2 ^ (256 - j)) + n / 2 ^ (255 - j) % 2 := by
      have h1 : n / 2 ^ (256 - j) = n / 2 ^ (255 - j) / 2 := by
        rw [Nat.div_div_eq_div_mul, show 256 - j = (255 - j) + 1 by omega, Nat.pow_succ]
      rw [h1, show 256 - (j + 1) = 255 - j by omega]
      omega
    have hsq : x ^ (n / 2 ^ (256 - j)) % m * (x ^ (n / 2 ^ (256 - j)) % m) % m = x ^ (2 * (n / 2 ^ (256 - j))) % m := by
      rw [← Nat.mul_mod, ← Nat.pow_add]; congr 2; omega
    rw [pgL, ih, hE]
    unfold pgS
    cases hb : Nat.beq (n / 2 ^ (255 - j) % 2) 1 with
    | true =>
      have hb' := Nat.eq_of_beq_eq_true hb
      rw [hb', cond_true, hsq, Nat.pow_succ, Nat.mod_mul_mod]
    | false =>
      have hb' : n / 2 ^ (255 - j) % 2 = 0 := by
        have : ¬ n / 2 ^ (255 - j) % 2 = 1 := fun q => by rw [q] at hb; cases hb
        omega
      rw [hb', cond_false, hsq, Nat.add_zero]
theorem pg_eq (m x : Nat) {n : Nat} (hn : n < 2 ^ 256) : x ^ n % m = pgL m x n 256 := by
  rw [pgL_eq m x n hn 256 (Nat.le_refl _), Nat.sub_self, Nat.pow_zero, Nat.div_one]
def certB (n b F : Nat) (L : List Nat) : Bool :=
  Nat.beq (prodL L) F && (Nat.blt F (2 ^ 256) && (Nat.beq (pgL n b F 256) 1 && (Nat.blt 1 n &&
    L.all fun l => Nat.beq (F / l * l) F && Nat.beq (Nat.gcd (pgL n b (F / l) 256 + n - 1) n) 1)))
theorem Cert.mk' {n b F : Nat} {L : List Nat} (h : certB n b F L = true) (hp : ∀ l ∈ L, Prm l) : Cert n b L ∧ 1 < n ∧ prodL L = F ∧ F < 2 ^ 256 := by
  unfold certB at h
  rw [Bool.and_eq_true, Bool.and_eq_true, Bool.and_eq_true, Bool.and_eq_true] at h
  obtain ⟨h1, h2, h3, h4, h5⟩ := h
  have h1 := Nat.eq_of_beq_eq_true h1
  have h2 : F < 2 ^ 256 := Nat.le_of_ble_eq_true h2
  have h3 := Nat.eq_of_beq_eq_true h3
  have h4 : 1 < n := Nat.le_of_ble_eq_true h4
  refine ⟨⟨hp, ?_, fun l hl => ?_⟩, h4, h1, h2⟩
  · rw [h1, pg_eq n b h2, h3, Nat.mod_eq_of_lt h4]
  · have := List.all_eq_true.1 h5 l hl
    rw [Bool.and_eq_true] at this
    refine ⟨F / l, ?_, ?_⟩
    · rw [h1]; exact (Nat.eq_of_beq_eq_true this.1).symm
    · rw [pg_eq n b (Nat.lt_of_le_of_lt (Nat.div_le_self F l) h2)]
      exact Nat.eq_of_beq_eq_true this.2
end Go.Proofs.YtibfpjeeanppjaaGreat.La
namespace Go.Proofs.YtibfpjeeanppjaaGreat.La
open Go Go.Sy Re Fe
def mm (a b : Int) : Int := a * b % Pm
def ma (a b : Int) : Int := (a + b) % Pm
def ms (a b : Int) : Int := (a - b) % Pm
def inv (a : Int) : Int := pwm a (Pm - 2).toNat
theorem mod_range (a : Int) : 0 ≤ a % Pm ∧ a % Pm < Pm := ⟨Int.emod_nonneg _ (by have := Pm_pos; omega), Int.emod_lt_of_pos _ Pm_pos⟩
def PN : Nat := 57896044618658097711785492504343953926634992332820282019728792003956564819949
theorem PN_eq : ((PN : Nat) : Int) = Pm := by decide
theorem pr2 : Prm 2 := Prm.trial 0 (by decide)
theorem pr3 : Prm 3 := Prm.trial 1 (by decide)
theorem pr127 : Prm 127 := Prm.trial 11 (by decide +kernel)
theorem pr4153 : Prm 4153 := Prm.trial 64 (by decide +kernel)
theorem pr65147 : Prm 65147 := Prm.trial 255 (by decide +kernel)
theorem pr75707 : Prm 75707 := Prm.trial 275 (by decide +kernel)
theorem pr430751 : Prm 430751 := Prm.trial 656 (by decide +kernel)
theorem pr8574133 : Prm 8574133 := Prm.trial 2928 (by decide +kernel)
theorem prU : Prm 1919519569386763 := by
  have h := Cert.mk' (n := 1919519569386763) (b := 354538099852037) (F := 1088914891) (L := [8574133, 127]) (by decide +kernel) (by
    intro l hl
    simp only [List.mem_cons, List.not_mem_nil, or_false] at hl
    rcases hl with rfl | rfl
    · exact pr8574133
    · exact pr127)
  exact h.1.prime h.2.1 (by rw [h.2.2.1]; decide)
theorem prT : Prm 31757755568855353 := by
  have h := Cert.mk' (n := 31757755568855353) (b := 26222887164197666) (F := 1788908903) (L := [430751, 4153]) (by decide +kernel) (by
    intro l hl
    simp only [List.mem_cons, List.not_mem_nil, or_false] at hl
    rcases hl with rfl | rfl
    · exact pr430751
    · exact pr4153)
  exact h.1.prime h.2.1 (by rw [h.2.2.1]; decide)
theorem prS : Prm 75445702479781427272750846543864801 := by
  have h := Cert.mk' (n := 75445702479781427272750846543864801) (b := 66628784550627212900504873757094751) (F := 145321068039563666441) (L := [1919519569386763, 75707]) (by decide +kernel) (by
    intro l hl
    simp only [List.mem_cons, List.not_mem_nil, or_false] at hl
    rcases hl with rfl | rfl
    · exact prU
    · exact pr75707)
  exact h.1.prime h.2.1 (by rw [h.2.2.1]; decide)
theorem prQ : Prm 74058212732561358302231226437062788676166966415465897661863160754340907 := by
  have h := Cert.mk' (n := 74058212732561358302231226437062788676166966415465897661863160754340907) (b := 32917242187670345156894797748588826076355976820526874250530785709567478) (F := 75445702479781427272750846543864801 * 31757755568855353) (L := [75445702479781427272750846543864801, 31757755568855353]) (by decide +kernel) (by
    intro l hl
    simp only [List.mem_cons, List.not_mem_nil, or_false] at hl
    rcases hl with rfl | rfl
    · exact prS
    · exact prT)
  exact h.1.prime h.2.1 (by rw [h.2.2.1]; decide)
def PF : Nat := 57896044618658097711785492504343953926634992332820282019728792003956564819948
def PL : List Nat := [2, 2, 3, 65147, 74058212732561358302231226437062788676166966415465897661863160754340907]
theorem PF_eq : PF + 1 = PN := by decide
theorem certP : Cert PN 2 PL ∧ 1 < PN ∧ prodL PL = PF ∧ PF < 2 ^ 256 := Cert.mk' (by decide +kernel) (by
  intro l hl
  simp only [PL, List.mem_cons, List.not_mem_nil, or_false] at hl
  rcases hl with rfl | rfl | rfl | rfl | rfl
  · exact pr2
  · exact pr2
  · exact pr3
  · exact pr65147
  · exact prQ)
theorem PF_sq : PN < PF * PF := by decide
theorem prP : Prm PN := certP.1.prime certP.2.1 (by rw [certP.2.2.1]; exact PF_sq)
theorem two_PF : 2 ^ PF % PN = 1 := by
  have := certP.1.one
  rw [certP.2.2.1, Nat.mod_eq_of_lt certP.2.1] at this
  exact this
theorem two_all {m : Nat} (h0 : 0 < m) (h1 : m < PN) : ∃ i, 2 ^ i % PN = m := by
  have hp := certP.2.1
  obtain ⟨i, _, h⟩ := pigeon_onto (r := PN) (fun i => 2 ^ i % PN) (by omega) (fun i hi => by
    refine ⟨?_, Nat.mod_lt _ (by omega)⟩
    show 0 < 2 ^ i % PN
    rcases Nat.eq_zero_or_pos (2 ^ i % PN) with hz | hz
    · have e := two_PF
      have hi' : i ≤ PF := by have := PF_eq; omega
      obtain ⟨c, hc⟩ := Nat.exists_eq_add_of_le hi'
      rw [hc, Nat.pow_add, Nat.mul_mod, hz, Nat.zero_mul, Nat.zero_mod] at e
      cases e
    · exact hz) (fun i j hij hj => by
    have := certP.1.distinct hp (Nat.dvd_refl _) (by omega) i j hij (by rw [certP.2.2.1]; have := PF_eq; omega)
    exact this) h0 h1
  exact ⟨i, h⟩
theorem fermat {m : Nat} (h0 : 0 < m) (h1 : m < PN) : m ^ PF % PN = 1 := by
  obtain ⟨i, rfl⟩ := two_all h0 h1
  rw [← Nat.pow_mod, ← Nat.pow_mul, Nat.mul_comm, Nat.pow_mul, Nat.pow_mod, two_PF, Nat.one_pow]
  exact Nat.mod_eq_of_lt certP.2.1
theorem euclid {a b : Nat} (h : PN ∣ a * b) : PN ∣ a ∨ PN ∣ b := by
  rcases prP.dv (Nat.gcd PN a) (Nat.gcd_dvd_left ..) with h1 | h1
  · exact .inr (Nat.Coprime.dvd_of_dvd_mul_left h1 h)
  · exact .inl (h1 ▸ Nat.gcd_dvd_right PN a)
abbrev Fp := Fin PN
instance : NeZero PN := ⟨by decide⟩
theorem fp_noz {a b : Fp} (h : a * b = 0) : a = 0 ∨ b = 0 := by
  have h1 : a.val * b.val % PN = 0 := congrArg Fin.val h
  rcases euclid (Nat.dvd_of_mod_eq_zero h1) with h2 | h2
  · refine .inl (Fin.ext ?_)
    have := Nat.eq_zero_of_dvd_of_lt h2 a.isLt
    exact this
  · refine .inr (Fin.ext ?_)
    have := Nat.eq_zero_of_dvd_of_lt h2 b.isLt
    exact this
def ph (x : Int) : Fp := Fin.ofNat PN (x % Pm).toNat
theorem ph_val {x : Int} (h0 : 0 ≤ x) (h1 : x < Pm) : ((ph x).val : Int) = x := by
  show (((x % Pm).toNat % PN : Nat) : Int) = x
  rw [Int.emod_eq_of_lt h0 h1, Int.natCast_emod, PN_eq, Int.toNat_of_nonneg h0, Int.emod_eq_of_lt h0 h1]
theorem val_ph (a : Fp) : ph (a.val : Int) = a := by
  refine Fin.ext ?_
  show ((a.val : Int) % Pm).toNat % PN = a.val
  rw [← PN_eq, ← Int.natCast_emod, Int.toNat_natCast, Nat.mod_mod, Nat.mod_eq_of_lt a.isLt]
theorem ph_emod (x : Int) : ph (x % Pm) = ph x := by
  unfold ph
  rw [Int.emod_emod]
theorem ph_eq {x y : Int} (h : ph x = ph y) : x % Pm = y % Pm := by
  have h1 := congrArg (fun a : Fp => ((a.val : Nat) : Int)) h
  have e : ∀ x : Int, ((ph x).val : Int) = x % Pm := fun x => by
    rw [← ph_emod, ph_val (mod_range x).1 (mod_range x).2]
  rw [← e, ← e]; exact h1
theorem ph_of {x : Int} {a : Fp} (h : x % Pm = (a.val : Int)) : ph x = a := by
  rw [← val_ph a, ← h, ph_emod]
theorem val_of (x : Int) : ((ph x).val : Int) = x % Pm := by
  rw [← ph_emod, ph_val (mod_range x).1 (mod_range x).2]
theorem ph_mul (x y : Int) : ph (x * y) = ph x * ph y := by
  refine ph_of ?_
  show x * y % Pm = (((ph x).val * (ph y).val % PN : Nat) : Int)
  rw [Int.natCast_emod, Int.natCast_mul, val_of, val_of, PN_eq, ← Int.mul_emod]
theorem ph_add (x y : Int) : ph (x + y) = ph x + ph y := by
  refine ph_of ?_
  show (x + y) % Pm = ((((ph x).val + (ph y).val) % PN : Nat) : Int)
  rw [Int.natCast_emod, Int.natCast_add, val_of, val_of, PN_eq, ← Int.add_emod]
theorem ph_sub (x y : Int) : ph (x - y) = ph x - ph y := by
  refine ph_of ?_
  show (x - y) % Pm = ((((PN - (ph y).val) + (ph x).val) % PN : Nat) : Int)
  rw [Int.natCast_emod, Int.natCast_add, Int.natCast_sub (Nat.le_of_lt (ph y).isLt), val_of, val_of, PN_eq]
  rw [show Pm - y % Pm + x % Pm = (x % Pm - y % Pm) + Pm * 1 by omega, Int.add_mul_emod_self_left, ← Int.sub_emod]
theorem ph_mm (x y : Int) : ph (mm x y) = ph x * ph y := by unfold mm; rw [ph_emod, ph_mul]
theorem ph_ma (x y : Int) : ph (ma x y) = ph x + ph y := by unfold ma; rw [ph_emod, ph_add]
theorem ph_ms (x y : Int) : ph (ms x y) = ph x - ph y := by unfold ms; rw [ph_emod, ph_sub]
theorem ph_zero : ph 0 = 0 := rfl
theorem ph_one : ph 1 = 1 := by decide
theorem ph_inj {x y : Int} (hx : 0 ≤ x ∧ x < Pm) (hy : 0 ≤ y ∧ y < Pm) (h : ph x = ph y) : x = y := by
  have := ph_eq h
  rw [Int.emod_eq_of_lt hx.1 hx.2, Int.emod_eq_of_lt hy.1 hy.2] at this
  exact this
def fi (a : Fp) : Fp := ph (inv a.val)
theorem fi_mul {a : Fp} (h : a ≠ 0) : a * fi a = 1 := by
  have ha : 0 < a.val := Nat.pos_of_ne_zero fun q => h (Fin.ext q)
  have hf := fermat ha a.isLt
  have hk : (Pm - 2).toNat + 1 = PF := by decide
  rw [← hk, Nat.pow_succ] at hf
  have key : (a.val : Int) * inv (a.val : Int) % Pm = 1 := by
    unfold inv pwm
    generalize (Pm - 2).toNat = k at hf ⊢
    rw [← PN_eq, ← Int.natCast_pow, ← Int.natCast_emod, ← Int.natCast_mul, ← Int.natCast_emod, Nat.mul_mod_mod, Nat.mul_comm, hf]
    rfl
  have h1 : ph ((a.val : Int) * inv (a.val : Int)) = 1 := by rw [← ph_emod, key, ph_one]
  rw [ph_mul, val_ph] at h1
  exact h1
theorem ph_inv (x : Int) (h0 : 0 ≤ x) (h1 : x < Pm) : ph (inv x) = fi (ph x) := by
  unfold fi
  rw [ph_val h0 h1]
end Go.Proofs.YtibfpjeeanppjaaGreat.La
end
section
namespace Go.Proofs.YtibfpjeeanppjaaGreat.La
open Go Go.Sy Re Fe
abbrev S4 := Int × Int × Int × Int
def dX (x z : Int) : Int := mm (mm (ma x z) (ma x z)) (mm (ms x z) (ms x z))
def dE (x z : Int) : Int := ms (mm (ma x z) (ma x z)) (mm (ms x z) (ms x z))
def dZ (x z : Int) : Int := mm (dE x z) (ma (mm (ma x z) (ma x z)) (mm 121665 (dE x z)))
def aL (x z x' z' : Int) : Int := mm (ms x' z') (ma x z)
def aR (x z x' z' : Int) : Int := mm (ma x' z') (ms x z)
def aX (x z x' z' : Int) : Int := mm (ma (aL x z x' z') (aR x z x' z')) (ma (aL x z x' z') (aR x z x' z'))
def aZ (u x z x' z' : Int) : Int := mm u (mm (ms (aL x z x' z') (aR x z x' z')) (ms (aL x z x' z') (aR x z x' z')))
def stp (u : Int) (bit : Bool) (s : S4) : S4 :=
  bif bit then (aX s.2.2.1 s.2.2.2 s.1 s.2.1, aZ u s.2.2.1 s.2.2.2 s.1 s.2.1, dX s.2.2.1 s.2.2.2, dZ s.2.2.1 s.2.2.2)
  else (dX s.1 s.2.1, dZ s.1 s.2.1, aX s.1 s.2.1 s.2.2.1 s.2.2.2, aZ u s.1 s.2.1 s.2.2.1 s.2.2.2)
def run (u : Int) (bits : Nat → Bool) (s : S4) : Nat → S4
  | 0 => s
  | j + 1 => stp u (bits j) (run u bits s j)
theorem run_succ (u : Int) (bits : Nat → Bool) (s : S4) : ∀ n, run u bits s (n + 1) = run u (fun j => bits (j + 1)) (stp u (bits 0) s) n
  | 0 => rfl
  | n + 1 => by rw [run, run_succ u bits s n, run]
def fin (s : S4) : Int := mm s.1 (inv s.2.1)
section
variable {n : Nat} [NeZero n] (a b x z x' z' u k : Fin n)
theorem i_dx : ((a * x + a * z) * (a * x + a * z)) * ((a * x - a * z) * (a * x - a * z)) = (a * a * (a * a)) * (((x + z) * (x + z)) * ((x - z) * (x - z))) := by grobner
theorem i_dz : ((a * x + a * z) * (a * x + a * z) - (a * x - a * z) * (a * x - a * z)) * ((a * x + a * z) * (a * x + a * z) + k * ((a * x + a * z) * (a * x + a * z) - (a * x - a * z) * (a * x - a * z))) =
    (a * a * (a * a)) * (((x + z) * (x + z) - (x - z) * (x - z)) * ((x + z) * (x + z) + k * ((x + z) * (x + z) - (x - z) * (x - z)))) := by grobner
theorem i_ax : ((b * x' - b * z') * (a * x + a * z) + (b * x' + b * z') * (a * x - a * z)) * ((b * x' - b * z') * (a * x + a * z) + (b * x' + b * z') * (a * x - a * z)) =
    (a * b * (a * b)) * (((x' - z') * (x + z) + (x' + z') * (x - z)) * ((x' - z') * (x + z) + (x' + z') * (x - z))) := by grobner
theorem i_az : u * (((b * x' - b * z') * (a * x + a * z) - (b * x' + b * z') * (a * x - a * z)) * ((b * x' - b * z') * (a * x + a * z) - (b * x' + b * z') * (a * x - a * z))) =
    (a * b * (a * b)) * (u * (((x' - z') * (x + z) - (x' + z') * (x - z)) * ((x' - z') * (x + z) - (x' + z') * (x - z)))) := by grobner
theorem i_e (h : x * z = 0) : (x + z) * (x + z) - (x - z) * (x - z) = 0 := by grobner
theorem i_t : ((u - 1) * (1 + 0) + (u + 1) * (1 - 0)) * ((u - 1) * (1 + 0) + (u + 1) * (1 - 0)) = (4 * u) * u := by grobner
theorem i_tz : u * (((u - 1) * (1 + 0) - (u + 1) * (1 - 0)) * ((u - 1) * (1 + 0) - (u + 1) * (1 - 0))) = (4 * u) * 1 := by grobner
end
theorem p_dX (x z : Int) : ph (dX x z) = ((ph x + ph z) * (ph x + ph z)) * ((ph x - ph z) * (ph x - ph z)) := by unfold dX; simp only [ph_mm, ph_ma, ph_ms]
theorem p_dZ (x z : Int) : ph (dZ x z) = ((ph x + ph z) * (ph x + ph z) - (ph x - ph z) * (ph x - ph z)) * ((ph x + ph z) * (ph x + ph z) + ph 121665 * ((ph x + ph z) * (ph x + ph z) - (ph x - ph z) * (ph x - ph z))) := by unfold dZ dE; simp only [ph_mm, ph_ma, ph_ms]
theorem p_aX (x z x' z' : Int) : ph (aX x z x' z') = ((ph x' - ph z') * (ph x + ph z) + (ph x' + ph z') * (ph x - ph z)) * ((ph x' - ph z') * (ph x + ph z) + (ph x' + ph z') * (ph x - ph z)) := by unfold aX aL aR; simp only [ph_mm, ph_ma, ph_ms]
theorem p_aZ (u x z x' z' : Int) : ph (aZ u x z x' z') = ph u * (((ph x' - ph z') * (ph x + ph z) - (ph x' + ph z') * (ph x - ph z)) * ((ph x' - ph z') * (ph x + ph z) - (ph x' + ph z') * (ph x - ph z))) := by unfold aZ aL aR; simp only [ph_mm, ph_ma, ph_ms]
structure Sc (a b : Fp) (s t : S4) : Prop where
  x0 : ph s.1 = a * ph t.1
  z0 : ph s.2.1 = a * ph t.2.1
  x1 : ph s.2.2.1 = b * ph t.2.2.1
  z1 : ph s.2.2.2 = b * ph t.2.2.2
def Sn (s t : S4) : Prop := ∃ a b : Fp, a ≠ 0 ∧ b ≠ 0 ∧ Sc a b s t
theorem nz_mul {a b : Fp} (ha : a ≠ 0) (hb : b ≠ 0) : a * b ≠ 0 := fun h => (fp_noz h).elim ha hb
theorem stp_sn {u : Int} {bit : Bool} {s t : S4} (h : Sn s t) : Sn (stp u bit s) (stp u bit t) := by
  obtain ⟨a, b, ha, hb, h0, h1, h2, h3⟩ := h
  cases bit with
  | true =>
    refine ⟨b * a * (b * a), b * b * (b * b), nz_mul (nz_mul hb ha) (nz_mul hb ha), nz_mul (nz_mul hb hb) (nz_mul hb hb), ?_, ?_, ?_, ?_⟩
    · show ph (aX s.2.2.1 s.2.2.2 s.1 s.2.1) = _ * ph (aX t.2.2.1 t.2.2.2 t.1 t.2.1)
      rw [p_aX, p_aX, h0, h1, h2, h3, i_ax]
    · show ph (aZ u s.2.2.1 s.2.2.2 s.1 s.2.1) = _ * ph (aZ u t.2.2.1 t.2.2.2 t.1 t.2.1)
      rw [p_aZ, p_aZ, h0, h1, h2, h3, i_az]
    · show ph (dX s.2.2.1 s.2.2.2) = _ * ph (dX t.2.2.1 t.2.2.2)
      rw [p_dX, p_dX, h2, h3, i_dx]
    · show ph (dZ s.2.2.1 s.2.2.2) = _ * ph (dZ t.2.2.1 t.2.2.2)
      rw [p_dZ, p_dZ, h2, h3, i_dz]
  | false =>
    refine ⟨a * a * (a * a), a * b * (a * b), nz_mul (nz_mul ha ha) (nz_mul ha ha), nz_mul (nz_mul ha hb) (nz_mul ha hb), ?_, ?_, ?_, ?_⟩
    · show ph (dX s.1 s.2.1) = _ * ph (dX t.1 t.2.1)
      rw [p_dX, p_dX, h0, h1, i_dx]
    · show ph (dZ s.1 s.2.1) = _ * ph (dZ t.1 t.2.1)
      rw [p_dZ, p_dZ, h0, h1, i_dz]
    · show ph (aX s.1 s.2.1 s.2.2.1 s.2.2.2) = _ * ph (aX t.1 t.2.1 t.2.2.1 t.2.2.2)
      rw [p_aX, p_aX, h0, h1, h2, h3, i_ax]
    · show ph (aZ u s.1 s.2.1 s.2.2.1 s.2.2.2) = _ * ph (aZ u t.1 t.2.1 t.2.2.1 t.2.2.2)
      rw [p_aZ, p_aZ, h0, h1, h2, h3, i_az]
theorem run_sn {u : Int} {bits : Nat → Bool} {s t : S4} (h : Sn s t) : ∀ n, Sn (run u bits s n) (run u bits t n)
  | 0 => h
  | n + 1 => stp_sn (run_sn h n)
theorem pow_emod (x m : Int) : ∀ k : Nat, (x % m) ^ k % m = x ^ k % m
  | 0 => by rw [Int.pow_zero, Int.pow_zero]
  | k + 1 => by rw [Int.pow_succ, Int.pow_succ, Int.mul_emod, pow_emod x m k, Int.emod_emod, ← Int.mul_emod]
theorem ph_inv' (x : Int) : ph (inv x) = fi (ph x) := by
  have e : inv x = inv (x % Pm) := by
    unfold inv pwm
    generalize (Pm - 2).toNat = k
    exact (pow_emod x Pm k).symm
  rw [e, ph_inv _ (mod_range x).1 (mod_range x).2, ph_emod]
theorem fi_zero : fi 0 = 0 := by
  unfold fi inv pwm
  have h0 : (((0 : Fp).val : Nat) : Int) = 0 := rfl
  rw [h0]
  have h1 : (0 : Int) ^ (Pm - 2).toNat = 0 := Int.zero_pow (by decide)
  rw [h1]; rfl
theorem fi_mul' {a z : Fp} (ha : a ≠ 0) : a * fi (a * z) = fi z := by
  by_cases hz : z = 0
  · subst hz
    rw [show a * 0 = (0 : Fp) by grobner, fi_zero]; grobner
  · have h1 := fi_mul (nz_mul ha hz)
    have h2 := fi_mul hz
    generalize fi (a * z) = f at h1 ⊢
    generalize fi z = g at h2 ⊢
    clear ha hz
    grobner
theorem fin_sn {s t : S4} (h : Sn s t) : fin s = fin t := by
  obtain ⟨a, b, ha, hb, h0, h1, h2, h3⟩ := h
  refine ph_inj (mod_range _) (mod_range _) ?_
  unfold fin
  rw [ph_mm, ph_mm, ph_inv', ph_inv', h0, h1, ← fi_mul' ha (z := ph t.2.1)]
  generalize ph t.1 = x
  generalize fi (a * ph t.2.1) = y
  grobner
def Zz (s : S4) : Prop := ph s.1 * ph s.2.1 = 0 ∧ ph s.2.2.1 * ph s.2.2.2 = 0
theorem stp_zz {u : Int} {bit : Bool} {s : S4} (hu : ph u = 0) (h : Zz s) : ph (stp u bit s).2.1 = 0 ∧ ph (stp u bit s).2.2.2 = 0 := by
  have hd : ∀ x z : Int, ph x * ph z = 0 → ph (dZ x z) = 0 := fun x z hx => by
    rw [p_dZ, i_e _ _ hx]; grobner
  have ha : ∀ x z x' z' : Int, ph (aZ u x z x' z') = 0 := fun x z x' z' => by
    rw [p_aZ, hu]; grobner
  cases bit with
  | true => exact ⟨ha _ _ _ _, hd _ _ h.2⟩
  | false => exact ⟨hd _ _ h.1, ha _ _ _ _⟩
theorem run_zz {u : Int} {bits : Nat → Bool} {s : S4} (hu : ph u = 0) (h : Zz s) : ∀ n, Zz (run u bits s n)
  | 0 => h
  | n + 1 => by
    have k := stp_zz (bit := bits n) hu (run_zz (bits := bits) hu h n)
    unfold Zz
    rw [run, k.1, k.2]
    constructor <;> grobner
theorem fin_zz {u : Int} {bits : Nat → Bool} {s : S4} (hu : ph u = 0) (h : Zz s) (n : Nat) : fin (run u bits s (n + 1)) = 0 := by
  have k := (stp_zz (bit := bits n) hu (run_zz (bits := bits) hu h n)).1
  refine ph_inj (mod_range _) ⟨Int.le_refl _, Pm_pos⟩ ?_
  unfold fin
  rw [ph_mm, ph_inv', run, k, fi_zero, ph_zero]
  grobner
def beg (u : Int) : S4 := (1, 0, u, 1)
theorem beg_zz {u : Int} (hu : ph u = 0) : Zz (beg u) := by
  constructor
  · show ph 1 * ph 0 = 0
    rw [ph_zero]; grobner
  · show ph u * ph 1 = 0
    rw [hu]; grobner
theorem four_ne : (4 : Fp) ≠ 0 := by decide
theorem first_sn {u : Int} (hu : ph u ≠ 0) : Sn (stp u false (beg u)) (beg u) := by
  refine ⟨1, 4 * ph u, by decide, nz_mul four_ne hu, ?_, ?_, ?_, ?_⟩
  · show ph (dX 1 0) = 1 * ph 1
    decide
  · show ph (dZ 1 0) = 1 * ph 0
    decide
  · show ph (aX 1 0 u 1) = (4 * ph u) * ph u
    rw [p_aX, ph_zero, ph_one, i_t]
  · show ph (aZ u 1 0 u 1) = (4 * ph u) * ph 1
    rw [p_aZ, ph_zero, ph_one, i_tz]
theorem lad_eq (u : Int) (bits : Nat → Bool) (h : bits 0 = false) (n : Nat) : fin (run u bits (beg u) (n + 2)) = fin (run u (fun j => bits (j + 1)) (beg u) (n + 1)) := by
  by_cases hu : ph u = 0
  · rw [fin_zz hu (beg_zz hu), fin_zz hu (beg_zz hu)]
  · rw [run_succ, h]
    exact fin_sn (run_sn (first_sn hu) _)
end Go.Proofs.YtibfpjeeanppjaaGreat.La
end
