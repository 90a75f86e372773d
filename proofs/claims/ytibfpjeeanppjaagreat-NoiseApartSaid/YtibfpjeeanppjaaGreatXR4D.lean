/- This file holds the texts R4A, R4C, R4D, a section each. No conditions beyond those in the theorems. -/
import Derived.Test.YtibfpjeeanppjaaGreatXR3E
set_option linter.all false
set_option maxRecDepth 100000
section
namespace Go.Proofs.YtibfpjeeanppjaaGreat.R4
open Go Go.Sy Sh
def nv : List Int → Int
  | [] => 0
  | x :: l => x + 256 * nv l
def Dg (l : List Int) : Prop := ∀ z ∈ l, 0 ≤ z ∧ z < 256
theorem Dg.nil : Dg [] := fun _ h => by cases h
theorem Dg.cons {x : Int} {l : List Int} : Dg (x :: l) ↔ (0 ≤ x ∧ x < 256) ∧ Dg l :=
  ⟨fun h => ⟨h x (List.mem_cons_self ..), fun z hz => h z (List.mem_cons_of_mem _ hz)⟩, fun h z hz => by
    rcases List.mem_cons.1 hz with rfl | q
    · exact h.1
    · exact h.2 z q⟩
theorem Dg.app {a b : List Int} (h : Dg a) (g : Dg b) : Dg (a ++ b) := fun z hz => by
  rcases List.mem_append.1 hz with q | q
  · exact h z q
  · exact g z q
theorem Dg.take {a : List Int} (h : Dg a) (n : Nat) : Dg (a.take n) := fun z hz => h z (List.mem_of_mem_take hz)
theorem Dg.drop {a : List Int} (h : Dg a) (n : Nat) : Dg (a.drop n) := fun z hz => h z (List.mem_of_mem_drop hz)
theorem Dg.getD {a : List Int} (h : Dg a) (i : Nat) : 0 ≤ a.getD i 0 ∧ a.getD i 0 < 256 := by
  rw [List.getD_eq_getElem?_getD]
  cases e : a[i]? with
  | none => exact ⟨by decide, by decide⟩
  | some x => exact h x (List.mem_of_getElem? e)
theorem Dg.set {a : List Int} (h : Dg a) (i : Nat) {x : Int} (hx : 0 ≤ x ∧ x < 256) : Dg (a.set i x) := fun z hz => by
  rcases List.mem_or_eq_of_mem_set hz with q | rfl
  · exact h z q
  · exact hx
theorem fP : ∀ (a b : List Int), nv (a ++ b) = nv a + 256 ^ a.length * nv b
  | [], b => by simp [nv]
  | x :: a, b => by
    rw [List.cons_append, nv, nv, fP a b, List.length_cons, Int.pow_succ, Int.mul_comm (256 ^ a.length) 256, Int.mul_add, Int.mul_assoc]
    omega
theorem me (n : Nat) : (0 : Int) < 256 ^ n := Int.pow_pos (by decide)
theorem kT {m n : Nat} (h : m ≤ n) : (256 : Int) ^ m ≤ 256 ^ n := by
  obtain ⟨k, rfl⟩ := Nat.le.dest h
  rw [Int.pow_add]
  have := Int.mul_le_mul_of_nonneg_left (show (1 : Int) ≤ 256 ^ k from me k) (Int.le_of_lt (me m))
  omega
theorem ep : ∀ {a : List Int}, Dg a → 0 ≤ nv a
  | [], _ => Int.le_refl 0
  | x :: a, h => by
    have := ep (Dg.cons.1 h).2
    have := (Dg.cons.1 h).1
    rw [nv]; omega
theorem wz : ∀ {a : List Int}, Dg a → nv a < 256 ^ a.length
  | [], _ => by decide
  | x :: a, h => by
    have := wz (Dg.cons.1 h).2
    have := (Dg.cons.1 h).1
    rw [nv, List.length_cons, Int.pow_succ]
    omega
theorem gq (a : List Int) (j : Nat) : nv (a.take (j + 1)) = nv (a.take j) + 256 ^ j * a.getD j 0 := by
  by_cases h : j < a.length
  · rw [List.take_add_one, fP, List.length_take, Nat.min_eq_left (by omega), List.getElem?_eq_getElem h, List.getD_eq_getElem?_getD, List.getElem?_eq_getElem h]
    simp [nv]
  · rw [List.take_of_length_le (by omega), List.take_of_length_le (by omega), List.getD_eq_getElem?_getD, List.getElem?_eq_none (by omega)]
    simp
theorem nK (a : List Int) (n : Nat) (h : n ≤ a.length) : nv a = nv (a.take n) + 256 ^ n * nv (a.drop n) := by
  conv => lhs; rw [← List.take_append_drop n a]
  rw [fP, List.length_take, Nat.min_eq_left h]
theorem zS : ∀ (a : List Int) (k : Nat) (x : Int), k < a.length → nv (a.set k x) = nv a + 256 ^ k * (x - a.getD k 0)
  | [], _, _, h => absurd h (by simp)
  | y :: a, 0, x, _ => by simp [nv]; omega
  | y :: a, k + 1, x, h => by
    have ih := zS a k x (by simpa using h)
    rw [List.set_cons_succ, nv, nv, ih, List.getD_cons_succ, Int.pow_succ, Int.mul_comm (256 ^ k) 256, Int.mul_assoc, Int.mul_add]
    omega
theorem wD : ∀ n, nv (List.replicate n 0) = 0
  | 0 => rfl
  | n + 1 => by rw [List.replicate_succ, nv, wD n]; rfl
theorem qX (n : Nat) : Dg (List.replicate n 0) := fun z hz => by rw [List.eq_of_mem_replicate hz]; decide
def Tm : List Int → Prop
  | [] => True
  | [x] => x ≠ 0
  | _ :: l => Tm l
theorem Tm.tail {x : Int} {l : List Int} (h : Tm (x :: l)) : Tm l := by
  cases l with
  | nil => trivial
  | cons y l => exact h
theorem zT : ∀ {l : List Int}, Dg l → Tm l → l ≠ [] → 0 < nv l
  | [], _, _, h => absurd rfl h
  | [x], d, h, _ => by
    have := (Dg.cons.1 d).1
    have : x ≠ 0 := h
    simp only [nv]; omega
  | x :: y :: l, d, h, _ => by
    have := zT (Dg.cons.1 d).2 (Tm.tail h) (by simp)
    have := (Dg.cons.1 d).1
    rw [nv]; omega
theorem MO : ∀ {a b : List Int}, Dg a → Dg b → Tm a → Tm b → nv a = nv b → a = b
  | [], [], _, _, _, _, _ => rfl
  | [], y :: b, _, d, _, t, e => by
    have := zT d t (by simp)
    rw [← e] at this
    exact absurd this (by simp [nv])
  | x :: a, [], d, _, t, _, e => by
    have := zT d t (by simp)
    rw [e] at this
    exact absurd this (by simp [nv])
  | x :: a, y :: b, d, d', t, t', e => by
    have h1 := (Dg.cons.1 d).1
    have h2 := (Dg.cons.1 d').1
    rw [nv, nv] at e
    have exy : x = y := by omega
    have eab : nv a = nv b := by omega
    rw [exy, MO (Dg.cons.1 d).2 (Dg.cons.1 d').2 t.tail t'.tail eab]
def B9 (l : List Int) : Nat → Nat
  | 0 => 0
  | n + 1 => if l.getD n 0 = 0 then B9 l n else n + 1
def mH (l : List Int) : List Int := l.take (B9 l l.length)
theorem MP (l : List Int) : ∀ n, B9 l n ≤ n
  | 0 => Nat.le_refl 0
  | n + 1 => by
    unfold B9
    split
    · exact Nat.le_succ_of_le (MP l n)
    · exact Nat.le_refl _
theorem Gg : ∀ {l : List Int}, (l ≠ [] → l.getD (l.length - 1) 0 ≠ 0) → Tm l
  | [], _ => trivial
  | [x], h => h (by simp)
  | x :: y :: l, h => Gg (l := y :: l) fun _ => by
    have := h (by simp)
    simpa using this
theorem Ca (l : List Int) : ∀ n, B9 l n ≠ 0 → l.getD (B9 l n - 1) 0 ≠ 0
  | 0, h => absurd rfl h
  | n + 1, h => by
    unfold B9 at h ⊢
    split
    · rename_i q
      rw [if_pos q] at h
      exact Ca l n h
    · rename_i q
      exact q
theorem Cb (l : List Int) : ∀ n i, B9 l n ≤ i → i < n → l.getD i 0 = 0
  | 0, i, _, h => absurd h (by omega)
  | n + 1, i, h, hi => by
    unfold B9 at h
    split at h
    · rename_i q
      by_cases e : i = n
      · rw [e]; exact q
      · exact Cb l n i h (by omega)
    · omega
theorem sq (l : List Int) (n i : Nat) (h : i < n) : (l.take n).getD i 0 = l.getD i 0 := by
  rw [List.getD_eq_getElem?_getD, List.getD_eq_getElem?_getD, List.getElem?_take_of_lt h]
theorem pT {l : List Int} (d : Dg l) : Dg (mH l) ∧ Tm (mH l) ∧ nv (mH l) = nv l := by
  have hle := MP l l.length
  refine ⟨d.take _, Gg fun h => ?_, ?_⟩
  · have hl : (mH l).length = B9 l l.length := by unfold mH; rw [List.length_take, Nat.min_eq_left hle]
    have h0 : B9 l l.length ≠ 0 := fun q => h (by unfold mH; rw [q]; rfl)
    rw [hl]
    unfold mH
    rw [sq _ _ _ (by omega)]
    exact Ca l _ h0
  · have key : ∀ k, B9 l l.length + k ≤ l.length → nv (l.take (B9 l l.length + k)) = nv (mH l) := fun k => by
      induction k with
      | zero => intro _; rfl
      | succ k ih =>
        intro h
        rw [← Nat.add_assoc, gq, ih (by omega), Cb l l.length _ (Nat.le_add_right _ k) (by omega)]
        omega
    have := key (l.length - B9 l l.length) (by omega)
    rw [Nat.add_sub_cancel' hle, List.take_of_length_le (Nat.le_refl _)] at this
    exact this.symm
def cy (a b : List Int) : Nat → Int
  | 0 => 0
  | j + 1 => (cy a b j + a.getD j 0 + b.getD j 0) / 256
def pd (a b : List Int) (j : Nat) : Int := (cy a b j + a.getD j 0 + b.getD j 0) % 256
def zU (a b : List Int) : Nat := max a.length b.length
def iM (a b : List Int) : Nat := if 0 < cy a b (zU a b) then zU a b + 1 else zU a b
def iN (a b : List Int) : List Int := (List.range (iM a b)).map (pd a b)
theorem MQ {a b : List Int} (da : Dg a) (db : Dg b) : ∀ j, 0 ≤ cy a b j ∧ cy a b j ≤ 1
  | 0 => ⟨Int.le_refl 0, by show (0 : Int) ≤ 1; decide⟩
  | j + 1 => by
    have := MQ da db j
    have := da.getD j
    have := db.getD j
    rw [cy]; omega
theorem ac3 (a b : List Int) (n : Nat) : Dg ((List.range n).map (pd a b)) := fun z hz => by
  obtain ⟨j, _, rfl⟩ := List.mem_map.1 hz
  unfold pd; omega
theorem MR (a b : List Int) : ∀ j, nv ((List.range j).map (pd a b)) + 256 ^ j * cy a b j = nv (a.take j) + nv (b.take j)
  | 0 => by simp [nv, cy]
  | j + 1 => by
    have ih := MR a b j
    rw [List.range_succ, List.map_append, fP, List.length_map, List.length_range, gq, gq]
    simp only [List.map_cons, List.map_nil, nv]
    have e : cy a b j + a.getD j 0 + b.getD j 0 = pd a b j + 256 * cy a b (j + 1) := by rw [cy, pd]; omega
    rw [Int.pow_succ, Int.mul_assoc, Int.mul_zero, Int.add_zero]
    have e2 : (256 : Int) ^ j * (cy a b j + a.getD j 0 + b.getD j 0) = 256 ^ j * (pd a b j + 256 * cy a b (j + 1)) := by rw [e]
    simp only [Int.mul_add] at e2
    omega
theorem MS {a b : List Int} (da : Dg a) (db : Dg b) : cy a b (iM a b) = 0 := by
  unfold iM
  have h := MQ da db (zU a b)
  split
  · rw [cy, List.getD_eq_getElem?_getD, List.getElem?_eq_none (by unfold zU; omega), List.getD_eq_getElem?_getD, List.getElem?_eq_none (by unfold zU; omega)]
    simp only [Option.getD_none]
    omega
  · omega
theorem pU (a b : List Int) : zU a b ≤ iM a b ∧ iM a b ≤ zU a b + 1 := by unfold iM; split <;> omega
theorem sr {a b : List Int} (da : Dg a) (db : Dg b) : Dg (iN a b) ∧ nv (iN a b) = nv a + nv b := by
  refine ⟨ac3 _ _ _, ?_⟩
  have h := MR a b (iM a b)
  have hm := pU a b
  rw [MS da db, Int.mul_zero, Int.add_zero, List.take_of_length_le (by unfold zU at hm; omega), List.take_of_length_le (by unfold zU at hm; omega)] at h
  exact h
theorem jP (a b : List Int) : (iN a b).length = iM a b := by simp [iN]
def tS (x : Int) (b : List Int) (i j : Nat) (s : List Int × Int) : List Int × Int :=
  let n := s.1.getD (i + j) 0 + s.2 + x * b.getD j 0
  (s.1.set (i + j) (n % 256), n / 256)
def tR (x : Int) (b : List Int) (i : Nat) (o : List Int) : Nat → List Int × Int
  | 0 => (o, 0)
  | j + 1 => tS x b i j (tR x b i o j)
def qY (x : Int) (b : List Int) (i : Nat) (o : List Int) : Nat := if 0 < (tR x b i o b.length).2 then b.length + 1 else b.length
def tO (a b : List Int) : Nat → List Int
  | 0 => List.replicate (a.length + b.length + 1) 0
  | i + 1 => (tR (a.getD i 0) b i (tO a b i) (qY (a.getD i 0) b i (tO a b i))).1
def tj (a b : List Int) : List Int := tO a b a.length
theorem MT {x : Int} {b : List Int} {i : Nat} {o : List Int} (hx : 0 ≤ x ∧ x < 256) (db : Dg b) (d : Dg o) (hl : i + b.length < o.length) : ∀ j, j ≤ b.length + 1 →
    (tR x b i o j).1.length = o.length ∧ Dg (tR x b i o j).1 ∧ 0 ≤ (tR x b i o j).2 ∧ (tR x b i o j).2 ≤ 255 ∧ nv (tR x b i o j).1 + 256 ^ (i + j) * (tR x b i o j).2 = nv o + 256 ^ i * (x * nv (b.take j))
  | 0, _ => ⟨rfl, d, Int.le_refl 0, by show (0 : Int) ≤ 255; decide, by simp [tR, nv]⟩
  | j + 1, hj => by
    obtain ⟨h1, h2, h3, h4, h5⟩ := MT hx db d hl j (by omega)
    rw [tR]
    generalize tR x b i o j = s at *
    obtain ⟨l, c⟩ := s
    simp only at h1 h2 h3 h4 h5
    unfold tS
    simp only
    have hb := db.getD j
    have hc := h2.getD (i + j)
    have hp0 : 0 ≤ x * b.getD j 0 := Int.mul_nonneg hx.1 hb.1
    have hp1 : x * b.getD j 0 ≤ 255 * 255 := Int.mul_le_mul (by omega) (by omega) hb.1 (by decide)
    refine ⟨by rw [List.length_set, h1], h2.set _ (by omega), by omega, by omega, ?_⟩
    rw [zS _ _ _ (by omega), gq, ← Nat.add_assoc, Int.pow_succ]
    have e : l.getD (i + j) 0 + c + x * b.getD j 0 = (l.getD (i + j) 0 + c + x * b.getD j 0) % 256 + 256 * ((l.getD (i + j) 0 + c + x * b.getD j 0) / 256) := by omega
    generalize (l.getD (i + j) 0 + c + x * b.getD j 0) % 256 = r at *
    generalize (l.getD (i + j) 0 + c + x * b.getD j 0) / 256 = q at *
    have e1 : (256 : Int) ^ (i + j) * (x * b.getD j 0) = 256 ^ i * (x * (256 ^ j * b.getD j 0)) := by
      rw [Int.pow_add, Int.mul_assoc]
      congr 1
      rw [← Int.mul_assoc, ← Int.mul_assoc, Int.mul_comm (256 ^ j) x]
    have e2 : (256 : Int) ^ (i + j) * (l.getD (i + j) 0 + c + x * b.getD j 0) = 256 ^ (i + j) * (r + 256 * q) := by rw [e]
    simp only [Int.mul_add, Int.mul_sub] at e2 h5 ⊢
    rw [e1] at e2
    rw [Int.mul_assoc]
    omega
theorem pV {a : List Int} (d : Dg a) (n : Nat) : nv (a.take n) < 256 ^ n := by
  have h := wz (d.take n)
  have : (256 : Int) ^ (a.take n).length ≤ 256 ^ n := kT (by rw [List.length_take]; exact Nat.min_le_left n a.length)
  omega
theorem MU (x : Int) (b : List Int) (i : Nat) (o : List Int) : qY x b i o ≤ b.length + 1 ∧ b.length ≤ qY x b i o := by unfold qY; split <;> omega
theorem MV {a b o : List Int} (da : Dg a) (db : Dg b) {i : Nat} (hi : i < a.length) (h1 : o.length = a.length + b.length + 1) (h2 : Dg o) (h3 : nv o = nv (a.take i) * nv b) :
    (tR (a.getD i 0) b i o (qY (a.getD i 0) b i o)).1.length = o.length ∧ Dg (tR (a.getD i 0) b i o (qY (a.getD i 0) b i o)).1 ∧ (tR (a.getD i 0) b i o (qY (a.getD i 0) b i o)).2 = 0 ∧ nv (tR (a.getD i 0) b i o (qY (a.getD i 0) b i o)).1 = nv (a.take (i + 1)) * nv b := by
  have hb := MU (a.getD i 0) b i o
  obtain ⟨g1, g2, g3, g4, g5⟩ := MT (i := i) (da.getD i) db h2 (by omega) (qY (a.getD i 0) b i o) hb.1
  rw [List.take_of_length_le hb.2, h3] at g5
  have hv : nv (a.take i) * nv b + 256 ^ i * (a.getD i 0 * nv b) = nv (a.take (i + 1)) * nv b := by rw [gq, Int.add_mul, Int.mul_assoc]
  rw [hv] at g5
  have hc : (tR (a.getD i 0) b i o (qY (a.getD i 0) b i o)).2 = 0 := by
    by_cases q : 0 < (tR (a.getD i 0) b i o b.length).2
    · have hn : qY (a.getD i 0) b i o = b.length + 1 := by unfold qY; rw [if_pos q]
      rw [hn] at g2 g3 g5 ⊢
      have m1 := pV da (i + 1)
      have m2 := wz db
      have m4 := ep db
      have m5 : nv (a.take (i + 1)) * nv b < 256 ^ (i + (b.length + 1)) := by
        rw [show i + (b.length + 1) = (i + 1) + b.length by omega, Int.pow_add]
        exact Int.mul_lt_mul' (Int.le_of_lt m1) m2 m4 (me _)
      have m6 := ep g2
      generalize (tR (a.getD i 0) b i o (b.length + 1)).2 = c at *
      apply Classical.byContradiction
      intro hc
      have : (256 : Int) ^ (i + (b.length + 1)) * 1 ≤ 256 ^ (i + (b.length + 1)) * c := Int.mul_le_mul_of_nonneg_left (by omega) (Int.le_of_lt (me _))
      omega
    · have hn : qY (a.getD i 0) b i o = b.length := by unfold qY; rw [if_neg q]
      rw [hn] at g3 ⊢
      omega
  rw [hc, Int.mul_zero, Int.add_zero] at g5
  exact ⟨g1, g2, hc, g5⟩
theorem Gh {a b : List Int} (da : Dg a) (db : Dg b) : ∀ i, i ≤ a.length → (tO a b i).length = a.length + b.length + 1 ∧ Dg (tO a b i) ∧ nv (tO a b i) = nv (a.take i) * nv b
  | 0, _ => ⟨by simp [tO], qX _, by rw [tO, wD]; simp [nv]⟩
  | i + 1, hi => by
    obtain ⟨h1, h2, h3⟩ := Gh da db i (by omega)
    obtain ⟨g1, g2, _, g4⟩ := MV da db (by omega) h1 h2 h3
    exact ⟨by rw [tO, g1, h1], g2, g4⟩
theorem zV {a b : List Int} (da : Dg a) (db : Dg b) : Dg (tj a b) ∧ nv (tj a b) = nv a * nv b := by
  obtain ⟨_, h2, h3⟩ := Gh da db a.length (Nat.le_refl _)
  rw [List.take_of_length_le (Nat.le_refl _)] at h3
  exact ⟨h2, h3⟩
theorem zW {a b : List Int} (da : Dg a) (db : Dg b) : (tj a b).length = a.length + b.length + 1 := (Gh da db a.length (Nat.le_refl _)).1
def MW (a : List Int) : List Int := a.take 16 ++ [a.getD 16 0 % 4]
def MX (a : List Int) (i : Nat) : Int := a.getD (16 + i) 0 / 4 + a.getD (17 + i) 0 % 4 * 64
def p7 (a : List Int) : List Int := (List.range (a.length - 16)).map (MX a)
def XL : List Int → List Int
  | [] => []
  | x :: l => (x / 4 + l.getD 0 0 % 4 * 64) :: XL l
theorem Gi : ∀ {l : List Int}, Dg l → Dg (XL l) ∧ nv (XL l) = nv l / 4
  | [], _ => ⟨Dg.nil, rfl⟩
  | x :: l, d => by
    obtain ⟨h1, h2⟩ := Gi (Dg.cons.1 d).2
    have hx := (Dg.cons.1 d).1
    have hy := (Dg.cons.1 d).2.getD 0
    refine ⟨Dg.cons.2 ⟨by omega, h1⟩, ?_⟩
    rw [XL, nv, nv, h2]
    have : nv l % 4 = l.getD 0 0 % 4 := by
      cases l with
      | nil => rfl
      | cons y l => rw [nv, List.getD_cons_zero]; omega
    omega
theorem x8 : ∀ (l : List Int), XL l = (List.range l.length).map fun i => l.getD i 0 / 4 + l.getD (i + 1) 0 % 4 * 64
  | [] => rfl
  | x :: l => by
    rw [XL, x8 l, List.length_cons, List.range_succ_eq_map, List.map_cons, List.map_map]
    rfl
theorem jf (l : List Int) (n i : Nat) : (l.drop n).getD i 0 = l.getD (n + i) 0 := by
  rw [List.getD_eq_getElem?_getD, List.getD_eq_getElem?_getD, List.getElem?_drop]
theorem XM (a : List Int) : p7 a = XL (a.drop 16) := by
  rw [x8, List.length_drop]
  unfold p7 MX
  refine List.map_congr_left fun i _ => ?_
  rw [jf, jf, show 16 + (i + 1) = 17 + i by omega]
def Uf (a : List Int) : Bool := decide (17 < a.length) || decide (a.length = 17 ∧ 3 < a.getD 16 0)
theorem wE : (256 : Int) ^ 16 = 340282366920938463463374607431768211456 := by decide
theorem Gj (l : List Int) : nv l = l.getD 0 0 + 256 * nv (l.drop 1) := by
  cases l with
  | nil => rfl
  | cons x l => rfl
theorem Gk {a : List Int} (d : Dg a) (t : Tm a) : Uf a = true ↔ 1361129467683753853853498429727072845824 ≤ nv a := by
  unfold Uf
  rw [Bool.or_eq_true, decide_eq_true_eq, decide_eq_true_eq]
  by_cases h : a.length ≤ 16
  · have := wz d
    have e : (256 : Int) ^ a.length ≤ 256 ^ 16 := kT h
    rw [wE] at e
    omega
  · have hs := nK a 16 (by omega)
    have h1 := pV d 16
    have h2 := ep (d.take 16)
    rw [wE] at hs h1
    have dd := d.drop 16
    have td : ∀ (n : Nat) {l : List Int}, Tm l → Tm (l.drop n) := fun n => by
      induction n with
      | zero => intro l h; exact h
      | succ n ih =>
        intro l h
        cases l with
        | nil => trivial
        | cons x l => exact ih h.tail
    have t16 := td 16 t
    have g0 := jf a 16 0
    have hlen : (a.drop 16).length = a.length - 16 := List.length_drop ..
    rw [Nat.add_zero] at g0
    generalize a.drop 16 = l at *
    match l, hlen with
    | [], hlen => simp at hlen; omega
    | [x], hlen =>
      simp only [nv, List.getD_cons_zero, List.length_cons, List.length_nil] at *
      omega
    | x :: y :: l, hlen =>
      have p := zT (Dg.cons.1 dd).2 t16.tail (by simp)
      have := (Dg.cons.1 dd).1
      rw [nv] at hs
      simp only [List.length_cons] at hlen
      omega
theorem Ug {a : List Int} (d : Dg a) (h : 16 < a.length) : Dg (MW a) ∧ Dg (p7 a) ∧ nv (MW a) = nv a % 1361129467683753853853498429727072845824 ∧ nv (p7 a) = nv a / 1361129467683753853853498429727072845824 := by
  have hs := nK a 16 (by omega)
  have h1 := pV d 16
  have h2 := ep (d.take 16)
  have dd := d.drop 16
  have hh := Gj (a.drop 16)
  have g0 := jf a 16 0
  rw [Nat.add_zero] at g0
  have n0 := ep dd
  have n1 := ep (dd.drop 1)
  have gb := d.getD 16
  obtain ⟨s1, s2⟩ := Gi dd
  rw [XM, s2]
  refine ⟨(d.take 16).app (Dg.cons.2 ⟨by omega, Dg.nil⟩), s1, ?_, ?_⟩
  · unfold MW
    rw [fP, List.length_take, Nat.min_eq_left (by omega)]
    simp only [nv, Int.mul_zero, Int.add_zero]
    rw [wE] at hs h1 ⊢
    omega
  · rw [wE] at hs h1
    omega
def Gl (v : Nat) : Nat := if h : v < 1361129467683753853853498429727072845824 then v else Gl (v % 1361129467683753853853498429727072845824 + 5 * (v / 1361129467683753853853498429727072845824))
termination_by v
decreasing_by omega
theorem MY (v : Nat) : Gl v < 1361129467683753853853498429727072845824 := by
  induction v using Nat.strongRecOn with
  | ind v ih =>
    rw [Gl]
    split
    · assumption
    · exact ih _ (by omega)
theorem Rx (v : Nat) : Gl v % 1361129467683753853853498429727072845819 = v % 1361129467683753853853498429727072845819 := by
  induction v using Nat.strongRecOn with
  | ind v ih =>
    rw [Gl]
    split
    · rfl
    · rw [ih _ (by omega)]
      omega
def xl (a : List Int) : List Int := mH (iN (MW a) (tj (p7 a) [5]))
theorem d5 : Dg [5] := Dg.cons.2 ⟨by decide, Dg.nil⟩
theorem XN {a : List Int} (d : Dg a) (h : 16 < a.length) : Dg (xl a) ∧ Tm (xl a) ∧ nv (xl a) = nv a % 1361129467683753853853498429727072845824 + 5 * (nv a / 1361129467683753853853498429727072845824) := by
  obtain ⟨h1, h2, h3, h4⟩ := Ug d h
  obtain ⟨t1, t2⟩ := zV h2 d5
  obtain ⟨p1, p2⟩ := sr h1 t1
  obtain ⟨q1, q2, q3⟩ := pT p1
  refine ⟨q1, q2, ?_⟩
  unfold xl
  rw [q3, p2, t2, h3, h4]
  simp only [nv]
  omega
noncomputable def MZ (v : Int) : List Int := @dite _ (∃ l, Dg l ∧ Tm l ∧ nv l = v) (Classical.propDecidable _) (fun h => Classical.choose h) (fun _ => [])
theorem M0 {l : List Int} (d : Dg l) (t : Tm l) : MZ (nv l) = l := by
  have h : ∃ m, Dg m ∧ Tm m ∧ nv m = nv l := ⟨l, d, t, rfl⟩
  unfold MZ
  rw [dif_pos h]
  obtain ⟨h1, h2, h3⟩ := Classical.choose_spec h
  exact MO h1 d h2 t h3
theorem Ry {l : List Int} (d : Dg l) : mH l = MZ (nv l) := by
  obtain ⟨h1, h2, h3⟩ := pT d
  rw [← h3, M0 h1 h2]
end Go.Proofs.YtibfpjeeanppjaaGreat.R4
end
section
namespace Go.Proofs.YtibfpjeeanppjaaGreat.R4
open Go Go.Sy Sh
abbrev J (n : Int) : Int := IntKind.i64.wrap n
theorem dY {n : Int} (h0 : 0 ≤ n) (h1 : n < 1000000000000000) : J n = n := wrap_i64 n (by omega) (by omega)
theorem cU {n : Int} (h : 0 ≤ n) (k : Int) : n.tmod k = n % k := Int.tmod_eq_emod_of_nonneg h
theorem ei {n : Int} (h : 0 ≤ n) (k : Int) : n.tdiv k = n / k := Int.tdiv_eq_ediv_of_nonneg h
def dL (l : List Int) : Bool := l.all fun z => decide (0 ≤ z) && decide (z < 256)
theorem aV {l : List Int} : dL l = true ↔ Dg l := by
  unfold dL Dg
  rw [List.all_eq_true]
  exact ⟨fun h z hz => by simpa using h z hz, fun h z hz => by simpa using h z hz⟩
theorem bh.ac4 {k : Nat} {t : List (Option SV)} {h : List Blk} {o o' : Bool} (i : Nat) (f : Bool) (K : IntKind) (hi : t[i]? = some (some (.nl (.slice none 0 0)))) :
    bh k ⟨t, h, o⟩ ⟨t.set i (some (.ro f K [])), h, o'⟩ := fun B e w t' _ hl R => ⟨e, rfl, ⟨by simpa using hl.1, fun j v v' a c => by
    rw [List.getElem?_set] at a
    split at a
    · rename_i q
      subst q
      split at a
      · simp only [Option.some.injEq] at a
        subst a
        have h1 : v' = .slice none 0 0 := hl.2 _ _ v' hi c
        exact .inl ⟨rfl, none, 0, h1, fun _ => rfl⟩
      · cases a
    · exact hl.2 j v v' a c⟩, R⟩
noncomputable def Rz : Code := aE Tryz.f159
noncomputable def wW (f : Nat → Option Bool) : br := mk (P := Tryz.prog) [] [] f
theorem cH (f : Nat → Option Bool) : ag Tryz.prog (wW f) := ah _ aq.nil _ _
noncomputable def IC (a b : List Int) (m : Nat) (l : List Int) (c i : Int) : St := ⟨slotsOf 54 [(0, .ro false .i64 a), (1, .ro false .i64 b), (5, .sl 0 0 0 1 m m false true), (6, .int .i64 c), (7, .int .i64 i)], [.b [.ints .i64 m l]], true⟩
noncomputable def ahn (a b : List Int) : St := ⟨slotsOf 54 [(0, .ro false .i64 a), (1, .ro false .i64 b), (5, .nl (.slice none 0 0)), (6, .int .i64 0), (7, .int .i64 0)], [], true⟩
def plA : Nat → Option Bool := fun i => if i = 12 || i = 29 || i = 39 || i = 50 then some true else none
def aho : Nat → Option Bool := fun i => if i = 12 || i = 29 || i = 50 then some true else if i = 39 then some false else none
def ahp : Nat → Option Bool := fun i => if i = 17 || i = 39 || i = 50 then some true else if i = 12 || i = 29 then some false else none
def plD : Nat → Option Bool := fun i => if i = 21 || i = 50 then some true else if i = 12 || i = 17 || i = 29 || i = 39 then some false else none
def plE : Nat → Option Bool := fun i => if i = 12 || i = 17 || i = 21 then some false else none
def dO (ob : Bool) (i : Int) (n : Nat) : Bool := aa (aa (aa ob (decide (i < n))) (cN i n)) (decide (i.toNat < n))
section
variable (a b l : List Int) (m : Nat) (c i : Int)
theorem RA : (aT Tryz.prog (wW plA) 60 0 4 (atoms Rz) ⟨aO Tryz.f159.ntmps [.ro false .i64 a, .ro false .i64 b], [], true⟩).bind (St.cut [0, 1, 5, 6, 7] 0) = some (ahn a b) := by kernel_rfl
theorem ahq : (exec Tryz.prog (wW plA) 60 0 (inner (inner (az 4 Rz))) (IC a b m l c i)).bind (fun r => (r.2.cut [0, 1, 5, 6, 7] 1).map fun q => (r.1, q)) =
    some (.normal, { IC a b (m + 1) (l ++ [(J (J (c + a.getD i.toNat 0) + b.getD i.toNat 0)).tmod 256]) (J ((J (J (c + a.getD i.toNat 0) + b.getD i.toNat 0)).tdiv 256)) (J (i + 1)) with ob := aa (dO (dO (aa true (decide (i < a.length))) i a.length) i b.length) (tD l.length m) }) := by kernel_rfl
theorem ac5 : (exec Tryz.prog (wW aho) 60 0 (inner (inner (az 4 Rz))) (IC a b m l c i)).bind (fun r => (r.2.cut [0, 1, 5, 6, 7] 1).map fun q => (r.1, q)) =
    some (.normal, { IC a b (m + 1) (l ++ [(J (c + a.getD i.toNat 0)).tmod 256]) (J ((J (c + a.getD i.toNat 0)).tdiv 256)) (J (i + 1)) with ob := aa (aa (dO (aa true (decide (i < a.length))) i a.length) (!decide (i < b.length))) (tD l.length m) }) := by kernel_rfl
theorem ac6 : (exec Tryz.prog (wW ahp) 60 0 (inner (inner (az 4 Rz))) (IC a b m l c i)).bind (fun r => (r.2.cut [0, 1, 5, 6, 7] 1).map fun q => (r.1, q)) =
    some (.normal, { IC a b (m + 1) (l ++ [(J (c + b.getD i.toNat 0)).tmod 256]) (J ((J (c + b.getD i.toNat 0)).tdiv 256)) (J (i + 1)) with ob := aa (dO (aa (aa (aa true (!decide (i < a.length))) (decide (i < b.length))) (!decide (i < a.length))) i b.length) (tD l.length m) }) := by kernel_rfl
theorem ahr : (exec Tryz.prog (wW plD) 60 0 (inner (inner (az 4 Rz))) (IC a b m l c i)).bind (fun r => (r.2.cut [0, 1, 5, 6, 7] 1).map fun q => (r.1, q)) =
    some (.normal, { IC a b (m + 1) (l ++ [c.tmod 256]) (J (c.tdiv 256)) (J (i + 1)) with ob := aa (aa (aa (aa (aa (aa true (!decide (i < a.length))) (!decide (i < b.length))) (decide (c > 0))) (!decide (i < a.length))) (!decide (i < b.length))) (tD l.length m) }) := by kernel_rfl
theorem ahs : (exec Tryz.prog (wW plE) 60 0 (inner (inner (az 4 Rz))) (IC a b m l c i)).bind (fun r => (r.2.cut [0, 1, 5, 6, 7] 1).map fun q => (r.1, q)) =
    some (.exit 0, { IC a b m l c i with ob := aa (aa (aa true (!decide (i < a.length))) (!decide (i < b.length))) (!decide (c > 0)) }) := by kernel_rfl
end
theorem mg {ob : Bool} {j n : Nat} (h1 : ob = true) (h : j < n) : dO ob j n = true := by
  unfold dO
  rw [h1, decide_eq_true (show (j : Int) < n by omega), aM (by omega) (by omega), decide_eq_true (show ((j : Int)).toNat < n by omega)]; rfl
theorem kU {l : List Int} {i : Nat} (h : l.length ≤ i) : l.getD i 0 = 0 := by rw [List.getD_eq_getElem?_getD, List.getElem?_eq_none h]; rfl
noncomputable def RB (a b : List Int) (j : Nat) : St := IC a b j ((List.range j).map (pd a b)) (cy a b j) j
theorem qZ {a b : List Int} {j : Nat} {x c i : Int} (hx : x = pd a b j) (hc : c = cy a b (j + 1)) (hi : i = ((j + 1 : Nat) : Int)) :
    bh 0 (IC a b (j + 1) ((List.range j).map (pd a b) ++ [x]) c i) (RB a b (j + 1)) := by
  subst hx hc hi
  refine bh.same rfl ?_
  show [Blk.b [SV.ints .i64 (j + 1) ((List.range j).map (pd a b) ++ [pd a b j])]] = [Blk.b [SV.ints .i64 (j + 1) ((List.range (j + 1)).map (pd a b))]]
  rw [List.range_succ, List.map_append]; rfl
theorem RC {a b : List Int} (da : Dg a) (db : Dg b) (ha : a.length < 1000000) (hb : b.length < 1000000) {j : Nat} (hj : j < iM a b) : Tr Tryz.prog none 0 (inner (inner (az 4 Rz))) (RB a b j) .normal (RB a b (j + 1)) := by
  have hl : ((List.range j).map (pd a b)).length = j := by simp
  have hm := (pU a b).2
  have hm' : zU a b = max a.length b.length := rfl
  have hc := MQ da db j
  have h1 := da.getD j
  have h2 := db.getD j
  have hJ : J ((j : Int) + 1) = ((j + 1 : Nat) : Int) := by rw [dY (by omega) (by omega)]; rfl
  have hap : tD ((List.range j).map (pd a b)).length j = true := by rw [hl]; exact cA (by omega)
  by_cases ia : j < a.length
  · by_cases ib : j < b.length
    · have e := ahq a b ((List.range j).map (pd a b)) j (cy a b j) j
      rw [Int.toNat_natCast, dY (n := cy a b j + a.getD j 0) (by omega) (by omega), dY (n := cy a b j + a.getD j 0 + b.getD j 0) (by omega) (by omega), cU (by omega), ei (by omega), dY (by omega) (by omega), hJ] at e
      refine Tr.post (Tr.cut (cH _) 60 _ 1 (by omega) e ?_) (qZ rfl rfl rfl)
      show aa _ _ = true
      rw [hap, mg (mg (by rw [decide_eq_true (show (j : Int) < a.length by omega)]; rfl) ia) ib]; rfl
    · have e := ac5 a b ((List.range j).map (pd a b)) j (cy a b j) j
      rw [Int.toNat_natCast, dY (n := cy a b j + a.getD j 0) (by omega) (by omega), cU (by omega), ei (by omega), dY (by omega) (by omega), hJ] at e
      have z := kU (l := b) (i := j) (by omega)
      refine Tr.post (Tr.cut (cH _) 60 _ 1 (by omega) e ?_) (qZ (by unfold pd; rw [z, Int.add_zero]) (by rw [cy, z, Int.add_zero]) rfl)
      show aa (aa _ _) _ = true
      rw [hap, mg (by rw [decide_eq_true (show (j : Int) < a.length by omega)]; rfl) ia, decide_eq_false (show ¬ (j : Int) < b.length by omega)]; rfl
  · have z := kU (l := a) (i := j) (by omega)
    by_cases ib : j < b.length
    · have e := ac6 a b ((List.range j).map (pd a b)) j (cy a b j) j
      rw [Int.toNat_natCast, dY (n := cy a b j + b.getD j 0) (by omega) (by omega), cU (by omega), ei (by omega), dY (by omega) (by omega), hJ] at e
      refine Tr.post (Tr.cut (cH _) 60 _ 1 (by omega) e ?_) (qZ (by unfold pd; rw [z, Int.add_zero]) (by rw [cy, z, Int.add_zero]) rfl)
      show aa _ _ = true
      rw [hap, mg (by rw [decide_eq_false (show ¬ (j : Int) < a.length by omega), decide_eq_true (show (j : Int) < b.length by omega)]; rfl) ib]; rfl
    · have z' := kU (l := b) (i := j) (by omega)
      have hp : 0 < cy a b j := by
        unfold iM at hj
        split at hj
        · rename_i q
          have : j = zU a b := by omega
          rw [this]; exact q
        · omega
      have e := ahr a b ((List.range j).map (pd a b)) j (cy a b j) j
      rw [cU (by omega), ei (by omega), dY (by omega) (by omega), hJ] at e
      refine Tr.post (Tr.cut (cH _) 60 _ 1 (by omega) e ?_) (qZ (by unfold pd; rw [z, z', Int.add_zero, Int.add_zero]) (by rw [cy, z, z', Int.add_zero, Int.add_zero]) rfl)
      show aa _ _ = true
      rw [hap, decide_eq_false (show ¬ (j : Int) < a.length by omega), decide_eq_false (show ¬ (j : Int) < b.length by omega), decide_eq_true (show cy a b j > 0 by omega)]; rfl
theorem Gm {a b : List Int} (da : Dg a) (db : Dg b) (ha : a.length < 1000000) (hb : b.length < 1000000) :
    ai Tryz.prog 159 [.ro false .i64 a, .ro false .i64 b] [] (.sl 0 0 0 1 (iM a b) (iM a b) false true) [.b [.ints .i64 (iM a b) (iN a b)]] := by
  have hm := pU a b
  have hm' : zU a b = max a.length b.length := rfl
  have bS : Tr Tryz.prog none 0 (az 4 Rz) (RB a b 0) .normal (RB a b (iM a b)) := by
    refine Tr.loop (P := Tryz.prog) (ro := none) (k := 0) 0 (c := az 4 Rz) (by kernel_rfl) (RB a b) (iM a b) (s' := RB a b (iM a b)) (fun j hj => RC da db ha hb hj) ?_
    have e := ahs a b ((List.range (iM a b)).map (pd a b)) (iM a b) (cy a b (iM a b)) (iM a b)
    rw [decide_eq_false (show ¬ ((iM a b : Nat) : Int) < a.length by omega), decide_eq_false (show ¬ ((iM a b : Nat) : Int) < b.length by omega), decide_eq_false (show ¬ cy a b (iM a b) > 0 by rw [MS da db]; decide)] at e
    exact Tr.cut (cH _) 60 _ 1 (by omega) e rfl
  refine ai.cz (cH plA) 60 5 1 Tryz.func159 (by simp) rfl (fun s' x h => ?_) (s := RB a b (iM a b)) (p := true) (by kernel_rfl) rfl rfl rfl
  refine aY.items (cH plA) 60 4 _ 0 (by simp) (RA a b) rfl (by decide) ?_
  exact aY.pre (s1 := RB a b 0) (aY.item 4 (by decide) bS h) ((bh.nothing 5 .i64 false true rfl).trans (bh.same rfl rfl)) (by decide)
theorem M1 {a b : List Int} (da : Dg a) (db : Dg b) (ha : a.length < 1000000) (hb : b.length < 1000000) :
    ai Tryz.prog 159 [.ro false .i64 a, .ro false .i64 b] [] (.ro true .i64 (iN a b)) [] :=
  ai.frozen (N := iM a b) (ex := false) (wh := true) (Gm da db ha hb) (jP a b)
def Uh : List SV → Option (SV × List Blk × Bool)
  | [.ro false .i64 a, .ro false .i64 b] => some (.sl 0 0 0 1 (iM a b) (iM a b) false true, [.b [.ints .i64 (iM a b) (iN a b)]], dL a && dL b && decide (a.length < 1000000) && decide (b.length < 1000000))
  | _ => none
noncomputable def ac7 : Entry Tryz.prog := .val 159 _ Tryz.func159 (by decide) rfl true 1 Uh fun vs v new e => by
  unfold Uh at e
  split at e
  · simp only [Option.some.injEq, Prod.mk.injEq, Bool.and_eq_true, decide_eq_true_eq, aV] at e
    obtain ⟨rfl, rfl, ⟨⟨h1, h2⟩, h3⟩, h4⟩ := e
    exact Gm h1 h2 h3 h4
  · cases e
def M3 : List SV → Option (SV × List Blk × Bool)
  | [.ro false .i64 a, .ro false .i64 b] => some (.ro true .i64 (iN a b), [], dL a && dL b && decide (a.length < 1000000) && decide (b.length < 1000000))
  | _ => none
noncomputable def M4 : Entry Tryz.prog := .val 159 _ Tryz.func159 (by decide) rfl true 0 M3 fun vs v new e => by
  unfold M3 at e
  split at e
  · simp only [Option.some.injEq, Prod.mk.injEq, Bool.and_eq_true, decide_eq_true_eq, aV] at e
    obtain ⟨rfl, rfl, ⟨⟨h1, h2⟩, h3⟩, h4⟩ := e
    exact M1 h1 h2 h3 h4
  · cases e
end Go.Proofs.YtibfpjeeanppjaaGreat.R4
end
section
namespace Go.Proofs.YtibfpjeeanppjaaGreat.R4
open Go Go.Sy Sh
noncomputable def tmB : Code := aE Tryz.f157
noncomputable def Ol (a : List Int) : St := ⟨slotsOf 21 [(0, .ro false .i64 a)], [], true⟩
def tmA : Nat → Option Bool := fun i => if i = 5 || i = 13 then some true else none
def tmF : Nat → Option Bool := fun i => if i = 5 then some true else if i = 13 then some false else none
def tmZ : Nat → Option Bool := fun i => if i = 5 then some false else none
def RD (a : List Int) : Int := J ((a.length : Int) - 1)
def tmO (a : List Int) : Bool := aa (aa (aa true (decide ((a.length : Int) > 0))) (cN (RD a) a.length)) (decide ((RD a).toNat < a.length))
section
variable (a : List Int)
theorem RE : (aT Tryz.prog (wW tmA) 60 0 1 (atoms tmB) ⟨aO Tryz.f157.ntmps [.ro false .i64 a], [], true⟩).bind (St.cut [0] 0) = some (Ol a) := by kernel_rfl
theorem XO : (exec Tryz.prog (wW tmA) 60 0 (inner (inner (az 1 tmB))) (Ol a)).bind (fun r => (r.2.cut [0] 0).map fun q => (r.1, q)) =
    some (.normal, { Ol (a.take (RD a).toNat) with ob := aa (aa (tmO a) (a.getD (RD a).toNat 0 == 0)) (aa true (decide (0 ≤ RD a) && decide (RD a ≤ (a.length : Int)))) }) := by kernel_rfl
theorem XP : (exec Tryz.prog (wW tmF) 60 0 (inner (inner (az 1 tmB))) (Ol a)).bind (fun r => (r.2.cut [0] 0).map fun q => (r.1, q)) =
    some (.exit 0, { Ol a with ob := aa (tmO a) (!(a.getD (RD a).toNat 0 == 0)) }) := by kernel_rfl
theorem RF : (exec Tryz.prog (wW tmZ) 60 0 (inner (inner (az 1 tmB))) (Ol a)).bind (fun r => (r.2.cut [0] 0).map fun q => (r.1, q)) =
    some (.exit 0, { Ol a with ob := aa true (!decide ((a.length : Int) > 0)) }) := by kernel_rfl
end
theorem Gn (a : List Int) : ∀ n, n ≤ a.length → a.length < 1000000 → iH Tryz.prog none 0 (inner (inner (az 1 tmB))) (Ol (a.take n)) (.exit 0) (Ol (a.take (B9 a n)))
  | 0, _, _ => by
    have e := RF (a.take 0)
    exact iH.leave (Tr.cut (k := 0) (cH tmZ) 60 _ 0 (Nat.le_refl _) e rfl) (by simp)
  | n + 1, h, hb => by
    have hl : (a.take (n + 1)).length = n + 1 := by rw [List.length_take]; omega
    have hI : RD (a.take (n + 1)) = (n : Int) := by unfold RD; rw [hl, dY (by omega) (by omega)]; omega
    have hO : tmO (a.take (n + 1)) = true := by
      unfold tmO
      rw [hI, hl, aM (by omega) (by omega), decide_eq_true (show (((n + 1 : Nat) : Int)) > 0 by omega), Int.toNat_natCast, decide_eq_true (show n < n + 1 by omega)]; rfl
    have hg : (a.take (n + 1)).getD n 0 = a.getD n 0 := sq a _ _ (by omega)
    by_cases q : a.getD n 0 = 0
    · have e := XO (a.take (n + 1))
      rw [hO, hI, hl, Int.toNat_natCast, hg, q, List.take_take, Nat.min_eq_left (by omega), decide_eq_true (show (0 : Int) ≤ n by omega), decide_eq_true (show (n : Int) ≤ ((n + 1 : Nat) : Int) by omega)] at e
      have ih := Gn a n (by omega) hb
      unfold B9
      rw [if_pos q]
      exact iH.step (Tr.cut (k := 0) (cH tmA) 60 _ 0 (Nat.le_refl _) e rfl) ih
    · have e := XP (a.take (n + 1))
      rw [hO, hI, Int.toNat_natCast, hg, beq_false_of_ne q] at e
      unfold B9
      rw [if_neg q]
      exact iH.leave (Tr.cut (k := 0) (cH tmF) 60 _ 0 (Nat.le_refl _) e rfl) (by simp)
theorem RG {a : List Int} (ha : a.length < 1000000) : ai Tryz.prog 157 [.ro false .i64 a] [] (.ro false .i64 (mH a)) [] := by
  have hl := Gn a a.length (Nat.le_refl _) ha
  rw [List.take_of_length_le (Nat.le_refl _)] at hl
  refine ai.cz (cH tmA) 60 2 0 Tryz.func157 (by simp) rfl (fun s' x h => ?_) (s := Ol (mH a)) (p := true) (by kernel_rfl) rfl rfl rfl
  refine aY.items (cH tmA) 60 1 _ 0 (by simp) (RE a) rfl (by decide) ?_
  exact aY.item 1 (by decide) (Tr.As 0 (by kernel_rfl) hl) h
def Ui : List SV → Option (SV × List Blk × Bool)
  | [.ro false .i64 a] => some (.ro false .i64 (mH a), [], decide (a.length < 1000000))
  | _ => none
noncomputable def Uj : Entry Tryz.prog := .val 157 _ Tryz.func157 (by decide) rfl false 0 Ui fun vs v new e => by
  unfold Ui at e
  split at e
  · simp only [Option.some.injEq, Prod.mk.injEq, decide_eq_true_eq] at e
    obtain ⟨rfl, rfl, h⟩ := e
    exact RG h
  · cases e
noncomputable def nuB : Code := aE Tryz.f155
def nuA (b : Bool) : Nat → Option Bool := fun i => if i = 8 then some b else if i = 18 then some true else none
noncomputable def Om (a : List Int) (m : Nat) (l : List Int) (i : Int) : St := ⟨slotsOf 20 [(0, .ro false .u8 a), (3, .sl 0 0 0 1 m m false true), (4, .int .i64 i)], [.b [.ints .i64 m l]], true⟩
noncomputable def aht (a : List Int) : St := ⟨slotsOf 20 [(0, .ro false .u8 a), (3, .nl (.slice none 0 0)), (4, .int .i64 0)], [], true⟩
section
variable (a l : List Int) (m : Nat) (i : Int)
theorem RH : (aT Tryz.prog (wW (nuA true)) 60 0 3 (atoms nuB) ⟨aO Tryz.f155.ntmps [.ro false .u8 a], [], true⟩).bind (St.cut [0, 3, 4] 0) = some (aht a) := by kernel_rfl
theorem XQ : (exec Tryz.prog (wW (nuA true)) 60 0 (inner (inner (az 3 nuB))) (Om a m l i)).bind (fun r => (r.2.cut [0, 3, 4] 1).map fun q => (r.1, q)) =
    some (.normal, { Om a (m + 1) (l ++ [J (a.getD i.toNat 0)]) (J (i + 1)) with ob := aa (dO true i a.length) (tD l.length m) }) := by kernel_rfl
theorem XR : (exec Tryz.prog (wW (nuA false)) 60 0 (inner (inner (az 3 nuB))) (Om a m l i)).bind (fun r => (r.2.cut [0, 3, 4] 1).map fun q => (r.1, q)) =
    some (.exit 0, { Om a m l i with ob := aa true (!decide (i < a.length)) }) := by kernel_rfl
end
theorem wH {a : List Int} {j : Nat} (h : j < a.length) : a.take (j + 1) = a.take j ++ [a.getD j 0] := by
  rw [List.take_add_one, List.getElem?_eq_getElem h, List.getD_eq_getElem?_getD, List.getElem?_eq_getElem h]; rfl
theorem Ea {a : List Int} (d : Dg a) (ha : a.length < 1000000) : ai Tryz.prog 155 [.ro false .u8 a] [] (.sl 0 0 0 1 a.length a.length false true) [.b [.ints .i64 a.length a]] := by
  have bS : Tr Tryz.prog none 0 (az 3 nuB) (Om a 0 [] 0) .normal (Om a a.length a a.length) := by
    have key := Tr.loop (P := Tryz.prog) (ro := none) (k := 0) 0 (c := az 3 nuB) (by kernel_rfl) (fun j : Nat => Om a j (a.take j) j) a.length (s' := Om a a.length a a.length) (fun j hj => ?_) ?_
    · exact key
    · have e := XQ a (a.take j) j j
      have hd := d.getD j
      have hl : (a.take j).length = j := by rw [List.length_take]; omega
      rw [hl, cA (by omega), mg rfl hj, Int.toNat_natCast, dY hd.1 (by omega), dY (n := (j : Int) + 1) (by omega) (by omega), ← wH hj] at e
      exact Tr.post (Tr.cut (cH _) 60 _ 1 (by omega) e rfl) (bh.same rfl rfl)
    · have e := XR a a a.length a.length
      rw [decide_eq_false (show ¬ ((a.length : Int) < a.length) by omega)] at e
      refine Tr.pre (Tr.cut (cH _) 60 _ 1 (by omega) e rfl) ?_
      rw [List.take_of_length_le (Nat.le_refl _)]
      exact bh.refl _ _
  refine ai.cz (cH (nuA true)) 60 4 1 Tryz.func155 (by simp) rfl (fun s' x h => ?_) (s := Om a a.length a a.length) (p := true) (by kernel_rfl) rfl rfl rfl
  refine aY.items (cH (nuA true)) 60 3 _ 0 (by simp) (RH a) rfl (by decide) ?_
  exact aY.pre (s1 := Om a 0 [] 0) (aY.item 3 (by decide) bS h) ((bh.nothing 3 .i64 false true rfl).trans (bh.same rfl rfl)) (by decide)
def Cd : List SV → Option (SV × List Blk × Bool)
  | [.ro false .u8 a] => some (.sl 0 0 0 1 a.length a.length false true, [.b [.ints .i64 a.length a]], dL a && decide (a.length < 1000000))
  | _ => none
noncomputable def M5 : Entry Tryz.prog := .val 155 _ Tryz.func155 (by decide) rfl true 1 Cd fun vs v new e => by
  unfold Cd at e
  split at e
  · simp only [Option.some.injEq, Prod.mk.injEq, Bool.and_eq_true, decide_eq_true_eq, aV] at e
    obtain ⟨rfl, rfl, h1, h2⟩ := e
    exact Ea h1 h2
  · cases e
end Go.Proofs.YtibfpjeeanppjaaGreat.R4
end
