/- This file holds the texts LaG, LaH, LaI, LaJ, LaK, a section each. No conditions beyond those in the theorems. -/
import Derived.Test.YtibfpjeeanppjaaGreatWLaF
import Derived.Test.YtibfpjeeanppjaaGreatWLaL
set_option linter.all false
section
namespace Go.Proofs.YtibfpjeeanppjaaGreat.La
open Go Go.Sy Re Fe
section
variable {n : Nat} [NeZero n]
theorem g_sum (x1 y1 x2 y2 d : Fin n) (h1 : y1 * y1 - x1 * x1 = 1 + d * x1 * x1 * y1 * y1) (h2 : y2 * y2 - x2 * x2 = 1 + d * x2 * x2 * y2 * y2) :
    ((1 - d * x1 * x2 * y1 * y2) + (y1 * y2 + x1 * x2)) * ((1 + d * x1 * x2 * y1 * y2) + (y1 * y2 - x1 * x2)) * ((y2 - y1) * (y2 - y1)) =
    ((1 - d * x1 * x2 * y1 * y2) - (y1 * y2 + x1 * x2)) * ((1 + d * x1 * x2 * y1 * y2) - (y1 * y2 - x1 * x2)) * ((y1 + y2) * (y1 + y2)) := by grobner
theorem g_dbl (x y d k : Fin n) (h : y * y - x * x = 1 + d * x * x * y * y) (hd : d * (k + 1) = 0 - k) :
    ((1 - d * x * x * y * y) + (y * y + x * x)) * ((1 - y * y) * (1 + k * (1 - y * y))) = ((1 - d * x * x * y * y) - (y * y + x * x)) * (y * y) := by grobner
end
end Go.Proofs.YtibfpjeeanppjaaGreat.La
end
section
namespace Go.Proofs.YtibfpjeeanppjaaGreat.La
open Go Go.Sy Re Fe
def dN : Nat := 37095705934669439343138083508754565189542113879843219016388785533085940283555
def PH : Nat := 28948022309329048855892746252171976963317496166410141009864396001978282409974
theorem dN_pow : dN ^ PH % PN = PF := by
  rw [pg_eq PN dN (show PH < 2 ^ 256 by decide)]
  decide +kernel
theorem PH_eq : 2 * PH = PF := by decide
theorem dN_no {m : Nat} (h : m * m % PN = dN) : False := by
  have hp := certP.2.1
  have h0 : 0 < m % PN := by
    rcases Nat.eq_zero_or_pos (m % PN) with hz | hz
    · rw [Nat.mul_mod, hz, Nat.mul_zero, Nat.zero_mod] at h
      exact absurd h (by decide)
    · exact hz
  have h1 := fermat h0 (Nat.mod_lt _ (by omega))
  rw [← PH_eq, Nat.pow_mul, Nat.pow_mod, show (m % PN) ^ 2 = m % PN * (m % PN) from Nat.pow_two _, ← Nat.mul_mod, h, dN_pow] at h1
  exact absurd h1 (by decide)
def dV : Int := 37095705934669439343138083508754565189542113879843219016388785533085940283555
def dP : Fp := ph dV
theorem dP_no (s : Fp) : s * s ≠ dP := fun h => by
  have h1 : s.val * s.val % PN = dP.val := congrArg Fin.val h
  exact dN_no (h1.trans (by decide))
def iP : Fp := ph 19681161376707505956807079304988542015446066515923890162744021073123829784752
theorem iP_sq : iP * iP = -1 := by decide
theorem two_ne : (2 : Fp) ≠ 0 := by decide
theorem id_sq {n : Nat} [NeZero n] (x1 y1 x2 y2 i d e : Fin n) (hi : i * i = -1) (h1 : y1 * y1 - x1 * x1 = 1 + d * x1 * x1 * y1 * y1) (h2 : y2 * y2 - x2 * x2 = 1 + d * x2 * x2 * y2 * y2) (he : e * e = 1) (h : d * x1 * x2 * y1 * y2 = e) :
  (i * x1 + e * y1) * (i * x1 + e * y1) = d * ((x1 * y1 * (i * x2 + y2)) * (x1 * y1 * (i * x2 + y2))) ∧ (i * x1 - e * y1) * (i * x1 - e * y1) = d * ((x1 * y1 * (i * x2 - y2)) * (x1 * y1 * (i * x2 - y2))) := by
  constructor <;> grobner
theorem id_clos {n : Nat} [NeZero n] (x1 y1 x2 y2 d u v : Fin n) (h1 : y1 * y1 - x1 * x1 = 1 + d * x1 * x1 * y1 * y1) (h2 : y2 * y2 - x2 * x2 = 1 + d * x2 * x2 * y2 * y2)
  (hu : (1 + d * x1 * x2 * y1 * y2) * u = 1) (hv : (1 - d * x1 * x2 * y1 * y2) * v = 1) :
  ((y1 * y2 + x1 * x2) * v) * ((y1 * y2 + x1 * x2) * v) - ((x1 * y2 + y1 * x2) * u) * ((x1 * y2 + y1 * x2) * u) = 1 + d * ((x1 * y2 + y1 * x2) * u) * ((x1 * y2 + y1 * x2) * u) * ((y1 * y2 + x1 * x2) * v) * ((y1 * y2 + x1 * x2) * v) := by
  grobner
theorem id_assX {n : Nat} [NeZero n] (x1 y1 x2 y2 x3 y3 d : Fin n)
  (h1 : y1 * y1 - x1 * x1 = 1 + d * x1 * x1 * y1 * y1) (h2 : y2 * y2 - x2 * x2 = 1 + d * x2 * x2 * y2 * y2) (h3 : y3 * y3 - x3 * x3 = 1 + d * x3 * x3 * y3 * y3) :
  ((x1 * y2 + y1 * x2) * (1 - d * x1 * x2 * y1 * y2) * y3 + (y1 * y2 + x1 * x2) * (1 + d * x1 * x2 * y1 * y2) * x3) *
   ((1 - d * x3 * x2 * y3 * y2) * (1 + d * x3 * x2 * y3 * y2) + d * (x3 * y2 + y3 * x2) * (y3 * y2 + x3 * x2) * x1 * y1)
  = ((x3 * y2 + y3 * x2) * (1 - d * x3 * x2 * y3 * y2) * y1 + (y3 * y2 + x3 * x2) * (1 + d * x3 * x2 * y3 * y2) * x1) *
   ((1 - d * x1 * x2 * y1 * y2) * (1 + d * x1 * x2 * y1 * y2) + d * (x1 * y2 + y1 * x2) * (y1 * y2 + x1 * x2) * x3 * y3) := by
  grobner (ringSteps := 100000)
theorem id_assY {n : Nat} [NeZero n] (x1 y1 x2 y2 x3 y3 d : Fin n)
  (h1 : y1 * y1 - x1 * x1 = 1 + d * x1 * x1 * y1 * y1) (h2 : y2 * y2 - x2 * x2 = 1 + d * x2 * x2 * y2 * y2) (h3 : y3 * y3 - x3 * x3 = 1 + d * x3 * x3 * y3 * y3) :
  ((y1 * y2 + x1 * x2) * (1 + d * x1 * x2 * y1 * y2) * y3 + (x1 * y2 + y1 * x2) * (1 - d * x1 * x2 * y1 * y2) * x3) *
   ((1 - d * x3 * x2 * y3 * y2) * (1 + d * x3 * x2 * y3 * y2) - d * (x3 * y2 + y3 * x2) * (y3 * y2 + x3 * x2) * x1 * y1)
  = ((y3 * y2 + x3 * x2) * (1 + d * x3 * x2 * y3 * y2) * y1 + (x3 * y2 + y3 * x2) * (1 - d * x3 * x2 * y3 * y2) * x1) *
   ((1 - d * x1 * x2 * y1 * y2) * (1 + d * x1 * x2 * y1 * y2) - d * (x1 * y2 + y1 * x2) * (y1 * y2 + x1 * x2) * x3 * y3) := by
  grobner (ringSteps := 100000)
theorem id_divX {n : Nat} [NeZero n] (X x3 Y y3 d k n12 m12 p m u v : Fin n) (hu : p * u = 1) (hv : m * v = 1) (hX : X = n12 * u) (hY : Y = m12 * v) (hk : (1 + d * X * x3 * Y * y3) * k = 1) :
  ((X * y3 + Y * x3) * k) * (m * p + d * n12 * m12 * x3 * y3) = (n12 * m * y3 + m12 * p * x3) ∧ (m * p + d * n12 * m12 * x3 * y3) * (k * u * v) = 1 := by
  constructor <;> grobner
theorem id_divY {n : Nat} [NeZero n] (X x3 Y y3 d k n12 m12 p m u v : Fin n) (hu : p * u = 1) (hv : m * v = 1) (hX : X = n12 * u) (hY : Y = m12 * v) (hk : (1 - d * X * x3 * Y * y3) * k = 1) :
  ((Y * y3 + X * x3) * k) * (m * p - d * n12 * m12 * x3 * y3) = (m12 * p * y3 + n12 * m * x3) ∧ (m * p - d * n12 * m12 * x3 * y3) * (k * u * v) = 1 := by
  constructor <;> grobner
theorem id_frac {n : Nat} [NeZero n] (L R P Q S T q s : Fin n) (h1 : L * Q = P) (h2 : R * S = T) (h3 : P * S = T * Q) (h4 : Q * q = 1) (h5 : S * s = 1) : L = R := by
  grobner
theorem id_sqno {n : Nat} [NeZero n] (a b c d : Fin n) (h : a * a = d * (b * b)) (h1 : b * c = 1) : a * c * (a * c) = d := by grobner
theorem id_cc {n : Nat} [NeZero n] (d a b c e : Fin n) (h : a = 0 ∨ b = 0 ∨ c = 0 ∨ e = 0) : d * a * b * c * e = 0 := by
  rcases h with h | h | h | h <;> subst h <;> grobner
theorem id_two {n : Nat} [NeZero n] (a b : Fin n) (h : a + b = 0) (h2 : a - b = 0) : 2 * b = 0 := by grobner
theorem id_m1 {n : Nat} [NeZero n] (a : Fin n) (h : 1 + a = 0) : a = -1 := by grobner
theorem id_p1 {n : Nat} [NeZero n] (a : Fin n) (h : 1 - a = 0) : a = 1 := by grobner
theorem id_neg {n : Nat} [NeZero n] (x y d : Fin n) (h : y * y - x * x = 1 + d * x * x * y * y) : y * y - (0 - x) * (0 - x) = 1 + d * (0 - x) * (0 - x) * y * y := by grobner
theorem id_comm {n : Nat} [NeZero n] (d a b c e : Fin n) : d * a * b * c * e = d * b * a * e * c := by grobner
theorem id_commX {n : Nat} [NeZero n] (a b c e v : Fin n) : (a * e + c * b) * v = (b * c + e * a) * v := by grobner
theorem id_commY {n : Nat} [NeZero n] (a b c e v : Fin n) : (a * b + c * e) * v = (b * a + e * c) * v := by grobner
theorem id_z0 {n : Nat} [NeZero n] (d a b : Fin n) : d * a * 0 * b * 1 = 0 := by grobner
theorem id_z1 {n : Nat} [NeZero n] (a b : Fin n) : (a * 1 + b * 0) * 1 = a := by grobner
theorem id_n0 {n : Nat} [NeZero n] (d x y : Fin n) (h : y * y - x * x = 1 + d * x * x * y * y) : 1 - d * x * (0 - x) * y * y = y * y - x * x := by grobner
theorem id_n1 {n : Nat} [NeZero n] (x y v : Fin n) : (x * y + y * (0 - x)) * v = 0 := by grobner
theorem id_n2 {n : Nat} [NeZero n] (x y v : Fin n) (h : (y * y - x * x) * v = 1) : (y * y + x * (0 - x)) * v = 1 := by grobner
theorem id_mul1 {n : Nat} [NeZero n] (a : Fin n) (h : 1 * a = 1) : a = 1 := by grobner
abbrev Pt := Fp × Fp
def On (A : Pt) : Prop := A.2 * A.2 - A.1 * A.1 = 1 + dP * A.1 * A.1 * A.2 * A.2
def cc (A B : Pt) : Fp := dP * A.1 * B.1 * A.2 * B.2
def addA (A B : Pt) : Pt := ((A.1 * B.2 + A.2 * B.1) * fi (1 + cc A B), (A.2 * B.2 + A.1 * B.1) * fi (1 - cc A B))
def negA (A : Pt) : Pt := (0 - A.1, A.2)
def zeroA : Pt := (0, 1)
theorem sq_no {a b : Fp} (h : a * a = dP * (b * b)) : b = 0 := by
  refine Classical.byContradiction fun hb => ?_
  have h1 := fi_mul hb
  refine dP_no (a * fi b) ?_
  exact id_sqno a b (fi b) dP h h1
theorem noz2 {a b : Fp} (ha : a ≠ 0) (hb : b ≠ 0) : a * b ≠ 0 := fun h => (fp_noz h).elim ha hb
theorem cc_ne {A B : Pt} (hA : On A) (hB : On B) {e : Fp} (he : e * e = 1) (h : cc A B = e) : False := by
  obtain ⟨k1, k2⟩ := id_sq A.1 A.2 B.1 B.2 iP dP e iP_sq hA hB he h
  have e0 : e ≠ 0 := fun q => by rw [q] at he; exact absurd he (by decide)
  have x1 : A.1 ≠ 0 := fun q => e0 (by rw [← h]; exact id_cc _ _ _ _ _ (.inl q))
  have y1 : A.2 ≠ 0 := fun q => e0 (by rw [← h]; exact id_cc _ _ _ _ _ (.inr (.inr (.inl q))))
  have y2 : B.2 ≠ 0 := fun q => e0 (by rw [← h]; exact id_cc _ _ _ _ _ (.inr (.inr (.inr q))))
  have m1 : iP * B.1 + B.2 = 0 := (fp_noz (sq_no k1)).elim (fun q => absurd q (noz2 x1 y1)) id
  have m2 : iP * B.1 - B.2 = 0 := (fp_noz (sq_no k2)).elim (fun q => absurd q (noz2 x1 y1)) id
  have : 2 * B.2 = 0 := id_two _ _ m1 m2
  exact (fp_noz this).elim two_ne y2
theorem cc_p {A B : Pt} (hA : On A) (hB : On B) : 1 + cc A B ≠ 0 := fun h => cc_ne hA hB (e := -1) (by decide) (id_m1 _ h)
theorem cc_m {A B : Pt} (hA : On A) (hB : On B) : 1 - cc A B ≠ 0 := fun h => cc_ne hA hB (e := 1) (by decide) (id_p1 _ h)
theorem add_on {A B : Pt} (hA : On A) (hB : On B) : On (addA A B) :=
  id_clos A.1 A.2 B.1 B.2 dP (fi (1 + cc A B)) (fi (1 - cc A B)) hA hB (fi_mul (cc_p hA hB)) (fi_mul (cc_m hA hB))
theorem neg_on {A : Pt} (hA : On A) : On (negA A) := by
  exact id_neg A.1 A.2 dP hA
theorem zero_on : On zeroA := by unfold On zeroA; decide
theorem cc_comm (A B : Pt) : cc A B = cc B A := id_comm dP A.1 B.1 A.2 B.2
theorem add_commA (A B : Pt) : addA A B = addA B A := by
  unfold addA
  rw [cc_comm A B]
  refine Prod.ext ?_ ?_
  · exact id_commX A.1 B.1 A.2 B.2 _
  · exact id_commY A.2 B.2 A.1 B.1 _
theorem fi_one : fi 1 = 1 := id_mul1 _ (fi_mul (a := 1) (by decide))
theorem add_zeroA (A : Pt) : addA A zeroA = A := by
  have h : cc A zeroA = 0 := id_z0 dP A.1 A.2
  unfold addA
  rw [h, show (1 : Fp) + 0 = 1 by decide, show (1 : Fp) - 0 = 1 by decide, fi_one]
  refine Prod.ext ?_ ?_
  · exact id_z1 A.1 A.2
  · exact id_z1 A.2 A.1
theorem zero_addA (A : Pt) : addA zeroA A = A := by rw [add_commA, add_zeroA]
theorem add_negA {A : Pt} (hA : On A) : addA A (negA A) = zeroA := by
  have h := fi_mul (cc_m hA (neg_on hA))
  have e : 1 - cc A (negA A) = A.2 * A.2 - A.1 * A.1 := id_n0 dP A.1 A.2 hA
  unfold addA
  generalize fi (1 - cc A (negA A)) = v at *
  rw [e] at h
  refine Prod.ext ?_ ?_
  · exact id_n1 A.1 A.2 _
  · exact id_n2 A.1 A.2 _ h
theorem add_assocA {A B C : Pt} (hA : On A) (hB : On B) (hC : On C) : addA (addA A B) C = addA A (addA B C) := by
  have hu := fi_mul (cc_p hA hB)
  have hv := fi_mul (cc_m hA hB)
  have hr := fi_mul (cc_p hC hB)
  have hs := fi_mul (cc_m hC hB)
  have hAB := add_on hA hB
  have hCB := add_on hC hB
  have hk := fi_mul (cc_p hAB hC)
  have hk' := fi_mul (cc_m hAB hC)
  have hl := fi_mul (cc_p hCB hA)
  have hl' := fi_mul (cc_m hCB hA)
  rw [add_commA A (addA B C), add_commA B C]
  obtain ⟨a1, a2⟩ := id_divX (addA A B).1 C.1 (addA A B).2 C.2 dP (fi (1 + cc (addA A B) C)) (A.1 * B.2 + A.2 * B.1) (A.2 * B.2 + A.1 * B.1) (1 + cc A B) (1 - cc A B) _ _ hu hv rfl rfl hk
  obtain ⟨b1, b2⟩ := id_divX (addA C B).1 A.1 (addA C B).2 A.2 dP (fi (1 + cc (addA C B) A)) (C.1 * B.2 + C.2 * B.1) (C.2 * B.2 + C.1 * B.1) (1 + cc C B) (1 - cc C B) _ _ hr hs rfl rfl hl
  obtain ⟨c1, c2⟩ := id_divY (addA A B).1 C.1 (addA A B).2 C.2 dP (fi (1 - cc (addA A B) C)) (A.1 * B.2 + A.2 * B.1) (A.2 * B.2 + A.1 * B.1) (1 + cc A B) (1 - cc A B) _ _ hu hv rfl rfl hk'
  obtain ⟨d1, d2⟩ := id_divY (addA C B).1 A.1 (addA C B).2 A.2 dP (fi (1 - cc (addA C B) A)) (C.1 * B.2 + C.2 * B.1) (C.2 * B.2 + C.1 * B.1) (1 + cc C B) (1 - cc C B) _ _ hr hs rfl rfl hl'
  refine Prod.ext ?_ ?_
  · exact id_frac _ _ _ _ _ _ _ _ a1 b1 (id_assX A.1 A.2 B.1 B.2 C.1 C.2 dP hA hB hC) a2 b2
  · exact id_frac _ _ _ _ _ _ _ _ c1 d1 (id_assY A.1 A.2 B.1 B.2 C.1 C.2 dP hA hB hC) c2 d2
def mulA (P : Pt) : Nat → Pt
  | 0 => zeroA
  | n + 1 => addA (mulA P n) P
theorem mulA_succ (P : Pt) (n : Nat) : mulA P (n + 1) = addA (mulA P n) P := by rw [mulA]
theorem mul_on {P : Pt} (h : On P) : ∀ n, On (mulA P n)
  | 0 => zero_on
  | n + 1 => add_on (mul_on h n) h
theorem mul_addA {P : Pt} (h : On P) (m : Nat) : ∀ n, mulA P (m + n) = addA (mulA P m) (mulA P n)
  | 0 => (add_zeroA _).symm
  | n + 1 => by
    show addA (mulA P (m + n)) P = addA (mulA P m) (addA (mulA P n) P)
    rw [mul_addA h m n, add_assocA (mul_on h m) (mul_on h n) h]
theorem mul_zeroA : ∀ n, mulA zeroA n = zeroA
  | 0 => rfl
  | n + 1 => by rw [mulA, mul_zeroA n, add_zeroA]
theorem mul_mulA {P : Pt} (h : On P) (m : Nat) : ∀ n, mulA (mulA P m) n = mulA P (m * n)
  | 0 => rfl
  | n + 1 => by rw [mulA, mul_mulA h m n, Nat.mul_succ, mul_addA h]
theorem mul_oneA (P : Pt) : mulA P 1 = P := zero_addA P
end Go.Proofs.YtibfpjeeanppjaaGreat.La
end
section
namespace Go.Proofs.YtibfpjeeanppjaaGreat.La
theorem po1 : Prm 1224481 := Prm.trial 1105 (by decide +kernel)
theorem po2 : Prm 531581 := Prm.trial 728 (by decide +kernel)
theorem po3 : Prm 1257559732178653 := by
  have h := Cert.mk' (n := 1257559732178653) (b := 896025394887893) (F := 650910834461) (L := [1224481, 531581]) (by decide +kernel) (by
    intro l hl
    simp only [List.mem_cons, List.not_mem_nil, or_false] at hl
    rcases hl with rfl | rfl
    · exact po1
    · exact po2)
  exact h.1.prime h.2.1 (by rw [h.2.2.1]; decide)
theorem po4 : Prm 4434155615661930479 := by
  have h := Cert.mk' (n := 4434155615661930479) (b := 415787812636281767) (F := 1257559732178653) (L := [1257559732178653]) (by decide +kernel) (by
    intro l hl
    simp only [List.mem_cons, List.not_mem_nil, or_false] at hl
    subst hl
    exact po3)
  exact h.1.prime h.2.1 (by rw [h.2.2.1]; decide)
theorem po5 : Prm 172054593956031949258510691 := by
  have h := Cert.mk' (n := 172054593956031949258510691) (b := 81982237619807054769897707) (F := 4434155615661930479) (L := [4434155615661930479]) (by decide +kernel) (by
    intro l hl
    simp only [List.mem_cons, List.not_mem_nil, or_false] at hl
    subst hl
    exact po4)
  exact h.1.prime h.2.1 (by rw [h.2.2.1]; decide)
theorem po6 : Prm 19757330305831588566944191468367130476339 := by
  have h := Cert.mk' (n := 19757330305831588566944191468367130476339) (b := 9148758478138211201771971577098600188172) (F := 172054593956031949258510691) (L := [172054593956031949258510691]) (by decide +kernel) (by
    intro l hl
    simp only [List.mem_cons, List.not_mem_nil, or_false] at hl
    subst hl
    exact po5)
  exact h.1.prime h.2.1 (by rw [h.2.2.1]; decide)
theorem po7 : Prm 276602624281642239937218680557139826668747 := by
  have h := Cert.mk' (n := 276602624281642239937218680557139826668747) (b := 16384) (F := 19757330305831588566944191468367130476339) (L := [19757330305831588566944191468367130476339]) (by decide +kernel) (by
    intro l hl
    simp only [List.mem_cons, List.not_mem_nil, or_false] at hl
    subst hl
    exact po6)
  exact h.1.prime h.2.1 (by rw [h.2.2.1]; decide)
theorem poL : Prm 7237005577332262213973186563042994240857116359379907606001950938285454250989 := by
  have h := Cert.mk' (n := 7237005577332262213973186563042994240857116359379907606001950938285454250989) (b := 2975531125133123119648879457563281269120703404158613135195788908093573672641) (F := 276602624281642239937218680557139826668747) (L := [276602624281642239937218680557139826668747]) (by decide +kernel) (by
    intro l hl
    simp only [List.mem_cons, List.not_mem_nil, or_false] at hl
    subst hl
    exact po7)
  exact h.1.prime h.2.1 (by rw [h.2.2.1]; decide)
end Go.Proofs.YtibfpjeeanppjaaGreat.La
end
section
namespace Go.Proofs.YtibfpjeeanppjaaGreat.La
open Go Go.Sy Re Fe
section
variable {n : Nat} [NeZero n]
theorem j_fr (p q y h : Fin n) (hh : 2 * h = 1) (e : p * (1 - y) = q * (1 + y)) : p = (h * (p + q)) * (1 + y) ∧ q = (h * (p + q)) * (1 - y) := by constructor <;> grobner
theorem j_fz (p q y : Fin n) (e : p * (1 - y) = q * (1 + y)) (h : p + q = 0) : 2 * p = 0 ∧ 2 * q = 0 := by constructor <;> grobner
theorem j_sum (p q N M a b s d v w : Fin n) (hv : p * v = 1) (hw : q * w = 1) (hs : s * p = N) (hd : d * q = M) (g : (p + N) * (q + M) * a = (p - N) * (q - M) * b) : (1 + s) * (1 + d) * a = (1 - s) * (1 - d) * b := by
  subst hs hd
  have e1 : (1 + s) * (1 + d) * a = v * w * ((p + s * p) * (q + d * q) * a) := by grobner
  have e2 : (1 - s) * (1 - d) * b = v * w * ((p - s * p) * (q - d * q) * b) := by grobner
  rw [e1, e2, g]
theorem j_can (s d a b u k : Fin n) (g : (1 + s) * (1 + d) * a = (1 - s) * (1 - d) * b) (hu : u * (1 - d) = 1 + d) (hk : (1 - d) * k = 1) : (1 + s) * (u * a) = (1 - s) * b := by grobner
theorem j_ax (a b y1 y2 : Fin n) : ((b * (1 + y2) - b * (1 - y2)) * (a * (1 + y1) + a * (1 - y1)) + (b * (1 + y2) + b * (1 - y2)) * (a * (1 + y1) - a * (1 - y1))) * ((b * (1 + y2) - b * (1 - y2)) * (a * (1 + y1) + a * (1 - y1)) + (b * (1 + y2) + b * (1 - y2)) * (a * (1 + y1) - a * (1 - y1))) = (4 * a * b) * (4 * a * b) * ((y1 + y2) * (y1 + y2)) := by grobner
theorem j_az (a b y1 y2 u : Fin n) : u * (((b * (1 + y2) - b * (1 - y2)) * (a * (1 + y1) + a * (1 - y1)) - (b * (1 + y2) + b * (1 - y2)) * (a * (1 + y1) - a * (1 - y1))) * ((b * (1 + y2) - b * (1 - y2)) * (a * (1 + y1) + a * (1 - y1)) - (b * (1 + y2) + b * (1 - y2)) * (a * (1 + y1) - a * (1 - y1)))) = (4 * a * b) * (4 * a * b) * (u * ((y2 - y1) * (y2 - y1))) := by grobner
theorem j_dx (a y : Fin n) : ((a * (1 + y) + a * (1 - y)) * (a * (1 + y) + a * (1 - y))) * ((a * (1 + y) - a * (1 - y)) * (a * (1 + y) - a * (1 - y))) = (4 * a * a) * (4 * a * a) * (y * y) := by grobner
theorem j_dz (a y k : Fin n) : ((a * (1 + y) + a * (1 - y)) * (a * (1 + y) + a * (1 - y)) - (a * (1 + y) - a * (1 - y)) * (a * (1 + y) - a * (1 - y))) * ((a * (1 + y) + a * (1 - y)) * (a * (1 + y) + a * (1 - y)) + k * ((a * (1 + y) + a * (1 - y)) * (a * (1 + y) + a * (1 - y)) - (a * (1 + y) - a * (1 - y)) * (a * (1 + y) - a * (1 - y)))) = (4 * a * a) * (4 * a * a) * ((1 - y * y) * (1 + k * (1 - y * y))) := by grobner
theorem j_mul (c p q r s : Fin n) (h : p * q = r * s) : (c * s) * r = (c * q) * p := by grobner
theorem j_dbl (p N E b s v : Fin n) (hv : p * v = 1) (hs : s * p = N) (g : (p + N) * E = (p - N) * b) : (1 + s) * E = (1 - s) * b := by
  subst hs
  have e1 : (1 + s) * E = v * ((p + s * p) * E) := by grobner
  have e2 : (1 - s) * b = v * ((p - s * p) * b) := by grobner
  rw [e1, e2, g]
theorem j_y0 (y1 y2 : Fin n) (h1 : y1 + y2 = 0) (h2 : y2 - y1 = 0) : 2 * y1 = 0 ∧ 2 * y2 = 0 := by constructor <;> grobner
theorem j_d1 (x1 y1 x2 y2 d e : Fin n) (h1 : y1 * y1 - x1 * x1 = 1 + d * x1 * x1 * y1 * y1) (h2 : y2 * y2 - x2 * x2 = 1 + d * x2 * x2 * y2 * y2) (z1 : y1 = 0) (z2 : y2 = 0) (hd : e * (1 + d * x1 * x2 * y1 * y2) = y1 * y2 - x1 * x2) : (e - 1) * (e - (-1)) = 0 := by
  subst z1 z2; grobner
theorem j_sub (a b : Fin n) (h : a - b = 0) : a = b := by grobner
theorem j_e0 (y k : Fin n) (h : y = 0) (h1 : (1 - y * y) * (1 + k * (1 - y * y)) = 0) : 1 + k = 0 := by subst h; grobner
theorem j_sd (x1 y1 x2 y2 d e : Fin n) (h : e = (y2 * y1 + x2 * (0 - x1))) : e = y1 * y2 - x1 * x2 := by grobner
theorem j_cc (x1 y1 x2 y2 d : Fin n) : 1 - d * x2 * (0 - x1) * y2 * y1 = 1 + d * x1 * x2 * y1 * y2 := by grobner
theorem j_as (a p q : Fin n) (h : p * q = 1) : (a * q) * p = a := by grobner
theorem j_x0 (x y d : Fin n) (h : y * y - x * x = 1 + d * x * x * y * y) (hy : (y - 1) * (y - (-1)) = 0) : (x * x) * (1 + d) = 0 := by grobner
theorem j_1 (y : Fin n) (h : y = 1 ∨ y = -1) : (y - 1) * (y - (-1)) = 0 := by rcases h with h | h <;> subst h <;> grobner
theorem j_u (y k : Fin n) (hk : (1 - y) * k = 1) : (1 + y) * k * (1 - y) = 1 + y := by grobner
theorem j_n (y : Fin n) (h : 1 - y = 0) : y = 1 := by grobner
theorem j_p (y : Fin n) (h : 1 + y = 0) : y = -1 := by grobner
theorem j_sw (d a b c e s : Fin n) : (s * (1 - d * a * b * c * e) = c * e + a * b → s * (1 - d * b * a * e * c) = e * c + b * a) ∧ (s * (1 + d * a * b * c * e) = c * e - a * b → s * (1 + d * b * a * e * c) = e * c - b * a) := by
  constructor <;> intro h <;> grobner
theorem j_f (a x y f g : Fin n) (h : a * f = g) : a * x * f = x * g := by grobner
end
def Fr (X Z : Fp) (A : Pt) : Prop := ∃ a : Fp, a ≠ 0 ∧ X = a * (1 + A.2) ∧ Z = a * (1 - A.2)
def hP : Fp := ph 28948022309329048855892746252171976963317496166410141009864396001978282409975
theorem hP_two : 2 * hP = 1 := by decide
theorem hP_ne : hP ≠ 0 := by decide
theorem two0 {a : Fp} (h : 2 * a = 0) : a = 0 := (fp_noz h).elim (fun q => absurd q two_ne) id
theorem Fr.of {p q : Fp} {A : Pt} (hn : p = 0 → q = 0 → False) (e : p * (1 - A.2) = q * (1 + A.2)) : Fr p q A := by
  refine ⟨hP * (p + q), fun h => ?_, (j_fr p q A.2 hP hP_two e).1, (j_fr p q A.2 hP hP_two e).2⟩
  have h0 : p + q = 0 := (fp_noz h).elim (fun q => absurd q hP_ne) id
  obtain ⟨h1, h2⟩ := j_fz p q A.2 e h0
  exact hn (two0 h1) (two0 h2)
structure SD (A B : Pt) (s d : Fp) : Prop where
  s : s * (1 - dP * A.1 * B.1 * A.2 * B.2) = A.2 * B.2 + A.1 * B.1
  d : d * (1 + dP * A.1 * B.1 * A.2 * B.2) = A.2 * B.2 - A.1 * B.1
theorem SD.symm {A B : Pt} {s d : Fp} (h : SD A B s d) : SD B A s d := ⟨(j_sw dP A.1 B.1 A.2 B.2 s).1 h.s, (j_sw dP A.1 B.1 A.2 B.2 d).2 h.d⟩
theorem SD.of {A B : Pt} (hA : On A) (hB : On B) : SD A B (addA A B).2 (addA B (negA A)).2 := by
  refine ⟨?_, ?_⟩
  · exact j_as _ _ _ (fi_mul (cc_m hA hB))
  · have e : 1 - cc B (negA A) = 1 + dP * A.1 * B.1 * A.2 * B.2 := j_cc A.1 A.2 B.1 B.2 dP
    have h : (1 + dP * A.1 * B.1 * A.2 * B.2) * fi (1 + dP * A.1 * B.1 * A.2 * B.2) = 1 := fi_mul (cc_p hA hB)
    show (B.2 * A.2 + B.1 * (0 - A.1)) * fi (1 - cc B (negA A)) * _ = _
    rw [e, j_as _ _ _ h]
    exact j_sd A.1 A.2 B.1 B.2 dP _ rfl
theorem add_fr {X Z X' Z' u : Fp} {A B S : Pt} {d : Fp} (hA : On A) (hB : On B) (f : Fr X Z A) (f' : Fr X' Z' B) (h : SD A B S.2 d) (d1 : d ≠ 1) (d2 : d ≠ -1) (hu : u * (1 - d) = 1 + d) :
    Fr (((X' - Z') * (X + Z) + (X' + Z') * (X - Z)) * ((X' - Z') * (X + Z) + (X' + Z') * (X - Z))) (u * (((X' - Z') * (X + Z) - (X' + Z') * (X - Z)) * ((X' - Z') * (X + Z) - (X' + Z') * (X - Z)))) S := by
  obtain ⟨a, a0, rfl, rfl⟩ := f
  obtain ⟨b, b0, rfl, rfl⟩ := f'
  rw [j_ax, j_az]
  have c0 : (4 * a * b) * (4 * a * b) ≠ 0 := nz_mul (nz_mul (nz_mul four_ne a0) b0) (nz_mul (nz_mul four_ne a0) b0)
  have u0 : u ≠ 0 := fun q => d2 (j_p d (by rw [← hu, q]; grobner))
  have hk := fi_mul (a := 1 - d) fun q => d1 (j_n d q)
  have g := g_sum A.1 A.2 B.1 B.2 dP hA hB
  have key := j_can _ _ _ _ _ _ (j_sum _ _ _ _ _ _ S.2 d _ _ (fi_mul (cc_m hA hB)) (fi_mul (cc_p hA hB)) h.s h.d g) hu hk
  refine Fr.of (fun p q => ?_) ?_
  · have p1 : (A.2 + B.2) * (A.2 + B.2) = 0 := (fp_noz p).elim (fun q => absurd q c0) id
    have q1 : u * ((B.2 - A.2) * (B.2 - A.2)) = 0 := (fp_noz q).elim (fun q => absurd q c0) id
    have p2 : A.2 + B.2 = 0 := (fp_noz p1).elim id id
    have q2 : (B.2 - A.2) * (B.2 - A.2) = 0 := (fp_noz q1).elim (fun q => absurd q u0) id
    have q3 : B.2 - A.2 = 0 := (fp_noz q2).elim id id
    obtain ⟨y1, y2⟩ := j_y0 _ _ p2 q3
    have := j_d1 A.1 A.2 B.1 B.2 dP d hA hB (two0 y1) (two0 y2) h.d
    exact (fp_noz this).elim (fun q => d1 (j_sub _ _ q)) (fun q => d2 (j_sub _ _ q))
  · exact j_mul _ _ _ _ _ key
def kP : Fp := ph 121665
theorem kP_d : dP * (kP + 1) = 0 - kP := by decide
theorem kP_1 : 1 + kP ≠ 0 := by decide
theorem dbl_fr {X Z : Fp} {A : Pt} (hA : On A) (f : Fr X Z A) :
    Fr (((X + Z) * (X + Z)) * ((X - Z) * (X - Z))) (((X + Z) * (X + Z) - (X - Z) * (X - Z)) * ((X + Z) * (X + Z) + kP * ((X + Z) * (X + Z) - (X - Z) * (X - Z)))) (addA A A) := by
  obtain ⟨a, a0, rfl, rfl⟩ := f
  rw [j_dx, j_dz]
  have c0 : (4 * a * a) * (4 * a * a) ≠ 0 := nz_mul (nz_mul (nz_mul four_ne a0) a0) (nz_mul (nz_mul four_ne a0) a0)
  have h := SD.of hA hA
  have hv := fi_mul (cc_m hA hA)
  have e : (1 : Fp) - cc A A = 1 - dP * A.1 * A.1 * A.2 * A.2 := rfl
  have key := j_dbl _ _ _ _ _ _ hv h.s (g_dbl A.1 A.2 dP kP hA kP_d)
  refine Fr.of (fun p q => ?_) ?_
  · have p1 : A.2 * A.2 = 0 := (fp_noz p).elim (fun q => absurd q c0) id
    have q1 := (fp_noz q).elim (fun q => absurd q c0) id
    exact kP_1 (j_e0 _ _ ((fp_noz p1).elim id id) q1)
  · exact j_mul _ _ _ _ _ key
def num (bits : Nat → Bool) : Nat → Nat
  | 0 => 0
  | n + 1 => 2 * num bits n + (if bits n then 1 else 0)
theorem zero_fr : Fr 1 0 zeroA := ⟨hP, hP_ne, by decide, by decide⟩
theorem diff_mul {P : Pt} (hP : On P) (m : Nat) : addA (mulA P (m + 1)) (negA (mulA P m)) = P := by
  have hm := mul_on hP m
  rw [mulA_succ, add_commA (mulA P m) P, add_assocA hP hm (neg_on hm), add_negA hm, add_zeroA]
theorem lad_fr {P : Pt} {u : Int} (hP : On P) (h1 : P.2 ≠ 1) (h2 : P.2 ≠ -1) (hu : ph u * (1 - P.2) = 1 + P.2) (bits : Nat → Bool) :
    ∀ n, Fr (ph (run u bits (beg u) n).1) (ph (run u bits (beg u) n).2.1) (mulA P (num bits n)) ∧ Fr (ph (run u bits (beg u) n).2.2.1) (ph (run u bits (beg u) n).2.2.2) (mulA P (num bits n + 1))
  | 0 => by
    refine ⟨?_, ?_⟩
    · show Fr (ph 1) (ph 0) zeroA
      rw [ph_one, ph_zero]
      exact zero_fr
    · show Fr (ph u) (ph 1) (mulA P (0 + 1))
      rw [mul_oneA, ph_one]
      refine Fr.of (fun _ q => absurd q (by decide)) ?_
      rw [hu]; grobner
  | n + 1 => by
    obtain ⟨f0, f1⟩ := lad_fr hP h1 h2 hu bits n
    rw [run, num]
    generalize run u bits (beg u) n = s at *
    generalize num bits n = m at *
    have a0 := mul_on hP m
    have a1 := mul_on hP (m + 1)
    have sd := SD.of a0 a1
    rw [diff_mul hP m, ← mul_addA hP] at sd
    cases bits n with
    | true =>
      refine ⟨?_, ?_⟩
      · show Fr (ph (aX s.2.2.1 s.2.2.2 s.1 s.2.1)) (ph (aZ u s.2.2.1 s.2.2.2 s.1 s.2.1)) (mulA P (2 * m + 1))
        rw [p_aX, p_aZ, show 2 * m + 1 = m + (m + 1) by omega]
        exact add_fr a1 a0 f1 f0 sd.symm h1 h2 hu
      · show Fr (ph (dX s.2.2.1 s.2.2.2)) (ph (dZ s.2.2.1 s.2.2.2)) (mulA P (2 * m + 1 + 1))
        rw [p_dX, p_dZ, show 2 * m + 1 + 1 = (m + 1) + (m + 1) by omega, mul_addA hP]
        exact dbl_fr a1 f1
    | false =>
      refine ⟨?_, ?_⟩
      · show Fr (ph (dX s.1 s.2.1)) (ph (dZ s.1 s.2.1)) (mulA P (2 * m + 0))
        rw [p_dX, p_dZ, show 2 * m + 0 = m + m by omega, mul_addA hP]
        exact dbl_fr a0 f0
      · show Fr (ph (aX s.1 s.2.1 s.2.2.1 s.2.2.2)) (ph (aZ u s.1 s.2.1 s.2.2.1 s.2.2.2)) (mulA P (2 * m + 0 + 1))
        rw [p_aX, p_aZ, show 2 * m + 0 + 1 = m + (m + 1) by omega]
        exact add_fr a0 a1 f0 f1 sd h1 h2 hu
def uA (A : Pt) : Fp := (1 + A.2) * fi (1 - A.2)
theorem fin_fr {s : S4} {A : Pt} (f : Fr (ph s.1) (ph s.2.1) A) : ph (fin s) = uA A := by
  obtain ⟨a, a0, e1, e2⟩ := f
  unfold fin uA
  rw [ph_mm, ph_inv', e1, e2]
  exact j_f _ _ A.2 _ _ (fi_mul' a0)
theorem lad_uA {P : Pt} {u : Int} (hP : On P) (h1 : P.2 ≠ 1) (h2 : P.2 ≠ -1) (hu : ph u * (1 - P.2) = 1 + P.2) (sec : List Int) : ph (lad sec u) = uA (mulA P (num (fun j => bt (clL sec) (j + 1)) 255)) :=
  fin_fr (lad_fr hP h1 h2 hu _ 255).1
end Go.Proofs.YtibfpjeeanppjaaGreat.La
end
section
namespace Go.Proofs.YtibfpjeeanppjaaGreat.La
open Go Go.Sy Re Fe
def baseA : Pt := (ph 15112221349535400772501151409588531511454012693041857206046113283949847762202, ph 46316835694926478169428394003475163141307993866256225615783033603165251855960)
theorem base_on : On baseA := by unfold On baseA; decide
theorem base_1 : baseA.2 ≠ 1 := by decide
theorem base_2 : baseA.2 ≠ -1 := by decide
theorem base_u : ph 9 * (1 - baseA.2) = 1 + baseA.2 := by decide
def LN : Nat := 7237005577332262213973186563042994240857116359379907606001950938285454250989
theorem LN_prm : Prm LN := poL
def lb (j : Nat) : Bool := Nat.beq (LN / 2 ^ (252 - j) % 2) 1
theorem lb_num : num lb 253 = LN := by decide +kernel
theorem lb_run : (run 9 lb (beg 9) 253).2.1 = 0 := by decide +kernel
theorem dP_1 : 1 + dP ≠ 0 := by decide
theorem y_x0 {A : Pt} (hA : On A) (h : A.2 = 1 ∨ A.2 = -1) : A.1 = 0 := by
  have := j_x0 A.1 A.2 dP hA (j_1 _ h)
  exact (fp_noz ((fp_noz this).elim id fun q => absurd q dP_1)).elim id id
theorem order : mulA baseA LN = zeroA := by
  have h := (lad_fr base_on base_1 base_2 base_u lb 253).1
  rw [lb_num, lb_run, ph_zero] at h
  have hon := mul_on base_on LN
  generalize mulA baseA LN = A at h hon ⊢
  obtain ⟨a, a0, _, h⟩ := h
  have y1 : A.2 = 1 := j_n _ ((fp_noz h.symm).elim (fun q => absurd q a0) id)
  exact Prod.ext (y_x0 hon (.inl y1)) y1
theorem j_yy {n : Nat} [NeZero n] (y : Fin n) (h : (y - 1) * (y - (-1)) = 0) : (y * y + 0 * 0) * 1 = 1 := by grobner
theorem j_z {n : Nat} [NeZero n] (d y v : Fin n) : d * 0 * 0 * y * y = 0 ∧ (0 * y + y * 0) * v = 0 := by constructor <;> grobner
theorem y_two {A : Pt} (hA : On A) (h : A.2 = 1 ∨ A.2 = -1) : mulA A 2 = zeroA := by
  have hx := y_x0 hA h
  obtain ⟨x, y⟩ := A
  have hx : x = 0 := hx
  subst hx
  have hc : cc (0, y) (0, y) = 0 := (j_z dP y 0).1
  rw [show (2 : Nat) = 1 + 1 from rfl, mulA_succ, mul_oneA]
  unfold addA
  rw [hc, show (1 : Fp) - 0 = 1 by decide, fi_one]
  exact Prod.ext (j_z dP y _).2 (j_yy y (j_1 y h))
theorem mul_gcd {P : Pt} (hP : On P) (m n : Nat) : mulA P m = zeroA → mulA P n = zeroA → mulA P (Nat.gcd m n) = zeroA := by
  induction m, n using Nat.gcd.induction with
  | H0 n => intro _ h; rw [Nat.gcd_zero_left]; exact h
  | H1 m n _ ih =>
    intro h1 h2
    rw [Nat.gcd_rec]
    refine ih ?_ h1
    have e := mul_addA hP (m * (n / m)) (n % m)
    rw [Nat.div_add_mod, h2, ← mul_mulA hP, h1, mul_zeroA, zero_addA] at e
    exact e.symm
theorem ord_dvd {n : Nat} (h : mulA baseA n = zeroA) : LN ∣ n := by
  have hg := mul_gcd base_on LN n order h
  rcases LN_prm.dv _ (Nat.gcd_dvd_left LN n) with h1 | h1
  · rw [h1, mul_oneA] at hg
    exact absurd (congrArg Prod.snd hg) base_1
  · exact h1 ▸ Nat.gcd_dvd_right LN n
theorem Prm.euclid {p a b : Nat} (hp : Prm p) (h : p ∣ a * b) : p ∣ a ∨ p ∣ b := by
  rcases hp.dv (Nat.gcd p a) (Nat.gcd_dvd_left ..) with h1 | h1
  · exact .inr (Nat.Coprime.dvd_of_dvd_mul_left h1 h)
  · exact .inl (h1 ▸ Nat.gcd_dvd_right p a)
theorem pt_ne {k : Nat} (h : ¬ LN ∣ k * 2) : (mulA baseA k).2 ≠ 1 ∧ (mulA baseA k).2 ≠ -1 := by
  have key : ¬ ((mulA baseA k).2 = 1 ∨ (mulA baseA k).2 = -1) := fun q => h (ord_dvd (by rw [← mul_mulA base_on]; exact y_two (mul_on base_on k) q))
  exact ⟨fun q => key (.inl q), fun q => key (.inr q)⟩
noncomputable def sc (sec : List Int) : Nat := (val256 (clL sec)).toNat
theorem cl0_8 : ∀ n : Fin 256, andI .u8 ((n.val : Nat) : Int) 248 % 8 = 0 := by decide +kernel
theorem cl31_64 : ∀ n : Fin 256, 64 ≤ orI .u8 (andI .u8 ((n.val : Nat) : Int) 127) 64 := by decide +kernel
theorem pow32 : (256 : Int) ^ 32 = 115792089237316195423570985008687907853269984665640564039457584007913129639936 := by decide
theorem sc_val {sec : List Int} (h : keyOK sec = true) : val256 (clL sec) % 8 = 0 ∧ 28948022309329048855892746252171976963317496166410141009864396001978282409984 ≤ val256 (clL sec) ∧ val256 (clL sec) < 57896044618658097711785492504343953926634992332820282019728792003956564819968 := by
  obtain ⟨hn, hl⟩ := keyOK_iff.1 h
  obtain ⟨_, h2, h3, h4⟩ := cl_eq hl hn
  have e := digN_val _ h2
  rw [h3] at e
  have n0 := val256_nonneg h2
  have n1 := val256_lt h2
  rw [h3, pow32] at n1
  have g0 : (clL sec).getD 0 0 = andI .u8 (sec.getD 0 0) 248 := by
    unfold clL
    rw [List.getD_eq_getElem?_getD, List.getElem?_set_ne (by omega), List.getElem?_set_self (by omega)]; rfl
  have hg : (clL sec).getD 31 0 = orI .u8 (andI .u8 ((sec.set 0 (andI .u8 (sec.getD 0 0) 248)).getD 31 0) 127) 64 := by
    unfold clL
    rw [List.getD_eq_getElem?_getD, List.getElem?_set_self (by rw [List.length_set, hn]; omega)]; rfl
  have e0 := byte_fin (P := fun x => andI .u8 x 248 = IntKind.u8.wrap (IntKind.u8.wrap (x.tdiv 8) * 8) ∧ u8 (andI .u8 x 248) = true) cl0_eq (all_get hl 0)
  have hs := all_set hl 0 e0.2
  have b0 := byte_fin (P := fun x => andI .u8 x 248 % 8 = 0) cl0_8 (all_get hl 0)
  have b1 := byte_fin (P := fun x => 64 ≤ orI .u8 (andI .u8 x 127) 64) cl31_64 (all_get hs 31)
  rw [← g0] at b0
  rw [← hg] at b1
  generalize hV : val256 (clL sec) = V at *
  generalize clL sec = c at *
  rw [e, digN_getD 32 0 V (by omega)] at b0
  rw [e, digN_getD 32 31 V (by omega)] at b1
  rw [show (256 : Int) ^ 0 = 1 by decide] at b0
  rw [show (256 : Int) ^ 31 = 452312848583266388373324160190187140051835877600158453279131187530910662656 by decide] at b1
  rw [show (2 : Int) ^ 255 = 57896044618658097711785492504343953926634992332820282019728792003956564819968 by decide] at h4
  omega
theorem sc_form {sec : List Int} (h : keyOK sec = true) : ∃ k, sc sec = 8 * k ∧ 0 < k ∧ k < LN ∧ sc sec < 57896044618658097711785492504343953926634992332820282019728792003956564819968 ∧ ((sc sec : Nat) : Int) = val256 (clL sec) := by
  obtain ⟨h1, h2, h3⟩ := sc_val h
  unfold sc
  generalize val256 (clL sec) = V at *
  refine ⟨V.toNat / 8, ?_⟩
  unfold LN
  omega
theorem num_sc {sec : List Int} (h : keyOK sec = true) : ∀ j, j ≤ 255 → num (fun j => bt (clL sec) (j + 1)) j = sc sec / 2 ^ (255 - j)
  | 0, _ => by
    obtain ⟨k, _, _, _, k4, _⟩ := sc_form h
    rw [num, Nat.sub_zero, Nat.div_eq_of_lt (by rw [show (2 : Nat) ^ 255 = 57896044618658097711785492504343953926634992332820282019728792003956564819968 by decide]; exact k4)]
  | j + 1, hj => by
    obtain ⟨k, _, _, _, _, k5⟩ := sc_form h
    have ih := num_sc h j (by omega)
    rw [num, ih]
    have e1 : sc sec / 2 ^ (255 - j) = sc sec / 2 ^ (255 - (j + 1)) / 2 := by
      rw [Nat.div_div_eq_div_mul, show 255 - j = (255 - (j + 1)) + 1 by omega, Nat.pow_succ]
    have e2 : bt (clL sec) (j + 1) = decide (sc sec / 2 ^ (255 - (j + 1)) % 2 = 1) := by
      unfold bt
      rw [← k5]
      refine decide_eq_decide.2 ?_
      have e3 : ((sc sec : Nat) : Int) / 2 ^ (255 - (j + 1)) % 2 = ((sc sec / 2 ^ (255 - (j + 1)) % 2 : Nat) : Int) := by
        rw [Int.natCast_emod, Int.natCast_ediv, Int.natCast_pow]; rfl
      rw [e3]
      omega
    rw [e1, e2]
    generalize sc sec / 2 ^ (255 - (j + 1)) = x
    by_cases hx : x % 2 = 1
    · rw [decide_eq_true hx, if_pos rfl]; omega
    · rw [decide_eq_false hx, if_neg (by decide)]; omega
theorem lad_pt {P : Pt} {u : Int} (hP : On P) (h1 : P.2 ≠ 1) (h2 : P.2 ≠ -1) (hu : ph u * (1 - P.2) = 1 + P.2) {sec : List Int} (h : keyOK sec = true) : ph (lad sec u) = uA (mulA P (sc sec)) := by
  rw [lad_uA hP h1 h2 hu, num_sc h 255 (by omega), Nat.sub_self, Nat.pow_zero, Nat.div_one]
theorem no_dvd {a b : Nat} (ha : 0 < a ∧ a < LN) (hb : 0 < b ∧ b < LN) : ¬ LN ∣ 8 * a * (8 * b) * 2 := by
  intro h
  have lt : ∀ x, 0 < x → x < LN → ¬ LN ∣ x := fun x h0 h1 h2 => by
    have := Nat.le_of_dvd h0 h2
    omega
  rcases LN_prm.euclid h with h | h
  · rcases LN_prm.euclid h with h | h
    · rcases LN_prm.euclid h with h | h
      · exact lt 8 (by omega) (by decide) h
      · exact lt a ha.1 ha.2 h
    · rcases LN_prm.euclid h with h | h
      · exact lt 8 (by omega) (by decide) h
      · exact lt b hb.1 hb.2 h
  · exact lt 2 (by omega) (by decide) h
theorem no_dvd1 {a : Nat} (ha : 0 < a ∧ a < LN) : ¬ LN ∣ 8 * a * 2 := fun h => no_dvd ha (b := 1) (by decide) (by
  obtain ⟨k, hk⟩ := h
  exact ⟨k * 8, by rw [← Nat.mul_assoc LN k 8, ← hk]; omega⟩)
theorem uA_ne {A : Pt} (h1 : A.2 ≠ 1) (h2 : A.2 ≠ -1) : uA A ≠ 0 := fun h => by
  have hk := fi_mul (a := 1 - A.2) fun q => h1 (j_n _ q)
  rcases fp_noz h with q | q
  · exact h2 (j_p _ q)
  · rw [q] at hk
    exact absurd (show (0 : Fp) = 1 by rw [← hk]; generalize 1 - A.2 = w; grobner) (by decide)
theorem uA_u {A : Pt} (h1 : A.2 ≠ 1) : uA A * (1 - A.2) = 1 + A.2 := by
  exact j_u _ _ (fi_mul (a := 1 - A.2) fun q => h1 (j_n _ q))
theorem uP_ladW (sec : List Int) (n : Int) : uP (ladW sec n) = lad sec n := by
  obtain ⟨h0, h1⟩ := lad_range sec n
  have hP := Pm_eq
  unfold uP ladW
  rw [Lock_eq, val_digN 32 _ h0 (by rw [pow32]; omega), Int.emod_eq_of_lt h0 (by omega), Int.emod_eq_of_lt h0 h1]
theorem pub_pt {sec : List Int} (h : keyOK sec = true) : ph (lad sec 9) = uA (mulA baseA (sc sec)) := lad_pt base_on base_1 base_2 base_u h
theorem both_pt {s d : List Int} (hs : keyOK s = true) (hd : keyOK d = true) : ph (lad d (lad s 9)) = uA (mulA baseA (sc s * sc d)) ∧ (mulA baseA (sc s * sc d)).2 ≠ 1 ∧ (mulA baseA (sc s * sc d)).2 ≠ -1 := by
  obtain ⟨a, a1, a2, a3, _, _⟩ := sc_form hs
  obtain ⟨b, b1, b2, b3, _, _⟩ := sc_form hd
  obtain ⟨p1, p2⟩ := pt_ne (k := sc s) (by rw [a1]; exact no_dvd1 ⟨a2, a3⟩)
  refine ⟨?_, pt_ne (by rw [a1, b1]; exact no_dvd ⟨a2, a3⟩ ⟨b2, b3⟩)⟩
  rw [lad_pt (mul_on base_on (sc s)) p1 p2 (by rw [pub_pt hs]; exact uA_u p1) hd, mul_mulA base_on]
theorem ag_comm {s d : List Int} (hs : keyOK s = true) (hd : keyOK d = true) : agW d (ladW s 9) = agW s (ladW d 9) := by
  unfold agW
  rw [uP_ladW, uP_ladW]
  have e : lad d (lad s 9) = lad s (lad d 9) := ph_inj (lad_range _ _) (lad_range _ _) (by rw [(both_pt hs hd).1, (both_pt hd hs).1, Nat.mul_comm])
  unfold ladW
  rw [e]
theorem ag_no {s d : List Int} (hs : keyOK s = true) (hd : keyOK d = true) : agZ d (ladW s 9) = false := by
  unfold agZ
  refine decide_eq_false fun h => ?_
  obtain ⟨k1, k2, k3⟩ := both_pt hs hd
  obtain ⟨h0, h1⟩ := lad_range d (lad s 9)
  have hP := Pm_eq
  unfold agW at h
  rw [uP_ladW] at h
  unfold ladW at h
  rw [Lock_eq] at h
  have := congrArg val256 h
  rw [val_digN 32 _ h0 (by rw [pow32]; omega), show val256 k32 = 0 by decide] at this
  rw [this, ph_zero] at k1
  exact uA_ne k2 k3 k1.symm
end Go.Proofs.YtibfpjeeanppjaaGreat.La
end
