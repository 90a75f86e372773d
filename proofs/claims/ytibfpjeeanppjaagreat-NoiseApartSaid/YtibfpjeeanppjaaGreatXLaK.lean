/- This file holds the texts LaG, LaH, LaI, LaJ, LaK, a section each. No conditions beyond those in the theorems. -/
import Derived.Test.YtibfpjeeanppjaaGreatXLaF
import Derived.Test.YtibfpjeeanppjaaGreatXLaL
set_option linter.all false
section
namespace Go.Proofs.YtibfpjeeanppjaaGreat.La
open Go Go.Sy Re Fe
section
variable {n : Nat} [NeZero n]
theorem aaT (x1 y1 x2 y2 d : Fin n) (h1 : y1 * y1 - x1 * x1 = 1 + d * x1 * x1 * y1 * y1) (h2 : y2 * y2 - x2 * x2 = 1 + d * x2 * x2 * y2 * y2) :
    ((1 - d * x1 * x2 * y1 * y2) + (y1 * y2 + x1 * x2)) * ((1 + d * x1 * x2 * y1 * y2) + (y1 * y2 - x1 * x2)) * ((y2 - y1) * (y2 - y1)) =
    ((1 - d * x1 * x2 * y1 * y2) - (y1 * y2 + x1 * x2)) * ((1 + d * x1 * x2 * y1 * y2) - (y1 * y2 - x1 * x2)) * ((y1 + y2) * (y1 + y2)) := by grobner
theorem aaU (x y d k : Fin n) (h : y * y - x * x = 1 + d * x * x * y * y) (hd : d * (k + 1) = 0 - k) :
    ((1 - d * x * x * y * y) + (y * y + x * x)) * ((1 - y * y) * (1 + k * (1 - y * y))) = ((1 - d * x * x * y * y) - (y * y + x * x)) * (y * y) := by grobner
end
end Go.Proofs.YtibfpjeeanppjaaGreat.La
end
section
namespace Go.Proofs.YtibfpjeeanppjaaGreat.La
open Go Go.Sy Re Fe
def dN : Nat := 37095705934669439343138083508754565189542113879843219016388785533085940283555
def PH : Nat := 28948022309329048855892746252171976963317496166410141009864396001978282409974
theorem VX : dN ^ PH % PN = PF := by
  rw [Kb PN dN (show PH < 2 ^ 256 by decide)]
  decide +kernel
theorem aaV : 2 * PH = PF := by decide
theorem aaW {m : Nat} (h : m * m % PN = dN) : False := by
  have hp := mY.2.1
  have h0 : 0 < m % PN := by
    rcases Nat.eq_zero_or_pos (m % PN) with hz | hz
    · rw [Nat.mul_mod, hz, Nat.mul_zero, Nat.zero_mod] at h
      exact absurd h (by decide)
    · exact hz
  have h1 := Kc h0 (Nat.mod_lt _ (by omega))
  rw [← aaV, Nat.pow_mul, Nat.pow_mod, show (m % PN) ^ 2 = m % PN * (m % PN) from Nat.pow_two _, ← Nat.mul_mod, h, VX] at h1
  exact absurd h1 (by decide)
def dV : Int := 37095705934669439343138083508754565189542113879843219016388785533085940283555
def dP : Fp := ph dV
theorem aaX (s : Fp) : s * s ≠ dP := fun h => by
  have h1 : s.val * s.val % PN = dP.val := congrArg Fin.val h
  exact aaW (h1.trans (by decide))
def iP : Fp := ph 19681161376707505956807079304988542015446066515923890162744021073123829784752
theorem aaY : iP * iP = -1 := by decide
theorem Ke : (2 : Fp) ≠ 0 := by decide
theorem aaZ {n : Nat} [NeZero n] (x1 y1 x2 y2 i d e : Fin n) (hi : i * i = -1) (h1 : y1 * y1 - x1 * x1 = 1 + d * x1 * x1 * y1 * y1) (h2 : y2 * y2 - x2 * x2 = 1 + d * x2 * x2 * y2 * y2) (he : e * e = 1) (h : d * x1 * x2 * y1 * y2 = e) :
  (i * x1 + e * y1) * (i * x1 + e * y1) = d * ((x1 * y1 * (i * x2 + y2)) * (x1 * y1 * (i * x2 + y2))) ∧ (i * x1 - e * y1) * (i * x1 - e * y1) = d * ((x1 * y1 * (i * x2 - y2)) * (x1 * y1 * (i * x2 - y2))) := by
  constructor <;> grobner
theorem PJ {n : Nat} [NeZero n] (x1 y1 x2 y2 d u v : Fin n) (h1 : y1 * y1 - x1 * x1 = 1 + d * x1 * x1 * y1 * y1) (h2 : y2 * y2 - x2 * x2 = 1 + d * x2 * x2 * y2 * y2)
  (hu : (1 + d * x1 * x2 * y1 * y2) * u = 1) (hv : (1 - d * x1 * x2 * y1 * y2) * v = 1) :
  ((y1 * y2 + x1 * x2) * v) * ((y1 * y2 + x1 * x2) * v) - ((x1 * y2 + y1 * x2) * u) * ((x1 * y2 + y1 * x2) * u) = 1 + d * ((x1 * y2 + y1 * x2) * u) * ((x1 * y2 + y1 * x2) * u) * ((y1 * y2 + x1 * x2) * v) * ((y1 * y2 + x1 * x2) * v) := by
  grobner
theorem PK {n : Nat} [NeZero n] (x1 y1 x2 y2 x3 y3 d : Fin n)
  (h1 : y1 * y1 - x1 * x1 = 1 + d * x1 * x1 * y1 * y1) (h2 : y2 * y2 - x2 * x2 = 1 + d * x2 * x2 * y2 * y2) (h3 : y3 * y3 - x3 * x3 = 1 + d * x3 * x3 * y3 * y3) :
  ((x1 * y2 + y1 * x2) * (1 - d * x1 * x2 * y1 * y2) * y3 + (y1 * y2 + x1 * x2) * (1 + d * x1 * x2 * y1 * y2) * x3) *
   ((1 - d * x3 * x2 * y3 * y2) * (1 + d * x3 * x2 * y3 * y2) + d * (x3 * y2 + y3 * x2) * (y3 * y2 + x3 * x2) * x1 * y1)
  = ((x3 * y2 + y3 * x2) * (1 - d * x3 * x2 * y3 * y2) * y1 + (y3 * y2 + x3 * x2) * (1 + d * x3 * x2 * y3 * y2) * x1) *
   ((1 - d * x1 * x2 * y1 * y2) * (1 + d * x1 * x2 * y1 * y2) + d * (x1 * y2 + y1 * x2) * (y1 * y2 + x1 * x2) * x3 * y3) := by
  grobner (ringSteps := 100000)
theorem PM {n : Nat} [NeZero n] (x1 y1 x2 y2 x3 y3 d : Fin n)
  (h1 : y1 * y1 - x1 * x1 = 1 + d * x1 * x1 * y1 * y1) (h2 : y2 * y2 - x2 * x2 = 1 + d * x2 * x2 * y2 * y2) (h3 : y3 * y3 - x3 * x3 = 1 + d * x3 * x3 * y3 * y3) :
  ((y1 * y2 + x1 * x2) * (1 + d * x1 * x2 * y1 * y2) * y3 + (x1 * y2 + y1 * x2) * (1 - d * x1 * x2 * y1 * y2) * x3) *
   ((1 - d * x3 * x2 * y3 * y2) * (1 + d * x3 * x2 * y3 * y2) - d * (x3 * y2 + y3 * x2) * (y3 * y2 + x3 * x2) * x1 * y1)
  = ((y3 * y2 + x3 * x2) * (1 + d * x3 * x2 * y3 * y2) * y1 + (x3 * y2 + y3 * x2) * (1 - d * x3 * x2 * y3 * y2) * x1) *
   ((1 - d * x1 * x2 * y1 * y2) * (1 + d * x1 * x2 * y1 * y2) - d * (x1 * y2 + y1 * x2) * (y1 * y2 + x1 * x2) * x3 * y3) := by
  grobner (ringSteps := 100000)
theorem Fc {n : Nat} [NeZero n] (X x3 Y y3 d k G8 PO p m u v : Fin n) (hu : p * u = 1) (hv : m * v = 1) (hX : X = G8 * u) (hY : Y = PO * v) (hk : (1 + d * X * x3 * Y * y3) * k = 1) :
  ((X * y3 + Y * x3) * k) * (m * p + d * G8 * PO * x3 * y3) = (G8 * m * y3 + PO * p * x3) ∧ (m * p + d * G8 * PO * x3 * y3) * (k * u * v) = 1 := by
  constructor <;> grobner
theorem Ff {n : Nat} [NeZero n] (X x3 Y y3 d k G8 PO p m u v : Fin n) (hu : p * u = 1) (hv : m * v = 1) (hX : X = G8 * u) (hY : Y = PO * v) (hk : (1 - d * X * x3 * Y * y3) * k = 1) :
  ((Y * y3 + X * x3) * k) * (m * p - d * G8 * PO * x3 * y3) = (PO * p * y3 + G8 * m * x3) ∧ (m * p - d * G8 * PO * x3 * y3) * (k * u * v) = 1 := by
  constructor <;> grobner
theorem Fg {n : Nat} [NeZero n] (L R P Q S T q s : Fin n) (h1 : L * Q = P) (h2 : R * S = T) (h3 : P * S = T * Q) (h4 : Q * q = 1) (h5 : S * s = 1) : L = R := by
  grobner
theorem PS {n : Nat} [NeZero n] (a b c d : Fin n) (h : a * a = d * (b * b)) (h1 : b * c = 1) : a * c * (a * c) = d := by grobner
theorem Kf {n : Nat} [NeZero n] (d a b c e : Fin n) (h : a = 0 ∨ b = 0 ∨ c = 0 ∨ e = 0) : d * a * b * c * e = 0 := by
  rcases h with h | h | h | h <;> subst h <;> grobner
theorem VY {n : Nat} [NeZero n] (a b : Fin n) (h : a + b = 0) (h2 : a - b = 0) : 2 * b = 0 := by grobner
theorem aa0 {n : Nat} [NeZero n] (a : Fin n) (h : 1 + a = 0) : a = -1 := by grobner
theorem aa1 {n : Nat} [NeZero n] (a : Fin n) (h : 1 - a = 0) : a = 1 := by grobner
theorem VZ {n : Nat} [NeZero n] (x y d : Fin n) (h : y * y - x * x = 1 + d * x * x * y * y) : y * y - (0 - x) * (0 - x) = 1 + d * (0 - x) * (0 - x) * y * y := by grobner
theorem PT {n : Nat} [NeZero n] (d a b c e : Fin n) : d * a * b * c * e = d * b * a * e * c := by grobner
theorem Kg {n : Nat} [NeZero n] (a b c e v : Fin n) : (a * e + c * b) * v = (b * c + e * a) * v := by grobner
theorem Kh {n : Nat} [NeZero n] (a b c e v : Fin n) : (a * b + c * e) * v = (b * a + e * c) * v := by grobner
theorem aa2 {n : Nat} [NeZero n] (d a b : Fin n) : d * a * 0 * b * 1 = 0 := by grobner
theorem Tq {n : Nat} [NeZero n] (a b : Fin n) : (a * 1 + b * 0) * 1 = a := by grobner
theorem aa3 {n : Nat} [NeZero n] (d x y : Fin n) (h : y * y - x * x = 1 + d * x * x * y * y) : 1 - d * x * (0 - x) * y * y = y * y - x * x := by grobner
theorem aa4 {n : Nat} [NeZero n] (x y v : Fin n) : (x * y + y * (0 - x)) * v = 0 := by grobner
theorem aa5 {n : Nat} [NeZero n] (x y v : Fin n) (h : (y * y - x * x) * v = 1) : (y * y + x * (0 - x)) * v = 1 := by grobner
theorem PU {n : Nat} [NeZero n] (a : Fin n) (h : 1 * a = 1) : a = 1 := by grobner
abbrev Pt := Fp × Fp
def On (A : Pt) : Prop := A.2 * A.2 - A.1 * A.1 = 1 + dP * A.1 * A.1 * A.2 * A.2
def cc (A B : Pt) : Fp := dP * A.1 * B.1 * A.2 * B.2
def eu (A B : Pt) : Pt := ((A.1 * B.2 + A.2 * B.1) * fi (1 + cc A B), (A.2 * B.2 + A.1 * B.1) * fi (1 - cc A B))
def AS (A : Pt) : Pt := (0 - A.1, A.2)
def gY : Pt := (0, 1)
theorem Ts {a b : Fp} (h : a * a = dP * (b * b)) : b = 0 := by
  refine Classical.byContradiction fun hb => ?_
  have h1 := cT hb
  refine aaX (a * fi b) ?_
  exact PS a b (fi b) dP h h1
theorem aa6 {a b : Fp} (ha : a ≠ 0) (hb : b ≠ 0) : a * b ≠ 0 := fun h => (dF h).elim ha hb
theorem Tt {A B : Pt} (hA : On A) (hB : On B) {e : Fp} (he : e * e = 1) (h : cc A B = e) : False := by
  obtain ⟨k1, k2⟩ := aaZ A.1 A.2 B.1 B.2 iP dP e aaY hA hB he h
  have e0 : e ≠ 0 := fun q => by rw [q] at he; exact absurd he (by decide)
  have x1 : A.1 ≠ 0 := fun q => e0 (by rw [← h]; exact Kf _ _ _ _ _ (.inl q))
  have y1 : A.2 ≠ 0 := fun q => e0 (by rw [← h]; exact Kf _ _ _ _ _ (.inr (.inr (.inl q))))
  have y2 : B.2 ≠ 0 := fun q => e0 (by rw [← h]; exact Kf _ _ _ _ _ (.inr (.inr (.inr q))))
  have m1 : iP * B.1 + B.2 = 0 := (dF (Ts k1)).elim (fun q => absurd q (aa6 x1 y1)) id
  have m2 : iP * B.1 - B.2 = 0 := (dF (Ts k2)).elim (fun q => absurd q (aa6 x1 y1)) id
  have : 2 * B.2 = 0 := VY _ _ m1 m2
  exact (dF this).elim Ke y2
theorem Db {A B : Pt} (hA : On A) (hB : On B) : 1 + cc A B ≠ 0 := fun h => Tt hA hB (e := -1) (by decide) (aa0 _ h)
theorem yS {A B : Pt} (hA : On A) (hB : On B) : 1 - cc A B ≠ 0 := fun h => Tt hA hB (e := 1) (by decide) (aa1 _ h)
theorem Dc {A B : Pt} (hA : On A) (hB : On B) : On (eu A B) :=
  PJ A.1 A.2 B.1 B.2 dP (fi (1 + cc A B)) (fi (1 - cc A B)) hA hB (cT (Db hA hB)) (cT (yS hA hB))
theorem Ki {A : Pt} (hA : On A) : On (AS A) := by
  exact VZ A.1 A.2 dP hA
theorem PV : On gY := by unfold On gY; decide
theorem PW (A B : Pt) : cc A B = cc B A := PT dP A.1 B.1 A.2 B.2
theorem nV (A B : Pt) : eu A B = eu B A := by
  unfold eu
  rw [PW A B]
  refine Prod.ext ?_ ?_
  · exact Kg A.1 B.1 A.2 B.2 _
  · exact Kh A.2 B.2 A.1 B.1 _
theorem Kj : fi 1 = 1 := PU _ (cT (a := 1) (by decide))
theorem nW (A : Pt) : eu A gY = A := by
  have h : cc A gY = 0 := aa2 dP A.1 A.2
  unfold eu
  rw [h, show (1 : Fp) + 0 = 1 by decide, show (1 : Fp) - 0 = 1 by decide, Kj]
  refine Prod.ext ?_ ?_
  · exact Tq A.1 A.2
  · exact Tq A.2 A.1
theorem xE (A : Pt) : eu gY A = A := by rw [nV, nW]
theorem Kk {A : Pt} (hA : On A) : eu A (AS A) = gY := by
  have h := cT (yS hA (Ki hA))
  have e : 1 - cc A (AS A) = A.2 * A.2 - A.1 * A.1 := aa3 dP A.1 A.2 hA
  unfold eu
  generalize fi (1 - cc A (AS A)) = v at *
  rw [e] at h
  refine Prod.ext ?_ ?_
  · exact aa4 A.1 A.2 _
  · exact aa5 A.1 A.2 _ h
theorem u7 {A B C : Pt} (hA : On A) (hB : On B) (hC : On C) : eu (eu A B) C = eu A (eu B C) := by
  have hu := cT (Db hA hB)
  have hv := cT (yS hA hB)
  have hr := cT (Db hC hB)
  have hs := cT (yS hC hB)
  have hAB := Dc hA hB
  have hCB := Dc hC hB
  have hk := cT (Db hAB hC)
  have hk' := cT (yS hAB hC)
  have hl := cT (Db hCB hA)
  have hl' := cT (yS hCB hA)
  rw [nV A (eu B C), nV B C]
  obtain ⟨a1, a2⟩ := Fc (eu A B).1 C.1 (eu A B).2 C.2 dP (fi (1 + cc (eu A B) C)) (A.1 * B.2 + A.2 * B.1) (A.2 * B.2 + A.1 * B.1) (1 + cc A B) (1 - cc A B) _ _ hu hv rfl rfl hk
  obtain ⟨b1, b2⟩ := Fc (eu C B).1 A.1 (eu C B).2 A.2 dP (fi (1 + cc (eu C B) A)) (C.1 * B.2 + C.2 * B.1) (C.2 * B.2 + C.1 * B.1) (1 + cc C B) (1 - cc C B) _ _ hr hs rfl rfl hl
  obtain ⟨c1, c2⟩ := Ff (eu A B).1 C.1 (eu A B).2 C.2 dP (fi (1 - cc (eu A B) C)) (A.1 * B.2 + A.2 * B.1) (A.2 * B.2 + A.1 * B.1) (1 + cc A B) (1 - cc A B) _ _ hu hv rfl rfl hk'
  obtain ⟨d1, d2⟩ := Ff (eu C B).1 A.1 (eu C B).2 A.2 dP (fi (1 - cc (eu C B) A)) (C.1 * B.2 + C.2 * B.1) (C.2 * B.2 + C.1 * B.1) (1 + cc C B) (1 - cc C B) _ _ hr hs rfl rfl hl'
  refine Prod.ext ?_ ?_
  · exact Fg _ _ _ _ _ _ _ _ a1 b1 (PK A.1 A.2 B.1 B.2 C.1 C.2 dP hA hB hC) a2 b2
  · exact Fg _ _ _ _ _ _ _ _ c1 d1 (PM A.1 A.2 B.1 B.2 C.1 C.2 dP hA hB hC) c2 d2
def cY (P : Pt) : Nat → Pt
  | 0 => gY
  | n + 1 => eu (cY P n) P
theorem xF (P : Pt) (n : Nat) : cY P (n + 1) = eu (cY P n) P := by rw [cY]
theorem lq {P : Pt} (h : On P) : ∀ n, On (cY P n)
  | 0 => PV
  | n + 1 => Dc (lq h n) h
theorem j8 {P : Pt} (h : On P) (m : Nat) : ∀ n, cY P (m + n) = eu (cY P m) (cY P n)
  | 0 => (nW _).symm
  | n + 1 => by
    show eu (cY P (m + n)) P = eu (cY P m) (eu (cY P n) P)
    rw [j8 h m n, u7 (lq h m) (lq h n) h]
theorem xG : ∀ n, cY gY n = gY
  | 0 => rfl
  | n + 1 => by rw [cY, xG n, nW]
theorem qj {P : Pt} (h : On P) (m : Nat) : ∀ n, cY (cY P m) n = cY P (m * n)
  | 0 => rfl
  | n + 1 => by rw [cY, qj h m n, Nat.mul_succ, j8 h]
theorem u9 (P : Pt) : cY P 1 = P := xE P
end Go.Proofs.YtibfpjeeanppjaaGreat.La
end
section
namespace Go.Proofs.YtibfpjeeanppjaaGreat.La
theorem po1 : jB 1224481 := jB.oK 1105 (by decide +kernel)
theorem po2 : jB 531581 := jB.oK 728 (by decide +kernel)
theorem po3 : jB 1257559732178653 := by
  have h := Cert.mk' (n := 1257559732178653) (b := 896025394887893) (F := 650910834461) (L := [1224481, 531581]) (by decide +kernel) (by
    intro l hl
    simp only [List.mem_cons, List.not_mem_nil, or_false] at hl
    rcases hl with rfl | rfl
    · exact po1
    · exact po2)
  exact h.1.prime h.2.1 (by rw [h.2.2.1]; decide)
theorem po4 : jB 4434155615661930479 := by
  have h := Cert.mk' (n := 4434155615661930479) (b := 415787812636281767) (F := 1257559732178653) (L := [1257559732178653]) (by decide +kernel) (by
    intro l hl
    simp only [List.mem_cons, List.not_mem_nil, or_false] at hl
    subst hl
    exact po3)
  exact h.1.prime h.2.1 (by rw [h.2.2.1]; decide)
theorem po5 : jB 172054593956031949258510691 := by
  have h := Cert.mk' (n := 172054593956031949258510691) (b := 81982237619807054769897707) (F := 4434155615661930479) (L := [4434155615661930479]) (by decide +kernel) (by
    intro l hl
    simp only [List.mem_cons, List.not_mem_nil, or_false] at hl
    subst hl
    exact po4)
  exact h.1.prime h.2.1 (by rw [h.2.2.1]; decide)
theorem po6 : jB 19757330305831588566944191468367130476339 := by
  have h := Cert.mk' (n := 19757330305831588566944191468367130476339) (b := 9148758478138211201771971577098600188172) (F := 172054593956031949258510691) (L := [172054593956031949258510691]) (by decide +kernel) (by
    intro l hl
    simp only [List.mem_cons, List.not_mem_nil, or_false] at hl
    subst hl
    exact po5)
  exact h.1.prime h.2.1 (by rw [h.2.2.1]; decide)
theorem po7 : jB 276602624281642239937218680557139826668747 := by
  have h := Cert.mk' (n := 276602624281642239937218680557139826668747) (b := 16384) (F := 19757330305831588566944191468367130476339) (L := [19757330305831588566944191468367130476339]) (by decide +kernel) (by
    intro l hl
    simp only [List.mem_cons, List.not_mem_nil, or_false] at hl
    subst hl
    exact po6)
  exact h.1.prime h.2.1 (by rw [h.2.2.1]; decide)
theorem poL : jB 7237005577332262213973186563042994240857116359379907606001950938285454250989 := by
  have h := Cert.mk' (n := 7237005577332262213973186563042994240857116359379907606001950938285454250989) (b := 2975531125133123119648879457563281269120703404158613135195788908093573672641) (F := 276602624281642239937218680557139826668747) (L := [276602624281642239937218680557139826668747]) (by decide +kernel) (by
    intro l hl
    simp only [List.mem_cons, List.not_mem_nil, or_false] at hl
    subst hl
    exact po7)
  exact h.1.prime h.2.1 (by rw [h.2.2.1]; decide)
end Go.Proofs.YtibfpjeeanppjaaGreat.La
end
section
namespace Go.Proofs.YtibfpjeeanppjaaGreat.La
open Go Go.Sy Re Fe
section
variable {n : Nat} [NeZero n]
theorem aa7 (p q y h : Fin n) (hh : 2 * h = 1) (e : p * (1 - y) = q * (1 + y)) : p = (h * (p + q)) * (1 + y) ∧ q = (h * (p + q)) * (1 - y) := by constructor <;> grobner
theorem afP (p q y : Fin n) (e : p * (1 - y) = q * (1 + y)) (h : p + q = 0) : 2 * p = 0 ∧ 2 * q = 0 := by constructor <;> grobner
theorem aa8 (p q N M a b s d v w : Fin n) (hv : p * v = 1) (hw : q * w = 1) (hs : s * p = N) (hd : d * q = M) (g : (p + N) * (q + M) * a = (p - N) * (q - M) * b) : (1 + s) * (1 + d) * a = (1 - s) * (1 - d) * b := by
  subst hs hd
  have e1 : (1 + s) * (1 + d) * a = v * w * ((p + s * p) * (q + d * q) * a) := by grobner
  have e2 : (1 - s) * (1 - d) * b = v * w * ((p - s * p) * (q - d * q) * b) := by grobner
  rw [e1, e2, g]
theorem aa9 (s d a b u k : Fin n) (g : (1 + s) * (1 + d) * a = (1 - s) * (1 - d) * b) (hu : u * (1 - d) = 1 + d) (hk : (1 - d) * k = 1) : (1 + s) * (u * a) = (1 - s) * b := by grobner
theorem afQ (a b y1 y2 : Fin n) : ((b * (1 + y2) - b * (1 - y2)) * (a * (1 + y1) + a * (1 - y1)) + (b * (1 + y2) + b * (1 - y2)) * (a * (1 + y1) - a * (1 - y1))) * ((b * (1 + y2) - b * (1 - y2)) * (a * (1 + y1) + a * (1 - y1)) + (b * (1 + y2) + b * (1 - y2)) * (a * (1 + y1) - a * (1 - y1))) = (4 * a * b) * (4 * a * b) * ((y1 + y2) * (y1 + y2)) := by grobner
theorem afR (a b y1 y2 u : Fin n) : u * (((b * (1 + y2) - b * (1 - y2)) * (a * (1 + y1) + a * (1 - y1)) - (b * (1 + y2) + b * (1 - y2)) * (a * (1 + y1) - a * (1 - y1))) * ((b * (1 + y2) - b * (1 - y2)) * (a * (1 + y1) + a * (1 - y1)) - (b * (1 + y2) + b * (1 - y2)) * (a * (1 + y1) - a * (1 - y1)))) = (4 * a * b) * (4 * a * b) * (u * ((y2 - y1) * (y2 - y1))) := by grobner
theorem afS (a y : Fin n) : ((a * (1 + y) + a * (1 - y)) * (a * (1 + y) + a * (1 - y))) * ((a * (1 + y) - a * (1 - y)) * (a * (1 + y) - a * (1 - y))) = (4 * a * a) * (4 * a * a) * (y * y) := by grobner
theorem afT (a y k : Fin n) : ((a * (1 + y) + a * (1 - y)) * (a * (1 + y) + a * (1 - y)) - (a * (1 + y) - a * (1 - y)) * (a * (1 + y) - a * (1 - y))) * ((a * (1 + y) + a * (1 - y)) * (a * (1 + y) + a * (1 - y)) + k * ((a * (1 + y) + a * (1 - y)) * (a * (1 + y) + a * (1 - y)) - (a * (1 + y) - a * (1 - y)) * (a * (1 + y) - a * (1 - y)))) = (4 * a * a) * (4 * a * a) * ((1 - y * y) * (1 + k * (1 - y * y))) := by grobner
theorem Tu (c p q r s : Fin n) (h : p * q = r * s) : (c * s) * r = (c * q) * p := by grobner
theorem aba (p N E b s v : Fin n) (hv : p * v = 1) (hs : s * p = N) (g : (p + N) * E = (p - N) * b) : (1 + s) * E = (1 - s) * b := by
  subst hs
  have e1 : (1 + s) * E = v * ((p + s * p) * E) := by grobner
  have e2 : (1 - s) * b = v * ((p - s * p) * b) := by grobner
  rw [e1, e2, g]
theorem afU (y1 y2 : Fin n) (h1 : y1 + y2 = 0) (h2 : y2 - y1 = 0) : 2 * y1 = 0 ∧ 2 * y2 = 0 := by constructor <;> grobner
theorem afV (x1 y1 x2 y2 d e : Fin n) (h1 : y1 * y1 - x1 * x1 = 1 + d * x1 * x1 * y1 * y1) (h2 : y2 * y2 - x2 * x2 = 1 + d * x2 * x2 * y2 * y2) (z1 : y1 = 0) (z2 : y2 = 0) (hd : e * (1 + d * x1 * x2 * y1 * y2) = y1 * y2 - x1 * x2) : (e - 1) * (e - (-1)) = 0 := by
  subst z1 z2; grobner
theorem Tv (a b : Fin n) (h : a - b = 0) : a = b := by grobner
theorem afW (y k : Fin n) (h : y = 0) (h1 : (1 - y * y) * (1 + k * (1 - y * y)) = 0) : 1 + k = 0 := by subst h; grobner
theorem afX (x1 y1 x2 y2 d e : Fin n) (h : e = (y2 * y1 + x2 * (0 - x1))) : e = y1 * y2 - x1 * x2 := by grobner
theorem afY (x1 y1 x2 y2 d : Fin n) : 1 - d * x2 * (0 - x1) * y2 * y1 = 1 + d * x1 * x2 * y1 * y2 := by grobner
theorem abb (a p q : Fin n) (h : p * q = 1) : (a * q) * p = a := by grobner
theorem afZ (x y d : Fin n) (h : y * y - x * x = 1 + d * x * x * y * y) (hy : (y - 1) * (y - (-1)) = 0) : (x * x) * (1 + d) = 0 := by grobner
theorem j_1 (y : Fin n) (h : y = 1 ∨ y = -1) : (y - 1) * (y - (-1)) = 0 := by rcases h with h | h <;> subst h <;> grobner
theorem j_u (y k : Fin n) (hk : (1 - y) * k = 1) : (1 + y) * k * (1 - y) = 1 + y := by grobner
theorem j_n (y : Fin n) (h : 1 - y = 0) : y = 1 := by grobner
theorem j_p (y : Fin n) (h : 1 + y = 0) : y = -1 := by grobner
theorem abc (d a b c e s : Fin n) : (s * (1 - d * a * b * c * e) = c * e + a * b → s * (1 - d * b * a * e * c) = e * c + b * a) ∧ (s * (1 + d * a * b * c * e) = c * e - a * b → s * (1 + d * b * a * e * c) = e * c - b * a) := by
  constructor <;> intro h <;> grobner
theorem j_f (a x y f g : Fin n) (h : a * f = g) : a * x * f = x * g := by grobner
end
def Fr (X Z : Fp) (A : Pt) : Prop := ∃ a : Fp, a ≠ 0 ∧ X = a * (1 + A.2) ∧ Z = a * (1 - A.2)
def hP : Fp := ph 28948022309329048855892746252171976963317496166410141009864396001978282409975
theorem Kl : 2 * hP = 1 := by decide
theorem Tw : hP ≠ 0 := by decide
theorem PX {a : Fp} (h : 2 * a = 0) : a = 0 := (dF h).elim (fun q => absurd q Ke) id
theorem Fr.of {p q : Fp} {A : Pt} (hn : p = 0 → q = 0 → False) (e : p * (1 - A.2) = q * (1 + A.2)) : Fr p q A := by
  refine ⟨hP * (p + q), fun h => ?_, (aa7 p q A.2 hP Kl e).1, (aa7 p q A.2 hP Kl e).2⟩
  have h0 : p + q = 0 := (dF h).elim (fun q => absurd q Tw) id
  obtain ⟨h1, h2⟩ := afP p q A.2 e h0
  exact hn (PX h1) (PX h2)
structure SD (A B : Pt) (s d : Fp) : Prop where
  s : s * (1 - dP * A.1 * B.1 * A.2 * B.2) = A.2 * B.2 + A.1 * B.1
  d : d * (1 + dP * A.1 * B.1 * A.2 * B.2) = A.2 * B.2 - A.1 * B.1
theorem SD.symm {A B : Pt} {s d : Fp} (h : SD A B s d) : SD B A s d := ⟨(abc dP A.1 B.1 A.2 B.2 s).1 h.s, (abc dP A.1 B.1 A.2 B.2 d).2 h.d⟩
theorem SD.of {A B : Pt} (hA : On A) (hB : On B) : SD A B (eu A B).2 (eu B (AS A)).2 := by
  refine ⟨?_, ?_⟩
  · exact abb _ _ _ (cT (yS hA hB))
  · have e : 1 - cc B (AS A) = 1 + dP * A.1 * B.1 * A.2 * B.2 := afY A.1 A.2 B.1 B.2 dP
    have h : (1 + dP * A.1 * B.1 * A.2 * B.2) * fi (1 + dP * A.1 * B.1 * A.2 * B.2) = 1 := cT (Db hA hB)
    show (B.2 * A.2 + B.1 * (0 - A.1)) * fi (1 - cc B (AS A)) * _ = _
    rw [e, abb _ _ _ h]
    exact afX A.1 A.2 B.1 B.2 dP _ rfl
theorem Km {X Z X' Z' u : Fp} {A B S : Pt} {d : Fp} (hA : On A) (hB : On B) (f : Fr X Z A) (f' : Fr X' Z' B) (h : SD A B S.2 d) (d1 : d ≠ 1) (d2 : d ≠ -1) (hu : u * (1 - d) = 1 + d) :
    Fr (((X' - Z') * (X + Z) + (X' + Z') * (X - Z)) * ((X' - Z') * (X + Z) + (X' + Z') * (X - Z))) (u * (((X' - Z') * (X + Z) - (X' + Z') * (X - Z)) * ((X' - Z') * (X + Z) - (X' + Z') * (X - Z)))) S := by
  obtain ⟨a, a0, rfl, rfl⟩ := f
  obtain ⟨b, b0, rfl, rfl⟩ := f'
  rw [afQ, afR]
  have c0 : (4 * a * b) * (4 * a * b) ≠ 0 := cP (cP (cP qk a0) b0) (cP (cP qk a0) b0)
  have u0 : u ≠ 0 := fun q => d2 (j_p d (by rw [← hu, q]; grobner))
  have hk := cT (a := 1 - d) fun q => d1 (j_n d q)
  have g := aaT A.1 A.2 B.1 B.2 dP hA hB
  have key := aa9 _ _ _ _ _ _ (aa8 _ _ _ _ _ _ S.2 d _ _ (cT (yS hA hB)) (cT (Db hA hB)) h.s h.d g) hu hk
  refine Fr.of (fun p q => ?_) ?_
  · have p1 : (A.2 + B.2) * (A.2 + B.2) = 0 := (dF p).elim (fun q => absurd q c0) id
    have q1 : u * ((B.2 - A.2) * (B.2 - A.2)) = 0 := (dF q).elim (fun q => absurd q c0) id
    have p2 : A.2 + B.2 = 0 := (dF p1).elim id id
    have q2 : (B.2 - A.2) * (B.2 - A.2) = 0 := (dF q1).elim (fun q => absurd q u0) id
    have q3 : B.2 - A.2 = 0 := (dF q2).elim id id
    obtain ⟨y1, y2⟩ := afU _ _ p2 q3
    have := afV A.1 A.2 B.1 B.2 dP d hA hB (PX y1) (PX y2) h.d
    exact (dF this).elim (fun q => d1 (Tv _ _ q)) (fun q => d2 (Tv _ _ q))
  · exact Tu _ _ _ _ _ key
def kP : Fp := ph 121665
theorem af0 : dP * (kP + 1) = 0 - kP := by decide
theorem af1 : 1 + kP ≠ 0 := by decide
theorem Kn {X Z : Fp} {A : Pt} (hA : On A) (f : Fr X Z A) :
    Fr (((X + Z) * (X + Z)) * ((X - Z) * (X - Z))) (((X + Z) * (X + Z) - (X - Z) * (X - Z)) * ((X + Z) * (X + Z) + kP * ((X + Z) * (X + Z) - (X - Z) * (X - Z)))) (eu A A) := by
  obtain ⟨a, a0, rfl, rfl⟩ := f
  rw [afS, afT]
  have c0 : (4 * a * a) * (4 * a * a) ≠ 0 := cP (cP (cP qk a0) a0) (cP (cP qk a0) a0)
  have h := SD.of hA hA
  have hv := cT (yS hA hA)
  have e : (1 : Fp) - cc A A = 1 - dP * A.1 * A.1 * A.2 * A.2 := rfl
  have key := aba _ _ _ _ _ _ hv h.s (aaU A.1 A.2 dP kP hA af0)
  refine Fr.of (fun p q => ?_) ?_
  · have p1 : A.2 * A.2 = 0 := (dF p).elim (fun q => absurd q c0) id
    have q1 := (dF q).elim (fun q => absurd q c0) id
    exact af1 (afW _ _ ((dF p1).elim id id) q1)
  · exact Tu _ _ _ _ _ key
def num (bits : Nat → Bool) : Nat → Nat
  | 0 => 0
  | n + 1 => 2 * num bits n + (if bits n then 1 else 0)
theorem PY : Fr 1 0 gY := ⟨hP, Tw, by decide, by decide⟩
theorem Ko {P : Pt} (hP : On P) (m : Nat) : eu (cY P (m + 1)) (AS (cY P m)) = P := by
  have hm := lq hP m
  rw [xF, nV (cY P m) P, u7 hP hm (Ki hm), Kk hm, nW]
theorem Dd {P : Pt} {u : Int} (hP : On P) (h1 : P.2 ≠ 1) (h2 : P.2 ≠ -1) (hu : ph u * (1 - P.2) = 1 + P.2) (bits : Nat → Bool) :
    ∀ n, Fr (ph (run u bits (Cw u) n).1) (ph (run u bits (Cw u) n).2.1) (cY P (num bits n)) ∧ Fr (ph (run u bits (Cw u) n).2.2.1) (ph (run u bits (Cw u) n).2.2.2) (cY P (num bits n + 1))
  | 0 => by
    refine ⟨?_, ?_⟩
    · show Fr (ph 1) (ph 0) gY
      rw [va, lu]
      exact PY
    · show Fr (ph u) (ph 1) (cY P (0 + 1))
      rw [u9, va]
      refine Fr.of (fun _ q => absurd q (by decide)) ?_
      rw [hu]; grobner
  | n + 1 => by
    obtain ⟨f0, f1⟩ := Dd hP h1 h2 hu bits n
    rw [run, num]
    generalize run u bits (Cw u) n = s at *
    generalize num bits n = m at *
    have a0 := lq hP m
    have a1 := lq hP (m + 1)
    have sd := SD.of a0 a1
    rw [Ko hP m, ← j8 hP] at sd
    cases bits n with
    | true =>
      refine ⟨?_, ?_⟩
      · show Fr (ph (aX s.2.2.1 s.2.2.2 s.1 s.2.1)) (ph (aZ u s.2.2.1 s.2.2.2 s.1 s.2.1)) (cY P (2 * m + 1))
        rw [De, AT, show 2 * m + 1 = m + (m + 1) by omega]
        exact Km a1 a0 f1 f0 sd.symm h1 h2 hu
      · show Fr (ph (dX s.2.2.1 s.2.2.2)) (ph (dZ s.2.2.1 s.2.2.2)) (cY P (2 * m + 1 + 1))
        rw [G9, Df, show 2 * m + 1 + 1 = (m + 1) + (m + 1) by omega, j8 hP]
        exact Kn a1 f1
    | false =>
      refine ⟨?_, ?_⟩
      · show Fr (ph (dX s.1 s.2.1)) (ph (dZ s.1 s.2.1)) (cY P (2 * m + 0))
        rw [G9, Df, show 2 * m + 0 = m + m by omega, j8 hP]
        exact Kn a0 f0
      · show Fr (ph (aX s.1 s.2.1 s.2.2.1 s.2.2.2)) (ph (aZ u s.1 s.2.1 s.2.2.1 s.2.2.2)) (cY P (2 * m + 0 + 1))
        rw [De, AT, show 2 * m + 0 + 1 = m + (m + 1) by omega]
        exact Km a0 a1 f0 f1 sd h1 h2 hu
def uA (A : Pt) : Fp := (1 + A.2) * fi (1 - A.2)
theorem V0 {s : S4} {A : Pt} (f : Fr (ph s.1) (ph s.2.1) A) : ph (fin s) = uA A := by
  obtain ⟨a, a0, e1, e2⟩ := f
  unfold fin uA
  rw [sS, tP, e1, e2]
  exact j_f _ _ A.2 _ _ (Fh a0)
theorem V1 {P : Pt} {u : Int} (hP : On P) (h1 : P.2 ≠ 1) (h2 : P.2 ≠ -1) (hu : ph u * (1 - P.2) = 1 + P.2) (sec : List Int) : ph (Al sec u) = uA (cY P (num (fun j => bt (rq sec) (j + 1)) 255)) :=
  V0 (Dd hP h1 h2 hu _ 255).1
end Go.Proofs.YtibfpjeeanppjaaGreat.La
end
section
namespace Go.Proofs.YtibfpjeeanppjaaGreat.La
open Go Go.Sy Re Fe
def gZ : Pt := (ph 15112221349535400772501151409588531511454012693041857206046113283949847762202, ph 46316835694926478169428394003475163141307993866256225615783033603165251855960)
theorem jC : On gZ := by unfold On gZ; decide
theorem Dh : gZ.2 ≠ 1 := by decide
theorem Kp : gZ.2 ≠ -1 := by decide
theorem Kq : ph 9 * (1 - gZ.2) = 1 + gZ.2 := by decide
def LN : Nat := 7237005577332262213973186563042994240857116359379907606001950938285454250989
theorem vb : jB LN := poL
def lb (j : Nat) : Bool := Nat.beq (LN / 2 ^ (252 - j) % 2) 1
theorem V2 : num lb 253 = LN := by decide +kernel
theorem V3 : (run 9 lb (Cw 9) 253).2.1 = 0 := by decide +kernel
theorem af2 : 1 + dP ≠ 0 := by decide
theorem abd {A : Pt} (hA : On A) (h : A.2 = 1 ∨ A.2 = -1) : A.1 = 0 := by
  have := afZ A.1 A.2 dP hA (j_1 _ h)
  exact (dF ((dF this).elim id fun q => absurd q af2)).elim id id
theorem order : cY gZ LN = gY := by
  have h := (Dd jC Dh Kp Kq lb 253).1
  rw [V2, V3, lu] at h
  have hon := lq jC LN
  generalize cY gZ LN = A at h hon ⊢
  obtain ⟨a, a0, _, h⟩ := h
  have y1 : A.2 = 1 := j_n _ ((dF h.symm).elim (fun q => absurd q a0) id)
  exact Prod.ext (abd hon (.inl y1)) y1
theorem af3 {n : Nat} [NeZero n] (y : Fin n) (h : (y - 1) * (y - (-1)) = 0) : (y * y + 0 * 0) * 1 = 1 := by grobner
theorem j_z {n : Nat} [NeZero n] (d y v : Fin n) : d * 0 * 0 * y * y = 0 ∧ (0 * y + y * 0) * v = 0 := by constructor <;> grobner
theorem abe {A : Pt} (hA : On A) (h : A.2 = 1 ∨ A.2 = -1) : cY A 2 = gY := by
  have hx := abd hA h
  obtain ⟨x, y⟩ := A
  have hx : x = 0 := hx
  subst hx
  have hc : cc (0, y) (0, y) = 0 := (j_z dP y 0).1
  rw [show (2 : Nat) = 1 + 1 from rfl, xF, u9]
  unfold eu
  rw [hc, show (1 : Fp) - 0 = 1 by decide, Kj]
  exact Prod.ext (j_z dP y _).2 (af3 y (j_1 y h))
theorem mul_gcd {P : Pt} (hP : On P) (m n : Nat) : cY P m = gY → cY P n = gY → cY P (Nat.gcd m n) = gY := by
  induction m, n using Nat.gcd.induction with
  | H0 n => intro _ h; rw [Nat.gcd_zero_left]; exact h
  | H1 m n _ ih =>
    intro h1 h2
    rw [Nat.gcd_rec]
    refine ih ?_ h1
    have e := j8 hP (m * (n / m)) (n % m)
    rw [Nat.div_add_mod, h2, ← qj hP, h1, xG, xE] at e
    exact e.symm
theorem PZ {n : Nat} (h : cY gZ n = gY) : LN ∣ n := by
  have hg := mul_gcd jC LN n order h
  rcases vb.dv _ (Nat.gcd_dvd_left LN n) with h1 | h1
  · rw [h1, u9] at hg
    exact absurd (congrArg Prod.snd hg) Dh
  · exact h1 ▸ Nat.gcd_dvd_right LN n
theorem jB.rL {p a b : Nat} (hp : jB p) (h : p ∣ a * b) : p ∣ a ∨ p ∣ b := by
  rcases hp.dv (Nat.gcd p a) (Nat.gcd_dvd_left ..) with h1 | h1
  · exact .inr (Nat.Coprime.dvd_of_dvd_mul_left h1 h)
  · exact .inl (h1 ▸ Nat.gcd_dvd_right p a)
theorem Tx {k : Nat} (h : ¬ LN ∣ k * 2) : (cY gZ k).2 ≠ 1 ∧ (cY gZ k).2 ≠ -1 := by
  have key : ¬ ((cY gZ k).2 = 1 ∨ (cY gZ k).2 = -1) := fun q => h (PZ (by rw [← qj jC]; exact abe (lq jC k) q))
  exact ⟨fun q => key (.inl q), fun q => key (.inr q)⟩
noncomputable def sc (sec : List Int) : Nat := (aW (rq sec)).toNat
theorem abf : ∀ n : Fin 256, bO .u8 ((n.val : Nat) : Int) 248 % 8 = 0 := by decide +kernel
theorem P0 : ∀ n : Fin 256, 64 ≤ fT .u8 (bO .u8 ((n.val : Nat) : Int) 127) 64 := by decide +kernel
theorem Kr : (256 : Int) ^ 32 = 115792089237316195423570985008687907853269984665640564039457584007913129639936 := by decide
theorem V4 {sec : List Int} (h : ak sec = true) : aW (rq sec) % 8 = 0 ∧ 28948022309329048855892746252171976963317496166410141009864396001978282409984 ≤ aW (rq sec) ∧ aW (rq sec) < 57896044618658097711785492504343953926634992332820282019728792003956564819968 := by
  obtain ⟨hn, hl⟩ := bK.1 h
  obtain ⟨_, h2, h3, h4⟩ := Tn hl hn
  have e := j5 _ h2
  rw [h3] at e
  have n0 := dr h2
  have n1 := nX h2
  rw [h3, Kr] at n1
  have g0 : (rq sec).getD 0 0 = bO .u8 (sec.getD 0 0) 248 := by
    unfold rq
    rw [List.getD_eq_getElem?_getD, List.getElem?_set_ne (by omega), List.getElem?_set_self (by omega)]; rfl
  have hg : (rq sec).getD 31 0 = fT .u8 (bO .u8 ((sec.set 0 (bO .u8 (sec.getD 0 0) 248)).getD 31 0) 127) 64 := by
    unfold rq
    rw [List.getD_eq_getElem?_getD, List.getElem?_set_self (by rw [List.length_set, hn]; omega)]; rfl
  have e0 := mV (P := fun x => bO .u8 x 248 = IntKind.u8.wrap (IntKind.u8.wrap (x.tdiv 8) * 8) ∧ u8 (bO .u8 x 248) = true) JU (qi hl 0)
  have hs := yI hl 0 e0.2
  have b0 := mV (P := fun x => bO .u8 x 248 % 8 = 0) abf (qi hl 0)
  have b1 := mV (P := fun x => 64 ≤ fT .u8 (bO .u8 x 127) 64) P0 (qi hs 31)
  rw [← g0] at b0
  rw [← hg] at b1
  generalize hV : aW (rq sec) = V at *
  generalize rq sec = c at *
  rw [e, fI 32 0 V (by omega)] at b0
  rw [e, fI 32 31 V (by omega)] at b1
  rw [show (256 : Int) ^ 0 = 1 by decide] at b0
  rw [show (256 : Int) ^ 31 = 452312848583266388373324160190187140051835877600158453279131187530910662656 by decide] at b1
  rw [show (2 : Int) ^ 255 = 57896044618658097711785492504343953926634992332820282019728792003956564819968 by decide] at h4
  omega
theorem tQ {sec : List Int} (h : ak sec = true) : ∃ k, sc sec = 8 * k ∧ 0 < k ∧ k < LN ∧ sc sec < 57896044618658097711785492504343953926634992332820282019728792003956564819968 ∧ ((sc sec : Nat) : Int) = aW (rq sec) := by
  obtain ⟨h1, h2, h3⟩ := V4 h
  unfold sc
  generalize aW (rq sec) = V at *
  refine ⟨V.toNat / 8, ?_⟩
  unfold LN
  omega
theorem Ks {sec : List Int} (h : ak sec = true) : ∀ j, j ≤ 255 → num (fun j => bt (rq sec) (j + 1)) j = sc sec / 2 ^ (255 - j)
  | 0, _ => by
    obtain ⟨k, _, _, _, k4, _⟩ := tQ h
    rw [num, Nat.sub_zero, Nat.div_eq_of_lt (by rw [show (2 : Nat) ^ 255 = 57896044618658097711785492504343953926634992332820282019728792003956564819968 by decide]; exact k4)]
  | j + 1, hj => by
    obtain ⟨k, _, _, _, _, k5⟩ := tQ h
    have ih := Ks h j (by omega)
    rw [num, ih]
    have e1 : sc sec / 2 ^ (255 - j) = sc sec / 2 ^ (255 - (j + 1)) / 2 := by
      rw [Nat.div_div_eq_div_mul, show 255 - j = (255 - (j + 1)) + 1 by omega, Nat.pow_succ]
    have e2 : bt (rq sec) (j + 1) = decide (sc sec / 2 ^ (255 - (j + 1)) % 2 = 1) := by
      unfold bt
      rw [← k5]
      refine decide_eq_decide.2 ?_
      have e3 : ((sc sec : Nat) : Int) / 2 ^ (255 - (j + 1)) % 2 = ((sc sec / 2 ^ (255 - (j + 1)) % 2 : Nat) : Int) := by
        rw [Int.natCast_emod, Int.natCast_ediv, Int.natCast_pow]; rfl
      rw [e3]
      omega
    rw [e1, e2]
    generalize sc sec / 2 ^ (255 - (j + 1)) = x
    by_cases hx : x % 2 = 1
    · rw [decide_eq_true hx, if_pos rfl]; omega
    · rw [decide_eq_false hx, if_neg (by decide)]; omega
theorem Kt {P : Pt} {u : Int} (hP : On P) (h1 : P.2 ≠ 1) (h2 : P.2 ≠ -1) (hu : ph u * (1 - P.2) = 1 + P.2) {sec : List Int} (h : ak sec = true) : ph (Al sec u) = uA (cY P (sc sec)) := by
  rw [V1 hP h1 h2 hu, Ks h 255 (by omega), Nat.sub_self, Nat.pow_zero, Nat.div_one]
theorem Ku {a b : Nat} (ha : 0 < a ∧ a < LN) (hb : 0 < b ∧ b < LN) : ¬ LN ∣ 8 * a * (8 * b) * 2 := by
  intro h
  have lt : ∀ x, 0 < x → x < LN → ¬ LN ∣ x := fun x h0 h1 h2 => by
    have := Nat.le_of_dvd h0 h2
    omega
  rcases vb.rL h with h | h
  · rcases vb.rL h with h | h
    · rcases vb.rL h with h | h
      · exact lt 8 (by omega) (by decide) h
      · exact lt a ha.1 ha.2 h
    · rcases vb.rL h with h | h
      · exact lt 8 (by omega) (by decide) h
      · exact lt b hb.1 hb.2 h
  · exact lt 2 (by omega) (by decide) h
theorem P1 {a : Nat} (ha : 0 < a ∧ a < LN) : ¬ LN ∣ 8 * a * 2 := fun h => Ku ha (b := 1) (by decide) (by
  obtain ⟨k, hk⟩ := h
  exact ⟨k * 8, by rw [← Nat.mul_assoc LN k 8, ← hk]; omega⟩)
theorem abg {A : Pt} (h1 : A.2 ≠ 1) (h2 : A.2 ≠ -1) : uA A ≠ 0 := fun h => by
  have hk := cT (a := 1 - A.2) fun q => h1 (j_n _ q)
  rcases dF h with q | q
  · exact h2 (j_p _ q)
  · rw [q] at hk
    exact absurd (show (0 : Fp) = 1 by rw [← hk]; generalize 1 - A.2 = w; grobner) (by decide)
theorem af4 {A : Pt} (h1 : A.2 ≠ 1) : uA A * (1 - A.2) = 1 + A.2 := by
  exact j_u _ _ (cT (a := 1 - A.2) fun q => h1 (j_n _ q))
theorem yT (sec : List Int) (n : Int) : uP (aK sec n) = Al sec n := by
  obtain ⟨h0, h1⟩ := nU sec n
  have hP := jm
  unfold uP aK
  rw [aC, vc 32 _ h0 (by rw [Kr]; omega), Int.emod_eq_of_lt h0 (by omega), Int.emod_eq_of_lt h0 h1]
theorem V5 {sec : List Int} (h : ak sec = true) : ph (Al sec 9) = uA (cY gZ (sc sec)) := Kt jC Dh Kp Kq h
theorem yU {s d : List Int} (hs : ak s = true) (hd : ak d = true) : ph (Al d (Al s 9)) = uA (cY gZ (sc s * sc d)) ∧ (cY gZ (sc s * sc d)).2 ≠ 1 ∧ (cY gZ (sc s * sc d)).2 ≠ -1 := by
  obtain ⟨a, a1, a2, a3, _, _⟩ := tQ hs
  obtain ⟨b, b1, b2, b3, _, _⟩ := tQ hd
  obtain ⟨p1, p2⟩ := Tx (k := sc s) (by rw [a1]; exact P1 ⟨a2, a3⟩)
  refine ⟨?_, Tx (by rw [a1, b1]; exact Ku ⟨a2, a3⟩ ⟨b2, b3⟩)⟩
  rw [Kt (lq jC (sc s)) p1 p2 (by rw [V5 hs]; exact af4 p1) hd, qj jC]
theorem tU {s d : List Int} (hs : ak s = true) (hd : ak d = true) : gr d (aK s 9) = gr s (aK d 9) := by
  unfold gr
  rw [yT, yT]
  have e : Al d (Al s 9) = Al s (Al d 9) := Di (nU _ _) (nU _ _) (by rw [(yU hs hd).1, (yU hd hs).1, Nat.mul_comm])
  unfold aK
  rw [e]
theorem Ty {s d : List Int} (hs : ak s = true) (hd : ak d = true) : oY d (aK s 9) = false := by
  unfold oY
  refine decide_eq_false fun h => ?_
  obtain ⟨k1, k2, k3⟩ := yU hs hd
  obtain ⟨h0, h1⟩ := nU d (Al s 9)
  have hP := jm
  unfold gr at h
  rw [yT] at h
  unfold aK at h
  rw [aC] at h
  have := congrArg aW h
  rw [vc 32 _ h0 (by rw [Kr]; omega), show aW gA = 0 by decide] at this
  rw [this, lu] at k1
  exact abg k2 k3 k1.symm
end Go.Proofs.YtibfpjeeanppjaaGreat.La
end
