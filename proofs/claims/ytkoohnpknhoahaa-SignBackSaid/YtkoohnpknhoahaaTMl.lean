/- This file proves which point of the curve a point of the program, and of the reference, stands for: sums, negatives, bytes, equality. Conditions: points that stand for one. -/
import Derived.Test.YtkoohnpknhoahaaTMk
import Derived.Test.YtkoohnpknhoahaaTMj
set_option linter.all false
namespace Go.Proofs.Ytkoohnpknhoahaa.Po
open Go Go.Sy Re Fe
theorem id_sumX {n : Nat} [NeZero n] (a1 a2 b1 b2 d x1 y1 z1 t1 x2 y2 z2 t2 u : Fin n) (hx : x1 = a1 * z1) (hy : y1 = a2 * z1) (ht : t1 = a1 * a2 * z1) (hx' : x2 = b1 * z2) (hy' : y2 = b2 * z2) (ht' : t2 = b1 * b2 * z2) (hu : (1 + d * a1 * b1 * a2 * b2) * u = 1) :
    ((y1 + x1) * (y2 + x2) - (y1 - x1) * (y2 - x2)) * (z1 * z2 + z1 * z2 - (t1 * d * t2 + t1 * d * t2)) = (a1 * b2 + a2 * b1) * u * ((z1 * z2 + z1 * z2 - (t1 * d * t2 + t1 * d * t2)) * (z1 * z2 + z1 * z2 + (t1 * d * t2 + t1 * d * t2))) := by
  subst hx hy ht hx' hy' ht'; grobner
theorem id_sumY {n : Nat} [NeZero n] (a1 a2 b1 b2 d x1 y1 z1 t1 x2 y2 z2 t2 v : Fin n) (hx : x1 = a1 * z1) (hy : y1 = a2 * z1) (ht : t1 = a1 * a2 * z1) (hx' : x2 = b1 * z2) (hy' : y2 = b2 * z2) (ht' : t2 = b1 * b2 * z2) (hv : (1 - d * a1 * b1 * a2 * b2) * v = 1) :
    (z1 * z2 + z1 * z2 + (t1 * d * t2 + t1 * d * t2)) * ((y1 + x1) * (y2 + x2) + (y1 - x1) * (y2 - x2)) = (a2 * b2 + a1 * b1) * v * ((z1 * z2 + z1 * z2 - (t1 * d * t2 + t1 * d * t2)) * (z1 * z2 + z1 * z2 + (t1 * d * t2 + t1 * d * t2))) := by
  subst hx hy ht hx' hy' ht'; grobner
theorem id_sumT {n : Nat} [NeZero n] (a1 a2 b1 b2 d x1 y1 z1 t1 x2 y2 z2 t2 u v : Fin n) (hx : x1 = a1 * z1) (hy : y1 = a2 * z1) (ht : t1 = a1 * a2 * z1) (hx' : x2 = b1 * z2) (hy' : y2 = b2 * z2) (ht' : t2 = b1 * b2 * z2) (hu : (1 + d * a1 * b1 * a2 * b2) * u = 1) (hv : (1 - d * a1 * b1 * a2 * b2) * v = 1) :
    ((y1 + x1) * (y2 + x2) - (y1 - x1) * (y2 - x2)) * ((y1 + x1) * (y2 + x2) + (y1 - x1) * (y2 - x2)) = ((a1 * b2 + a2 * b1) * u) * ((a2 * b2 + a1 * b1) * v) * ((z1 * z2 + z1 * z2 - (t1 * d * t2 + t1 * d * t2)) * (z1 * z2 + z1 * z2 + (t1 * d * t2 + t1 * d * t2))) := by
  subst hx hy ht hx' hy' ht'; grobner
theorem id_sumZ {n : Nat} [NeZero n] (a1 a2 b1 b2 d z1 t1 z2 t2 : Fin n) (ht : t1 = a1 * a2 * z1) (ht' : t2 = b1 * b2 * z2) :
    (z1 * z2 + z1 * z2 - (t1 * d * t2 + t1 * d * t2)) = 2 * (z1 * z2 * (1 - d * a1 * b1 * a2 * b2)) ∧ (z1 * z2 + z1 * z2 + (t1 * d * t2 + t1 * d * t2)) = 2 * (z1 * z2 * (1 + d * a1 * b1 * a2 * b2)) := by
  subst ht ht'; constructor <;> grobner
theorem id_refX {n : Nat} [NeZero n] (a1 a2 b1 b2 d x1 y1 z1 x2 y2 z2 u : Fin n) (hx : x1 = a1 * z1) (hy : y1 = a2 * z1) (hx' : x2 = b1 * z2) (hy' : y2 = b2 * z2) (hu : (1 + d * a1 * b1 * a2 * b2) * u = 1) :
    z1 * z2 * ((z1 * z2 * (z1 * z2) - d * (x1 * x2 * (y1 * y2))) * ((x1 + y1) * (x2 + y2) - x1 * x2 - y1 * y2)) = (a1 * b2 + a2 * b1) * u * ((z1 * z2 * (z1 * z2) - d * (x1 * x2 * (y1 * y2))) * (z1 * z2 * (z1 * z2) + d * (x1 * x2 * (y1 * y2)))) := by
  subst hx hy hx' hy'; grobner
theorem id_refY {n : Nat} [NeZero n] (a1 a2 b1 b2 d x1 y1 z1 x2 y2 z2 v : Fin n) (hx : x1 = a1 * z1) (hy : y1 = a2 * z1) (hx' : x2 = b1 * z2) (hy' : y2 = b2 * z2) (hv : (1 - d * a1 * b1 * a2 * b2) * v = 1) :
    z1 * z2 * ((z1 * z2 * (z1 * z2) + d * (x1 * x2 * (y1 * y2))) * (y1 * y2 + x1 * x2)) = (a2 * b2 + a1 * b1) * v * ((z1 * z2 * (z1 * z2) - d * (x1 * x2 * (y1 * y2))) * (z1 * z2 * (z1 * z2) + d * (x1 * x2 * (y1 * y2)))) := by
  subst hx hy hx' hy'; grobner
theorem id_refZ {n : Nat} [NeZero n] (a1 a2 b1 b2 d x1 y1 z1 x2 y2 z2 : Fin n) (hx : x1 = a1 * z1) (hy : y1 = a2 * z1) (hx' : x2 = b1 * z2) (hy' : y2 = b2 * z2) :
    (z1 * z2 * (z1 * z2) - d * (x1 * x2 * (y1 * y2))) = (z1 * z2) * (z1 * z2) * (1 - d * a1 * b1 * a2 * b2) ∧ (z1 * z2 * (z1 * z2) + d * (x1 * x2 * (y1 * y2))) = (z1 * z2) * (z1 * z2) * (1 + d * a1 * b1 * a2 * b2) := by
  subst hx hy hx' hy'; constructor <;> grobner
theorem id_frac2 {n : Nat} [NeZero n] (x a z i : Fin n) (h : x = a * z) (hi : z * i = 1) : x * i = a := by grobner
theorem id_negX {n : Nat} [NeZero n] (x a z : Fin n) (h : x = a * z) : 0 - x = (0 - a) * z := by grobner
theorem id_negT {n : Nat} [NeZero n] (x a b z : Fin n) (h : x = a * b * z) : 0 - x = (0 - a) * b * z := by grobner
theorem id_one {n : Nat} [NeZero n] (x : Fin n) : x = x * 1 := by grobner
structure RV (v : V4) (A : Pt) : Prop where
  on : On A
  z : ph v.2.2.1 ≠ 0
  zr : 0 ≤ v.2.2.1 ∧ v.2.2.1 < Pm
  x : ph v.1 = A.1 * ph v.2.2.1
  y : ph v.2.1 = A.2 * ph v.2.2.1
  t : ph v.2.2.2 = A.1 * A.2 * ph v.2.2.1
structure RW (v : V3) (A : Pt) : Prop where
  on : On A
  z : ph v.2.2 ≠ 0
  zr : 0 ≤ v.2.2 ∧ v.2.2 < Pm
  x : ph v.1 = A.1 * ph v.2.2
  y : ph v.2.1 = A.2 * ph v.2.2
theorem sum_RV {a b : V4} {A B : Pt} (ha : RV a A) (hb : RV b B) : RV (sumV dV a b) (addA A B) := by
  have hp := cc_p ha.on hb.on
  have hm := cc_m ha.on hb.on
  have hu := fi_mul hp
  have hv := fi_mul hm
  obtain ⟨z1, z2⟩ := id_sumZ A.1 A.2 B.1 B.2 dP (ph a.2.2.1) (ph a.2.2.2) (ph b.2.2.1) (ph b.2.2.2) ha.t hb.t
  have hw := noz2 ha.z hb.z
  refine ⟨add_on ha.on hb.on, ?_, mod_range _, ?_, ?_, ?_⟩
  · show ph (mm _ _) ≠ 0
    simp only [ph_mm, ph_ma, ph_ms]
    rw [show ph dV = dP from rfl, z1, z2]
    exact noz2 (noz2 two_ne (noz2 hw hm)) (noz2 two_ne (noz2 hw hp))
  · show ph (mm _ _) = _ * ph (mm _ _)
    simp only [ph_mm, ph_ma, ph_ms]
    exact id_sumX A.1 A.2 B.1 B.2 dP _ _ _ _ _ _ _ _ _ ha.x ha.y ha.t hb.x hb.y hb.t hu
  · show ph (mm _ _) = _ * ph (mm _ _)
    simp only [ph_mm, ph_ma, ph_ms]
    exact id_sumY A.1 A.2 B.1 B.2 dP _ _ _ _ _ _ _ _ _ ha.x ha.y ha.t hb.x hb.y hb.t hv
  · show ph (mm _ _) = _ * ph (mm _ _)
    simp only [ph_mm, ph_ma, ph_ms]
    exact id_sumT A.1 A.2 B.1 B.2 dP _ _ _ _ _ _ _ _ _ _ ha.x ha.y ha.t hb.x hb.y hb.t hu hv
theorem sum_RW {a b : V3} {A B : Pt} (ha : RW a A) (hb : RW b B) : RW (addV dV a b) (addA A B) := by
  have hp := cc_p ha.on hb.on
  have hm := cc_m ha.on hb.on
  have hu := fi_mul hp
  have hv := fi_mul hm
  obtain ⟨z1, z2⟩ := id_refZ A.1 A.2 B.1 B.2 dP (ph a.1) (ph a.2.1) (ph a.2.2) (ph b.1) (ph b.2.1) (ph b.2.2) ha.x ha.y hb.x hb.y
  have hw := noz2 ha.z hb.z
  refine ⟨add_on ha.on hb.on, ?_, mod_range _, ?_, ?_⟩
  · show ph (mm _ _) ≠ 0
    simp only [ph_mm, ph_ma, ph_ms]
    rw [show ph dV = dP from rfl, z1, z2]
    exact noz2 (noz2 (noz2 hw hw) hm) (noz2 (noz2 hw hw) hp)
  · show ph (mm _ _) = _ * ph (mm _ _)
    simp only [ph_mm, ph_ma, ph_ms]
    exact id_refX A.1 A.2 B.1 B.2 dP _ _ _ _ _ _ _ ha.x ha.y hb.x hb.y hu
  · show ph (mm _ _) = _ * ph (mm _ _)
    simp only [ph_mm, ph_ma, ph_ms]
    exact id_refY A.1 A.2 B.1 B.2 dP _ _ _ _ _ _ _ ha.x ha.y hb.x hb.y hv
theorem neg_RV {a : V4} {A : Pt} (ha : RV a A) : RV (ms 0 a.1, a.2.1, a.2.2.1, ms 0 a.2.2.2) (negA A) :=
  ⟨neg_on ha.on, ha.z, ha.zr, by rw [ph_ms, ph_zero]; exact id_negX _ A.1 _ ha.x, ha.y, by rw [ph_ms, ph_zero]; exact id_negT _ A.1 A.2 _ ha.t⟩
def RP (p : PP) (A : Pt) : Prop := ∃ v, VW p v ∧ RV v A
def RQ (q : QP) (A : Pt) : Prop := ∃ v, VQ q v ∧ RW v A
theorem RV.nz {v : V4} {A : Pt} (h : RV v A) : v.2.2.1 ≠ 0 := fun q => h.z (by rw [q]; rfl)
theorem RP.l {p : PP} {A : Pt} (h : RP p A) : lenZ p = true := by obtain ⟨v, h1, _⟩ := h; exact h1.l
theorem RP.on {p : PP} {A : Pt} (h : RP p A) : On A := by obtain ⟨v, _, h1⟩ := h; exact h1.on
theorem RQ.ok {q : QP} {A : Pt} (h : RQ q A) : okQ q = true := by obtain ⟨v, h1, _⟩ := h; exact h1.ok
theorem RQ.on {q : QP} {A : Pt} (h : RQ q A) : On A := by obtain ⟨v, _, h1⟩ := h; exact h1.on
theorem VP.rp {p : PP} {v : V4} {A : Pt} (h : VP p v) (r : RV v A) : RP p A := ⟨v, h.whole r.nz, r⟩
theorem RP.add {p q : PP} {A B : Pt} (hp : RP p A) (hq : RP q B) : RP (addP p q) (addA A B) := by
  obtain ⟨v, v1, v2⟩ := hp
  obtain ⟨w, w1, w2⟩ := hq
  exact (add_VW v1 w1).rp (sum_RV v2 w2)
theorem RP.neg {p : PP} {A : Pt} (hp : RP p A) : RP (negP p) (negA A) := by
  obtain ⟨v, v1, v2⟩ := hp
  exact (neg_VW v1).rp (neg_RV v2)
theorem RQ.add {p q : QP} {A B : Pt} (hp : RQ p A) (hq : RQ q B) : RQ (addQ p q) (addA A B) := by
  obtain ⟨v, v1, v2⟩ := hp
  obtain ⟨w, w1, w2⟩ := hq
  have := add_valQ v1 w1
  rw [dR_val] at this
  exact ⟨_, this, sum_RW v2 w2⟩
theorem RQ.neg {q : QP} {A : Pt} (hq : RQ q A) : RQ (negQ q) (negA A) := by
  obtain ⟨v, v1, v2⟩ := hq
  refine ⟨(ms 0 v.1, v.2.1, v.2.2), ⟨?_, ?_, v1.fy, v1.fz⟩, ⟨neg_on v2.on, v2.z, v2.zr, by rw [ph_ms, ph_zero]; exact id_negX _ A.1 _ v2.x, v2.y⟩⟩
  · have := okQ_iff.1 v1.ok
    exact okQ_iff.2 ⟨refM_okN _, this.2⟩
  · show vR (RS z16 q.1) = _
    rw [vR_refM, v1.fx, show vR z16 = 0 by decide]; rfl
theorem zero_RP : RP zeroP zeroA := ⟨_, zero_VW, ⟨zero_on, by show ph 1 ≠ 0; decide, ⟨by decide, by decide⟩, by show ph 0 = 0 * ph 1; decide, by show ph 1 = 1 * ph 1; decide, by show ph 0 = 0 * 1 * ph 1; decide⟩⟩
theorem noth_RQ : RQ nothQ zeroA := ⟨_, nothQ_val, ⟨zero_on, by show ph 1 ≠ 0; decide, ⟨by decide, by decide⟩, by show ph 0 = 0 * ph 1; decide, by show ph 1 = 1 * ph 1; decide⟩⟩
def encA (A : Pt) : List Int := encB (A.2.val : Int) (decide ((A.1.val : Int) % 2 = 1))
theorem quo_val {x z : Int} {a : Fp} (hz : ph z ≠ 0) (hr : 0 ≤ z ∧ z < Pm) (h : ph x = a * ph z) : mm x (inv z) = (a.val : Int) := by
  have h1 : ph (mm x (inv z)) = a := by
    rw [ph_mm, ph_inv z hr.1 hr.2]
    exact id_frac2 _ _ _ _ h (fi_mul hz)
  rw [← h1]
  exact (ph_val (x := mm x (inv z)) (mod_range (x * inv z)).1 (mod_range (x * inv z)).2).symm
theorem RP.bytes {p : PP} {A : Pt} (hp : RP p A) : bytesP p = encA A := by
  obtain ⟨v, v1, v2⟩ := hp
  rw [bytes_VW v1, quo_val v2.z v2.zr v2.x, quo_val v2.z v2.zr v2.y]
  rfl
theorem RQ.bytes {q : QP} {A : Pt} (hq : RQ q A) : bytesQ q = encA A := by
  obtain ⟨v, v1, v2⟩ := hq
  rw [bytesQ_val v1, quo_val v2.z v2.zr v2.x, quo_val v2.z v2.zr v2.y]
  rfl
end Go.Proofs.Ytkoohnpknhoahaa.Po
namespace Go.Proofs.Ytkoohnpknhoahaa.Po
open Go Go.Sy Re Fe
def pwF (a : Fp) (n : Nat) : Fp := Fin.ofNat PN (a.val ^ n)
theorem pwF_add (a : Fp) (m n : Nat) : pwF a (m + n) = pwF a m * pwF a n := by
  refine Fin.ext ?_
  show a.val ^ (m + n) % PN = a.val ^ m % PN * (a.val ^ n % PN) % PN
  rw [← Nat.mul_mod, ← Nat.pow_add]
theorem pwF_two (a : Fp) : pwF a 2 = a * a := by
  refine Fin.ext ?_
  show a.val ^ 2 % PN = a.val * a.val % PN
  rw [Nat.pow_two]
theorem pwF_sq (a : Fp) (n : Nat) : pwF (a * a) n = pwF a n * pwF a n := by
  refine Fin.ext ?_
  show (a.val * a.val % PN) ^ n % PN = a.val ^ n % PN * (a.val ^ n % PN) % PN
  rw [← Nat.pow_mod, Nat.mul_pow, ← Nat.mul_mod]
theorem ph_pwm {x : Int} (n : Nat) (h0 : 0 ≤ x) (h1 : x < Pm) : ph (pwm x n) = pwF (ph x) n := by
  obtain ⟨m, rfl⟩ := Int.eq_ofNat_of_zero_le h0
  refine Fin.ext ?_
  have e : ((ph (m : Int)).val : Int) = m := ph_val h0 h1
  have e' : (ph (m : Int)).val = m := by omega
  unfold pwF
  rw [e']
  unfold pwm ph
  rw [Int.emod_emod]
  show ((m : Int) ^ n % Pm).toNat % PN = m ^ n % PN
  rw [← PN_eq, ← Int.natCast_pow, ← Int.natCast_emod, Int.toNat_natCast, Nat.mod_mod]
theorem pwF_one {a : Fp} (h : a ≠ 0) : pwF a PH * pwF a PH = 1 := by
  rw [← pwF_add, show PH + PH = PF by decide]
  refine Fin.ext ?_
  have := fermat (m := a.val) (Nat.pos_of_ne_zero fun q => h (Fin.ext q)) a.isLt
  show a.val ^ PF % PN = 1
  exact this
theorem id_sqs {n : Nat} [NeZero n] (w : Fin n) (h : w * w = 1) : (w - 1) * (w + 1) = 0 := by grobner
theorem id_sq2 {n : Nat} [NeZero n] (a b : Fin n) (h : a * a = b * b) : (a - b) * (a + b) = 0 := by grobner
theorem id_sub {n : Nat} [NeZero n] (a b : Fin n) (h : a - b = 0) : a = b := by grobner
theorem id_sub' {n : Nat} [NeZero n] (a b : Fin n) (h : a + b = 0) : a = 0 - b := by grobner
theorem id_rt1 {n : Nat} [NeZero n] (a k w s : Fin n) (h : k * k * (s * s) = w) (e : a = k * (s * s)) (hw : w = 1 ∨ s = 0) : a * a = s * s := by
  rcases hw with h1 | h1
  · grobner
  · subst h1; grobner
theorem id_rt2 {n : Nat} [NeZero n] (a k w s i : Fin n) (h : k * k * (s * s) = w) (e : a = k * (s * s)) (hw : w = 0 - 1) (hi : i * i = -1) : (a * i) * (a * i) = s * s := by grobner
theorem j_val : pwm 2 ((Pm - 1) / 4).toNat = 19681161376707505956807079304988542015446066515923890162744021073123829784752 := by
  rw [pwm_pwi (by decide) (by decide)]
  decide +kernel
theorem ph_rA {u : Int} (h0 : 0 ≤ u) (h1 : u < Pm) {s : Fp} (hs : s * s = ph u) : ∃ k, ph (rA u) = k * (s * s) ∧ k * k * (s * s) = pwF s PH := by
  refine ⟨pwF (s * s) ((Pm - 5) / 8).toNat, ?_, ?_⟩
  · unfold rA
    rw [ph_emod, ph_mul, ph_pwm _ h0 h1, hs]
  · have e : PH = ((Pm - 5) / 8).toNat + ((Pm - 5) / 8).toNat + (((Pm - 5) / 8).toNat + ((Pm - 5) / 8).toNat) + 2 := by decide
    rw [pwF_sq, e]
    generalize ((Pm - 5) / 8).toNat = K
    rw [pwF_add, pwF_add, pwF_add, pwF_two]
theorem root_some {u : Int} (h0 : 0 ≤ u) (h1 : u < Pm) {s : Fp} (hs : s * s = ph u) : ∃ r, rootV u = some r := by
  obtain ⟨k, k1, k2⟩ := ph_rA h0 h1 hs
  have key : rB u * rB u % Pm = u := by
    refine ph_inj (mod_range _) ⟨h0, h1⟩ ?_
    rw [ph_emod, ph_mul]
    unfold rB
    by_cases hc : rA u * rA u % Pm = u
    · rw [if_pos hc, ← ph_mul, ← ph_emod, hc]
    · rw [if_neg hc, ph_emod, ph_mul, j_val]
      have no : ¬ (pwF s PH = 1 ∨ s = 0) := fun q => hc (by
        refine ph_inj (mod_range _) ⟨h0, h1⟩ ?_
        rw [ph_emod, ph_mul, id_rt1 _ k _ s k2 k1 q, hs])
      have hw := pwF_one (a := s) fun q => no (.inr q)
      have : pwF s PH = 0 - 1 := (fp_noz (id_sqs _ hw)).elim (fun q => absurd (.inl (id_sub _ _ q)) no) (id_sub' _ _)
      rw [← hs]
      exact id_rt2 _ k _ s iP k2 k1 this iP_sq
  unfold rootV
  rw [if_pos key]
  exact ⟨_, rfl⟩
theorem id_neg2 {n : Nat} [NeZero n] (a : Fin n) : (0 - a) * (0 - a) = a * a := by grobner
theorem root_sq {u r : Int} (h : rootV u = some r) : ph r * ph r = ph u := by
  unfold rootV at h
  split at h
  · rename_i hc
    cases h
    have e : ph (rB u) * ph (rB u) = ph u := by rw [← ph_mul, ← ph_emod, hc]
    split
    · rw [ph_emod, ph_sub, ph_zero, id_neg2, e]
    · exact e
  · cases h
theorem id_und {n : Nat} [NeZero n] (i d y : Fin n) (hi : i * i = -1) (h : d * (y * y) + 1 = 0) : i * i = d * (y * y) := by grobner
theorem und_ne (y : Fp) : dP * (y * y) + 1 ≠ 0 := fun h => by
  have hy := sq_no (id_und iP dP y iP_sq h)
  rw [hy] at h
  exact absurd h (by decide)
theorem ph_uV (y : Int) : ph (uV y) = (ph y * ph y - 1) * fi (dP * (ph y * ph y) + 1) := by
  unfold uV
  rw [ph_mm, ph_ms, ph_mm, ph_inv (ma (mm dV (mm y y)) 1) (mod_range _).1 (mod_range _).2, ph_ma, ph_mm, ph_mm, ph_one]
  rfl
theorem id_on {n : Nat} [NeZero n] (x y d v : Fin n) (h : (d * (y * y) + 1) * v = 1) (e : x * x = (y * y - 1) * v) : y * y - x * x = 1 + d * x * x * y * y := by grobner
theorem id_on' {n : Nat} [NeZero n] (x y d v : Fin n) (h : (d * (y * y) + 1) * v = 1) (e : y * y - x * x = 1 + d * x * x * y * y) : x * x = (y * y - 1) * v := by grobner
theorem on_iff (x y : Int) : On (ph x, ph y) ↔ ph x * ph x = ph (uV y) := by
  rw [ph_uV]
  exact ⟨fun h => id_on' _ _ dP _ (fi_mul (und_ne _)) h, fun h => id_on _ _ dP _ (fi_mul (und_ne _)) h⟩
theorem xV_sq {y x : Int} {o : Bool} (h : xV y o = some x) : ph x * ph x = ph (uV y) := by
  unfold xV at h
  split at h
  · cases h
  · rename_i r hr
    split at h
    · cases h
    · cases h
      cases o with
      | false => exact root_sq hr
      | true =>
        show ph (ms 0 r) * ph (ms 0 r) = _
        rw [ph_ms, ph_zero, id_neg2, root_sq hr]
theorem one_r : (0 : Int) ≤ 1 ∧ (1 : Int) < Pm := ⟨by decide, by decide⟩
theorem rv_one {x y t : Int} (hx : ph x * ph x = ph (uV y)) (ht : t = mm x y) : RV (x, y, 1, t) (ph x, ph y) ∧ RW (x, y, 1) (ph x, ph y) := by
  have h1 : ph 1 = 1 := ph_one
  have ho := (on_iff x y).2 hx
  refine ⟨⟨ho, ?_, one_r, ?_, ?_, ?_⟩, ⟨ho, ?_, one_r, ?_, ?_⟩⟩
  · show ph 1 ≠ 0; decide
  · show ph x = ph x * ph 1; rw [h1]; exact id_one _
  · show ph y = ph y * ph 1; rw [h1]; exact id_one _
  · show ph t = ph x * ph y * ph 1; rw [h1, ht, ph_mm]; exact id_one _
  · show ph 1 ≠ 0; decide
  · show ph x = ph x * ph 1; rw [h1]; exact id_one _
  · show ph y = ph y * ph 1; rw [h1]; exact id_one _
theorem yV_range (b : List Int) : 0 ≤ yV b ∧ yV b < Pm := mod_range _
theorem from_pt {b : List Int} (hb : keyOK b = true) : ∃ A, RP (frP b) A ∧ RQ (frQ b) A ∧ (frOk b = true → encA A = b) := by
  obtain ⟨_, h⟩ := from_rel hb
  rcases h with ⟨h1, x, hx, h3, h4, h5, h6, h7⟩ | ⟨h1, h2, h3⟩
  · have hr := rv_one (xV_sq hx) (t := mm x (yV b)) rfl
    refine ⟨(ph x, ph (yV b)), h3.rp hr.1, ⟨_, h4, hr.2⟩, fun _ => ?_⟩
    unfold encA
    rw [ph_val h6.1 h6.2, ph_val (yV_range b).1 (yV_range b).2, h5]
    exact enc_back hb h7
  · refine ⟨zeroA, ?_, ?_, fun h => ?_⟩
    · rw [h2]; exact zero_RP
    · rw [h3]; exact noth_RQ
    · rw [h1] at h; cases h
theorem par_eq {a b : Fp} (h : a * a = b * b) (hp : decide ((a.val : Int) % 2 = 1) = decide ((b.val : Int) % 2 = 1)) : a = b := by
  rcases fp_noz (id_sq2 a b h) with h1 | h1
  · exact id_sub a b h1
  · have h2 := id_sub' a b h1
    by_cases hb : b.val = 0
    · have : b = 0 := Fin.ext hb
      rw [h2, this]; decide
    · exfalso
      have e : a.val = PN - b.val := by
        rw [h2]
        show (PN - b.val + 0) % PN = PN - b.val
        rw [Nat.add_zero, Nat.mod_eq_of_lt (by have := b.isLt; omega)]
      have hP : PN = 57896044618658097711785492504343953926634992332820282019728792003956564819949 := rfl
      have := b.isLt
      have := decide_eq_decide.1 hp
      rw [e] at this
      omega
theorem val_lt (a : Fp) : 0 ≤ (a.val : Int) ∧ (a.val : Int) < Pm := ⟨Int.natCast_nonneg _, by have := a.isLt; have := PN_eq; omega⟩
theorem enc_ok {n : Int} (h0 : 0 ≤ n) (h1 : n < Pm) (o : Bool) : keyOK (encB n o) = true ∧ rlowB (encB n o) = digN 32 n ∧ rtopB (encB n o) = o := by
  have hs := top_small h0 h1
  have hl := digN_length 32 n
  have hu := digN_u8 32 n
  have hd : (digN 32 n).getD 31 0 = n / 256 ^ 31 % 256 := digN_getD 32 31 n (by omega)
  have hset : ∀ v : Int, (digN 32 n).set 31 v = digN 32 n → True := fun _ _ => trivial
  have back : (digN 32 n).set 31 (n / 256 ^ 31 % 256) = digN 32 n := by
    apply List.ext_getElem?
    intro i
    by_cases hi : 31 = i
    · subst hi
      rw [List.getElem?_set_self (by omega), ← hd, List.getD_eq_getElem?_getD, List.getElem?_eq_getElem (by omega)]; rfl
    · rw [List.getElem?_set_ne hi]
  cases o with
  | false =>
    have e : encB n false = digN 32 n := rfl
    rw [e]
    refine ⟨keyOK_iff.2 ⟨hl, hu⟩, ?_, ?_⟩
    · unfold rlowB
      rw [lst_eq hl, hd, Int.tmod_eq_emod_of_nonneg hs.1, Int.emod_eq_of_lt hs.1 hs.2, back]
    · unfold rtopB
      rw [hd]
      exact decide_eq_false (by omega)
  | true =>
    have e : encB n true = (digN 32 n).set 31 (n / 256 ^ 31 % 256 + 128) := rfl
    have hl' : ((digN 32 n).set 31 (n / 256 ^ 31 % 256 + 128)).length = 32 := by rw [List.length_set, hl]
    have hd' : ((digN 32 n).set 31 (n / 256 ^ 31 % 256 + 128)).getD 31 0 = n / 256 ^ 31 % 256 + 128 := by
      rw [List.getD_eq_getElem?_getD, List.getElem?_set_self (by omega)]; rfl
    rw [e]
    refine ⟨keyOK_iff.2 ⟨hl', ?_⟩, ?_, ?_⟩
    · rw [List.all_eq_true] at hu ⊢
      intro z hz
      rcases List.mem_or_eq_of_mem_set hz with h | h
      · exact hu z h
      · rw [h, u8_iff]; omega
    · unfold rlowB
      rw [lst_eq hl', hd', Int.tmod_eq_emod_of_nonneg (by omega), List.set_set, show (n / 256 ^ 31 % 256 + 128) % 128 = n / 256 ^ 31 % 256 by omega, back]
    · unfold rtopB
      rw [hd']
      exact decide_eq_true (by omega)
theorem enc_y {n : Int} (h0 : 0 ≤ n) (h1 : n < Pm) (o : Bool) : yV (encB n o) = n := by
  unfold yV
  have hP := Pm_eq
  rw [(enc_ok h0 h1 o).2.1, val_digN 32 n h0 (by rw [show (256 : Int) ^ 32 = 115792089237316195423570985008687907853269984665640564039457584007913129639936 by decide]; omega), Int.emod_eq_of_lt h0 (by omega), Int.emod_eq_of_lt h0 h1]
theorem on_y {A B : Pt} (hA : On A) (hB : On B) (h : A.2 = B.2) : A.1 * A.1 = B.1 * B.1 := by
  have k1 := (on_iff (A.1.val : Int) (A.2.val : Int)).1 (by rw [val_ph, val_ph]; exact hA)
  have k2 := (on_iff (B.1.val : Int) (B.2.val : Int)).1 (by rw [val_ph, val_ph]; exact hB)
  rw [val_ph] at k1 k2
  rw [k1, k2, h]
theorem enc_inj {A B : Pt} (hA : On A) (hB : On B) (h : encA A = encA B) : A = B := by
  unfold encA at h
  have hy : (A.2.val : Int) = B.2.val := by
    have := congrArg yV h
    rwa [enc_y (val_lt _).1 (val_lt _).2, enc_y (val_lt _).1 (val_lt _).2] at this
  have ho := congrArg rtopB h
  rw [(enc_ok (val_lt _).1 (val_lt _).2 _).2.2, (enc_ok (val_lt _).1 (val_lt _).2 _).2.2] at ho
  have hy' : A.2 = B.2 := Fin.ext (by omega)
  exact Prod.ext (par_eq (on_y hA hB hy') ho) hy'
theorem id_sq0 {n : Nat} [NeZero n] (a : Fin n) (h : a = 0) : a * a = 0 := by grobner
theorem from_back {A : Pt} (hA : On A) : frOk (encA A) = true ∧ RP (frP (encA A)) A ∧ RQ (frQ (encA A)) A := by
  have hk := enc_ok (val_lt A.2).1 (val_lt A.2).2 (decide ((A.1.val : Int) % 2 = 1))
  have hy := enc_y (val_lt A.2).1 (val_lt A.2).2 (decide ((A.1.val : Int) % 2 = 1))
  have hu := (on_iff (A.1.val : Int) (A.2.val : Int)).1 (by rw [val_ph, val_ph]; exact hA)
  rw [val_ph] at hu
  obtain ⟨r, hr⟩ := root_some (mod_range _).1 (mod_range _).2 (u := uV A.2.val) hu
  have hx : ∃ x, xV (A.2.val : Int) (decide ((A.1.val : Int) % 2 = 1)) = some x := by
    unfold xV
    rw [hr]
    simp only
    refine ⟨_, if_neg ?_⟩
    intro hc
    have h1 := root_sq hr
    rw [hc.2, ph_zero, id_sq0 _ rfl] at h1
    rw [← h1] at hu
    have h0 : A.1 = 0 := (fp_noz hu).elim id id
    have := of_decide_eq_true hc.1
    rw [h0] at this
    exact absurd this (by decide)
  obtain ⟨x, hx⟩ := hx
  have hb : keyOK (encA A) = true := hk.1
  obtain ⟨i1, i2⟩ := in_eq hb
  have hin : frInR (encA A) = true := by
    unfold frInR
    rw [(yR_val _).2, Lock_eq]
    refine decide_eq_true ?_
    unfold encA
    rw [hy, hk.2.1]
  have hok : frOk (encA A) = true := by
    obtain ⟨f1, f2⟩ := yF_val hb
    obtain ⟨g1, g2⟩ := yR_val (encA A)
    obtain ⟨o1, _, _⟩ := of_rel f1 g1 (f2.trans g2.symm) (rtopB (encA A))
    unfold frOk
    rw [i1, hin, (low_eq hb).2, o1, f2]
    unfold encA
    rw [hy, hk.2.2, hx]
    rfl
  obtain ⟨B, b1, b2, b3⟩ := from_pt hb
  have e := enc_inj b1.on hA (b3 hok)
  subst e
  exact ⟨hok, b1, b2⟩
end Go.Proofs.Ytkoohnpknhoahaa.Po
