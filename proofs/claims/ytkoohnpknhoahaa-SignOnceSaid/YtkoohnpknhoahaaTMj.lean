/- This file proves what the program's and the reference's points stand for, modulo p. Conditions: words as they come from carry; numbers below p. -/
import Derived.Test.YtkoohnpknhoahaaTMi
set_option linter.all false
namespace Go.Proofs.Ytkoohnpknhoahaa.Po
open Go Go.Sy Re Fe
def mm (a b : Int) : Int := a * b % Pm
def ma (a b : Int) : Int := (a + b) % Pm
def ms (a b : Int) : Int := (a - b) % Pm
def inv (a : Int) : Int := pwm a (Pm - 2).toNat
theorem mod_range (a : Int) : 0 ≤ a % Pm ∧ a % Pm < Pm := ⟨Int.emod_nonneg _ (by have := Pm_pos; omega), Int.emod_lt_of_pos _ Pm_pos⟩
theorem fM_val {a b : List Int} (ha : Bd a) (hb : Bd b) : Bd (fM a b) ∧ fv (fM a b) = mm (fv a) (fv b) := mul_val ha hb
abbrev V4 := Int × Int × Int × Int
structure VP (p : PP) (v : V4) : Prop where
  bx : Bd p.1
  by' : Bd p.2.1
  bz : Bd p.2.2.1
  bt : Bd p.2.2.2
  fx : fv p.1 = v.1
  fy : fv p.2.1 = v.2.1
  fz : fv p.2.2.1 = v.2.2.1
  ft : fv p.2.2.2 = v.2.2.2
def sumV (d : Int) (a b : V4) : V4 :=
  let m := mm (ms a.2.1 a.1) (ms b.2.1 b.1)
  let n := mm (ma a.2.1 a.1) (ma b.2.1 b.1)
  let c0 := mm (mm a.2.2.2 d) b.2.2.2
  let d0 := mm a.2.2.1 b.2.2.1
  let e := ms n m
  let f := ms (ma d0 d0) (ma c0 c0)
  let g := ma (ma d0 d0) (ma c0 c0)
  let h := ma n m
  (mm e f, mm g h, mm f g, mm e h)
theorem sum_val {d : List Int} {p q : PP} {a b : V4} (hd : Bd d) (hp : VP p a) (hq : VP q b) : VP (sumP d p q) (sumV (fv d) a b) := by
  obtain ⟨m1, m2⟩ := fM_val (sub_val hp.by' hp.bx).1 (sub_val hq.by' hq.bx).1
  obtain ⟨n1, n2⟩ := fM_val (add_val hp.by' hp.bx).1 (add_val hq.by' hq.bx).1
  obtain ⟨c1, c2⟩ := fM_val (fM_val hp.bt hd).1 hq.bt
  obtain ⟨d1, d2⟩ := fM_val hp.bz hq.bz
  rw [(sub_val hp.by' hp.bx).2, (sub_val hq.by' hq.bx).2, hp.fx, hp.fy, hq.fx, hq.fy] at m2
  rw [(add_val hp.by' hp.bx).2, (add_val hq.by' hq.bx).2, hp.fx, hp.fy, hq.fx, hq.fy] at n2
  rw [(fM_val hp.bt hd).2, hp.ft, hq.ft] at c2
  rw [hp.fz, hq.fz] at d2
  obtain ⟨e1, e2⟩ := sub_val n1 m1
  obtain ⟨h1, h2⟩ := add_val n1 m1
  obtain ⟨f1, f2⟩ := sub_val (add_val d1 d1).1 (add_val c1 c1).1
  obtain ⟨g1, g2⟩ := add_val (add_val d1 d1).1 (add_val c1 c1).1
  rw [n2, m2] at e2 h2
  rw [(add_val d1 d1).2, (add_val c1 c1).2, d2, c2] at f2 g2
  rw [sumP, Lock_eq]
  have E : Bd (sE p q) := e1
  have F : Bd (sF d p q) := f1
  have G : Bd (sG d p q) := g1
  have H : Bd (sH p q) := h1
  exact ⟨(fM_val E F).1, (fM_val G H).1, (fM_val F G).1, (fM_val E H).1,
    by show fv (fM (sE p q) (sF d p q)) = _; rw [(fM_val E F).2]; exact congr (congrArg mm e2) f2,
    by show fv (fM (sG d p q) (sH p q)) = _; rw [(fM_val G H).2]; exact congr (congrArg mm g2) h2,
    by show fv (fM (sF d p q) (sG d p q)) = _; rw [(fM_val F G).2]; exact congr (congrArg mm f2) g2,
    by show fv (fM (sE p q) (sH p q)) = _; rw [(fM_val E H).2]; exact congr (congrArg mm e2) h2⟩
theorem oneF_val : Bd oneF ∧ fv oneF = 1 := by
  obtain ⟨h1, h2⟩ := small_val (n := 1) (by omega) (by omega)
  exact ⟨h1, by unfold oneF fv; rw [h2]; decide⟩
theorem z5_val : fv z5 = 0 := by decide
theorem nothP_val : VP (z5, oneF, oneF, z5) (0, 1, 1, 0) := ⟨Bd.z5, oneF_val.1, oneF_val.1, Bd.z5, z5_val, oneF_val.2, oneF_val.2, z5_val⟩
theorem whole_id {p : PP} {v : V4} (hp : VP p v) (hz : v.2.2.1 ≠ 0) : wholeP p = p := by
  have : isZ p.2.2.1 = false := decide_eq_false fun h => hz (by rw [← hp.fz, h]; exact z5_val)
  unfold wholeP
  rw [this]; rfl
theorem VP.lenZ {p : PP} {v : V4} (hp : VP p v) : lenZ p = true := decide_eq_true hp.bz.len
def encB (n : Int) (o : Bool) : List Int := bif o then (digN 32 n).set 31 (n / 256 ^ 31 % 256 + 128) else digN 32 n
theorem or128 : ∀ x : Int, 0 ≤ x → x < 128 → orI .u8 x 128 = x + 128 := by
  intro x h0 h1
  obtain ⟨n, rfl⟩ := Int.eq_ofNat_of_zero_le h0
  have hn : n < 128 := by omega
  have key : ∀ n : Nat, n < 128 → orI .u8 (n : Int) 128 = n + 128 := by decide
  exact key n hn
theorem top_small {n : Int} (h0 : 0 ≤ n) (h1 : n < Pm) : 0 ≤ n / 256 ^ 31 % 256 ∧ n / 256 ^ 31 % 256 < 128 := by
  rw [Pm_eq] at h1
  rw [show (256 : Int) ^ 31 = 452312848583266388373324160190187140051835877600158453279131187530910662656 by decide]
  omega
theorem bytesP_val {p : PP} {v : V4} (hp : VP p v) (hz : v.2.2.1 ≠ 0) : bytesP p = encB (mm v.2.1 (inv v.2.2.1)) (decide (mm v.1 (inv v.2.2.1) % 2 = 1)) := by
  obtain ⟨i1, i2⟩ := inv_val hp.bz
  rw [hp.fz] at i2
  have i3 : fv (invFe p.2.2.1) = inv v.2.2.1 := i2
  obtain ⟨y1, y2⟩ := fM_val hp.by' i1
  obtain ⟨x1, x2⟩ := fM_val hp.bx i1
  have hy : byY p = digN 32 (mm v.2.1 (inv v.2.2.1)) := by
    unfold byY
    rw [whole_id hp hz, y1.bytes, y2, hp.fy, i3]
  have ho : byO p = decide (mm v.1 (inv v.2.2.1) % 2 = 1) := by
    unfold byO
    rw [whole_id hp hz, odd_val x1, x2, hp.fx, i3]
  have r : 0 ≤ mm v.2.1 (inv v.2.2.1) ∧ mm v.2.1 (inv v.2.2.1) < Pm := mod_range (v.2.1 * inv v.2.2.1)
  have hs := top_small r.1 r.2
  unfold bytesP encB
  rw [ho, hy, digN_getD 32 31 _ (by omega), or128 _ hs.1 hs.2]
abbrev V3 := Int × Int × Int
structure VQ (q : QP) (v : V3) : Prop where
  ok : okQ q = true
  fx : vR q.1 = v.1
  fy : vR q.2.1 = v.2.1
  fz : vR q.2.2 = v.2.2
theorem bytesQ_val {q : QP} {v : V3} (hq : VQ q v) : bytesQ q = encB (mm v.2.1 (inv v.2.2)) (decide (mm v.1 (inv v.2.2) % 2 = 1)) := by
  have hi : vR (RI q.2.2) = inv v.2.2 := by rw [vR_refN (pwm_range _ _).1 (pwm_range _ _).2, hq.fz]; rfl
  have hy : rbY q = digN 32 (mm v.2.1 (inv v.2.2)) := by
    unfold rbY
    rw [Lock_eq, vR_refM, hi, hq.fy]; rfl
  have ho : rbO q = decide (mm v.1 (inv v.2.2) % 2 = 1) := by
    unfold rbO
    rw [odd_part (refN_ok _), vR_refM, hi, hq.fx]
    show (mm v.1 (inv v.2.2) % 2 == 1) = _
    rfl
  have r := mod_range (v.2.1 * inv v.2.2)
  have hs := top_small r.1 r.2
  unfold bytesQ encB
  rw [ho, hy, digN_getD 32 31 _ (by omega), show uw (mm v.2.1 (inv v.2.2) / 256 ^ 31 % 256 + 128) = mm v.2.1 (inv v.2.2) / 256 ^ 31 % 256 + 128 by
    rw [uw, wrap_u8]
    have hs' : 0 ≤ mm v.2.1 (inv v.2.2) / 256 ^ 31 % 256 ∧ mm v.2.1 (inv v.2.2) / 256 ^ 31 % 256 < 128 := hs
    omega]
def addV (d : Int) (a b : V3) : V3 :=
  let z := mm a.2.2 b.2.2
  let b' := mm z z
  let c := mm a.1 b.1
  let d' := mm a.2.1 b.2.1
  let e := mm d (mm c d')
  let f := ms b' e
  let g := ma b' e
  let h := ms (ms (mm (ma a.1 a.2.1) (ma b.1 b.2.1)) c) d'
  (mm z (mm f h), mm z (mm g (ma d' c)), mm f g)
theorem add_valQ {p q : QP} {a b : V3} (hp : VQ p a) (hq : VQ q b) : VQ (addQ p q) (addV (vR (Lock dR)) a b) := by
  rw [addQ, Lock_eq]
  have eA : vR (qA p q) = mm a.2.2 b.2.2 := by unfold qA; rw [vR_refM, hp.fz, hq.fz]; rfl
  have eB : vR (qB p q) = mm (mm a.2.2 b.2.2) (mm a.2.2 b.2.2) := by unfold qB; rw [vR_refM, eA]; rfl
  have eC : vR (qC p q) = mm a.1 b.1 := by unfold qC; rw [vR_refM, hp.fx, hq.fx]; rfl
  have eD : vR (qD p q) = mm a.2.1 b.2.1 := by unfold qD; rw [vR_refM, hp.fy, hq.fy]; rfl
  have eE : vR (qE p q) = mm (vR (Lock dR)) (mm (mm a.1 b.1) (mm a.2.1 b.2.1)) := by unfold qE; rw [vR_refM, vR_refM, eC, eD]; rfl
  have eF : vR (qF p q) = ms (mm (mm a.2.2 b.2.2) (mm a.2.2 b.2.2)) (mm (vR (Lock dR)) (mm (mm a.1 b.1) (mm a.2.1 b.2.1))) := by unfold qF; rw [vR_refM, eB, eE]; rfl
  have eG : vR (qG p q) = ma (mm (mm a.2.2 b.2.2) (mm a.2.2 b.2.2)) (mm (vR (Lock dR)) (mm (mm a.1 b.1) (mm a.2.1 b.2.1))) := by unfold qG; rw [vR_refM, eB, eE]; rfl
  have eK : vR (qK p q) = mm (ma a.1 a.2.1) (ma b.1 b.2.1) := by unfold qK; rw [vR_refM, vR_refM, vR_refM, hp.fx, hp.fy, hq.fx, hq.fy]; rfl
  have eH : vR (qH p q) = ms (ms (mm (ma a.1 a.2.1) (ma b.1 b.2.1)) (mm a.1 b.1)) (mm a.2.1 b.2.1) := by unfold qH; rw [vR_refM, vR_refM, eK, eC, eD]; rfl
  refine ⟨okQ_iff.2 ⟨refM_okN _, refM_okN _, refM_okN _⟩, ?_, ?_, ?_⟩
  · show vR (RM (qA p q) (RM (qF p q) (qH p q))) = _
    rw [vR_refM, vR_refM, eA, eF, eH]; rfl
  · show vR (RM (qA p q) (RM (qG p q) (RA (qD p q) (qC p q)))) = _
    rw [vR_refM, vR_refM, vR_refM, eA, eG, eD, eC]; rfl
  · show vR (RM (qF p q) (qG p q)) = _
    rw [vR_refM, eF, eG]; rfl
theorem nothQ_val : VQ nothQ (0, 1, 1) := ⟨by decide, by decide, by decide, by decide⟩
end Go.Proofs.Ytkoohnpknhoahaa.Po
namespace Go.Proofs.Ytkoohnpknhoahaa.Po
open Go Go.Sy Re Fe
def PN : Nat := 57896044618658097711785492504343953926634992332820282019728792003956564819949
theorem PN_eq : ((PN : Nat) : Int) = Pm := by decide
def pwS (x a : Nat) (b : Bool) : Nat := bif b then a * a % PN * x % PN else a * a % PN
def pwL (x n : Nat) : Nat → Nat
  | 0 => 1
  | j + 1 => pwS x (pwL x n j) (Nat.beq (n / 2 ^ (255 - j) % 2) 1)
theorem pwL_eq (x n : Nat) (hn : n < 2 ^ 256) : ∀ j, j ≤ 256 → pwL x n j = x ^ (n / 2 ^ (256 - j)) % PN
  | 0, _ => by
    rw [pwL, Nat.sub_zero, Nat.div_eq_of_lt hn, Nat.pow_zero]
    decide
  | j + 1, h => by
    have ih := pwL_eq x n hn j (by omega)
    have hE : n / 2 ^ (256 - (j + 1)) = 2 * (n / 2 ^ (256 - j)) + n / 2 ^ (255 - j) % 2 := by
      have h1 : n / 2 ^ (256 - j) = n / 2 ^ (255 - j) / 2 := by
        rw [Nat.div_div_eq_div_mul, show 256 - j = (255 - j) + 1 by omega, Nat.pow_succ]
      rw [h1, show 256 - (j + 1) = 255 - j by omega]
      omega
    have hsq : x ^ (n / 2 ^ (256 - j)) % PN * (x ^ (n / 2 ^ (256 - j)) % PN) % PN = x ^ (2 * (n / 2 ^ (256 - j))) % PN := by
      rw [← Nat.mul_mod, ← Nat.pow_add]; congr 2; omega
    rw [pwL, ih, hE]
    unfold pwS
    cases hb : Nat.beq (n / 2 ^ (255 - j) % 2) 1 with
    | true =>
      have hb' := Nat.eq_of_beq_eq_true hb
      rw [hb', cond_true, hsq, Nat.pow_succ, Nat.mod_mul_mod]
    | false =>
      have hb' : n / 2 ^ (255 - j) % 2 = 0 := by
        have : ¬ n / 2 ^ (255 - j) % 2 = 1 := fun q => by rw [q] at hb; cases hb
        omega
      rw [hb', cond_false, hsq, Nat.add_zero]
theorem pwm_cast (x n : Nat) (hn : n < 2 ^ 256) : pwm (x : Int) n = ((pwL x n 256 : Nat) : Int) := by
  rw [pwL_eq x n hn 256 (Nat.le_refl _), Nat.sub_self, Nat.pow_zero, Nat.div_one]
  unfold pwm
  rw [← PN_eq, Int.natCast_emod, Int.natCast_pow]
def pwi (x : Int) (n : Nat) : Int := ((pwL x.toNat n 256 : Nat) : Int)
theorem pwm_pwi {x : Int} {n : Nat} (h : 0 ≤ x) (hn : n < 2 ^ 256) : pwm x n = pwi x n := by
  obtain ⟨m, rfl⟩ := Int.eq_ofNat_of_zero_le h
  exact pwm_cast m n hn
theorem two_Pm : (Pm - 2).toNat < 2 ^ 256 := by decide
def invi (x : Int) : Int := pwi x (Pm - 2).toNat
theorem inv_invi {x : Int} (h : 0 ≤ x) : inv x = invi x := pwm_pwi h two_Pm
def dV : Int := 37095705934669439343138083508754565189542113879843219016388785533085940283555
theorem dR_val : vR (Lock dR) = dV := by
  rw [Lock_eq]
  unfold dR
  rw [vR_refM]
  decide
theorem dF_val : Bd (Lock dF) ∧ fv (Lock dF) = dV := by
  rw [Lock_eq]
  have s1 := small_val (n := 121664) (by omega) (by omega)
  have h1 : smallFe (-121665) = subFe (subFe z5 (smallFe 121664)) [1, 0, 0, 0, 0] := rfl
  have b1 : Bd [1, 0, 0, 0, 0] := ⟨rfl, by decide, by decide, by decide, by decide, by decide⟩
  obtain ⟨a1, a2⟩ := sub_val Bd.z5 s1.1
  obtain ⟨a3, a4⟩ := sub_val a1 b1
  have s2 := small_val (n := 121666) (by omega) (by omega)
  obtain ⟨i1, i2⟩ := inv_val s2.1
  have h3 : fv (smallFe 121666) = 121666 := by unfold fv; rw [s2.2]; decide
  have h4 : fv (smallFe 121664) = 121664 := by unfold fv; rw [s1.2]; decide
  rw [h3] at i2
  rw [h4, z5_val] at a2
  rw [← h1] at a3 a4
  rw [a2] at a4
  obtain ⟨m1, m2⟩ := fM_val (a := smallFe (-121665)) a3 i1
  refine ⟨m1, ?_⟩
  unfold dF
  rw [m2, a4, i2, pwm_pwi (by decide) two_Pm]
  decide +kernel
end Go.Proofs.Ytkoohnpknhoahaa.Po
namespace Go.Proofs.Ytkoohnpknhoahaa.Po
open Go Go.Sy Re Fe
theorem low128 : ∀ x : Int, 0 ≤ x → x < 256 → andNotI .u8 x 128 = x.tmod 128 ∧ (andI .u8 x 128 != 0) = decide (x ≥ 128) := by
  intro x h0 h1
  obtain ⟨n, rfl⟩ := Int.eq_ofNat_of_zero_le h0
  have key : ∀ n : Nat, n < 256 → andNotI .u8 (n : Int) 128 = (n : Int).tmod 128 ∧ (andI .u8 (n : Int) 128 != 0) = decide ((n : Int) ≥ 128) := by decide +kernel
  exact key n (by omega)
theorem low_eq {b : List Int} (hb : keyOK b = true) : lowB b = rlowB b ∧ topB b = rtopB b := by
  obtain ⟨h1, h2⟩ := keyOK_iff.1 hb
  have p := all_getD h2 (i := 31) (by omega)
  obtain ⟨q1, q2⟩ := low128 _ p.1 p.2
  unfold lowB rlowB topB rtopB
  rw [q1, q2]
  exact ⟨rfl, rfl⟩
def yV (b : List Int) : Int := val256 (rlowB b) % 57896044618658097711785492504343953926634992332820282019728792003956564819968 % Pm
theorem yF_val {b : List Int} (hb : keyOK b = true) : Bd (fromFe (lowB b)) ∧ fv (fromFe (lowB b)) = yV b := by
  obtain ⟨k1, k2⟩ := keyOK_iff.1 (rlowB_ok hb)
  rw [(low_eq hb).1]
  obtain ⟨f1, f2⟩ := from_val k2 k1
  exact ⟨f1, by unfold fv; rw [f2]; rfl⟩
theorem yR_val (b : List Int) : okN (ryB b) = true ∧ vR (ryB b) = yV b := ⟨refM_okN _, vR_refM _⟩
theorem in_eq {b : List Int} (hb : keyOK b = true) : frIn b = frInR b ∧ (frInR b = true → digN 32 (yV b) = rlowB b) := by
  obtain ⟨f1, f2⟩ := yF_val hb
  have e1 : frInR b = decide (digN 32 (yV b) = rlowB b) := by unfold frInR; rw [(yR_val b).2, Lock_eq]
  have e2 : frIn b = decide (digN 32 (yV b) = rlowB b) := by unfold frIn; rw [f1.bytes, f2, (low_eq hb).1]
  exact ⟨e2.trans e1.symm, fun h => by rw [e1] at h; exact of_decide_eq_true h⟩
def uV (y : Int) : Int := mm (ms (mm y y) 1) (inv (ma (mm dV (mm y y)) 1))
theorem uF_val {y : List Int} (hy : Bd y) : Bd (ofU y) ∧ fv (ofU y) = uV (fv y) := by
  obtain ⟨o1, o2⟩ := oneF_val
  obtain ⟨y1, y2⟩ := fM_val hy hy
  obtain ⟨d1, d2⟩ := dF_val
  obtain ⟨m1, m2⟩ := fM_val d1 y1
  obtain ⟨a1, a2⟩ := add_val m1 o1
  obtain ⟨i1, i2⟩ := inv_val a1
  obtain ⟨s1, s2⟩ := sub_val y1 o1
  obtain ⟨r1, r2⟩ := fM_val s1 i1
  refine ⟨r1, ?_⟩
  show fv (fM (subFe (fM y y) oneF) (invFe (addFe (fM (Lock dF) (fM y y)) oneF))) = _
  rw [r2, s2, i2, a2, m2, d2, y2, o2]
  rfl
theorem uR_val {y : List Int} (_hy : okN y = true) : okN (ru y) = true ∧ vR (ru y) = uV (vR y) := by
  have h1 : vR one16 = 1 := by decide
  refine ⟨refM_okN _, ?_⟩
  unfold ru rund ryy
  rw [vR_refM, vR_refM, vR_refM, vR_refN (pwm_range _ _).1 (pwm_range _ _).2, vR_refM, vR_refM, vR_refM, dR_val, h1]
  rfl
theorem rB_range (u : Int) : 0 ≤ rB u ∧ rB u < Pm := by
  unfold rB
  split
  · exact mod_range _
  · exact mod_range _
theorem neg_mod (z : Int) (h0 : 0 < z) (h1 : z < Pm) : (0 - z) % Pm = Pm - z := by
  rw [show (0 : Int) - z = (Pm - z) + Pm * (-1) by omega, Int.add_mul_emod_self_left]
  exact Int.emod_eq_of_lt (by omega) (by omega)
theorem even_of (z : Int) (h0 : 0 ≤ z) (h1 : z < Pm) : (if z % 2 = 1 then (0 - z) % Pm else z) % 2 = 0 := by
  by_cases h : z % 2 = 1
  · rw [if_pos h, neg_mod z (by omega) h1, Pm_eq]
    omega
  · rw [if_neg h]
    omega
theorem root_even {u r : Int} (h : rootV u = some r) : r % 2 = 0 := by
  unfold rootV at h
  split at h
  · have hr := Option.some.inj h
    rw [← hr]
    exact even_of _ (rB_range u).1 (rB_range u).2
  · cases h
theorem odd_of (r : Int) (h0 : 0 ≤ r) (h1 : r < Pm) (h2 : r ≠ 0) (h3 : r % 2 = 0) : ms 0 r % 2 = 1 := by
  unfold ms
  rw [neg_mod r (by omega) h1, Pm_eq]
  omega
def xV (y : Int) (odd : Bool) : Option Int := match rootV (uV y) with
  | none => none
  | some r => if odd = true ∧ r = 0 then none else some (bif odd then ms 0 r else r)
theorem of_rel {y yr : List Int} (hy : Bd y) (hr : okN yr = true) (he : fv y = vR yr) (odd : Bool) :
    ofOk y odd = (xV (fv y) odd).isSome ∧ ofOkR yr odd = (xV (fv y) odd).isSome ∧ ∀ x, xV (fv y) odd = some x → (VP (ofP y odd) (x, fv y, 1, mm x (fv y)) ∧ VQ (ofQ yr odd) (x, fv y, 1) ∧ decide (x % 2 = 1) = odd ∧ 0 ≤ x ∧ x < Pm) := by
  obtain ⟨u1, u2⟩ := uF_val hy
  obtain ⟨w1, w2⟩ := uR_val hr
  rw [← he] at w2
  obtain ⟨t1, t2, t3⟩ := root_val u1
  rw [u2] at t2 t3
  have hR : ofR y = (rootV (uV (fv y))).isSome := t2
  have hR' : rR yr = (rootV (uV (fv y))).isSome := by unfold rR; rw [w2]
  have hX' : rX yr = rootL (uV (fv y)) := by unfold rX; rw [w2]
  cases hv : rootV (uV (fv y)) with
  | none =>
    have hx : xV (fv y) odd = none := by unfold xV; rw [hv]
    rw [hx]
    refine ⟨?_, ?_, fun x h => by cases h⟩
    · unfold ofOk; rw [hR, hv]; rfl
    · unfold ofOkR; rw [hR', hv]; rfl
  | some r =>
    have hr0 := rootV_range hv
    have hre := root_even hv
    have fX : fv (ofX y) = r := t3 r hv
    have t1 : Bd (ofX y) := t1
    have hL : rX yr = refN r := by rw [hX']; unfold rootL; rw [hv]
    have vX : vR (rX yr) = r := by rw [hL]; exact vR_refN hr0.1 hr0.2
    have x0 : x0F (ofX y) = decide (r = 0) := by
      unfold x0F
      by_cases h0 : r = 0
      · rw [decide_eq_true h0, decide_eq_true ((eq_iff t1 Bd.z5).2 (by rw [z5_val]; exact fX.trans h0))]
      · rw [decide_eq_false h0, decide_eq_false fun q => h0 (by have := (eq_iff t1 Bd.z5).1 q; rw [z5_val] at this; exact fX.symm.trans this)]
    have x0' : rx0 yr = decide (r = 0) := by
      unfold rx0
      rw [hL]
      have hz : z16 = refN 0 := by rw [refN_eq]; decide
      by_cases h0 : r = 0
      · rw [decide_eq_true h0, decide_eq_true (by rw [h0, hz])]
      · rw [decide_eq_false h0, decide_eq_false fun q => h0 (by have := congrArg vR q; rw [vR_refN hr0.1 hr0.2] at this; rw [this]; decide)]
    by_cases hc : odd = true ∧ r = 0
    · obtain ⟨rfl, h0⟩ := hc
      have hx : xV (fv y) true = none := by unfold xV; rw [hv]; simp [h0]
      rw [hx]
      refine ⟨?_, ?_, fun x h => by cases h⟩
      · unfold ofOk; rw [hR, hv, x0, decide_eq_true h0]; rfl
      · unfold ofOkR; rw [hR', hv, x0', decide_eq_true h0]; rfl
    · have hx : xV (fv y) odd = some (bif odd then ms 0 r else r) := by unfold xV; rw [hv]; simp only; rw [if_neg hc]
      rw [hx]
      have ok1 : ofOk y odd = true := by
        unfold ofOk
        rw [hR, hv, x0]
        cases odd with
        | false => rfl
        | true => rw [decide_eq_false fun h => hc ⟨rfl, h⟩]; rfl
      have ok2 : ofOkR yr odd = true := by
        unfold ofOkR
        rw [hR', hv, x0']
        cases odd with
        | false => rfl
        | true => rw [decide_eq_false fun h => hc ⟨rfl, h⟩]; rfl
      refine ⟨ok1, ok2, fun x h => ?_⟩
      cases h
      have bX : Bd (ofX' y odd) ∧ fv (ofX' y odd) = bif odd then ms 0 r else r := by
        unfold ofX'
        cases odd with
        | false => exact ⟨t1, fX⟩
        | true =>
          obtain ⟨s1, s2⟩ := sub_val Bd.z5 t1
          exact ⟨s1, by show fv (subFe z5 (ofX y)) = _; rw [s2, z5_val]; show (0 - fv (ofX y)) % Pm = _; rw [fX]; rfl⟩
      have vX' : okN (rX' yr odd) = true ∧ vR (rX' yr odd) = bif odd then ms 0 r else r := by
        unfold rX'
        cases odd with
        | false => exact ⟨rootL_okN _, vX⟩
        | true => exact ⟨refM_okN _, by show vR (RS z16 (rX yr)) = _; rw [vR_refM, vX, show vR z16 = 0 by decide]; rfl⟩
      have rx : 0 ≤ (bif odd then ms 0 r else r) ∧ (bif odd then ms 0 r else r) < Pm := by
        cases odd with
        | false => exact hr0
        | true => exact mod_range _
      obtain ⟨m1, m2⟩ := fM_val bX.1 hy
      have o := oneF_val
      refine ⟨?_, ?_, ?_, rx.1, rx.2⟩
      · have : ofP y odd = (ofX' y odd, y, oneF, fM (ofX' y odd) y) := by unfold ofP; rw [ok1]; rfl
        rw [this]
        exact ⟨bX.1, hy, o.1, m1, bX.2, rfl, o.2, by rw [m2, bX.2]⟩
      · have : ofQ yr odd = (rX' yr odd, yr, one16) := by unfold ofQ; rw [ok2]; rfl
        rw [this]
        exact ⟨okQ_iff.2 ⟨vX'.1, hr, (by decide : okN one16 = true)⟩, vX'.2, he.symm, (by decide : vR one16 = 1)⟩
      · cases odd with
        | false => show decide (r % 2 = 1) = false; exact decide_eq_false (by omega)
        | true =>
          show decide (ms 0 r % 2 = 1) = true
          have hr1 : r ≠ 0 := fun h => hc ⟨rfl, h⟩
          refine decide_eq_true ?_
          exact odd_of r hr0.1 hr0.2 hr1 hre
theorem from_rel {b : List Int} (hb : keyOK b = true) : frOk b = frOkR b ∧
    ((frOk b = true ∧ ∃ x, xV (yV b) (rtopB b) = some x ∧ VP (frP b) (x, yV b, 1, mm x (yV b)) ∧ VQ (frQ b) (x, yV b, 1) ∧ decide (x % 2 = 1) = rtopB b ∧ (0 ≤ x ∧ x < Pm) ∧ digN 32 (yV b) = rlowB b) ∨
     (frOk b = false ∧ frP b = zeroP ∧ frQ b = nothQ)) := by
  obtain ⟨f1, f2⟩ := yF_val hb
  obtain ⟨g1, g2⟩ := yR_val b
  obtain ⟨i1, i2⟩ := in_eq hb
  have ht := (low_eq hb).2
  obtain ⟨o1, o2, o3⟩ := of_rel f1 g1 (f2.trans g2.symm) (rtopB b)
  rw [f2] at o1 o2 o3
  have e1 : frOk b = frOkR b := by unfold frOk frOkR; rw [i1, ht, o1, o2]
  refine ⟨e1, ?_⟩
  cases hi : frInR b with
  | false =>
    refine .inr ⟨?_, ?_, ?_⟩
    · unfold frOk; rw [i1, hi]; rfl
    · unfold frP; rw [i1, hi]; rfl
    · unfold frQ; rw [hi]; rfl
  | true =>
    have hP : frP b = ofP (fromFe (lowB b)) (rtopB b) := by unfold frP; rw [i1, hi, ht]; rfl
    have hQ : frQ b = ofQ (ryB b) (rtopB b) := by unfold frQ; rw [hi]; rfl
    have hO : frOk b = (xV (yV b) (rtopB b)).isSome := by unfold frOk; rw [i1, hi, ht, o1]; rfl
    rw [hP, hQ, hO]
    cases hx : xV (yV b) (rtopB b) with
    | none =>
      rw [hx] at o1 o2
      refine .inr ⟨rfl, ?_, ?_⟩
      · unfold ofP; rw [o1]; rfl
      · unfold ofQ; rw [o2]; rfl
    | some x =>
      obtain ⟨p1, p2, p3, p4⟩ := o3 x hx
      exact .inl ⟨rfl, x, rfl, p1, p2, p3, p4, i2 hi⟩
theorem enc_back {b : List Int} (hb : keyOK b = true) (h : digN 32 (yV b) = rlowB b) : encB (yV b) (rtopB b) = b := by
  obtain ⟨h1, h2⟩ := keyOK_iff.1 hb
  have p := all_getD h2 (i := 31) (by omega)
  have hlow : rlowB b = b.set 31 ((b.getD 31 0) % 128) := by unfold rlowB; rw [lst_eq h1, Int.tmod_eq_emod_of_nonneg p.1]
  have h31 : yV b / 256 ^ 31 % 256 = b.getD 31 0 % 128 := by
    have := digN_getD 32 31 (yV b) (by omega)
    rw [h, hlow, List.getD_eq_getElem?_getD, List.getElem?_set_self (by omega)] at this
    exact this.symm
  have hset : ∀ v : Int, v = b.getD 31 0 → b.set 31 v = b := fun v hv => by
    subst hv
    apply List.ext_getElem?
    intro i
    by_cases hi : 31 = i
    · subst hi
      rw [List.getElem?_set_self (by omega), List.getD_eq_getElem?_getD, List.getElem?_eq_getElem (by omega)]; rfl
    · rw [List.getElem?_set_ne hi]
  unfold encB
  rw [h, hlow, h31]
  cases ht : rtopB b with
  | true =>
    have := of_decide_eq_true ht
    show (b.set 31 _).set 31 _ = b
    rw [List.set_set]
    exact hset _ (by omega)
  | false =>
    have := of_decide_eq_false ht
    exact hset _ (by omega)
end Go.Proofs.Ytkoohnpknhoahaa.Po
namespace Go.Proofs.Ytkoohnpknhoahaa.Po
open Go Go.Sy Re Fe
structure VW (p : PP) (v : V4) : Prop where
  w : VP (wholeP p) v
  l : lenZ p = true
theorem VP.whole {p : PP} {v : V4} (h : VP p v) (hz : v.2.2.1 ≠ 0) : VW p v := ⟨by rw [whole_id h hz]; exact h, h.lenZ⟩
theorem zero_VW : VW zeroP (0, 1, 1, 0) := ⟨nothP_val, rfl⟩
theorem bytes_VW {p : PP} {v : V4} (h : VW p v) : bytesP p = encB (mm v.2.1 (inv v.2.2.1)) (decide (mm v.1 (inv v.2.2.1) % 2 = 1)) := by
  have hp := h.w
  obtain ⟨i1, i2⟩ := inv_val hp.bz
  rw [hp.fz] at i2
  have i3 : fv (invFe (wholeP p).2.2.1) = inv v.2.2.1 := i2
  obtain ⟨y1, y2⟩ := fM_val hp.by' i1
  obtain ⟨x1, x2⟩ := fM_val hp.bx i1
  have hy : byY p = digN 32 (mm v.2.1 (inv v.2.2.1)) := by
    unfold byY
    rw [y1.bytes, y2, hp.fy, i3]
  have ho : byO p = decide (mm v.1 (inv v.2.2.1) % 2 = 1) := by
    unfold byO
    rw [odd_val x1, x2, hp.fx, i3]
  have r : 0 ≤ mm v.2.1 (inv v.2.2.1) ∧ mm v.2.1 (inv v.2.2.1) < Pm := mod_range (v.2.1 * inv v.2.2.1)
  have hs := top_small r.1 r.2
  unfold bytesP encB
  rw [ho, hy, digN_getD 32 31 _ (by omega), or128 _ hs.1 hs.2]
theorem add_VW {p q : PP} {a b : V4} (hp : VW p a) (hq : VW q b) : VP (addP p q) (sumV dV a b) := by
  have := sum_val dF_val.1 hp.w hq.w
  rw [dF_val.2] at this
  exact this
theorem neg_VW {p : PP} {a : V4} (hp : VW p a) : VP (negP p) (ms 0 a.1, a.2.1, a.2.2.1, ms 0 a.2.2.2) := by
  obtain ⟨x1, x2⟩ := sub_val Bd.z5 hp.w.bx
  obtain ⟨t1, t2⟩ := sub_val Bd.z5 hp.w.bt
  rw [z5_val, hp.w.fx] at x2
  rw [z5_val, hp.w.ft] at t2
  exact ⟨x1, hp.w.by', hp.w.bz, t1, x2, hp.w.fy, hp.w.fz, t2⟩
def rAi (x : Int) : Int := pwi x ((Pm - 5) / 8).toNat * x % Pm
def rBi (x : Int) : Int := if rAi x * rAi x % Pm = x then rAi x else rAi x * pwi 2 ((Pm - 1) / 4).toNat % Pm
def rootVi (x : Int) : Option Int := if rBi x * rBi x % Pm = x then some (if rBi x % 2 = 1 then (0 - rBi x) % Pm else rBi x) else none
theorem rootV_i {x : Int} (h : 0 ≤ x) : rootV x = rootVi x := by
  have e1 : rA x = rAi x := by unfold rA rAi; rw [pwm_pwi h (by decide)]
  have e2 : rB x = rBi x := by unfold rB rBi; rw [e1, pwm_pwi (x := 2) (by decide) (by decide)]
  unfold rootV rootVi
  rw [e2]
def uVi (y : Int) : Int := mm (ms (mm y y) 1) (invi (ma (mm dV (mm y y)) 1))
theorem uV_i (y : Int) : uV y = uVi y := by
  unfold uV uVi
  rw [inv_invi (show 0 ≤ ma (mm dV (mm y y)) 1 from (mod_range _).1)]
def BX : Int := 15112221349535400772501151409588531511454012693041857206046113283949847762202
def BY : Int := 46316835694926478169428394003475163141307993866256225615783033603165251855960
theorem baseY_val : Bd baseY ∧ fv baseY = BY := by
  have s4 := small_val (n := 4) (by omega) (by omega)
  have s5 := small_val (n := 5) (by omega) (by omega)
  obtain ⟨i1, i2⟩ := inv_val s5.1
  obtain ⟨m1, m2⟩ := fM_val s4.1 i1
  have h5 : fv (smallFe 5) = 5 := by unfold fv; rw [s5.2]; decide
  have h4 : fv (smallFe 4) = 4 := by unfold fv; rw [s4.2]; decide
  rw [h5] at i2
  refine ⟨m1, ?_⟩
  unfold baseY
  rw [m2, h4, i2, pwm_pwi (by decide) two_Pm]
  decide +kernel
theorem base_root : rootVi (uVi BY) = some BX := by decide +kernel
theorem base_val : VP baseP (BX, BY, 1, mm BX BY) := by
  obtain ⟨b1, b2⟩ := baseY_val
  have hx : xV (fv baseY) false = some BX := by
    unfold xV
    rw [b2, uV_i, rootV_i (show 0 ≤ uVi BY from (mod_range _).1), base_root]
    rfl
  have hr : okN (refN BY) = true := refN_okN (by decide) (by decide)
  have hv : fv baseY = vR (refN BY) := by rw [b2, vR_refN (by decide) (by decide)]
  obtain ⟨_, _, h⟩ := of_rel b1 hr hv false
  have := (h BX hx).1
  rw [b2] at this
  exact this
theorem base_VW : VW baseP (BX, BY, 1, mm BX BY) := base_val.whole (by decide)
end Go.Proofs.Ytkoohnpknhoahaa.Po
namespace Go.Proofs.Ytkoohnpknhoahaa.Po
open Go Go.Sy Re Fe
end Go.Proofs.Ytkoohnpknhoahaa.Po
