/- This file proves that the program's and the reference's From agree. Conditions: bytes within their kind. -/
import Derived.Test.YtailgcdcdhhpnaaPoE
namespace Go.Proofs.Ytailgcdcdhhpnaa.Po
open Go Go.Sy Re Fe

/-! ### The highest bit -/
theorem low128 : ∀ x : Int, 0 ≤ x → x < 256 → andNotI .u8 x 128 = x.tmod 128 ∧ (andI .u8 x 128 != 0) = decide (x ≥ 128) := by
  intro x h0 h1
  obtain ⟨n, rfl⟩ := Int.eq_ofNat_of_zero_le h0
  have key : ∀ n : Nat, n < 256 → andNotI .u8 (n : Int) 128 = (n : Int).tmod 128 ∧ (andI .u8 (n : Int) 128 != 0) = decide ((n : Int) ≥ 128) := by decide +kernel
  exact key n (by omega)
theorem low_eq {b : List Int} (hb : keyOK b = true) : lowB b = rlowB b ∧ topB b = rtopB b := by
  obtain ⟨h1, h2⟩ := keyOK_iff.1 hb
  have p := all_getD h2 (i := 31) (by omega)
  obtain ⟨q1, q2⟩ := low128 _ p.1 p.2
  unfold lowB rlowB topB rtopB
  rw [q1, q2]
  exact ⟨rfl, rfl⟩
/-- The y that the bytes stand for. -/
def yV (b : List Int) : Int := val256 (rlowB b) % 57896044618658097711785492504343953926634992332820282019728792003956564819968 % Pm
theorem yF_val {b : List Int} (hb : keyOK b = true) : Bd (fromFe (lowB b)) ∧ fv (fromFe (lowB b)) = yV b := by
  obtain ⟨k1, k2⟩ := keyOK_iff.1 (rlowB_ok hb)
  rw [(low_eq hb).1]
  obtain ⟨f1, f2⟩ := from_val k2 k1
  exact ⟨f1, by unfold fv; rw [f2]; rfl⟩
theorem yR_val (b : List Int) : okN (ryB b) = true ∧ vR (ryB b) = yV b := ⟨refM_okN _, vR_refM _⟩
theorem in_eq {b : List Int} (hb : keyOK b = true) : frIn b = frInR b ∧ (frInR b = true → digN 32 (yV b) = rlowB b) := by
  obtain ⟨f1, f2⟩ := yF_val hb
  have e1 : frInR b = decide (digN 32 (yV b) = rlowB b) := by unfold frInR; rw [(yR_val b).2, Lock_eq]
  have e2 : frIn b = decide (digN 32 (yV b) = rlowB b) := by unfold frIn; rw [f1.bytes, f2, (low_eq hb).1]
  exact ⟨e2.trans e1.symm, fun h => by rw [e1] at h; exact of_decide_eq_true h⟩

/-! ### x -/
/-- x² of a y. -/
def uV (y : Int) : Int := mm (ms (mm y y) 1) (inv (ma (mm dV (mm y y)) 1))
theorem uF_val {y : List Int} (hy : Bd y) : Bd (ofU y) ∧ fv (ofU y) = uV (fv y) := by
  obtain ⟨o1, o2⟩ := oneF_val
  obtain ⟨y1, y2⟩ := fM_val hy hy
  obtain ⟨d1, d2⟩ := dF_val
  obtain ⟨m1, m2⟩ := fM_val d1 y1
  obtain ⟨a1, a2⟩ := add_val m1 o1
  obtain ⟨i1, i2⟩ := inv_val a1
  obtain ⟨s1, s2⟩ := sub_val y1 o1
  obtain ⟨r1, r2⟩ := fM_val s1 i1
  refine ⟨r1, ?_⟩
  show fv (fM (subFe (fM y y) oneF) (invFe (addFe (fM (Lock dF) (fM y y)) oneF))) = _
  rw [r2, s2, i2, a2, m2, d2, y2, o2]
  rfl
theorem uR_val {y : List Int} (_hy : okN y = true) : okN (ru y) = true ∧ vR (ru y) = uV (vR y) := by
  have h1 : vR one16 = 1 := by decide
  refine ⟨refM_okN _, ?_⟩
  unfold ru rund ryy
  rw [vR_refM, vR_refM, vR_refM, vR_refN (pwm_range _ _).1 (pwm_range _ _).2, vR_refM, vR_refM, vR_refM, dR_val, h1]
  rfl
theorem rB_range (u : Int) : 0 ≤ rB u ∧ rB u < Pm := by
  unfold rB
  split
  · exact mod_range _
  · exact mod_range _
theorem neg_mod (z : Int) (h0 : 0 < z) (h1 : z < Pm) : (0 - z) % Pm = Pm - z := by
  rw [show (0 : Int) - z = (Pm - z) + Pm * (-1) by omega, Int.add_mul_emod_self_left]
  exact Int.emod_eq_of_lt (by omega) (by omega)
theorem even_of (z : Int) (h0 : 0 ≤ z) (h1 : z < Pm) : (if z % 2 = 1 then (0 - z) % Pm else z) % 2 = 0 := by
  by_cases h : z % 2 = 1
  · rw [if_pos h, neg_mod z (by omega) h1, Pm_eq]
    omega
  · rw [if_neg h]
    omega
theorem root_even {u r : Int} (h : rootV u = some r) : r % 2 = 0 := by
  unfold rootV at h
  split at h
  · have hr := Option.some.inj h
    rw [← hr]
    exact even_of _ (rB_range u).1 (rB_range u).2
  · cases h
theorem odd_of (r : Int) (h0 : 0 ≤ r) (h1 : r < Pm) (h2 : r ≠ 0) (h3 : r % 2 = 0) : ms 0 r % 2 = 1 := by
  unfold ms
  rw [neg_mod r (by omega) h1, Pm_eq]
  omega
/-- x of a y: the even one or the odd one. -/
def xV (y : Int) (odd : Bool) : Option Int := match rootV (uV y) with
  | none => none
  | some r => if odd = true ∧ r = 0 then none else some (bif odd then ms 0 r else r)
theorem of_rel {y yr : List Int} (hy : Bd y) (hr : okN yr = true) (he : fv y = vR yr) (odd : Bool) :
    ofOk y odd = (xV (fv y) odd).isSome ∧ ofOkR yr odd = (xV (fv y) odd).isSome ∧ ∀ x, xV (fv y) odd = some x → (VP (ofP y odd) (x, fv y, 1, mm x (fv y)) ∧ VQ (ofQ yr odd) (x, fv y, 1) ∧ decide (x % 2 = 1) = odd ∧ 0 ≤ x ∧ x < Pm) := by
  obtain ⟨u1, u2⟩ := uF_val hy
  obtain ⟨w1, w2⟩ := uR_val hr
  rw [← he] at w2
  obtain ⟨t1, t2, t3⟩ := root_val u1
  rw [u2] at t2 t3
  have hR : ofR y = (rootV (uV (fv y))).isSome := t2
  have hR' : rR yr = (rootV (uV (fv y))).isSome := by unfold rR; rw [w2]
  have hX' : rX yr = rootL (uV (fv y)) := by unfold rX; rw [w2]
  cases hv : rootV (uV (fv y)) with
  | none =>
    have hx : xV (fv y) odd = none := by unfold xV; rw [hv]
    rw [hx]
    refine ⟨?_, ?_, fun x h => by cases h⟩
    · unfold ofOk; rw [hR, hv]; rfl
    · unfold ofOkR; rw [hR', hv]; rfl
  | some r =>
    have hr0 := rootV_range hv
    have hre := root_even hv
    have fX : fv (ofX y) = r := t3 r hv
    have t1 : Bd (ofX y) := t1
    have hL : rX yr = refN r := by rw [hX']; unfold rootL; rw [hv]
    have vX : vR (rX yr) = r := by rw [hL]; exact vR_refN hr0.1 hr0.2
    have x0 : x0F (ofX y) = decide (r = 0) := by
      unfold x0F
      by_cases h0 : r = 0
      · rw [decide_eq_true h0, decide_eq_true ((eq_iff t1 Bd.z5).2 (by rw [z5_val]; exact fX.trans h0))]
      · rw [decide_eq_false h0, decide_eq_false fun q => h0 (by have := (eq_iff t1 Bd.z5).1 q; rw [z5_val] at this; exact fX.symm.trans this)]
    have x0' : rx0 yr = decide (r = 0) := by
      unfold rx0
      rw [hL]
      have hz : z16 = refN 0 := by rw [refN_eq]; decide
      by_cases h0 : r = 0
      · rw [decide_eq_true h0, decide_eq_true (by rw [h0, hz])]
      · rw [decide_eq_false h0, decide_eq_false fun q => h0 (by have := congrArg vR q; rw [vR_refN hr0.1 hr0.2] at this; rw [this]; decide)]
    by_cases hc : odd = true ∧ r = 0
    · obtain ⟨rfl, h0⟩ := hc
      have hx : xV (fv y) true = none := by unfold xV; rw [hv]; simp [h0]
      rw [hx]
      refine ⟨?_, ?_, fun x h => by cases h⟩
      · unfold ofOk; rw [hR, hv, x0, decide_eq_true h0]; rfl
      · unfold ofOkR; rw [hR', hv, x0', decide_eq_true h0]; rfl
    · have hx : xV (fv y) odd = some (bif odd then ms 0 r else r) := by unfold xV; rw [hv]; simp only; rw [if_neg hc]
      rw [hx]
      have ok1 : ofOk y odd = true := by
        unfold ofOk
        rw [hR, hv, x0]
        cases odd with
        | false => rfl
        | true => rw [decide_eq_false fun h => hc ⟨rfl, h⟩]; rfl
      have ok2 : ofOkR yr odd = true := by
        unfold ofOkR
        rw [hR', hv, x0']
        cases odd with
        | false => rfl
        | true => rw [decide_eq_false fun h => hc ⟨rfl, h⟩]; rfl
      refine ⟨ok1, ok2, fun x h => ?_⟩
      cases h
      have bX : Bd (ofX' y odd) ∧ fv (ofX' y odd) = bif odd then ms 0 r else r := by
        unfold ofX'
        cases odd with
        | false => exact ⟨t1, fX⟩
        | true =>
          obtain ⟨s1, s2⟩ := sub_val Bd.z5 t1
          exact ⟨s1, by show fv (subFe z5 (ofX y)) = _; rw [s2, z5_val]; show (0 - fv (ofX y)) % Pm = _; rw [fX]; rfl⟩
      have vX' : okN (rX' yr odd) = true ∧ vR (rX' yr odd) = bif odd then ms 0 r else r := by
        unfold rX'
        cases odd with
        | false => exact ⟨rootL_okN _, vX⟩
        | true => exact ⟨refM_okN _, by show vR (RS z16 (rX yr)) = _; rw [vR_refM, vX, show vR z16 = 0 by decide]; rfl⟩
      have rx : 0 ≤ (bif odd then ms 0 r else r) ∧ (bif odd then ms 0 r else r) < Pm := by
        cases odd with
        | false => exact hr0
        | true => exact mod_range _
      obtain ⟨m1, m2⟩ := fM_val bX.1 hy
      have o := oneF_val
      refine ⟨?_, ?_, ?_, rx.1, rx.2⟩
      · have : ofP y odd = (ofX' y odd, y, oneF, fM (ofX' y odd) y) := by unfold ofP; rw [ok1]; rfl
        rw [this]
        exact ⟨bX.1, hy, o.1, m1, bX.2, rfl, o.2, by rw [m2, bX.2]⟩
      · have : ofQ yr odd = (rX' yr odd, yr, one16) := by unfold ofQ; rw [ok2]; rfl
        rw [this]
        exact ⟨okQ_iff.2 ⟨vX'.1, hr, (by decide : okN one16 = true)⟩, vX'.2, he.symm, (by decide : vR one16 = 1)⟩
      · cases odd with
        | false => show decide (r % 2 = 1) = false; exact decide_eq_false (by omega)
        | true =>
          show decide (ms 0 r % 2 = 1) = true
          have hr1 : r ≠ 0 := fun h => hc ⟨rfl, h⟩
          refine decide_eq_true ?_
          exact odd_of r hr0.1 hr0.2 hr1 hre
/-- From, on both sides. -/
theorem from_rel {b : List Int} (hb : keyOK b = true) : frOk b = frOkR b ∧
    ((frOk b = true ∧ ∃ x, xV (yV b) (rtopB b) = some x ∧ VP (frP b) (x, yV b, 1, mm x (yV b)) ∧ VQ (frQ b) (x, yV b, 1) ∧ decide (x % 2 = 1) = rtopB b ∧ (0 ≤ x ∧ x < Pm) ∧ digN 32 (yV b) = rlowB b) ∨
     (frOk b = false ∧ frP b = zeroP ∧ frQ b = nothQ)) := by
  obtain ⟨f1, f2⟩ := yF_val hb
  obtain ⟨g1, g2⟩ := yR_val b
  obtain ⟨i1, i2⟩ := in_eq hb
  have ht := (low_eq hb).2
  obtain ⟨o1, o2, o3⟩ := of_rel f1 g1 (f2.trans g2.symm) (rtopB b)
  rw [f2] at o1 o2 o3
  have e1 : frOk b = frOkR b := by unfold frOk frOkR; rw [i1, ht, o1, o2]
  refine ⟨e1, ?_⟩
  cases hi : frInR b with
  | false =>
    refine .inr ⟨?_, ?_, ?_⟩
    · unfold frOk; rw [i1, hi]; rfl
    · unfold frP; rw [i1, hi]; rfl
    · unfold frQ; rw [hi]; rfl
  | true =>
    have hP : frP b = ofP (fromFe (lowB b)) (rtopB b) := by unfold frP; rw [i1, hi, ht]; rfl
    have hQ : frQ b = ofQ (ryB b) (rtopB b) := by unfold frQ; rw [hi]; rfl
    have hO : frOk b = (xV (yV b) (rtopB b)).isSome := by unfold frOk; rw [i1, hi, ht, o1]; rfl
    rw [hP, hQ, hO]
    cases hx : xV (yV b) (rtopB b) with
    | none =>
      rw [hx] at o1 o2
      refine .inr ⟨rfl, ?_, ?_⟩
      · unfold ofP; rw [o1]; rfl
      · unfold ofQ; rw [o2]; rfl
    | some x =>
      obtain ⟨p1, p2, p3, p4⟩ := o3 x hx
      exact .inl ⟨rfl, x, rfl, p1, p2, p3, p4, i2 hi⟩
/-- The bytes come back. -/
theorem enc_back {b : List Int} (hb : keyOK b = true) (h : digN 32 (yV b) = rlowB b) : encB (yV b) (rtopB b) = b := by
  obtain ⟨h1, h2⟩ := keyOK_iff.1 hb
  have p := all_getD h2 (i := 31) (by omega)
  have hlow : rlowB b = b.set 31 ((b.getD 31 0) % 128) := by unfold rlowB; rw [lst_eq h1, Int.tmod_eq_emod_of_nonneg p.1]
  have h31 : yV b / 256 ^ 31 % 256 = b.getD 31 0 % 128 := by
    have := digN_getD 32 31 (yV b) (by omega)
    rw [h, hlow, List.getD_eq_getElem?_getD, List.getElem?_set_self (by omega)] at this
    exact this.symm
  have hset : ∀ v : Int, v = b.getD 31 0 → b.set 31 v = b := fun v hv => by
    subst hv
    apply List.ext_getElem?
    intro i
    by_cases hi : 31 = i
    · subst hi
      rw [List.getElem?_set_self (by omega), List.getD_eq_getElem?_getD, List.getElem?_eq_getElem (by omega)]; rfl
    · rw [List.getElem?_set_ne hi]
  unfold encB
  rw [h, hlow, h31]
  cases ht : rtopB b with
  | true =>
    have := of_decide_eq_true ht
    show (b.set 31 _).set 31 _ = b
    rw [List.set_set]
    exact hset _ (by omega)
  | false =>
    have := of_decide_eq_false ht
    exact hset _ (by omega)
end Go.Proofs.Ytailgcdcdhhpnaa.Po
