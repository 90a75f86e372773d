/- This file proves what the program's and the reference's points stand for, modulo p. Conditions: words as they come from carry; numbers below p. -/
import Derived.Test.YtailgcdcdhhpnaaPoC
namespace Go.Proofs.Ytailgcdcdhhpnaa.Po
open Go Go.Sy Re Fe

/-! ### Modulo p -/
def mm (a b : Int) : Int := a * b % Pm
def ma (a b : Int) : Int := (a + b) % Pm
def ms (a b : Int) : Int := (a - b) % Pm
def inv (a : Int) : Int := pwm a (Pm - 2).toNat
theorem mod_range (a : Int) : 0 ≤ a % Pm ∧ a % Pm < Pm := ⟨Int.emod_nonneg _ (by have := Pm_pos; omega), Int.emod_lt_of_pos _ Pm_pos⟩
theorem fM_val {a b : List Int} (ha : Bd a) (hb : Bd b) : Bd (fM a b) ∧ fv (fM a b) = mm (fv a) (fv b) := mul_val ha hb
abbrev V4 := Int × Int × Int × Int
/-- What a point of the program stands for. -/
structure VP (p : PP) (v : V4) : Prop where
  bx : Bd p.1
  by' : Bd p.2.1
  bz : Bd p.2.2.1
  bt : Bd p.2.2.2
  fx : fv p.1 = v.1
  fy : fv p.2.1 = v.2.1
  fz : fv p.2.2.1 = v.2.2.1
  ft : fv p.2.2.2 = v.2.2.2
def sumV (d : Int) (a b : V4) : V4 :=
  let m := mm (ms a.2.1 a.1) (ms b.2.1 b.1)
  let n := mm (ma a.2.1 a.1) (ma b.2.1 b.1)
  let c0 := mm (mm a.2.2.2 d) b.2.2.2
  let d0 := mm a.2.2.1 b.2.2.1
  let e := ms n m
  let f := ms (ma d0 d0) (ma c0 c0)
  let g := ma (ma d0 d0) (ma c0 c0)
  let h := ma n m
  (mm e f, mm g h, mm f g, mm e h)
theorem sum_val {d : List Int} {p q : PP} {a b : V4} (hd : Bd d) (hp : VP p a) (hq : VP q b) : VP (sumP d p q) (sumV (fv d) a b) := by
  obtain ⟨m1, m2⟩ := fM_val (sub_val hp.by' hp.bx).1 (sub_val hq.by' hq.bx).1
  obtain ⟨n1, n2⟩ := fM_val (add_val hp.by' hp.bx).1 (add_val hq.by' hq.bx).1
  obtain ⟨c1, c2⟩ := fM_val (fM_val hp.bt hd).1 hq.bt
  obtain ⟨d1, d2⟩ := fM_val hp.bz hq.bz
  rw [(sub_val hp.by' hp.bx).2, (sub_val hq.by' hq.bx).2, hp.fx, hp.fy, hq.fx, hq.fy] at m2
  rw [(add_val hp.by' hp.bx).2, (add_val hq.by' hq.bx).2, hp.fx, hp.fy, hq.fx, hq.fy] at n2
  rw [(fM_val hp.bt hd).2, hp.ft, hq.ft] at c2
  rw [hp.fz, hq.fz] at d2
  obtain ⟨e1, e2⟩ := sub_val n1 m1
  obtain ⟨h1, h2⟩ := add_val n1 m1
  obtain ⟨f1, f2⟩ := sub_val (add_val d1 d1).1 (add_val c1 c1).1
  obtain ⟨g1, g2⟩ := add_val (add_val d1 d1).1 (add_val c1 c1).1
  rw [n2, m2] at e2 h2
  rw [(add_val d1 d1).2, (add_val c1 c1).2, d2, c2] at f2 g2
  rw [sumP, Lock_eq]
  have E : Bd (sE p q) := e1
  have F : Bd (sF d p q) := f1
  have G : Bd (sG d p q) := g1
  have H : Bd (sH p q) := h1
  exact ⟨(fM_val E F).1, (fM_val G H).1, (fM_val F G).1, (fM_val E H).1,
    by show fv (fM (sE p q) (sF d p q)) = _; rw [(fM_val E F).2]; exact congr (congrArg mm e2) f2,
    by show fv (fM (sG d p q) (sH p q)) = _; rw [(fM_val G H).2]; exact congr (congrArg mm g2) h2,
    by show fv (fM (sF d p q) (sG d p q)) = _; rw [(fM_val F G).2]; exact congr (congrArg mm f2) g2,
    by show fv (fM (sE p q) (sH p q)) = _; rw [(fM_val E H).2]; exact congr (congrArg mm e2) h2⟩
theorem oneF_val : Bd oneF ∧ fv oneF = 1 := by
  obtain ⟨h1, h2⟩ := small_val (n := 1) (by omega) (by omega)
  exact ⟨h1, by unfold oneF fv; rw [h2]; decide⟩
theorem z5_val : fv z5 = 0 := by decide
theorem zeroP_val : VP zeroP (0, 0, 0, 0) := ⟨Bd.z5, Bd.z5, Bd.z5, Bd.z5, z5_val, z5_val, z5_val, z5_val⟩
theorem nothP_val : VP (z5, oneF, oneF, z5) (0, 1, 1, 0) := ⟨Bd.z5, oneF_val.1, oneF_val.1, Bd.z5, z5_val, oneF_val.2, oneF_val.2, z5_val⟩
theorem whole_zero : wholeP zeroP = (z5, oneF, oneF, z5) := rfl
theorem whole_id {p : PP} {v : V4} (hp : VP p v) (hz : v.2.2.1 ≠ 0) : wholeP p = p := by
  have : isZ p.2.2.1 = false := decide_eq_false fun h => hz (by rw [← hp.fz, h]; exact z5_val)
  unfold wholeP
  rw [this]; rfl
theorem VP.lenZ {p : PP} {v : V4} (hp : VP p v) : lenZ p = true := decide_eq_true hp.bz.len

/-! ### Bytes -/
/-- A number's bytes, with a bit on top. -/
def encB (n : Int) (o : Bool) : List Int := bif o then (digN 32 n).set 31 (n / 256 ^ 31 % 256 + 128) else digN 32 n
theorem or128 : ∀ x : Int, 0 ≤ x → x < 128 → orI .u8 x 128 = x + 128 := by
  intro x h0 h1
  obtain ⟨n, rfl⟩ := Int.eq_ofNat_of_zero_le h0
  have hn : n < 128 := by omega
  have key : ∀ n : Nat, n < 128 → orI .u8 (n : Int) 128 = n + 128 := by decide
  exact key n hn
theorem top_small {n : Int} (h0 : 0 ≤ n) (h1 : n < Pm) : 0 ≤ n / 256 ^ 31 % 256 ∧ n / 256 ^ 31 % 256 < 128 := by
  rw [Pm_eq] at h1
  rw [show (256 : Int) ^ 31 = 452312848583266388373324160190187140051835877600158453279131187530910662656 by decide]
  omega
theorem bytesP_val {p : PP} {v : V4} (hp : VP p v) (hz : v.2.2.1 ≠ 0) : bytesP p = encB (mm v.2.1 (inv v.2.2.1)) (decide (mm v.1 (inv v.2.2.1) % 2 = 1)) := by
  obtain ⟨i1, i2⟩ := inv_val hp.bz
  rw [hp.fz] at i2
  have i3 : fv (invFe p.2.2.1) = inv v.2.2.1 := i2
  obtain ⟨y1, y2⟩ := fM_val hp.by' i1
  obtain ⟨x1, x2⟩ := fM_val hp.bx i1
  have hy : byY p = digN 32 (mm v.2.1 (inv v.2.2.1)) := by
    unfold byY
    rw [whole_id hp hz, y1.bytes, y2, hp.fy, i3]
  have ho : byO p = decide (mm v.1 (inv v.2.2.1) % 2 = 1) := by
    unfold byO
    rw [whole_id hp hz, odd_val x1, x2, hp.fx, i3]
  have r : 0 ≤ mm v.2.1 (inv v.2.2.1) ∧ mm v.2.1 (inv v.2.2.1) < Pm := mod_range (v.2.1 * inv v.2.2.1)
  have hs := top_small r.1 r.2
  unfold bytesP encB
  rw [ho, hy, digN_getD 32 31 _ (by omega), or128 _ hs.1 hs.2]
abbrev V3 := Int × Int × Int
/-- What a point of the reference stands for. -/
structure VQ (q : QP) (v : V3) : Prop where
  ok : okQ q = true
  fx : vR q.1 = v.1
  fy : vR q.2.1 = v.2.1
  fz : vR q.2.2 = v.2.2
theorem bytesQ_val {q : QP} {v : V3} (hq : VQ q v) : bytesQ q = encB (mm v.2.1 (inv v.2.2)) (decide (mm v.1 (inv v.2.2) % 2 = 1)) := by
  have hi : vR (RI q.2.2) = inv v.2.2 := by rw [vR_refN (pwm_range _ _).1 (pwm_range _ _).2, hq.fz]; rfl
  have hy : rbY q = digN 32 (mm v.2.1 (inv v.2.2)) := by
    unfold rbY
    rw [Lock_eq, vR_refM, hi, hq.fy]; rfl
  have ho : rbO q = decide (mm v.1 (inv v.2.2) % 2 = 1) := by
    unfold rbO
    rw [odd_part (refN_ok _), vR_refM, hi, hq.fx]
    show (mm v.1 (inv v.2.2) % 2 == 1) = _
    rfl
  have r := mod_range (v.2.1 * inv v.2.2)
  have hs := top_small r.1 r.2
  unfold bytesQ encB
  rw [ho, hy, digN_getD 32 31 _ (by omega), show uw (mm v.2.1 (inv v.2.2) / 256 ^ 31 % 256 + 128) = mm v.2.1 (inv v.2.2) / 256 ^ 31 % 256 + 128 by
    rw [uw, wrap_u8]
    have hs' : 0 ≤ mm v.2.1 (inv v.2.2) / 256 ^ 31 % 256 ∧ mm v.2.1 (inv v.2.2) / 256 ^ 31 % 256 < 128 := hs
    omega]

/-! ### The reference's sum -/
def addV (d : Int) (a b : V3) : V3 :=
  let z := mm a.2.2 b.2.2
  let b' := mm z z
  let c := mm a.1 b.1
  let d' := mm a.2.1 b.2.1
  let e := mm d (mm c d')
  let f := ms b' e
  let g := ma b' e
  let h := ms (ms (mm (ma a.1 a.2.1) (ma b.1 b.2.1)) c) d'
  (mm z (mm f h), mm z (mm g (ma d' c)), mm f g)
theorem add_valQ {p q : QP} {a b : V3} (hp : VQ p a) (hq : VQ q b) : VQ (addQ p q) (addV (vR (Lock dR)) a b) := by
  rw [addQ, Lock_eq]
  have eA : vR (qA p q) = mm a.2.2 b.2.2 := by unfold qA; rw [vR_refM, hp.fz, hq.fz]; rfl
  have eB : vR (qB p q) = mm (mm a.2.2 b.2.2) (mm a.2.2 b.2.2) := by unfold qB; rw [vR_refM, eA]; rfl
  have eC : vR (qC p q) = mm a.1 b.1 := by unfold qC; rw [vR_refM, hp.fx, hq.fx]; rfl
  have eD : vR (qD p q) = mm a.2.1 b.2.1 := by unfold qD; rw [vR_refM, hp.fy, hq.fy]; rfl
  have eE : vR (qE p q) = mm (vR (Lock dR)) (mm (mm a.1 b.1) (mm a.2.1 b.2.1)) := by unfold qE; rw [vR_refM, vR_refM, eC, eD]; rfl
  have eF : vR (qF p q) = ms (mm (mm a.2.2 b.2.2) (mm a.2.2 b.2.2)) (mm (vR (Lock dR)) (mm (mm a.1 b.1) (mm a.2.1 b.2.1))) := by unfold qF; rw [vR_refM, eB, eE]; rfl
  have eG : vR (qG p q) = ma (mm (mm a.2.2 b.2.2) (mm a.2.2 b.2.2)) (mm (vR (Lock dR)) (mm (mm a.1 b.1) (mm a.2.1 b.2.1))) := by unfold qG; rw [vR_refM, eB, eE]; rfl
  have eK : vR (qK p q) = mm (ma a.1 a.2.1) (ma b.1 b.2.1) := by unfold qK; rw [vR_refM, vR_refM, vR_refM, hp.fx, hp.fy, hq.fx, hq.fy]; rfl
  have eH : vR (qH p q) = ms (ms (mm (ma a.1 a.2.1) (ma b.1 b.2.1)) (mm a.1 b.1)) (mm a.2.1 b.2.1) := by unfold qH; rw [vR_refM, vR_refM, eK, eC, eD]; rfl
  refine ⟨okQ_iff.2 ⟨refM_okN _, refM_okN _, refM_okN _⟩, ?_, ?_, ?_⟩
  · show vR (RM (qA p q) (RM (qF p q) (qH p q))) = _
    rw [vR_refM, vR_refM, eA, eF, eH]; rfl
  · show vR (RM (qA p q) (RM (qG p q) (RA (qD p q) (qC p q)))) = _
    rw [vR_refM, vR_refM, vR_refM, eA, eG, eD, eC]; rfl
  · show vR (RM (qF p q) (qG p q)) = _
    rw [vR_refM, eF, eG]; rfl
theorem nothQ_val : VQ nothQ (0, 1, 1) := ⟨by decide, by decide, by decide, by decide⟩
end Go.Proofs.Ytailgcdcdhhpnaa.Po
