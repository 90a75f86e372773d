/- This file proves the contract of the laws' alive: the base's bytes. No conditions. -/
import Derived.Test.YtailgcdcdhhpnaaPoF
namespace Go.Proofs.Ytailgcdcdhhpnaa.Po
open Go Go.Sy Re Fe

/-- What a point, made whole, stands for. -/
structure VW (p : PP) (v : V4) : Prop where
  w : VP (wholeP p) v
  l : lenZ p = true
theorem VP.whole {p : PP} {v : V4} (h : VP p v) (hz : v.2.2.1 ≠ 0) : VW p v := ⟨by rw [whole_id h hz]; exact h, h.lenZ⟩
theorem zero_VW : VW zeroP (0, 1, 1, 0) := ⟨nothP_val, rfl⟩
theorem bytes_VW {p : PP} {v : V4} (h : VW p v) : bytesP p = encB (mm v.2.1 (inv v.2.2.1)) (decide (mm v.1 (inv v.2.2.1) % 2 = 1)) := by
  have hp := h.w
  obtain ⟨i1, i2⟩ := inv_val hp.bz
  rw [hp.fz] at i2
  have i3 : fv (invFe (wholeP p).2.2.1) = inv v.2.2.1 := i2
  obtain ⟨y1, y2⟩ := fM_val hp.by' i1
  obtain ⟨x1, x2⟩ := fM_val hp.bx i1
  have hy : byY p = digN 32 (mm v.2.1 (inv v.2.2.1)) := by
    unfold byY
    rw [y1.bytes, y2, hp.fy, i3]
  have ho : byO p = decide (mm v.1 (inv v.2.2.1) % 2 = 1) := by
    unfold byO
    rw [odd_val x1, x2, hp.fx, i3]
  have r : 0 ≤ mm v.2.1 (inv v.2.2.1) ∧ mm v.2.1 (inv v.2.2.1) < Pm := mod_range (v.2.1 * inv v.2.2.1)
  have hs := top_small r.1 r.2
  unfold bytesP encB
  rw [ho, hy, digN_getD 32 31 _ (by omega), or128 _ hs.1 hs.2]
theorem add_VW {p q : PP} {a b : V4} (hp : VW p a) (hq : VW q b) : VP (addP p q) (sumV dV a b) := by
  have := sum_val dF_val.1 hp.w hq.w
  rw [dF_val.2] at this
  exact this
theorem neg_VW {p : PP} {a : V4} (hp : VW p a) : VP (negP p) (ms 0 a.1, a.2.1, a.2.2.1, ms 0 a.2.2.2) := by
  obtain ⟨x1, x2⟩ := sub_val Bd.z5 hp.w.bx
  obtain ⟨t1, t2⟩ := sub_val Bd.z5 hp.w.bt
  rw [z5_val, hp.w.fx] at x2
  rw [z5_val, hp.w.ft] at t2
  exact ⟨x1, hp.w.by', hp.w.bz, t1, x2, hp.w.fy, hp.w.fz, t2⟩
theorem eqX_VW {p q : PP} {a b : V4} (hp : VW p a) (hq : VW q b) : eqX p q = decide (mm a.1 b.2.2.1 = mm b.1 a.2.2.1) ∧ eqY p q = decide (mm a.2.1 b.2.2.1 = mm b.2.1 a.2.2.1) := by
  have key : ∀ {x y x' y' : List Int}, Bd x → Bd y → Bd x' → Bd y' → decide (bytesFe (fM x y) = bytesFe (fM x' y')) = decide (mm (fv x) (fv y) = mm (fv x') (fv y')) := fun hx hy hx' hy' => by
    obtain ⟨m1, m2⟩ := fM_val hx hy
    obtain ⟨n1, n2⟩ := fM_val hx' hy'
    have := eq_iff m1 n1
    rw [m2, n2] at this
    exact decide_eq_decide.2 this
  refine ⟨?_, ?_⟩
  · unfold eqX
    rw [key hp.w.bx hq.w.bz hq.w.bx hp.w.bz, hp.w.fx, hq.w.fz, hq.w.fx, hp.w.fz]
  · unfold eqY
    rw [key hp.w.by' hq.w.bz hq.w.by' hp.w.bz, hp.w.fy, hq.w.fz, hq.w.fy, hp.w.fz]

/-! ### The base, reckoned -/
def rAi (x : Int) : Int := pwi x ((Pm - 5) / 8).toNat * x % Pm
def rBi (x : Int) : Int := if rAi x * rAi x % Pm = x then rAi x else rAi x * pwi 2 ((Pm - 1) / 4).toNat % Pm
def rootVi (x : Int) : Option Int := if rBi x * rBi x % Pm = x then some (if rBi x % 2 = 1 then (0 - rBi x) % Pm else rBi x) else none
theorem rootV_i {x : Int} (h : 0 ≤ x) : rootV x = rootVi x := by
  have e1 : rA x = rAi x := by unfold rA rAi; rw [pwm_pwi h (by decide)]
  have e2 : rB x = rBi x := by unfold rB rBi; rw [e1, pwm_pwi (x := 2) (by decide) (by decide)]
  unfold rootV rootVi
  rw [e2]
def uVi (y : Int) : Int := mm (ms (mm y y) 1) (invi (ma (mm dV (mm y y)) 1))
theorem uV_i (y : Int) : uV y = uVi y := by
  unfold uV uVi
  rw [inv_invi (show 0 ≤ ma (mm dV (mm y y)) 1 from (mod_range _).1)]
def BX : Int := 15112221349535400772501151409588531511454012693041857206046113283949847762202
def BY : Int := 46316835694926478169428394003475163141307993866256225615783033603165251855960
theorem baseY_val : Bd baseY ∧ fv baseY = BY := by
  have s4 := small_val (n := 4) (by omega) (by omega)
  have s5 := small_val (n := 5) (by omega) (by omega)
  obtain ⟨i1, i2⟩ := inv_val s5.1
  obtain ⟨m1, m2⟩ := fM_val s4.1 i1
  have h5 : fv (smallFe 5) = 5 := by unfold fv; rw [s5.2]; decide
  have h4 : fv (smallFe 4) = 4 := by unfold fv; rw [s4.2]; decide
  rw [h5] at i2
  refine ⟨m1, ?_⟩
  unfold baseY
  rw [m2, h4, i2, pwm_pwi (by decide) two_Pm]
  decide +kernel
theorem base_root : rootVi (uVi BY) = some BX := by decide +kernel
theorem base_val : VP baseP (BX, BY, 1, mm BX BY) := by
  obtain ⟨b1, b2⟩ := baseY_val
  have hx : xV (fv baseY) false = some BX := by
    unfold xV
    rw [b2, uV_i, rootV_i (show 0 ≤ uVi BY from (mod_range _).1), base_root]
    rfl
  have hr : okN (refN BY) = true := refN_okN (by decide) (by decide)
  have hv : fv baseY = vR (refN BY) := by rw [b2, vR_refN (by decide) (by decide)]
  obtain ⟨_, _, h⟩ := of_rel b1 hr hv false
  have := (h BX hx).1
  rw [b2] at this
  exact this
theorem base_VW : VW baseP (BX, BY, 1, mm BX BY) := base_val.whole (by decide)
theorem base_bytes : bytesP baseP = encB BY false := by
  rw [bytes_VW base_VW]
  show encB (mm BY (inv 1)) (decide (mm BX (inv 1) % 2 = 1)) = _
  rw [inv_invi (x := 1) (by decide)]
  have h1 : mm BY (invi 1) = BY := by decide +kernel
  have h2 : decide (mm BX (invi 1) % 2 = 1) = false := by decide +kernel
  rw [h1, h2]

/-! ### alive -/
theorem ctrAl : CtrSound Try.prog (mk [baseE, bytesE, negE, addE, equalE] [] fun i => if i = 7 || i = 12 || i = 17 then some true else none) := mk_sound _ InlOK.nil _ _
noncomputable def aliveB : PP := addP baseP (negP baseP)
set_option maxRecDepth 100000 in
theorem alive_run : (callS Try.prog (mk [baseE, bytesE, negE, addE, equalE] [] fun i => if i = 7 || i = 12 || i = 17 then some true else none) 60 Try.f15 [] []).map (fun x => (x.1, x.2.2)) =
    some (.bool (eqX aliveB zeroP && eqY aliveB zeroP), ob2 (ob2 (ob2 (andT (andT (andT (ob2 true (lenZ baseP)) ((bytesP baseP).getD 0 0 == 88)) ((bytesP baseP).getD 1 0 == 102)) ((bytesP baseP).getD 31 0 == 102)) (lenZ baseP)) (lenZ baseP && lenZ (negP baseP))) (lenZ aliveB && lenZ zeroP)) := by kernel_rfl
theorem alive_fn : FnTr Try.prog 15 [] [] (.bool true) [] := by
  have hn := neg_VW base_VW
  have hnw : VW (negP baseP) _ := hn.whole (by show (1 : Int) ≠ 0; decide)
  have ha := add_VW base_VW hnw
  have hz : (sumV dV (BX, BY, 1, mm BX BY) (ms 0 BX, BY, 1, ms 0 (mm BX BY))).2.2.1 ≠ 0 := by decide +kernel
  have haw : VW aliveB _ := ha.whole hz
  obtain ⟨e1, e2⟩ := eqX_VW haw zero_VW
  have c1 : (decide (mm (sumV dV (BX, BY, 1, mm BX BY) (ms 0 BX, BY, 1, ms 0 (mm BX BY))).1 1 = mm 0 (sumV dV (BX, BY, 1, mm BX BY) (ms 0 BX, BY, 1, ms 0 (mm BX BY))).2.2.1)) = true := by decide +kernel
  have c2 : (decide (mm (sumV dV (BX, BY, 1, mm BX BY) (ms 0 BX, BY, 1, ms 0 (mm BX BY))).2.1 1 = mm 1 (sumV dV (BX, BY, 1, mm BX BY) (ms 0 BX, BY, 1, ms 0 (mm BX BY))).2.2.1)) = true := by decide +kernel
  have hv : (eqX aliveB zeroP && eqY aliveB zeroP) = true := by
    rw [e1, e2]
    exact Bool.and_eq_true_iff.2 ⟨c1, c2⟩
  have key := call0 ctrAl 60 Try.func15 alive_run (by
    rw [base_bytes, base_VW.l, hnw.l, haw.l]
    decide) rfl
  rw [hv] at key
  exact key
def aliveEF : List SV → Option (SV × List Blk × Bool)
  | [] => some (.bool true, [], true)
  | _ => none
noncomputable def aliveE : Entry Try.prog := .val 15 _ Try.func15 (by decide) rfl false 0 aliveEF fun vs v new e => by
  unfold aliveEF at e
  split at e
  · cases e; exact alive_fn
  · cases e
end Go.Proofs.Ytailgcdcdhhpnaa.Po
