/- This file proves the law PointDoubles as a call of the interpreter: it returns true. Conditions: bytes within their kind. -/
import Derived.Test.YtailgcdcdhhpnaaPoS
namespace Go.Proofs.Ytailgcdcdhhpnaa.Po
open Go Go.Sy Re Fe

/-! ### The base -/
def baseA : Pt := (ph BX, ph BY)
theorem base_pt : RP baseP baseA := by
  have hr : rootV (uV BY) = some BX := by
    rw [uV_i, rootV_i (show 0 ≤ uVi BY from (mod_range _).1)]
    exact base_root
  exact ⟨_, base_VW, (rv_one (root_sq hr) rfl).1⟩

/-! ### Small numbers -/
def keyN (x : Int) : List Int := (List.replicate 32 0).set 0 x
def keyNN (x y : Int) : List Int := ((List.replicate 32 0).set 0 x).set 1 y
theorem keyN_ok {x : Int} (h : 0 ≤ x ∧ x < 256) : keyOK (keyN x) = true ∧ numB (keyN x) = x.toNat := by
  have hl : keyN x = x :: List.replicate 31 0 := rfl
  have hz : val256 (List.replicate 31 0) = 0 := by decide
  refine ⟨keyOK_iff.2 ⟨rfl, ?_⟩, ?_⟩
  · rw [hl, List.all_cons, show (List.replicate 31 (0 : Int)).all u8 = true by decide, Bool.and_true, u8_iff]; exact h
  · unfold numB
    rw [hl, val256, hz]
    omega
theorem keyNN_ok {x y : Int} (h : 0 ≤ x ∧ x < 256) (h' : 0 ≤ y ∧ y < 256) : keyOK (keyNN x y) = true ∧ numB (keyNN x y) = (x + 256 * y).toNat := by
  have hl : keyNN x y = x :: y :: List.replicate 30 0 := rfl
  have hz : val256 (List.replicate 30 0) = 0 := by decide
  refine ⟨keyOK_iff.2 ⟨rfl, ?_⟩, ?_⟩
  · rw [hl, List.all_cons, List.all_cons, show (List.replicate 30 (0 : Int)).all u8 = true by decide, Bool.and_true, Bool.and_eq_true, u8_iff, u8_iff]; exact ⟨h, h'⟩
  · unfold numB
    rw [hl, val256, val256, hz]
    omega
/-- A product's two bytes. -/
def prI (n m : Int) : Int := IntKind.i64.wrap (IntKind.i64.wrap n * IntKind.i64.wrap m)
def keyPr (n m : Int) : List Int := keyNN (IntKind.u8.wrap (prI n m)) (IntKind.u8.wrap (shrI .i64 (prI n m) (Int.toNat 8)))
theorem keyPr_ok {n m : Int} (hn : 0 ≤ n ∧ n < 256) (hm : 0 ≤ m ∧ m < 256) : keyOK (keyPr n m) = true ∧ numB (keyPr n m) = n.toNat * m.toNat := by
  obtain ⟨a, rfl⟩ := Int.eq_ofNat_of_zero_le hn.1
  obtain ⟨b, rfl⟩ := Int.eq_ofNat_of_zero_le hm.1
  have hab : a * b ≤ 255 * 255 := Nat.mul_le_mul (by omega) (by omega)
  have hp : prI (a : Int) b = ((a * b : Nat) : Int) := by
    unfold prI
    rw [wrap_i64 (a : Int) (by omega) (by omega), wrap_i64 (b : Int) (by omega) (by omega), ← Int.natCast_mul, wrap_i64 _ (by omega) (by omega)]
  unfold keyPr
  rw [hp, shr_eq _ _ _ (by decide), wrap_u8, wrap_u8, show (2 : Int) ^ (Int.toNat 8) = 256 by decide]
  obtain ⟨k1, k2⟩ := keyNN_ok (x := ((a * b : Nat) : Int) % 256) (y := ((a * b : Nat) : Int) / 256 % 256) (by omega) (by omega)
  refine ⟨k1, ?_⟩
  rw [k2, Int.toNat_natCast, Int.toNat_natCast]
  generalize a * b = c at *
  omega

/-! ### The law -/
noncomputable def dbC : Ctr := mk (P := Try.prog) [aliveE, baseE, fromE, timesE, addE, bytesE, equalE] [] fun i => if i = 28 || i = 33 || i = 42 then some true else none
theorem dbC_ok : CtrSound Try.prog dbC := mk_sound _ InlOK.nil _ _
noncomputable def eqP (p q : PP) : Bool := eqX p q && eqY p q
noncomputable def dbP (a : List Int) (n m : Int) : Bool :=
  let P := timesP baseP a
  let Q := frP (bytesP P)
  let o1 := andT (ob2 (ob2 true (lenZ baseP)) (lenZ P)) (frOk (bytesP P))
  let o2 := andT (ob2 o1 (lenZ Q && lenZ P)) (eqP Q P)
  let o3 := andT (ob2 (ob2 (ob2 o2 (lenZ P)) (lenZ P && lenZ P)) (lenZ (timesP P (keyN 2)) && lenZ (addP P P))) (eqP (timesP P (keyN 2)) (addP P P))
  ob2 (ob2 (ob2 (ob2 o3 (lenZ P)) (lenZ (timesP P (keyN n)))) (lenZ P)) (lenZ (timesP (timesP P (keyN n)) (keyN m)) && lenZ (timesP P (keyPr n m)))
set_option maxRecDepth 100000 in
theorem db_run (a : List Int) (n m : Int) : (callS Try.prog dbC 60 Try.f8 [.agg [.ints .u8 32 a], .int .u8 n, .int .u8 m] []).map (fun x => (x.1, x.2.2)) =
    some (.bool (eqP (timesP (timesP (timesP baseP a) (keyN n)) (keyN m)) (timesP (timesP baseP a) (keyPr n m))), dbP a n m) := by kernel_rfl
theorem dbl_law {a : List Int} {n m : Int} (ha : keyOK a = true) (hn : 0 ≤ n ∧ n < 256) (hm : 0 ≤ m ∧ m < 256) :
    FnTr Try.prog 8 [.agg [.ints .u8 32 a], .int .u8 n, .int .u8 m] [] (.bool true) [] := by
  have hP := base_pt.times ha
  obtain ⟨b1, b2, _⟩ := from_back hP.on
  rw [← hP.bytes] at b1 b2
  have h2 := hP.times (keyN_ok (x := 2) (by omega)).1
  have hN := hP.times (keyN_ok hn).1
  have hNM := hN.times (keyN_ok hm).1
  have hPr := hP.times (keyPr_ok hn hm).1
  have hD := hP.add hP
  have e1 : eqP (frP (bytesP (timesP baseP a))) (timesP baseP a) = true := (b2.equal hP).trans (decide_eq_true rfl)
  have e2 : eqP (timesP (timesP baseP a) (keyN 2)) (addP (timesP baseP a) (timesP baseP a)) = true := (h2.equal hD).trans (decide_eq_true (by
    rw [(keyN_ok (x := 2) (by omega)).2, show Int.toNat 2 = 0 + 1 + 1 from rfl, mulA_succ, mulA_succ, mulA_zero, zero_addA]))
  have e3 : eqP (timesP (timesP (timesP baseP a) (keyN n)) (keyN m)) (timesP (timesP baseP a) (keyPr n m)) = true := (hNM.equal hPr).trans (decide_eq_true (by
    rw [(keyN_ok hn).2, (keyN_ok hm).2, (keyPr_ok hn hm).2, mul_mulA hP.on]))
  have hp : dbP a n m = true := by
    unfold dbP
    simp only [base_pt.l, hP.l, b1, b2.l, e1, h2.l, hD.l, e2, hN.l, hNM.l, hPr.l]
    rfl
  have key := call0 dbC_ok 60 Try.func8 (db_run a n m) hp rfl
  rw [e3] at key
  exact key
end Go.Proofs.Ytailgcdcdhhpnaa.Po
