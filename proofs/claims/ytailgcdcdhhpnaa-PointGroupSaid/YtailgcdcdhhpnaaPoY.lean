/- This file proves the law PointGroup as a call of the interpreter: it returns true. Conditions: bytes within their kind. -/
import Derived.Test.YtailgcdcdhhpnaaPoX
import Derived.Test.YtailgcdcdhhpnaaNd
namespace Go.Proofs.Ytailgcdcdhhpnaa.Po
open Go Go.Sy Re

/-! ### The order's bytes -/
def ordK : List Int := [237, 211, 245, 92, 26, 99, 18, 88, 214, 156, 247, 162, 222, 249, 222, 20, 0, 0, 0, 0, 0, 0, 0, 0, 0, 0, 0, 0, 0, 0, 0, 16]
def orderREF : List SV → Option (SV × List Blk × Bool)
  | [] => some (.agg [.ints .u8 32 ordK], [], true)
  | _ => none
theorem ctrOr : CtrSound Try.prog (mk (P := Try.prog) [] []) := mk_sound [] InlOK.nil _ _
set_option maxRecDepth 100000 in
noncomputable def orderRE : Entry Try.prog := .val 28 _ Try.func28 (by decide) rfl false 0 orderREF fun vs v new e => by
  unfold orderREF at e
  split at e
  · cases e
    exact call0 ctrOr 60 Try.func28 (p := true) (by kernel_rfl) rfl rfl
  · cases e
theorem ordK_ok : keyOK ordK = true ∧ numB ordK = LN := ⟨by decide, by decide⟩

/-! ### A product's and a sum's residue -/
theorem vals_eq : ∀ l : List Int, Go.Proofs.Ytailgcdcdhhpnaa.val256 l = Fe.val256 l
  | [] => rfl
  | x :: l => by
    show x + 256 * Go.Proofs.Ytailgcdcdhhpnaa.val256 l = x + 256 * Fe.val256 l
    rw [vals_eq l]
theorem digs_eq : ∀ (n : Nat) (v : Int), Go.Proofs.Ytailgcdcdhhpnaa.digN n v = Fe.digN n v
  | 0, _ => rfl
  | n + 1, v => by
    show v % 256 :: Go.Proofs.Ytailgcdcdhhpnaa.digN n (v / 256) = v % 256 :: Fe.digN n (v / 256)
    rw [digs_eq n]
theorem ma_ok {a b c : List Int} (ha : keyOK a = true) (hb : keyOK b = true) (hc : keyOK c = true) : keyOK (maF a b c) = true ∧ numB (maF a b c) = (numB a * numB b + numB c) % LN := by
  have a0 := Fe.val256_nonneg (keyOK_iff.1 ha).2
  have b0 := Fe.val256_nonneg (keyOK_iff.1 hb).2
  have c0 := Fe.val256_nonneg (keyOK_iff.1 hc).2
  have e : maF a b c = Fe.digN 32 ((Fe.val256 a * Fe.val256 b + Fe.val256 c) % ordL) := by
    unfold maF
    rw [Go.Lift.Lock_eq, digs_eq, vals_eq, vals_eq, vals_eq]
  have hL : ordL = (LN : Int) := rfl
  have r0 : 0 ≤ (Fe.val256 a * Fe.val256 b + Fe.val256 c) % ordL := Int.emod_nonneg _ (by rw [hL]; decide)
  have r1 : (Fe.val256 a * Fe.val256 b + Fe.val256 c) % ordL < ordL := Int.emod_lt_of_pos _ (by rw [hL]; decide)
  have hv : Fe.val256 (maF a b c) = (Fe.val256 a * Fe.val256 b + Fe.val256 c) % ordL := by
    rw [e]
    refine Fe.val_digN 32 _ r0 (Int.lt_trans r1 ?_)
    rw [hL]
    decide
  refine ⟨?_, ?_⟩
  · rw [e]
    exact keyOK_iff.2 ⟨Fe.digN_length .., Fe.digN_u8 ..⟩
  · have hnn : numB (maF a b c) = ((Fe.val256 a * Fe.val256 b + Fe.val256 c) % ordL).toNat := by unfold numB; rw [hv]
    rw [hnn]
    unfold numB
    generalize Fe.val256 a = x at *
    generalize Fe.val256 b = y at *
    generalize Fe.val256 c = z at *
    obtain ⟨x, rfl⟩ := Int.eq_ofNat_of_zero_le a0
    obtain ⟨y, rfl⟩ := Int.eq_ofNat_of_zero_le b0
    obtain ⟨z, rfl⟩ := Int.eq_ofNat_of_zero_le c0
    rw [hL, ← Int.natCast_mul, ← Int.natCast_add, ← Int.natCast_emod, Int.toNat_natCast, Int.toNat_natCast, Int.toNat_natCast, Int.toNat_natCast]

/-! ### The law -/
noncomputable def gpC : Ctr := mk (P := Try.prog) [aliveE, baseE, fromE, timesE, addE, negE, bytesE, equalE, Sp.mulAddE, orderRE] [] fun i => if i = 33 || i = 47 || i = 55 || i = 63 then some false else if i = 71 || i = 76 || i = 88 then some true else none
theorem gpC_ok : CtrSound Try.prog gpC := mk_sound _ InlOK.nil _ _
noncomputable def gpO1 (P Q R : PP) (o : Bool) : Bool :=
  let o1 := andT (ob2 (ob2 (ob2 o (lenZ P && lenZ Q)) (lenZ Q && lenZ P)) (lenZ (addP P Q) && lenZ (addP Q P))) (!(!(eqP (addP P Q) (addP Q P))))
  let o2 := andT (ob2 (ob2 (ob2 (ob2 (ob2 o1 (lenZ P && lenZ Q)) (lenZ (addP P Q) && lenZ R)) (lenZ Q && lenZ R)) (lenZ P && lenZ (addP Q R))) (lenZ (addP (addP P Q) R) && lenZ (addP P (addP Q R)))) (!(!(eqP (addP (addP P Q) R) (addP P (addP Q R)))))
  let o3 := andT (ob2 (ob2 o2 (lenZ P && lenZ zeroP)) (lenZ (addP P zeroP) && lenZ P)) (!(!(eqP (addP P zeroP) P)))
  andT (ob2 (ob2 (ob2 o3 (lenZ P)) (lenZ P && lenZ (negP P))) (lenZ (addP P (negP P)) && lenZ zeroP)) (!(!(eqP (addP P (negP P)) zeroP)))
noncomputable def gpO2 (a b : List Int) (P Q : PP) (o : Bool) : Bool :=
  let X := frP (bytesP P)
  let m := maF a (keyN 1) b
  let o1 := andT (ob2 (andT (ob2 o (lenZ P)) (frOk (bytesP P))) (lenZ X && lenZ P)) (eqP X P)
  let o2 := andT (ob2 (ob2 (ob2 (ob2 o1 (Sp.keyOK a && Sp.keyOK (keyN 1) && Sp.keyOK b)) (lenZ baseP)) (lenZ P && lenZ Q)) (lenZ (timesP baseP m) && lenZ (addP P Q))) (eqP (timesP baseP m) (addP P Q))
  ob2 (ob2 o2 (lenZ baseP)) (lenZ (timesP baseP ordK) && lenZ zeroP)
noncomputable def gpP (a b c : List Int) : Bool :=
  gpO2 a b (timesP baseP a) (timesP baseP b) (gpO1 (timesP baseP a) (timesP baseP b) (timesP baseP c) (ob2 (ob2 (ob2 true (lenZ baseP)) (lenZ baseP)) (lenZ baseP)))
set_option maxRecDepth 100000 in
theorem gp_run (a b c : List Int) : (callS Try.prog gpC 60 Try.f9 [.agg [.ints .u8 32 a], .agg [.ints .u8 32 b], .agg [.ints .u8 32 c]] []).map (fun x => (x.1, x.2.2)) =
    some (.bool (eqP (timesP baseP ordK) zeroP), gpP a b c) := by kernel_rfl
theorem sp_key {l : List Int} (h : keyOK l = true) : Sp.keyOK l = true := Sp.keyOK_iff.2 ⟨(keyOK_iff.1 h).1, (keyOK_iff.1 h).2⟩
theorem group_law {a b c : List Int} (ha : keyOK a = true) (hb : keyOK b = true) (hc : keyOK c = true) :
    FnTr Try.prog 9 [.agg [.ints .u8 32 a], .agg [.ints .u8 32 b], .agg [.ints .u8 32 c]] [] (.bool true) [] := by
  have hP := base_pt.times ha
  have hQ := base_pt.times hb
  have hR := base_pt.times hc
  obtain ⟨x1, x2, _⟩ := from_back hP.on
  rw [← hP.bytes] at x1 x2
  have k1 := keyN_ok (x := 1) (by omega)
  have hm := ma_ok ha k1.1 hb
  have hM := base_pt.times hm.1
  have hO := base_pt.times ordK_ok.1
  have e1 : eqP (addP (timesP baseP a) (timesP baseP b)) (addP (timesP baseP b) (timesP baseP a)) = true := ((hP.add hQ).equal (hQ.add hP)).trans (decide_eq_true (add_commA _ _))
  have e2 : eqP (addP (addP (timesP baseP a) (timesP baseP b)) (timesP baseP c)) (addP (timesP baseP a) (addP (timesP baseP b) (timesP baseP c))) = true := (((hP.add hQ).add hR).equal (hP.add (hQ.add hR))).trans (decide_eq_true (add_assocA hP.on hQ.on hR.on))
  have e3 : eqP (addP (timesP baseP a) zeroP) (timesP baseP a) = true := ((hP.add zero_RP).equal hP).trans (decide_eq_true (add_zeroA _))
  have e4 : eqP (addP (timesP baseP a) (negP (timesP baseP a))) zeroP = true := ((hP.add hP.neg).equal zero_RP).trans (decide_eq_true (add_negA hP.on))
  have e5 : eqP (frP (bytesP (timesP baseP a))) (timesP baseP a) = true := (x2.equal hP).trans (decide_eq_true rfl)
  have e6 : eqP (timesP baseP (maF a (keyN 1) b)) (addP (timesP baseP a) (timesP baseP b)) = true := (hM.equal (hP.add hQ)).trans (decide_eq_true (by
    rw [hm.2, k1.2, show Int.toNat 1 = 1 from rfl, Nat.mul_one, ← mul_LN, mul_addA base_rv.on]))
  have e7 : eqP (timesP baseP ordK) zeroP = true := (hO.equal zero_RP).trans (decide_eq_true (by rw [ordK_ok.2, base_order]))
  have hp : gpP a b c = true := by
    unfold gpP gpO1 gpO2
    simp only [base_pt.l, hP.l, hQ.l, hR.l, (hP.add hQ).l, (hQ.add hP).l, (hQ.add hR).l, ((hP.add hQ).add hR).l, (hP.add (hQ.add hR)).l, zero_RP.l, (hP.add zero_RP).l, hP.neg.l, (hP.add hP.neg).l, hM.l, hO.l, x2.l, x1, e1, e2, e3, e4, e5, e6, sp_key ha, sp_key hb, sp_key k1.1]
    rfl
  have key := call0 gpC_ok 60 Try.func9 (gp_run a b c) hp rfl
  rw [e7] at key
  exact key
end Go.Proofs.Ytailgcdcdhhpnaa.Po
