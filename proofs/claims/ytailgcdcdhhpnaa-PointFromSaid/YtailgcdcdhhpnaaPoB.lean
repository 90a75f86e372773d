/- This file proves the contracts of the reference's points. Conditions: numbers below p. -/
import Derived.Test.YtailgcdcdhhpnaaPoA
namespace Go.Proofs.Ytailgcdcdhhpnaa.Po
open Go Go.Sy Re Fe

abbrev RN (x : List Int) : SV := .ints .i64 16 x
noncomputable abbrev RM (a b : List Int) : List Int := refN (vR a * vR b % Pm)
noncomputable abbrev RA (a b : List Int) : List Int := refN ((vR a + vR b) % Pm)
noncomputable abbrev RS (a b : List Int) : List Int := refN ((vR a - vR b) % Pm)
noncomputable abbrev RI (a : List Int) : List Int := refN (pwm (vR a) (Pm - 2).toNat)
theorem pwm_okN (x : Int) (n : Nat) : okN (refN (pwm x n)) = true := refN_okN (pwm_range x n).1 (pwm_range x n).2
theorem okN_P {l : List Int} (h : okN l = true) : okP l = true := (okN_iff.1 h).1
abbrev QP := List Int × List Int × List Int
abbrev svQ (p : QP) : SV := .agg [RN p.1, RN p.2.1, RN p.2.2]
def okQ (p : QP) : Bool := okN p.1 && (okN p.2.1 && okN p.2.2)
theorem okQ_iff {p : QP} : okQ p = true ↔ okN p.1 = true ∧ okN p.2.1 = true ∧ okN p.2.2 = true := by simp [okQ]

/-! ### Factor, Nothing -/
def dBytes : List Int := [0xa3, 0x78, 0x59, 0x13, 0xca, 0x4d, 0xeb, 0x75, 0xab, 0xd8, 0x41, 0x41, 0x4d, 0x0a, 0x70, 0x00, 0x98, 0xe8, 0x79, 0x77, 0x79, 0x40, 0xc7, 0x8c, 0x73, 0xfe, 0x6f, 0x2b, 0xee, 0x6c, 0x03, 0x52]
noncomputable def dR : List Int := refN (val256 dBytes % 57896044618658097711785492504343953926634992332820282019728792003956564819968 % Pm)
theorem dR_ok : okN dR = true := refM_okN _
noncomputable def factorREF : List SV → Option (SV × List Blk × Bool)
  | [] => some (.agg [RN (Lock dR)], [], true)
  | _ => none
theorem ctrRF : CtrSound Try.prog (mk [Re.fromE] []) := mk_sound _ InlOK.nil _ _
set_option maxRecDepth 100000 in
noncomputable def factorRE : Entry Try.prog := .val 45 _ Try.func45 (by decide) rfl false 0 factorREF fun vs v new e => by
  unfold factorREF at e
  split at e
  · cases e
    rw [Lock_eq]
    exact call0 ctrRF 60 Try.func45 (p := andT true (andT true (Re.keyOK dBytes))) (by kernel_rfl) (by decide) rfl
  · cases e
def nothingREF : List SV → Option (SV × List Blk × Bool)
  | [] => some (svQ (z16, one16, one16), [], true)
  | _ => none
set_option maxRecDepth 100000 in
noncomputable def nothingRE : Entry Try.prog := .val 42 _ Try.func42 (by decide) rfl false 0 nothingREF fun vs v new e => by
  unfold nothingREF at e
  split at e
  · cases e
    exact call0 ctrRF 60 Try.func42 (p := true) (by kernel_rfl) rfl rfl
  · cases e
theorem ctrRA : CtrSound Try.prog (mk [factorRE, Re.mulE, Re.addE, Re.subE] []) := mk_sound _ InlOK.nil _ _
theorem ctrRN : CtrSound Try.prog (mk [Re.subE] []) := mk_sound _ InlOK.nil _ _
/-- What a contract asks for, behind what was asked for ahead of it. -/
def ob2 (o q : Bool) : Bool := andT o (andT true q)
theorem ob2_iff {o q : Bool} (h : o = true) (g : q = true) : ob2 o q = true := by rw [h, g]; rfl

/-! ### Add -/
noncomputable def qA (p q : QP) : List Int := RM p.2.2 q.2.2
noncomputable def qB (p q : QP) : List Int := RM (qA p q) (qA p q)
noncomputable def qC (p q : QP) : List Int := RM p.1 q.1
noncomputable def qD (p q : QP) : List Int := RM p.2.1 q.2.1
noncomputable def qE (p q : QP) : List Int := RM (Lock dR) (RM (qC p q) (qD p q))
noncomputable def qF (p q : QP) : List Int := RS (qB p q) (qE p q)
noncomputable def qG (p q : QP) : List Int := RA (qB p q) (qE p q)
noncomputable def qK (p q : QP) : List Int := RM (RA p.1 p.2.1) (RA q.1 q.2.1)
noncomputable def qH (p q : QP) : List Int := RS (RS (qK p q) (qC p q)) (qD p q)
noncomputable def addQW (p q : QP) : QP := (RM (qA p q) (RM (qF p q) (qH p q)), RM (qA p q) (RM (qG p q) (RA (qD p q) (qC p q))), RM (qF p q) (qG p q))
noncomputable def addQ (p q : QP) : QP := Lock (addQW p q)
noncomputable def addQO (p q : QP) : Bool :=
  [okP p.2.2 && okP q.2.2, okP (qA p q) && okP (qA p q), okP p.1 && okP q.1, okP p.2.1 && okP q.2.1, okP (qC p q) && okP (qD p q), okP (Lock dR) && okP (RM (qC p q) (qD p q)), okP (qB p q) && okN (qE p q), okP (qB p q) && okP (qE p q),
   okP p.1 && okP p.2.1, okP q.1 && okP q.2.1, okP (RA p.1 p.2.1) && okP (RA q.1 q.2.1), okP (qK p q) && okN (qC p q), okP (RS (qK p q) (qC p q)) && okN (qD p q), okP (qF p q) && okP (qH p q), okP (qA p q) && okP (RM (qF p q) (qH p q)),
   okP (qD p q) && okP (qC p q), okP (qG p q) && okP (RA (qD p q) (qC p q)), okP (qA p q) && okP (RM (qG p q) (RA (qD p q) (qC p q))), okP (qF p q) && okP (qG p q)].foldl ob2 true
theorem dL_ok : okN (Lock dR) = true := by rw [Lock_eq]; exact dR_ok
theorem addQO_ok {p q : QP} (hp : okQ p = true) (hq : okQ q = true) : addQO p q = true := by
  obtain ⟨p1, p2, p3⟩ := okQ_iff.1 hp
  obtain ⟨q1, q2, q3⟩ := okQ_iff.1 hq
  unfold addQO qF qG qH qE qB qK qA qC qD
  simp only [List.foldl_cons, List.foldl_nil, refN_ok, refM_okN, okN_P p1, okN_P p2, okN_P p3, okN_P q1, okN_P q2, okN_P q3, okN_P dL_ok]
  rfl
noncomputable def addREF : List SV → Option (SV × List Blk × Bool)
  | [.agg [.ints .i64 16 x, .ints .i64 16 y, .ints .i64 16 z], .agg [.ints .i64 16 x', .ints .i64 16 y', .ints .i64 16 z']] => some (svQ (addQ (x, y, z) (x', y', z')), [], okQ (x, y, z) && okQ (x', y', z'))
  | _ => none
set_option maxRecDepth 100000 in
noncomputable def addRE : Entry Try.prog := .val 21 _ Try.func21 (by decide) rfl false 0 addREF fun vs v new e => by
  unfold addREF at e
  split at e
  · rename_i x y z x' y' z'
    simp only [Option.some.injEq, Prod.mk.injEq, Bool.and_eq_true] at e
    obtain ⟨rfl, rfl, hp, hq⟩ := e
    rw [addQ, Lock_eq]
    exact call0 ctrRA 80 Try.func21 (p := addQO (x, y, z) (x', y', z')) (by kernel_rfl) (addQO_ok hp hq) rfl
  · cases e

/-! ### Neg -/
noncomputable def negQ (p : QP) : QP := (RS z16 p.1, p.2.1, p.2.2)
noncomputable def negREF : List SV → Option (SV × List Blk × Bool)
  | [.agg [.ints .i64 16 x, .ints .i64 16 y, .ints .i64 16 z]] => some (svQ (negQ (x, y, z)), [], okQ (x, y, z))
  | _ => none
set_option maxRecDepth 100000 in
noncomputable def negRE : Entry Try.prog := .val 23 _ Try.func23 (by decide) rfl false 0 negREF fun vs v new e => by
  unfold negREF at e
  split at e
  · rename_i x y z
    simp only [Option.some.injEq, Prod.mk.injEq] at e
    obtain ⟨rfl, rfl, hp⟩ := e
    exact call0 ctrRN 80 Try.func23 (p := ob2 true (okP z16 && okN x)) (by kernel_rfl) (by rw [(okQ_iff.1 hp).1]; rfl) rfl
  · cases e

/-! ### Bytes -/
noncomputable def rbY (p : QP) : List Int := Lock (digN 32 (vR (RM p.2.1 (RI p.2.2))))
noncomputable def rbO (p : QP) : Bool := ((RM p.1 (RI p.2.2)).getD 0 0).tmod 2 == 1
noncomputable def bytesQ (p : QP) : List Int := bif rbO p then (rbY p).set 31 (uw ((rbY p).getD 31 0 + 128)) else rbY p
theorem rbY_len (p : QP) : (rbY p).length = 32 := by unfold rbY; rw [Lock_eq, digN_length]
theorem ctrRB (b : Bool) : CtrSound Try.prog (mk [Re.invE, Re.mulE, Re.bytesE] [] fun i => if i = 19 then some b else none) := mk_sound _ InlOK.nil _ _
noncomputable def bytesREF : List SV → Option (SV × List Blk × Bool)
  | [.agg [.ints .i64 16 x, .ints .i64 16 y, .ints .i64 16 z]] => some (.agg [.ints .u8 32 (bytesQ (x, y, z))], [], okQ (x, y, z))
  | _ => none
theorem refM_len (n : Int) : (refN n).length = 16 := (okP_iff.1 (refN_ok n)).1
noncomputable def rbP (p : QP) : Bool := ob2 (ob2 (ob2 (ob2 true (okN p.2.2)) (okP p.2.1 && okP (RI p.2.2))) (okP (RM p.2.1 (RI p.2.2)))) (okP p.1 && okP (RI p.2.2))
theorem rbP_ok {p : QP} (hp : okQ p = true) : rbP p = true := by
  obtain ⟨p1, p2, p3⟩ := okQ_iff.1 hp
  unfold rbP
  simp only [refN_ok, okN_P p1, okN_P p2, p3]
  rfl
set_option maxRecDepth 100000 in
noncomputable def bytesRE : Entry Try.prog := .val 19 _ Try.func19 (by decide) rfl false 0 bytesREF fun vs v new e => by
  unfold bytesREF at e
  split at e
  · rename_i x y z
    simp only [Option.some.injEq, Prod.mk.injEq] at e
    obtain ⟨rfl, rfl, hp⟩ := e
    unfold bytesQ
    cases hx : rbO (x, y, z) with
    | true => exact call0 (ctrRB true) 80 Try.func19 (p := andT (andT (rbP (x, y, z)) (rbO (x, y, z))) (decide ((rbY (x, y, z)).length = 32))) (by kernel_rfl) (by rw [rbP_ok hp, hx, rbY_len]; rfl) rfl
    | false => exact call0 (ctrRB false) 80 Try.func19 (p := andT (rbP (x, y, z)) (!rbO (x, y, z))) (by kernel_rfl) (by rw [rbP_ok hp, hx]; rfl) rfl
  · cases e
end Go.Proofs.Ytailgcdcdhhpnaa.Po
