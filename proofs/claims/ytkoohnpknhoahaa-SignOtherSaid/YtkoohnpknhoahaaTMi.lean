/- This file proves the contracts of point's functions: which words come out. Conditions: none. -/
import Derived.Test.YtkoohnpknhoahaaTMh
set_option linter.all false
namespace Go.Proofs.Ytkoohnpknhoahaa.Po
open Go Go.Sy
abbrev FN (x : List Int) : SV := .ints .u64 5 x
noncomputable abbrev fM (a b : List Int) : List Int := Fe.mulFe (lst 5 a) (lst 5 b)
abbrev PP := List Int × List Int × List Int × List Int
abbrev svP (p : PP) : SV := .agg [FN p.1, FN p.2.1, FN p.2.2.1, FN p.2.2.2]
def isZ (z : List Int) : Bool := decide (z = Fe.z5)
noncomputable def oneF : List Int := Fe.smallFe 1
noncomputable def wholeP (p : PP) : PP := bif isZ p.2.2.1 then (Fe.z5, oneF, oneF, Fe.z5) else p
noncomputable def wholeEF : List SV → Option (SV × List Blk × Bool)
  | [.agg [.ints .u64 5 x, .ints .u64 5 y, .ints .u64 5 z, .ints .u64 5 t]] => some (svP (wholeP (x, y, z, t)), [], decide (z.length = 5))
  | _ => none
theorem ctrW (b : Bool) : CtrSound Try.prog (mk [Fe.smallE] [] fun i => if i = 6 then some b else none) := mk_sound _ InlOK.nil _ _
set_option maxRecDepth 100000 in
noncomputable def wholeE : Entry Try.prog := .val 84 _ Try.func84 (by decide) rfl false 0 wholeEF fun vs v new e => by
  unfold wholeEF at e
  split at e
  · rename_i x y z t
    simp only [Option.some.injEq, Prod.mk.injEq, decide_eq_true_eq] at e
    obtain ⟨rfl, rfl, hz⟩ := e
    unfold wholeP isZ
    cases hd : decide (z = Fe.z5) with
    | true => exact call0 (ctrW true) 60 Try.func84 (p := andT (andT true (andT (decide (z.length = 5)) true)) (decide (z = Fe.z5))) (by kernel_rfl) (by rw [hd, hz]; rfl) rfl
    | false => exact call0 (ctrW false) 60 Try.func84 (p := andT (andT true (andT (decide (z.length = 5)) true)) (!decide (z = Fe.z5))) (by kernel_rfl) (by rw [hd, hz]; rfl) rfl
  · cases e
noncomputable def dF : List Int := fM (Fe.smallFe (-121665)) (Fe.invFe (Fe.smallFe 121666))
noncomputable def factorEF : List SV → Option (SV × List Blk × Bool)
  | [] => some (.agg [FN (Lock dF)], [], true)
  | _ => none
theorem ctrF : CtrSound Try.prog (mk [Fe.smallE, Fe.invE, Fe.mulE] []) := mk_sound _ InlOK.nil _ _
set_option maxRecDepth 100000 in
noncomputable def factorE : Entry Try.prog := .val 83 _ Try.func83 (by decide) rfl false 0 factorEF fun vs v new e => by
  unfold factorEF at e
  split at e
  · cases e
    rw [Lock_eq]
    exact call0 ctrF 60 Try.func83 (p := true) (by kernel_rfl) rfl rfl
  · cases e
noncomputable def sM (p q : PP) : List Int := fM (Fe.subFe p.2.1 p.1) (Fe.subFe q.2.1 q.1)
noncomputable def sN (p q : PP) : List Int := fM (Fe.addFe p.2.1 p.1) (Fe.addFe q.2.1 q.1)
noncomputable def sC (d : List Int) (p q : PP) : List Int := Fe.addFe (fM (fM p.2.2.2 d) q.2.2.2) (fM (fM p.2.2.2 d) q.2.2.2)
noncomputable def sD (p q : PP) : List Int := Fe.addFe (fM p.2.2.1 q.2.2.1) (fM p.2.2.1 q.2.2.1)
noncomputable def sE (p q : PP) : List Int := Fe.subFe (sN p q) (sM p q)
noncomputable def sF (d : List Int) (p q : PP) : List Int := Fe.subFe (sD p q) (sC d p q)
noncomputable def sG (d : List Int) (p q : PP) : List Int := Fe.addFe (sD p q) (sC d p q)
noncomputable def sH (p q : PP) : List Int := Fe.addFe (sN p q) (sM p q)
noncomputable def sumW (d : List Int) (p q : PP) : PP := (fM (sE p q) (sF d p q), fM (sG d p q) (sH p q), fM (sF d p q) (sG d p q), fM (sE p q) (sH p q))
noncomputable def sumP (d : List Int) (p q : PP) : PP := Lock (sumW d p q)
noncomputable def sumEF : List SV → Option (SV × List Blk × Bool)
  | [.agg [.ints .u64 5 d], .agg [.ints .u64 5 x, .ints .u64 5 y, .ints .u64 5 z, .ints .u64 5 t], .agg [.ints .u64 5 x', .ints .u64 5 y', .ints .u64 5 z', .ints .u64 5 t']] => some (svP (sumP d (x, y, z, t) (x', y', z', t')), [], true)
  | _ => none
theorem ctrS : CtrSound Try.prog (mk [Fe.addE, Fe.subE, Fe.mulE] []) := mk_sound _ InlOK.nil _ _
set_option maxRecDepth 100000 in
noncomputable def sumE : Entry Try.prog := .val 86 _ Try.func86 (by decide) rfl false 0 sumEF fun vs v new e => by
  unfold sumEF at e
  split at e
  · cases e
    unfold sumP
    rw [Lock_eq]
    exact call0 ctrS 60 Try.func86 (p := true) (by kernel_rfl) rfl rfl
  · cases e
def lenZ (p : PP) : Bool := decide (p.2.2.1.length = 5)
noncomputable def addP (p q : PP) : PP := sumP (Lock dF) (wholeP p) (wholeP q)
noncomputable def addEF : List SV → Option (SV × List Blk × Bool)
  | [.agg [.ints .u64 5 x, .ints .u64 5 y, .ints .u64 5 z, .ints .u64 5 t], .agg [.ints .u64 5 x', .ints .u64 5 y', .ints .u64 5 z', .ints .u64 5 t']] => some (svP (addP (x, y, z, t) (x', y', z', t')), [], lenZ (x, y, z, t) && lenZ (x', y', z', t'))
  | _ => none
theorem ctrA : CtrSound Try.prog (mk [factorE, wholeE, sumE] []) := mk_sound _ InlOK.nil _ _
set_option maxRecDepth 100000 in
noncomputable def addE : Entry Try.prog := .val 59 _ Try.func59 (by decide) rfl false 0 addEF fun vs v new e => by
  unfold addEF at e
  split at e
  · rename_i x y z t x' y' z' t'
    simp only [Option.some.injEq, Prod.mk.injEq, Bool.and_eq_true] at e
    obtain ⟨rfl, rfl, h1, h2⟩ := e
    exact call0 ctrA 60 Try.func59 (p := andT (andT true (andT true (decide (z.length = 5)))) (andT true (decide (z'.length = 5)))) (by kernel_rfl) (by unfold lenZ at h1 h2; rw [h1, h2]; rfl) rfl
  · cases e
noncomputable def negP (p : PP) : PP := (Fe.subFe Fe.z5 (wholeP p).1, (wholeP p).2.1, (wholeP p).2.2.1, Fe.subFe Fe.z5 (wholeP p).2.2.2)
noncomputable def negEF : List SV → Option (SV × List Blk × Bool)
  | [.agg [.ints .u64 5 x, .ints .u64 5 y, .ints .u64 5 z, .ints .u64 5 t]] => some (svP (negP (x, y, z, t)), [], lenZ (x, y, z, t))
  | _ => none
theorem ctrN : CtrSound Try.prog (mk [wholeE, Fe.subE] []) := mk_sound _ InlOK.nil _ _
set_option maxRecDepth 100000 in
noncomputable def negE : Entry Try.prog := .val 60 _ Try.func60 (by decide) rfl false 0 negEF fun vs v new e => by
  unfold negEF at e
  split at e
  · rename_i x y z t
    simp only [Option.some.injEq, Prod.mk.injEq] at e
    obtain ⟨rfl, rfl, h1⟩ := e
    exact call0 ctrN 60 Try.func60 (p := andT true (andT true (decide (z.length = 5)))) (by kernel_rfl) (by unfold lenZ at h1; rw [h1]; rfl) rfl
  · cases e
noncomputable def eqX (p q : PP) : Bool := decide (Fe.bytesFe (fM (wholeP p).1 (wholeP q).2.2.1) = Fe.bytesFe (fM (wholeP q).1 (wholeP p).2.2.1))
noncomputable def eqY (p q : PP) : Bool := decide (Fe.bytesFe (fM (wholeP p).2.1 (wholeP q).2.2.1) = Fe.bytesFe (fM (wholeP q).2.1 (wholeP p).2.2.1))
noncomputable def equalEF : List SV → Option (SV × List Blk × Bool)
  | [.agg [.ints .u64 5 x, .ints .u64 5 y, .ints .u64 5 z, .ints .u64 5 t], .agg [.ints .u64 5 x', .ints .u64 5 y', .ints .u64 5 z', .ints .u64 5 t']] => some (.bool (eqX (x, y, z, t) (x', y', z', t') && eqY (x, y, z, t) (x', y', z', t')), [], lenZ (x, y, z, t) && lenZ (x', y', z', t'))
  | _ => none
noncomputable def byY (p : PP) : List Int := Fe.bytesFe (fM (wholeP p).2.1 (Fe.invFe (wholeP p).2.2.1))
noncomputable def byO (p : PP) : Bool := Fe.oddFe (fM (wholeP p).1 (Fe.invFe (wholeP p).2.2.1))
noncomputable def bytesP (p : PP) : List Int := bif byO p then (byY p).set 31 (orI .u8 ((byY p).getD 31 0) 128) else byY p
noncomputable def bytesEF : List SV → Option (SV × List Blk × Bool)
  | [.agg [.ints .u64 5 x, .ints .u64 5 y, .ints .u64 5 z, .ints .u64 5 t]] => some (.agg [.ints .u8 32 (bytesP (x, y, z, t))], [], lenZ (x, y, z, t))
  | _ => none
theorem ctrB (b : Bool) : CtrSound Try.prog (mk [wholeE, Fe.mulE, Fe.invE, Fe.bytesE, Fe.oddE] [] fun i => if i = 19 then some b else none) := mk_sound _ InlOK.nil _ _
theorem byY_len (p : PP) : (byY p).length = 32 := Fe.bytesFe_length _
set_option maxRecDepth 100000 in
noncomputable def bytesE : Entry Try.prog := .val 48 _ Try.func48 (by decide) rfl false 0 bytesEF fun vs v new e => by
  unfold bytesEF at e
  split at e
  · rename_i x y z t
    simp only [Option.some.injEq, Prod.mk.injEq] at e
    obtain ⟨rfl, rfl, h1⟩ := e
    unfold bytesP
    cases hx : byO (x, y, z, t) with
    | true => exact call0 (ctrB true) 80 Try.func48 (p := andT (andT (andT true (andT true (decide (z.length = 5)))) (byO (x, y, z, t))) (decide ((byY (x, y, z, t)).length = 32))) (by kernel_rfl) (by unfold lenZ at h1; rw [h1, hx, byY_len]; rfl) rfl
    | false => exact call0 (ctrB false) 80 Try.func48 (p := andT (andT true (andT true (decide (z.length = 5)))) (!byO (x, y, z, t))) (by kernel_rfl) (by unfold lenZ at h1; rw [h1, hx]; rfl) rfl
  · cases e
noncomputable def yyF (y : List Int) : List Int := fM y y
noncomputable def ofU (y : List Int) : List Int := fM (Fe.subFe (yyF y) oneF) (Fe.invFe (Fe.addFe (fM (Lock dF) (yyF y)) oneF))
noncomputable def ofX (y : List Int) : List Int := Fe.rootFe (ofU y)
noncomputable def ofR (y : List Int) : Bool := Fe.isRt (Fe.rt2 (ofU y)) (ofU y)
noncomputable def x0F (x : List Int) : Bool := decide (Fe.bytesFe x = Fe.bytesFe Fe.z5)
noncomputable def ofOk (y : List Int) (odd : Bool) : Bool := ofR y && !(odd && x0F (ofX y))
noncomputable def ofX' (y : List Int) (odd : Bool) : List Int := bif odd then Fe.subFe Fe.z5 (ofX y) else ofX y
def zeroP : PP := (Fe.z5, Fe.z5, Fe.z5, Fe.z5)
noncomputable def ofP (y : List Int) (odd : Bool) : PP := bif ofOk y odd then (ofX' y odd, y, oneF, fM (ofX' y odd) y) else zeroP
noncomputable def ofEF : List SV → Option (SV × List Blk × Bool)
  | [.agg [.ints .u64 5 y], .bool odd] => some (.tup [svP (ofP y odd), .bool (ofOk y odd)], [], true)
  | _ => none
noncomputable def ofC (r o x : Bool) : Ctr := mk (P := Try.prog) [Fe.smallE, Fe.mulE, Fe.subE, Fe.addE, factorE, Fe.invE, Fe.rootE, Fe.equalE] [] fun i => if i = 30 then some (!r) else if i = 31 || i = 39 then some o else if i = 35 then some x else none
theorem ofC_ok (r o x : Bool) : CtrSound Try.prog (ofC r o x) := mk_sound _ InlOK.nil _ _
set_option maxRecDepth 100000 in
theorem of_fn (y : List Int) (odd : Bool) : FnTr Try.prog 79 [.agg [FN y], .bool odd] [] (.tup [svP (ofP y odd), .bool (ofOk y odd)]) [] := by
  unfold ofP ofOk ofX'
  cases hr : ofR y with
  | false => exact call0 (ofC_ok false false true) 80 Try.func79 (p := andT true (!ofR y)) (by kernel_rfl) (by rw [hr]; rfl) rfl
  | true =>
    cases odd with
    | false => exact call0 (ofC_ok true false true) 80 Try.func79 (p := andT true (!(!ofR y))) (by kernel_rfl) (by rw [hr]; rfl) rfl
    | true =>
      cases hx : x0F (ofX y) with
      | true => exact call0 (ofC_ok true true true) 80 Try.func79 (p := andT (andT true (!(!ofR y))) (x0F (ofX y))) (by kernel_rfl) (by rw [hr, hx]; rfl) rfl
      | false => exact call0 (ofC_ok true true false) 80 Try.func79 (p := andT (andT true (!(!ofR y))) (!x0F (ofX y))) (by kernel_rfl) (by rw [hr, hx]; rfl) rfl
noncomputable def ofE : Entry Try.prog := .val 79 _ Try.func79 (by decide) rfl false 0 ofEF fun vs v new e => by
  unfold ofEF at e
  split at e
  · cases e; exact of_fn _ _
  · cases e
noncomputable def baseY : List Int := fM (Fe.smallFe 4) (Fe.invFe (Fe.smallFe 5))
noncomputable def baseP : PP := ofP baseY false
noncomputable def baseEF : List SV → Option (SV × List Blk × Bool)
  | [] => some (svP baseP, [], true)
  | _ => none
theorem ctrBase : CtrSound Try.prog (mk [Fe.smallE, Fe.mulE, Fe.invE, ofE] []) := mk_sound _ InlOK.nil _ _
set_option maxRecDepth 100000 in
noncomputable def baseE : Entry Try.prog := .val 46 _ Try.func46 (by decide) rfl false 0 baseEF fun vs v new e => by
  unfold baseEF at e
  split at e
  · cases e
    exact call0 ctrBase 60 Try.func46 (p := true) (by kernel_rfl) rfl rfl
  · cases e
def lowB (b : List Int) : List Int := (lst 32 b).set 31 (andNotI .u8 (b.getD 31 0) 128)
def topB (b : List Int) : Bool := andI .u8 (b.getD 31 0) 128 != 0
noncomputable def frIn (b : List Int) : Bool := decide (Fe.bytesFe (Fe.fromFe (lowB b)) = lowB b)
noncomputable def frP (b : List Int) : PP := bif frIn b then ofP (Fe.fromFe (lowB b)) (topB b) else zeroP
noncomputable def frOk (b : List Int) : Bool := frIn b && ofOk (Fe.fromFe (lowB b)) (topB b)
noncomputable def fromEF : List SV → Option (SV × List Blk × Bool)
  | [.agg [.ints .u8 32 b]] => some (.tup [svP (frP b), .bool (frOk b)], [], true)
  | _ => none
theorem ctrFrom (b : Bool) : CtrSound Try.prog (mk [Fe.fromE, Fe.bytesE, ofE] [] fun i => if i = 19 then some b else none) := mk_sound _ InlOK.nil _ _
theorem lowB_len (b : List Int) : (lowB b).length = 32 := by simp [lowB, lst_length]
set_option maxRecDepth 100000 in
noncomputable def fromE : Entry Try.prog := .val 55 _ Try.func55 (by decide) rfl false 0 fromEF fun vs v new e => by
  unfold fromEF at e
  split at e
  · rename_i b
    cases e
    refine FnTr.conv (bs := [.agg [.ints .u8 32 (lst 32 b)]]) (h2 := []) (h1 := []) (v := .tup [svP (frP b), .bool (frOk b)]) ?_ ⟨Fe.VE.lst _ _ _, trivial⟩ trivial (VE.refl _) trivial
    unfold frP frOk
    cases hi : frIn b with
    | true => exact call0 (ctrFrom false) 80 Try.func55 (p := andT (andT true (andT (decide ((Fe.bytesFe (Fe.fromFe (lowB b))).length = 32)) (decide ((lowB b).length = 32)))) (!(!frIn b))) (by kernel_rfl) (by rw [hi, Fe.bytesFe_length, lowB_len]; rfl) rfl
    | false => exact call0 (ctrFrom true) 80 Try.func55 (p := andT (andT true (andT (decide ((Fe.bytesFe (Fe.fromFe (lowB b))).length = 32)) (decide ((lowB b).length = 32)))) (!frIn b)) (by kernel_rfl) (by rw [hi, Fe.bytesFe_length, lowB_len]; rfl) rfl
  · cases e
end Go.Proofs.Ytkoohnpknhoahaa.Po
namespace Go.Proofs.Ytkoohnpknhoahaa.Po
open Go Go.Sy Re Fe
abbrev RN (x : List Int) : SV := .ints .i64 16 x
noncomputable abbrev RM (a b : List Int) : List Int := refN (vR a * vR b % Pm)
noncomputable abbrev RA (a b : List Int) : List Int := refN ((vR a + vR b) % Pm)
noncomputable abbrev RS (a b : List Int) : List Int := refN ((vR a - vR b) % Pm)
noncomputable abbrev RI (a : List Int) : List Int := refN (pwm (vR a) (Pm - 2).toNat)
theorem okN_P {l : List Int} (h : okN l = true) : okP l = true := (okN_iff.1 h).1
abbrev QP := List Int × List Int × List Int
abbrev svQ (p : QP) : SV := .agg [RN p.1, RN p.2.1, RN p.2.2]
def okQ (p : QP) : Bool := okN p.1 && (okN p.2.1 && okN p.2.2)
theorem okQ_iff {p : QP} : okQ p = true ↔ okN p.1 = true ∧ okN p.2.1 = true ∧ okN p.2.2 = true := by simp [okQ]
def dBytes : List Int := [0xa3, 0x78, 0x59, 0x13, 0xca, 0x4d, 0xeb, 0x75, 0xab, 0xd8, 0x41, 0x41, 0x4d, 0x0a, 0x70, 0x00, 0x98, 0xe8, 0x79, 0x77, 0x79, 0x40, 0xc7, 0x8c, 0x73, 0xfe, 0x6f, 0x2b, 0xee, 0x6c, 0x03, 0x52]
noncomputable def dR : List Int := refN (val256 dBytes % 57896044618658097711785492504343953926634992332820282019728792003956564819968 % Pm)
theorem dR_ok : okN dR = true := refM_okN _
noncomputable def factorREF : List SV → Option (SV × List Blk × Bool)
  | [] => some (.agg [RN (Lock dR)], [], true)
  | _ => none
theorem ctrRF : CtrSound Try.prog (mk [Re.fromE] []) := mk_sound _ InlOK.nil _ _
set_option maxRecDepth 100000 in
noncomputable def factorRE : Entry Try.prog := .val 105 _ Try.func105 (by decide) rfl false 0 factorREF fun vs v new e => by
  unfold factorREF at e
  split at e
  · cases e
    rw [Lock_eq]
    exact call0 ctrRF 60 Try.func105 (p := andT true (andT true (Re.keyOK dBytes))) (by kernel_rfl) (by decide) rfl
  · cases e
def nothingREF : List SV → Option (SV × List Blk × Bool)
  | [] => some (svQ (z16, one16, one16), [], true)
  | _ => none
set_option maxRecDepth 100000 in
noncomputable def nothingRE : Entry Try.prog := .val 96 _ Try.func96 (by decide) rfl false 0 nothingREF fun vs v new e => by
  unfold nothingREF at e
  split at e
  · cases e
    exact call0 ctrRF 60 Try.func96 (p := true) (by kernel_rfl) rfl rfl
  · cases e
theorem ctrRA : CtrSound Try.prog (mk [factorRE, Re.mulE, Re.addE, Re.subE] []) := mk_sound _ InlOK.nil _ _
theorem ctrRN : CtrSound Try.prog (mk [Re.subE] []) := mk_sound _ InlOK.nil _ _
def ob2 (o q : Bool) : Bool := andT o (andT true q)
noncomputable def qA (p q : QP) : List Int := RM p.2.2 q.2.2
noncomputable def qB (p q : QP) : List Int := RM (qA p q) (qA p q)
noncomputable def qC (p q : QP) : List Int := RM p.1 q.1
noncomputable def qD (p q : QP) : List Int := RM p.2.1 q.2.1
noncomputable def qE (p q : QP) : List Int := RM (Lock dR) (RM (qC p q) (qD p q))
noncomputable def qF (p q : QP) : List Int := RS (qB p q) (qE p q)
noncomputable def qG (p q : QP) : List Int := RA (qB p q) (qE p q)
noncomputable def qK (p q : QP) : List Int := RM (RA p.1 p.2.1) (RA q.1 q.2.1)
noncomputable def qH (p q : QP) : List Int := RS (RS (qK p q) (qC p q)) (qD p q)
noncomputable def addQW (p q : QP) : QP := (RM (qA p q) (RM (qF p q) (qH p q)), RM (qA p q) (RM (qG p q) (RA (qD p q) (qC p q))), RM (qF p q) (qG p q))
noncomputable def addQ (p q : QP) : QP := Lock (addQW p q)
noncomputable def addQO (p q : QP) : Bool :=
  [okP p.2.2 && okP q.2.2, okP (qA p q) && okP (qA p q), okP p.1 && okP q.1, okP p.2.1 && okP q.2.1, okP (qC p q) && okP (qD p q), okP (Lock dR) && okP (RM (qC p q) (qD p q)), okP (qB p q) && okN (qE p q), okP (qB p q) && okP (qE p q),
   okP p.1 && okP p.2.1, okP q.1 && okP q.2.1, okP (RA p.1 p.2.1) && okP (RA q.1 q.2.1), okP (qK p q) && okN (qC p q), okP (RS (qK p q) (qC p q)) && okN (qD p q), okP (qF p q) && okP (qH p q), okP (qA p q) && okP (RM (qF p q) (qH p q)),
   okP (qD p q) && okP (qC p q), okP (qG p q) && okP (RA (qD p q) (qC p q)), okP (qA p q) && okP (RM (qG p q) (RA (qD p q) (qC p q))), okP (qF p q) && okP (qG p q)].foldl ob2 true
theorem dL_ok : okN (Lock dR) = true := by rw [Lock_eq]; exact dR_ok
theorem addQO_ok {p q : QP} (hp : okQ p = true) (hq : okQ q = true) : addQO p q = true := by
  obtain ⟨p1, p2, p3⟩ := okQ_iff.1 hp
  obtain ⟨q1, q2, q3⟩ := okQ_iff.1 hq
  unfold addQO qF qG qH qE qB qK qA qC qD
  simp only [List.foldl_cons, List.foldl_nil, refN_ok, refM_okN, okN_P p1, okN_P p2, okN_P p3, okN_P q1, okN_P q2, okN_P q3, okN_P dL_ok]
  rfl
noncomputable def addREF : List SV → Option (SV × List Blk × Bool)
  | [.agg [.ints .i64 16 x, .ints .i64 16 y, .ints .i64 16 z], .agg [.ints .i64 16 x', .ints .i64 16 y', .ints .i64 16 z']] => some (svQ (addQ (x, y, z) (x', y', z')), [], okQ (x, y, z) && okQ (x', y', z'))
  | _ => none
set_option maxRecDepth 100000 in
noncomputable def addRE : Entry Try.prog := .val 64 _ Try.func64 (by decide) rfl false 0 addREF fun vs v new e => by
  unfold addREF at e
  split at e
  · rename_i x y z x' y' z'
    simp only [Option.some.injEq, Prod.mk.injEq, Bool.and_eq_true] at e
    obtain ⟨rfl, rfl, hp, hq⟩ := e
    rw [addQ, Lock_eq]
    exact call0 ctrRA 80 Try.func64 (p := addQO (x, y, z) (x', y', z')) (by kernel_rfl) (addQO_ok hp hq) rfl
  · cases e
noncomputable def negQ (p : QP) : QP := (RS z16 p.1, p.2.1, p.2.2)
noncomputable def negREF : List SV → Option (SV × List Blk × Bool)
  | [.agg [.ints .i64 16 x, .ints .i64 16 y, .ints .i64 16 z]] => some (svQ (negQ (x, y, z)), [], okQ (x, y, z))
  | _ => none
set_option maxRecDepth 100000 in
noncomputable def negRE : Entry Try.prog := .val 65 _ Try.func65 (by decide) rfl false 0 negREF fun vs v new e => by
  unfold negREF at e
  split at e
  · rename_i x y z
    simp only [Option.some.injEq, Prod.mk.injEq] at e
    obtain ⟨rfl, rfl, hp⟩ := e
    exact call0 ctrRN 80 Try.func65 (p := ob2 true (okP z16 && okN x)) (by kernel_rfl) (by rw [(okQ_iff.1 hp).1]; rfl) rfl
  · cases e
noncomputable def rbY (p : QP) : List Int := Lock (digN 32 (vR (RM p.2.1 (RI p.2.2))))
noncomputable def rbO (p : QP) : Bool := ((RM p.1 (RI p.2.2)).getD 0 0).tmod 2 == 1
noncomputable def bytesQ (p : QP) : List Int := bif rbO p then (rbY p).set 31 (uw ((rbY p).getD 31 0 + 128)) else rbY p
theorem rbY_len (p : QP) : (rbY p).length = 32 := by unfold rbY; rw [Lock_eq, digN_length]
theorem ctrRB (b : Bool) : CtrSound Try.prog (mk [Re.invE, Re.mulE, Re.bytesE] [] fun i => if i = 19 then some b else none) := mk_sound _ InlOK.nil _ _
noncomputable def bytesREF : List SV → Option (SV × List Blk × Bool)
  | [.agg [.ints .i64 16 x, .ints .i64 16 y, .ints .i64 16 z]] => some (.agg [.ints .u8 32 (bytesQ (x, y, z))], [], okQ (x, y, z))
  | _ => none
noncomputable def rbP (p : QP) : Bool := ob2 (ob2 (ob2 (ob2 true (okN p.2.2)) (okP p.2.1 && okP (RI p.2.2))) (okP (RM p.2.1 (RI p.2.2)))) (okP p.1 && okP (RI p.2.2))
theorem rbP_ok {p : QP} (hp : okQ p = true) : rbP p = true := by
  obtain ⟨p1, p2, p3⟩ := okQ_iff.1 hp
  unfold rbP
  simp only [refN_ok, okN_P p1, okN_P p2, p3]
  rfl
set_option maxRecDepth 100000 in
noncomputable def bytesRE : Entry Try.prog := .val 51 _ Try.func51 (by decide) rfl false 0 bytesREF fun vs v new e => by
  unfold bytesREF at e
  split at e
  · rename_i x y z
    simp only [Option.some.injEq, Prod.mk.injEq] at e
    obtain ⟨rfl, rfl, hp⟩ := e
    unfold bytesQ
    cases hx : rbO (x, y, z) with
    | true => exact call0 (ctrRB true) 80 Try.func51 (p := andT (andT (rbP (x, y, z)) (rbO (x, y, z))) (decide ((rbY (x, y, z)).length = 32))) (by kernel_rfl) (by rw [rbP_ok hp, hx, rbY_len]; rfl) rfl
    | false => exact call0 (ctrRB false) 80 Try.func51 (p := andT (rbP (x, y, z)) (!rbO (x, y, z))) (by kernel_rfl) (by rw [rbP_ok hp, hx]; rfl) rfl
  · cases e
end Go.Proofs.Ytkoohnpknhoahaa.Po
namespace Go.Proofs.Ytkoohnpknhoahaa.Po
open Go Go.Sy Re Fe
def rlowB (b : List Int) : List Int := (lst 32 b).set 31 ((b.getD 31 0).tmod 128)
def rtopB (b : List Int) : Bool := decide (b.getD 31 0 ≥ 128)
noncomputable def ryB (b : List Int) : List Int := refN (val256 (rlowB b) % 57896044618658097711785492504343953926634992332820282019728792003956564819968 % Pm)
noncomputable def frInR (b : List Int) : Bool := decide (Lock (digN 32 (vR (ryB b))) = rlowB b)
noncomputable def ryy (y : List Int) : List Int := RM y y
noncomputable def rund (y : List Int) : List Int := RA (RM (Lock dR) (ryy y)) one16
noncomputable def ru (y : List Int) : List Int := RM (RS (ryy y) one16) (RI (rund y))
noncomputable def rX (y : List Int) : List Int := rootL (vR (ru y))
noncomputable def rR (y : List Int) : Bool := (rootV (vR (ru y))).isSome
noncomputable def rx0 (y : List Int) : Bool := decide (rX y = z16)
noncomputable def ofOkR (y : List Int) (odd : Bool) : Bool := rR y && !(odd && rx0 y)
noncomputable def rX' (y : List Int) (odd : Bool) : List Int := bif odd then RS z16 (rX y) else rX y
def nothQ : QP := (z16, one16, one16)
noncomputable def ofQ (y : List Int) (odd : Bool) : QP := bif ofOkR y odd then (rX' y odd, y, one16) else nothQ
noncomputable def frQ (b : List Int) : QP := bif frInR b then ofQ (ryB b) (rtopB b) else nothQ
noncomputable def frOkR (b : List Int) : Bool := frInR b && ofOkR (ryB b) (rtopB b)
noncomputable def frC (i r o x : Bool) : Ctr := mk (P := Try.prog) [Re.fromE, Re.bytesE, nothingRE, factorRE, Re.mulE, Re.addE, Re.subE, Re.invE, Re.rootE] [] fun n => if n = 23 then some (!i) else if n = 46 then some (!r) else if n = 47 || n = 55 then some o else if n = 51 then some x else none
theorem frC_ok (i r o x : Bool) : CtrSound Try.prog (frC i r o x) := mk_sound _ InlOK.nil _ _
noncomputable def frP0 (b : List Int) : Bool := andT (ob2 (ob2 true (keyOK (rlowB b))) (okP (ryB b))) (andT (decide ((Lock (digN 32 (vR (ryB b)))).length = 32)) (decide ((rlowB b).length = 32)))
noncomputable def frP1 (b : List Int) : Bool :=
  [okP (ryB b) && okP (ryB b), okP (Lock dR) && okP (ryy (ryB b)), okP (RM (Lock dR) (ryy (ryB b))) && okP one16, okP (ryy (ryB b)) && okN one16, okN (rund (ryB b)), okP (RS (ryy (ryB b)) one16) && okP (RI (rund (ryB b))), okN (ru (ryB b))].foldl ob2 (andT (frP0 b) (!(!frInR b)))
theorem rlowB_ok {b : List Int} (h : keyOK b = true) : keyOK (rlowB b) = true := by
  obtain ⟨h1, h2⟩ := keyOK_iff.1 h
  have p := all_getD h2 (i := 31) (by omega)
  unfold rlowB
  rw [lst_eq h1, Int.tmod_eq_emod_of_nonneg p.1]
  refine keyOK_iff.2 ⟨by simp [h1], List.all_eq_true.2 fun x hx => ?_⟩
  rcases List.mem_or_eq_of_mem_set hx with h | h
  · exact List.all_eq_true.1 h2 x h
  · subst h; exact u8_iff.2 (by omega)
theorem frP0_ok {b : List Int} (h : keyOK b = true) : frP0 b = true := by
  unfold frP0
  rw [rlowB_ok h, show okP (ryB b) = true from refN_ok _, Lock_eq, digN_length, (keyOK_iff.1 (rlowB_ok h)).1]; rfl
theorem frP1_ok {b : List Int} (h : keyOK b = true) (hi : frInR b = true) : frP1 b = true := by
  unfold frP1
  rw [frP0_ok h, hi]
  unfold ryB ryy rund ru
  simp only [List.foldl_cons, List.foldl_nil, refN_ok, refM_okN, okN_P dL_ok]
  rfl
section
set_option maxRecDepth 100000 in
theorem frR_a (b : List Int) : (callS Try.prog (frC false true true true) 80 Try.f61 [.agg [.ints .u8 32 (lst 32 b)]] []).map (fun x => (x.1, x.2.2)) = some (.tup [svQ nothQ, .bool false], andT (frP0 b) (!frInR b)) := by kernel_rfl
set_option maxRecDepth 100000 in
theorem frR_b (b : List Int) : (callS Try.prog (frC true false true true) 80 Try.f61 [.agg [.ints .u8 32 (lst 32 b)]] []).map (fun x => (x.1, x.2.2)) = some (.tup [svQ nothQ, .bool false], andT (frP1 b) (!rR (ryB b))) := by kernel_rfl
set_option maxRecDepth 100000 in
theorem frR_c (b : List Int) : (callS Try.prog (frC true true false true) 80 Try.f61 [.agg [.ints .u8 32 (lst 32 b)]] []).map (fun x => (x.1, x.2.2)) = some (.tup [svQ (rX (ryB b), ryB b, one16), .bool true], andT (andT (andT (frP1 b) (!(!rR (ryB b)))) (!rtopB b)) (!rtopB b)) := by kernel_rfl
noncomputable def frP2 (b : List Int) : Bool := andT (andT (andT (frP1 b) (!(!rR (ryB b)))) (rtopB b)) (andT (decide ((rX (ryB b)).length = 16)) true)
set_option maxRecDepth 100000 in
theorem frR_d (b : List Int) : (callS Try.prog (frC true true true true) 80 Try.f61 [.agg [.ints .u8 32 (lst 32 b)]] []).map (fun x => (x.1, x.2.2)) = some (.tup [svQ nothQ, .bool false], andT (frP2 b) (rx0 (ryB b))) := by kernel_rfl
set_option maxRecDepth 100000 in
theorem frR_e (b : List Int) : (callS Try.prog (frC true true true false) 80 Try.f61 [.agg [.ints .u8 32 (lst 32 b)]] []).map (fun x => (x.1, x.2.2)) = some (.tup [svQ (RS z16 (rX (ryB b)), ryB b, one16), .bool true], ob2 (andT (andT (frP2 b) (!rx0 (ryB b))) (rtopB b)) (okP z16 && okN (rX (ryB b)))) := by kernel_rfl
end
theorem rootV_range {x r : Int} (h : rootV x = some r) : 0 ≤ r ∧ r < Pm := by
  unfold rootV at h
  split at h
  · cases h
    have : 0 ≤ rB x ∧ rB x < Pm := by
      unfold rB
      split
      · exact ⟨Int.emod_nonneg _ (by have := Pm_pos; omega), Int.emod_lt_of_pos _ Pm_pos⟩
      · exact ⟨Int.emod_nonneg _ (by have := Pm_pos; omega), Int.emod_lt_of_pos _ Pm_pos⟩
    split
    · exact ⟨Int.emod_nonneg _ (by have := Pm_pos; omega), Int.emod_lt_of_pos _ Pm_pos⟩
    · exact this
  · cases h
theorem rootL_okN (x : Int) : okN (rootL x) = true := by
  unfold rootL
  cases h : rootV x with
  | none => decide
  | some r => have := rootV_range h; exact refN_okN this.1 this.2
theorem okN_len {l : List Int} (h : okN l = true) : l.length = 16 := (okP_iff.1 (okN_P h)).1
theorem fromR_fn {b : List Int} (hb : keyOK b = true) : FnTr Try.prog 61 [.agg [.ints .u8 32 b]] [] (.tup [svQ (frQ b), .bool (frOkR b)]) [] := by
  refine FnTr.conv (bs := [.agg [.ints .u8 32 (lst 32 b)]]) (h2 := []) (h1 := []) (v := .tup [svQ (frQ b), .bool (frOkR b)]) ?_ ⟨Fe.VE.lst _ _ _, trivial⟩ trivial (VE.refl _) trivial
  unfold frQ frOkR ofQ ofOkR rX'
  cases hi : frInR b with
  | false => exact call0 (frC_ok false true true true) 80 Try.func61 (frR_a b) (by rw [frP0_ok hb, hi]; rfl) rfl
  | true =>
    cases hr : rR (ryB b) with
    | false => exact call0 (frC_ok true false true true) 80 Try.func61 (frR_b b) (by rw [frP1_ok hb hi, hr]; rfl) rfl
    | true =>
      cases ho : rtopB b with
      | false => exact call0 (frC_ok true true false true) 80 Try.func61 (frR_c b) (by rw [frP1_ok hb hi, hr, ho]; rfl) rfl
      | true =>
        have h2 : frP2 b = true := by
          unfold frP2
          rw [frP1_ok hb hi, hr, ho, show (rX (ryB b)).length = 16 from okN_len (rootL_okN _)]; rfl
        cases hx : rx0 (ryB b) with
        | true => exact call0 (frC_ok true true true true) 80 Try.func61 (frR_d b) (by rw [h2, hx]; rfl) rfl
        | false => exact call0 (frC_ok true true true false) 80 Try.func61 (frR_e b) (by rw [h2, hx, ho, show okN (rX (ryB b)) = true from rootL_okN _]; rfl) rfl
noncomputable def fromREF : List SV → Option (SV × List Blk × Bool)
  | [.agg [.ints .u8 32 b]] => some (.tup [svQ (frQ b), .bool (frOkR b)], [], keyOK b)
  | _ => none
noncomputable def fromRE : Entry Try.prog := .val 61 _ Try.func61 (by decide) rfl false 0 fromREF fun vs v new e => by
  unfold fromREF at e
  split at e
  · simp only [Option.some.injEq, Prod.mk.injEq] at e
    obtain ⟨rfl, rfl, h1⟩ := e
    exact fromR_fn h1
  · cases e
end Go.Proofs.Ytkoohnpknhoahaa.Po
