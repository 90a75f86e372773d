/- This file proves the contracts of point's functions: which words come out. Conditions: none. -/
import Derived.Test.YtailgcdcdhhpnaaReI
namespace Go.Proofs.Ytailgcdcdhhpnaa.Po
open Go Go.Sy

abbrev FN (x : List Int) : SV := .ints .u64 5 x
noncomputable abbrev fM (a b : List Int) : List Int := Fe.mulFe (lst 5 a) (lst 5 b)
abbrev PP := List Int × List Int × List Int × List Int
abbrev svP (p : PP) : SV := .agg [FN p.1, FN p.2.1, FN p.2.2.1, FN p.2.2.2]

/-! ### whole -/
def isZ (z : List Int) : Bool := decide (z = Fe.z5)
noncomputable def oneF : List Int := Fe.smallFe 1
noncomputable def wholeP (p : PP) : PP := bif isZ p.2.2.1 then (Fe.z5, oneF, oneF, Fe.z5) else p
noncomputable def wholeEF : List SV → Option (SV × List Blk × Bool)
  | [.agg [.ints .u64 5 x, .ints .u64 5 y, .ints .u64 5 z, .ints .u64 5 t]] => some (svP (wholeP (x, y, z, t)), [], decide (z.length = 5))
  | _ => none
theorem ctrW (b : Bool) : CtrSound Try.prog (mk [Fe.smallE] [] fun i => if i = 6 then some b else none) := mk_sound _ InlOK.nil _ _
set_option maxRecDepth 100000 in
noncomputable def wholeE : Entry Try.prog := .val 49 _ Try.func49 (by decide) rfl false 0 wholeEF fun vs v new e => by
  unfold wholeEF at e
  split at e
  · rename_i x y z t
    simp only [Option.some.injEq, Prod.mk.injEq, decide_eq_true_eq] at e
    obtain ⟨rfl, rfl, hz⟩ := e
    unfold wholeP isZ
    cases hd : decide (z = Fe.z5) with
    | true => exact call0 (ctrW true) 60 Try.func49 (p := andT (andT true (andT (decide (z.length = 5)) true)) (decide (z = Fe.z5))) (by kernel_rfl) (by rw [hd, hz]; rfl) rfl
    | false => exact call0 (ctrW false) 60 Try.func49 (p := andT (andT true (andT (decide (z.length = 5)) true)) (!decide (z = Fe.z5))) (by kernel_rfl) (by rw [hd, hz]; rfl) rfl
  · cases e

/-! ### factor, sum -/
noncomputable def dF : List Int := fM (Fe.smallFe (-121665)) (Fe.invFe (Fe.smallFe 121666))
noncomputable def factorEF : List SV → Option (SV × List Blk × Bool)
  | [] => some (.agg [FN (Lock dF)], [], true)
  | _ => none
theorem ctrF : CtrSound Try.prog (mk [Fe.smallE, Fe.invE, Fe.mulE] []) := mk_sound _ InlOK.nil _ _
set_option maxRecDepth 100000 in
noncomputable def factorE : Entry Try.prog := .val 53 _ Try.func53 (by decide) rfl false 0 factorEF fun vs v new e => by
  unfold factorEF at e
  split at e
  · cases e
    rw [Lock_eq]
    exact call0 ctrF 60 Try.func53 (p := true) (by kernel_rfl) rfl rfl
  · cases e
noncomputable def sM (p q : PP) : List Int := fM (Fe.subFe p.2.1 p.1) (Fe.subFe q.2.1 q.1)
noncomputable def sN (p q : PP) : List Int := fM (Fe.addFe p.2.1 p.1) (Fe.addFe q.2.1 q.1)
noncomputable def sC (d : List Int) (p q : PP) : List Int := Fe.addFe (fM (fM p.2.2.2 d) q.2.2.2) (fM (fM p.2.2.2 d) q.2.2.2)
noncomputable def sD (p q : PP) : List Int := Fe.addFe (fM p.2.2.1 q.2.2.1) (fM p.2.2.1 q.2.2.1)
noncomputable def sE (p q : PP) : List Int := Fe.subFe (sN p q) (sM p q)
noncomputable def sF (d : List Int) (p q : PP) : List Int := Fe.subFe (sD p q) (sC d p q)
noncomputable def sG (d : List Int) (p q : PP) : List Int := Fe.addFe (sD p q) (sC d p q)
noncomputable def sH (p q : PP) : List Int := Fe.addFe (sN p q) (sM p q)
noncomputable def sumW (d : List Int) (p q : PP) : PP := (fM (sE p q) (sF d p q), fM (sG d p q) (sH p q), fM (sF d p q) (sG d p q), fM (sE p q) (sH p q))
noncomputable def sumP (d : List Int) (p q : PP) : PP := Lock (sumW d p q)
noncomputable def sumEF : List SV → Option (SV × List Blk × Bool)
  | [.agg [.ints .u64 5 d], .agg [.ints .u64 5 x, .ints .u64 5 y, .ints .u64 5 z, .ints .u64 5 t], .agg [.ints .u64 5 x', .ints .u64 5 y', .ints .u64 5 z', .ints .u64 5 t']] => some (svP (sumP d (x, y, z, t) (x', y', z', t')), [], true)
  | _ => none
theorem ctrS : CtrSound Try.prog (mk [Fe.addE, Fe.subE, Fe.mulE] []) := mk_sound _ InlOK.nil _ _
set_option maxRecDepth 100000 in
noncomputable def sumE : Entry Try.prog := .val 54 _ Try.func54 (by decide) rfl false 0 sumEF fun vs v new e => by
  unfold sumEF at e
  split at e
  · cases e
    unfold sumP
    rw [Lock_eq]
    exact call0 ctrS 60 Try.func54 (p := true) (by kernel_rfl) rfl rfl
  · cases e

/-! ### Add, Neg, Equal -/
def lenZ (p : PP) : Bool := decide (p.2.2.1.length = 5)
noncomputable def addP (p q : PP) : PP := sumP (Lock dF) (wholeP p) (wholeP q)
noncomputable def addEF : List SV → Option (SV × List Blk × Bool)
  | [.agg [.ints .u64 5 x, .ints .u64 5 y, .ints .u64 5 z, .ints .u64 5 t], .agg [.ints .u64 5 x', .ints .u64 5 y', .ints .u64 5 z', .ints .u64 5 t']] => some (svP (addP (x, y, z, t) (x', y', z', t')), [], lenZ (x, y, z, t) && lenZ (x', y', z', t'))
  | _ => none
theorem ctrA : CtrSound Try.prog (mk [factorE, wholeE, sumE] []) := mk_sound _ InlOK.nil _ _
set_option maxRecDepth 100000 in
noncomputable def addE : Entry Try.prog := .val 20 _ Try.func20 (by decide) rfl false 0 addEF fun vs v new e => by
  unfold addEF at e
  split at e
  · rename_i x y z t x' y' z' t'
    simp only [Option.some.injEq, Prod.mk.injEq, Bool.and_eq_true] at e
    obtain ⟨rfl, rfl, h1, h2⟩ := e
    exact call0 ctrA 60 Try.func20 (p := andT (andT true (andT true (decide (z.length = 5)))) (andT true (decide (z'.length = 5)))) (by kernel_rfl) (by unfold lenZ at h1 h2; rw [h1, h2]; rfl) rfl
  · cases e
noncomputable def negP (p : PP) : PP := (Fe.subFe Fe.z5 (wholeP p).1, (wholeP p).2.1, (wholeP p).2.2.1, Fe.subFe Fe.z5 (wholeP p).2.2.2)
noncomputable def negEF : List SV → Option (SV × List Blk × Bool)
  | [.agg [.ints .u64 5 x, .ints .u64 5 y, .ints .u64 5 z, .ints .u64 5 t]] => some (svP (negP (x, y, z, t)), [], lenZ (x, y, z, t))
  | _ => none
theorem ctrN : CtrSound Try.prog (mk [wholeE, Fe.subE] []) := mk_sound _ InlOK.nil _ _
set_option maxRecDepth 100000 in
noncomputable def negE : Entry Try.prog := .val 22 _ Try.func22 (by decide) rfl false 0 negEF fun vs v new e => by
  unfold negEF at e
  split at e
  · rename_i x y z t
    simp only [Option.some.injEq, Prod.mk.injEq] at e
    obtain ⟨rfl, rfl, h1⟩ := e
    exact call0 ctrN 60 Try.func22 (p := andT true (andT true (decide (z.length = 5)))) (by kernel_rfl) (by unfold lenZ at h1; rw [h1]; rfl) rfl
  · cases e
def eqF (a b : List Int) : Bool := decide (a = b)
noncomputable def eqX (p q : PP) : Bool := decide (Fe.bytesFe (fM (wholeP p).1 (wholeP q).2.2.1) = Fe.bytesFe (fM (wholeP q).1 (wholeP p).2.2.1))
noncomputable def eqY (p q : PP) : Bool := decide (Fe.bytesFe (fM (wholeP p).2.1 (wholeP q).2.2.1) = Fe.bytesFe (fM (wholeP q).2.1 (wholeP p).2.2.1))
noncomputable def equalEF : List SV → Option (SV × List Blk × Bool)
  | [.agg [.ints .u64 5 x, .ints .u64 5 y, .ints .u64 5 z, .ints .u64 5 t], .agg [.ints .u64 5 x', .ints .u64 5 y', .ints .u64 5 z', .ints .u64 5 t']] => some (.bool (eqX (x, y, z, t) (x', y', z', t') && eqY (x, y, z, t) (x', y', z', t')), [], lenZ (x, y, z, t) && lenZ (x', y', z', t'))
  | _ => none
theorem ctrE (b : Bool) : CtrSound Try.prog (mk [wholeE, Fe.mulE, Fe.equalE] [] fun i => if i = 20 then some b else none) := mk_sound _ InlOK.nil _ _
set_option maxRecDepth 100000 in
noncomputable def equalE : Entry Try.prog := .val 24 _ Try.func24 (by decide) rfl false 0 equalEF fun vs v new e => by
  unfold equalEF at e
  split at e
  · rename_i x y z t x' y' z' t'
    simp only [Option.some.injEq, Prod.mk.injEq, Bool.and_eq_true] at e
    obtain ⟨rfl, rfl, h1, h2⟩ := e
    cases hx : eqX (x, y, z, t) (x', y', z', t') with
    | true => exact call0 (ctrE true) 80 Try.func24 (p := andT (andT (andT true (andT true (decide (z.length = 5)))) (andT true (decide (z'.length = 5)))) (eqX (x, y, z, t) (x', y', z', t'))) (by kernel_rfl) (by unfold lenZ at h1 h2; rw [h1, h2, hx]; rfl) rfl
    | false => exact call0 (ctrE false) 80 Try.func24 (p := andT (andT (andT true (andT true (decide (z.length = 5)))) (andT true (decide (z'.length = 5)))) (!eqX (x, y, z, t) (x', y', z', t'))) (by kernel_rfl) (by unfold lenZ at h1 h2; rw [h1, h2, hx]; rfl) rfl
  · cases e

/-! ### Bytes -/
noncomputable def byY (p : PP) : List Int := Fe.bytesFe (fM (wholeP p).2.1 (Fe.invFe (wholeP p).2.2.1))
noncomputable def byO (p : PP) : Bool := Fe.oddFe (fM (wholeP p).1 (Fe.invFe (wholeP p).2.2.1))
noncomputable def bytesP (p : PP) : List Int := bif byO p then (byY p).set 31 (orI .u8 ((byY p).getD 31 0) 128) else byY p
noncomputable def bytesEF : List SV → Option (SV × List Blk × Bool)
  | [.agg [.ints .u64 5 x, .ints .u64 5 y, .ints .u64 5 z, .ints .u64 5 t]] => some (.agg [.ints .u8 32 (bytesP (x, y, z, t))], [], lenZ (x, y, z, t))
  | _ => none
theorem ctrB (b : Bool) : CtrSound Try.prog (mk [wholeE, Fe.mulE, Fe.invE, Fe.bytesE, Fe.oddE] [] fun i => if i = 19 then some b else none) := mk_sound _ InlOK.nil _ _
theorem byY_len (p : PP) : (byY p).length = 32 := Fe.bytesFe_length _
set_option maxRecDepth 100000 in
noncomputable def bytesE : Entry Try.prog := .val 18 _ Try.func18 (by decide) rfl false 0 bytesEF fun vs v new e => by
  unfold bytesEF at e
  split at e
  · rename_i x y z t
    simp only [Option.some.injEq, Prod.mk.injEq] at e
    obtain ⟨rfl, rfl, h1⟩ := e
    unfold bytesP
    cases hx : byO (x, y, z, t) with
    | true => exact call0 (ctrB true) 80 Try.func18 (p := andT (andT (andT true (andT true (decide (z.length = 5)))) (byO (x, y, z, t))) (decide ((byY (x, y, z, t)).length = 32))) (by kernel_rfl) (by unfold lenZ at h1; rw [h1, hx, byY_len]; rfl) rfl
    | false => exact call0 (ctrB false) 80 Try.func18 (p := andT (andT true (andT true (decide (z.length = 5)))) (!byO (x, y, z, t))) (by kernel_rfl) (by unfold lenZ at h1; rw [h1, hx]; rfl) rfl
  · cases e

/-! ### of -/
noncomputable def yyF (y : List Int) : List Int := fM y y
noncomputable def ofU (y : List Int) : List Int := fM (Fe.subFe (yyF y) oneF) (Fe.invFe (Fe.addFe (fM (Lock dF) (yyF y)) oneF))
noncomputable def ofX (y : List Int) : List Int := Fe.rootFe (ofU y)
noncomputable def ofR (y : List Int) : Bool := Fe.isRt (Fe.rt2 (ofU y)) (ofU y)
noncomputable def x0F (x : List Int) : Bool := decide (Fe.bytesFe x = Fe.bytesFe Fe.z5)
noncomputable def ofOk (y : List Int) (odd : Bool) : Bool := ofR y && !(odd && x0F (ofX y))
noncomputable def ofX' (y : List Int) (odd : Bool) : List Int := bif odd then Fe.subFe Fe.z5 (ofX y) else ofX y
def zeroP : PP := (Fe.z5, Fe.z5, Fe.z5, Fe.z5)
noncomputable def ofP (y : List Int) (odd : Bool) : PP := bif ofOk y odd then (ofX' y odd, y, oneF, fM (ofX' y odd) y) else zeroP
noncomputable def ofEF : List SV → Option (SV × List Blk × Bool)
  | [.agg [.ints .u64 5 y], .bool odd] => some (.tup [svP (ofP y odd), .bool (ofOk y odd)], [], true)
  | _ => none
noncomputable def ofC (r o x : Bool) : Ctr := mk (P := Try.prog) [Fe.smallE, Fe.mulE, Fe.subE, Fe.addE, factorE, Fe.invE, Fe.rootE, Fe.equalE] [] fun i => if i = 30 then some (!r) else if i = 31 || i = 39 then some o else if i = 35 then some x else none
theorem ofC_ok (r o x : Bool) : CtrSound Try.prog (ofC r o x) := mk_sound _ InlOK.nil _ _
set_option maxRecDepth 100000 in
theorem of_fn (y : List Int) (odd : Bool) : FnTr Try.prog 39 [.agg [FN y], .bool odd] [] (.tup [svP (ofP y odd), .bool (ofOk y odd)]) [] := by
  unfold ofP ofOk ofX'
  cases hr : ofR y with
  | false => exact call0 (ofC_ok false false true) 80 Try.func39 (p := andT true (!ofR y)) (by kernel_rfl) (by rw [hr]; rfl) rfl
  | true =>
    cases odd with
    | false => exact call0 (ofC_ok true false true) 80 Try.func39 (p := andT true (!(!ofR y))) (by kernel_rfl) (by rw [hr]; rfl) rfl
    | true =>
      cases hx : x0F (ofX y) with
      | true => exact call0 (ofC_ok true true true) 80 Try.func39 (p := andT (andT true (!(!ofR y))) (x0F (ofX y))) (by kernel_rfl) (by rw [hr, hx]; rfl) rfl
      | false => exact call0 (ofC_ok true true false) 80 Try.func39 (p := andT (andT true (!(!ofR y))) (!x0F (ofX y))) (by kernel_rfl) (by rw [hr, hx]; rfl) rfl
noncomputable def ofE : Entry Try.prog := .val 39 _ Try.func39 (by decide) rfl false 0 ofEF fun vs v new e => by
  unfold ofEF at e
  split at e
  · cases e; exact of_fn _ _
  · cases e

/-! ### Base, From -/
noncomputable def baseY : List Int := fM (Fe.smallFe 4) (Fe.invFe (Fe.smallFe 5))
noncomputable def baseP : PP := ofP baseY false
noncomputable def baseEF : List SV → Option (SV × List Blk × Bool)
  | [] => some (svP baseP, [], true)
  | _ => none
theorem ctrBase : CtrSound Try.prog (mk [Fe.smallE, Fe.mulE, Fe.invE, ofE] []) := mk_sound _ InlOK.nil _ _
set_option maxRecDepth 100000 in
noncomputable def baseE : Entry Try.prog := .val 27 _ Try.func27 (by decide) rfl false 0 baseEF fun vs v new e => by
  unfold baseEF at e
  split at e
  · cases e
    exact call0 ctrBase 60 Try.func27 (p := true) (by kernel_rfl) rfl rfl
  · cases e
/-- The bytes without the highest bit. -/
def lowB (b : List Int) : List Int := (lst 32 b).set 31 (andNotI .u8 (b.getD 31 0) 128)
def topB (b : List Int) : Bool := andI .u8 (b.getD 31 0) 128 != 0
noncomputable def frIn (b : List Int) : Bool := decide (Fe.bytesFe (Fe.fromFe (lowB b)) = lowB b)
noncomputable def frP (b : List Int) : PP := bif frIn b then ofP (Fe.fromFe (lowB b)) (topB b) else zeroP
noncomputable def frOk (b : List Int) : Bool := frIn b && ofOk (Fe.fromFe (lowB b)) (topB b)
noncomputable def fromEF : List SV → Option (SV × List Blk × Bool)
  | [.agg [.ints .u8 32 b]] => some (.tup [svP (frP b), .bool (frOk b)], [], true)
  | _ => none
theorem ctrFrom (b : Bool) : CtrSound Try.prog (mk [Fe.fromE, Fe.bytesE, ofE] [] fun i => if i = 19 then some b else none) := mk_sound _ InlOK.nil _ _
theorem lowB_len (b : List Int) : (lowB b).length = 32 := by simp [lowB, lst_length]
set_option maxRecDepth 100000 in
noncomputable def fromE : Entry Try.prog := .val 16 _ Try.func16 (by decide) rfl false 0 fromEF fun vs v new e => by
  unfold fromEF at e
  split at e
  · rename_i b
    cases e
    refine FnTr.conv (bs := [.agg [.ints .u8 32 (lst 32 b)]]) (h2 := []) (h1 := []) (v := .tup [svP (frP b), .bool (frOk b)]) ?_ ⟨Fe.VE.lst _ _ _, trivial⟩ trivial (VE.refl _) trivial
    unfold frP frOk
    cases hi : frIn b with
    | true => exact call0 (ctrFrom false) 80 Try.func16 (p := andT (andT true (andT (decide ((Fe.bytesFe (Fe.fromFe (lowB b))).length = 32)) (decide ((lowB b).length = 32)))) (!(!frIn b))) (by kernel_rfl) (by rw [hi, Fe.bytesFe_length, lowB_len]; rfl) rfl
    | false => exact call0 (ctrFrom true) 80 Try.func16 (p := andT (andT true (andT (decide ((Fe.bytesFe (Fe.fromFe (lowB b))).length = 32)) (decide ((lowB b).length = 32)))) (!frIn b)) (by kernel_rfl) (by rw [hi, Fe.bytesFe_length, lowB_len]; rfl) rfl
  · cases e
end Go.Proofs.Ytailgcdcdhhpnaa.Po
