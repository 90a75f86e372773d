/- This file proves the contracts of field's Inv, imaginary, Root. Conditions: none. -/
import Derived.Test.YtailgcdcdhhpnaaFeF
namespace Go.Proofs.Ytailgcdcdhhpnaa.Fe
open Go Go.Sy

/-! ### Inv, imaginary -/
theorem ctrInv : CtrSound Try.prog (mk [lessE, bitsE, powE, smallE] []) := mk_sound _ InlOK.nil _ _
noncomputable def invFe (a : List Int) : List Int := powFe a e2
noncomputable def invEF : List SV → Option (SV × List Blk × Bool)
  | [.agg [.ints .u64 5 a]] => some (.agg [.ints .u64 5 (invFe a)], [], true)
  | _ => none
set_option maxRecDepth 100000 in
noncomputable def invE : Entry Try.prog := .val 50 _ Try.func50 (by decide) rfl false 0 invEF fun vs v new e => by
  unfold invEF at e
  split at e
  · cases e
    exact call0 ctrInv 60 Try.func50 (p := true) (by kernel_rfl) rfl rfl
  · cases e
noncomputable def imagFe : List Int := powFe (smallFe 2) e1
noncomputable def imagEF : List SV → Option (SV × List Blk × Bool)
  | [] => some (.agg [.ints .u64 5 imagFe], [], true)
  | _ => none
set_option maxRecDepth 100000 in
noncomputable def imagE : Entry Try.prog := .val 75 _ Try.func75 (by decide) rfl false 0 imagEF fun vs v new e => by
  unfold imagEF at e
  split at e
  · cases e
    exact call0 ctrInv 60 Try.func75 (p := true) (by kernel_rfl) rfl rfl
  · cases e

/-! ### Root -/
noncomputable def rt1 (a : List Int) : List Int := mulFe (lst 5 (powFe a e5)) (lst 5 a)
noncomputable def isRt (r a : List Int) : Bool := decide (bytesFe (mulFe (lst 5 r) (lst 5 r)) = bytesFe a)
noncomputable def rt2 (a : List Int) : List Int := bif isRt (rt1 a) a then rt1 a else mulFe (lst 5 (rt1 a)) (lst 5 imagFe)
noncomputable def oddFe (a : List Int) : Bool := andI .u8 ((bytesFe a).getD 0 0) 1 == 1
noncomputable def rootFe (a : List Int) : List Int := bif isRt (rt2 a) a then (bif oddFe (rt2 a) then subFe z5 (rt2 a) else rt2 a) else z5
noncomputable def rootEF : List SV → Option (SV × List Blk × Bool)
  | [.agg [.ints .u64 5 a]] => some (.tup [.agg [.ints .u64 5 (rootFe a)], .bool (isRt (rt2 a) a)], [], true)
  | _ => none

theorem ctrRoot (x y z : Bool) : CtrSound Try.prog (mk [lessE, bitsE, powE, mulE, equalE, imagE, oddE, subE] [] fun i => if i = 18 then some x else if i = 27 then some y else if i = 30 then some z else none) := mk_sound _ InlOK.nil _ _
section
variable (a : List Int)
noncomputable abbrev rootC (x y z : Bool) (a : List Int) := callS Try.prog (mk (P := Try.prog) [lessE, bitsE, powE, mulE, equalE, imagE, oddE, subE] [] fun i => if i = 18 then some x else if i = 27 then some y else if i = 30 then some z else none) 60 Try.f65 [.agg [.ints .u64 5 a]] []
set_option maxRecDepth 100000 in
theorem root_a (a : List Int) : (rootC false false true a).map (fun x => (x.1, x.2.2)) = some (.tup [.agg [.ints .u64 5 (subFe z5 (rt1 a))], .bool true], andT (andT (andT true (!(!isRt (rt1 a) a))) (!(!isRt (rt1 a) a))) (oddFe (rt1 a))) := by kernel_rfl
set_option maxRecDepth 100000 in
theorem root_b (a : List Int) : (rootC false false false a).map (fun x => (x.1, x.2.2)) = some (.tup [.agg [.ints .u64 5 (rt1 a)], .bool true], andT (andT (andT true (!(!isRt (rt1 a) a))) (!(!isRt (rt1 a) a))) (!oddFe (rt1 a))) := by kernel_rfl
noncomputable def rtI (a : List Int) : List Int := mulFe (lst 5 (rt1 a)) (lst 5 imagFe)
set_option maxRecDepth 100000 in
theorem root_c (a : List Int) : (rootC true false true a).map (fun x => (x.1, x.2.2)) = some (.tup [.agg [.ints .u64 5 (subFe z5 (rtI a))], .bool true], andT (andT (andT true (!isRt (rt1 a) a)) (!(!isRt (rtI a) a))) (oddFe (rtI a))) := by kernel_rfl
set_option maxRecDepth 100000 in
theorem root_d (a : List Int) : (rootC true false false a).map (fun x => (x.1, x.2.2)) = some (.tup [.agg [.ints .u64 5 (rtI a)], .bool true], andT (andT (andT true (!isRt (rt1 a) a)) (!(!isRt (rtI a) a))) (!oddFe (rtI a))) := by kernel_rfl
set_option maxRecDepth 100000 in
theorem root_e (a : List Int) : (rootC true true false a).map (fun x => (x.1, x.2.2)) = some (.tup [.agg [.ints .u64 5 z5], .bool false], andT (andT true (!isRt (rt1 a) a)) (!isRt (rtI a) a)) := by kernel_rfl
end
theorem root_fn (a : List Int) : FnTr Try.prog 65 [.agg [.ints .u64 5 a]] [] (.tup [.agg [.ints .u64 5 (rootFe a)], .bool (isRt (rt2 a) a)]) [] := by
  unfold rootFe
  cases h1 : isRt (rt1 a) a with
  | true =>
    have e2 : rt2 a = rt1 a := by unfold rt2; rw [h1]; rfl
    rw [e2, h1]
    cases h3 : oddFe (rt1 a) with
    | true => exact call0 (ctrRoot false false true) 60 Try.func65 (root_a a) (by rw [h1, h3]; rfl) rfl
    | false => exact call0 (ctrRoot false false false) 60 Try.func65 (root_b a) (by rw [h1, h3]; rfl) rfl
  | false =>
    have e2 : rt2 a = rtI a := by unfold rt2; rw [h1]; rfl
    rw [e2]
    cases h2 : isRt (rtI a) a with
    | true =>
      cases h3 : oddFe (rtI a) with
      | true => exact call0 (ctrRoot true false true) 60 Try.func65 (root_c a) (by rw [h1, h2, h3]; rfl) rfl
      | false => exact call0 (ctrRoot true false false) 60 Try.func65 (root_d a) (by rw [h1, h2, h3]; rfl) rfl
    | false => exact call0 (ctrRoot true true false) 60 Try.func65 (root_e a) (by rw [h1, h2]; rfl) rfl
noncomputable def rootE : Entry Try.prog := .val 65 _ Try.func65 (by decide) rfl false 0 rootEF fun vs v new e => by
  unfold rootEF at e
  split at e
  · cases e; exact root_fn _
  · cases e
end Go.Proofs.Ytailgcdcdhhpnaa.Fe
