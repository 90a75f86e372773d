/- This file proves pieces of the reference's small as reckoned steps. No conditions: equations of the interpreter. -/
import Derived.Test.YtailgcdcdhhpnaaReB
namespace Go.Proofs.Ytailgcdcdhhpnaa.Re
open Go Go.Sy Fe

abbrev iw (n : Int) : Int := IntKind.i64.wrap n
/-- The parts with what is carried to them. -/
def nC (f : Nat → Int) : Nat → Int
  | 0 => iw (f 0 + 0)
  | i + 1 => iw (f (i + 1) + iw ((nC f i).tdiv 65536))
def dC (f : Nat → Int) (i : Nat) : Int := (nC f i).tmod 65536
def rndL (L : List Int) : List Int := (List.range 16).map (fun i => iw (dC (gD L) i + iw (38 * dC (gD L) (i + 16)))) ++ List.replicate 16 0
noncomputable def smH (L O : List Int) : List Blk := [.b [.ints .i64 32 L], .b [.ints .i64 16 z16], .b [.ints .i64 16 O]]
noncomputable def smS (L : List Int) (i : Int) : St := ⟨slotsOf 103 [(1, .ptr 0 0 0), (2, .ptr 1 0 0), (3, .ptr 2 0 0), (4, .int .i64 i)], smH L z16, true⟩
noncomputable def smC (x : Bool) : Ctr := mk (P := Try.prog) [primeE, atLeastE, minusE] [] fun i => if i = 16 then some x else if i = 98 then some x else none
theorem smC_ok (x : Bool) : CtrSound Try.prog (smC x) := mk_sound _ InlOK.nil _ _
noncomputable def smC0 : Ctr := mk (P := Try.prog) [] []
theorem smC0_ok : CtrSound Try.prog smC0 := mk_sound _ InlOK.nil _ _
noncomputable def smB : Code := inner (inner (nthC 3 (bodyOf Try.f66)))
/-- 2^255 and more count 19 times. -/
def mC (f : Nat → Int) : Nat → Int
  | 0 => iw (dC f 0 + iw (19 * iw ((dC f 15).tdiv 32768)))
  | i + 1 => iw ((if i = 14 then (dC f 15).tmod 32768 else dC f (i + 1)) + iw ((mC f i).tdiv 65536))
def outL (L : List Int) : List Int := (List.range 16).map fun i => (mC (gD L) i).tmod 65536
noncomputable def smQ (L O : List Int) : St := ⟨slotsOf 103 [(2, .ptr 1 0 0), (3, .ptr 2 0 0)], smH L O, true⟩
noncomputable def smW : Code := inner (inner (nthC 12 (bodyOf Try.f66)))
section
variable (L O : List Int) (i : Int)
set_option maxRecDepth 100000 in
theorem sm_round : (exec Try.prog (smC true) 80 0 smB (smS (lst 32 L) i)).bind (fun r => (r.2.cut [1, 2, 3, 4] 3).map fun q => (r.1, q)) =
    some (.normal, ⟨(smS L (iw (i + 1))).t, smH (rndL (lst 32 L)) z16, andT true (decide (i < 4))⟩) := by kernel_rfl
set_option maxRecDepth 100000 in
theorem sm_rend : (exec Try.prog (smC false) 80 0 smB (smS L i)).bind (fun r => (r.2.cut [1, 2, 3, 4] 3).map fun q => (r.1, q)) =
    some (.exit 0, ⟨(smS L i).t, smH L z16, andT true (!decide (i < 4))⟩) := by kernel_rfl
set_option maxRecDepth 100000 in
theorem sm_head : (execL Try.prog smC0 60 0 3 (atoms (bodyOf Try.f66)) ⟨slots0 Try.f66.ntmps [.agg [.ints .i64 32 L]], [], true⟩).bind (St.cut [1, 2, 3, 4] 3) = some (smS L 0) := by kernel_rfl
set_option maxRecDepth 100000 in
theorem sm_out : (execL Try.prog smC0 80 0 8 ((atoms (bodyOf Try.f66)).drop 4) ⟨(smS L 4).t, smH (lst 32 L) z16, true⟩).bind (St.cut [2, 3] 3) = some (smQ (lst 32 L) (outL (lst 32 L))) := by kernel_rfl
end
end Go.Proofs.Ytailgcdcdhhpnaa.Re
