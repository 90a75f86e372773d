/- This file proves pieces of point.MulAdd as reckoned steps: rows of words, their sum, the bits of each word. No conditions: equations of the interpreter. -/
import Derived.Test.YtailgcdcdhhpnaaSpB
namespace Go.Proofs.Ytailgcdcdhhpnaa.Sp
open Go Go.Sy

def z32 : List Int := List.replicate 32 0
noncomputable def pmH (a b c X Y W : List Int) : List Blk := [.b [.ints .u8 32 a], .b [.ints .u8 32 b], .b [.ints .u8 32 c], .b [.ints .u8 32 z32], .b [.ints .u64 9 W], .b [.ints .u64 4 X], .b [.ints .u64 4 Y]]
def pmT : List (Nat × SV) := [(5, .ptr 2 0 0), (6, .ptr 3 0 0), (7, .ptr 4 0 0), (8, .ptr 5 0 0), (9, .ptr 6 0 0)]
def pmK : List Nat := [5, 6, 7, 8, 9]
noncomputable def pmS (a b c X Y : List Int) (i : Int) (W : List Int) : St := ⟨slotsOf 115 (pmT ++ [(27, .int .i64 i)]), pmH a b c X Y W, true⟩
noncomputable def pmI (a b c X Y W Z R : List Int) : List Blk := [.b [.ints .u8 32 a], .b [.ints .u8 32 b], .b [.ints .u8 32 c], .b [.ints .u8 32 z32], .b [.ints .u64 9 W], .b [.ints .u64 4 X], .b [.ints .u64 4 Y], .b [.ints .u64 4 Z], .b [.ints .u64 4 R]]
def pmL : List (Nat × SV) := [(6, .ptr 3 0 0), (7, .ptr 4 0 0), (20, .ptr 8 0 0)]
noncomputable def pmQ (a b c X Y W Z R : List Int) (i : Int) : St := ⟨slotsOf 115 (pmL ++ [(21, .int .i64 i)]), pmI a b c X Y W Z R, true⟩

theorem ctrRow : CtrSound Try.prog (mk [mul64E, add64E] []) := mk_sound _ InlOK.nil _ _
theorem ctrNum : CtrSound Try.prog (mk [numberE] []) := mk_sound _ InlOK.nil _ _
theorem ctrSum : CtrSound Try.prog (mk [numberE, add64E] []) := mk_sound _ InlOK.nil _ _
theorem ctrKey : CtrSound Try.prog (mk [keyE] []) := mk_sound _ InlOK.nil _ _
theorem ctrWord (x : Bool) : CtrSound Try.prog (mk [bitE] [] fun i => if i = 98 then some x else none) := mk_sound _ InlOK.nil _ _

section
variable (a b c X Y W : List Int)
set_option maxRecDepth 100000 in
theorem pm_head : (execL Try.prog (mk [numberE] []) 60 0 4 (atoms (bodyOf Try.f13)) ⟨slots0 Try.f13.ntmps [.agg [.ints .u8 32 a], .agg [.ints .u8 32 b], .agg [.ints .u8 32 c]], [], true⟩).bind (St.cut (pmK ++ [27]) 7) = some (pmS a b c (numF a) (numF b) 0 (List.replicate 9 0)) := by kernel_rfl
set_option maxRecDepth 100000 in
theorem pm_r0 : (exec Try.prog (mk [mul64E, add64E] []) 60 0 pmR (pmS a b c (lst 4 X) (lst 4 Y) 0 (lst 9 W))).bind (fun r => (r.2.cut (pmK ++ [27]) 7).map fun q => (r.1, q)) = some (.normal, pmS a b c (lst 4 X) (lst 4 Y) 1 (rowM 0 (lst 4 X) (lst 4 Y) (lst 9 W))) := by kernel_rfl
set_option maxRecDepth 100000 in
theorem pm_r1 : (exec Try.prog (mk [mul64E, add64E] []) 60 0 pmR (pmS a b c (lst 4 X) (lst 4 Y) 1 (lst 9 W))).bind (fun r => (r.2.cut (pmK ++ [27]) 7).map fun q => (r.1, q)) = some (.normal, pmS a b c (lst 4 X) (lst 4 Y) 2 (rowM 1 (lst 4 X) (lst 4 Y) (lst 9 W))) := by kernel_rfl
set_option maxRecDepth 100000 in
theorem pm_r2 : (exec Try.prog (mk [mul64E, add64E] []) 60 0 pmR (pmS a b c (lst 4 X) (lst 4 Y) 2 (lst 9 W))).bind (fun r => (r.2.cut (pmK ++ [27]) 7).map fun q => (r.1, q)) = some (.normal, pmS a b c (lst 4 X) (lst 4 Y) 3 (rowM 2 (lst 4 X) (lst 4 Y) (lst 9 W))) := by kernel_rfl
set_option maxRecDepth 100000 in
theorem pm_r3 : (exec Try.prog (mk [mul64E, add64E] []) 60 0 pmR (pmS a b c (lst 4 X) (lst 4 Y) 3 (lst 9 W))).bind (fun r => (r.2.cut (pmK ++ [27]) 7).map fun q => (r.1, q)) = some (.normal, pmS a b c (lst 4 X) (lst 4 Y) 4 (rowM 3 (lst 4 X) (lst 4 Y) (lst 9 W))) := by kernel_rfl
set_option maxRecDepth 100000 in
theorem pm_rend : (exec Try.prog (mk [mul64E, add64E] []) 60 0 pmR (pmS a b c X Y 4 W)).bind (fun r => (r.2.cut pmK 7).map fun q => (r.1, q)) = some (.exit 0, ⟨slotsOf 115 pmT, pmH a b c X Y W, true⟩) := by kernel_rfl
end
section
variable (a b c X Y W Z R : List Int)
set_option maxRecDepth 100000 in
theorem pm_sum : (execL Try.prog (mk [numberE, add64E] []) 60 0 6 ((atoms pmA).drop 5) ⟨slotsOf 115 pmT, pmH a b c X Y (lst 9 W), true⟩).bind (St.cut [6, 7, 20, 21] 9) =
    some ⟨(pmQ a b c X Y [] [] [] 8).t, pmI a b c X Y (sumW (lst 9 W) (lst 4 (numF c))) (numF c) (List.replicate 4 0),
      (List.range 8).foldl (fun o i => andT o (carry1 (addCy (lst 9 W) (lst 4 (numF c)) (i + 1)))) true⟩ := by kernel_rfl
/-- What must hold of an index into n words. -/
def idxO (n : Nat) (i : Int) (o : Bool) : Bool := andT (andT o (inB i n)) (decide (0 + i.toNat < n))
set_option maxRecDepth 100000 in
theorem pm_word (i : Int) : (exec Try.prog (mk [bitE] [] fun i => if i = 98 then some true else none) 200 0 pmB (pmQ a b c X Y W Z R i)).bind (fun r => (r.2.cut [6, 7, 20, 21] 9).map fun q => (r.1, q)) =
    some (.normal, ⟨(pmQ a b c X Y [] [] [] (IntKind.i64.wrap (i - 1))).t, pmI a b c X Y W Z (wordW R (W.getD (0 + i.toNat) 0)), (List.replicate 64 ()).foldl (fun o _ => idxO 9 i o) (andT true (decide (i ≥ 0)))⟩) := by kernel_rfl
set_option maxRecDepth 100000 in
theorem pm_bend (i : Int) : (exec Try.prog (mk [bitE] [] fun i => if i = 98 then some false else none) 200 0 pmB (pmQ a b c X Y W Z R i)).bind (fun r => (r.2.cut [6, 7, 20, 21] 9).map fun q => (r.1, q)) =
    some (.exit 6, ⟨(pmQ a b c X Y [] [] [] i).t, pmI a b c X Y W Z R, andT true (!decide (i ≥ 0))⟩) := by kernel_rfl
end
end Go.Proofs.Ytailgcdcdhhpnaa.Sp
