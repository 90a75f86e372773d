/- This file proves the contract of the reference's MulAdd (burrowref07), its walk: columns of products, then carries. Conditions: bytes within their kind. -/
import Derived.Test.YtailgcdcdhhpnaaPtU
namespace Go.Proofs.Ytailgcdcdhhpnaa
open Go Go.Lift

def maH (a b c L : List Int) : List Blk := [.s .u8 a 24, .s .u8 b 24, .c (intsV .u8 (lst 32 c)) 24, .c (zeros .u8 32) 24, .s .i64 L 3]
def maT : List (Nat × Value) := [(3, .pointer (some ⟨0, 0, none⟩)), (4, .pointer (some ⟨1, 0, none⟩)), (6, .pointer (some ⟨3, 0, none⟩)), (7, sliceArg 4 66 66)]
def maK : List Nat := [3, 4, 6, 7]
/-- Ahead of a row. -/
def maS (a b c : List Int) (i : Int) (L : List Int) : St := ⟨slotsOf 82 (maT ++ [(9, .int .i64 i)]), maH a b c L, true⟩
/-- Ahead of a column. -/
def maJ (a b c : List Int) (i j : Int) (L : List Int) : St := ⟨slotsOf 82 (maT ++ [(9, .int .i64 i), (10, .int .i64 j)]), maH a b c L, true⟩
/-- Ahead of a carry. -/
def maC (a b c : List Int) (i : Int) (L : List Int) : St := ⟨slotsOf 82 (maT ++ [(11, .int .i64 i)]), maH a b c L, true⟩

noncomputable def maA : Code := bodyOf Try.f14
noncomputable def maR : Code := inner (inner (nthC 5 maA))
noncomputable def maQ : Code := inner (inner (nthC 1 (inner (nthC 2 maR))))
noncomputable def maL : Code := inner (inner (nthC 7 maA))
section
variable (a b c L : List Int) (i j : Int)
set_option maxRecDepth 100000 in
theorem ma_q : (exec Try.prog (mk (P := Try.prog) [] fun i => if i = 29 then some true else none) 60 maQ (maJ a b c i j L)).map (fun r => (r.1, r.2.keep (maK ++ [9, 10]))) =
    some (.normal, ⟨(maJ a b c i (IntKind.i64.wrap (j + 1)) []).t, maH a b c (L.set (0 + (IntKind.i64.wrap (i + j)).toNat * 1) (IntKind.i64.wrap (L.getD (0 + (IntKind.i64.wrap (i + j)).toNat * 1) 0 + IntKind.i64.wrap (IntKind.i64.wrap (a.getD (0 + i.toNat * 1) 0) * IntKind.i64.wrap (b.getD (0 + j.toNat * 1) 0))))),
      idxN 66 L (IntKind.i64.wrap (i + j)) (idxN 32 b j (idxN 32 a i (idxN 66 L (IntKind.i64.wrap (i + j)) (andT true (decide (j < 32))))))⟩) := by kernel_rfl
set_option maxRecDepth 100000 in
theorem ma_qend : (exec Try.prog (mk (P := Try.prog) [] fun i => if i = 29 then some false else none) 60 maQ (maJ a b c i j L)).map (fun r => (r.1, r.2.keep (maK ++ [9]))) =
    some (.exit 4, ⟨(maS a b c i []).t, maH a b c L, andT true (!decide (j < 32))⟩) := by kernel_rfl
set_option maxRecDepth 100000 in
theorem ma_rhead : (execL Try.prog (mk (P := Try.prog) [] fun i => if i = 25 then some true else none) 60 2 (atoms maR) (maS a b c i L)).map (St.keep (maK ++ [9])) =
    some ⟨(maS a b c i []).t, maH a b c L, andT true (decide (i < 32))⟩ := by kernel_rfl
set_option maxRecDepth 100000 in
theorem ma_rend : (exec Try.prog (mk (P := Try.prog) [] fun i => if i = 25 then some false else none) 60 maR (maS a b c i L)).map (fun r => (r.1, r.2.keep maK)) =
    some (.exit 2, ⟨slotsOf 82 maT, maH a b c L, andT true (!decide (i < 32))⟩) := by kernel_rfl
set_option maxRecDepth 100000 in
theorem ma_j0 : (execL Try.prog (mk (P := Try.prog) []) 60 1 (atoms (inner (nthC 2 maR))) (maS a b c i L)).map (St.keep (maK ++ [9, 10])) =
    some (maJ a b c i 0 L) := by kernel_rfl
set_option maxRecDepth 100000 in
theorem ma_rstep : (exec Try.prog (mk (P := Try.prog) []) 60 (nthC 3 maR) (maS a b c i L)).map (fun r => (r.1, r.2.keep (maK ++ [9]))) =
    some (.normal, maS a b c (IntKind.i64.wrap (i + 1)) L) := by kernel_rfl
set_option maxRecDepth 100000 in
theorem ma_c0 : (exec Try.prog (mk (P := Try.prog) []) 60 (nthC 6 maA) ⟨slotsOf 82 maT, maH a b c L, true⟩).map (fun r => (r.1, r.2.keep (maK ++ [11]))) =
    some (.normal, maC a b c 0 L) := by kernel_rfl
def carL (L : List Int) (i : Int) : List Int := L.set (0 + (IntKind.i64.wrap (i + 1)).toNat * 1) (IntKind.i64.wrap (L.getD (0 + (IntKind.i64.wrap (i + 1)).toNat * 1) 0 + IntKind.i64.wrap ((L.getD (0 + i.toNat * 1) 0).tdiv 256)))
set_option maxRecDepth 100000 in
theorem ma_c : (exec Try.prog (mk (P := Try.prog) [] fun i => if i = 54 then some true else none) 60 maL (maC a b c i L)).map (fun r => (r.1, r.2.keep (maK ++ [11]))) =
    some (.normal, ⟨(maC a b c (IntKind.i64.wrap (i + 1)) []).t, maH a b c ((carL L i).set (0 + i.toNat * 1) (((carL L i).getD (0 + i.toNat * 1) 0).tmod 256)),
      idxN 66 (carL L i) i (idxN 66 (carL L i) i (idxN 66 L (IntKind.i64.wrap (i + 1)) (idxN 66 L i (idxN 66 L (IntKind.i64.wrap (i + 1)) (andT true (decide (i < 65)))))))⟩) := by kernel_rfl
set_option maxRecDepth 100000 in
theorem ma_cend : (exec Try.prog (mk (P := Try.prog) [] fun i => if i = 54 then some false else none) 60 maL (maC a b c i L)).map (fun r => (r.1, r.2.keep maK)) =
    some (.exit 6, ⟨slotsOf 82 maT, maH a b c L, andT true (!decide (i < 65))⟩) := by kernel_rfl
set_option maxRecDepth 100000 in
theorem ma_head : (execL Try.prog (mk (P := Try.prog) []) 60 5 (atoms maA) ⟨slots0 82 [aggI .u8 (lst 32 a), aggI .u8 (lst 32 b), aggI .u8 (lst 32 c)], [], true⟩).map (St.keep (maK ++ [9])) =
    some ⟨(maS a b c 0 []).t, [.c (intsV .u8 (lst 32 a)) 24, .c (intsV .u8 (lst 32 b)) 24, .c (intsV .u8 (lst 32 c)) 24, .c (zeros .u8 32) 24, .s .i64 ((lst 32 c).map IntKind.i64.wrap ++ List.replicate 34 0) 3], true⟩ := by kernel_rfl
set_option maxRecDepth 100000 in
theorem ma_fin : ((execA Try.prog (mk [refReduceE]) 60 ((atoms maA).drop 8) ⟨slotsOf 82 maT, maH a b c L, true⟩).bind fun r => match r.1 with
      | .ret | .normal => (resS Try.prog r.2.t r.2.h Try.f14.results.toList).map fun q => (oneOf q.1, [] , andT r.2.ob q.2)
      | _ => none) = some (aggI .u8 (lst 32 (redF L)), ([] : List Blk), andT true (66 == L.length && L.all u8 && true)) := by kernel_rfl
end
end Go.Proofs.Ytailgcdcdhhpnaa
