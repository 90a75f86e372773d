/- This file proves the rounds of the reference's long digest. Conditions: places within their lists. -/
import Derived.Test.YtkoohnpknhoahaaTShK
set_option linter.all false
namespace Go.Proofs.Ytkoohnpknhoahaa.Sh
open Go Go.Sy
noncomputable def rB : Code := bodyOf Try.f50
noncomputable def rO : Code := inner (inner (nthC 8 rB))
noncomputable def r3 : Code := inner (nthC 2 rO)
noncomputable def rC (a b c d : Bool) : Ctr := mk (P := Try.prog) [longsRE, beginRE, rotQE, padRE] [] fun i => if i = 41 then some a else if i = 45 then some b else if i = 70 then some c else if i = 117 then some d else if i = 114 then some true else none
theorem rC_ok (a b c d : Bool) : CtrSound Try.prog (rC a b c d) := mk_sound _ InlOK.nil _ _
def chQ (e f g : Int) : Int := xorI .u64 (andI .u64 e f) (andI .u64 (W (18446744073709551615 - e)) g)
def tnQ (x a b c : Int) : Int := xorI .u64 (xorI .u64 (rotQ x a) (rotQ x b)) (rotQ x c)
def t1Q (s : List Int) (k w : Int) : Int := W (W (W (W (s.getD 7 0 + tnQ (s.getD 4 0) 14 18 41) + chQ (s.getD 4 0) (s.getD 5 0) (s.getD 6 0)) + k) + w)
def t2Q (s : List Int) : Int := W (tnQ (s.getD 0 0) 28 34 39 + mjW (s.getD 0 0) (s.getD 1 0) (s.getD 2 0))
def rndQ (s : List Int) (k w : Int) : List Int := [W (t1Q s k w + t2Q s), s.getD 0 0, s.getD 1 0, s.getD 2 0, W (s.getD 3 0 + t1Q s k w), s.getD 4 0, s.getD 5 0, s.getD 6 0]
def nxQ (y x a b : Int) : Int := W (W (W (xorI .u64 (xorI .u64 (rotQ y 19) (rotQ y 61)) (shrI .u64 y 6) + a) + xorI .u64 (xorI .u64 (rotQ x 1) (rotQ x 8)) (shrI .u64 x 7)) + b)
def ixN : Nat → Int
  | 0 => 0
  | j + 1 => IntKind.i64.wrap (ixN j + 1)
def ixQ (a i : Int) (j : Nat) : Int := IntKind.i64.wrap (IntKind.i64.wrap (a + IntKind.i64.wrap (8 * i)) + ixN j)
def wq (p : List Int) (a i : Int) : Nat → Int
  | 0 => 0
  | j + 1 => W (W (wq p a i j * 256) + W (p.getD (ixQ a i j).toNat 0))
def oq (p : List Int) (a i : Int) : Nat → Bool
  | 0 => andT true (decide (i < 16))
  | j + 1 => andT (andT (oq p a i j) (inB (ixQ a i j) p.length)) (decide ((ixQ a i j).toNat < p.length))
def nxJ (w : List Int) (i : Int) : Int := nxQ (w.getD (0 + (IntKind.i64.wrap (i - 2)).toNat) 0) (w.getD (0 + (IntKind.i64.wrap (i - 15)).toNat) 0) (w.getD (0 + (IntKind.i64.wrap (i - 7)).toNat) 0) (w.getD (0 + (IntKind.i64.wrap (i - 16)).toNat) 0)
def nxP (i : Int) (n l : Nat) : Bool := andT (andT (andT (andT (andT (andT (andT (andT (andT (andT true (decide (i < 80))) (inB (IntKind.i64.wrap (i - 15)) n)) (decide (0 + (IntKind.i64.wrap (i - 15)).toNat < n))) (inB (IntKind.i64.wrap (i - 2)) n)) (decide (0 + (IntKind.i64.wrap (i - 2)).toNat < n)))
  (inB (IntKind.i64.wrap (i - 7)) n)) (decide (0 + (IntKind.i64.wrap (i - 7)).toNat < n))) (inB (IntKind.i64.wrap (i - 16)) n)) (decide (0 + (IntKind.i64.wrap (i - 16)).toNat < n))) (apO l n)
noncomputable def sO (p kk h : List Int) (i : Int) : St := ⟨slotsOf 236 [(2, .ptr 0 0 0), (3, .ptr 1 0 0), (6, .ro true .u64 kk), (7, .ro true .u8 p), (8, .int .i64 i)], [.b [.ints .u8 64 z64], .b [.ints .u64 8 (lst 8 h)]], true⟩
noncomputable def sN (p kk h : List Int) (a : Int) : St := ⟨slotsOf 236 [(2, .ptr 0 0 0), (3, .ptr 1 0 0), (6, .ro true .u64 kk), (7, .ro true .u8 p), (8, .int .i64 a), (9, .nl (.slice none 0 0)), (10, .int .i64 0)], [.b [.ints .u8 64 z64], .b [.ints .u64 8 (lst 8 h)]], true⟩
noncomputable def sA (p kk h : List Int) (a : Int) (n : Nat) (w : List Int) (i : Int) : St := ⟨slotsOf 236 [(2, .ptr 0 0 0), (3, .ptr 1 0 0), (6, .ro true .u64 kk), (7, .ro true .u8 p), (8, .int .i64 a), (9, .sl 2 0 0 1 n n false true), (10, .int .i64 i)], [.b [.ints .u8 64 z64], .b [.ints .u64 8 (lst 8 h)], .b [.ints .u64 n w]], true⟩
noncomputable def sB (p kk h : List Int) (a : Int) (n : Nat) (w : List Int) (i : Int) : St := ⟨slotsOf 236 [(2, .ptr 0 0 0), (3, .ptr 1 0 0), (6, .ro true .u64 kk), (7, .ro true .u8 p), (8, .int .i64 a), (9, .sl 2 0 0 1 n n false true), (13, .int .i64 i)], [.b [.ints .u8 64 z64], .b [.ints .u64 8 (lst 8 h)], .b [.ints .u64 n w]], true⟩
noncomputable def sC (p kk h : List Int) (a : Int) (n : Nat) (w s : List Int) (i : Int) : St := ⟨slotsOf 236 [(2, .ptr 0 0 0), (3, .ptr 1 0 0), (6, .ro true .u64 kk), (7, .ro true .u8 p), (8, .int .i64 a), (9, .sl 2 0 0 1 n n false true), (16, .ptr 3 0 0), (17, .int .i64 i)], [.b [.ints .u8 64 z64], .b [.ints .u64 8 (lst 8 h)], .b [.ints .u64 n w], .b [.ints .u64 8 (lst 8 s)]], true⟩
noncomputable def sD (p kk h : List Int) (a : Int) (n : Nat) (w s : List Int) : St := ⟨slotsOf 236 [(2, .ptr 0 0 0), (3, .ptr 1 0 0), (6, .ro true .u64 kk), (7, .ro true .u8 p), (8, .int .i64 a), (16, .ptr 3 0 0), (21, .int .i64 0)], [.b [.ints .u8 64 z64], .b [.ints .u64 8 (lst 8 h)], .b [.ints .u64 n w], .b [.ints .u64 8 (lst 8 s)]], true⟩
section
variable (p kk h w s : List Int) (n : Nat) (a i : Int)
set_option maxRecDepth 100000 in
theorem ro_test : (execL Try.prog (rC true true true true) 60 0 2 (atoms rO) (sO p kk h a)).bind (St.cut [2, 3, 6, 7, 8] 2) = some { sO p kk h a with ob := andT true (decide (a < p.length)) } := by kernel_rfl
set_option maxRecDepth 100000 in
theorem ro_next : (exec Try.prog (rC true true true true) 60 0 (nthC 3 rO) (sO p kk h a)).bind (fun r => (r.2.cut [2, 3, 6, 7, 8] 2).map fun q => (r.1, q)) = some (.normal, sO p kk h (IntKind.i64.wrap (a + 128))) := by kernel_rfl
set_option maxRecDepth 100000 in
theorem ro_end : (exec Try.prog (rC false true true true) 60 0 rO (sO p kk h a)).bind (fun r => (r.2.cut [2, 3, 6, 7, 8] 2).map fun q => (r.1, q)) = some (.exit 2, { sO p kk h a with ob := andT true (!decide (a < p.length)) }) := by kernel_rfl
set_option maxRecDepth 100000 in
theorem r3_head : (execL Try.prog (rC true true true true) 60 0 2 (atoms r3) (sO p kk h a)).bind (St.cut [2, 3, 6, 7, 8, 9, 10] 2) = some (sN p kk h a) := by kernel_rfl
set_option maxRecDepth 100000 in
theorem r4_one : (exec Try.prog (rC true true true true) 60 0 (inner (inner (nthC 2 r3))) (sA p kk h a n w i)).bind (fun r => (r.2.cut [2, 3, 6, 7, 8, 9, 10] 3).map fun q => (r.1, q)) =
    some (.normal, { sA p kk h a (n + 1) (w ++ [wq p a i 8]) (IntKind.i64.wrap (i + 1)) with ob := andT (oq p a i 8) (apO w.length n) }) := by kernel_rfl
set_option maxRecDepth 100000 in
theorem r4_end : (exec Try.prog (rC true false true true) 60 0 (inner (inner (nthC 2 r3))) (sA p kk h a n w i)).bind (fun r => (r.2.cut [2, 3, 6, 7, 8, 9, 10] 3).map fun q => (r.1, q)) =
    some (.exit 4, { sA p kk h a n w i with ob := andT true (!decide (i < 16)) }) := by kernel_rfl
set_option maxRecDepth 100000 in
theorem r8_head : (execL Try.prog (rC true true true true) 60 0 1 ((atoms r3).drop 3) (sA p kk h a n w i)).bind (St.cut [2, 3, 6, 7, 8, 9, 13] 3) = some (sB p kk h a n w 16) := by kernel_rfl
set_option maxRecDepth 100000 in
theorem r8_one : (exec Try.prog (rC true true true true) 60 0 (inner (inner (nthC 4 r3))) (sB p kk h a n w i)).bind (fun r => (r.2.cut [2, 3, 6, 7, 8, 9, 13] 3).map fun q => (r.1, q)) =
    some (.normal, { sB p kk h a (n + 1) (w ++ [nxJ w i]) (IntKind.i64.wrap (i + 1)) with ob := nxP i n w.length }) := by kernel_rfl
set_option maxRecDepth 100000 in
theorem r8_end : (exec Try.prog (rC true true false true) 60 0 (inner (inner (nthC 4 r3))) (sB p kk h a n w i)).bind (fun r => (r.2.cut [2, 3, 6, 7, 8, 9, 13] 3).map fun q => (r.1, q)) =
    some (.exit 8, { sB p kk h a n w i with ob := andT true (!decide (i < 80)) }) := by kernel_rfl
set_option maxRecDepth 100000 in
theorem r10_head : (execL Try.prog (rC true true true true) 60 0 2 ((atoms r3).drop 5) (sB p kk h a n w i)).bind (St.cut [2, 3, 6, 7, 8, 9, 16, 17] 4) = some (sC p kk h a n w h 0) := by kernel_rfl
set_option maxRecDepth 100000 in
theorem r10_one : (exec Try.prog (rC true true true true) 60 0 (inner (inner (nthC 7 r3))) (sC p kk h a n w s i)).bind (fun r => (r.2.cut [2, 3, 6, 7, 8, 9, 16, 17] 4).map fun q => (r.1, q)) =
    some (.normal, { sC p kk h a n w (rndQ (lst 8 s) (kk.getD i.toNat 0) (w.getD (0 + i.toNat) 0)) (IntKind.i64.wrap (i + 1)) with ob := andT (andT (andT (andT (andT true (decide (i < 80))) (inB i kk.length)) (decide (i.toNat < kk.length))) (inB i n)) (decide (0 + i.toNat < n)) }) := by kernel_rfl
set_option maxRecDepth 100000 in
theorem r10_end : (exec Try.prog (rC true true true false) 60 0 (inner (inner (nthC 7 r3))) (sC p kk h a n w s i)).bind (fun r => (r.2.cut [2, 3, 6, 7, 8, 9, 16, 17] 4).map fun q => (r.1, q)) =
    some (.exit 10, { sC p kk h a n w s i with ob := andT true (!decide (i < 80)) }) := by kernel_rfl
set_option maxRecDepth 100000 in
theorem r14_head : (execL Try.prog (rC true true true true) 60 0 1 ((atoms r3).drop 8) (sC p kk h a n w s i)).bind (St.cut [2, 3, 6, 7, 8, 16, 21] 4) = some (sD p kk h a n w s) := by kernel_rfl
set_option maxRecDepth 100000 in
theorem r14_all : (exec Try.prog (rC true true true true) 60 0 (nthC 9 r3) (sD p kk h a n w s)).bind (fun r => (r.2.cut [2, 3, 6, 7, 8] 2).map fun q => (r.1, q)) = some (.normal, sO p kk (sumW (lst 8 h) (lst 8 s)) a) := by kernel_rfl
end
end Go.Proofs.Ytkoohnpknhoahaa.Sh
