/- This file proves the contract of burrownum's Apart for 2 lists, by their kinds nm: i is grown in place, m elsewhere, n is nil. Conditions: lengths that memory bears. -/
import Derived.Test.YtkoohnpknhoahaaKBnA
set_option linter.all false
namespace Go.Proofs.Ytkoohnpknhoahaa.Bn.Anm
open Go Go.Sy Sh
def H (n1 c1 m1 : Nat) (l1 : List Int) : List Blk := [.b [.nl (.slice none 0 0), .sl 1 0 0 1 n1 c1 true true], .b [.ints .u8 m1 l1]]
noncomputable def S (ex wh : Bool) (h : List Blk) (k : Int) : St := ⟨slotsOf 117 [(0, .sl 0 0 0 1 2 2 ex wh), (13, .sl 0 0 0 1 2 2 ex wh), (14, .int .i64 2), (15, .int .i64 k)], h, true⟩
noncomputable def T (ex wh : Bool) (h : List Blk) (k : Int) (l : SV) (n j : Int) : St := ⟨slotsOf 117 [(0, .sl 0 0 0 1 2 2 ex wh), (3, .int .i64 k), (4, l), (13, .sl 0 0 0 1 2 2 ex wh), (14, .int .i64 2), (15, .int .i64 k), (21, .int .i64 n), (22, .int .i64 j)], h, true⟩
noncomputable def GS (ex wh : Bool) (h : List Blk) (g : SV) (gs : List SV) (k : Int) : St := ⟨slotsOf 117 [(0, .sl 0 0 0 1 2 2 ex wh), (6, g), (38, .sl 0 0 0 1 2 2 ex wh), (39, .int .i64 2), (40, .int .i64 k)], h ++ [.b gs], true⟩
noncomputable def GT (ex wh : Bool) (h : List Blk) (g : SV) (gs : List SV) (k : Int) (l : SV) (n : Int) (hs : List Blk) : St := ⟨slotsOf 117 [(0, .sl 0 0 0 1 2 2 ex wh), (6, g), (7, .int .i64 k), (8, l), (9, .int .i64 n), (38, .sl 0 0 0 1 2 2 ex wh), (39, .int .i64 2), (40, .int .i64 k)], h ++ [.b gs] ++ hs, true⟩
noncomputable def CS (ex wh : Bool) (h : List Blk) (gs : List SV) (k : Int) : St := ⟨slotsOf 117 [(0, .sl 0 0 0 1 2 2 ex wh), (68, .sl 2 0 0 1 2 2 false true), (69, .int .i64 2), (70, .int .i64 k)], h ++ [.b gs], true⟩
noncomputable def CT (ex wh : Bool) (h : List Blk) (gs : List SV) (k : Int) (l : SV) (n j : Int) : St := ⟨slotsOf 117 [(0, .sl 0 0 0 1 2 2 ex wh), (10, .int .i64 k), (11, l), (68, .sl 2 0 0 1 2 2 false true), (69, .int .i64 2), (70, .int .i64 k), (76, .int .i64 n), (77, .int .i64 j)], h ++ [.b gs], true⟩
section
variable (ex wh : Bool) (n1 c1 m1 : Nat) (l1 : List Int) (j n : Int)
include ex wh n1 c1 m1 l1 j n
set_option maxRecDepth 100000 in
theorem w_init : (execL Try.prog (apC f0 g0) 60 2 2 (atoms apB) ⟨slots0 Try.f33.ntmps [.sl 0 0 0 1 2 2 ex wh], (H n1 c1 m1 l1), true⟩).bind (St.cut [0, 13, 14, 15] 2) = some (S ex wh (H n1 c1 m1 l1) 0) := by kernel_rfl
set_option maxRecDepth 100000 in
theorem w0 : (exec Try.prog (apC f0 g0) 60 2 apW (S ex wh (H n1 c1 m1 l1) 0)).bind (fun r => (r.2.cut [0, 13, 14, 15] 2).map fun q => (r.1, q)) = some (.normal, S ex wh (H n1 c1 m1 l1) 1) := by kernel_rfl
set_option maxRecDepth 100000 in
theorem w1_in : (execL Try.prog (apC f0 g0) 60 2 2 (atoms apW) (S ex wh (H n1 c1 m1 l1) 1)).bind (St.cut [0, 13, 14, 15] 2) = some (S ex wh (H n1 c1 m1 l1) 1) := by kernel_rfl
set_option maxRecDepth 100000 in
theorem w1_a : (execL Try.prog (apC f0 g0) 60 2 2 (atoms apX) (S ex wh (H n1 c1 m1 l1) 1)).bind (St.cut [0, 3, 4, 13, 14, 15, 21, 22] 2) = some (T ex wh (H n1 c1 m1 l1) 1 (.sl 1 0 0 1 n1 c1 true true) n1 0) := by kernel_rfl
set_option maxRecDepth 100000 in
theorem w1_s : (exec Try.prog (apC (wY true) g0) 60 2 apY (T ex wh (H n1 c1 m1 l1) 1 (.sl 1 0 0 1 n1 c1 true true) n1 j)).bind (fun r => (r.2.cut [0, 3, 4, 13, 14, 15, 21, 22] 2).map fun q => (r.1, q)) = some (.normal, { T ex wh (H n1 c1 m1 (l1.set (0 + j.toNat) (pt 1 j))) 1 (.sl 1 0 0 1 n1 c1 true true) n1 (J (j + 1)) with ob := wO j n1 m1 l1 }) := by kernel_rfl
set_option maxRecDepth 100000 in
theorem w1_e : (exec Try.prog (apC (wY false) g0) 60 2 apY (T ex wh (H n1 c1 m1 l1) 1 (.sl 1 0 0 1 n1 c1 true true) n1 j)).bind (fun r => (r.2.cut [0, 3, 4, 13, 14, 15, 21, 22] 2).map fun q => (r.1, q)) = some (.exit 2, { T ex wh (H n1 c1 m1 l1) 1 (.sl 1 0 0 1 n1 c1 true true) n1 j with ob := andT true (!decide (j < n1)) }) := by kernel_rfl
set_option maxRecDepth 100000 in
theorem w1_z : (exec Try.prog (apC f0 g0) 60 2 (nthC 3 apW) (S ex wh (H n1 c1 m1 l1) 1)).bind (fun r => (r.2.cut [0, 13, 14, 15] 2).map fun q => (r.1, q)) = some (.normal, S ex wh (H n1 c1 m1 l1) 2) := by kernel_rfl
set_option maxRecDepth 100000 in
theorem w_e : (exec Try.prog (apC f0 g0) 60 2 apW (S ex wh (H n1 c1 m1 l1) 2)).bind (fun r => (r.2.cut [0, 13, 14, 15] 2).map fun q => (r.1, q)) = some (.exit 0, S ex wh (H n1 c1 m1 l1) 2) := by kernel_rfl
set_option maxRecDepth 100000 in
theorem g_init : (execL Try.prog (apC f0 g0) 60 2 2 ((atoms apB).drop 3) (S ex wh (H n1 c1 m1 l1) 2)).bind (St.cut [0, 6, 38, 39, 40] 3) = some (GS ex wh (H n1 c1 m1 l1) (.sl 2 0 0 1 0 0 true true) [] 0) := by kernel_rfl
set_option maxRecDepth 100000 in
theorem g0_in (q0 q1 : List Int) : (execL Try.prog (apC f0 g0) 60 2 2 (atoms agW) (GS ex wh (H n1 c1 m1 l1) (.sl 2 0 0 1 0 0 true true) [] 0)).bind (St.cut [0, 6, 38, 39, 40] 3) = some (GS ex wh (H n1 c1 m1 l1) (.sl 2 0 0 1 0 0 true true) [] 0) := by kernel_rfl
set_option maxRecDepth 100000 in
theorem g0_a (q0 q1 : List Int) : (execL Try.prog (apC f0 g0) 60 2 2 (atoms agX) (GS ex wh (H n1 c1 m1 l1) (.sl 2 0 0 1 0 0 true true) [] 0)).bind (St.cut [0, 6, 7, 8, 9, 38, 39, 40] 3) = some (GT ex wh (H n1 c1 m1 l1) (.sl 2 0 0 1 0 0 true true) [] 0 (.nl (.slice none 0 0)) 0 []) := by kernel_rfl
set_option maxRecDepth 100000 in
theorem g0_m (q0 q1 : List Int) : (exec Try.prog (apC (gY true) g0) 60 2 agY (GT ex wh (H n1 c1 m1 l1) (.sl 2 0 0 1 0 0 true true) [] 0 (.nl (.slice none 0 0)) n [])).bind (fun r => (r.2.cut [0, 6, 7, 8, 9, 38, 39, 40] 5).map fun q => (r.1, q)) = some (.normal, { GT ex wh (H n1 c1 m1 l1) (.sl 2 0 0 1 0 0 true true) [] 0 (.sl 4 0 0 1 1 1 false true) n [.b [.ints .u8 1 [pt 0 0]], .b [.ints .u8 1 [pt 0 0]]] with ob := andT true (decide (((0 : Nat) : Int) < J (n + 10))) }) := by kernel_rfl
set_option maxRecDepth 100000 in
theorem g0_b (x y : List Int) (m : Nat) (q0 q1 : List Int) : (exec Try.prog (apC (gY true) g0) 60 2 agY (GT ex wh (H n1 c1 m1 l1) (.sl 2 0 0 1 0 0 true true) [] 0 (.sl 4 0 0 1 m m false true) n [.b [.ints .u8 1 x], .b [.ints .u8 m y]])).bind (fun r => (r.2.cut [0, 6, 7, 8, 9, 38, 39, 40] 5).map fun q => (r.1, q)) = some (.normal, { GT ex wh (H n1 c1 m1 l1) (.sl 2 0 0 1 0 0 true true) [] 0 (.sl 4 0 0 1 (m + 1) (m + 1) false true) n [.b [.ints .u8 1 x], .b [.ints .u8 (m + 1) (y ++ [pt 0 m])]] with ob := gP y m n }) := by kernel_rfl
set_option maxRecDepth 100000 in
theorem g0_e (x y : List Int) (m : Nat) (q0 q1 : List Int) : (exec Try.prog (apC (gY false) g0) 60 2 agY (GT ex wh (H n1 c1 m1 l1) (.sl 2 0 0 1 0 0 true true) [] 0 (.sl 4 0 0 1 m m false true) n [.b [.ints .u8 1 x], .b [.ints .u8 m y]])).bind (fun r => (r.2.cut [0, 6, 7, 8, 9, 38, 39, 40] 5).map fun q => (r.1, q)) = some (.exit 6, { GT ex wh (H n1 c1 m1 l1) (.sl 2 0 0 1 0 0 true true) [] 0 (.sl 4 0 0 1 m m false true) n [.b [.ints .u8 1 x], .b [.ints .u8 m y]] with ob := andT true (!decide ((m : Int) < J (n + 10))) }) := by kernel_rfl
set_option maxRecDepth 100000 in
theorem g0_f (x y : List Int) (m : Nat) (q0 q1 : List Int) : fzT 4 3 (GT ex wh (H n1 c1 m1 l1) (.sl 2 0 0 1 0 0 true true) [] 0 (.sl 4 0 0 1 m m false true) n [.b [.ints .u8 1 x], .b [.ints .u8 m y]]) = some (GT ex wh (H n1 c1 m1 l1) (.sl 2 0 0 1 0 0 true true) [] 0 (.ro true .u8 y) n [], andT (decide (y.length = m)) (decide (m = m) && true)) := by kernel_rfl
set_option maxRecDepth 100000 in
theorem g0_17 (y : List Int) (q0 q1 : List Int) : (exec Try.prog (apC f0 g0) 60 2 (nthC 3 agX) (GT ex wh (H n1 c1 m1 l1) (.sl 2 0 0 1 0 0 true true) [] 0 (.ro true .u8 y) n [])).bind (fun r => (r.2.cut [0, 6, 38, 39, 40] 3).map fun q => (r.1, q)) = some (.normal, GS ex wh (H n1 c1 m1 l1) (.sl 2 0 0 1 1 1 false true) [.ro true .u8 y] 0) := by kernel_rfl
set_option maxRecDepth 100000 in
theorem g0_z (q0 q1 : List Int) : (exec Try.prog (apC f0 g0) 60 2 (nthC 3 agW) (GS ex wh (H n1 c1 m1 l1) (.sl 2 0 0 1 1 1 false true) [.ro true .u8 q0] 0)).bind (fun r => (r.2.cut [0, 6, 38, 39, 40] 3).map fun q => (r.1, q)) = some (.normal, GS ex wh (H n1 c1 m1 l1) (.sl 2 0 0 1 1 1 false true) [.ro true .u8 q0] 1) := by kernel_rfl
set_option maxRecDepth 100000 in
theorem g1_in (q0 q1 : List Int) : (execL Try.prog (apC f0 g0) 60 2 2 (atoms agW) (GS ex wh (H n1 c1 m1 l1) (.sl 2 0 0 1 1 1 false true) [.ro true .u8 q0] 1)).bind (St.cut [0, 6, 38, 39, 40] 3) = some (GS ex wh (H n1 c1 m1 l1) (.sl 2 0 0 1 1 1 false true) [.ro true .u8 q0] 1) := by kernel_rfl
set_option maxRecDepth 100000 in
theorem g1_a (q0 q1 : List Int) : (execL Try.prog (apC f0 g0) 60 2 2 (atoms agX) (GS ex wh (H n1 c1 m1 l1) (.sl 2 0 0 1 1 1 false true) [.ro true .u8 q0] 1)).bind (St.cut [0, 6, 7, 8, 9, 38, 39, 40] 3) = some (GT ex wh (H n1 c1 m1 l1) (.sl 2 0 0 1 1 1 false true) [.ro true .u8 q0] 1 (.sl 1 0 0 1 n1 c1 true true) n1 []) := by kernel_rfl
set_option maxRecDepth 100000 in
theorem g1_s (q0 q1 : List Int) : (exec Try.prog (apC (gY true) g62) 60 2 agY (GT ex wh (H n1 c1 m1 l1) (.sl 2 0 0 1 1 1 false true) [.ro true .u8 q0] 1 (.sl 1 0 0 1 m1 c1 true true) n [])).bind (fun r => (r.2.cut [0, 6, 7, 8, 9, 38, 39, 40] 3).map fun q => (r.1, q)) = some (.normal, { GT ex wh (H n1 c1 (m1 + 1) (l1 ++ [pt 1 m1])) (.sl 2 0 0 1 1 1 false true) [.ro true .u8 q0] 1 (.sl 1 0 0 1 (m1 + 1) c1 true true) n [] with ob := gO m1 n c1 l1 }) := by kernel_rfl
set_option maxRecDepth 100000 in
theorem g1_m (q0 q1 : List Int) : (exec Try.prog (apC (gY true) g0) 60 2 agY (GT ex wh (H n1 c1 m1 l1) (.sl 2 0 0 1 1 1 false true) [.ro true .u8 q0] 1 (.sl 1 0 0 1 m1 c1 true true) n [])).bind (fun r => (r.2.cut [0, 6, 7, 8, 9, 38, 39, 40] 5).map fun q => (r.1, q)) = some (.normal, { GT ex wh (H n1 c1 m1 l1) (.sl 2 0 0 1 1 1 false true) [.ro true .u8 q0] 1 (.sl 4 0 0 1 (m1 + 1) (m1 + 1) false true) n [.b [.ints .u8 1 [pt 1 m1]], .b [.ints .u8 (m1 + 1) (l1 ++ [pt 1 m1])]] with ob := gM m1 n c1 l1 }) := by kernel_rfl
set_option maxRecDepth 100000 in
theorem g1_b (x y : List Int) (m : Nat) (q0 q1 : List Int) : (exec Try.prog (apC (gY true) g0) 60 2 agY (GT ex wh (H n1 c1 m1 l1) (.sl 2 0 0 1 1 1 false true) [.ro true .u8 q0] 1 (.sl 4 0 0 1 m m false true) n [.b [.ints .u8 1 x], .b [.ints .u8 m y]])).bind (fun r => (r.2.cut [0, 6, 7, 8, 9, 38, 39, 40] 5).map fun q => (r.1, q)) = some (.normal, { GT ex wh (H n1 c1 m1 l1) (.sl 2 0 0 1 1 1 false true) [.ro true .u8 q0] 1 (.sl 4 0 0 1 (m + 1) (m + 1) false true) n [.b [.ints .u8 1 x], .b [.ints .u8 (m + 1) (y ++ [pt 1 m])]] with ob := gP y m n }) := by kernel_rfl
set_option maxRecDepth 100000 in
theorem g1_e (x y : List Int) (m : Nat) (q0 q1 : List Int) : (exec Try.prog (apC (gY false) g0) 60 2 agY (GT ex wh (H n1 c1 m1 l1) (.sl 2 0 0 1 1 1 false true) [.ro true .u8 q0] 1 (.sl 4 0 0 1 m m false true) n [.b [.ints .u8 1 x], .b [.ints .u8 m y]])).bind (fun r => (r.2.cut [0, 6, 7, 8, 9, 38, 39, 40] 5).map fun q => (r.1, q)) = some (.exit 6, { GT ex wh (H n1 c1 m1 l1) (.sl 2 0 0 1 1 1 false true) [.ro true .u8 q0] 1 (.sl 4 0 0 1 m m false true) n [.b [.ints .u8 1 x], .b [.ints .u8 m y]] with ob := andT true (!decide ((m : Int) < J (n + 10))) }) := by kernel_rfl
set_option maxRecDepth 100000 in
theorem g1_f (x y : List Int) (m : Nat) (q0 q1 : List Int) : fzT 4 3 (GT ex wh (H n1 c1 m1 l1) (.sl 2 0 0 1 1 1 false true) [.ro true .u8 q0] 1 (.sl 4 0 0 1 m m false true) n [.b [.ints .u8 1 x], .b [.ints .u8 m y]]) = some (GT ex wh (H n1 c1 m1 l1) (.sl 2 0 0 1 1 1 false true) [.ro true .u8 q0] 1 (.ro true .u8 y) n [], andT (decide (y.length = m)) (decide (m = m) && true)) := by kernel_rfl
set_option maxRecDepth 100000 in
theorem g1_17 (y : List Int) (q0 q1 : List Int) : (exec Try.prog (apC f0 g0) 60 2 (nthC 3 agX) (GT ex wh (H n1 c1 m1 l1) (.sl 2 0 0 1 1 1 false true) [.ro true .u8 q0] 1 (.ro true .u8 y) n [])).bind (fun r => (r.2.cut [0, 6, 38, 39, 40] 3).map fun q => (r.1, q)) = some (.normal, GS ex wh (H n1 c1 m1 l1) (.sl 2 0 0 1 2 2 false true) [.ro true .u8 q0, .ro true .u8 y] 1) := by kernel_rfl
set_option maxRecDepth 100000 in
theorem g1_z (q0 q1 : List Int) : (exec Try.prog (apC f0 g0) 60 2 (nthC 3 agW) (GS ex wh (H n1 c1 m1 l1) (.sl 2 0 0 1 2 2 false true) [.ro true .u8 q0, .ro true .u8 q1] 1)).bind (fun r => (r.2.cut [0, 6, 38, 39, 40] 3).map fun q => (r.1, q)) = some (.normal, GS ex wh (H n1 c1 m1 l1) (.sl 2 0 0 1 2 2 false true) [.ro true .u8 q0, .ro true .u8 q1] 2) := by kernel_rfl
set_option maxRecDepth 100000 in
theorem g_e (q0 q1 : List Int) : (exec Try.prog (apC f0 g0) 60 2 agW (GS ex wh (H n1 c1 m1 l1) (.sl 2 0 0 1 2 2 false true) [.ro true .u8 q0, .ro true .u8 q1] 2)).bind (fun r => (r.2.cut [0, 6, 38, 39, 40] 3).map fun q => (r.1, q)) = some (.exit 4, GS ex wh (H n1 c1 m1 l1) (.sl 2 0 0 1 2 2 false true) [.ro true .u8 q0, .ro true .u8 q1] 2) := by kernel_rfl
set_option maxRecDepth 100000 in
theorem c_init (q0 q1 : List Int) : (execL Try.prog (apC f0 g0) 60 2 1 ((atoms apB).drop 6) (GS ex wh (H n1 c1 m1 l1) (.sl 2 0 0 1 2 2 false true) [.ro true .u8 q0, .ro true .u8 q1] 2)).bind (St.cut [0, 68, 69, 70] 3) = some (CS ex wh (H n1 c1 m1 l1) [.ro true .u8 q0, .ro true .u8 q1] 0) := by kernel_rfl
set_option maxRecDepth 100000 in
theorem c0_in (q0 q1 : List Int) : (execL Try.prog (apC f0 g0) 60 2 2 (atoms acW) (CS ex wh (H n1 c1 m1 l1) [.ro true .u8 q0, .ro true .u8 q1] 0)).bind (St.cut [0, 68, 69, 70] 3) = some (CS ex wh (H n1 c1 m1 l1) [.ro true .u8 q0, .ro true .u8 q1] 0) := by kernel_rfl
set_option maxRecDepth 100000 in
theorem c0_a (q0 q1 : List Int) : (execL Try.prog (apC f0 g0) 60 2 2 (atoms acX) (CS ex wh (H n1 c1 m1 l1) [.ro true .u8 q0, .ro true .u8 q1] 0)).bind (St.cut [0, 10, 11, 68, 69, 70, 76, 77] 3) = some (CT ex wh (H n1 c1 m1 l1) [.ro true .u8 q0, .ro true .u8 q1] 0 (.ro true .u8 q0) (q0.length : Int) 0) := by kernel_rfl
set_option maxRecDepth 100000 in
theorem c0_t (q0 q1 : List Int) : (exec Try.prog (apC cZ g0) 60 2 acY (CT ex wh (H n1 c1 m1 l1) [.ro true .u8 q0, .ro true .u8 q1] 0 (.ro true .u8 q0) n j)).bind (fun r => (r.2.cut [0, 10, 11, 68, 69, 70, 76, 77] 3).map fun q => (r.1, q)) = some (.normal, { CT ex wh (H n1 c1 m1 l1) [.ro true .u8 q0, .ro true .u8 q1] 0 (.ro true .u8 q0) n (J (j + 1)) with ob := andT (andT (roO (andT true (decide (j < n))) j q0.length) (!(q0.getD j.toNat 0 != pt 0 j))) (!(decide (j < ((0 : Nat) : Int)))) }) := by kernel_rfl
set_option maxRecDepth 100000 in
theorem c0_e (q0 q1 : List Int) : (exec Try.prog (apC cE g0) 60 2 acY (CT ex wh (H n1 c1 m1 l1) [.ro true .u8 q0, .ro true .u8 q1] 0 (.ro true .u8 q0) n j)).bind (fun r => (r.2.cut [0, 10, 11, 68, 69, 70, 76, 77] 3).map fun q => (r.1, q)) = some (.exit 10, { CT ex wh (H n1 c1 m1 l1) [.ro true .u8 q0, .ro true .u8 q1] 0 (.ro true .u8 q0) n j with ob := andT true (!decide (j < n)) }) := by kernel_rfl
set_option maxRecDepth 100000 in
theorem c0_z (q0 q1 : List Int) : (exec Try.prog (apC f0 g0) 60 2 (nthC 3 acW) (CS ex wh (H n1 c1 m1 l1) [.ro true .u8 q0, .ro true .u8 q1] 0)).bind (fun r => (r.2.cut [0, 68, 69, 70] 3).map fun q => (r.1, q)) = some (.normal, CS ex wh (H n1 c1 m1 l1) [.ro true .u8 q0, .ro true .u8 q1] 1) := by kernel_rfl
set_option maxRecDepth 100000 in
theorem c1_in (q0 q1 : List Int) : (execL Try.prog (apC f0 g0) 60 2 2 (atoms acW) (CS ex wh (H n1 c1 m1 l1) [.ro true .u8 q0, .ro true .u8 q1] 1)).bind (St.cut [0, 68, 69, 70] 3) = some (CS ex wh (H n1 c1 m1 l1) [.ro true .u8 q0, .ro true .u8 q1] 1) := by kernel_rfl
set_option maxRecDepth 100000 in
theorem c1_a (q0 q1 : List Int) : (execL Try.prog (apC f0 g0) 60 2 2 (atoms acX) (CS ex wh (H n1 c1 m1 l1) [.ro true .u8 q0, .ro true .u8 q1] 1)).bind (St.cut [0, 10, 11, 68, 69, 70, 76, 77] 3) = some (CT ex wh (H n1 c1 m1 l1) [.ro true .u8 q0, .ro true .u8 q1] 1 (.ro true .u8 q1) (q1.length : Int) 0) := by kernel_rfl
set_option maxRecDepth 100000 in
theorem c1_s (q0 q1 : List Int) : (exec Try.prog (apC cA g0) 60 2 acY (CT ex wh (H n1 c1 m1 l1) [.ro true .u8 q0, .ro true .u8 q1] 1 (.ro true .u8 q1) n j)).bind (fun r => (r.2.cut [0, 10, 11, 68, 69, 70, 76, 77] 3).map fun q => (r.1, q)) = some (.normal, { CT ex wh (H n1 c1 m1 l1) [.ro true .u8 q0, .ro true .u8 q1] 1 (.ro true .u8 q1) n (J (j + 1)) with ob := (andT (roO (rdO (andT (andT (roO (andT true (decide (j < n))) j q1.length) (!(q1.getD j.toNat 0 != pt 1 j))) (decide (j < n1))) j n1 m1) j q1.length) (!(l1.getD (0 + j.toNat) 0 != q1.getD j.toNat 0))) }) := by kernel_rfl
set_option maxRecDepth 100000 in
theorem c1_t (q0 q1 : List Int) : (exec Try.prog (apC cZ g0) 60 2 acY (CT ex wh (H n1 c1 m1 l1) [.ro true .u8 q0, .ro true .u8 q1] 1 (.ro true .u8 q1) n j)).bind (fun r => (r.2.cut [0, 10, 11, 68, 69, 70, 76, 77] 3).map fun q => (r.1, q)) = some (.normal, { CT ex wh (H n1 c1 m1 l1) [.ro true .u8 q0, .ro true .u8 q1] 1 (.ro true .u8 q1) n (J (j + 1)) with ob := andT (andT (roO (andT true (decide (j < n))) j q1.length) (!(q1.getD j.toNat 0 != pt 1 j))) (!(decide (j < n1))) }) := by kernel_rfl
set_option maxRecDepth 100000 in
theorem c1_e (q0 q1 : List Int) : (exec Try.prog (apC cE g0) 60 2 acY (CT ex wh (H n1 c1 m1 l1) [.ro true .u8 q0, .ro true .u8 q1] 1 (.ro true .u8 q1) n j)).bind (fun r => (r.2.cut [0, 10, 11, 68, 69, 70, 76, 77] 3).map fun q => (r.1, q)) = some (.exit 10, { CT ex wh (H n1 c1 m1 l1) [.ro true .u8 q0, .ro true .u8 q1] 1 (.ro true .u8 q1) n j with ob := andT true (!decide (j < n)) }) := by kernel_rfl
set_option maxRecDepth 100000 in
theorem c1_z (q0 q1 : List Int) : (exec Try.prog (apC f0 g0) 60 2 (nthC 3 acW) (CS ex wh (H n1 c1 m1 l1) [.ro true .u8 q0, .ro true .u8 q1] 1)).bind (fun r => (r.2.cut [0, 68, 69, 70] 3).map fun q => (r.1, q)) = some (.normal, CS ex wh (H n1 c1 m1 l1) [.ro true .u8 q0, .ro true .u8 q1] 2) := by kernel_rfl
set_option maxRecDepth 100000 in
theorem c_e (q0 q1 : List Int) : (exec Try.prog (apC f0 g0) 60 2 acW (CS ex wh (H n1 c1 m1 l1) [.ro true .u8 q0, .ro true .u8 q1] 2)).bind (fun r => (r.2.cut [0, 68, 69, 70] 3).map fun q => (r.1, q)) = some (.exit 8, CS ex wh (H n1 c1 m1 l1) [.ro true .u8 q0, .ro true .u8 q1] 2) := by kernel_rfl
end
section
variable {n1 c1 : Nat} {l1 : List Int} (ex wh : Bool) (e1 : l1.length = n1) (b1 : n1 < 1000000) (a1 : n1 ≤ c1) (i1 : c1 < n1 + 10)
include e1 b1 a1 i1
theorem W0 : Tr Try.prog none 2 apW (S ex wh (H n1 c1 (n1) (l1)) 0) .normal (S ex wh (H n1 c1 (n1) (l1)) 1) := Tr.cut (apC_ok _ _) 60 _ 2 (by omega) (w0 ex wh n1 c1 (n1) (l1) (0) (0)) rfl
theorem W1 : Tr Try.prog none 2 apW (S ex wh (H n1 c1 (n1) (l1)) 1) .normal (S ex wh (H n1 c1 (n1) (pat 1 n1)) 2) := by
  have loop : Tr Try.prog none 2 (nthC 2 apX) (T ex wh (H n1 c1 (n1) (l1)) 1 (.sl 1 0 0 1 n1 c1 true true) n1 0) .normal (T ex wh (H n1 c1 (n1) (pat 1 n1)) 1 (.sl 1 0 0 1 n1 c1 true true) n1 n1) := by
    have key := Tr.loop (P := Try.prog) (ro := none) (k := 2) 2 (c := nthC 2 apX) (by kernel_rfl) (fun j : Nat => T ex wh (H n1 c1 (n1) (pat 1 j ++ l1.drop j)) 1 (.sl 1 0 0 1 n1 c1 true true) n1 j) n1 (s' := T ex wh (H n1 c1 (n1) (pat 1 n1)) 1 (.sl 1 0 0 1 n1 c1 true true) n1 n1) (fun j hj => ?_) ?_
    · exact key
    · show Tr _ _ _ apY _ _ _
      have e := w1_s ex wh n1 c1 (n1) (pat 1 j ++ l1.drop j) (j) (0)
      rw [wO_true hj (by omega) (by rw [pat_mid_len (by omega), e1]), Int.toNat_natCast, pat_set (by omega), J_eq (by omega) (by omega)] at e
      exact Tr.post (Tr.cut (apC_ok _ _) 60 _ 2 (by omega) e rfl) (Ent.same rfl rfl)
    · show Tr _ _ _ apY _ _ _
      have e := w1_e ex wh n1 c1 (n1) (pat 1 n1) (n1) (0)
      rw [decide_eq_false (show ¬ ((n1 : Int) < n1) by omega)] at e
      have h0 : pat 1 n1 ++ l1.drop n1 = pat 1 n1 := by rw [← e1, pat_all]
      rw [h0]
      exact Tr.cut (apC_ok _ _) 60 _ 2 (by omega) e rfl
  refine Tr.of_atoms (TrL.items (apC_ok _ _) 60 2 _ 2 (by omega) (w1_in ex wh n1 c1 (n1) (l1) (0) (0)) rfl (by decide) ?_)
  refine TrL.item 2 (by decide) (s1 := S ex wh (H n1 c1 (n1) (pat 1 n1)) 1) ?_ (TrL.item 3 (by decide) (s1 := S ex wh (H n1 c1 (n1) (pat 1 n1)) 2) (Tr.cut (apC_ok _ _) 60 _ 2 (by omega) (w1_z ex wh n1 c1 (n1) (pat 1 n1) (0) (0)) rfl) ⟨rfl, rfl⟩)
  rw [hX2]
  refine Tr.block_pass ?_ (by simp)
  refine Tr.of_atoms (TrL.items (apC_ok _ _) 60 2 _ 2 (by omega) (w1_a ex wh n1 c1 (n1) (l1) (0) (0)) rfl (by decide) ?_)
  exact TrL.item 2 (by decide) (Tr.post loop (Ent.cut (n := 2) (live := [0, 13, 14, 15]) (by omega) (by kernel_rfl))) ⟨rfl, rfl⟩
theorem G0_loop : Tr Try.prog none 2 (nthC 2 agX) (GT ex wh (H n1 c1 (n1) (pat 1 n1)) (.sl 2 0 0 1 0 0 true true) [] 0 (.nl (.slice none 0 0)) 0 []) .normal (GT ex wh (H n1 c1 (n1) (pat 1 n1)) (.sl 2 0 0 1 0 0 true true) [] 0 (.sl 4 0 0 1 10 10 false true) 0 [.b [.ints .u8 1 [pt 0 0]], .b [.ints .u8 10 (pat 0 10)]]) := by
  have key := Tr.loop (P := Try.prog) (ro := none) (k := 2) 6 (c := nthC 2 agX) (by kernel_rfl) (fun j : Nat => if j = 0 then GT ex wh (H n1 c1 (n1) (pat 1 n1)) (.sl 2 0 0 1 0 0 true true) [] 0 (.nl (.slice none 0 0)) 0 [] else GT ex wh (H n1 c1 (n1) (pat 1 n1)) (.sl 2 0 0 1 0 0 true true) [] 0 (.sl 4 0 0 1 j j false true) 0 [.b [.ints .u8 1 [pt 0 0]], .b [.ints .u8 j (pat 0 j)]]) 10 (s' := GT ex wh (H n1 c1 (n1) (pat 1 n1)) (.sl 2 0 0 1 0 0 true true) [] 0 (.sl 4 0 0 1 10 10 false true) 0 [.b [.ints .u8 1 [pt 0 0]], .b [.ints .u8 10 (pat 0 10)]]) (fun j hj => ?_) ?_
  · simp only [if_true] at key
    exact key
  · show Tr _ _ _ agY _ _ _
    by_cases h1 : j = 0
    · subst h1
      rw [if_pos rfl, if_neg (show ¬ 0 + 1 = 0 by omega)]
      have e := g0_m ex wh n1 c1 (n1) (pat 1 n1) (0) (0) (pat 0 10) (pat 1 (n1 + 10))
      exact Tr.post (Tr.cut (apC_ok _ _) 60 _ 5 (by omega) e rfl) (Ent.same rfl rfl)
    · rw [if_neg h1, if_neg (show ¬ j + 1 = 0 by omega)]
      have e := g0_b ex wh n1 c1 (n1) (pat 1 n1) (0) (0) [pt 0 0] (pat 0 j) j (pat 0 10) (pat 1 (n1 + 10))
      rw [gP_true0 (by omega) (by omega) (pat_len _ _), ← pat_succ] at e
      exact Tr.post (Tr.cut (apC_ok _ _) 60 _ 5 (by omega) e rfl) (Ent.same rfl rfl)
  · show Tr _ _ _ agY _ _ _
    rw [if_neg (show ¬ 10 = 0 by omega)]
    have e := g0_e ex wh n1 c1 (n1) (pat 1 n1) (0) (0) [pt 0 0] (pat 0 10) 10 (pat 0 10) (pat 1 (n1 + 10))
    exact Tr.cut (apC_ok _ _) 60 _ 5 (by omega) e rfl
theorem G0 : Tr Try.prog none 2 agW (GS ex wh (H n1 c1 (n1) (pat 1 n1)) (.sl 2 0 0 1 0 0 true true) [] 0) .normal (GS ex wh (H n1 c1 (n1) (pat 1 n1)) (.sl 2 0 0 1 1 1 false true) [.ro true .u8 (pat 0 10)] 1) := by
  have loop : Tr Try.prog none 2 (nthC 2 agX) (GT ex wh (H n1 c1 (n1) (pat 1 n1)) (.sl 2 0 0 1 0 0 true true) [] 0 (.nl (.slice none 0 0)) 0 []) .normal (GT ex wh (H n1 c1 (n1) (pat 1 n1)) (.sl 2 0 0 1 0 0 true true) [] 0 (.ro true .u8 (pat 0 10)) 0 []) := (Tr.post (by exact G0_loop ex wh e1 b1 a1 i1) (Ent.fzT (by omega) (by omega) (g0_f ex wh n1 c1 (n1) (pat 1 n1) (0) (0) [pt 0 0] (pat 0 10) 10 (pat 0 10) (pat 1 (n1 + 10))) (by rw [pat_len, decide_eq_true rfl]; rfl)))
  refine Tr.of_atoms (TrL.items (apC_ok _ _) 60 2 _ 3 (by omega) (g0_in ex wh n1 c1 (n1) (pat 1 n1) (0) (0) (pat 0 10) (pat 1 (n1 + 10))) rfl (by decide) ?_)
  refine TrL.item 2 (by decide) (s1 := GS ex wh (H n1 c1 (n1) (pat 1 n1)) (.sl 2 0 0 1 1 1 false true) [.ro true .u8 (pat 0 10)] 0) ?_ (TrL.item 3 (by decide) (s1 := GS ex wh (H n1 c1 (n1) (pat 1 n1)) (.sl 2 0 0 1 1 1 false true) [.ro true .u8 (pat 0 10)] 1) (Tr.cut (apC_ok _ _) 60 _ 3 (by omega) (g0_z ex wh n1 c1 (n1) (pat 1 n1) (0) (0) (pat 0 10) (pat 1 (n1 + 10))) rfl) ⟨rfl, rfl⟩)
  rw [hG2]
  refine Tr.block_pass ?_ (by simp)
  refine Tr.of_atoms (TrL.items (apC_ok _ _) 60 2 _ 3 (by omega) (g0_a ex wh n1 c1 (n1) (pat 1 n1) (0) (0) (pat 0 10) (pat 1 (n1 + 10))) rfl (by decide) ?_)
  exact TrL.item 2 (by decide) loop (TrL.item 3 (by decide) (s1 := GS ex wh (H n1 c1 (n1) (pat 1 n1)) (.sl 2 0 0 1 1 1 false true) [.ro true .u8 (pat 0 10)] 0) (Tr.cut (apC_ok _ _) 60 _ 3 (by omega) (g0_17 ex wh n1 c1 (n1) (pat 1 n1) (0) (0) (pat 0 10) (pat 0 10) (pat 1 (n1 + 10))) rfl) ⟨rfl, rfl⟩)
theorem G1_loop : Tr Try.prog none 2 (nthC 2 agX) (GT ex wh (H n1 c1 (n1) (pat 1 n1)) (.sl 2 0 0 1 1 1 false true) [.ro true .u8 (pat 0 10)] 1 (.sl 1 0 0 1 n1 c1 true true) n1 []) .normal (GT ex wh (H n1 c1 (n1 + (c1 - n1)) (pat 1 (n1 + (c1 - n1)))) (.sl 2 0 0 1 1 1 false true) [.ro true .u8 (pat 0 10)] 1 (.sl 4 0 0 1 (n1 + 10) (n1 + 10) false true) n1 [.b [.ints .u8 1 [pt 1 ((n1 + (c1 - n1) : Nat) : Int)]], .b [.ints .u8 (n1 + 10) (pat 1 (n1 + 10))]]) := by
  have key := Tr.loop (P := Try.prog) (ro := none) (k := 2) 6 (c := nthC 2 agX) (by kernel_rfl) (fun j : Nat => if j ≤ (c1 - n1) then GT ex wh (H n1 c1 (n1 + j) (pat 1 (n1 + j))) (.sl 2 0 0 1 1 1 false true) [.ro true .u8 (pat 0 10)] 1 (.sl 1 0 0 1 (n1 + j) c1 true true) n1 [] else GT ex wh (H n1 c1 (n1 + (c1 - n1)) (pat 1 (n1 + (c1 - n1)))) (.sl 2 0 0 1 1 1 false true) [.ro true .u8 (pat 0 10)] 1 (.sl 4 0 0 1 (n1 + j) (n1 + j) false true) n1 [.b [.ints .u8 1 [pt 1 ((n1 + (c1 - n1) : Nat) : Int)]], .b [.ints .u8 (n1 + j) (pat 1 (n1 + j))]]) 10 (s' := GT ex wh (H n1 c1 (n1 + (c1 - n1)) (pat 1 (n1 + (c1 - n1)))) (.sl 2 0 0 1 1 1 false true) [.ro true .u8 (pat 0 10)] 1 (.sl 4 0 0 1 (n1 + 10) (n1 + 10) false true) n1 [.b [.ints .u8 1 [pt 1 ((n1 + (c1 - n1) : Nat) : Int)]], .b [.ints .u8 (n1 + 10) (pat 1 (n1 + 10))]]) (fun j hj => ?_) ?_
  · simp only [Nat.zero_le, if_true] at key
    exact key
  · show Tr _ _ _ agY _ _ _
    by_cases h1 : j < (c1 - n1)
    · rw [if_pos (show j ≤ (c1 - n1) by omega), if_pos (show j + 1 ≤ (c1 - n1) by omega)]
      have e := g1_s ex wh n1 c1 (n1 + j) (pat 1 (n1 + j)) (0) (n1) (pat 0 10) (pat 1 (n1 + 10))
      rw [gO_true (by omega) (by omega) (by omega) (pat_len _ _), ← pat_succ] at e
      exact Tr.post (Tr.cut (apC_ok _ _) 60 _ 3 (by omega) e rfl) (Ent.same rfl rfl)
    · by_cases h2 : j = (c1 - n1)
      · rw [if_pos (show j ≤ (c1 - n1) by omega), if_neg (show ¬ j + 1 ≤ (c1 - n1) by omega)]
        have e := g1_m ex wh n1 c1 (n1 + j) (pat 1 (n1 + j)) (0) (n1) (pat 0 10) (pat 1 (n1 + 10))
        rw [gM_true (by omega) (by omega) (by omega) (pat_len _ _), ← pat_succ] at e
        subst h2
        exact Tr.post (Tr.cut (apC_ok _ _) 60 _ 5 (by omega) e rfl) (Ent.same rfl rfl)
      · rw [if_neg (show ¬ j ≤ (c1 - n1) by omega), if_neg (show ¬ j + 1 ≤ (c1 - n1) by omega)]
        have e := g1_b ex wh n1 c1 (n1 + (c1 - n1)) (pat 1 (n1 + (c1 - n1))) (0) (n1) [pt 1 ((n1 + (c1 - n1) : Nat) : Int)] (pat 1 (n1 + j)) (n1 + j) (pat 0 10) (pat 1 (n1 + 10))
        rw [gP_true (by omega) (by omega) (pat_len _ _), ← pat_succ] at e
        exact Tr.post (Tr.cut (apC_ok _ _) 60 _ 5 (by omega) e rfl) (Ent.same rfl rfl)
  · show Tr _ _ _ agY _ _ _
    rw [if_neg (show ¬ 10 ≤ (c1 - n1) by omega)]
    have e := g1_e ex wh n1 c1 (n1 + (c1 - n1)) (pat 1 (n1 + (c1 - n1))) (0) (n1) [pt 1 ((n1 + (c1 - n1) : Nat) : Int)] (pat 1 (n1 + 10)) (n1 + 10) (pat 0 10) (pat 1 (n1 + 10))
    rw [J_eq (by omega) (by omega), decide_eq_false (show ¬ (((n1 + 10 : Nat) : Int) < (n1 : Int) + 10) by omega)] at e
    exact Tr.cut (apC_ok _ _) 60 _ 5 (by omega) e rfl
theorem G1 : Tr Try.prog none 2 agW (GS ex wh (H n1 c1 (n1) (pat 1 n1)) (.sl 2 0 0 1 1 1 false true) [.ro true .u8 (pat 0 10)] 1) .normal (GS ex wh (H n1 c1 (n1 + (c1 - n1)) (pat 1 (n1 + (c1 - n1)))) (.sl 2 0 0 1 2 2 false true) [.ro true .u8 (pat 0 10), .ro true .u8 (pat 1 (n1 + 10))] 2) := by
  have loop : Tr Try.prog none 2 (nthC 2 agX) (GT ex wh (H n1 c1 (n1) (pat 1 n1)) (.sl 2 0 0 1 1 1 false true) [.ro true .u8 (pat 0 10)] 1 (.sl 1 0 0 1 n1 c1 true true) n1 []) .normal (GT ex wh (H n1 c1 (n1 + (c1 - n1)) (pat 1 (n1 + (c1 - n1)))) (.sl 2 0 0 1 1 1 false true) [.ro true .u8 (pat 0 10)] 1 (.ro true .u8 (pat 1 (n1 + 10))) n1 []) := (Tr.post (by exact G1_loop ex wh e1 b1 a1 i1) (Ent.fzT (by omega) (by omega) (g1_f ex wh n1 c1 (n1 + (c1 - n1)) (pat 1 (n1 + (c1 - n1))) (0) (n1) [pt 1 ((n1 + (c1 - n1) : Nat) : Int)] (pat 1 (n1 + 10)) (n1 + 10) (pat 0 10) (pat 1 (n1 + 10))) (by rw [pat_len, decide_eq_true rfl]; rfl)))
  refine Tr.of_atoms (TrL.items (apC_ok _ _) 60 2 _ 3 (by omega) (g1_in ex wh n1 c1 (n1) (pat 1 n1) (0) (0) (pat 0 10) (pat 1 (n1 + 10))) rfl (by decide) ?_)
  refine TrL.item 2 (by decide) (s1 := GS ex wh (H n1 c1 (n1 + (c1 - n1)) (pat 1 (n1 + (c1 - n1)))) (.sl 2 0 0 1 2 2 false true) [.ro true .u8 (pat 0 10), .ro true .u8 (pat 1 (n1 + 10))] 1) ?_ (TrL.item 3 (by decide) (s1 := GS ex wh (H n1 c1 (n1 + (c1 - n1)) (pat 1 (n1 + (c1 - n1)))) (.sl 2 0 0 1 2 2 false true) [.ro true .u8 (pat 0 10), .ro true .u8 (pat 1 (n1 + 10))] 2) (Tr.cut (apC_ok _ _) 60 _ 3 (by omega) (g1_z ex wh n1 c1 (n1 + (c1 - n1)) (pat 1 (n1 + (c1 - n1))) (0) (0) (pat 0 10) (pat 1 (n1 + 10))) rfl) ⟨rfl, rfl⟩)
  rw [hG2]
  refine Tr.block_pass ?_ (by simp)
  refine Tr.of_atoms (TrL.items (apC_ok _ _) 60 2 _ 3 (by omega) (g1_a ex wh n1 c1 (n1) (pat 1 n1) (0) (0) (pat 0 10) (pat 1 (n1 + 10))) rfl (by decide) ?_)
  exact TrL.item 2 (by decide) loop (TrL.item 3 (by decide) (s1 := GS ex wh (H n1 c1 (n1 + (c1 - n1)) (pat 1 (n1 + (c1 - n1)))) (.sl 2 0 0 1 2 2 false true) [.ro true .u8 (pat 0 10), .ro true .u8 (pat 1 (n1 + 10))] 1) (Tr.cut (apC_ok _ _) 60 _ 3 (by omega) (g1_17 ex wh n1 c1 (n1 + (c1 - n1)) (pat 1 (n1 + (c1 - n1))) (0) (n1) (pat 1 (n1 + 10)) (pat 0 10) (pat 1 (n1 + 10))) rfl) ⟨rfl, rfl⟩)
theorem C0 : Tr Try.prog none 2 acW (CS ex wh (H n1 c1 (n1 + (c1 - n1)) (pat 1 (n1 + (c1 - n1)))) [.ro true .u8 (pat 0 10), .ro true .u8 (pat 1 (n1 + 10))] 0) .normal (CS ex wh (H n1 c1 (n1 + (c1 - n1)) (pat 1 (n1 + (c1 - n1)))) [.ro true .u8 (pat 0 10), .ro true .u8 (pat 1 (n1 + 10))] 1) := by
  have loop : Tr Try.prog none 2 (nthC 2 acX) (CT ex wh (H n1 c1 (n1 + (c1 - n1)) (pat 1 (n1 + (c1 - n1)))) [.ro true .u8 (pat 0 10), .ro true .u8 (pat 1 (n1 + 10))] 0 (.ro true .u8 (pat 0 10)) ((10 : Nat) : Int) 0) .normal (CT ex wh (H n1 c1 (n1 + (c1 - n1)) (pat 1 (n1 + (c1 - n1)))) [.ro true .u8 (pat 0 10), .ro true .u8 (pat 1 (n1 + 10))] 0 (.ro true .u8 (pat 0 10)) ((10 : Nat) : Int) ((10 : Nat) : Int)) := by
    have key := Tr.loop (P := Try.prog) (ro := none) (k := 2) 10 (c := nthC 2 acX) (by kernel_rfl) (fun j : Nat => CT ex wh (H n1 c1 (n1 + (c1 - n1)) (pat 1 (n1 + (c1 - n1)))) [.ro true .u8 (pat 0 10), .ro true .u8 (pat 1 (n1 + 10))] 0 (.ro true .u8 (pat 0 10)) ((10 : Nat) : Int) j) 10 (s' := CT ex wh (H n1 c1 (n1 + (c1 - n1)) (pat 1 (n1 + (c1 - n1)))) [.ro true .u8 (pat 0 10), .ro true .u8 (pat 1 (n1 + 10))] 0 (.ro true .u8 (pat 0 10)) ((10 : Nat) : Int) ((10 : Nat) : Int)) (fun j hj => ?_) ?_
    · exact key
    · show Tr _ _ _ acY _ _ _
      have e := c0_t ex wh n1 c1 (n1 + (c1 - n1)) (pat 1 (n1 + (c1 - n1))) (j) (((10 : Nat) : Int)) (pat 0 10) (pat 1 (n1 + 10))
      rw [Int.toNat_natCast, pat_get 0 (show j < 10 by omega), bne_self', decide_eq_true (show ((j : Int) < ((10 : Nat) : Int)) by omega), pat_len, roO_true (ob := andT true true) rfl hj, decide_eq_false (show ¬ ((j : Int) < ((0 : Nat) : Int)) by omega), J_eq (by omega) (by omega)] at e
      exact Tr.post (Tr.cut (apC_ok _ _) 60 _ 3 (by omega) e rfl) (Ent.same rfl rfl)
    · show Tr _ _ _ acY _ _ _
      have e := c0_e ex wh n1 c1 (n1 + (c1 - n1)) (pat 1 (n1 + (c1 - n1))) (((10 : Nat) : Int)) (((10 : Nat) : Int)) (pat 0 10) (pat 1 (n1 + 10))
      rw [decide_eq_false (show ¬ (((10 : Nat) : Int) < ((10 : Nat) : Int)) by omega)] at e
      exact Tr.cut (apC_ok _ _) 60 _ 3 (by omega) e rfl
  refine Tr.of_atoms (TrL.items (apC_ok _ _) 60 2 _ 3 (by omega) (c0_in ex wh n1 c1 (n1 + (c1 - n1)) (pat 1 (n1 + (c1 - n1))) (0) (0) (pat 0 10) (pat 1 (n1 + 10))) rfl (by decide) ?_)
  refine TrL.item 2 (by decide) (s1 := CS ex wh (H n1 c1 (n1 + (c1 - n1)) (pat 1 (n1 + (c1 - n1)))) [.ro true .u8 (pat 0 10), .ro true .u8 (pat 1 (n1 + 10))] 0) ?_ (TrL.item 3 (by decide) (s1 := CS ex wh (H n1 c1 (n1 + (c1 - n1)) (pat 1 (n1 + (c1 - n1)))) [.ro true .u8 (pat 0 10), .ro true .u8 (pat 1 (n1 + 10))] 1) (Tr.cut (apC_ok _ _) 60 _ 3 (by omega) (c0_z ex wh n1 c1 (n1 + (c1 - n1)) (pat 1 (n1 + (c1 - n1))) (0) (0) (pat 0 10) (pat 1 (n1 + 10))) rfl) ⟨rfl, rfl⟩)
  rw [hC2]
  refine Tr.block_pass ?_ (by simp)
  have ea := c0_a ex wh n1 c1 (n1 + (c1 - n1)) (pat 1 (n1 + (c1 - n1))) (0) (0) (pat 0 10) (pat 1 (n1 + 10))
  rw [pat_len] at ea
  refine Tr.of_atoms (TrL.items (apC_ok _ _) 60 2 _ 3 (by omega) ea rfl (by decide) ?_)
  exact TrL.item 2 (by decide) (Tr.post loop (Ent.cut (n := 3) (live := [0, 68, 69, 70]) (by omega) (by kernel_rfl))) ⟨rfl, rfl⟩
theorem C1 : Tr Try.prog none 2 acW (CS ex wh (H n1 c1 (n1 + (c1 - n1)) (pat 1 (n1 + (c1 - n1)))) [.ro true .u8 (pat 0 10), .ro true .u8 (pat 1 (n1 + 10))] 1) .normal (CS ex wh (H n1 c1 (n1 + (c1 - n1)) (pat 1 (n1 + (c1 - n1)))) [.ro true .u8 (pat 0 10), .ro true .u8 (pat 1 (n1 + 10))] 2) := by
  have loop : Tr Try.prog none 2 (nthC 2 acX) (CT ex wh (H n1 c1 (n1 + (c1 - n1)) (pat 1 (n1 + (c1 - n1)))) [.ro true .u8 (pat 0 10), .ro true .u8 (pat 1 (n1 + 10))] 1 (.ro true .u8 (pat 1 (n1 + 10))) (((n1 + 10) : Nat) : Int) 0) .normal (CT ex wh (H n1 c1 (n1 + (c1 - n1)) (pat 1 (n1 + (c1 - n1)))) [.ro true .u8 (pat 0 10), .ro true .u8 (pat 1 (n1 + 10))] 1 (.ro true .u8 (pat 1 (n1 + 10))) (((n1 + 10) : Nat) : Int) (((n1 + 10) : Nat) : Int)) := by
    have key := Tr.loop (P := Try.prog) (ro := none) (k := 2) 10 (c := nthC 2 acX) (by kernel_rfl) (fun j : Nat => CT ex wh (H n1 c1 (n1 + (c1 - n1)) (pat 1 (n1 + (c1 - n1)))) [.ro true .u8 (pat 0 10), .ro true .u8 (pat 1 (n1 + 10))] 1 (.ro true .u8 (pat 1 (n1 + 10))) (((n1 + 10) : Nat) : Int) j) (n1 + 10) (s' := CT ex wh (H n1 c1 (n1 + (c1 - n1)) (pat 1 (n1 + (c1 - n1)))) [.ro true .u8 (pat 0 10), .ro true .u8 (pat 1 (n1 + 10))] 1 (.ro true .u8 (pat 1 (n1 + 10))) (((n1 + 10) : Nat) : Int) (((n1 + 10) : Nat) : Int)) (fun j hj => ?_) ?_
    · exact key
    · show Tr _ _ _ acY _ _ _
      by_cases h1 : j < n1
      · have e := c1_s ex wh n1 c1 (n1 + (c1 - n1)) (pat 1 (n1 + (c1 - n1))) (j) ((((n1 + 10) : Nat) : Int)) (pat 0 10) (pat 1 (n1 + 10))
        rw [Int.toNat_natCast, Nat.zero_add, pat_get 1 (show j < n1 + 10 by omega), pat_get 1 (show j < n1 + (c1 - n1) by omega), bne_self', decide_eq_true (show ((j : Int) < ((n1 + 10 : Nat) : Int)) by omega), pat_len, roO_true (ob := andT true true) rfl hj, decide_eq_true (show ((j : Int) < (n1 : Int)) by omega), rdO_true (ob := andT (andT true (!false)) true) rfl h1 (by omega), roO_true (ob := true) rfl hj, J_eq (by omega) (by omega)] at e
        exact Tr.post (Tr.cut (apC_ok _ _) 60 _ 3 (by omega) e rfl) (Ent.same rfl rfl)
      · have e := c1_t ex wh n1 c1 (n1 + (c1 - n1)) (pat 1 (n1 + (c1 - n1))) (j) ((((n1 + 10) : Nat) : Int)) (pat 0 10) (pat 1 (n1 + 10))
        rw [Int.toNat_natCast, pat_get 1 (show j < n1 + 10 by omega), bne_self', decide_eq_true (show ((j : Int) < ((n1 + 10 : Nat) : Int)) by omega), pat_len, roO_true (ob := andT true true) rfl hj, decide_eq_false (show ¬ ((j : Int) < (n1 : Int)) by omega), J_eq (by omega) (by omega)] at e
        exact Tr.post (Tr.cut (apC_ok _ _) 60 _ 3 (by omega) e rfl) (Ent.same rfl rfl)
    · show Tr _ _ _ acY _ _ _
      have e := c1_e ex wh n1 c1 (n1 + (c1 - n1)) (pat 1 (n1 + (c1 - n1))) ((((n1 + 10) : Nat) : Int)) ((((n1 + 10) : Nat) : Int)) (pat 0 10) (pat 1 (n1 + 10))
      rw [decide_eq_false (show ¬ ((((n1 + 10) : Nat) : Int) < (((n1 + 10) : Nat) : Int)) by omega)] at e
      exact Tr.cut (apC_ok _ _) 60 _ 3 (by omega) e rfl
  refine Tr.of_atoms (TrL.items (apC_ok _ _) 60 2 _ 3 (by omega) (c1_in ex wh n1 c1 (n1 + (c1 - n1)) (pat 1 (n1 + (c1 - n1))) (0) (0) (pat 0 10) (pat 1 (n1 + 10))) rfl (by decide) ?_)
  refine TrL.item 2 (by decide) (s1 := CS ex wh (H n1 c1 (n1 + (c1 - n1)) (pat 1 (n1 + (c1 - n1)))) [.ro true .u8 (pat 0 10), .ro true .u8 (pat 1 (n1 + 10))] 1) ?_ (TrL.item 3 (by decide) (s1 := CS ex wh (H n1 c1 (n1 + (c1 - n1)) (pat 1 (n1 + (c1 - n1)))) [.ro true .u8 (pat 0 10), .ro true .u8 (pat 1 (n1 + 10))] 2) (Tr.cut (apC_ok _ _) 60 _ 3 (by omega) (c1_z ex wh n1 c1 (n1 + (c1 - n1)) (pat 1 (n1 + (c1 - n1))) (0) (0) (pat 0 10) (pat 1 (n1 + 10))) rfl) ⟨rfl, rfl⟩)
  rw [hC2]
  refine Tr.block_pass ?_ (by simp)
  have ea := c1_a ex wh n1 c1 (n1 + (c1 - n1)) (pat 1 (n1 + (c1 - n1))) (0) (0) (pat 0 10) (pat 1 (n1 + 10))
  rw [pat_len] at ea
  refine Tr.of_atoms (TrL.items (apC_ok _ _) 60 2 _ 3 (by omega) ea rfl (by decide) ?_)
  exact TrL.item 2 (by decide) (Tr.post loop (Ent.cut (n := 3) (live := [0, 68, 69, 70]) (by omega) (by kernel_rfl))) ⟨rfl, rfl⟩
theorem apart_fn : FnTr Try.prog 33 [.sl 0 0 0 1 2 2 ex wh] (H n1 c1 (n1) (l1)) (.bool true) (H n1 c1 (n1 + (c1 - n1)) (pat 1 (n1 + (c1 - n1)))) := by
  refine FnTr.restM (apC_ok f0 g0) 60 8 2 Try.func33 (by simp [H]) rfl (fun s' x h => ?_) (s := CS ex wh (H n1 c1 (n1 + (c1 - n1)) (pat 1 (n1 + (c1 - n1)))) [.ro true .u8 (pat 0 10), .ro true .u8 (pat 1 (n1 + 10))] 2) (p := true) (by kernel_rfl) rfl rfl rfl
  refine TrL.items (apC_ok _ _) 60 2 _ 2 (by show 2 ≤ 2; omega) (w_init ex wh n1 c1 (n1) (l1) (0) (0)) rfl (by decide) ?_
  refine TrL.item 2 (by decide) (Tr.loopR 0 (by kernel_rfl) (TrR.step (W0 ex wh e1 b1 a1 i1) (TrR.step (W1 ex wh e1 b1 a1 i1) (TrR.leave (Tr.cut (k := 2) (apC_ok _ _) 60 _ 2 (by omega) (w_e ex wh n1 c1 (n1) (pat 1 n1) (0) (0)) rfl) (by simp))))) ?_
  refine TrL.items (apC_ok _ _) 60 2 _ 3 (by show 2 ≤ 3; omega) (g_init ex wh n1 c1 (n1) (pat 1 n1) (0) (0)) rfl (by decide) ?_
  rw [List.drop_drop]
  refine TrL.item 5 (by decide) (Tr.loopR 4 (by kernel_rfl) (TrR.step (G0 ex wh e1 b1 a1 i1) (TrR.step (G1 ex wh e1 b1 a1 i1) (TrR.leave (Tr.cut (k := 2) (apC_ok _ _) 60 _ 3 (by omega) (g_e ex wh n1 c1 (n1 + (c1 - n1)) (pat 1 (n1 + (c1 - n1))) (0) (0) (pat 0 10) (pat 1 (n1 + 10))) rfl) (by simp))))) ?_
  refine TrL.items (apC_ok _ _) 60 1 _ 3 (by show 2 ≤ 3; omega) (c_init ex wh n1 c1 (n1 + (c1 - n1)) (pat 1 (n1 + (c1 - n1))) (0) (0) (pat 0 10) (pat 1 (n1 + 10))) rfl (by decide) ?_
  rw [List.drop_drop]
  exact TrL.item 7 (by decide) (Tr.loopR 8 (by kernel_rfl) (TrR.step (C0 ex wh e1 b1 a1 i1) (TrR.step (C1 ex wh e1 b1 a1 i1) (TrR.leave (Tr.cut (k := 2) (apC_ok _ _) 60 _ 3 (by omega) (c_e ex wh n1 c1 (n1 + (c1 - n1)) (pat 1 (n1 + (c1 - n1))) (0) (0) (pat 0 10) (pat 1 (n1 + 10))) rfl) (by simp))))) h
end
end Go.Proofs.Ytkoohnpknhoahaa.Bn.Anm
