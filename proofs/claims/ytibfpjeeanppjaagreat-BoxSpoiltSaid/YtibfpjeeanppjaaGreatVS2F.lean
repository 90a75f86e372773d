/- This file holds the texts S2D, S2E, S2F, a section each. No conditions beyond those in the theorems. -/
import Derived.Test.YtibfpjeeanppjaaGreatVS2C
import Derived.Test.YtibfpjeeanppjaaGreatVShK
import Derived.Test.YtibfpjeeanppjaaGreatVR3C
set_option linter.all false
set_option maxRecDepth 100000
section
namespace Go.Proofs.YtibfpjeeanppjaaGreat.Q2
open Go Go.Sy Sh
abbrev V (n : Int) : Int := IntKind.u32.wrap n
def rotQ (x n : Int) : Int := V (shrI .u32 x n.toNat + shlI .u32 x (Sh.W (32 - n)).toNat)
def rotQF : List SV → Option (SV × List Blk × Bool)
  | [.int .u32 x, .int .u64 n] => some (.int .u32 (rotQ x n), [], decide (0 ≤ n))
  | _ => none
noncomputable def rotQE : Entry Tryz.prog := .val 123 _ Tryz.func123 (by decide) rfl false 0 rotQF fun vs v new e => by
  unfold rotQF at e
  split at e
  · rename_i x n
    simp only [Option.some.injEq, Prod.mk.injEq, decide_eq_true_eq] at e
    obtain ⟨rfl, rfl, h⟩ := e
    exact call0 ctr0 60 Tryz.func123 (p := andT (andT true (decide (0 ≤ n))) (W0 (32 - n))) (by kernel_rfl) (by rw [W0_true, decide_eq_true h]; rfl) rfl
  · cases e
noncomputable def sqC : Ctr := mk (P := Tryz.prog) [longsRE] []
theorem sqC_ok : CtrSound Tryz.prog sqC := mk_sound _ InlOK.nil _ _
theorem shortsR_fn : FnTr Tryz.prog 121 [] [] (.ro true .u32 S2.k32) [] :=
  FnTr.frozen (N := 64) (ex := false) (wh := true) (FnTr.sel [1] (callM sqC_ok 200 Tryz.func121 2 (by simp) (v := .sl 1 0 0 1 64 64 false true) (h1 := [.b [.ints .u32 1 [1116352408]], .b [.ints .u32 64 S2.k32]]) (p := true) (by kernel_rfl) rfl rfl rfl) (by kernel_rfl)) (by kernel_rfl)
noncomputable def shortsRF : List SV → Option (SV × List Blk × Bool)
  | [] => some (.ro true .u32 S2.k32, [], true)
  | _ => none
noncomputable def shortsRE : Entry Tryz.prog := .val 121 _ Tryz.func121 (by decide) rfl false 0 shortsRF fun vs v new e => by
  unfold shortsRF at e
  split at e
  · cases e; exact shortsR_fn
  · cases e
noncomputable def rB : Code := bodyOf Tryz.f78
noncomputable def rO : Code := inner (inner (nthC 8 rB))
noncomputable def r3 : Code := inner (nthC 2 rO)
noncomputable def rC (a b c d : Bool) : Ctr := mk (P := Tryz.prog) [shortsRE, beginRE, rotQE, padRE] [] fun i => if i = 42 then some a else if i = 46 then some b else if i = 86 then some c else if i = 133 then some d else if i = 130 then some true else if i = 84 then some true else none
theorem rC_ok (a b c d : Bool) : CtrSound Tryz.prog (rC a b c d) := mk_sound _ InlOK.nil _ _
def chQ (e f g : Int) : Int := xorI .u32 (andI .u32 e f) (andI .u32 (V (4294967295 - e)) g)
def tnQ (x a b c : Int) : Int := xorI .u32 (xorI .u32 (rotQ x a) (rotQ x b)) (rotQ x c)
def t1Q (s : List Int) (k w : Int) : Int := V (V (V (V (s.getD 7 0 + tnQ (s.getD 4 0) 6 11 25) + chQ (s.getD 4 0) (s.getD 5 0) (s.getD 6 0)) + k) + w)
def t2Q (s : List Int) : Int := V (tnQ (s.getD 0 0) 2 13 22 + S2.mjW (s.getD 0 0) (s.getD 1 0) (s.getD 2 0))
def rndQ (s : List Int) (k w : Int) : List Int := [V (t1Q s k w + t2Q s), s.getD 0 0, s.getD 1 0, s.getD 2 0, V (s.getD 3 0 + t1Q s k w), s.getD 4 0, s.getD 5 0, s.getD 6 0]
def nxQ (y x a b : Int) : Int := V (V (V (xorI .u32 (xorI .u32 (rotQ y 17) (rotQ y 19)) (shrI .u32 y 10) + a) + xorI .u32 (xorI .u32 (rotQ x 7) (rotQ x 18)) (shrI .u32 x 3)) + b)
def ix (a i : Int) : Int := IntKind.i64.wrap (a + IntKind.i64.wrap (4 * i))
def wq (p : List Int) (q : Int) : Int := V (V (V (V (V (p.getD q.toNat 0) * 16777216) + V (V (p.getD (IntKind.i64.wrap (q + 1)).toNat 0) * 65536)) + V (V (p.getD (IntKind.i64.wrap (q + 2)).toNat 0) * 256)) + V (p.getD (IntKind.i64.wrap (q + 3)).toNat 0))
def nxJ (w : List Int) (i : Int) : Int := nxQ (w.getD (0 + (IntKind.i64.wrap (i - 2)).toNat) 0) (w.getD (0 + (IntKind.i64.wrap (i - 15)).toNat) 0) (w.getD (0 + (IntKind.i64.wrap (i - 7)).toNat) 0) (w.getD (0 + (IntKind.i64.wrap (i - 16)).toNat) 0)
def nxP (i : Int) (n _l : Nat) : Bool := andT (andT (andT (andT (andT (andT (andT (andT (andT (andT true (decide (i < 64))) (inB (IntKind.i64.wrap (i - 15)) n)) (decide (0 + (IntKind.i64.wrap (i - 15)).toNat < n))) (inB (IntKind.i64.wrap (i - 2)) n)) (decide (0 + (IntKind.i64.wrap (i - 2)).toNat < n)))
  (inB (IntKind.i64.wrap (i - 7)) n)) (decide (0 + (IntKind.i64.wrap (i - 7)).toNat < n))) (inB (IntKind.i64.wrap (i - 16)) n)) (decide (0 + (IntKind.i64.wrap (i - 16)).toNat < n))) (apO _l n)
noncomputable def sO (p kk h : List Int) (i : Int) : St := ⟨slotsOf 252 [(2, .ptr 0 0 0), (4, .ptr 1 0 0), (6, .ro true .u32 kk), (7, .ro true .u8 p), (8, .int .i64 i)], [.b [.ints .u8 32 S2.z32], .b [.ints .u32 8 (lst 8 h)]], true⟩
noncomputable def sN (p kk h : List Int) (a : Int) : St := ⟨slotsOf 252 [(2, .ptr 0 0 0), (4, .ptr 1 0 0), (6, .ro true .u32 kk), (7, .ro true .u8 p), (8, .int .i64 a), (9, .nl (.slice none 0 0)), (10, .int .i64 0)], [.b [.ints .u8 32 S2.z32], .b [.ints .u32 8 (lst 8 h)]], true⟩
noncomputable def sA (p kk h : List Int) (a : Int) (n : Nat) (w : List Int) (i : Int) : St := ⟨slotsOf 252 [(2, .ptr 0 0 0), (4, .ptr 1 0 0), (6, .ro true .u32 kk), (7, .ro true .u8 p), (8, .int .i64 a), (9, .sl 2 0 0 1 n n false true), (10, .int .i64 i)], [.b [.ints .u8 32 S2.z32], .b [.ints .u32 8 (lst 8 h)], .b [.ints .u32 n w]], true⟩
noncomputable def sB (p kk h : List Int) (a : Int) (n : Nat) (w : List Int) (i : Int) : St := ⟨slotsOf 252 [(2, .ptr 0 0 0), (4, .ptr 1 0 0), (6, .ro true .u32 kk), (7, .ro true .u8 p), (8, .int .i64 a), (9, .sl 2 0 0 1 n n false true), (12, .int .i64 i)], [.b [.ints .u8 32 S2.z32], .b [.ints .u32 8 (lst 8 h)], .b [.ints .u32 n w]], true⟩
noncomputable def sC (p kk h : List Int) (a : Int) (n : Nat) (w s : List Int) (i : Int) : St := ⟨slotsOf 252 [(2, .ptr 0 0 0), (4, .ptr 1 0 0), (6, .ro true .u32 kk), (7, .ro true .u8 p), (8, .int .i64 a), (9, .sl 2 0 0 1 n n false true), (15, .ptr 3 0 0), (16, .int .i64 i)], [.b [.ints .u8 32 S2.z32], .b [.ints .u32 8 (lst 8 h)], .b [.ints .u32 n w], .b [.ints .u32 8 (lst 8 s)]], true⟩
noncomputable def sD (p kk h : List Int) (a : Int) (n : Nat) (w s : List Int) : St := ⟨slotsOf 252 [(2, .ptr 0 0 0), (4, .ptr 1 0 0), (6, .ro true .u32 kk), (7, .ro true .u8 p), (8, .int .i64 a), (15, .ptr 3 0 0), (20, .int .i64 0)], [.b [.ints .u8 32 S2.z32], .b [.ints .u32 8 (lst 8 h)], .b [.ints .u32 n w], .b [.ints .u32 8 (lst 8 s)]], true⟩
def oq (p : List Int) (q i : Int) : Bool := andT (andT (andT (andT (andT (andT (andT (andT (andT true (decide (i < 16))) (inB q p.length)) (decide (q.toNat < p.length))) (inB (IntKind.i64.wrap (q + 1)) p.length)) (decide ((IntKind.i64.wrap (q + 1)).toNat < p.length)))
  (inB (IntKind.i64.wrap (q + 2)) p.length)) (decide ((IntKind.i64.wrap (q + 2)).toNat < p.length))) (inB (IntKind.i64.wrap (q + 3)) p.length)) (decide ((IntKind.i64.wrap (q + 3)).toNat < p.length))
section
variable (p kk h w s : List Int) (n : Nat) (a i : Int)
theorem ro_test : (execL Tryz.prog (rC true true true true) 60 0 2 (atoms rO) (sO p kk h a)).bind (St.cut [2, 4, 6, 7, 8] 2) = some { sO p kk h a with ob := andT true (decide (a < p.length)) } := by kernel_rfl
theorem ro_next : (exec Tryz.prog (rC true true true true) 60 0 (nthC 3 rO) (sO p kk h a)).bind (fun r => (r.2.cut [2, 4, 6, 7, 8] 2).map fun q => (r.1, q)) = some (.normal, sO p kk h (IntKind.i64.wrap (a + 64))) := by kernel_rfl
theorem ro_end : (exec Tryz.prog (rC false true true true) 60 0 rO (sO p kk h a)).bind (fun r => (r.2.cut [2, 4, 6, 7, 8] 2).map fun q => (r.1, q)) = some (.exit 2, { sO p kk h a with ob := andT true (!decide (a < p.length)) }) := by kernel_rfl
theorem r3_head : (execL Tryz.prog (rC true true true true) 60 0 2 (atoms r3) (sO p kk h a)).bind (St.cut [2, 4, 6, 7, 8, 9, 10] 2) = some (sN p kk h a) := by kernel_rfl
theorem r4_one : (exec Tryz.prog (rC true true true true) 60 0 (inner (inner (nthC 2 r3))) (sA p kk h a n w i)).bind (fun r => (r.2.cut [2, 4, 6, 7, 8, 9, 10] 3).map fun q => (r.1, q)) =
    some (.normal, { sA p kk h a (n + 1) (w ++ [wq p (ix a i)]) (IntKind.i64.wrap (i + 1)) with ob := andT (oq p (ix a i) i) (apO w.length n) }) := by kernel_rfl
theorem r4_end : (exec Tryz.prog (rC true false true true) 60 0 (inner (inner (nthC 2 r3))) (sA p kk h a n w i)).bind (fun r => (r.2.cut [2, 4, 6, 7, 8, 9, 10] 3).map fun q => (r.1, q)) =
    some (.exit 4, { sA p kk h a n w i with ob := andT true (!decide (i < 16)) }) := by kernel_rfl
theorem r8_head : (execL Tryz.prog (rC true true true true) 60 0 1 ((atoms r3).drop 3) (sA p kk h a n w i)).bind (St.cut [2, 4, 6, 7, 8, 9, 12] 3) = some (sB p kk h a n w 16) := by kernel_rfl
theorem r8_one : (exec Tryz.prog (rC true true true true) 60 0 (inner (inner (nthC 4 r3))) (sB p kk h a n w i)).bind (fun r => (r.2.cut [2, 4, 6, 7, 8, 9, 12] 3).map fun q => (r.1, q)) =
    some (.normal, { sB p kk h a (n + 1) (w ++ [nxJ w i]) (IntKind.i64.wrap (i + 1)) with ob := nxP i n w.length }) := by kernel_rfl
theorem r8_end : (exec Tryz.prog (rC true true false true) 60 0 (inner (inner (nthC 4 r3))) (sB p kk h a n w i)).bind (fun r => (r.2.cut [2, 4, 6, 7, 8, 9, 12] 3).map fun q => (r.1, q)) =
    some (.exit 6, { sB p kk h a n w i with ob := andT true (!decide (i < 64)) }) := by kernel_rfl
theorem r10_head : (execL Tryz.prog (rC true true true true) 60 0 2 ((atoms r3).drop 5) (sB p kk h a n w i)).bind (St.cut [2, 4, 6, 7, 8, 9, 15, 16] 4) = some (sC p kk h a n w h 0) := by kernel_rfl
theorem r10_one : (exec Tryz.prog (rC true true true true) 60 0 (inner (inner (nthC 7 r3))) (sC p kk h a n w s i)).bind (fun r => (r.2.cut [2, 4, 6, 7, 8, 9, 15, 16] 4).map fun q => (r.1, q)) =
    some (.normal, { sC p kk h a n w (rndQ (lst 8 s) (kk.getD i.toNat 0) (w.getD (0 + i.toNat) 0)) (IntKind.i64.wrap (i + 1)) with ob := andT (andT (andT (andT (andT true (decide (i < 64))) (inB i kk.length)) (decide (i.toNat < kk.length))) (inB i n)) (decide (0 + i.toNat < n)) }) := by kernel_rfl
theorem r10_end : (exec Tryz.prog (rC true true true false) 60 0 (inner (inner (nthC 7 r3))) (sC p kk h a n w s i)).bind (fun r => (r.2.cut [2, 4, 6, 7, 8, 9, 15, 16] 4).map fun q => (r.1, q)) =
    some (.exit 8, { sC p kk h a n w s i with ob := andT true (!decide (i < 64)) }) := by kernel_rfl
theorem r14_head : (execL Tryz.prog (rC true true true true) 60 0 1 ((atoms r3).drop 8) (sC p kk h a n w s i)).bind (St.cut [2, 4, 6, 7, 8, 15, 20] 4) = some (sD p kk h a n w s) := by kernel_rfl
theorem r14_all : (exec Tryz.prog (rC true true true true) 60 0 (nthC 9 r3) (sD p kk h a n w s)).bind (fun r => (r.2.cut [2, 4, 6, 7, 8] 2).map fun q => (r.1, q)) = some (.normal, sO p kk (S2.sumW (lst 8 h) (lst 8 s)) a) := by kernel_rfl
end
end Go.Proofs.YtibfpjeeanppjaaGreat.Q2
end
section
namespace Go.Proofs.YtibfpjeeanppjaaGreat.Q2
open Go Go.Sy Sh
def wA (p : List Int) (a : Int) : Nat → List Int
  | 0 => []
  | j + 1 => wA p a j ++ [wq p (ix a j)]
def wG (w : List Int) : Nat → List Int
  | 0 => w
  | j + 1 => wG w j ++ [nxJ (wG w j) (16 + j)]
def rnQ (s k w : List Int) : Nat → List Int
  | 0 => s
  | j + 1 => rndQ (lst 8 (rnQ s k w j)) (k.getD j 0) (w.getD j 0)
def pieceQ (p kk h : List Int) (a : Int) : List Int := S2.sumW (lst 8 h) (lst 8 (rnQ h kk (wG (wA p a 16) 48) 64))
def hN (p kk h : List Int) : Nat → List Int
  | 0 => h
  | j + 1 => pieceQ p kk (hN p kk h j) (64 * j : Nat)
theorem wA_len (p : List Int) (a : Int) : ∀ j, (wA p a j).length = j
  | 0 => rfl
  | j + 1 => by rw [wA, List.length_append, wA_len p a j]; rfl
theorem wG_len (w : List Int) : ∀ j, (wG w j).length = w.length + j
  | 0 => rfl
  | j + 1 => by rw [wG, List.length_append, wG_len w j]; rfl
theorem ix_eq {a i : Nat} (ha : a < 10000000000000) (hi : i < 16) : ix a i = ((a + 4 * i : Nat) : Int) := by
  unfold ix
  rw [wrap_i64 (4 * (i : Int)) (by omega) (by omega), wrap_i64 _ (by omega) (by omega)]
  omega
theorem oq_true {p : List Int} {a i : Nat} (ha : a < 10000000000000) (hp : a + 64 ≤ p.length) (hi : i < 16) : oq p (ix a i) i = true := by
  rw [ix_eq ha hi]
  unfold oq
  rw [wrap_i64 _ (by omega) (by omega), wrap_i64 _ (by omega) (by omega), wrap_i64 _ (by omega) (by omega), inB_true (by omega) (by omega), inB_true (by omega) (by omega), inB_true (by omega) (by omega), inB_true (by omega) (by omega)]
  simp only [andT_iff, decide_eq_true_eq, true_and, and_true]
  omega
theorem nxP_true {j : Nat} (hj : j < 48) : nxP (16 + j) (16 + j) (16 + j) = true := by
  unfold nxP
  rw [wrap_i64 _ (by omega) (by omega), wrap_i64 _ (by omega) (by omega), wrap_i64 _ (by omega) (by omega), wrap_i64 _ (by omega) (by omega), apO_true (by omega)]
  simp only [andT_iff, decide_eq_true_eq, true_and, and_true]
  refine ⟨⟨⟨⟨⟨⟨⟨⟨?_, inB_true (by omega) (by omega)⟩, ?_⟩, inB_true (by omega) (by omega)⟩, ?_⟩, inB_true (by omega) (by omega)⟩, ?_⟩, inB_true (by omega) (by omega)⟩, ?_⟩ <;> omega
section
variable (p kk h : List Int) {a : Nat} (ha : a < 10000000000000) (hp : a + 64 ≤ p.length) (hk : kk.length = 64)
include ha hp in
theorem r_loop4 : Tr Tryz.prog none 0 (nthC 2 r3) (sA p kk h a 0 [] 0) .normal (sA p kk h a 16 (wA p a 16) 16) := by
  have key := Tr.loop (P := Tryz.prog) (ro := none) (k := 0) 4 (c := nthC 2 r3) (by kernel_rfl) (fun j : Nat => sA p kk h a j (wA p a j) j) 16 (s' := sA p kk h a 16 (wA p a 16) 16) (fun j hj => ?_) ?_
  · exact key
  · have k := r4_one p kk h (wA p a j) j a j
    rw [oq_true ha hp hj, wA_len, apO_true (by omega), wrap_i64 _ (by omega) (by omega)] at k
    refine Tr.post (Tr.cut (rC_ok true true true true) 60 _ 3 (by omega) k rfl) (Ent.same ?_ rfl)
    show (sA _ _ h _ _ [] _).t = (sA _ _ h _ _ [] _).t
    rw [show ((j : Int) + 1) = ((j + 1 : Nat) : Int) by omega]
  · exact Tr.post (Tr.cut (rC_ok true false true true) 60 _ 3 (by omega) (r4_end p kk h (wA p a 16) 16 a 16) rfl) (Ent.same rfl rfl)
theorem r_loop8 {w : List Int} (hw : w.length = 16) (a : Int) : Tr Tryz.prog none 0 (nthC 4 r3) (sB p kk h a 16 w 16) .normal (sB p kk h a 64 (wG w 48) 64) := by
  have key := Tr.loop (P := Tryz.prog) (ro := none) (k := 0) 6 (c := nthC 4 r3) (by kernel_rfl) (fun j : Nat => sB p kk h a (16 + j) (wG w j) (16 + j)) 48 (s' := sB p kk h a 64 (wG w 48) 64) (fun j hj => ?_) ?_
  · exact key
  · have k := r8_one p kk h (wG w j) (16 + j) a (16 + j)
    rw [wG_len, hw, nxP_true hj, wrap_i64 _ (by omega) (by omega)] at k
    refine Tr.post (Tr.cut (rC_ok true true true true) 60 _ 3 (by omega) k rfl) (Ent.same ?_ rfl)
    show (sB _ _ h _ _ [] _).t = (sB _ _ h _ _ [] _).t
    rw [show ((16 : Int) + (j : Int) + 1) = 16 + ((j + 1 : Nat) : Int) by omega, show 16 + j + 1 = 16 + (j + 1) by omega]
  · exact Tr.post (Tr.cut (rC_ok true true false true) 60 _ 3 (by omega) (r8_end p kk h (wG w 48) 64 a 64) rfl) (Ent.same rfl rfl)
include hk in
theorem r_loop10 (w : List Int) (a : Int) : Tr Tryz.prog none 0 (nthC 7 r3) (sC p kk h a 64 w h 0) .normal (sC p kk h a 64 w (rnQ h kk w 64) 64) := by
  have key := Tr.loop (P := Tryz.prog) (ro := none) (k := 0) 8 (c := nthC 7 r3) (by kernel_rfl) (fun j : Nat => sC p kk h a 64 w (rnQ h kk w j) j) 64 (s' := sC p kk h a 64 w (rnQ h kk w 64) 64) (fun j hj => ?_) ?_
  · exact key
  · have k := r10_one p kk h w (rnQ h kk w j) 64 a j
    rw [hk, wrap_i64 _ (by omega) (by omega), show 0 + (j : Int).toNat = j by omega, show (j : Int).toNat = j by omega] at k
    refine Tr.post (Tr.cut (rC_ok true true true true) 60 _ 4 (by omega) k ?_) (Ent.same ?_ rfl)
    · simp only [andT_iff, decide_eq_true_eq, true_and]
      exact ⟨⟨⟨⟨by omega, inB_true (by omega) (by omega)⟩, by omega⟩, inB_true (by omega) (by omega)⟩, by omega⟩
    · show (sC _ _ h _ _ [] [] _).t = (sC _ _ h _ _ [] [] _).t
      rw [show ((j : Int) + 1) = ((j + 1 : Nat) : Int) by omega]
  · exact Tr.post (Tr.cut (rC_ok true true true false) 60 _ 4 (by omega) (r10_end p kk h w (rnQ h kk w 64) 64 a 64) rfl) (Ent.same rfl rfl)
theorem r_nil (a : Int) : Ent 0 (sN p kk h a) (sA p kk h a 0 [] 0) :=
  (Ent.nothing (k := 0) (t := (sN p kk h a).t) (h := (sN p kk h a).h) (o := true) (o' := true) 9 .u32 false true (by kernel_rfl)).trans (Ent.same (by kernel_rfl) (by kernel_rfl))
include ha hp hk in
theorem r_body : Tr Tryz.prog none 0 r3 (sO p kk h a) .normal (sO p kk (pieceQ p kk h a) a) := by
  refine Tr.of_atoms ?_
  refine TrL.items (rC_ok true true true true) 60 2 _ 2 (by omega) (r3_head p kk h a) rfl (by decide) ?_
  refine TrL.pre (s1 := sA p kk h a 0 [] 0) ?_ (r_nil p kk h a) (by decide)
  refine TrL.item 2 (by decide) (r_loop4 p kk h ha hp) ?_
  refine TrL.items (rC_ok true true true true) 60 1 _ 3 (by omega) (r8_head p kk h (wA p a 16) 16 a 16) rfl (by decide) ?_
  refine TrL.item 4 (by decide) (r_loop8 p kk h (wA_len p a 16) a) ?_
  refine TrL.items (rC_ok true true true true) 60 2 _ 4 (by omega) (r10_head p kk h (wG (wA p a 16) 48) 64 a 64) rfl (by decide) ?_
  refine TrL.item 7 (by decide) (r_loop10 p kk h hk (wG (wA p a 16) 48) a) ?_
  refine TrL.items (rC_ok true true true true) 60 1 _ 4 (by omega) (r14_head p kk h (wG (wA p a 16) 48) (rnQ h kk (wG (wA p a 16) 48) 64) 64 a 64) rfl (by decide) ?_
  exact TrL.item 9 (by decide) (Tr.cut (rC_ok true true true true) 60 _ 2 (by omega) (r14_all p kk h (wG (wA p a 16) 48) (rnQ h kk (wG (wA p a 16) 48) 64) 64 a) rfl) ⟨rfl, rfl⟩
theorem r3_block : nthC 2 rO = .block 3 r3 := by kernel_rfl
include ha hp hk in
theorem r_round : Tr Tryz.prog none 0 rO (sO p kk h a) .normal (sO p kk (pieceQ p kk h a) (a + 64 : Nat)) := by
  refine Tr.of_atoms ?_
  refine TrL.items (rC_ok true true true true) 60 2 _ 2 (by omega) (ro_test p kk h a) ?_ (by decide) ?_
  · simp only [andT_iff, decide_eq_true_eq, true_and]; omega
  refine TrL.item 2 (by decide) (s1 := sO p kk (pieceQ p kk h a) a) ?_ ?_
  · rw [r3_block]
    exact Tr.block_pass (Tr.pre (r_body p kk h ha hp hk) (Ent.same rfl rfl)) (by simp)
  · have k := ro_next p kk (pieceQ p kk h a) a
    rw [wrap_i64 _ (by omega) (by omega)] at k
    refine TrL.item 3 (by decide) (Tr.post (Tr.cut (rC_ok true true true true) 60 _ 2 (by omega) k rfl) (Ent.same ?_ rfl)) ⟨rfl, rfl⟩
    show (sO _ _ h _).t = (sO _ _ h _).t
    rw [show ((a : Int) + 64) = ((a + 64 : Nat) : Int) by omega]
end
theorem r_loop {p kk : List Int} (h : List Int) {N : Nat} (hp : p.length = 64 * N) (hk : kk.length = 64) (hb : N < 10000000000) : Tr Tryz.prog none 0 (nthC 8 rB) (sO p kk h 0) .normal (sO p kk (hN p kk h N) (64 * N : Nat)) := by
  have key := Tr.loop (P := Tryz.prog) (ro := none) (k := 0) 2 (c := nthC 8 rB) (by kernel_rfl) (fun j : Nat => sO p kk (hN p kk h j) (64 * j : Nat)) N (s' := sO p kk (hN p kk h N) (64 * N : Nat)) (fun j hj => ?_) ?_
  · exact key
  · exact r_round p kk (hN p kk h j) (a := 64 * j) (by omega) (by omega) hk
  · exact Tr.post (Tr.cut (rC_ok false true true true) 60 _ 2 (by omega) (ro_end p kk (hN p kk h N) (64 * N : Nat)) (by rw [hp]; simp [andT])) (Ent.same rfl rfl)
theorem padQ8_len (xs : List Int) : (padQ8 xs).length = 64 * ((padQ8 xs).length / 64) := by
  have h := (padK_mod (len := xs.length) (show 56 < 64 by omega)).1
  have hl : (padQ8 xs).length = xs.length + 1 + padK xs.length 64 56 + 8 := by unfold padQ8; rw [List.length_append, padL_len]; rfl
  rw [hl]; omega
noncomputable def shortQ (xs : List Int) : List Int := Lock (S2.outB (lst 8 (hN (padQ8 xs) S2.k32 S2.b32 ((padQ8 xs).length / 64))))
theorem k32_len : S2.k32.length = 64 := by kernel_rfl
theorem rl_head (xs : List Int) : (execL Tryz.prog (rC true true true true) 60 0 8 (atoms rB) ⟨slots0 Tryz.f78.ntmps [.ro false .u8 xs], [], true⟩).bind (St.cut [2, 4, 6, 7, 8] 2) =
    some { sO (padQ8 xs) S2.k32 S2.b32 0 with ob := andT true (andT true (decide (xs.length < 274877900000))) } := by kernel_rfl
theorem shortDR_fn {xs : List Int} (h1 : xs.length < 274877900000) : FnTr Tryz.prog 78 [.ro false .u8 xs] [] (.agg [.ints .u8 32 (shortQ xs)]) [] := by
  have hp := padQ8_len xs
  generalize hn : (padQ8 xs).length / 64 = N at hp
  have hb : N < 10000000000 := by
    have hK : padK xs.length 64 56 < 64 := Nat.mod_lt _ (by omega)
    have hl : (padQ8 xs).length = xs.length + 1 + padK xs.length 64 56 + 8 := by unfold padQ8; rw [List.length_append, padL_len]; rfl
    omega
  rw [shortQ, Lock_eq, hn]
  refine FnTr.restM (rC_ok true true true true) 400 9 0 Tryz.func78 (by simp) rfl (fun s' x h => ?_) (s := sO (padQ8 xs) S2.k32 (hN (padQ8 xs) S2.k32 S2.b32 N) (64 * N : Nat)) (p := true) (by kernel_rfl) rfl rfl rfl
  refine TrL.items (rC_ok true true true true) 60 8 _ 2 (by simp) (rl_head xs) (by rw [decide_eq_true h1]; rfl) (by decide) ?_
  exact TrL.item 8 (by decide) (Tr.pre (r_loop S2.b32 hp k32_len hb) (Ent.same rfl rfl)) h
noncomputable def shortDRF : List SV → Option (SV × List Blk × Bool)
  | [.ro false .u8 xs] => some (.agg [.ints .u8 32 (shortQ xs)], [], decide (xs.length < 274877900000))
  | _ => none
noncomputable def shortDRE : Entry Tryz.prog := .val 78 _ Tryz.func78 (by decide) rfl true 0 shortDRF fun vs v new e => by
  unfold shortDRF at e
  split at e
  · simp only [Option.some.injEq, Prod.mk.injEq, decide_eq_true_eq] at e
    obtain ⟨rfl, rfl, h1⟩ := e
    exact shortDR_fn h1
  · cases e
end Go.Proofs.YtibfpjeeanppjaaGreat.Q2
end
section
namespace Go.Proofs.YtibfpjeeanppjaaGreat.Q2
open Go Go.Sy Sh
open R3 (In32 V_in V_eq or32 shl32 shr32 turn32 or_comm32)
def InL (l : List Int) : Prop := ∀ x ∈ l, In32 x
theorem InL.getD {l : List Int} (h : InL l) (i : Nat) : In32 (l.getD i 0) := by
  rw [List.getD_eq_getElem?_getD]
  cases e : l[i]? with
  | none => exact ⟨by decide, by decide⟩
  | some x => exact h x (List.mem_of_getElem? e)
theorem V_id {x : Int} (h : In32 x) : V x = x := by
  have : V x = x % 4294967296 := V_eq x
  rw [this]
  exact Int.emod_eq_of_lt h.1 h.2
theorem W64_id {x : Int} (h : 0 ≤ x ∧ x < 18446744073709551616) : Sh.W x = x := by
  unfold Sh.W
  rw [wrap_u64]
  exact Int.emod_eq_of_lt h.1 h.2
theorem rotN_eq {x : Int} (hx : In32 x) (a b : Int) (n m : Nat) (h : n + m = 32) (e1 : (andI .u64 (Sh.W a) 31).toNat = m) (e2 : (Sh.W (32 - andI .u64 (Sh.W a) 31)).toNat = n)
    (e3 : b.toNat = n) (e4 : (Sh.W (32 - b)).toNat = m) : S2.rotN x a = rotQ x b := by
  unfold S2.rotN rotQ
  rw [e1, e2, e3, e4]
  refine (turn32 hx n m h).trans ?_
  rw [Int.add_comm]
theorem rotP_eq {x : Int} (hx : In32 x) (a : Int) (n m : Nat) (h : n + m = 32) (e1 : (andI .u64 (Sh.W (IntKind.i64.wrap (0 - a))) 31).toNat = m) (e2 : (Sh.W (32 - andI .u64 (Sh.W (IntKind.i64.wrap (0 - a))) 31)).toNat = n)
    (e3 : a.toNat = n) (e4 : (Sh.W (32 - a)).toNat = m) : S2.rotP x a = rotQ x a := rotN_eq hx _ a n m h e1 e2 e3 e4
theorem tn_one {x : Int} (hx : In32 x) : S2.tnP x 6 11 25 = tnQ x 6 11 25 := by
  unfold S2.tnP tnQ
  rw [rotP_eq hx 6 6 26 rfl (by decide) (by decide) rfl (by decide), rotP_eq hx 11 11 21 rfl (by decide) (by decide) rfl (by decide), rotP_eq hx 25 25 7 rfl (by decide) (by decide) rfl (by decide)]
theorem tn_two {x : Int} (hx : In32 x) : S2.tnP x 2 13 22 = tnQ x 2 13 22 := by
  unfold S2.tnP tnQ
  rw [rotP_eq hx 2 2 30 rfl (by decide) (by decide) rfl (by decide), rotP_eq hx 13 13 19 rfl (by decide) (by decide) rfl (by decide), rotP_eq hx 22 22 10 rfl (by decide) (by decide) rfl (by decide)]
theorem nx_eq {x y : Int} (hx : In32 x) (hy : In32 y) (a b : Int) : S2.nxW y x a b = nxQ y x a b := by
  unfold S2.nxW nxQ
  rw [rotN_eq hy (-17) 17 17 15 rfl (by decide) (by decide) rfl (by decide), rotN_eq hy (-19) 19 19 13 rfl (by decide) (by decide) rfl (by decide), rotN_eq hx (-7) 7 7 25 rfl (by decide) (by decide) rfl (by decide), rotN_eq hx (-18) 18 18 14 rfl (by decide) (by decide) rfl (by decide)]
theorem not_eq {e : Int} (h : In32 e) : xorI .u32 IntKind.u32.max e = V (4294967295 - e) := by
  obtain ⟨n, rfl⟩ := Int.eq_ofNat_of_zero_le h.1
  have hn : n < 2 ^ 32 := by have := h.2; omega
  unfold xorI bitsI
  rw [show IntKind.u32.max = ((2 ^ 32 - 1 : Nat) : Int) by decide]
  have e1 : BitVec.ofInt 32 ((2 ^ 32 - 1 : Nat) : Int) = BitVec.allOnes 32 := by decide
  show IntKind.u32.wrap ((BitVec.ofInt 32 ((2 ^ 32 - 1 : Nat) : Int) ^^^ BitVec.ofInt 32 (n : Int)).toNat : Int) = _
  rw [e1, BitVec.allOnes_xor, BitVec.toNat_not, BitVec.ofInt_natCast, BitVec.toNat_ofNat, Nat.mod_eq_of_lt hn]
  unfold V
  congr 1
  omega
theorem ch_eq {e : Int} (h : In32 e) (f g : Int) : S2.chW e f g = chQ e f g := by unfold S2.chW chQ; rw [not_eq h]
theorem rnd_eq {s : List Int} (hs : InL s) (k w : Int) : S2.rndW s k w = rndQ s k w := by
  unfold S2.rndW rndQ S2.t1W S2.t2W t1Q t2Q
  rw [tn_one (hs.getD 4), tn_two (hs.getD 0), ch_eq (hs.getD 4)]
theorem rnd_in {s : List Int} (hs : InL s) (k w : Int) : InL (rndQ s k w) := by
  intro x hx
  simp only [rndQ, List.mem_cons, List.not_mem_nil, or_false] at hx
  rcases hx with rfl | rfl | rfl | rfl | rfl | rfl | rfl | rfl <;> first | exact V_in _ | exact hs.getD _
theorem rnds_eq {h : List Int} (hh : InL (lst 8 h)) (k w : List Int) : ∀ j, lst 8 (rnQ h k w j) = S2.rnds (lst 8 h) k w j ∧ InL (S2.rnds (lst 8 h) k w j)
  | 0 => ⟨rfl, hh⟩
  | j + 1 => by
    obtain ⟨h1, h2⟩ := rnds_eq hh k w j
    have e : lst 8 (rnQ h k w (j + 1)) = rndQ (lst 8 (rnQ h k w j)) (k.getD j 0) (w.getD j 0) := rfl
    rw [e, h1, S2.rnds, rnd_eq h2]
    exact ⟨rfl, rnd_in h2 _ _⟩
theorem nxJ_eq {w : List Int} {j : Nat} (hj : j < 48) : nxJ w (16 + j) = nxQ (w.getD (14 + j) 0) (w.getD (1 + j) 0) (w.getD (9 + j) 0) (w.getD j 0) := by
  unfold nxJ
  rw [wrap_i64 _ (by omega) (by omega), wrap_i64 _ (by omega) (by omega), wrap_i64 _ (by omega) (by omega), wrap_i64 _ (by omega) (by omega)]
  rw [show 0 + ((16 : Int) + j - 2).toNat = 14 + j by omega, show 0 + ((16 : Int) + j - 15).toNat = 1 + j by omega, show 0 + ((16 : Int) + j - 7).toNat = 9 + j by omega, show 0 + ((16 : Int) + j - 16).toNat = j by omega]
theorem getD_left {a b : List Int} {i : Nat} (h : i < a.length) : (a ++ b).getD i 0 = a.getD i 0 := by
  rw [List.getD_eq_getElem?_getD, List.getD_eq_getElem?_getD, List.getElem?_append_left h]
theorem sched_eq {w : List Int} (hw : w.length = 16) (hi : InL w) : ∀ j, j ≤ 48 → S2.sched (w ++ List.replicate 48 0) j = wG w j ++ List.replicate (48 - j) 0 ∧ InL (wG w j)
  | 0, _ => ⟨rfl, hi⟩
  | j + 1, hj => by
    obtain ⟨h1, h2⟩ := sched_eq hw hi j (by omega)
    have hl : (wG w j).length = 16 + j := by rw [wG_len, hw]
    refine ⟨?_, ?_⟩
    · rw [S2.sched, h1, getD_left (by omega), getD_left (by omega), getD_left (by omega), getD_left (by omega), nx_eq (h2.getD _) (h2.getD _), wG, nxJ_eq (by omega)]
      rw [List.set_append_right _ _ (by omega), hl, show 16 + j - (16 + j) = 0 by omega, show 48 - j = (48 - (j + 1)) + 1 by omega, List.replicate_succ, List.set_cons_zero, List.append_assoc]
      rfl
    · intro x hx
      rw [wG, List.mem_append, List.mem_singleton] at hx
      rcases hx with hx | rfl
      · exact h2 x hx
      · exact V_in _
def By (l : List Int) : Prop := ∀ x ∈ l, 0 ≤ x ∧ x < 256
theorem By.getD {l : List Int} (h : By l) (i : Nat) : 0 ≤ l.getD i 0 ∧ l.getD i 0 < 256 := by
  rw [List.getD_eq_getElem?_getD]
  cases e : l[i]? with
  | none => exact ⟨by decide, by decide⟩
  | some x => exact h x (List.mem_of_getElem? e)
theorem piece_getD (p : List Int) (a : Nat) {i : Nat} (hi : i < 64) : ((p.drop a).take 64).getD i 0 = p.getD (a + i) 0 := by
  rw [List.getD_eq_getElem?_getD, List.getD_eq_getElem?_getD, List.getElem?_take_of_lt hi, List.getElem?_drop]
theorem wq_eq {p : List Int} (hp : By p) {a i : Nat} (ha : a < 10000000000000) (hi : i < 16) : wq p (ix a i) = S2.wd ((p.drop a).take 64) i := by
  rw [ix_eq ha hi]
  unfold wq S2.wd
  rw [wrap_i64 _ (by omega) (by omega), wrap_i64 _ (by omega) (by omega), wrap_i64 _ (by omega) (by omega), piece_getD p a (by omega), piece_getD p a (by omega), piece_getD p a (by omega), piece_getD p a (by omega)]
  rw [show ((a + 4 * i : Nat) : Int).toNat = a + 4 * i by omega, show (((a + 4 * i : Nat) : Int) + 1).toNat = a + (4 * i + 1) by omega, show (((a + 4 * i : Nat) : Int) + 2).toNat = a + (4 * i + 2) by omega, show (((a + 4 * i : Nat) : Int) + 3).toNat = a + (4 * i + 3) by omega]
  have b0 := hp.getD (a + 4 * i)
  have b1 := hp.getD (a + (4 * i + 1))
  have b2 := hp.getD (a + (4 * i + 2))
  have b3 := hp.getD (a + (4 * i + 3))
  generalize p.getD (a + 4 * i) 0 = p0 at *
  generalize p.getD (a + (4 * i + 1)) 0 = p1 at *
  generalize p.getD (a + (4 * i + 2)) 0 = p2 at *
  generalize p.getD (a + (4 * i + 3)) 0 = p3 at *
  rw [shl32 _ _ (by decide), shl32 _ _ (by decide), shl32 _ _ (by decide)]
  simp only [S2.V, V, S2.wrap_u32]
  have e0 : p0 % 4294967296 * 2 ^ 24 % 4294967296 = 16777216 * p0 := by omega
  have e1 : p1 % 4294967296 * 2 ^ 16 % 4294967296 = 65536 * p1 := by omega
  have e2 : p2 % 4294967296 * 2 ^ 8 % 4294967296 = 256 * p2 := by omega
  have e3 : p3 % 4294967296 = p3 := by omega
  rw [e0, e1, e2, e3, or32 24 (16777216 * p0) (65536 * p1) (by omega) (by omega) (by omega) (by omega) (by omega) (by decide), or32 16 (16777216 * p0 + 65536 * p1) (256 * p2) (by omega) (by omega) (by omega) (by omega) (by omega) (by decide), or32 8 (16777216 * p0 + 65536 * p1 + 256 * p2) p3 (by omega) (by omega) (by omega) (by omega) (by omega) (by decide)]
  omega
theorem wq_in (p : List Int) (q : Int) : In32 (wq p q) := V_in _
theorem wA_eq {p : List Int} (hp : By p) {a : Nat} (ha : a < 10000000000000) : ∀ n, n ≤ 16 → wA p a n = (List.range n).map (S2.wd ((p.drop a).take 64))
  | 0, _ => rfl
  | n + 1, hn => by rw [wA, wA_eq hp ha n (by omega), List.range_succ, List.map_append, wq_eq hp ha (show n < 16 by omega)]; rfl
theorem wA_in (p : List Int) (a : Int) : ∀ n, InL (wA p a n)
  | 0 => fun x hx => absurd hx (by simp [wA])
  | n + 1 => by
    intro x hx
    rw [wA, List.mem_append, List.mem_singleton] at hx
    rcases hx with hx | rfl
    · exact wA_in p a n x hx
    · exact wq_in _ _
theorem lst_in {h : List Int} (hh : InL h) (n : Nat) : InL (lst n h) := by
  intro x hx
  simp only [lst, List.mem_map] at hx
  obtain ⟨i, _, rfl⟩ := hx
  exact hh.getD i
theorem piece_eq {p : List Int} (hp : By p) (kk : List Int) {h : List Int} (hl : h.length = 8) (hh : InL h) {a : Nat} (ha : a < 10000000000000) : S2.pieceW h ((p.drop a).take 64) kk = pieceQ p kk h a := by
  have e := wA_eq hp ha 16 (by omega)
  have e2 := (sched_eq (wA_len p a 16) (wA_in p a 16) 48 (by omega)).1
  rw [e] at e2
  have hq := (rnds_eq (lst_in hh 8) kk (wG (wA p a 16) 48) 64).1
  unfold S2.pieceW pieceQ
  rw [Lock_eq, hq, lst_eq hl]
  unfold S2.w16
  rw [e2, e, show 48 - 48 = 0 from rfl, List.replicate_zero, List.append_nil]
theorem sum_in (s t : List Int) : InL (S2.sumW s t) := by
  intro x hx
  simp only [S2.sumW, List.mem_map] at hx
  obtain ⟨i, _, rfl⟩ := hx
  exact V_in _
theorem sum_len (s t : List Int) : (S2.sumW s t).length = 8 := by simp [S2.sumW]
theorem stN_eq {p : List Int} (hp : By p) (kk : List Int) {h : List Int} (hl : h.length = 8) (hh : InL h) : ∀ j, j < 10000000000 → S2.stN p kk h j = hN p kk h j ∧ InL (hN p kk h j) ∧ (hN p kk h j).length = 8
  | 0, _ => ⟨rfl, hh, hl⟩
  | j + 1, hj => by
    obtain ⟨h1, h2, h3⟩ := stN_eq hp kk hl hh j (by omega)
    rw [S2.stN, hN, h1, piece_eq hp kk h3 h2 (show 64 * j < 10000000000000 by omega)]
    exact ⟨rfl, sum_in _ _, sum_len _ _⟩
theorem dQ_eq {n : Nat} (hn : n < 9223372036854775808) : ∀ i, dQ n i = ((n / 32 / 256 ^ i : Nat) : Int)
  | 0 => by
    rw [dQ, Int.tdiv_eq_ediv_of_nonneg (by omega), wrap_i64 _ (by omega) (by omega), Nat.pow_zero, Nat.div_one]
    omega
  | i + 1 => by
    have hle : n / 32 / 256 ^ i ≤ n / 32 := Nat.div_le_self _ _
    have e : n / 32 / 256 ^ (i + 1) = n / 32 / 256 ^ i / 256 := by rw [Nat.pow_succ, ← Nat.div_div_eq_div_mul]
    rw [dQ, dQ_eq hn i, e]
    generalize n / 32 / 256 ^ i = q at *
    rw [Int.tdiv_eq_ediv_of_nonneg (by omega), wrap_i64 _ (by omega) (by omega)]
    omega
theorem wrap_u8 (n : Int) : IntKind.u8.wrap n = n % 256 := by simp [IntKind.wrap, IntKind.signed, IntKind.bits]
theorem low_eq {n : Nat} (hn : n < 1000000000000000000) (i : Nat) : lowQ n i = ((8 * n / 256 ^ i % 256 : Nat) : Int) := by
  cases i with
  | zero =>
    rw [lowQ, Int.tmod_eq_emod_of_nonneg (by omega), wrap_i64 _ (by omega) (by omega), wrap_u8, Nat.pow_zero, Nat.div_one]
    omega
  | succ i =>
    have : 8 * n / 256 ^ (i + 1) = n / 32 / 256 ^ i := by
      rw [Nat.pow_succ, Nat.mul_comm (256 ^ i), ← Nat.div_div_eq_div_mul]
      congr 1
      omega
    rw [lowQ, dQ_eq (by omega), this]
    generalize n / 32 / 256 ^ i = q
    rw [Int.tmod_eq_emod_of_nonneg (by omega), wrap_u8]
    omega
theorem ln_eq {n : Nat} (hn : n < 1000000000000000000) (i : Nat) (hi : i < 8) : lnB n i = ((8 * n / 256 ^ i % 256 : Nat) : Int) := by
  unfold lnB
  rw [W64_id ⟨by omega, by omega⟩, Fe.shl64 _ _ (by decide), Fe.shr_eq _ _ _ (show 8 * i ≤ 64 by omega), wrap_u8]
  rw [Int.emod_eq_of_lt (a := (n : Int) * 2 ^ 3) (by omega) (by omega), show (n : Int) * 2 ^ 3 = ((8 * n : Nat) : Int) by omega, Int.pow_mul, show ((2 : Int) ^ 8) = ((256 : Nat) : Int) by decide]
  rw [← Int.natCast_pow, ← Int.natCast_ediv]
  generalize 8 * n / 256 ^ i = q
  omega
theorem len8_eq {n : Nat} (hn : n < 1000000000000000000) : len8 n = endQ n 8 := by
  have hl : ∀ i, i < 8 → lowQ n i = lnB n i := fun i hi => by rw [low_eq hn, ln_eq hn i hi]
  show _ = [lowQ n 7, lowQ n 6, lowQ n 5, lowQ n 4, lowQ n 3, lowQ n 2, lowQ n 1, lowQ n 0]
  rw [hl 7 (by decide), hl 6 (by decide), hl 5 (by decide), hl 4 (by decide), hl 3 (by decide), hl 2 (by decide), hl 1 (by decide), hl 0 (by decide)]
  rfl
theorem padL_by {xs : List Int} (h : By xs) (pc q : Nat) : By (padL xs pc q) := by
  intro x hx
  simp only [padL, List.mem_append, List.mem_singleton, List.mem_replicate] at hx
  rcases hx with (hx | rfl) | ⟨_, rfl⟩
  · exact h x hx
  · decide
  · decide
theorem pad_eq {xs : List Int} (h : xs.length < 1000000000000000000) : S2.padT xs = padQ8 xs := by unfold S2.padT S2.padE padQ8; rw [len8_eq h]
theorem pad_by {xs : List Int} (hn : xs.length < 1000000000000000000) (h : By xs) : By (padQ8 xs) := by
  intro x hx
  rw [padQ8, List.mem_append] at hx
  rcases hx with hx | hx
  · exact padL_by h _ _ x hx
  · simp only [endQ, List.mem_map] at hx
    obtain ⟨i, _, rfl⟩ := hx
    rw [low_eq hn]; omega
theorem b32_in : InL S2.b32 := by
  intro x hx
  simp only [S2.b32, List.mem_map] at hx
  obtain ⟨i, _, rfl⟩ := hx
  exact V_in _
theorem shortW_eq {xs : List Int} (h : By xs) (hn : xs.length < 274877900000) : S2.shortW xs = shortQ xs := by
  have hK : padK xs.length 64 56 < 64 := Nat.mod_lt _ (by omega)
  have hl : (padQ8 xs).length = xs.length + 1 + padK xs.length 64 56 + 8 := by unfold padQ8; rw [List.length_append, padL_len]; rfl
  obtain ⟨h1, _, h3⟩ := stN_eq (pad_by (by omega) h) S2.k32 S2.b32_len b32_in ((padQ8 xs).length / 64) (by omega)
  unfold S2.shortW shortQ
  rw [pad_eq (by omega), h1, Lock_eq, Lock_eq, lst_eq h3]
end Go.Proofs.YtibfpjeeanppjaaGreat.Q2
end
