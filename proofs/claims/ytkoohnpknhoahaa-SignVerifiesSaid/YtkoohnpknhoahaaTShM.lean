/- This file proves the contract of the reference's Long: the document's long digest. Conditions: lengths that memory bears. -/
import Derived.Test.YtkoohnpknhoahaaTShL
set_option linter.all false
namespace Go.Proofs.Ytkoohnpknhoahaa.Sh
open Go Go.Sy
def wA (p : List Int) (a : Int) : Nat → List Int
  | 0 => []
  | j + 1 => wA p a j ++ [wq p a j 8]
def wG (w : List Int) : Nat → List Int
  | 0 => w
  | j + 1 => wG w j ++ [nxJ (wG w j) (16 + j)]
def rnQ (s k w : List Int) : Nat → List Int
  | 0 => s
  | j + 1 => rndQ (lst 8 (rnQ s k w j)) (k.getD j 0) (w.getD j 0)
def pieceQ (p kk h : List Int) (a : Int) : List Int := sumW (lst 8 h) (lst 8 (rnQ h kk (wG (wA p a 16) 64) 80))
def hN (p kk h : List Int) : Nat → List Int
  | 0 => h
  | j + 1 => pieceQ p kk (hN p kk h j) (128 * j : Nat)
theorem wA_len (p : List Int) (a : Int) : ∀ j, (wA p a j).length = j
  | 0 => rfl
  | j + 1 => by rw [wA, List.length_append, wA_len p a j]; rfl
theorem wG_len (w : List Int) : ∀ j, (wG w j).length = w.length + j
  | 0 => rfl
  | j + 1 => by rw [wG, List.length_append, wG_len w j]; rfl
theorem ixN_eq : ∀ j, j ≤ 8 → ixN j = j
  | 0, _ => rfl
  | j + 1, h => by rw [ixN, ixN_eq j (by omega), wrap_i64 _ (by omega) (by omega)]; omega
theorem ixQ_eq {a i j : Nat} (ha : a < 10000000000000) (hi : i < 16) (hj : j < 8) : ixQ a i j = ((a + 8 * i + j : Nat) : Int) := by
  unfold ixQ
  rw [ixN_eq j (by omega), wrap_i64 (8 * (i : Int)) (by omega) (by omega), wrap_i64 ((a : Int) + 8 * (i : Int)) (by omega) (by omega), wrap_i64 _ (by omega) (by omega)]
  omega
theorem oq_true {p : List Int} {a i : Nat} (ha : a < 10000000000000) (hp : a + 128 ≤ p.length) (hi : i < 16) : ∀ j, j ≤ 8 → oq p a i j = true
  | 0, _ => by simp only [oq, andT_iff, decide_eq_true_eq, true_and]; omega
  | j + 1, h => by
    rw [oq, oq_true ha hp hi j (by omega), ixQ_eq ha hi (by omega), inB_true (by omega) (by omega)]
    simp only [andT_iff, decide_eq_true_eq, true_and]; omega
theorem nxP_true {j : Nat} (hj : j < 64) : nxP (16 + j) (16 + j) (16 + j) = true := by
  unfold nxP
  rw [wrap_i64 _ (by omega) (by omega), wrap_i64 _ (by omega) (by omega), wrap_i64 _ (by omega) (by omega), wrap_i64 _ (by omega) (by omega), apO_true (by omega)]
  simp only [andT_iff, decide_eq_true_eq, true_and, and_true]
  refine ⟨⟨⟨⟨⟨⟨⟨⟨?_, inB_true (by omega) (by omega)⟩, ?_⟩, inB_true (by omega) (by omega)⟩, ?_⟩, inB_true (by omega) (by omega)⟩, ?_⟩, inB_true (by omega) (by omega)⟩, ?_⟩ <;> omega
section
variable (p kk h : List Int) {a : Nat} (ha : a < 10000000000000) (hp : a + 128 ≤ p.length) (hk : kk.length = 80)
include ha hp in
theorem r_loop4 : Tr Try.prog none 0 (nthC 2 r3) (sA p kk h a 0 [] 0) .normal (sA p kk h a 16 (wA p a 16) 16) := by
  have key := Tr.loop (P := Try.prog) (ro := none) (k := 0) 4 (c := nthC 2 r3) (by kernel_rfl) (fun j : Nat => sA p kk h a j (wA p a j) j) 16 (s' := sA p kk h a 16 (wA p a 16) 16) (fun j hj => ?_) ?_
  · exact key
  · have k := r4_one p kk h (wA p a j) j a j
    rw [oq_true ha hp hj 8 (by omega), wA_len, apO_true (by omega), wrap_i64 _ (by omega) (by omega)] at k
    refine Tr.post (Tr.cut (rC_ok true true true true) 60 _ 3 (by omega) k rfl) (Ent.same ?_ rfl)
    show (sA _ _ h _ _ [] _).t = (sA _ _ h _ _ [] _).t
    rw [show ((j : Int) + 1) = ((j + 1 : Nat) : Int) by omega]
  · exact Tr.post (Tr.cut (rC_ok true false true true) 60 _ 3 (by omega) (r4_end p kk h (wA p a 16) 16 a 16) rfl) (Ent.same rfl rfl)
theorem r_loop8 {w : List Int} (hw : w.length = 16) (a : Int) : Tr Try.prog none 0 (nthC 4 r3) (sB p kk h a 16 w 16) .normal (sB p kk h a 80 (wG w 64) 80) := by
  have key := Tr.loop (P := Try.prog) (ro := none) (k := 0) 8 (c := nthC 4 r3) (by kernel_rfl) (fun j : Nat => sB p kk h a (16 + j) (wG w j) (16 + j)) 64 (s' := sB p kk h a 80 (wG w 64) 80) (fun j hj => ?_) ?_
  · exact key
  · have k := r8_one p kk h (wG w j) (16 + j) a (16 + j)
    rw [wG_len, hw, nxP_true hj, wrap_i64 _ (by omega) (by omega)] at k
    refine Tr.post (Tr.cut (rC_ok true true true true) 60 _ 3 (by omega) k rfl) (Ent.same ?_ rfl)
    show (sB _ _ h _ _ [] _).t = (sB _ _ h _ _ [] _).t
    rw [show ((16 : Int) + (j : Int) + 1) = 16 + ((j + 1 : Nat) : Int) by omega, show 16 + j + 1 = 16 + (j + 1) by omega]
  · exact Tr.post (Tr.cut (rC_ok true true false true) 60 _ 3 (by omega) (r8_end p kk h (wG w 64) 80 a 80) rfl) (Ent.same rfl rfl)
include hk in
theorem r_loop10 (w : List Int) (a : Int) : Tr Try.prog none 0 (nthC 7 r3) (sC p kk h a 80 w h 0) .normal (sC p kk h a 80 w (rnQ h kk w 80) 80) := by
  have key := Tr.loop (P := Try.prog) (ro := none) (k := 0) 10 (c := nthC 7 r3) (by kernel_rfl) (fun j : Nat => sC p kk h a 80 w (rnQ h kk w j) j) 80 (s' := sC p kk h a 80 w (rnQ h kk w 80) 80) (fun j hj => ?_) ?_
  · exact key
  · have k := r10_one p kk h w (rnQ h kk w j) 80 a j
    rw [hk, wrap_i64 _ (by omega) (by omega), show 0 + (j : Int).toNat = j by omega, show (j : Int).toNat = j by omega] at k
    refine Tr.post (Tr.cut (rC_ok true true true true) 60 _ 4 (by omega) k ?_) (Ent.same ?_ rfl)
    · simp only [andT_iff, decide_eq_true_eq, true_and]
      exact ⟨⟨⟨⟨by omega, inB_true (by omega) (by omega)⟩, by omega⟩, inB_true (by omega) (by omega)⟩, by omega⟩
    · show (sC _ _ h _ _ [] [] _).t = (sC _ _ h _ _ [] [] _).t
      rw [show ((j : Int) + 1) = ((j + 1 : Nat) : Int) by omega]
  · exact Tr.post (Tr.cut (rC_ok true true true false) 60 _ 4 (by omega) (r10_end p kk h w (rnQ h kk w 80) 80 a 80) rfl) (Ent.same rfl rfl)
set_option maxRecDepth 100000 in
theorem r_nil (a : Int) : Ent 0 (sN p kk h a) (sA p kk h a 0 [] 0) :=
  (Ent.nothing (k := 0) (t := (sN p kk h a).t) (h := (sN p kk h a).h) (o := true) (o' := true) 9 .u64 false true (by kernel_rfl)).trans (Ent.same (by kernel_rfl) (by kernel_rfl))
include ha hp hk in
theorem r_body : Tr Try.prog none 0 r3 (sO p kk h a) .normal (sO p kk (pieceQ p kk h a) a) := by
  refine Tr.of_atoms ?_
  refine TrL.items (rC_ok true true true true) 60 2 _ 2 (by omega) (r3_head p kk h a) rfl (by decide) ?_
  refine TrL.pre (s1 := sA p kk h a 0 [] 0) ?_ (r_nil p kk h a) (by decide)
  refine TrL.item 2 (by decide) (r_loop4 p kk h ha hp) ?_
  refine TrL.items (rC_ok true true true true) 60 1 _ 3 (by omega) (r8_head p kk h (wA p a 16) 16 a 16) rfl (by decide) ?_
  refine TrL.item 4 (by decide) (r_loop8 p kk h (wA_len p a 16) a) ?_
  refine TrL.items (rC_ok true true true true) 60 2 _ 4 (by omega) (r10_head p kk h (wG (wA p a 16) 64) 80 a 80) rfl (by decide) ?_
  refine TrL.item 7 (by decide) (r_loop10 p kk h hk (wG (wA p a 16) 64) a) ?_
  refine TrL.items (rC_ok true true true true) 60 1 _ 4 (by omega) (r14_head p kk h (wG (wA p a 16) 64) (rnQ h kk (wG (wA p a 16) 64) 80) 80 a 80) rfl (by decide) ?_
  exact TrL.item 9 (by decide) (Tr.cut (rC_ok true true true true) 60 _ 2 (by omega) (r14_all p kk h (wG (wA p a 16) 64) (rnQ h kk (wG (wA p a 16) 64) 80) 80 a) rfl) ⟨rfl, rfl⟩
theorem r3_block : nthC 2 rO = .block 3 r3 := by kernel_rfl
include ha hp hk in
theorem r_round : Tr Try.prog none 0 rO (sO p kk h a) .normal (sO p kk (pieceQ p kk h a) (a + 128 : Nat)) := by
  refine Tr.of_atoms ?_
  refine TrL.items (rC_ok true true true true) 60 2 _ 2 (by omega) (ro_test p kk h a) ?_ (by decide) ?_
  · simp only [andT_iff, decide_eq_true_eq, true_and]; omega
  refine TrL.item 2 (by decide) (s1 := sO p kk (pieceQ p kk h a) a) ?_ ?_
  · rw [r3_block]
    exact Tr.block_pass (Tr.pre (r_body p kk h ha hp hk) (Ent.same rfl rfl)) (by simp)
  · have k := ro_next p kk (pieceQ p kk h a) a
    rw [wrap_i64 _ (by omega) (by omega)] at k
    refine TrL.item 3 (by decide) (Tr.post (Tr.cut (rC_ok true true true true) 60 _ 2 (by omega) k rfl) (Ent.same ?_ rfl)) ⟨rfl, rfl⟩
    show (sO _ _ h _).t = (sO _ _ h _).t
    rw [show ((a : Int) + 128) = ((a + 128 : Nat) : Int) by omega]
end
theorem r_loop {p kk : List Int} (h : List Int) {N : Nat} (hp : p.length = 128 * N) (hk : kk.length = 80) (hb : N < 10000000000) : Tr Try.prog none 0 (nthC 8 rB) (sO p kk h 0) .normal (sO p kk (hN p kk h N) (128 * N : Nat)) := by
  have key := Tr.loop (P := Try.prog) (ro := none) (k := 0) 2 (c := nthC 8 rB) (by kernel_rfl) (fun j : Nat => sO p kk (hN p kk h j) (128 * j : Nat)) N (s' := sO p kk (hN p kk h N) (128 * N : Nat)) (fun j hj => ?_) ?_
  · exact key
  · exact r_round p kk (hN p kk h j) (a := 128 * j) (by omega) (by omega) hk
  · exact Tr.post (Tr.cut (rC_ok false true true true) 60 _ 2 (by omega) (ro_end p kk (hN p kk h N) (128 * N : Nat)) (by rw [hp]; simp [andT])) (Ent.same rfl rfl)
theorem padQ_len (xs : List Int) : (padQ xs).length = 128 * ((padQ xs).length / 128) := by
  have h := (padK_mod (len := xs.length) (show 112 < 128 by omega)).1
  have hl : (padQ xs).length = xs.length + 1 + padK xs.length 128 112 + 16 := by unfold padQ; rw [List.length_append, padL_len]; rfl
  rw [hl]; omega
noncomputable def longQ (xs : List Int) : List Int := Lock (outB (lst 8 (hN (padQ xs) kL bL ((padQ xs).length / 128))))
theorem kL_len : kL.length = 80 := by kernel_rfl
set_option maxRecDepth 100000 in
theorem rl_head (xs : List Int) : (execL Try.prog (rC true true true true) 60 0 8 (atoms rB) ⟨slots0 Try.f50.ntmps [.ro false .u8 xs], [], true⟩).bind (St.cut [2, 3, 6, 7, 8] 2) =
    some { sO (padQ xs) kL bL 0 with ob := andT true (andT true (decide (xs.length < 274877900000))) } := by kernel_rfl
set_option maxRecDepth 100000 in
theorem longR_fn {xs : List Int} (h1 : xs.length < 274877900000) : FnTr Try.prog 50 [.ro false .u8 xs] [] (.agg [.ints .u8 64 (longQ xs)]) [] := by
  have hp := padQ_len xs
  generalize hn : (padQ xs).length / 128 = N at hp
  have hb : N < 10000000000 := by
    have hK : padK xs.length 128 112 < 128 := Nat.mod_lt _ (by omega)
    have hl : (padQ xs).length = xs.length + 1 + padK xs.length 128 112 + 16 := by unfold padQ; rw [List.length_append, padL_len]; rfl
    omega
  rw [longQ, Lock_eq, hn]
  refine FnTr.restM (rC_ok true true true true) 400 9 0 Try.func50 (by simp) rfl (fun s' x h => ?_) (s := sO (padQ xs) kL (hN (padQ xs) kL bL N) (128 * N : Nat)) (p := true) (by kernel_rfl) rfl rfl rfl
  refine TrL.items (rC_ok true true true true) 60 8 _ 2 (by simp) (rl_head xs) (by rw [decide_eq_true h1]; rfl) (by decide) ?_
  exact TrL.item 8 (by decide) (Tr.pre (r_loop bL hp kL_len hb) (Ent.same rfl rfl)) h
noncomputable def longRF : List SV → Option (SV × List Blk × Bool)
  | [.ro false .u8 xs] => some (.agg [.ints .u8 64 (longQ xs)], [], decide (xs.length < 274877900000))
  | _ => none
noncomputable def longRE : Entry Try.prog := .val 50 _ Try.func50 (by decide) rfl true 0 longRF fun vs v new e => by
  unfold longRF at e
  split at e
  · simp only [Option.some.injEq, Prod.mk.injEq, decide_eq_true_eq] at e
    obtain ⟨rfl, rfl, h1⟩ := e
    exact longR_fn h1
  · cases e
end Go.Proofs.Ytkoohnpknhoahaa.Sh
