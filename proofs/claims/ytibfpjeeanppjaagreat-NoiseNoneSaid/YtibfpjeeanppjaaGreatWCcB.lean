/- This file proves the contracts of chacha's Pieces and Mix: a text and a stream. Conditions: nonces of 12 bytes; numbers that don't run out. -/
import Derived.Test.YtibfpjeeanppjaaGreatWCcA
import Derived.Test.YtibfpjeeanppjaaGreatWSxB
set_option linter.all false
set_option maxRecDepth 100000
namespace Go.Proofs.YtibfpjeeanppjaaGreat.Cc
open Go Go.Sy Sh
noncomputable def ps0 : Ctr := mk (P := Tryz.prog) [] []
theorem ps0_ok : CtrSound Tryz.prog ps0 := mk_sound _ InlOK.nil _ _
def psF : List SV → Option (SV × List Blk × Bool)
  | [.agg [.ints .u8 32 key], .ro false .u8 nonce, .int .i64 n] => some (.fn (.func 146) [] [.ptr 2 0 0, .ptr 0 0 0, .ptr 1 0 0], [.b [.ints .u8 32 key], .b [.ro false .u8 nonce], .b [.int .i64 n]], true)
  | _ => none
noncomputable def psE : Entry Tryz.prog := .val 113 _ Tryz.func113 (by decide) rfl true 3 psF fun vs v new e => by
  unfold psF at e
  split at e
  · cases e
    exact callM ps0_ok 30 Tryz.func113 3 (by simp) (p := true) (by kernel_rfl) rfl rfl rfl
  · cases e
noncomputable def mxF (key nonce : List Int) (n : Int) (text : List Int) (i : Nat) : Int := xorI .u8 (text.getD i 0) ((pcW key nonce (n + (i / 64 : Nat))).getD (i % 64) 0)
noncomputable def mxP (key nonce : List Int) (n : Int) (text : List Int) (m : Nat) : List Int := (List.range m).map (mxF key nonce n text) ++ List.replicate (text.length - m) 0
noncomputable def mixW (key nonce : List Int) (n : Int) (text : List Int) : List Int := (List.range text.length).map (mxF key nonce n text)
theorem mxP_all (key nonce : List Int) (n : Int) (text : List Int) : mxP key nonce n text text.length = mixW key nonce n text := by unfold mxP mixW; simp
theorem mxP_len (key nonce : List Int) (n : Int) (text : List Int) {m : Nat} (h : m ≤ text.length) : (mxP key nonce n text m).length = text.length := by unfold mxP; simp; omega
theorem mxP_step (key nonce : List Int) (n : Int) (text : List Int) (m : Nat) : spl (mxP key nonce n text m) m [mxF key nonce n text m] 1 = mxP key nonce n text (m + 1) := by
  have hr : ((List.range m).map (mxF key nonce n text)).length = m := by simp
  have hd : (mxP key nonce n text m).drop (m + 1) = List.replicate (text.length - (m + 1)) 0 := by
    unfold mxP
    rw [← List.drop_drop, List.drop_left' hr, List.drop_replicate]
    congr 1
  unfold spl
  rw [hd]
  unfold mxP
  rw [List.take_left' hr, List.range_succ, List.map_append]
  rfl
noncomputable def mxB : Code := bodyOf Tryz.f71
noncomputable def mxI : Code := inner (nthC 1 mxB)
noncomputable def mxR : Code := nthC 8 mxI
noncomputable def mxV : Code := inner (rfB (inner mxR))
noncomputable def mxK : Code := nthC 1 mxV
noncomputable def itB : Code := bodyOf Tryz.f146
noncomputable def mxC (a b : Bool) : Ctr := mk (P := Tryz.prog) [] [] (fun i => if i = 43 then some a else if i = 49 then some b else none)
theorem mxC_ok (a b : Bool) : CtrSound Tryz.prog (mxC a b) := mk_sound _ InlOK.nil _ _
noncomputable def mxT : List (Option SV) := slotsOf 62 [(4, .ptr 0 0 0), (7, .ptr 1 0 0), (11, .ptr 3 0 0), (38, .fn (.func 146) [] [.ptr 6 0 0, .ptr 4 0 0, .ptr 5 0 0])]
noncomputable def mxL (l : Nat) : Lp := rfL mxR mxT l
noncomputable def mxU (l : Nat) : Lp := { rfL mxR mxT l with st := .busy }
noncomputable def mxD (l : Nat) : Lp := { rfL mxR mxT l with st := .done, pend := some (.exit 0) }
noncomputable def mxH0 (key nonce text l : List Int) (m : Nat) (n : Int) : List Blk := [.b [.ints .u8 32 key], .b [.ro false .u8 text], .b [.ints .u8 text.length l], .b [.sl 2 0 0 1 m text.length false false], .b [.ints .u8 32 key], .b [.ro false .u8 nonce], .b [.int .i64 n]]
noncomputable def mxH1 (key nonce text l : List Int) (m : Nat) (n : Int) (g : Option Lp) : List Blk := [.b [.ints .u8 32 key], .b [.ro false .u8 text], .b [.ints .u8 text.length l], .b [.sl 2 0 0 1 m text.length false false], .b [.ints .u8 32 key], .b [.ro false .u8 nonce], .b [.int .i64 n], .g g]
noncomputable def mxH (key nonce text l p : List Int) (m : Nat) (n : Int) (g : Option Lp) : List Blk := [.b [.ints .u8 32 key], .b [.ro false .u8 text], .b [.ints .u8 text.length l], .b [.sl 2 0 0 1 m text.length false false], .b [.ints .u8 32 key], .b [.ro false .u8 nonce], .b [.int .i64 n], .g g, .b [.ints .u8 64 p]]
noncomputable def mxH2 (key nonce text l p q : List Int) (m : Nat) (n : Int) (g : Option Lp) : List Blk := [.b [.ints .u8 32 key], .b [.ro false .u8 text], .b [.ints .u8 text.length l], .b [.sl 2 0 0 1 m text.length false false], .b [.ints .u8 32 key], .b [.ro false .u8 nonce], .b [.int .i64 n], .g g, .b [.ints .u8 64 p], .b [.ints .u8 64 q]]
noncomputable def mxA (key nonce text l p q : List Int) (m : Nat) (n : Int) (g : Option Lp) : St := ⟨slotsOf 62 [(7, .ptr 1 0 0), (11, .ptr 3 0 0), (13, .ptr 9 0 0)], mxH2 key nonce text l p q m n g, true⟩
noncomputable def mxQ (key nonce text l p q : List Int) (m : Nat) (n i : Int) (k : Nat) : St := ⟨slotsOf 62 [(7, .ptr 1 0 0), (11, .ptr 3 0 0), (41, .agg [.ints .u8 64 q]), (42, .int .i64 i)], mxH2 key nonce text l p q m n (some (mxU k)), true⟩
def mxO (i : Int) (m L n : Nat) : Bool := andT (andT (andT (andT (andT (andT true (decide (i < 64))) (decide (i.toNat < 64) && inB i 64)) (!(m : Int) == (L : Int))) (inB (m : Int) L)) (decide ((m : Int).toNat < L))) (andT (andT true (decide (m + 1 ≤ L))) (decide (n = L) && decide (0 + m + 1 ≤ L) && true))
section
variable (key nonce text l p q : List Int) (m k : Nat) (n i v : Int)
theorem mx_asg : (exec Tryz.prog (mxC true true) 60 9 (mxL k).asg ⟨setTs (mxL k).t (mxL k).ps.toList [.int .i64 v, .agg [.ints .u8 64 q]], mxH key nonce text l p m n (some (mxL k)), true⟩).bind (fun r => (r.2.cut [7, 11, 13] 10).map fun q => (r.1, q)) =
    some (.normal, mxA key nonce text l p q m n (some (mxL k))) := by kernel_rfl
theorem mx_r9 : (exec Tryz.prog (mxC true true) 60 9 (nthC 0 mxV) (mxA key nonce text l p q m n (some (mxU k)))).bind (fun r => (r.2.cut [7, 11, 41, 42] 10).map fun q => (r.1, q)) =
    some (.normal, mxQ key nonce text l p q m n 0 k) := by kernel_rfl
theorem mx_one : (exec Tryz.prog (mxC true false) 60 9 (inner (inner mxK)) (mxQ key nonce text l p q m n i k)).bind (fun r => (r.2.cut [7, 11, 41, 42] 10).map fun q => (r.1, q)) =
    some (.normal, { mxQ key nonce text (spl l (0 + m) [xorI .u8 (text.getD (m : Int).toNat 0) (q.getD i.toNat 0)] 1) p q (m + 1) n (IntKind.i64.wrap (i + 1)) k with ob := mxO i m text.length l.length }) := by kernel_rfl
theorem mx_brk : (exec Tryz.prog (mxC true true) 60 9 (inner (inner mxK)) (mxQ key nonce text l p q m n i k)).bind (fun r => (r.2.cut [] 9).map fun q => (r.1, q)) =
    some (.exit 0, { t := slotsOf 62 [], h := mxH key nonce text l p m n (some (mxU k)), ob := andT (andT (andT true (decide (i < 64))) (decide (i.toNat < 64) && inB i 64)) ((m : Int) == (text.length : Int)) }) := by kernel_rfl
theorem mx_end : (exec Tryz.prog (mxC false true) 60 9 (inner (inner mxK)) (mxQ key nonce text l p q m n i k)).bind (fun r => (r.2.cut [] 9).map fun q => (r.1, q)) =
    some (.exit 2, { t := slotsOf 62 [], h := mxH key nonce text l p m n (some (mxU k)), ob := andT true (!decide (i < 64)) }) := by kernel_rfl
end
theorem loopOut {P : Program} {ro : Option Nat} {k : Nat} (id j : Nat) (hj : j ≠ id) {c : Code} {s s' : St} (hc : isLoop id c = true) (h : TrR P ro k (inner (inner c)) s (.exit j) s') : Tr P ro k c s (.exit j) s' := by
  cases c <;> simp [isLoop] at hc
  rename_i i b
  cases b <;> simp at hc
  subst hc
  exact Tr.block_out (TrR.loop h) hj
section
variable {key nonce text p : List Int} {n v : Int} {j k : Nat}
theorem mx_step (i : Nat) (hi : i < 64) (h : 64 * j + i < text.length) (k : Nat) :
    Tr Tryz.prog (some k) 9 (inner (inner mxK)) (mxQ key nonce text (mxP key nonce n text (64 * j + i)) p (pcW key nonce (n + j)) (64 * j + i) n i k) .normal (mxQ key nonce text (mxP key nonce n text (64 * j + (i + 1))) p (pcW key nonce (n + j)) (64 * j + (i + 1)) n ((i + 1 : Nat) : Int) k) := by
  have e := mx_one key nonce text (mxP key nonce n text (64 * j + i)) p (pcW key nonce (n + j)) (64 * j + i) k n i
  have ef : xorI .u8 (text.getD (((64 * j + i : Nat) : Int)).toNat 0) ((pcW key nonce (n + j)).getD (i : Int).toNat 0) = mxF key nonce n text (64 * j + i) := by
    unfold mxF
    rw [Int.toNat_natCast, Int.toNat_natCast, show (64 * j + i) / 64 = j by omega, show (64 * j + i) % 64 = i by omega]
  have ho : mxO i (64 * j + i) text.length text.length = true := by
    unfold mxO
    have h1 : (!(((64 * j + i : Nat) : Int) == (text.length : Int))) = true := by simp; omega
    rw [h1, inB_true (by omega) (by omega), inB_true (by omega) (by omega)]
    simp only [andT_iff, Bool.and_eq_true, decide_eq_true_eq, true_and, and_true, Int.toNat_natCast]
    omega
  rw [ef, Nat.zero_add, mxP_step, mxP_len _ _ _ _ (by omega), ho, wrap_i64 _ (by omega) (by omega)] at e
  refine Tr.post (Tr.cut (mxC_ok true false) 60 _ 10 (by omega) e rfl) (Ent.same ?_ ?_)
  · show (mxQ key nonce text [] p (pcW key nonce (n + j)) 0 n _ k).t = (mxQ key nonce text [] p (pcW key nonce (n + j)) 0 n _ k).t
    rw [show ((i : Int) + 1) = ((i + 1 : Nat) : Int) by omega]
  · rfl
theorem mx_blk : rfB (inner mxR) = .block 1 mxV := by kernel_rfl
theorem mx_loop : isLoop 2 mxK = true := by kernel_rfl
theorem mx_full (h : 64 * j + 64 ≤ text.length) (k : Nat) : YTr Tryz.prog k [.int .i64 v, .agg [.ints .u8 64 (pcW key nonce (n + j))]] (mxH key nonce text (mxP key nonce n text (64 * j)) p (64 * j) n (some (mxL k))) (.bool true)
    (mxH key nonce text (mxP key nonce n text (64 * j + 64)) p (64 * j + 64) n (some (mxL k))) := by
  have b1 : Tr Tryz.prog (some k) 9 mxK (mxQ key nonce text (mxP key nonce n text (64 * j)) p (pcW key nonce (n + j)) (64 * j) n 0 k) .normal ⟨slotsOf 62 [], mxH key nonce text (mxP key nonce n text (64 * j + 64)) p (64 * j + 64) n (some (mxU k)), true⟩ := by
    have key0 := Tr.loop (P := Tryz.prog) (ro := some k) (k := 9) 2 (c := mxK) mx_loop (fun i : Nat => mxQ key nonce text (mxP key nonce n text (64 * j + i)) p (pcW key nonce (n + j)) (64 * j + i) n i k) 64 (fun i hi => mx_step i hi (by omega) k)
      (Tr.cut (mxC_ok false true) 60 _ 9 (Nat.le_refl _) (mx_end key nonce text (mxP key nonce n text (64 * j + 64)) p (pcW key nonce (n + j)) (64 * j + 64) k n 64) rfl)
    exact Tr.post key0 (Ent.same rfl rfl)
  have b2 : Tr Tryz.prog (some k) 9 mxV (mxA key nonce text (mxP key nonce n text (64 * j)) p (pcW key nonce (n + j)) (64 * j) n (some (mxU k))) .normal ⟨slotsOf 62 [], mxH key nonce text (mxP key nonce n text (64 * j + 64)) p (64 * j + 64) n (some (mxU k)), true⟩ := by
    refine Tr.of_atoms ?_
    exact TrL.item 0 (by decide) (Tr.cut (mxC_ok true true) 60 _ 10 (by omega) (mx_r9 ..) rfl) (TrL.item 1 (by decide) b1 ⟨rfl, rfl⟩)
  have b3 := Tr.block_pass (id := 1) b2 (by simp)
  rw [← mx_blk] at b3
  have b0 := Tr.cut (ro := some k) (k := 9) (mxC_ok true true) 60 _ 10 (by omega) (mx_asg key nonce text (mxP key nonce n text (64 * j)) p (pcW key nonce (n + j)) (64 * j) k n v) rfl
  exact YTr.mk (i := 7) (L := mxL k) (L1 := mxL k) (L2 := mxU k) (vs := [.int .i64 v, .agg [.ints .u8 64 (pcW key nonce (n + j))]]) (h := mxH key nonce text (mxP key nonce n text (64 * j)) p (64 * j) n (some (mxL k)))
    (q := none) (x := .normal) (by kernel_rfl) rfl (by kernel_rfl) b0 rfl rfl rfl b3 rfl rfl rfl rfl
theorem mx_last (h0 : 64 * j ≤ text.length) (h : text.length < 64 * j + 64) (k : Nat) : YTr Tryz.prog k [.int .i64 v, .agg [.ints .u8 64 (pcW key nonce (n + j))]] (mxH key nonce text (mxP key nonce n text (64 * j)) p (64 * j) n (some (mxL k))) (.bool false)
    (mxH key nonce text (mixW key nonce n text) p text.length n (some (mxD k))) := by
  obtain ⟨K, hK⟩ : ∃ K, text.length = 64 * j + K := ⟨text.length - 64 * j, by omega⟩
  have b1 : Tr Tryz.prog (some k) 9 mxK (mxQ key nonce text (mxP key nonce n text (64 * j)) p (pcW key nonce (n + j)) (64 * j) n 0 k) (.exit 0) ⟨slotsOf 62 [], mxH key nonce text (mixW key nonce n text) p text.length n (some (mxU k)), true⟩ := by
    have ho : andT (andT (andT true (decide ((K : Int) < 64))) (decide ((K : Int).toNat < 64) && inB (K : Int) 64)) (((64 * j + K : Nat) : Int) == (text.length : Int)) = true := by
      rw [inB_true (by omega) (by omega), decide_eq_true (show (K : Int) < 64 by omega), decide_eq_true (show (K : Int).toNat < 64 by omega), hK, beq_self_eq_true]
      rfl
    have key0 := TrR.for (P := Tryz.prog) (ro := some k) (k := 9) (b := inner (inner mxK)) (x := .exit 0) (by simp) (fun i : Nat => mxQ key nonce text (mxP key nonce n text (64 * j + i)) p (pcW key nonce (n + j)) (64 * j + i) n i k) K (fun i hi => mx_step i (by omega) (by omega) k)
      (Tr.cut (mxC_ok true true) 60 _ 9 (Nat.le_refl _) (mx_brk key nonce text (mxP key nonce n text (64 * j + K)) p (pcW key nonce (n + j)) (64 * j + K) k n K) ho)
    have := loopOut 2 0 (by decide) mx_loop key0
    refine Tr.post this (Ent.same rfl ?_)
    show mxH key nonce text (mxP key nonce n text (64 * j + K)) p (64 * j + K) n (some (mxU k)) = _
    rw [← hK, mxP_all]
  have b2 : Tr Tryz.prog (some k) 9 mxV (mxA key nonce text (mxP key nonce n text (64 * j)) p (pcW key nonce (n + j)) (64 * j) n (some (mxU k))) (.exit 0) ⟨slotsOf 62 [], mxH key nonce text (mixW key nonce n text) p text.length n (some (mxU k)), true⟩ := by
    refine Tr.of_atoms ?_
    exact TrL.item 0 (by decide) (Tr.cut (mxC_ok true true) 60 _ 10 (by omega) (mx_r9 ..) rfl) (TrL.leave 1 (by decide) (by simp) b1)
  have b3 := Tr.block_out (id := 1) b2 (by decide)
  rw [← mx_blk] at b3
  have b0 := Tr.cut (ro := some k) (k := 9) (mxC_ok true true) 60 _ 10 (by omega) (mx_asg key nonce text (mxP key nonce n text (64 * j)) p (pcW key nonce (n + j)) (64 * j) k n v) rfl
  exact YTr.mk (i := 7) (L := mxL k) (L1 := mxL k) (L2 := mxU k) (vs := [.int .i64 v, .agg [.ints .u8 64 (pcW key nonce (n + j))]]) (h := mxH key nonce text (mxP key nonce n text (64 * j)) p (64 * j) n (some (mxL k)))
    (q := some (.exit 0)) (x := .exit 0) (by kernel_rfl) rfl (by kernel_rfl) b0 rfl rfl rfl b3 rfl rfl rfl rfl
end
noncomputable def mxX (full : Bool) (_ : Int) (q key nonce text : List Int) (L : Nat) (l0 : List Int) (m L2 : Nat) (key2 : List Int) (n : Int) (R : Lp) (k : Nat) : Bool :=
  @decide (∃ j : Nat, q = pcW key nonce (n + j) ∧ m = 64 * j ∧ L = text.length ∧ L2 = text.length ∧ key2 = key ∧ l0 = mxP key nonce n text m ∧ R = mxL k ∧ m ≤ text.length ∧ (full = true → m + 64 ≤ text.length) ∧ (full = false → text.length < m + 64)) (Classical.propDecidable _)
noncomputable def mxY (full : Bool) : Nat → List SV → List Blk → Option (SV × List Blk × Bool)
  | k, [.int .i64 v, .agg [.ints .u8 64 q]], [.b [.ints .u8 32 key], .b [.ro false .u8 text], .b [.ints .u8 L l0], .b [.sl 2 0 0 1 m L2 false false], .b [.ints .u8 32 key2], .b [.ro false .u8 nonce], .b [.int .i64 n], .g (some R), .b [.ints .u8 64 p]] =>
    match full with
    | true => some (.bool true, mxH key nonce text (mxP key nonce n text (m + 64)) p (m + 64) n (some (mxL k)), mxX true v q key nonce text L l0 m L2 key2 n R k)
    | false => some (.bool false, mxH key nonce text (mixW key nonce n text) p text.length n (some (mxD k)), mxX false v q key nonce text L l0 m L2 key2 n R k)
  | _, _, _ => none
theorem mxY_ok (full : Bool) : ∀ k vs h v h', mxY full k vs h = some (v, h', true) → YTr Tryz.prog k vs h v h' := by
  intro k vs h v h' e
  unfold mxY at e
  split at e
  · split at e
    · simp only [Option.some.injEq, Prod.mk.injEq] at e
      obtain ⟨rfl, rfl, hx⟩ := e
      have hx := @of_decide_eq_true _ (Classical.propDecidable _) hx
      obtain ⟨j, rfl, rfl, rfl, rfl, rfl, rfl, rfl, h1, h2, h3⟩ := hx
      exact mx_full (h2 rfl) k
    · simp only [Option.some.injEq, Prod.mk.injEq] at e
      obtain ⟨rfl, rfl, hx⟩ := e
      have hx := @of_decide_eq_true _ (Classical.propDecidable _) hx
      obtain ⟨j, rfl, rfl, rfl, rfl, rfl, rfl, rfl, h1, h2, h3⟩ := hx
      exact mx_last h1 (h3 rfl) k
  · cases e
noncomputable def itC (full : Bool) : Ctr := (mk (P := Tryz.prog) [pcE] []).withY (mxY full)
theorem itC_ok (full : Bool) : CtrSound Tryz.prog (itC full) := Ctr.withY_ok (mk_sound _ InlOK.nil _ _) (mxY_ok full)
noncomputable def itS (key nonce text l : List Int) (m : Nat) (n v : Int) (k : Nat) : St := ⟨slotsOf 27 [(0, .fn (.yield k) [] []), (1, .ptr 6 0 0), (2, .ptr 4 0 0), (3, .ptr 5 0 0), (5, .int .i64 v)], mxH1 key nonce text l m n (some (mxL k)), true⟩
theorem mxX_true {full : Bool} {key nonce text : List Int} {n v : Int} {j k : Nat} (hv : v = n + j) (h1 : 64 * j ≤ text.length) (h2 : full = true → 64 * j + 64 ≤ text.length) (h3 : full = false → text.length < 64 * j + 64) :
    mxX full v (pcW key nonce v) key nonce text text.length (mxP key nonce n text (64 * j)) (64 * j) text.length key n (mxL k) k = true :=
  @decide_eq_true _ (Classical.propDecidable _) ⟨j, by rw [hv], rfl, rfl, rfl, rfl, rfl, rfl, h1, h2, h3⟩
section
variable (key nonce text l : List Int) (m k : Nat) (n v : Int)
def itO (nonce : List Int) (v : Int) : Bool := decide (nonce.length = 12) && decide (0 ≤ v) && decide (v ≤ 4294967295)
theorem it_head : (execL Tryz.prog (itC true) 60 8 1 (atoms itB) ⟨slots0 Tryz.f146.ntmps [.fn (.yield k) [] [], .ptr 6 0 0, .ptr 4 0 0, .ptr 5 0 0], mxH1 key nonce text l m n (some (mxL k)), true⟩).bind (St.cut [0, 1, 2, 3, 5] 8) = some (itS key nonce text l m n n k) := by kernel_rfl
theorem it_one : (exec Tryz.prog (itC true) 60 8 (inner (inner (nthC 1 itB))) (itS key nonce text l m n v k)).bind (fun r => (r.2.cut [0, 1, 2, 3, 5] 8).map fun q => (r.1, q)) =
    some (.normal, { itS key nonce text (mxP key nonce n text (m + 64)) (m + 64) n (IntKind.i64.wrap (v + 1)) k with ob := andT (andT true (andT true (itO nonce v))) (mxX true v (pcW key nonce v) key nonce text text.length l m text.length key n (mxL k) k) }) := by kernel_rfl
theorem it_last : (exec Tryz.prog (itC false) 60 8 (inner (inner (nthC 1 itB))) (itS key nonce text l m n v k)).bind (fun r => (r.2.cut [] 8).map fun q => (r.1, q)) =
    some (.ret, ⟨slotsOf 27 [], mxH1 key nonce text (mixW key nonce n text) text.length n (some (mxD k)), andT (andT true (andT true (itO nonce v))) (mxX false v (pcW key nonce v) key nonce text text.length l m text.length key n (mxL k) k)⟩) := by kernel_rfl
end
theorem it_fn {key nonce text : List Int} {n : Int} (hn : nonce.length = 12) (h0 : 0 ≤ n) (h1 : n + (text.length / 64 : Nat) ≤ 4294967295) (k : Nat) :
    FnTr Tryz.prog 146 [.fn (.yield k) [] [], .ptr 6 0 0, .ptr 4 0 0, .ptr 5 0 0] (mxH1 key nonce text (mxP key nonce n text 0) 0 n (some (mxL k))) (.tup []) (mxH1 key nonce text (mixW key nonce n text) text.length n (some (mxD k))) := by
  have hO : ∀ j : Nat, j ≤ text.length / 64 → itO nonce (n + j) = true := fun j hj => by
    unfold itO
    rw [hn, decide_eq_true (show 0 ≤ n + (j : Int) by omega), decide_eq_true (show n + (j : Int) ≤ 4294967295 by omega)]
    rfl
  have hloop : Tr Tryz.prog none 8 (nthC 1 itB) (itS key nonce text (mxP key nonce n text 0) 0 n n k) .ret ⟨slotsOf 27 [], mxH1 key nonce text (mixW key nonce n text) text.length n (some (mxD k)), true⟩ := by
    refine Tr.loopRet 0 (by kernel_rfl) ?_
    have key0 := TrR.for (P := Tryz.prog) (ro := none) (k := 8) (b := inner (inner (nthC 1 itB))) (x := .ret) (s' := ⟨slotsOf 27 [], mxH1 key nonce text (mixW key nonce n text) text.length n (some (mxD k)), true⟩) (by simp)
      (fun j : Nat => itS key nonce text (mxP key nonce n text (64 * j)) (64 * j) n (n + j) k) (text.length / 64) (fun j hj => ?_) ?_
    · refine TrR.pre key0 (Ent.same ?_ rfl)
      show (itS key nonce text [] 0 n _ k).t = (itS key nonce text [] 0 n _ k).t
      rw [show n + ((0 : Nat) : Int) = n by omega]
    · have e := it_one key nonce text (mxP key nonce n text (64 * j)) (64 * j) k n (n + j)
      rw [hO j (by omega), mxX_true rfl (by omega) (fun _ => by omega) (fun h => by cases h), wrap_i64 _ (by omega) (by omega)] at e
      refine Tr.post (Tr.cut (itC_ok true) 60 _ 8 (by omega) e rfl) (Ent.same ?_ rfl)
      show (itS key nonce text [] 0 n _ k).t = (itS key nonce text [] 0 n _ k).t
      rw [show n + (j : Int) + 1 = n + ((j + 1 : Nat) : Int) by omega]
    · have e := it_last key nonce text (mxP key nonce n text (64 * (text.length / 64))) (64 * (text.length / 64)) k n (n + (text.length / 64 : Nat))
      rw [hO _ (Nat.le_refl _), mxX_true rfl (by omega) (fun h => by cases h) (fun _ => by omega)] at e
      exact Tr.cut (itC_ok false) 60 _ 8 (by omega) e rfl
  refine FnTr.mk (vs := []) Tryz.func146 rfl (x := .ret) (s := ⟨slotsOf 27 [], mxH1 key nonce text (mixW key nonce n text) text.length n (some (mxD k)), true⟩) ?_ (.inl rfl) (by kernel_rfl)
  refine TrL.items (itC_ok true) 60 1 _ 8 (by show 8 ≤ 8; omega) (it_head key nonce text _ 0 k n) rfl (by decide) ?_
  exact TrL.leave 1 (by decide) (by simp) hloop
noncomputable def mhC : Ctr := mk (P := Tryz.prog) [chE, psE] [] (fun i => if i = 30 then some false else none)
theorem mhC_ok : CtrSound Tryz.prog mhC := mk_sound _ InlOK.nil _ _
noncomputable def mx1 (key nonce text : List Int) (n : Int) : St := ⟨slotsOf 62 [(1, .ro false .u8 nonce), (2, .int .i64 n), (4, .ptr 0 0 0), (7, .ptr 1 0 0)], [.b [.ints .u8 32 key], .b [.ro false .u8 text]], true⟩
noncomputable def mx2 (key nonce text : List Int) (n : Int) : St := ⟨mxT, [.b [.ints .u8 32 key], .b [.ro false .u8 text], .b [.ints .u8 text.length (List.replicate text.length 0)], .b [.sl 2 0 0 1 0 text.length true false], .b [.ints .u8 32 key], .b [.ro false .u8 nonce], .b [.int .i64 n]], true⟩
section
variable (key nonce text l : List Int) (n : Int)
theorem mx_h1 : (execL Tryz.prog mhC 60 0 1 (atoms mxB) ⟨slots0 Tryz.f71.ntmps [.agg [.ints .u8 32 key], .ro false .u8 nonce, .int .i64 n, .ro false .u8 text], [], true⟩).bind (St.cut [1, 2, 4, 7] 2) = some (mx1 key nonce text n) := by kernel_rfl
def mhO (nonce text : List Int) (n : Int) : Bool := andT (andT (andT true (andT true (decide (nonce.length = 12) && decide (0 ≤ n) && decide (n ≤ 4294967295)))) (!decide (IntKind.i64.wrap ((IntKind.i64.wrap (IntKind.i64.wrap ((text.length : Int) + 64) - 1)).tdiv 64) > IntKind.i64.wrap (IntKind.i64.wrap (4294967295 - n) + 1))))
  (true && IntKind.i64.wrap (text.length : Int) == (text.length : Int) && (true && decide ((1 : Int) * (text.length : Int) ≤ 281474976710656)))
theorem mx_h2 : (execL Tryz.prog mhC 60 0 8 (atoms mxI) (mx1 key nonce text n)).bind (St.cut [4, 7, 11, 38] 7) = some { mx2 key nonce text n with ob := mhO nonce text n } := by kernel_rfl
noncomputable def mx3 (key nonce text l : List Int) : St := ⟨slotsOf 62 [(8, .sl 2 0 0 1 text.length text.length false false), (9, .nl .nilIface)], [.b [.ints .u8 32 key], .b [.ro false .u8 text], .b [.ints .u8 text.length l]], true⟩
theorem mx_h3 : (execL Tryz.prog mhC 60 0 1 ((atoms mxI).drop 9) ⟨mxT, mxH1 key nonce text l text.length n none, true⟩).bind (St.cut [8, 9] 3) = some (mx3 key nonce text l) := by kernel_rfl
theorem mx_h4 : execA Tryz.prog mhC 60 0 (((atoms mxI).drop 9).drop 1) (mx3 key nonce text l) = some (.ret, mx3 key nonce text l) := by kernel_rfl
end
theorem mxR_eq : mxR = .block 0 (.rangeFunc (rfG (inner mxR)) (rfP (inner mxR)) (rfA (inner mxR)) (rfB (inner mxR))) := by kernel_rfl
theorem mx_scope : nthC 1 mxB = .scope mxI := by kernel_rfl
theorem mx_weak (key nonce text : List Int) (n : Int) : Ent 0 (mx2 key nonce text n) ⟨mxT, mxH0 key nonce text (mxP key nonce n text 0) 0 n, true⟩ := by
  have e : List.replicate text.length (0 : Int) = mxP key nonce n text 0 := by simp [mxP]
  unfold mx2
  rw [e]
  refine Ent.blks ⟨PE.refl _, PE.refl _, PE.refl _, ⟨rfl, ?_⟩, PE.refl _, PE.refl _, PE.refl _, trivial⟩
  rintro e xs ⟨y, zs, hy, hz, rfl⟩
  refine ⟨y, zs, ?_, hz, rfl⟩
  rcases hy with h | ⟨p, c, a, h1, h2, h3, h4, _, h6, h7⟩
  · exact .inl h
  · exact .inr ⟨p, c, a, h1, h2, h3, h4, (by simp), h6, h7⟩
theorem mhO_true {nonce text : List Int} {n : Int} (hn : nonce.length = 12) (h0 : 0 ≤ n) (h1 : n + (text.length / 64 : Nat) ≤ 4294967295) (hl : text.length ≤ 281474976710656) : mhO nonce text n = true := by
  unfold mhO
  have e1 : ((text.length : Int) + 64 - 1).tdiv 64 = (((text.length + 63) / 64 : Nat) : Int) := by
    rw [show (text.length : Int) + 64 - 1 = ((text.length + 63 : Nat) : Int) by omega, Int.tdiv_eq_ediv_of_nonneg (by omega)]
    omega
  rw [wrap_i64 ((text.length : Int) + 64) (by omega) (by omega), wrap_i64 ((text.length : Int) + 64 - 1) (by omega) (by omega), e1, wrap_i64 (((text.length + 63) / 64 : Nat) : Int) (by omega) (by omega), wrap_i64 (4294967295 - n) (by omega) (by omega), wrap_i64 (4294967295 - n + 1) (by omega) (by omega), wrap_i64 (text.length : Int) (by omega) (by omega)]
  rw [hn, decide_eq_true h0, decide_eq_true (show n ≤ 4294967295 by omega), decide_eq_false (show ¬ ((((text.length + 63) / 64 : Nat) : Int) > 4294967295 - n + 1) by omega), decide_eq_true (show (1 : Int) * (text.length : Int) ≤ 281474976710656 by omega), beq_self_eq_true]
  rfl
theorem mix_sl {key nonce text : List Int} {n : Int} (hn : nonce.length = 12) (h0 : 0 ≤ n) (h1 : n + (text.length / 64 : Nat) ≤ 4294967295) (hl : text.length ≤ 281474976710656) :
    FnTr Tryz.prog 71 [.agg [.ints .u8 32 key], .ro false .u8 nonce, .int .i64 n, .ro false .u8 text] [] (.tup [.sl 2 0 0 1 text.length text.length false false, .nl .nilIface]) [.b [.ints .u8 32 key], .b [.ro false .u8 text], .b [.ints .u8 text.length (mixW key nonce n text)]] := by
  have hrange : Tr Tryz.prog none 0 mxR ⟨mxT, mxH0 key nonce text (mxP key nonce n text 0) 0 n, true⟩ .normal ⟨mxT, mxH1 key nonce text (mixW key nonce n text) text.length n none, true⟩ := by
    rw [mxR_eq]
    refine Tr.block ?_
    exact Tr.range (q := some (.exit 0)) (first := []) (capt := [.ptr 6 0 0, .ptr 4 0 0, .ptr 5 0 0]) (v := .tup []) true Tryz.func146 (by decide) rfl (by kernel_rfl) (h1 := fun l => mxH1 key nonce text (mixW key nonce n text) text.length n (some (mxD l))) (fun l => it_fn hn h0 h1 l) (fun l => ⟨mxD l, by kernel_rfl, by kernel_rfl, by simp [mxD], by kernel_rfl⟩) (fun l => rfl) rfl
  have hin : Tr Tryz.prog none 0 (nthC 1 mxB) (mx1 key nonce text n) .ret (mx3 key nonce text (mixW key nonce n text)) := by
    rw [mx_scope]
    refine Tr.scope (Tr.of_atoms ?_) (by simp)
    refine TrL.items mhC_ok 60 8 _ 7 (by simp) (mx_h2 key nonce text n) (mhO_true hn h0 h1 hl) (by decide) ?_
    refine TrL.pre ?_ (mx_weak key nonce text n) (by decide)
    refine TrL.item 8 (by decide) hrange ?_
    refine TrL.items mhC_ok 60 1 _ 3 (by simp) (mx_h3 key nonce text _ n) rfl (by decide) ?_
    exact TrL.rest mhC_ok 60 (mx_h4 key nonce text _) rfl
  have k : FnTr Tryz.prog 71 [.agg [.ints .u8 32 key], .ro false .u8 nonce, .int .i64 n, .ro false .u8 text] [] (.tup [.sl 2 0 0 1 text.length text.length false false, .nl .nilIface]) [.b [.ints .u8 32 key], .b [.ro false .u8 text], .b [.ints .u8 text.length (mixW key nonce n text)]] := by
    refine FnTr.mk (vs := [.sl 2 0 0 1 text.length text.length false false, .nl .nilIface]) Tryz.func71 rfl (x := .ret) (s := mx3 key nonce text (mixW key nonce n text)) ?_ (.inl rfl) (by kernel_rfl)
    refine TrL.items mhC_ok 60 1 _ 2 (by simp) (mx_h1 key nonce text n) rfl (by decide) ?_
    exact TrL.leave 1 (by decide) (by simp) hin
  exact k
theorem mix_fn {key nonce text : List Int} {n : Int} (hn : nonce.length = 12) (h0 : 0 ≤ n) (h1 : n + (text.length / 64 : Nat) ≤ 4294967295) (hl : text.length ≤ 281474976710656) :
    FnTr Tryz.prog 71 [.agg [.ints .u8 32 key], .ro false .u8 nonce, .int .i64 n, .ro false .u8 text] [] (.tup [.ro true .u8 (mixW key nonce n text), .nl .nilIface]) [] := by
  have hw : (mixW key nonce n text).length = text.length := by simp [mixW]
  have k := mix_sl (key := key) hn h0 h1 hl
  have k3 := FnTr.fz 2 0 (by simp) (by simp) k (u := .tup [.ro true .u8 (((mixW key nonce n text).drop 0).take text.length), .nl .nilIface]) (h2 := []) (p := andT (decide ((mixW key nonce n text).length = text.length)) (decide (0 + text.length ≤ text.length) && true)) (by kernel_rfl) (by rw [hw, Nat.zero_add, decide_eq_true rfl, decide_eq_true (Nat.le_refl _)]; rfl)
  rw [List.drop_zero, List.take_of_length_le (by omega)] at k3
  exact k3
noncomputable def mixTF : List SV → Option (SV × List Blk × Bool)
  | [.agg [.ints .u8 32 key], .ro false .u8 nonce, .int .i64 n, .ro false .u8 text] => some (.tup [.sl 0 0 0 1 text.length text.length false false, .nl .nilIface], [.b [.ints .u8 text.length (mixW key nonce n text)]], decide (nonce.length = 12) && decide (0 ≤ n) && decide (n + (text.length / 64 : Nat) ≤ 4294967295) && decide (text.length ≤ 281474976710656))
  | _ => none
noncomputable def mixTE : Entry Tryz.prog := .val 71 _ Tryz.func71 (by decide) rfl true 1 mixTF fun vs v new e => by
  unfold mixTF at e
  split at e
  · simp only [Option.some.injEq, Prod.mk.injEq, Bool.and_eq_true, decide_eq_true_eq] at e
    obtain ⟨rfl, rfl, ⟨⟨h1, h2⟩, h3⟩, h4⟩ := e
    exact FnTr.sel [2] (mix_sl h1 h2 h3 h4) (by kernel_rfl)
  · cases e
noncomputable def mixF : List SV → Option (SV × List Blk × Bool)
  | [.agg [.ints .u8 32 key], .ro false .u8 nonce, .int .i64 n, .ro false .u8 text] => some (.tup [.ro true .u8 (mixW key nonce n text), .nl .nilIface], [], decide (nonce.length = 12) && decide (0 ≤ n) && decide (n + (text.length / 64 : Nat) ≤ 4294967295) && decide (text.length ≤ 281474976710656))
  | _ => none
noncomputable def mixE : Entry Tryz.prog := .val 71 _ Tryz.func71 (by decide) rfl true 0 mixF fun vs v new e => by
  unfold mixF at e
  split at e
  · simp only [Option.some.injEq, Prod.mk.injEq, Bool.and_eq_true, decide_eq_true_eq] at e
    obtain ⟨rfl, rfl, ⟨⟨h1, h2⟩, h3⟩, h4⟩ := e
    exact mix_fn h1 h2 h3 h4
  · cases e
end Go.Proofs.YtibfpjeeanppjaaGreat.Cc
