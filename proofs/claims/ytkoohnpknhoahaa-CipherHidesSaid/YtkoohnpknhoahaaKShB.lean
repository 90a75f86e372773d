/- This file holds the texts ShA, ShB, a section each. No conditions beyond those in the theorems. -/
import Derived.Test.YtkoohnpknhoahaaKMd
import Derived.Test.YtkoohnpknhoahaaKSxB
import Derived.Test.YtkoohnpknhoahaaChecked
import Derived.Laws.Externs
import Derived.Laws.BitsLemmas
import Derived.IntWalk
set_option linter.all false
section
namespace Go.Proofs.Ytkoohnpknhoahaa.Sh
open Go Go.Sy
abbrev W (n : Int) : Int := IntKind.u64.wrap n
def W0 (n : Int) : Bool := decide (0 ≤ W n)
theorem wrap_u64 (n : Int) : IntKind.u64.wrap n = n % 18446744073709551616 := by simp [IntKind.wrap, IntKind.signed, IntKind.bits]
theorem W0_true (n : Int) : W0 n = true := by unfold W0 W; rw [wrap_u64]; exact decide_eq_true (Int.emod_nonneg _ (by decide))
def rotP (x a : Int) : Int := orI .u64 (shlI .u64 x (andI .u64 (W (IntKind.i64.wrap (0 - a))) 63).toNat) (shrI .u64 x (W (64 - andI .u64 (W (IntKind.i64.wrap (0 - a))) 63)).toNat)
def rotO (a : Int) : Bool := W0 (64 - andI .u64 (W (IntKind.i64.wrap (0 - a))) 63)
def tnP (x a b c : Int) : Int := xorI .u64 (xorI .u64 (rotP x a) (rotP x b)) (rotP x c)
theorem inlRot : InlOK Try.prog [(163, Try.f163)] := InlOK.cons Try.func163 (by decide) InlOK.nil
noncomputable def rotG := mk (P := Try.prog) [] [(163, Try.f163)]
theorem rotG_ok : CtrSound Try.prog rotG := mk_sound _ inlRot _ _
def turnsF : List SV → Option (SV × List Blk × Bool)
  | [.int .u64 x, .int .i64 a, .int .i64 b, .int .i64 c] => some (.int .u64 (tnP x a b c), [], true)
  | _ => none
set_option maxRecDepth 100000 in
noncomputable def turnsE : Entry Try.prog := .val 164 _ Try.func164 (by decide) rfl false 0 turnsF fun vs v new e => by
  unfold turnsF at e
  split at e
  · rename_i x a b c
    cases e
    exact call0 rotG_ok 60 Try.func164 (p := andT (andT (andT true (andT true (rotO a))) (andT true (rotO b))) (andT true (rotO c))) (by kernel_rfl) (by simp only [rotO, W0_true, andT_iff, and_self]) rfl
  · cases e
def rotF : List SV → Option (SV × List Blk × Bool)
  | [.int .u64 x, .int .i64 a] => some (.int .u64 (orI .u64 (shlI .u64 x (andI .u64 (W a) 63).toNat) (shrI .u64 x (W (64 - andI .u64 (W a) 63)).toNat)), [], true)
  | _ => none
theorem ctr0 : CtrSound Try.prog (mk (P := Try.prog) [] []) := mk_sound _ InlOK.nil _ _
set_option maxRecDepth 100000 in
noncomputable def rotE : Entry Try.prog := .val 163 _ Try.func163 (by decide) rfl false 0 rotF fun vs v new e => by
  unfold rotF at e
  split at e
  · rename_i x a
    cases e
    exact call0 ctr0 60 Try.func163 (p := andT true (W0 (64 - andI .u64 (W a) 63))) (by kernel_rfl) (by simp only [W0_true, andT_iff, and_self]) rfl
  · cases e
end Go.Proofs.Ytkoohnpknhoahaa.Sh
end
section
namespace Go.Proofs.Ytkoohnpknhoahaa.Sh
open Go Go.Sy
def rotN (x a : Int) : Int := orI .u64 (shlI .u64 x (andI .u64 (W a) 63).toNat) (shrI .u64 x (W (64 - andI .u64 (W a) 63)).toNat)
def wd (p : List Int) (i : Nat) : Int := (List.range 8).foldl (fun a j => orI .u64 (shlI .u64 a 8) (W (p.getD (8 * i + j) 0))) 0
def w16 (p : List Int) : List Int := (List.range 16).map (wd p) ++ List.replicate 64 0
def nxW (y x a b : Int) : Int := W (W (W (xorI .u64 (xorI .u64 (rotN y (-19)) (rotN y (-61))) (shrI .u64 y 6) + a) + xorI .u64 (xorI .u64 (rotN x (-1)) (rotN x (-8))) (shrI .u64 x 7)) + b)
def sched (w : List Int) : Nat → List Int
  | 0 => w
  | j + 1 => (sched w j).set (16 + j) (nxW ((sched w j).getD (14 + j) 0) ((sched w j).getD (1 + j) 0) ((sched w j).getD (9 + j) 0) ((sched w j).getD j 0))
def chW (e f g : Int) : Int := xorI .u64 (andI .u64 e f) (andI .u64 (xorI .u64 IntKind.u64.max e) g)
def mjW (a b c : Int) : Int := xorI .u64 (xorI .u64 (andI .u64 a b) (andI .u64 a c)) (andI .u64 b c)
def t1W (s : List Int) (k w : Int) : Int := W (W (W (W (s.getD 7 0 + tnP (s.getD 4 0) 14 18 41) + chW (s.getD 4 0) (s.getD 5 0) (s.getD 6 0)) + k) + w)
def t2W (s : List Int) : Int := W (tnP (s.getD 0 0) 28 34 39 + mjW (s.getD 0 0) (s.getD 1 0) (s.getD 2 0))
def rndW (s : List Int) (k w : Int) : List Int := [W (t1W s k w + t2W s), s.getD 0 0, s.getD 1 0, s.getD 2 0, W (s.getD 3 0 + t1W s k w), s.getD 4 0, s.getD 5 0, s.getD 6 0]
def rnds (s k w : List Int) : Nat → List Int
  | 0 => s
  | j + 1 => rndW (rnds s k w j) (k.getD j 0) (w.getD j 0)
def sumW (s t : List Int) : List Int := (List.range 8).map fun i => W (s.getD i 0 + t.getD i 0)
noncomputable def wideW (s p k : List Int) : List Int := Lock (sumW s (rnds s k (sched (w16 p) 64) 80))
noncomputable def wC (b c : Bool) : Ctr := mk (P := Try.prog) [turnsE, rotE] [] fun i => if i = 44 then some b else if i = 88 then some c else none
theorem wC_ok (b c : Bool) : CtrSound Try.prog (wC b c) := mk_sound _ InlOK.nil _ _
noncomputable def wC0 : Ctr := mk (P := Try.prog) [turnsE, rotE] []
theorem wC0_ok : CtrSound Try.prog wC0 := mk_sound _ InlOK.nil _ _
noncomputable def wB : Code := bodyOf Try.f130
def z8 : List Int := [0, 0, 0, 0, 0, 0, 0, 0]
noncomputable def wS (st kk w : List Int) (i : Int) : St := ⟨slotsOf 174 [(2, .ptr 0 0 0), (3, .ptr 1 0 0), (6, .ptr 2 0 0), (7, .ptr 3 0 0), (10, .int .i64 i)], [.b [.ints .u64 80 kk], .b [.ints .u64 8 st], .b [.ints .u64 8 z8], .b [.ints .u64 80 w]], true⟩
noncomputable def wR (st kk w s : List Int) (i : Int) : St := ⟨slotsOf 174 [(2, .ptr 0 0 0), (3, .ptr 1 0 0), (6, .ptr 2 0 0), (7, .ptr 3 0 0), (15, .ptr 4 0 0), (87, .int .i64 i)], [.b [.ints .u64 80 kk], .b [.ints .u64 8 st], .b [.ints .u64 8 z8], .b [.ints .u64 80 w], .b [.ints .u64 8 (lst 8 s)]], true⟩
section
variable (st p kk w s : List Int) (i : Int)
set_option maxRecDepth 100000 in
theorem w_head : (execL Try.prog wC0 200 1 5 (atoms wB) ⟨slots0 Try.f130.ntmps [.agg [.ints .u64 8 (lst 8 st)], .ro false .u8 (lst 128 p), .ptr 0 0 0], [.b [.ints .u64 80 kk]], true⟩).bind (St.cut [2, 3, 6, 7, 10] 4) = some (wS (lst 8 st) kk (w16 p) 16) := by kernel_rfl
def nxI (w : List Int) (i : Int) : Int := nxW (w.getD (0 + (IntKind.i64.wrap (i - 2)).toNat) 0) (w.getD (0 + (IntKind.i64.wrap (i - 15)).toNat) 0) (w.getD (0 + (IntKind.i64.wrap (i - 7)).toNat) 0) (w.getD (0 + (IntKind.i64.wrap (i - 16)).toNat) 0)
def rdO (i : Int) : Bool := andT (inB i 80) (decide (0 + i.toNat < 80))
def nxO (i : Int) (n : Nat) : Bool := andT (andT (andT (andT (andT (andT (andT (andT (andT (andT (andT true (decide (i < 80))) (inB (IntKind.i64.wrap (i - 15)) 80)) (decide (0 + (IntKind.i64.wrap (i - 15)).toNat < 80))) (inB (IntKind.i64.wrap (i - 2)) 80)) (decide (0 + (IntKind.i64.wrap (i - 2)).toNat < 80)))
  (inB (IntKind.i64.wrap (i - 7)) 80)) (decide (0 + (IntKind.i64.wrap (i - 7)).toNat < 80))) (inB (IntKind.i64.wrap (i - 16)) 80)) (decide (0 + (IntKind.i64.wrap (i - 16)).toNat < 80))) (inB i 80)) (decide (0 + i.toNat < 80) && decide (n = 80))
set_option maxRecDepth 100000 in
theorem w_next : (exec Try.prog (wC true true) 200 1 (inner (inner (nthC 5 wB))) (wS st kk w i)).bind (fun r => (r.2.cut [2, 3, 6, 7, 10] 4).map fun q => (r.1, q)) = some (.normal, { wS st kk (w.set (0 + i.toNat) (nxI w i)) (IntKind.i64.wrap (i + 1)) with ob := nxO i w.length }) := by kernel_rfl
set_option maxRecDepth 100000 in
theorem w_nextE : (exec Try.prog (wC false true) 200 1 (inner (inner (nthC 5 wB))) (wS st kk w i)).bind (fun r => (r.2.cut [2, 3, 6, 7, 10] 4).map fun q => (r.1, q)) = some (.exit 4, { wS st kk w i with ob := andT true (!decide (i < 80)) }) := by kernel_rfl
set_option maxRecDepth 100000 in
theorem w_mid : (execL Try.prog wC0 200 1 2 ((atoms wB).drop 6) (wS (lst 8 st) kk w i)).bind (St.cut [2, 3, 6, 7, 15, 87] 5) = some (wR (lst 8 st) kk w st 0) := by kernel_rfl
def rnO (i : Int) : Bool := andT (andT (andT (andT (andT true (decide (i < 80))) (inB i 80)) (decide (0 + i.toNat < 80))) (inB i 80)) (decide (0 + i.toNat < 80))
set_option maxRecDepth 100000 in
theorem w_rnd : (exec Try.prog (wC true true) 200 1 (inner (inner (nthC 8 wB))) (wR st kk w s i)).bind (fun r => (r.2.cut [2, 3, 6, 7, 15, 87] 5).map fun q => (r.1, q)) = some (.normal, { wR st kk w (rndW (lst 8 s) (kk.getD (0 + i.toNat) 0) (w.getD (0 + i.toNat) 0)) (IntKind.i64.wrap (i + 1)) with ob := rnO i }) := by kernel_rfl
set_option maxRecDepth 100000 in
theorem w_rndE : (exec Try.prog (wC true false) 200 1 (inner (inner (nthC 8 wB))) (wR st kk w s i)).bind (fun r => (r.2.cut [2, 3, 6, 7, 15, 87] 5).map fun q => (r.1, q)) = some (.exit 6, { wR st kk w s i with ob := andT true (!decide (i < 80)) }) := by kernel_rfl
end
theorem wrap_i64 (n : Int) (h0 : -9223372036854775808 ≤ n) (h1 : n < 9223372036854775808) : IntKind.i64.wrap n = n := IntWalk.i64_in n (by omega)
theorem sched_len (w : List Int) : ∀ j, (sched w j).length = w.length
  | 0 => rfl
  | j + 1 => by rw [sched, List.length_set]; exact sched_len w j
theorem w16_len (p : List Int) : (w16 p).length = 80 := by simp [w16]
theorem nxI_eq {w : List Int} {j : Nat} (hj : j < 64) : nxI w (16 + j) = nxW (w.getD (14 + j) 0) (w.getD (1 + j) 0) (w.getD (9 + j) 0) (w.getD j 0) := by
  unfold nxI
  rw [wrap_i64 _ (by omega) (by omega), wrap_i64 _ (by omega) (by omega), wrap_i64 _ (by omega) (by omega), wrap_i64 _ (by omega) (by omega)]
  rw [show 0 + ((16 : Int) + j - 2).toNat = 14 + j by omega, show 0 + ((16 : Int) + j - 15).toNat = 1 + j by omega, show 0 + ((16 : Int) + j - 7).toNat = 9 + j by omega, show 0 + ((16 : Int) + j - 16).toNat = j by omega]
theorem inB_true {i : Int} {n : Nat} (h0 : 0 ≤ i) (h1 : i < n) : inB i n = true := by
  unfold inB
  simp only [Bool.and_eq_true, decide_eq_true_eq]
  omega
theorem nxO_true {j : Nat} (hj : j < 64) : nxO (16 + j) 80 = true := by
  unfold nxO
  rw [wrap_i64 _ (by omega) (by omega), wrap_i64 _ (by omega) (by omega), wrap_i64 _ (by omega) (by omega), wrap_i64 _ (by omega) (by omega)]
  simp only [andT_iff, Bool.and_eq_true, decide_eq_true_eq, true_and]
  refine ⟨⟨⟨⟨⟨⟨⟨⟨⟨⟨?_, inB_true (by omega) (by omega)⟩, ?_⟩, inB_true (by omega) (by omega)⟩, ?_⟩, inB_true (by omega) (by omega)⟩, ?_⟩, inB_true (by omega) (by omega)⟩, ?_⟩, inB_true (by omega) (by omega)⟩, ?_⟩ <;> first | omega | exact ⟨by omega, trivial⟩
theorem rnO_true {j : Nat} (hj : j < 80) : rnO (j : Int) = true := by
  unfold rnO
  simp only [andT_iff, decide_eq_true_eq, true_and]
  refine ⟨⟨⟨⟨?_, inB_true (by omega) (by omega)⟩, ?_⟩, inB_true (by omega) (by omega)⟩, ?_⟩ <;> omega
theorem lst_rnd (s : List Int) (k w : Int) : lst 8 (rndW s k w) = rndW s k w := rfl
theorem rnds_lst (s k w : List Int) : ∀ j, lst 8 (rnds (lst 8 s) k w j) = rnds (lst 8 s) k w j
  | 0 => lst_eq (lst_length _ _)
  | _ + 1 => lst_rnd _ _ _
theorem VE.lst (k : IntKind) (n : Nat) (l : List Int) : VE (.agg [.ints k n l]) (.agg [.ints k n (lst n l)]) := fun e _ ⟨ys, h1, h2⟩ => ⟨ys, (PE.lst k n l).2 e ys h1, h2⟩
theorem w_loop (st p kk : List Int) : Tr Try.prog none 1 (nthC 5 wB) (wS (lst 8 st) kk (w16 p) 16) .normal (wS (lst 8 st) kk (sched (w16 p) 64) 80) := by
  have key := Tr.loop (P := Try.prog) (ro := none) (k := 1) 4 (c := nthC 5 wB) (by kernel_rfl) (fun j : Nat => wS (lst 8 st) kk (sched (w16 p) j) (16 + j)) 64 (s' := wS (lst 8 st) kk (sched (w16 p) 64) 80) (fun j hj => ?_) ?_
  · exact key
  · have k := w_next (lst 8 st) kk (sched (w16 p) j) (16 + j)
    rw [sched_len, w16_len, nxO_true hj, nxI_eq hj, wrap_i64 _ (by omega) (by omega)] at k
    refine Tr.post (Tr.cut (wC_ok true true) 200 _ 4 (by omega) k rfl) (Ent.same ?_ ?_)
    · show (wS _ _ _ _).t = (wS _ _ _ _).t
      rw [show ((16 : Int) + (j : Int) + 1) = 16 + ((j + 1 : Nat) : Int) by omega]; rfl
    · show (wS _ _ _ _).h = (wS _ _ _ _).h
      rw [show 0 + ((16 : Int) + (j : Int)).toNat = 16 + j by omega]; rfl
  · have k := w_nextE (lst 8 st) kk (sched (w16 p) 64) 80
    exact Tr.post (Tr.cut (wC_ok false true) 200 _ 4 (by omega) k rfl) (Ent.same rfl rfl)
theorem w_loop2 (st kk w : List Int) : Tr Try.prog none 1 (nthC 8 wB) (wR (lst 8 st) kk w st 0) .normal (wR (lst 8 st) kk w (rnds (lst 8 st) kk w 80) 80) := by
  have key := Tr.loop (P := Try.prog) (ro := none) (k := 1) 6 (c := nthC 8 wB) (by kernel_rfl) (fun j : Nat => wR (lst 8 st) kk w (rnds (lst 8 st) kk w j) j) 80 (s' := wR (lst 8 st) kk w (rnds (lst 8 st) kk w 80) 80) (fun j hj => ?_) ?_
  · refine Tr.pre key (Ent.same rfl ?_)
    show (wR _ _ _ _ _).h = (wR _ _ _ _ _).h
    unfold wR
    simp only [rnds]
    rw [lst_eq (lst_length 8 st)]
  · have k := w_rnd (lst 8 st) kk w (rnds (lst 8 st) kk w j) j
    rw [rnO_true hj, wrap_i64 _ (by omega) (by omega), rnds_lst] at k
    refine Tr.post (Tr.cut (wC_ok true true) 200 _ 5 (by omega) k rfl) (Ent.same ?_ ?_)
    · show (wR _ _ _ _ _).t = (wR _ _ _ _ _).t
      rw [show ((j : Int) + 1) = ((j + 1 : Nat) : Int) by omega]; rfl
    · show (wR _ _ _ _ _).h = (wR _ _ _ _ _).h
      rw [show 0 + (j : Int).toNat = j by omega]; rfl
  · have k := w_rndE (lst 8 st) kk w (rnds (lst 8 st) kk w 80) 80
    exact Tr.post (Tr.cut (wC_ok true false) 200 _ 5 (by omega) k rfl) (Ent.same rfl rfl)
set_option maxRecDepth 100000 in
theorem wide_fn {st p kk : List Int} (hp : p.length = 128) : FnTr Try.prog 130 [.agg [.ints .u64 8 st], .ro false .u8 p, .ptr 0 0 0] [.b [.ints .u64 80 kk]] (.agg [.ints .u64 8 (wideW (lst 8 st) p kk)]) [.b [.ints .u64 80 kk]] := by
  have key : FnTr Try.prog 130 [.agg [.ints .u64 8 (lst 8 st)], .ro false .u8 (lst 128 p), .ptr 0 0 0] [.b [.ints .u64 80 kk]] (.agg [.ints .u64 8 (wideW (lst 8 st) p kk)]) [.b [.ints .u64 80 kk]] := by
    rw [wideW, Lock_eq]
    refine FnTr.restM wC0_ok 200 9 1 Try.func130 (by simp) rfl (fun s' x h => ?_) (s := wR (lst 8 st) kk (sched (w16 p) 64) (rnds (lst 8 st) kk (sched (w16 p) 64) 80) 80) (p := true) (by rw [← rnds_lst]; kernel_rfl) rfl rfl rfl
    refine TrL.items wC0_ok 200 5 _ 4 (by simp) (w_head st p kk) rfl (by decide) ?_
    refine TrL.item 5 (by decide) (w_loop st p kk) ?_
    refine TrL.items wC0_ok 200 2 _ 5 (by simp) (w_mid st kk _ 80) rfl (by decide) ?_
    exact TrL.item 8 (by decide) (w_loop2 st kk _) h
  rw [lst_eq hp] at key
  exact FnTr.conv key ⟨VE.lst _ _ _, VE.refl _, VE.refl _, trivial⟩ ⟨PE.refl _, trivial⟩ (VE.refl _) ⟨PE.refl _, trivial⟩
end Go.Proofs.Ytkoohnpknhoahaa.Sh
end
