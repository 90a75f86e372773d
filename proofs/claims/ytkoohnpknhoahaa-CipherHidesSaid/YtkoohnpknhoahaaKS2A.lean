/- This file proves the contracts of sha's turns and shorts, and of (*Digest).piece: a state behind a piece of the short digest. Conditions: pieces of 64 bytes. -/
import Derived.Test.YtkoohnpknhoahaaKShG
set_option linter.all false
namespace Go.Proofs.Ytkoohnpknhoahaa.S2
open Go Go.Sy Sh
abbrev V (n : Int) : Int := IntKind.u32.wrap n
theorem wrap_u32 (n : Int) : IntKind.u32.wrap n = n % 4294967296 := by simp [IntKind.wrap, IntKind.signed, IntKind.bits]
def rotN (x a : Int) : Int := orI .u32 (shlI .u32 x (andI .u64 (W a) 31).toNat) (shrI .u32 x (W (32 - andI .u64 (W a) 31)).toNat)
def rotP (x a : Int) : Int := rotN x (IntKind.i64.wrap (0 - a))
def tnP (x a b c : Int) : Int := xorI .u32 (xorI .u32 (rotP x a) (rotP x b)) (rotP x c)
def rotF : List SV → Option (SV × List Blk × Bool)
  | [.int .u32 x, .int .i64 a] => some (.int .u32 (rotN x a), [], true)
  | _ => none
set_option maxRecDepth 100000 in
noncomputable def rotE : Entry Try.prog := .val 181 _ Try.func181 (by decide) rfl false 0 rotF fun vs v new e => by
  unfold rotF at e
  split at e
  · rename_i x a
    cases e
    exact call0 ctr0 60 Try.func181 (p := andT true (W0 (32 - andI .u64 (W a) 31))) (by kernel_rfl) (by simp only [W0_true, andT_iff, and_self]) rfl
  · cases e
noncomputable def tuC : Ctr := mk (P := Try.prog) [rotE] []
theorem tuC_ok : CtrSound Try.prog tuC := mk_sound _ InlOK.nil _ _
def turnsF : List SV → Option (SV × List Blk × Bool)
  | [.int .u32 x, .int .i64 a, .int .i64 b, .int .i64 c] => some (.int .u32 (tnP x a b c), [], true)
  | _ => none
set_option maxRecDepth 100000 in
noncomputable def turnsE : Entry Try.prog := .val 182 _ Try.func182 (by decide) rfl false 0 turnsF fun vs v new e => by
  unfold turnsF at e
  split at e
  · rename_i x a b c
    cases e
    exact call0 tuC_ok 60 Try.func182 (p := true) (by kernel_rfl) rfl rfl
  · cases e
noncomputable def k32 : List Int := (List.range 64).map fun i => V (shrI .u64 (kL.getD i 0) 32)
noncomputable def shC : Ctr := mk (P := Try.prog) [longsE] []
theorem shC_ok : CtrSound Try.prog shC := mk_sound _ InlOK.nil _ _
noncomputable def shortsF : List SV → Option (SV × List Blk × Bool)
  | [] => some (.agg [.ints .u32 64 k32], [], true)
  | _ => none
set_option maxRecDepth 100000 in
noncomputable def shortsE : Entry Try.prog := .val 157 _ Try.func157 (by decide) rfl false 0 shortsF fun vs v new e => by
  unfold shortsF at e
  split at e
  · cases e
    exact call0 shC_ok 200 Try.func157 (p := true) (by kernel_rfl) rfl rfl
  · cases e
def wd (p : List Int) (i : Nat) : Int := orI .u32 (orI .u32 (orI .u32 (shlI .u32 (V (p.getD (4 * i) 0)) 24) (shlI .u32 (V (p.getD (4 * i + 1) 0)) 16)) (shlI .u32 (V (p.getD (4 * i + 2) 0)) 8)) (V (p.getD (4 * i + 3) 0))
def w16 (p : List Int) : List Int := (List.range 16).map (wd p) ++ List.replicate 48 0
def nxW (y x a b : Int) : Int := V (V (V (xorI .u32 (xorI .u32 (rotN y (-17)) (rotN y (-19))) (shrI .u32 y 10) + a) + xorI .u32 (xorI .u32 (rotN x (-7)) (rotN x (-18))) (shrI .u32 x 3)) + b)
def sched (w : List Int) : Nat → List Int
  | 0 => w
  | j + 1 => (sched w j).set (16 + j) (nxW ((sched w j).getD (14 + j) 0) ((sched w j).getD (1 + j) 0) ((sched w j).getD (9 + j) 0) ((sched w j).getD j 0))
def chW (e f g : Int) : Int := xorI .u32 (andI .u32 e f) (andI .u32 (xorI .u32 IntKind.u32.max e) g)
def mjW (a b c : Int) : Int := xorI .u32 (xorI .u32 (andI .u32 a b) (andI .u32 a c)) (andI .u32 b c)
def t1W (s : List Int) (k w : Int) : Int := V (V (V (V (s.getD 7 0 + tnP (s.getD 4 0) 6 11 25) + chW (s.getD 4 0) (s.getD 5 0) (s.getD 6 0)) + k) + w)
def t2W (s : List Int) : Int := V (tnP (s.getD 0 0) 2 13 22 + mjW (s.getD 0 0) (s.getD 1 0) (s.getD 2 0))
def rndW (s : List Int) (k w : Int) : List Int := [V (t1W s k w + t2W s), s.getD 0 0, s.getD 1 0, s.getD 2 0, V (s.getD 3 0 + t1W s k w), s.getD 4 0, s.getD 5 0, s.getD 6 0]
def rnds (s k w : List Int) : Nat → List Int
  | 0 => s
  | j + 1 => rndW (rnds s k w j) (k.getD j 0) (w.getD j 0)
def sumW (s t : List Int) : List Int := (List.range 8).map fun i => V (s.getD i 0 + t.getD i 0)
noncomputable def pieceW (s p k : List Int) : List Int := Lock (sumW s (rnds s k (sched (w16 p) 48) 64))
noncomputable def wC (b c : Bool) : Ctr := mk (P := Try.prog) [turnsE, rotE] [] fun i => if i = 58 then some b else if i = 105 then some c else none
theorem wC_ok (b c : Bool) : CtrSound Try.prog (wC b c) := mk_sound _ InlOK.nil _ _
noncomputable def wC0 : Ctr := mk (P := Try.prog) [turnsE, rotE] []
theorem wC0_ok : CtrSound Try.prog wC0 := mk_sound _ InlOK.nil _ _
noncomputable def wB : Code := bodyOf Try.f158
noncomputable def dg (st r : List Int) (n : Int) : Blk := .b [.ints .u32 8 st, .ro true .u8 r, .int .i64 n]
noncomputable def wS (st r : List Int) (n : Int) (kk w : List Int) (i : Int) : St := ⟨slotsOf 195 [(0, .ptr 0 0 0), (2, .ptr 1 0 0), (6, .ptr 2 0 0), (8, .int .i64 i)], [dg st r n, .b [.ints .u32 64 kk], .b [.ints .u32 64 w]], true⟩
noncomputable def wR (st r : List Int) (n : Int) (kk w s : List Int) (i : Int) : St := ⟨slotsOf 195 [(0, .ptr 0 0 0), (2, .ptr 1 0 0), (6, .ptr 2 0 0), (13, .ptr 3 0 0), (104, .int .i64 i)], [dg st r n, .b [.ints .u32 64 kk], .b [.ints .u32 64 w], .b [.ints .u32 8 (lst 8 s)]], true⟩
section
variable (st r p kk w s : List Int) (n i : Int)
set_option maxRecDepth 100000 in
theorem w_head : (execL Try.prog wC0 200 2 4 (atoms wB) ⟨slots0 Try.f158.ntmps [.ptr 0 0 0, .ro false .u8 (lst 64 p), .ptr 1 0 0], [dg st r n, .b [.ints .u32 64 kk]], true⟩).bind (St.cut [0, 2, 6, 8] 3) = some (wS st r n kk (w16 p) 16) := by kernel_rfl
def nxI (w : List Int) (i : Int) : Int := nxW (w.getD (0 + (IntKind.i64.wrap (i - 2)).toNat) 0) (w.getD (0 + (IntKind.i64.wrap (i - 15)).toNat) 0) (w.getD (0 + (IntKind.i64.wrap (i - 7)).toNat) 0) (w.getD (0 + (IntKind.i64.wrap (i - 16)).toNat) 0)
def nxO (i : Int) (n : Nat) : Bool := andT (andT (andT (andT (andT (andT (andT (andT (andT (andT (andT true (decide (i < 64))) (inB (IntKind.i64.wrap (i - 15)) 64)) (decide (0 + (IntKind.i64.wrap (i - 15)).toNat < 64))) (inB (IntKind.i64.wrap (i - 2)) 64)) (decide (0 + (IntKind.i64.wrap (i - 2)).toNat < 64)))
  (inB (IntKind.i64.wrap (i - 7)) 64)) (decide (0 + (IntKind.i64.wrap (i - 7)).toNat < 64))) (inB (IntKind.i64.wrap (i - 16)) 64)) (decide (0 + (IntKind.i64.wrap (i - 16)).toNat < 64))) (inB i 64)) (decide (0 + i.toNat < 64) && decide (n = 64))
set_option maxRecDepth 100000 in
theorem w_next : (exec Try.prog (wC true true) 200 2 (inner (inner (nthC 4 wB))) (wS st r n kk w i)).bind (fun r => (r.2.cut [0, 2, 6, 8] 3).map fun q => (r.1, q)) = some (.normal, { wS st r n kk (w.set (0 + i.toNat) (nxI w i)) (IntKind.i64.wrap (i + 1)) with ob := nxO i w.length }) := by kernel_rfl
set_option maxRecDepth 100000 in
theorem w_nextE : (exec Try.prog (wC false true) 200 2 (inner (inner (nthC 4 wB))) (wS st r n kk w i)).bind (fun r => (r.2.cut [0, 2, 6, 8] 3).map fun q => (r.1, q)) = some (.exit 2, { wS st r n kk w i with ob := andT true (!decide (i < 64)) }) := by kernel_rfl
set_option maxRecDepth 100000 in
theorem w_mid : (execL Try.prog wC0 200 2 2 ((atoms wB).drop 5) (wS (lst 8 st) r n kk w i)).bind (St.cut [0, 2, 6, 13, 104] 4) = some (wR (lst 8 st) r n kk w st 0) := by kernel_rfl
def rnO (i : Int) : Bool := andT (andT (andT (andT (andT true (decide (i < 64))) (inB i 64)) (decide (0 + i.toNat < 64))) (inB i 64)) (decide (0 + i.toNat < 64))
set_option maxRecDepth 100000 in
theorem w_rnd : (exec Try.prog (wC true true) 200 2 (inner (inner (nthC 7 wB))) (wR st r n kk w s i)).bind (fun r => (r.2.cut [0, 2, 6, 13, 104] 4).map fun q => (r.1, q)) = some (.normal, { wR st r n kk w (rndW (lst 8 s) (kk.getD (0 + i.toNat) 0) (w.getD (0 + i.toNat) 0)) (IntKind.i64.wrap (i + 1)) with ob := rnO i }) := by kernel_rfl
set_option maxRecDepth 100000 in
theorem w_rndE : (exec Try.prog (wC true false) 200 2 (inner (inner (nthC 7 wB))) (wR st r n kk w s i)).bind (fun r => (r.2.cut [0, 2, 6, 13, 104] 4).map fun q => (r.1, q)) = some (.exit 4, { wR st r n kk w s i with ob := andT true (!decide (i < 64)) }) := by kernel_rfl
end
theorem sched_len (w : List Int) : ∀ j, (sched w j).length = w.length
  | 0 => rfl
  | j + 1 => by rw [sched, List.length_set]; exact sched_len w j
theorem w16_len (p : List Int) : (w16 p).length = 64 := by simp [w16]
theorem nxI_eq {w : List Int} {j : Nat} (hj : j < 48) : nxI w (16 + j) = nxW (w.getD (14 + j) 0) (w.getD (1 + j) 0) (w.getD (9 + j) 0) (w.getD j 0) := by
  unfold nxI
  rw [wrap_i64 _ (by omega) (by omega), wrap_i64 _ (by omega) (by omega), wrap_i64 _ (by omega) (by omega), wrap_i64 _ (by omega) (by omega)]
  rw [show 0 + ((16 : Int) + j - 2).toNat = 14 + j by omega, show 0 + ((16 : Int) + j - 15).toNat = 1 + j by omega, show 0 + ((16 : Int) + j - 7).toNat = 9 + j by omega, show 0 + ((16 : Int) + j - 16).toNat = j by omega]
theorem nxO_true {j : Nat} (hj : j < 48) : nxO (16 + j) 64 = true := by
  unfold nxO
  rw [wrap_i64 _ (by omega) (by omega), wrap_i64 _ (by omega) (by omega), wrap_i64 _ (by omega) (by omega), wrap_i64 _ (by omega) (by omega)]
  simp only [andT_iff, Bool.and_eq_true, decide_eq_true_eq, true_and]
  refine ⟨⟨⟨⟨⟨⟨⟨⟨⟨⟨?_, inB_true (by omega) (by omega)⟩, ?_⟩, inB_true (by omega) (by omega)⟩, ?_⟩, inB_true (by omega) (by omega)⟩, ?_⟩, inB_true (by omega) (by omega)⟩, ?_⟩, inB_true (by omega) (by omega)⟩, ?_⟩ <;> first | omega | exact ⟨by omega, trivial⟩
theorem rnO_true {j : Nat} (hj : j < 64) : rnO (j : Int) = true := by
  unfold rnO
  simp only [andT_iff, decide_eq_true_eq, true_and]
  refine ⟨⟨⟨⟨?_, inB_true (by omega) (by omega)⟩, ?_⟩, inB_true (by omega) (by omega)⟩, ?_⟩ <;> omega
theorem lst_rnd (s : List Int) (k w : Int) : lst 8 (rndW s k w) = rndW s k w := rfl
theorem rnds_lst (s k w : List Int) : ∀ j, lst 8 (rnds (lst 8 s) k w j) = rnds (lst 8 s) k w j
  | 0 => lst_eq (lst_length _ _)
  | _ + 1 => lst_rnd _ _ _
theorem w_loop (st r p kk : List Int) (n : Int) : Tr Try.prog none 2 (nthC 4 wB) (wS (lst 8 st) r n kk (w16 p) 16) .normal (wS (lst 8 st) r n kk (sched (w16 p) 48) 64) := by
  have key := Tr.loop (P := Try.prog) (ro := none) (k := 2) 2 (c := nthC 4 wB) (by kernel_rfl) (fun j : Nat => wS (lst 8 st) r n kk (sched (w16 p) j) (16 + j)) 48 (s' := wS (lst 8 st) r n kk (sched (w16 p) 48) 64) (fun j hj => ?_) ?_
  · exact key
  · have k := w_next (lst 8 st) r kk (sched (w16 p) j) n (16 + j)
    rw [sched_len, w16_len, nxO_true hj, nxI_eq hj, wrap_i64 _ (by omega) (by omega)] at k
    refine Tr.post (Tr.cut (wC_ok true true) 200 _ 3 (by omega) k rfl) (Ent.same ?_ ?_)
    · show (wS _ _ _ _ _ _).t = (wS _ _ _ _ _ _).t
      rw [show ((16 : Int) + (j : Int) + 1) = 16 + ((j + 1 : Nat) : Int) by omega]; rfl
    · show (wS _ _ _ _ _ _).h = (wS _ _ _ _ _ _).h
      rw [show 0 + ((16 : Int) + (j : Int)).toNat = 16 + j by omega]; rfl
  · have k := w_nextE (lst 8 st) r kk (sched (w16 p) 48) n 64
    exact Tr.post (Tr.cut (wC_ok false true) 200 _ 3 (by omega) k rfl) (Ent.same rfl rfl)
theorem w_loop2 (st r kk w : List Int) (n : Int) : Tr Try.prog none 2 (nthC 7 wB) (wR (lst 8 st) r n kk w st 0) .normal (wR (lst 8 st) r n kk w (rnds (lst 8 st) kk w 64) 64) := by
  have key := Tr.loop (P := Try.prog) (ro := none) (k := 2) 4 (c := nthC 7 wB) (by kernel_rfl) (fun j : Nat => wR (lst 8 st) r n kk w (rnds (lst 8 st) kk w j) j) 64 (s' := wR (lst 8 st) r n kk w (rnds (lst 8 st) kk w 64) 64) (fun j hj => ?_) ?_
  · refine Tr.pre key (Ent.same rfl ?_)
    show (wR _ _ _ _ _ _ _).h = (wR _ _ _ _ _ _ _).h
    unfold wR
    simp only [rnds]
    rw [lst_eq (lst_length 8 st)]
  · have k := w_rnd (lst 8 st) r kk w (rnds (lst 8 st) kk w j) n j
    rw [rnO_true hj, wrap_i64 _ (by omega) (by omega), rnds_lst] at k
    refine Tr.post (Tr.cut (wC_ok true true) 200 _ 4 (by omega) k rfl) (Ent.same ?_ ?_)
    · show (wR _ _ _ _ _ _ _).t = (wR _ _ _ _ _ _ _).t
      rw [show ((j : Int) + 1) = ((j + 1 : Nat) : Int) by omega]; rfl
    · show (wR _ _ _ _ _ _ _).h = (wR _ _ _ _ _ _ _).h
      rw [show 0 + (j : Int).toNat = j by omega]; rfl
  · have k := w_rndE (lst 8 st) r kk w (rnds (lst 8 st) kk w 64) n 64
    exact Tr.post (Tr.cut (wC_ok true false) 200 _ 4 (by omega) k rfl) (Ent.same rfl rfl)
set_option maxRecDepth 100000 in
theorem piece_fn {st p kk : List Int} (r : List Int) (n : Int) (hs : st.length = 8) (hp : p.length = 64) : FnTr Try.prog 158 [.ptr 0 0 0, .ro false .u8 p, .ptr 1 0 0] [dg st r n, .b [.ints .u32 64 kk]] (.tup []) [dg (pieceW st p kk) r n, .b [.ints .u32 64 kk]] := by
  have key : FnTr Try.prog 158 [.ptr 0 0 0, .ro false .u8 (lst 64 p), .ptr 1 0 0] [dg (lst 8 st) r n, .b [.ints .u32 64 kk]] (.tup []) [dg (pieceW (lst 8 st) p kk) r n, .b [.ints .u32 64 kk]] := by
    rw [pieceW, Lock_eq]
    refine FnTr.restM wC0_ok 200 8 2 Try.func158 (by simp) rfl (fun s' x h => ?_) (s := wR (lst 8 st) r n kk (sched (w16 p) 48) (rnds (lst 8 st) kk (sched (w16 p) 48) 64) 64) (p := true) (by rw [← rnds_lst]; kernel_rfl) rfl rfl rfl
    refine TrL.items wC0_ok 200 4 _ 3 (by simp) (w_head (lst 8 st) r p kk n) rfl (by decide) ?_
    refine TrL.item 4 (by decide) (w_loop st r p kk n) ?_
    refine TrL.items wC0_ok 200 2 _ 4 (by simp) (w_mid st r kk _ n 64) rfl (by decide) ?_
    exact TrL.item 7 (by decide) (w_loop2 st r kk _ n) h
  rw [lst_eq hp, lst_eq hs] at key
  exact key
def pickP (vs : List SV) (_ : List Blk) : List Nat := match vs with
  | [.ptr a _ _, _, .ptr b _ _] => [a, b]
  | _ => []
noncomputable def pieceF : List SV → List Blk → Option (SV × List Blk × Bool)
  | [.ptr 0 0 0, .ro false .u8 p, .ptr 1 0 0], [.b [.ints .u32 8 st, .ro true .u8 r, .int .i64 n], .b [.ints .u32 64 kk]] => some (.tup [], [dg (pieceW st p kk) r n, .b [.ints .u32 64 kk]], decide (st.length = 8) && decide (p.length = 64))
  | _, _ => none
noncomputable def pieceE : Entry Try.prog := .mut 158 _ Try.func158 (by decide) rfl pickP 0 pieceF fun vs h0 v h1 e => by
  unfold pieceF at e
  split at e
  · simp only [Option.some.injEq, Prod.mk.injEq, Bool.and_eq_true, decide_eq_true_eq] at e
    obtain ⟨rfl, rfl, hs, hp⟩ := e
    exact piece_fn _ _ hs hp
  · cases e
end Go.Proofs.Ytkoohnpknhoahaa.S2
