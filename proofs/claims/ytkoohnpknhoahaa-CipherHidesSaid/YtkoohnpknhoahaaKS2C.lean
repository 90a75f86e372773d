/- This file holds the texts S2B, S2C, a section each. No conditions beyond those in the theorems. -/
import Derived.Test.YtkoohnpknhoahaaKS2A
import Derived.Test.YtkoohnpknhoahaaKShI
set_option linter.all false
section
namespace Go.Proofs.Ytkoohnpknhoahaa.S2
open Go Go.Sy Sh
noncomputable def stN (p kk st : List Int) : Nat → List Int
  | 0 => st
  | j + 1 => pieceW (stN p kk st j) ((p.drop (64 * j)).take 64) kk
theorem pieceW_len (s p k : List Int) : (pieceW s p k).length = 8 := by rw [pieceW, Lock_eq]; simp [sumW]
theorem stN_len {p kk st : List Int} (h : st.length = 8) : ∀ j, (stN p kk st j).length = 8
  | 0 => h
  | _ + 1 => pieceW_len _ _ _
noncomputable def b32 : List Int := (List.range 8).map fun i => V (shrI .u64 (bL.getD i 0) 32)
theorem b32_len : b32.length = 8 := by simp [b32]
noncomputable def nwC : Ctr := mk (P := Try.prog) [beginE] []
theorem nwC_ok : CtrSound Try.prog nwC := mk_sound _ InlOK.nil _ _
set_option maxRecDepth 100000 in
theorem new_fn : FnTr Try.prog 121 [] [] (.ptr 0 0 0) [dg b32 [] 0] := by
  have k : FnTr Try.prog 121 [] [] (.ptr 0 0 0) [.b [.ints .u32 8 b32, .nl (.slice none 0 0), .int .i64 0]] :=
    callM nwC_ok 200 Try.func121 1 (by simp) (p := true) (by kernel_rfl) rfl rfl rfl
  refine FnTr.conv k trivial trivial (VE.refl _) ⟨⟨rfl, ?_⟩, trivial⟩
  rintro e xs ⟨zs, ⟨y, us, hy, h2, rfl⟩, rfl⟩
  have hy' : y = .slice none 0 0 := hy
  subst hy'
  exact ⟨_, ⟨.slice none 0 0, us, .inl ⟨rfl, none, 0, rfl, fun _ => rfl⟩, h2, rfl⟩, rfl⟩
noncomputable def newF : List SV → Option (SV × List Blk × Bool)
  | [] => some (.ptr 0 0 0, [dg b32 [] 0], true)
  | _ => none
noncomputable def newE : Entry Try.prog := .val 121 _ Try.func121 (by decide) rfl false 1 newF fun vs v new e => by
  unfold newF at e
  split at e
  · cases e; exact new_fn
  · cases e
noncomputable def adC (b : Bool) : Ctr := mk (P := Try.prog) [concatE, shortsE, pieceE, cloneE] [] fun i => if i = 27 then some b else none
theorem adC_ok (b : Bool) : CtrSound Try.prog (adC b) := mk_sound _ InlOK.nil _ _
noncomputable def aB : Code := bodyOf Try.f122
noncomputable def aS (st r b : List Int) (n : Int) (kk all : List Int) : St := ⟨slotsOf 39 [(0, .ptr 0 0 0), (4, .ro true .u8 all), (5, .ptr 2 0 0)], [dg st r n, .b [.ro true .u8 r, .ro false .u8 b], .b [.ints .u32 64 kk]], true⟩
section
variable (st r b kk all : List Int) (n : Int)
set_option maxRecDepth 100000 in
theorem ad_head : (execL Try.prog (adC true) 60 1 5 (atoms aB) ⟨slots0 Try.f122.ntmps [.ptr 0 0 0, .ro false .u8 b], [dg st r n], true⟩).bind (St.cut [0, 4, 5] 3) =
    some { aS st r b (IntKind.i64.wrap (n + b.length)) k32 [r, b].flatten with ob := andT true (andT true (decide ([r, b].flatten.length ≤ 274877906944) && true)) } := by kernel_rfl
set_option maxRecDepth 100000 in
theorem ad_one : (exec Try.prog (adC true) 60 1 (inner (inner (nthC 5 aB))) (aS st r b n kk all)).bind (fun r => (r.2.cut [0, 4, 5] 3).map fun q => (r.1, q)) =
    some (.normal, { aS (pieceW st (all.take 64) kk) r b n kk (all.drop 64) with ob := andT (andT (andT (andT true (decide ((all.length : Int) ≥ 64))) (andT true (true && decide ((64 : Int) ≤ all.length)))) (andT true (decide (st.length = 8) && decide ((all.take 64).length = 64)))) (andT true (andT true (true && decide ((64 : Int) ≤ all.length)))) }) := by kernel_rfl
set_option maxRecDepth 100000 in
theorem ad_end : (exec Try.prog (adC false) 60 1 (inner (inner (nthC 5 aB))) (aS st r b n kk all)).bind (fun r => (r.2.cut [0, 4, 5] 3).map fun q => (r.1, q)) =
    some (.exit 0, { aS st r b n kk all with ob := andT true (!decide ((all.length : Int) ≥ 64)) }) := by kernel_rfl
end
theorem ad_loop {st r b kk all : List Int} (n : Int) (hs : st.length = 8) : Tr Try.prog none 1 (nthC 5 aB) (aS st r b n kk all) .normal (aS (stN all kk st (all.length / 64)) r b n kk (all.drop (64 * (all.length / 64)))) := by
  have key := Tr.loop (P := Try.prog) (ro := none) (k := 1) 0 (c := nthC 5 aB) (by kernel_rfl) (fun j : Nat => aS (stN all kk st j) r b n kk (all.drop (64 * j))) (all.length / 64) (s' := aS (stN all kk st (all.length / 64)) r b n kk (all.drop (64 * (all.length / 64)))) (fun j hj => ?_) ?_
  · exact key
  · have k := ad_one (stN all kk st j) r b kk (all.drop (64 * j)) n
    have hl : 64 ≤ (all.drop (64 * j)).length := by rw [List.length_drop]; omega
    rw [List.drop_drop, decide_eq_true (show ((all.drop (64 * j)).length : Int) ≥ 64 by omega), decide_eq_true (stN_len hs j), decide_eq_true (show ((all.drop (64 * j)).take 64).length = 64 by rw [List.length_take]; omega)] at k
    refine Tr.post (Tr.cut (adC_ok true) 60 _ 3 (by omega) k rfl) (Ent.same ?_ rfl)
    show (aS [] r b 0 kk _).t = (aS [] r b 0 kk _).t
    rw [show 64 * j + 64 = 64 * (j + 1) by omega]
  · have k := ad_end (stN all kk st (all.length / 64)) r b kk (all.drop (64 * (all.length / 64))) n
    have hl : ¬ ((all.drop (64 * (all.length / 64))).length : Int) ≥ 64 := by rw [List.length_drop]; omega
    exact Tr.post (Tr.cut (adC_ok false) 60 _ 3 (by omega) k (by rw [decide_eq_false hl]; rfl)) (Ent.same rfl rfl)
set_option maxRecDepth 100000 in
theorem add_fn {st r b : List Int} (n : Int) (hs : st.length = 8) (hb : r.length + b.length < 274877900000) : FnTr Try.prog 122 [.ptr 0 0 0, .ro false .u8 b] [dg st r n] (.tup [])
    [dg (stN (r ++ b) k32 st ((r ++ b).length / 64)) ((r ++ b).drop (64 * ((r ++ b).length / 64))) (IntKind.i64.wrap (n + b.length))] := by
  have hl : (r ++ b).length = r.length + b.length := List.length_append
  have hh := ad_head st r b n
  have e : [r, b].flatten = r ++ b := by simp
  rw [e, decide_eq_true (show (r ++ b).length ≤ 274877906944 by omega)] at hh
  generalize r ++ b = all at *
  have hd : (all.drop (64 * (all.length / 64))).length ≤ 274877906944 := by rw [List.length_drop]; omega
  have k2 : FnTr Try.prog 122 [.ptr 0 0 0, .ro false .u8 b] [dg st r n] (.tup [])
      [.b [.ints .u32 8 (stN all k32 st (all.length / 64)), .sl 3 0 0 1 (all.drop (64 * (all.length / 64))).length (all.drop (64 * (all.length / 64))).length false true, .int .i64 (IntKind.i64.wrap (n + b.length))], .b [.ro true .u8 r, .ro false .u8 b], .b [.ints .u32 64 k32], .b [.ints .u8 (all.drop (64 * (all.length / 64))).length (all.drop (64 * (all.length / 64)))]] := by
    refine FnTr.restM (adC_ok true) 60 6 4 Try.func122 (by simp) rfl (fun s' x h => ?_) (s := aS (stN all k32 st (all.length / 64)) r b (IntKind.i64.wrap (n + b.length)) k32 (all.drop (64 * (all.length / 64))))
      (p := andT (andT true (andT true (decide ((all.drop (64 * (all.length / 64))).length ≤ 274877906944)))) true) (by kernel_rfl) (by rw [decide_eq_true hd]; rfl) rfl rfl
    refine TrL.items (adC_ok true) 60 5 _ 3 (by simp) hh rfl (by decide) ?_
    exact TrL.item 5 (by decide) (Tr.pre (ad_loop _ hs) (Ent.same rfl rfl)) h
  generalize all.drop (64 * (all.length / 64)) = al at *
  have k3 := FnTr.fz 3 1 (by simp) (by simp) k2 (u := .tup []) (h2 := [dg (stN all k32 st (all.length / 64)) al (IntKind.i64.wrap (n + b.length))]) (p := andT (decide (al.length = al.length)) (andT true (andT true (true && (true && decide (al.length = al.length)))))) (by kernel_rfl) (by rw [decide_eq_true rfl]; rfl)
  exact k3
def pickD (vs : List SV) (_ : List Blk) : List Nat := match vs with
  | .ptr a _ _ :: _ => [a]
  | _ => []
noncomputable def addF : List SV → List Blk → Option (SV × List Blk × Bool)
  | [.ptr 0 0 0, .ro false .u8 b], [.b [.ints .u32 8 st, .ro true .u8 r, .int .i64 n]] => some (.tup [], [dg (stN (r ++ b) k32 st ((r ++ b).length / 64)) ((r ++ b).drop (64 * ((r ++ b).length / 64))) (IntKind.i64.wrap (n + b.length))], decide (st.length = 8) && decide (r.length + b.length < 274877900000))
  | _, _ => none
noncomputable def addE : Entry Try.prog := .mut 122 _ Try.func122 (by decide) rfl pickD 0 addF fun vs h0 v h1 e => by
  unfold addF at e
  split at e
  · simp only [Option.some.injEq, Prod.mk.injEq, Bool.and_eq_true, decide_eq_true_eq] at e
    obtain ⟨rfl, rfl, hs, hb⟩ := e
    exact add_fn _ hs hb
  · cases e
noncomputable def suC (x : Bool) : Ctr := mk (P := Try.prog) [paddedE, chunkE, shortsE, pieceE] [] fun i => if i = 9 then some x else none
theorem suC_ok (x : Bool) : CtrSound Try.prog (suC x) := mk_sound _ InlOK.nil _ _
noncomputable def suC0 : Ctr := mk (P := Try.prog) [paddedE, chunkE, shortsE, pieceE] []
theorem suC0_ok : CtrSound Try.prog suC0 := mk_sound _ InlOK.nil _ _
noncomputable def uB : Code := bodyOf Try.f123
noncomputable def uC : Code := nthC 6 uB
noncomputable def z32 : List Int := List.replicate 32 0
noncomputable def uT : List (Option SV) := slotsOf 52 [(2, .ptr 1 0 0), (3, .ptr 2 0 0), (4, .ptr 3 0 0), (25, .fn (.func 161) [] [.ptr 4 0 0, .ptr 5 0 0])]
noncomputable def uK (st0 r : List Int) (n : Int) (p kk st : List Int) : List Blk := [dg st0 r n, .b [.ints .u8 32 z32], dg st r n, .b [.ints .u32 64 kk], .b [.ro false .u8 p], .b [.int .i64 64]]
noncomputable def uH (st0 r : List Int) (n : Int) (p kk st : List Int) (l : Nat) : List Blk := [dg st0 r n, .b [.ints .u8 32 z32], dg st r n, .b [.ints .u32 64 kk], .b [.ro false .u8 p], .b [.int .i64 64], .g (some (rfL uC uT l))]
noncomputable def uS (st0 r : List Int) (n : Int) (p kk st : List Int) (l : Nat) (i : Int) : St := ⟨slotsOf 31 [(0, .fn (.yield l) [] []), (1, .ptr 4 0 0), (2, .ptr 5 0 0), (4, .int .i64 i)], uH st0 r n p kk st l, true⟩
def ckE (p : List Int) (i : Int) : Int := IntKind.i64.wrap (i + if ((p.drop i.toNat).length : Int) < 64 then ((p.drop i.toNat).length : Int) else 64)
def ckW (p : List Int) (i : Int) : List Int := (p.drop i.toNat).take ((ckE p i).toNat - i.toNat)
def ckO (p st : List Int) (i : Int) (l : Nat) : Bool :=
  andT (andT (andT (andT true (decide (i < p.length))) (andT true (andT true (decide (0 ≤ i) && decide (i ≤ p.length)))))
    (andT (decide (0 ≤ ckE p i) && decide (ckE p i ≤ p.length)) (andT (decide (0 ≤ ckE p i) && decide (ckE p i ≤ (ckE p i).toNat)) (decide (0 ≤ i) && decide (i ≤ (ckE p i).toNat)))))
    (andT (andT (andT (decide (l = l)) (decide (l = l))) (andT true (decide (st.length = 8) && decide ((ckW p i).length = 64)))) (decide (l = l)))
section
variable (st0 r p kk st : List Int) (n : Int) (l : Nat) (i : Int)
set_option maxRecDepth 100000 in
theorem ck_one : (exec Try.prog (suC true) 60 7 (inner (inner (nthC 1 ckB))) (uS st0 r n p kk st l i)).bind (fun r => (r.2.cut [0, 1, 2, 4] 7).map fun q => (r.1, q)) =
    some (.normal, { uS st0 r n p kk (pieceW st (ckW p i) kk) l (IntKind.i64.wrap (i + 64)) with ob := ckO p st i l }) := by kernel_rfl
set_option maxRecDepth 100000 in
theorem ck_end : (exec Try.prog (suC false) 60 7 (inner (inner (nthC 1 ckB))) (uS st0 r n p kk st l i)).bind (fun r => (r.2.cut [0, 1, 2, 4] 7).map fun q => (r.1, q)) =
    some (.exit 0, { uS st0 r n p kk st l i with ob := andT true (!decide (i < p.length)) }) := by kernel_rfl
set_option maxRecDepth 100000 in
theorem ck_first : (execL Try.prog (suC true) 60 7 1 (atoms ckB) ⟨slots0 Try.f161.ntmps [.fn (.yield l) [] [], .ptr 4 0 0, .ptr 5 0 0], uH st0 r n p kk st l, true⟩).bind (St.cut [0, 1, 2, 4] 7) = some (uS st0 r n p kk st l 0) := by kernel_rfl
end
theorem ck_eq {p st : List Int} (hs : st.length = 8) {N j : Nat} (hp : p.length = 64 * N) (hj : j < N) (hb : N < 10000000000) (l : Nat) : ckW p (64 * j : Nat) = (p.drop (64 * j)).take 64 ∧ ckO p st (64 * j : Nat) l = true := by
  have hd : (p.drop (64 * j)).length = 64 * N - 64 * j := by rw [List.length_drop, hp]
  have he : ckE p (64 * j : Nat) = ((64 * j + 64 : Nat) : Int) := by
    unfold ckE
    rw [Int.toNat_natCast, hd, if_neg (by omega), wrap_i64 _ (by omega) (by omega)]; omega
  have hw : ckW p (64 * j : Nat) = (p.drop (64 * j)).take 64 := by
    unfold ckW
    rw [he, Int.toNat_natCast, Int.toNat_natCast, Nat.add_sub_cancel_left]
  refine ⟨hw, ?_⟩
  have hl : ((p.drop (64 * j)).take 64).length = 64 := by rw [List.length_take, hd]; omega
  unfold ckO
  rw [hw, he, hl, hs]
  simp only [andT_iff, Bool.and_eq_true, decide_eq_true_eq, true_and, and_true, Int.toNat_natCast, hp]
  repeat' apply And.intro
  all_goals omega
theorem ck_iter (st0 r : List Int) (n : Int) {p : List Int} {N : Nat} (hp : p.length = 64 * N) (hb : N < 10000000000) (kk : List Int) {st : List Int} (hs : st.length = 8) (l : Nat) :
    FnTr Try.prog 161 [.fn (.yield l) [] [], .ptr 4 0 0, .ptr 5 0 0] (uH st0 r n p kk st l) (.tup []) (uH st0 r n p kk (stN p kk st N) l) := by
  have hloop : Tr Try.prog none 7 (nthC 1 ckB) (uS st0 r n p kk st l 0) .normal (uS st0 r n p kk (stN p kk st N) l (64 * N : Nat)) := by
    have key := Tr.loop (P := Try.prog) (ro := none) (k := 7) 0 (c := nthC 1 ckB) (by kernel_rfl) (fun j : Nat => uS st0 r n p kk (stN p kk st j) l (64 * j : Nat)) N (s' := uS st0 r n p kk (stN p kk st N) l (64 * N : Nat)) (fun j hj => ?_) ?_
    · exact key
    · obtain ⟨h1, h2⟩ := ck_eq (stN_len (p := p) (kk := kk) hs j) hp hj hb l
      have k := ck_one st0 r p kk (stN p kk st j) n l (64 * j : Nat)
      rw [h1, h2, wrap_i64 _ (by omega) (by omega)] at k
      refine Tr.post (Tr.cut (suC_ok true) 60 _ 7 (by omega) k rfl) (Ent.same ?_ rfl)
      show (uS st0 r n p kk st l _).t = (uS st0 r n p kk st l _).t
      rw [show ((64 * j : Nat) : Int) + 64 = ((64 * (j + 1) : Nat) : Int) by omega]
    · have k := ck_end st0 r p kk (stN p kk st N) n l (64 * N : Nat)
      exact Tr.post (Tr.cut (suC_ok false) 60 _ 7 (by omega) k (by rw [hp]; simp [andT])) (Ent.same rfl rfl)
  refine FnTr.mk (vs := []) Try.func161 rfl (x := .normal) (s := uS st0 r n p kk (stN p kk st N) l (64 * N : Nat)) ?_ (.inr rfl) (by kernel_rfl)
  refine TrL.items (suC_ok true) 60 1 _ 7 (by simp [uH]) (ck_first st0 r p kk st n l) rfl (by decide) ?_
  exact TrL.item 1 (by decide) hloop ⟨rfl, rfl⟩
def outB (s : List Int) : List Int := (List.range 32).map fun i => IntKind.u8.wrap (shrI .u32 (s.getD (i / 4) 0) (24 - 8 * (i % 4)))
def padE (r : List Int) (n : Int) : List Int := padL r 64 56 ++ len8 n
theorem padE_len (r : List Int) (n : Int) : (padE r n).length = 64 * ((padE r n).length / 64) ∧ (padE r n).length ≤ r.length + 73 := by
  have h := (padK_mod (len := r.length) (show 56 < 64 by omega)).1
  have hK : padK r.length 64 56 < 64 := Nat.mod_lt _ (by omega)
  have hl : (padE r n).length = r.length + 1 + padK r.length 64 56 + 8 := by unfold padE; rw [List.length_append, padL_len]; rfl
  rw [hl]; omega
noncomputable def sumE1 (st r : List Int) (n : Int) : List Int := outB (stN (padE r n) k32 st ((padE r n).length / 64))
theorem sumE1_len (st r : List Int) (n : Int) : (sumE1 st r n).length = 32 := by simp [sumE1, outB]
set_option maxRecDepth 100000 in
theorem su_head (st r : List Int) (n : Int) : (execL Try.prog (suC true) 60 1 6 (atoms uB) ⟨slots0 Try.f123.ntmps [.ptr 0 0 0], [dg st r n], true⟩).bind (St.cut [2, 3, 4, 25] 6) =
    some ⟨uT, uK st r n (padE r n) k32 st, andT true (andT true (decide (r.length < 274877900000)))⟩ := by kernel_rfl
set_option maxRecDepth 100000 in
theorem sum_fn {st r : List Int} (n : Int) (hs : st.length = 8) (hr : r.length < 274877900000) : FnTr Try.prog 123 [.ptr 0 0 0] [dg st r n] (.agg [.ints .u8 32 (sumE1 st r n)]) [dg st r n] := by
  obtain ⟨hp, hq⟩ := padE_len r n
  unfold sumE1
  generalize hN : (padE r n).length / 64 = N at hp
  refine FnTr.restM suC0_ok 60 7 1 Try.func123 (by simp) rfl (fun s' x h => ?_) (s := ⟨uT, uK st r n (padE r n) k32 (stN (padE r n) k32 st N) ++ [.gap], true⟩) (p := true) (by kernel_rfl) rfl rfl rfl
  refine TrL.items (suC_ok true) 60 6 _ 6 (by simp) (su_head st r n) (by rw [decide_eq_true hr]; rfl) (by decide) ?_
  refine TrL.item 6 (by decide) ?_ h
  exact Tr.rangeB 0 (by kernel_rfl) (f := 161) (first := []) (capt := [.ptr 4 0 0, .ptr 5 0 0]) true Try.func161 (by decide) rfl (by kernel_rfl) (fun l => ck_iter st r n hp (by omega) k32 hs l)
    (fun l => ⟨_, rfl, rfl, by simp [rfL], rfl⟩) (fun l => rfl)
def pickS (vs : List SV) : List Nat := match vs with
  | [.ptr a _ _] => [a]
  | _ => []
noncomputable def sumF : List SV → List Blk → Option (SV × Bool)
  | [.ptr 0 0 0], [.b [.ints .u32 8 st, .ro true .u8 r, .int .i64 n]] => some (.agg [.ints .u8 32 (sumE1 st r n)], decide (st.length = 8) && decide (r.length < 274877900000))
  | _, _ => none
noncomputable def sumE : Entry Try.prog := .rdm 123 _ Try.func123 (by decide) rfl pickS sumF fun vs h0 v e => by
  unfold sumF at e
  split at e
  · simp only [Option.some.injEq, Prod.mk.injEq, Bool.and_eq_true, decide_eq_true_eq] at e
    obtain ⟨rfl, hs, hb⟩ := e
    exact sum_fn _ hs hb
  · cases e
end Go.Proofs.Ytkoohnpknhoahaa.S2
end
section
namespace Go.Proofs.Ytkoohnpknhoahaa.S2
open Go Go.Sy Sh
theorem piece_take (p : List Int) (j : Nat) : (p.drop (64 * j)).take 64 = (p.take (64 * (j + 1))).drop (64 * j) := by
  rw [List.drop_take, show 64 * (j + 1) - 64 * j = 64 by omega]
theorem stN_take {p q : List Int} (kk s : List Int) : ∀ j, p.take (64 * j) = q.take (64 * j) → stN p kk s j = stN q kk s j
  | 0, _ => rfl
  | j + 1, h => by
    have h0 : p.take (64 * j) = q.take (64 * j) := by
      have := congrArg (List.take (64 * j)) h
      rwa [List.take_take, List.take_take, Nat.min_eq_left (by omega)] at this
    simp only [stN]
    rw [stN_take kk s j h0, piece_take, piece_take, h]
theorem stN_shift (p kk s : List Int) (N : Nat) : ∀ j, stN p kk s (N + j) = stN (p.drop (64 * N)) kk (stN p kk s N) j
  | 0 => rfl
  | j + 1 => by
    show pieceW (stN p kk s (N + j)) ((p.drop (64 * (N + j))).take 64) kk = pieceW (stN (p.drop (64 * N)) kk (stN p kk s N) j) (((p.drop (64 * N)).drop (64 * j)).take 64) kk
    rw [stN_shift p kk s N j, List.drop_drop, show 64 * N + 64 * j = 64 * (N + j) by omega]
noncomputable def dgs (xs : List Int) : Blk := dg (stN xs k32 b32 (xs.length / 64)) (xs.drop (64 * (xs.length / 64))) xs.length
theorem dgs_add (xs b : List Int) : stN (xs.drop (64 * (xs.length / 64)) ++ b) k32 (stN xs k32 b32 (xs.length / 64)) ((xs.drop (64 * (xs.length / 64)) ++ b).length / 64) = stN (xs ++ b) k32 b32 ((xs ++ b).length / 64) ∧
    (xs.drop (64 * (xs.length / 64)) ++ b).drop (64 * ((xs.drop (64 * (xs.length / 64)) ++ b).length / 64)) = (xs ++ b).drop (64 * ((xs ++ b).length / 64)) := by
  have hN : 64 * (xs.length / 64) ≤ xs.length := by omega
  generalize hn : xs.length / 64 = N at *
  have e : xs.drop (64 * N) ++ b = (xs ++ b).drop (64 * N) := (List.drop_append_of_le_length hN).symm
  have et : stN xs k32 b32 N = stN (xs ++ b) k32 b32 N := stN_take _ _ _ (by rw [List.take_append_of_le_length hN])
  have hl : ((xs ++ b).drop (64 * N)).length = (xs ++ b).length - 64 * N := List.length_drop ..
  have hl2 : xs.length ≤ (xs ++ b).length := by simp
  have hq : (xs ++ b).length / 64 = N + ((xs ++ b).drop (64 * N)).length / 64 := by rw [hl]; omega
  rw [e, et, ← stN_shift, hq, List.drop_drop, show 64 * N + 64 * (((xs ++ b).drop (64 * N)).length / 64) = 64 * (N + ((xs ++ b).drop (64 * N)).length / 64) by omega]
  exact ⟨rfl, rfl⟩
def padT (xs : List Int) : List Int := padE xs xs.length
noncomputable def shortW (xs : List Int) : List Int := Lock (outB (stN (padT xs) k32 b32 ((padT xs).length / 64)))
theorem shortW_len (xs : List Int) : (shortW xs).length = 32 := by rw [shortW, Lock_eq]; simp [outB]
theorem dgs_sum (xs : List Int) : sumE1 (stN xs k32 b32 (xs.length / 64)) (xs.drop (64 * (xs.length / 64))) xs.length = shortW xs := by
  have hN : 64 * (xs.length / 64) ≤ xs.length := by omega
  generalize hn : xs.length / 64 = N at *
  have hr : (xs.drop (64 * N)).length = xs.length - 64 * N := List.length_drop ..
  have hk : padK (xs.drop (64 * N)).length 64 56 = padK xs.length 64 56 := by unfold padK; rw [hr]; omega
  have e : padE (xs.drop (64 * N)) xs.length = (padT xs).drop (64 * N) := by
    unfold padT padE padL
    rw [hk, List.append_assoc, List.append_assoc, List.append_assoc, List.append_assoc, List.drop_append_of_le_length hN]
  have et : stN xs k32 b32 N = stN (padT xs) k32 b32 N := stN_take _ _ _ (by
    unfold padT padE padL
    rw [List.append_assoc, List.append_assoc, List.take_append_of_le_length hN])
  have hl : ((padT xs).drop (64 * N)).length = (padT xs).length - 64 * N := List.length_drop ..
  have hl2 : xs.length ≤ (padT xs).length := by unfold padT padE padL; simp only [List.length_append]; omega
  have hq : (padT xs).length / 64 = N + ((padT xs).drop (64 * N)).length / 64 := by rw [hl]; omega
  rw [sumE1, shortW, Lock_eq, e, et, ← stN_shift, hq]
noncomputable def hC (x : Bool) : Ctr := mk (P := Try.prog) [newE, addE, sumE] [] fun i => if i = 10 then some x else none
theorem hC_ok (x : Bool) : CtrSound Try.prog (hC x) := mk_sound _ InlOK.nil _ _
noncomputable def hB : Code := bodyOf Try.f74
noncomputable def hS (xss : List (List Int)) (d : Blk) (i : Int) : St := ⟨slotsOf 19 [(2, .ptr 0 0 0), (3, .ptr 1 0 0), (7, .rob false xss), (8, .int .i64 xss.length), (9, .int .i64 i)], [.b [.ints .u8 32 z32], d], true⟩
section
variable (xss : List (List Int)) (st r : List Int) (n i : Int)
set_option maxRecDepth 100000 in
theorem h_head : (execL Try.prog (hC true) 60 0 3 (atoms hB) ⟨slots0 Try.f74.ntmps [.rob false xss], [], true⟩).bind (St.cut [2, 3, 7, 8, 9] 2) = some (hS xss (dg b32 [] 0) 0) := by kernel_rfl
set_option maxRecDepth 100000 in
theorem h_one : (exec Try.prog (hC true) 60 0 (inner (inner (nthC 3 hB))) (hS xss (dg st r n) i)).bind (fun r => (r.2.cut [2, 3, 7, 8, 9] 2).map fun q => (r.1, q)) =
    some (.normal, { hS xss (dg (stN (r ++ xss.getD i.toNat []) k32 st ((r ++ xss.getD i.toNat []).length / 64)) ((r ++ xss.getD i.toNat []).drop (64 * ((r ++ xss.getD i.toNat []).length / 64))) (IntKind.i64.wrap (n + (xss.getD i.toNat []).length))) (IntKind.i64.wrap (i + 1)) with
      ob := andT (andT (andT (andT true (decide (i < xss.length))) (inB i xss.length)) (decide (i.toNat < xss.length))) (andT true (decide (st.length = 8) && decide (r.length + (xss.getD i.toNat []).length < 274877900000))) }) := by kernel_rfl
set_option maxRecDepth 100000 in
theorem h_end : (exec Try.prog (hC false) 60 0 (inner (inner (nthC 3 hB))) (hS xss (dg st r n) i)).bind (fun r => (r.2.cut [2, 3, 7, 8, 9] 2).map fun q => (r.1, q)) =
    some (.exit 0, { hS xss (dg st r n) i with ob := andT true (!decide (i < xss.length)) }) := by kernel_rfl
end
theorem flat_take {xss : List (List Int)} {j : Nat} (h : j < xss.length) : (xss.take (j + 1)).flatten = (xss.take j).flatten ++ xss.getD j [] := by
  rw [List.take_add_one, List.flatten_append, List.getD_eq_getElem?_getD, List.getElem?_eq_getElem h]
  simp
theorem flat_len (xss : List (List Int)) (j : Nat) : (xss.take j).flatten.length ≤ xss.flatten.length := by
  conv => rhs; rw [← List.take_append_drop j xss, List.flatten_append, List.length_append]
  omega
set_option maxRecDepth 100000 in
theorem short_fn {xss : List (List Int)} (h1 : xss.flatten.length < 274877900000) (h2 : xss.length ≤ 274877906944) : FnTr Try.prog 74 [.rob false xss] [] (.agg [.ints .u8 32 (shortW xss.flatten)]) [] := by
  have hloop : Tr Try.prog none 0 (nthC 3 hB) (hS xss (dgs []) 0) .normal (hS xss (dgs xss.flatten) xss.length) := by
    have key := Tr.loop (P := Try.prog) (ro := none) (k := 0) 0 (c := nthC 3 hB) (by kernel_rfl) (fun j : Nat => hS xss (dgs (xss.take j).flatten) j) xss.length (s' := hS xss (dgs xss.flatten) xss.length) (fun j hj => ?_) ?_
    · exact key
    · generalize hx : (xss.take j).flatten = xs
      have hl := flat_len xss (j + 1)
      rw [flat_take hj, hx, List.length_append] at hl
      have k := h_one xss (stN xs k32 b32 (xs.length / 64)) (xs.drop (64 * (xs.length / 64))) xs.length j
      obtain ⟨e1, e2⟩ := dgs_add xs (xss.getD j [])
      rw [Int.toNat_natCast, e1, e2, wrap_i64 (_ + _) (by omega) (by omega), wrap_i64 _ (by omega) (by omega), decide_eq_true (stN_len b32_len _), decide_eq_true (show (xs.drop (64 * (xs.length / 64))).length + (xss.getD j []).length < 274877900000 by rw [List.length_drop]; omega),
        decide_eq_true (show (j : Int) < xss.length by omega), inB_true (by omega) (by omega), decide_eq_true hj] at k
      refine Tr.post (Tr.cut (hC_ok true) 60 _ 2 (by omega) k rfl) (Ent.same ?_ ?_)
      · show (hS xss (dgs []) _).t = (hS xss (dgs []) _).t
        rw [show ((j : Int) + 1) = ((j + 1 : Nat) : Int) by omega]
      · show [_, _] = [_, _]
        rw [flat_take hj, hx]
        unfold dgs
        rw [List.length_append, Int.natCast_add]
    · have k := h_end xss (stN xss.flatten k32 b32 (xss.flatten.length / 64)) (xss.flatten.drop (64 * (xss.flatten.length / 64))) xss.flatten.length xss.length
      rw [List.take_length]
      exact Tr.post (Tr.cut (hC_ok false) 60 _ 2 (by omega) k (by simp [andT])) (Ent.same rfl rfl)
  rw [← dgs_sum]
  refine FnTr.restM (hC_ok true) 60 4 0 Try.func74 (by simp) rfl (fun s' x h => ?_) (s := hS xss (dgs xss.flatten) xss.length)
    (p := andT true (andT true (decide ((stN xss.flatten k32 b32 (xss.flatten.length / 64)).length = 8) && decide ((xss.flatten.drop (64 * (xss.flatten.length / 64))).length < 274877900000)))) (by kernel_rfl) ?_ rfl rfl
  · refine TrL.items (hC_ok true) 60 3 _ 2 (by simp) (h_head xss) rfl (by decide) ?_
    exact TrL.item 3 (by decide) (Tr.pre hloop (Ent.same rfl rfl)) h
  · rw [decide_eq_true (stN_len b32_len _), decide_eq_true (show (xss.flatten.drop (64 * (xss.flatten.length / 64))).length < 274877900000 by rw [List.length_drop]; omega)]; rfl
noncomputable def shortF : List SV → Option (SV × List Blk × Bool)
  | [.rob false xss] => some (.agg [.ints .u8 32 (shortW xss.flatten)], [], decide (xss.flatten.length < 274877900000) && decide (xss.length ≤ 274877906944))
  | _ => none
noncomputable def shortE : Entry Try.prog := .val 74 _ Try.func74 (by decide) rfl true 0 shortF fun vs v new e => by
  unfold shortF at e
  split at e
  · simp only [Option.some.injEq, Prod.mk.injEq, Bool.and_eq_true, decide_eq_true_eq] at e
    obtain ⟨rfl, rfl, h1, h2⟩ := e
    exact short_fn h1 h2
  · cases e
end Go.Proofs.Ytkoohnpknhoahaa.S2
end
