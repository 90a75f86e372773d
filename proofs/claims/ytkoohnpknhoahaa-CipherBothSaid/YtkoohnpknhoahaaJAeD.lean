/- This file proves the contracts of aead's Mark and fill. Conditions: keys of 32 bytes; lengths that memory bears. -/
import Derived.Test.YtkoohnpknhoahaaJAeC
import Derived.Test.YtkoohnpknhoahaaJShH
set_option linter.all false
namespace Go.Proofs.Ytkoohnpknhoahaa.Ae
open Go Go.Sy Sh
noncomputable def maC (a : Bool) : Ctr := mk (P := Try.prog) [lowE, Sh.concatE, Sh.chunkE, addE, endE] [] fun i => if i = 9 then some a else none
theorem maC_ok (a : Bool) : CtrSound Try.prog (maC a) := mk_sound _ InlOK.nil _ _
noncomputable def maC0 : Ctr := mk (P := Try.prog) [lowE, Sh.concatE, Sh.chunkE, addE, endE] []
theorem maC0_ok : CtrSound Try.prog maC0 := mk_sound _ InlOK.nil _ _
noncomputable def maB : Code := bodyOf Try.f152
noncomputable def maR : Code := nthC 3 maB
def k8 (key : List Int) : List Int := (key.drop 8).take 24
def r0W (key : List Int) : Int := andI .u64 (lowW key) 1152921487695413247
def r1W (key : List Int) : Int := andI .u64 (lowW (k8 key)) 1152921487695413244
noncomputable def maT : List (Option SV) := slotsOf 25 [(2, .ptr 0 0 0), (4, .ptr 1 0 0), (5, .ptr 3 0 0), (17, .fn (.func 161) [] [.ptr 4 0 0, .ptr 5 0 0])]
noncomputable def maK (key p h : List Int) (r s : Int) : List Blk := [.b [.ints .u8 32 key], .b [.ints .u8 16 (List.replicate 16 0)], su h r s, .b [.ptr 2 0 0], .b [.ro false .u8 p], .b [.int .i64 16]]
noncomputable def maH (key p h : List Int) (r s : Int) (l : Nat) : List Blk := [.b [.ints .u8 32 key], .b [.ints .u8 16 (List.replicate 16 0)], su h r s, .b [.ptr 2 0 0], .b [.ro false .u8 p], .b [.int .i64 16], .g (some (rfL maR maT l))]
noncomputable def maS (key p h : List Int) (r s : Int) (l : Nat) (i : Int) : St := ⟨slotsOf 31 [(0, .fn (.yield l) [] []), (1, .ptr 4 0 0), (2, .ptr 5 0 0), (4, .int .i64 i)], maH key p h r s l, true⟩
def ckE (p : List Int) (i : Int) : Int := IntKind.i64.wrap (i + if ((p.drop i.toNat).length : Int) < 16 then ((p.drop i.toNat).length : Int) else 16)
def ckW (p : List Int) (i : Int) : List Int := (p.drop i.toNat).take ((ckE p i).toNat - i.toNat)
def ckO (p h : List Int) (i : Int) (l : Nat) : Bool :=
  andT (andT (andT (andT true (decide (i < p.length))) (andT true (andT true (decide (0 ≤ i) && decide (i ≤ p.length)))))
    (andT (decide (0 ≤ ckE p i) && decide (ckE p i ≤ p.length)) (andT (decide (0 ≤ ckE p i) && decide (ckE p i ≤ (ckE p i).toNat)) (decide (0 ≤ i) && decide (i ≤ (ckE p i).toNat)))))
    (andT (andT (andT (decide (l = l)) (decide (l = l))) (andT true (decide (h.length = 3) && Fe.u64 (g h 0) && decide ((ckW p i).length ≤ 16)))) (decide (l = l)))
section
variable (key p h : List Int) (r s : Int) (l : Nat) (i : Int)
set_option maxRecDepth 100000 in
theorem ck_one : (exec Try.prog (maC true) 60 7 (inner (inner (nthC 1 ckB))) (maS key p h r s l i)).bind (fun r => (r.2.cut [0, 1, 2, 4] 7).map fun q => (r.1, q)) =
    some (.normal, { maS key p (addW h (ckW p i) r s) r s l (IntKind.i64.wrap (i + 16)) with ob := ckO p h i l }) := by kernel_rfl
set_option maxRecDepth 100000 in
theorem ck_end : (exec Try.prog (maC false) 60 7 (inner (inner (nthC 1 ckB))) (maS key p h r s l i)).bind (fun r => (r.2.cut [0, 1, 2, 4] 7).map fun q => (r.1, q)) =
    some (.exit 0, { maS key p h r s l i with ob := andT true (!decide (i < p.length)) }) := by kernel_rfl
set_option maxRecDepth 100000 in
theorem ck_first : (execL Try.prog (maC true) 60 7 1 (atoms ckB) ⟨slots0 Try.f161.ntmps [.fn (.yield l) [] [], .ptr 4 0 0, .ptr 5 0 0], maH key p h r s l, true⟩).bind (St.cut [0, 1, 2, 4] 7) = some (maS key p h r s l 0) := by kernel_rfl
def maO (key : List Int) (xss : List (List Int)) : Bool := andT (andT (andT true (andT (andT (decide (key.length = 32) && true) (decide (key.length = 32))) (decide (8 ≤ key.length)))) (andT (andT (true && decide (32 ≤ key.length)) (decide ((k8 key).length = 24))) (decide (8 ≤ (k8 key).length)))) (andT true (decide (xss.flatten.length ≤ 274877906944) && decide (xss.length ≤ 274877906944)))
set_option maxRecDepth 100000 in
theorem ma_head (xss : List (List Int)) : (execL Try.prog maC0 60 0 3 (atoms maB) ⟨slots0 Try.f152.ntmps [.agg [.ints .u8 32 key], .rob false xss], [], true⟩).bind (St.cut [2, 4, 5, 17] 6) =
    some ⟨maT, maK key xss.flatten [0, 0, 0] (r0W key) (r1W key), maO key xss⟩ := by kernel_rfl
end
noncomputable def hN (p : List Int) (r s : Int) : Nat → List Int
  | 0 => [0, 0, 0]
  | j + 1 => addW (hN p r s j) ((p.drop (16 * j)).take 16) r s
theorem hN_R (p : List Int) (r s : Int) : ∀ j, (hN p r s j).length = 3 ∧ ∀ i, R (g (hN p r s j) i)
  | 0 => ⟨rfl, fun i => by
      match i with
      | 0 => exact zero_R
      | 1 => exact zero_R
      | 2 => exact zero_R
      | n + 3 => exact zero_R⟩
  | _ + 1 => addW_R _ _ _ _
theorem ck_eq {p h : List Int} (hl : h.length = 3) (h0 : R (g h 0)) {j : Nat} (hj : 16 * j < p.length) (hb : p.length < 274877906945) (l : Nat) : ckW p (16 * j : Nat) = (p.drop (16 * j)).take 16 ∧ ckO p h (16 * j : Nat) l = true := by
  have hd : (p.drop (16 * j)).length = p.length - 16 * j := List.length_drop ..
  have he : ckE p (16 * j : Nat) = ((16 * j + min 16 (p.length - 16 * j) : Nat) : Int) := by
    unfold ckE
    rw [Int.toNat_natCast, hd]
    split
    · rw [wrap_i64 _ (by omega) (by omega)]; omega
    · rw [wrap_i64 _ (by omega) (by omega)]; omega
  have hw : ckW p (16 * j : Nat) = (p.drop (16 * j)).take 16 := by
    unfold ckW
    rw [he, Int.toNat_natCast, Int.toNat_natCast, Nat.add_sub_cancel_left]
    by_cases hc : 16 ≤ p.length - 16 * j
    · rw [Nat.min_eq_left hc]
    · rw [Nat.min_eq_right (by omega), List.take_of_length_le (by omega), List.take_of_length_le (by omega)]
  refine ⟨hw, ?_⟩
  have hlw : ((p.drop (16 * j)).take 16).length ≤ 16 := by rw [List.length_take]; omega
  unfold ckO
  rw [hw, he, hl, Fe.u64_iff.2 h0, decide_eq_true hlw]
  simp only [andT_iff, Bool.and_eq_true, decide_eq_true_eq, true_and, and_true, Int.toNat_natCast]
  omega
theorem ma_iter (key : List Int) {p : List Int} (hb : p.length < 274877906945) (r s : Int) (l : Nat) :
    FnTr Try.prog 161 [.fn (.yield l) [] [], .ptr 4 0 0, .ptr 5 0 0] (maH key p [0, 0, 0] r s l) (.tup []) (maH key p (hN p r s ((p.length + 15) / 16)) r s l) := by
  have hloop : Tr Try.prog none 7 (nthC 1 ckB) (maS key p [0, 0, 0] r s l 0) .normal (maS key p (hN p r s ((p.length + 15) / 16)) r s l (16 * ((p.length + 15) / 16) : Nat)) := by
    have key0 := Tr.loop (P := Try.prog) (ro := none) (k := 7) 0 (c := nthC 1 ckB) (by kernel_rfl) (fun j : Nat => maS key p (hN p r s j) r s l (16 * j : Nat)) ((p.length + 15) / 16) (s' := maS key p (hN p r s ((p.length + 15) / 16)) r s l (16 * ((p.length + 15) / 16) : Nat)) (fun j hj => ?_) ?_
    · exact key0
    · obtain ⟨a1, a2⟩ := hN_R p r s j
      obtain ⟨h1, h2⟩ := ck_eq a1 (a2 0) (p := p) (j := j) (by omega) hb l
      have k := ck_one key p (hN p r s j) r s l (16 * j : Nat)
      rw [h1, h2, wrap_i64 _ (by omega) (by omega)] at k
      refine Tr.post (Tr.cut (maC_ok true) 60 _ 7 (by omega) k rfl) (Ent.same ?_ rfl)
      show (maS key p [] r s l _).t = (maS key p [] r s l _).t
      rw [show ((16 * j : Nat) : Int) + 16 = ((16 * (j + 1) : Nat) : Int) by omega]
    · have k := ck_end key p (hN p r s ((p.length + 15) / 16)) r s l (16 * ((p.length + 15) / 16) : Nat)
      exact Tr.post (Tr.cut (maC_ok false) 60 _ 7 (by omega) k (by rw [decide_eq_false (by omega)]; rfl)) (Ent.same rfl rfl)
  refine FnTr.mk (vs := []) Try.func161 rfl (x := .normal) (s := maS key p (hN p r s ((p.length + 15) / 16)) r s l (16 * ((p.length + 15) / 16) : Nat)) ?_ (.inr rfl) (by kernel_rfl)
  refine TrL.items (maC_ok true) 60 1 _ 7 (by show 7 ≤ 7; omega) (ck_first key p _ r s l) rfl (by decide) ?_
  exact TrL.item 1 (by decide) hloop ⟨rfl, rfl⟩
noncomputable def markW (key xs : List Int) : List Int := Lock (endW (hN xs (r0W key) (r1W key) ((xs.length + 15) / 16)) key)
theorem markW_len (key xs : List Int) : (markW key xs).length = 16 := by rw [markW, Lock_eq]; rfl
set_option maxRecDepth 100000 in
theorem mark_fn {key : List Int} {xss : List (List Int)} (hk : key.length = 32) (h1 : xss.flatten.length ≤ 274877906944) (h2 : xss.length ≤ 274877906944) : FnTr Try.prog 152 [.agg [.ints .u8 32 key], .rob false xss] [] (.agg [.ints .u8 16 (markW key xss.flatten)]) [] := by
  obtain ⟨a1, a2⟩ := hN_R xss.flatten (r0W key) (r1W key) ((xss.flatten.length + 15) / 16)
  have ho : maO key xss = true := by
    unfold maO k8
    rw [decide_eq_true h1, decide_eq_true h2]
    simp [hk, andT]
  rw [markW, Lock_eq]
  generalize hH : hN xss.flatten (r0W key) (r1W key) ((xss.flatten.length + 15) / 16) = H at a1 a2
  refine FnTr.restM maC0_ok 60 4 0 Try.func152 (by simp) rfl (fun s' x h => ?_) (s := ⟨maT, maK key xss.flatten H (r0W key) (r1W key) ++ [.gap], true⟩)
    (p := andT true (andT true (decide (H.length = 3) && Fe.u64 (g H 0) && Fe.u64 (g H 1) && Fe.u64 (g H 2) && decide (key.length = 32)))) (by kernel_rfl) (by rw [a1, hk, Fe.u64_iff.2 (a2 0), Fe.u64_iff.2 (a2 1), Fe.u64_iff.2 (a2 2)]; rfl) rfl rfl
  refine TrL.items maC0_ok 60 3 _ 6 (by simp) (ma_head key xss) ho (by decide) ?_
  refine TrL.item 3 (by decide) ?_ h
  rw [← hH]
  exact Tr.rangeB 0 (by kernel_rfl) (f := 161) (first := []) (capt := [.ptr 4 0 0, .ptr 5 0 0]) true Try.func161 (by decide) rfl (by kernel_rfl) (fun l => ma_iter key (by omega) (r0W key) (r1W key) l)
    (fun l => ⟨_, rfl, rfl, by simp [rfL], rfl⟩) (fun l => rfl)
noncomputable def markF : List SV → Option (SV × List Blk × Bool)
  | [.agg [.ints .u8 32 key], .rob false xss] => some (.agg [.ints .u8 16 (markW key xss.flatten)], [], decide (key.length = 32) && decide (xss.flatten.length ≤ 274877906944) && decide (xss.length ≤ 274877906944))
  | _ => none
noncomputable def markE : Entry Try.prog := .val 152 _ Try.func152 (by decide) rfl true 0 markF fun vs v new e => by
  unfold markF at e
  split at e
  · simp only [Option.some.injEq, Prod.mk.injEq, Bool.and_eq_true, decide_eq_true_eq] at e
    obtain ⟨rfl, rfl, ⟨h0, h1⟩, h2⟩ := e
    exact mark_fn h0 h1 h2
  · cases e
def flK (n : Int) : Nat := ((16 - n % 16) % 16).toNat
def flI (n : Int) : Int := (IntKind.i64.wrap (16 - n.tmod 16)).tmod 16
theorem flI_eq {n : Int} (h : 0 ≤ n) : flI n = (flK n : Int) ∧ flK n < 16 := by
  unfold flI flK
  rw [Int.tmod_eq_emod_of_nonneg h, wrap_i64 _ (by omega) (by omega), Int.tmod_eq_emod_of_nonneg (by omega)]
  omega
noncomputable def flC : Ctr := mk (P := Try.prog) [] []
theorem flC_ok : CtrSound Try.prog flC := mk_sound _ InlOK.nil _ _
set_option maxRecDepth 100000 in
theorem fill_run (n : Int) : callS Try.prog flC 60 Try.f153 [.int .i64 n] [] = some (.sl 0 0 0 1 (flI n).toNat (flI n).toNat true true, [.b [.ints .u8 (flI n).toNat (List.replicate (flI n).toNat 0)]],
    andT true (IntKind.i64.wrap (flI n) == flI n && IntKind.i64.wrap (flI n) == flI n && (decide (0 ≤ flI n) && decide (flI n ≤ flI n) && decide ((1 : Int) * flI n ≤ 281474976710656)))) := by kernel_rfl
theorem fill_fn {n : Int} (h : 0 ≤ n) : FnTr Try.prog 153 [.int .i64 n] [] (.ro true .u8 (List.replicate (flK n) 0)) [] := by
  obtain ⟨e, hb⟩ := flI_eq h
  have k := fill_run n
  rw [e, wrap_i64 _ (by omega) (by omega), beq_self_eq_true, decide_eq_true (show (0 : Int) ≤ flK n by omega), decide_eq_true (show (1 : Int) * flK n ≤ 281474976710656 by omega), decide_eq_true (Int.le_refl _), Int.toNat_natCast] at k
  exact FnTr.frozen (FnTr.of_callS flC_ok Try.func153 k) (by simp)
def fillF : List SV → Option (SV × List Blk × Bool)
  | [.int .i64 n] => some (.ro true .u8 (List.replicate (flK n) 0), [], decide (0 ≤ n))
  | _ => none
noncomputable def fillE : Entry Try.prog := .val 153 _ Try.func153 (by decide) rfl false 0 fillF fun vs v new e => by
  unfold fillF at e
  split at e
  · simp only [Option.some.injEq, Prod.mk.injEq, decide_eq_true_eq] at e
    obtain ⟨rfl, rfl, h⟩ := e
    exact fill_fn h
  · cases e
end Go.Proofs.Ytkoohnpknhoahaa.Ae
