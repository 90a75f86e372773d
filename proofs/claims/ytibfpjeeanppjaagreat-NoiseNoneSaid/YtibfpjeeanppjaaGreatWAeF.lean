/- This file holds the texts AeD, AeE, AeF, a section each. No conditions beyond those in the theorems. -/
import Derived.Test.YtibfpjeeanppjaaGreatWAeC
import Derived.Test.YtibfpjeeanppjaaGreatWShH
import Derived.Test.YtibfpjeeanppjaaGreatWCcB
set_option linter.all false
set_option maxRecDepth 100000
section
namespace Go.Proofs.YtibfpjeeanppjaaGreat.Ae
open Go Go.Sy Sh
noncomputable def maC (a : Bool) : Ctr := mk (P := Tryz.prog) [lowE, Sh.concatE, Sh.chunkE, addE, endE] [] fun i => if i = 9 then some a else none
theorem maC_ok (a : Bool) : CtrSound Tryz.prog (maC a) := mk_sound _ InlOK.nil _ _
noncomputable def maC0 : Ctr := mk (P := Tryz.prog) [lowE, Sh.concatE, Sh.chunkE, addE, endE] []
theorem maC0_ok : CtrSound Tryz.prog maC0 := mk_sound _ InlOK.nil _ _
noncomputable def maB : Code := bodyOf Tryz.f115
noncomputable def maR : Code := nthC 3 maB
def k8 (key : List Int) : List Int := (key.drop 8).take 24
def r0W (key : List Int) : Int := andI .u64 (lowW key) 1152921487695413247
def r1W (key : List Int) : Int := andI .u64 (lowW (k8 key)) 1152921487695413244
noncomputable def maT : List (Option SV) := slotsOf 25 [(2, .ptr 0 0 0), (4, .ptr 1 0 0), (5, .ptr 3 0 0), (17, .fn (.func 164) [] [.ptr 4 0 0, .ptr 5 0 0])]
noncomputable def maK (key p h : List Int) (r s : Int) : List Blk := [.b [.ints .u8 32 key], .b [.ints .u8 16 (List.replicate 16 0)], su h r s, .b [.ptr 2 0 0], .b [.ro false .u8 p], .b [.int .i64 16]]
noncomputable def maH (key p h : List Int) (r s : Int) (l : Nat) : List Blk := [.b [.ints .u8 32 key], .b [.ints .u8 16 (List.replicate 16 0)], su h r s, .b [.ptr 2 0 0], .b [.ro false .u8 p], .b [.int .i64 16], .g (some (rfL maR maT l))]
noncomputable def maS (key p h : List Int) (r s : Int) (l : Nat) (i : Int) : St := ⟨slotsOf 31 [(0, .fn (.yield l) [] []), (1, .ptr 4 0 0), (2, .ptr 5 0 0), (4, .int .i64 i)], maH key p h r s l, true⟩
def ckE (p : List Int) (i : Int) : Int := IntKind.i64.wrap (i + if ((p.drop i.toNat).length : Int) < 16 then ((p.drop i.toNat).length : Int) else 16)
def ckW (p : List Int) (i : Int) : List Int := (p.drop i.toNat).take ((ckE p i).toNat - i.toNat)
def ckO (p h : List Int) (i : Int) (l : Nat) : Bool :=
  andT (andT (andT (andT true (decide (i < p.length))) (andT true (andT true (decide (0 ≤ i) && decide (i ≤ p.length)))))
    (andT (decide (0 ≤ ckE p i) && decide (ckE p i ≤ p.length)) (andT (decide (0 ≤ ckE p i) && decide (ckE p i ≤ (ckE p i).toNat)) (decide (0 ≤ i) && decide (i ≤ (ckE p i).toNat)))))
    (andT (andT (andT (decide (l = l)) (decide (l = l))) (andT true (decide (h.length = 3) && Fe.u64 (g h 0) && decide ((ckW p i).length ≤ 16)))) (decide (l = l)))
section
variable (key p h : List Int) (r s : Int) (l : Nat) (i : Int)
theorem ck_one : (exec Tryz.prog (maC true) 60 7 (inner (inner (nthC 1 ckB))) (maS key p h r s l i)).bind (fun r => (r.2.cut [0, 1, 2, 4] 7).map fun q => (r.1, q)) =
    some (.normal, { maS key p (addW h (ckW p i) r s) r s l (IntKind.i64.wrap (i + 16)) with ob := ckO p h i l }) := by kernel_rfl
theorem ck_end : (exec Tryz.prog (maC false) 60 7 (inner (inner (nthC 1 ckB))) (maS key p h r s l i)).bind (fun r => (r.2.cut [0, 1, 2, 4] 7).map fun q => (r.1, q)) =
    some (.exit 0, { maS key p h r s l i with ob := andT true (!decide (i < p.length)) }) := by kernel_rfl
theorem ck_first : (execL Tryz.prog (maC true) 60 7 1 (atoms ckB) ⟨slots0 Tryz.f164.ntmps [.fn (.yield l) [] [], .ptr 4 0 0, .ptr 5 0 0], maH key p h r s l, true⟩).bind (St.cut [0, 1, 2, 4] 7) = some (maS key p h r s l 0) := by kernel_rfl
def maO (key : List Int) (xss : List (List Int)) : Bool := andT (andT (andT true (andT (andT (decide (key.length = 32) && true) (decide (key.length = 32))) (decide (8 ≤ key.length)))) (andT (andT (true && decide (32 ≤ key.length)) (decide ((k8 key).length = 24))) (decide (8 ≤ (k8 key).length)))) (andT true (decide (xss.flatten.length ≤ 274877906944) && decide (xss.length ≤ 274877906944)))
theorem ma_head (xss : List (List Int)) : (execL Tryz.prog maC0 60 0 3 (atoms maB) ⟨slots0 Tryz.f115.ntmps [.agg [.ints .u8 32 key], .rob false xss], [], true⟩).bind (St.cut [2, 4, 5, 17] 6) =
    some ⟨maT, maK key xss.flatten [0, 0, 0] (r0W key) (r1W key), maO key xss⟩ := by kernel_rfl
end
noncomputable def hN (p : List Int) (r s : Int) : Nat → List Int
  | 0 => [0, 0, 0]
  | j + 1 => addW (hN p r s j) ((p.drop (16 * j)).take 16) r s
theorem hN_R (p : List Int) (r s : Int) : ∀ j, (hN p r s j).length = 3 ∧ ∀ i, R (g (hN p r s j) i)
  | 0 => ⟨rfl, fun i => by
      match i with
      | 0 => exact zero_R
      | 1 => exact zero_R
      | 2 => exact zero_R
      | n + 3 => exact zero_R⟩
  | _ + 1 => addW_R _ _ _ _
theorem ck_eq {p h : List Int} (hl : h.length = 3) (h0 : R (g h 0)) {j : Nat} (hj : 16 * j < p.length) (hb : p.length < 274877906945) (l : Nat) : ckW p (16 * j : Nat) = (p.drop (16 * j)).take 16 ∧ ckO p h (16 * j : Nat) l = true := by
  have hd : (p.drop (16 * j)).length = p.length - 16 * j := List.length_drop ..
  have he : ckE p (16 * j : Nat) = ((16 * j + min 16 (p.length - 16 * j) : Nat) : Int) := by
    unfold ckE
    rw [Int.toNat_natCast, hd]
    split
    · rw [wrap_i64 _ (by omega) (by omega)]; omega
    · rw [wrap_i64 _ (by omega) (by omega)]; omega
  have hw : ckW p (16 * j : Nat) = (p.drop (16 * j)).take 16 := by
    unfold ckW
    rw [he, Int.toNat_natCast, Int.toNat_natCast, Nat.add_sub_cancel_left]
    by_cases hc : 16 ≤ p.length - 16 * j
    · rw [Nat.min_eq_left hc]
    · rw [Nat.min_eq_right (by omega), List.take_of_length_le (by omega), List.take_of_length_le (by omega)]
  refine ⟨hw, ?_⟩
  have hlw : ((p.drop (16 * j)).take 16).length ≤ 16 := by rw [List.length_take]; omega
  unfold ckO
  rw [hw, he, hl, Fe.u64_iff.2 h0, decide_eq_true hlw]
  simp only [andT_iff, Bool.and_eq_true, decide_eq_true_eq, true_and, and_true, Int.toNat_natCast]
  omega
theorem ma_iter (key : List Int) {p : List Int} (hb : p.length < 274877906945) (r s : Int) (l : Nat) :
    FnTr Tryz.prog 164 [.fn (.yield l) [] [], .ptr 4 0 0, .ptr 5 0 0] (maH key p [0, 0, 0] r s l) (.tup []) (maH key p (hN p r s ((p.length + 15) / 16)) r s l) := by
  have hloop : Tr Tryz.prog none 7 (nthC 1 ckB) (maS key p [0, 0, 0] r s l 0) .normal (maS key p (hN p r s ((p.length + 15) / 16)) r s l (16 * ((p.length + 15) / 16) : Nat)) := by
    have key0 := Tr.loop (P := Tryz.prog) (ro := none) (k := 7) 0 (c := nthC 1 ckB) (by kernel_rfl) (fun j : Nat => maS key p (hN p r s j) r s l (16 * j : Nat)) ((p.length + 15) / 16) (s' := maS key p (hN p r s ((p.length + 15) / 16)) r s l (16 * ((p.length + 15) / 16) : Nat)) (fun j hj => ?_) ?_
    · exact key0
    · obtain ⟨a1, a2⟩ := hN_R p r s j
      obtain ⟨h1, h2⟩ := ck_eq a1 (a2 0) (p := p) (j := j) (by omega) hb l
      have k := ck_one key p (hN p r s j) r s l (16 * j : Nat)
      rw [h1, h2, wrap_i64 _ (by omega) (by omega)] at k
      refine Tr.post (Tr.cut (maC_ok true) 60 _ 7 (by omega) k rfl) (Ent.same ?_ rfl)
      show (maS key p [] r s l _).t = (maS key p [] r s l _).t
      rw [show ((16 * j : Nat) : Int) + 16 = ((16 * (j + 1) : Nat) : Int) by omega]
    · have k := ck_end key p (hN p r s ((p.length + 15) / 16)) r s l (16 * ((p.length + 15) / 16) : Nat)
      exact Tr.post (Tr.cut (maC_ok false) 60 _ 7 (by omega) k (by rw [decide_eq_false (by omega)]; rfl)) (Ent.same rfl rfl)
  refine FnTr.mk (vs := []) Tryz.func164 rfl (x := .normal) (s := maS key p (hN p r s ((p.length + 15) / 16)) r s l (16 * ((p.length + 15) / 16) : Nat)) ?_ (.inr rfl) (by kernel_rfl)
  refine TrL.items (maC_ok true) 60 1 _ 7 (by show 7 ≤ 7; omega) (ck_first key p _ r s l) rfl (by decide) ?_
  exact TrL.item 1 (by decide) hloop ⟨rfl, rfl⟩
noncomputable def markW (key xs : List Int) : List Int := Lock (endW (hN xs (r0W key) (r1W key) ((xs.length + 15) / 16)) key)
theorem markW_len (key xs : List Int) : (markW key xs).length = 16 := by rw [markW, Lock_eq]; rfl
theorem mark_fn {key : List Int} {xss : List (List Int)} (hk : key.length = 32) (h1 : xss.flatten.length ≤ 274877906944) (h2 : xss.length ≤ 274877906944) : FnTr Tryz.prog 115 [.agg [.ints .u8 32 key], .rob false xss] [] (.agg [.ints .u8 16 (markW key xss.flatten)]) [] := by
  obtain ⟨a1, a2⟩ := hN_R xss.flatten (r0W key) (r1W key) ((xss.flatten.length + 15) / 16)
  have ho : maO key xss = true := by
    unfold maO k8
    rw [decide_eq_true h1, decide_eq_true h2]
    simp [hk, andT]
  rw [markW, Lock_eq]
  generalize hH : hN xss.flatten (r0W key) (r1W key) ((xss.flatten.length + 15) / 16) = H at a1 a2
  refine FnTr.restM maC0_ok 60 4 0 Tryz.func115 (by simp) rfl (fun s' x h => ?_) (s := ⟨maT, maK key xss.flatten H (r0W key) (r1W key) ++ [.gap], true⟩)
    (p := andT true (andT true (decide (H.length = 3) && Fe.u64 (g H 0) && Fe.u64 (g H 1) && Fe.u64 (g H 2) && decide (key.length = 32)))) (by kernel_rfl) (by rw [a1, hk, Fe.u64_iff.2 (a2 0), Fe.u64_iff.2 (a2 1), Fe.u64_iff.2 (a2 2)]; rfl) rfl rfl
  refine TrL.items maC0_ok 60 3 _ 6 (by simp) (ma_head key xss) ho (by decide) ?_
  refine TrL.item 3 (by decide) ?_ h
  rw [← hH]
  exact Tr.rangeB 0 (by kernel_rfl) (f := 164) (first := []) (capt := [.ptr 4 0 0, .ptr 5 0 0]) true Tryz.func164 (by decide) rfl (by kernel_rfl) (fun l => ma_iter key (by omega) (r0W key) (r1W key) l)
    (fun l => ⟨_, rfl, rfl, by simp [rfL], rfl⟩) (fun l => rfl)
noncomputable def markF : List SV → Option (SV × List Blk × Bool)
  | [.agg [.ints .u8 32 key], .rob false xss] => some (.agg [.ints .u8 16 (markW key xss.flatten)], [], decide (key.length = 32) && decide (xss.flatten.length ≤ 274877906944) && decide (xss.length ≤ 274877906944))
  | _ => none
noncomputable def markE : Entry Tryz.prog := .val 115 _ Tryz.func115 (by decide) rfl true 0 markF fun vs v new e => by
  unfold markF at e
  split at e
  · simp only [Option.some.injEq, Prod.mk.injEq, Bool.and_eq_true, decide_eq_true_eq] at e
    obtain ⟨rfl, rfl, ⟨h0, h1⟩, h2⟩ := e
    exact mark_fn h0 h1 h2
  · cases e
def flK (n : Int) : Nat := ((16 - n % 16) % 16).toNat
def flI (n : Int) : Int := (IntKind.i64.wrap (16 - n.tmod 16)).tmod 16
theorem flI_eq {n : Int} (h : 0 ≤ n) : flI n = (flK n : Int) ∧ flK n < 16 := by
  unfold flI flK
  rw [Int.tmod_eq_emod_of_nonneg h, wrap_i64 _ (by omega) (by omega), Int.tmod_eq_emod_of_nonneg (by omega)]
  omega
noncomputable def flC : Ctr := mk (P := Tryz.prog) [] []
theorem flC_ok : CtrSound Tryz.prog flC := mk_sound _ InlOK.nil _ _
theorem fill_run (n : Int) : callS Tryz.prog flC 60 Tryz.f116 [.int .i64 n] [] = some (.sl 0 0 0 1 (flI n).toNat (flI n).toNat true true, [.b [.ints .u8 (flI n).toNat (List.replicate (flI n).toNat 0)]],
    andT true (IntKind.i64.wrap (flI n) == flI n && IntKind.i64.wrap (flI n) == flI n && (decide (0 ≤ flI n) && decide (flI n ≤ flI n) && decide ((1 : Int) * flI n ≤ 281474976710656)))) := by kernel_rfl
theorem fill_fn {n : Int} (h : 0 ≤ n) : FnTr Tryz.prog 116 [.int .i64 n] [] (.ro true .u8 (List.replicate (flK n) 0)) [] := by
  obtain ⟨e, hb⟩ := flI_eq h
  have k := fill_run n
  rw [e, wrap_i64 _ (by omega) (by omega), beq_self_eq_true, decide_eq_true (show (0 : Int) ≤ flK n by omega), decide_eq_true (show (1 : Int) * flK n ≤ 281474976710656 by omega), decide_eq_true (Int.le_refl _), Int.toNat_natCast] at k
  exact FnTr.frozen (FnTr.of_callS flC_ok Tryz.func116 k) (by simp)
def fillF : List SV → Option (SV × List Blk × Bool)
  | [.int .i64 n] => some (.ro true .u8 (List.replicate (flK n) 0), [], decide (0 ≤ n))
  | _ => none
noncomputable def fillE : Entry Tryz.prog := .val 116 _ Tryz.func116 (by decide) rfl false 0 fillF fun vs v new e => by
  unfold fillF at e
  split at e
  · simp only [Option.some.injEq, Prod.mk.injEq, decide_eq_true_eq] at e
    obtain ⟨rfl, rfl, h⟩ := e
    exact fill_fn h
  · cases e
end Go.Proofs.YtibfpjeeanppjaaGreat.Ae
end
section
namespace Go.Proofs.YtibfpjeeanppjaaGreat.Ae
open Go Go.Sy Sh
noncomputable def mkC : Ctr := mk (P := Tryz.prog) [Cc.pcE, putE, fillE, markE] []
theorem mkC_ok : CtrSound Tryz.prog mkC := mk_sound _ InlOK.nil _ _
noncomputable def mkT (ctx mixed : List Int) : List (List Int) := [ctx, List.replicate (flK (ctx.length : Int)) 0, mixed, List.replicate (flK (mixed.length : Int)) 0, putW (W (ctx.length : Int)), putW (W (mixed.length : Int))]
noncomputable def mkW (key nonce ctx mixed : List Int) : List Int := markW ((Cc.pcW key nonce 0).take 32) (mkT ctx mixed).flatten
theorem mkW_len (key nonce ctx mixed : List Int) : (mkW key nonce ctx mixed).length = 16 := markW_len _ _
theorem mkT_len (ctx mixed : List Int) : (mkT ctx mixed).flatten.length ≤ ctx.length + mixed.length + 48 := by
  have h1 := (flI_eq (n := (ctx.length : Int)) (by omega)).2
  have h2 := (flI_eq (n := (mixed.length : Int)) (by omega)).2
  have h3 : ∀ n, (putW n).length = 8 := fun n => by simp [putW]
  unfold mkT
  simp only [List.flatten_cons, List.flatten_nil, List.length_append, List.length_replicate, h3, List.length_nil]
  omega
theorem mark0_fn {key nonce ctx mixed : List Int} (hn : nonce.length = 12) (h1 : ctx.length + mixed.length ≤ 274877906000) :
    FnTr Tryz.prog 72 [.agg [.ints .u8 32 key], .ro false .u8 nonce, .ro false .u8 ctx, .ro false .u8 mixed] [] (.tup [.ro true .u8 (mkW key nonce ctx mixed), .nl .nilIface]) [] := by
  have ht := mkT_len ctx mixed
  have k := callM mkC_ok 60 Tryz.func72 (args := [.agg [.ints .u8 32 key], .ro false .u8 nonce, .ro false .u8 ctx, .ro false .u8 mixed]) (h := []) 4 (by simp) (v := .tup [.sl 3 0 0 1 16 16 true true, .nl .nilIface])
    (h1 := [.b [.ints .u8 32 key], .b [.ints .u8 64 (Cc.pcW key nonce 0)], .b [.ro false .u8 ctx, .ro true .u8 (List.replicate (flK (ctx.length : Int)) 0), .ro false .u8 mixed, .ro true .u8 (List.replicate (flK (mixed.length : Int)) 0), .ro true .u8 (putW (W (ctx.length : Int))), .ro true .u8 (putW (W (mixed.length : Int)))], .b [.ints .u8 16 (mkW key nonce ctx mixed)]])
    (p := andT (andT true (andT true (decide (nonce.length = 12) && true && true))) (andT true (decide (((Cc.pcW key nonce 0).take 32).length = 32) && decide ((mkT ctx mixed).flatten.length ≤ 274877906944) && true))) (by kernel_rfl)
    (by rw [hn, decide_eq_true (show ((Cc.pcW key nonce 0).take 32).length = 32 by rw [List.length_take, Cc.pcW_len]; rfl), decide_eq_true (show (mkT ctx mixed).flatten.length ≤ 274877906944 by omega)]; rfl) rfl rfl
  exact FnTr.fz 3 0 (by simp) (by simp) k (u := .tup [.ro true .u8 (mkW key nonce ctx mixed), .nl .nilIface]) (h2 := []) (p := andT (decide ((mkW key nonce ctx mixed).length = 16)) true) (by kernel_rfl) (by rw [mkW_len]; rfl)
noncomputable def mark0F : List SV → Option (SV × List Blk × Bool)
  | [.agg [.ints .u8 32 key], .ro false .u8 nonce, .ro false .u8 ctx, .ro false .u8 mixed] => some (.tup [.ro true .u8 (mkW key nonce ctx mixed), .nl .nilIface], [], decide (nonce.length = 12) && decide (ctx.length + mixed.length ≤ 274877906000))
  | _ => none
noncomputable def mark0E : Entry Tryz.prog := .val 72 _ Tryz.func72 (by decide) rfl true 0 mark0F fun vs v new e => by
  unfold mark0F at e
  split at e
  · simp only [Option.some.injEq, Prod.mk.injEq, Bool.and_eq_true, decide_eq_true_eq] at e
    obtain ⟨rfl, rfl, h1, h2⟩ := e
    exact mark0_fn h1 h2
  · cases e
noncomputable def noC : Ctr := mk (P := Tryz.prog) [putE] [] fun i => if i = 7 then some true else none
theorem noC_ok : CtrSound Tryz.prog noC := mk_sound _ InlOK.nil _ _
def nonceW (n : Int) : List Int := [0, 0, 0, 0] ++ putW (W n)
theorem nonce_fn (n : Int) : FnTr Tryz.prog 40 [.int .i64 n] [] (.ro true .u8 (nonceW n)) [] :=
  FnTr.frozen (N := 12) (ex := false) (wh := true) (FnTr.of_callS noC_ok Tryz.func40 (n := 200) (by kernel_rfl)) rfl
def nonceF : List SV → Option (SV × List Blk × Bool)
  | [.int .i64 n] => some (.ro true .u8 (nonceW n), [], true)
  | _ => none
noncomputable def nonceE : Entry Tryz.prog := .val 40 _ Tryz.func40 (by decide) rfl false 0 nonceF fun vs v new e => by
  unfold nonceF at e
  split at e
  · cases e; exact nonce_fn _
  · cases e
noncomputable def eqC (a b c : Bool) : Ctr := mk (P := Tryz.prog) [] [] fun i => if i = 10 then some a else if i = 14 then some b else if i = 24 then some c else none
theorem eqC_ok (a b c : Bool) : CtrSound Tryz.prog (eqC a b c) := mk_sound _ InlOK.nil _ _
noncomputable def eqB : Code := bodyOf Tryz.f81
noncomputable def eqS (xs ys : List Int) (i : Int) : St := ⟨slotsOf 26 [(0, .ro false .u8 xs), (1, .ro false .u8 ys), (12, .int .i64 xs.length), (13, .int .i64 i)], [], true⟩
section
variable (xs ys : List Int) (i : Int)
theorem eq_len : (callS Tryz.prog (eqC true true true) 60 Tryz.f81 [.ro false .u8 xs, .ro false .u8 ys] []).map (fun x => (x.1, x.2.2)) = some (.bool false, andT true ((xs.length : Int) != (ys.length : Int))) := by kernel_rfl
theorem eq_head : (execL Tryz.prog (eqC false true true) 60 0 4 (atoms eqB) ⟨slots0 Tryz.f81.ntmps [.ro false .u8 xs, .ro false .u8 ys], [], true⟩).bind (St.cut [0, 1, 12, 13] 0) = some { eqS xs ys 0 with ob := andT true (!((xs.length : Int) != (ys.length : Int))) } := by kernel_rfl
def eqO (i : Int) (n m : Nat) : Bool := andT (andT (andT (andT (andT true (decide (i < n))) (inB i n)) (decide (i.toNat < n))) (inB i m)) (decide (i.toNat < m))
theorem eq_one : (exec Tryz.prog (eqC false true false) 60 0 (inner (inner (nthC 4 eqB))) (eqS xs ys i)).bind (fun r => (r.2.cut [0, 1, 12, 13] 0).map fun q => (r.1, q)) =
    some (.normal, { eqS xs ys (IntKind.i64.wrap (i + 1)) with ob := andT (eqO i xs.length ys.length) (!(xs.getD i.toNat 0 != ys.getD i.toNat 0)) }) := by kernel_rfl
theorem eq_dif : (exec Tryz.prog (eqC false true true) 60 0 (inner (inner (nthC 4 eqB))) (eqS xs ys i)).bind (fun r => (r.2.cut [4] 0).map fun q => (r.1, q)) =
    some (.ret, ⟨slotsOf 26 [(4, .bool false)], [], andT (eqO i xs.length ys.length) (xs.getD i.toNat 0 != ys.getD i.toNat 0)⟩) := by kernel_rfl
theorem eq_end : (exec Tryz.prog (eqC false false true) 60 0 (inner (inner (nthC 4 eqB))) (eqS xs ys i)).bind (fun r => (r.2.cut [] 0).map fun q => (r.1, q)) =
    some (.exit 0, ⟨slotsOf 26 [], [], andT true (!decide (i < xs.length))⟩) := by kernel_rfl
end
theorem eqO_true {i n m : Nat} (h1 : i < n) (h2 : i < m) : eqO i n m = true := by
  unfold eqO
  rw [inB_true (by omega) (by omega), inB_true (by omega) (by omega), decide_eq_true (show (i : Int) < n by omega), decide_eq_true (show (i : Int).toNat < n by omega), decide_eq_true (show (i : Int).toNat < m by omega)]
  rfl
theorem eq_step {xs ys : List Int} (hl : xs.length = ys.length) (hn : xs.length < 4611686018427387904) {i : Nat} (hi : i < xs.length) (h : xs.getD i 0 = ys.getD i 0) : Tr Tryz.prog none 0 (inner (inner (nthC 4 eqB))) (eqS xs ys i) .normal (eqS xs ys ((i + 1 : Nat) : Int)) := by
  have k := eq_one xs ys i
  rw [eqO_true hi (by omega), Int.toNat_natCast, h, wrap_i64 _ (by omega) (by omega)] at k
  refine Tr.post (Tr.cut (eqC_ok false true false) 60 _ 0 (by omega) k (by simp [andT])) (Ent.same ?_ rfl)
  show (eqS xs ys _).t = (eqS xs ys _).t
  rw [show ((i : Int) + 1) = ((i + 1 : Nat) : Int) by omega]
theorem first_dif : ∀ {xs ys : List Int}, xs.length = ys.length → xs ≠ ys → ∃ k, k < xs.length ∧ (∀ i, i < k → xs.getD i 0 = ys.getD i 0) ∧ xs.getD k 0 ≠ ys.getD k 0
  | [], [], _, h => absurd rfl h
  | [], _ :: _, h, _ => by simp at h
  | _ :: _, [], h, _ => by simp at h
  | x :: xs, y :: ys, hl, h => by
    by_cases hx : x = y
    · subst hx
      obtain ⟨k, h1, h2, h3⟩ := first_dif (xs := xs) (ys := ys) (by simpa using hl) (fun q => h (by rw [q]))
      refine ⟨k + 1, by simp; omega, fun i hi => ?_, by simpa using h3⟩
      cases i with
      | zero => rfl
      | succ i => simpa using h2 i (by omega)
    · exact ⟨0, by simp, fun i hi => by omega, by simpa using hx⟩
theorem equal_fn {xs ys : List Int} (hn : xs.length < 4611686018427387904) : FnTr Tryz.prog 81 [.ro false .u8 xs, .ro false .u8 ys] [] (.bool (decide (xs = ys))) [] := by
  by_cases hl : xs.length = ys.length
  · have hne : ((xs.length : Int) != (ys.length : Int)) = false := by rw [hl]; simp
    have hh := eq_head xs ys
    rw [hne] at hh
    by_cases he : xs = ys
    · rw [decide_eq_true he]
      have hloop : Tr Tryz.prog none 0 (nthC 4 eqB) (eqS xs ys 0) .normal ⟨slotsOf 26 [], [], true⟩ := by
        refine Tr.loop (P := Tryz.prog) (ro := none) (k := 0) 0 (c := nthC 4 eqB) (by kernel_rfl) (fun j : Nat => eqS xs ys j) xs.length (fun j hj => eq_step hl hn hj (by rw [he])) ?_
        exact Tr.post (Tr.cut (eqC_ok false false true) 60 _ 0 (by omega) (eq_end xs ys xs.length) (by simp [andT])) (Ent.same rfl rfl)
      refine FnTr.restM (eqC_ok false true true) 60 5 0 Tryz.func81 (by simp) rfl (fun s' x h => ?_) (s := ⟨slotsOf 26 [], [], true⟩) (p := true) (by kernel_rfl) rfl rfl rfl
      refine TrL.items (eqC_ok false true true) 60 4 _ 0 (by simp) hh rfl (by decide) ?_
      exact TrL.item 4 (by decide) (Tr.pre hloop (Ent.same rfl rfl)) h
    · rw [decide_eq_false he]
      obtain ⟨k, h1, h2, h3⟩ := first_dif hl he
      have kd := eq_dif xs ys k
      rw [eqO_true h1 (by omega), Int.toNat_natCast, bne_iff_ne.2 h3] at kd
      have hloop : Tr Tryz.prog none 0 (nthC 4 eqB) (eqS xs ys 0) .ret ⟨slotsOf 26 [(4, .bool false)], [], true⟩ :=
        Tr.loopRet 0 (by kernel_rfl) (TrR.for (by simp) (fun j : Nat => eqS xs ys j) k (fun j hj => eq_step hl hn (by omega) (h2 j hj)) (Tr.cut (eqC_ok false true true) 60 _ 0 (by omega) kd rfl))
      refine FnTr.mk (vs := [.bool false]) Tryz.func81 rfl (x := .ret) (s := ⟨slotsOf 26 [(4, .bool false)], [], true⟩) ?_ (.inl rfl) (by kernel_rfl)
      refine TrL.items (eqC_ok false true true) 60 4 _ 0 (by simp) hh rfl (by decide) ?_
      exact TrL.leave 4 (by decide) (by simp) (Tr.pre hloop (Ent.same rfl rfl))
  · rw [decide_eq_false (fun q => hl (by rw [q]))]
    exact call0 (eqC_ok true true true) 60 Tryz.func81 (eq_len xs ys) (by rw [bne_iff_ne.2 (by omega)]; rfl) rfl
noncomputable def equalF : List SV → Option (SV × List Blk × Bool)
  | [.ro false .u8 xs, .ro false .u8 ys] => some (.bool (decide (xs = ys)), [], decide (xs.length < 4611686018427387904))
  | _ => none
noncomputable def equalE : Entry Tryz.prog := .val 81 _ Tryz.func81 (by decide) rfl true 0 equalF fun vs v new e => by
  unfold equalF at e
  split at e
  · simp only [Option.some.injEq, Prod.mk.injEq, decide_eq_true_eq] at e
    obtain ⟨rfl, rfl, h⟩ := e
    exact equal_fn h
  · cases e
end Go.Proofs.YtibfpjeeanppjaaGreat.Ae
end
section
namespace Go.Proofs.YtibfpjeeanppjaaGreat.Ae
open Go Go.Sy Sh
noncomputable def seC : Ctr := mk (P := Tryz.prog) [Cc.mixE, mark0E, Sh.concatE] [] fun i => if i = 15 || i = 19 || i = 24 then some false else none
theorem seC_ok : CtrSound Tryz.prog seC := mk_sound _ InlOK.nil _ _
noncomputable def sealW (key nonce ctx text : List Int) : List Int := Cc.mixW key nonce 1 text ++ mkW key nonce ctx (Cc.mixW key nonce 1 text)
theorem mixW_len (key nonce : List Int) (n : Int) (text : List Int) : (Cc.mixW key nonce n text).length = text.length := by simp [Cc.mixW]
theorem sealW_len (key nonce ctx text : List Int) : (sealW key nonce ctx text).length = text.length + 16 := by unfold sealW; rw [List.length_append, mixW_len, mkW_len]
noncomputable def seO (key nonce ctx text : List Int) : Bool := andT (andT (andT (andT (andT (andT true (!((nonce.length : Int) != 12))) (!decide ((ctx.length : Int) > 1048576))) (!decide ((text.length : Int) > 1048576))) (andT true (decide (nonce.length = 12) && true && decide ((1 : Int) + (text.length / 64 : Nat) ≤ 4294967295) && decide (text.length ≤ 281474976710656))))
  (andT true (decide (nonce.length = 12) && decide (ctx.length + (Cc.mixW key nonce 1 text).length ≤ 274877906000)))) (andT true (decide ([Cc.mixW key nonce 1 text, mkW key nonce ctx (Cc.mixW key nonce 1 text)].flatten.length ≤ 274877906944) && true))
theorem seal_run (key nonce ctx text : List Int) : (callS Tryz.prog seC 60 Tryz.f39 [.agg [.ints .u8 32 key], .ro false .u8 nonce, .ro false .u8 ctx, .ro false .u8 text] []).map (fun x => (x.1, x.2.2)) =
    some (.tup [.ro true .u8 [Cc.mixW key nonce 1 text, mkW key nonce ctx (Cc.mixW key nonce 1 text)].flatten, .nl .nilIface], seO key nonce ctx text) := by kernel_rfl
theorem seal_fn {key nonce ctx text : List Int} (hn : nonce.length = 12) (h1 : ctx.length ≤ 1048576) (h2 : text.length ≤ 1048576) :
    FnTr Tryz.prog 39 [.agg [.ints .u8 32 key], .ro false .u8 nonce, .ro false .u8 ctx, .ro false .u8 text] [] (.tup [.ro true .u8 (sealW key nonce ctx text), .nl .nilIface]) [] := by
  have e : [Cc.mixW key nonce 1 text, mkW key nonce ctx (Cc.mixW key nonce 1 text)].flatten = sealW key nonce ctx text := by simp [sealW]
  have k := call0 seC_ok 60 Tryz.func39 (seal_run key nonce ctx text) (by
    unfold seO
    rw [e, sealW_len, mixW_len, hn, decide_eq_false (show ¬ ((ctx.length : Int) > 1048576) by omega), decide_eq_false (show ¬ ((text.length : Int) > 1048576) by omega), decide_eq_true (show (1 : Int) + (text.length / 64 : Nat) ≤ 4294967295 by omega), decide_eq_true (show text.length ≤ 281474976710656 by omega), decide_eq_true (show ctx.length + text.length ≤ 274877906000 by omega), decide_eq_true (show text.length + 16 ≤ 274877906944 by omega)]
    rfl) rfl
  rw [e] at k
  exact k
noncomputable def sealF : List SV → Option (SV × List Blk × Bool)
  | [.agg [.ints .u8 32 key], .ro false .u8 nonce, .ro false .u8 ctx, .ro false .u8 text] => some (.tup [.ro true .u8 (sealW key nonce ctx text), .nl .nilIface], [], decide (nonce.length = 12) && decide (ctx.length ≤ 1048576) && decide (text.length ≤ 1048576))
  | _ => none
noncomputable def sealE : Entry Tryz.prog := .val 39 _ Tryz.func39 (by decide) rfl true 0 sealF fun vs v new e => by
  unfold sealF at e
  split at e
  · simp only [Option.some.injEq, Prod.mk.injEq, Bool.and_eq_true, decide_eq_true_eq] at e
    obtain ⟨rfl, rfl, ⟨h1, h2⟩, h3⟩ := e
    exact seal_fn h1 h2 h3
  · cases e
noncomputable def opC (a b : Bool) : Ctr := mk (P := Tryz.prog) [Cc.mixE, mark0E, equalE] [] fun i => if i = 19 || i = 23 || i = 28 then some false else if i = 33 then some a else if i = 53 then some b else none
theorem opC_ok (a b : Bool) : CtrSound Tryz.prog (opC a b) := mk_sound _ InlOK.nil _ _
def opA (x : List Int) : Int := IntKind.i64.wrap ((x.length : Int) - 16)
def opT (x : List Int) : List Int := x.take (opA x).toNat
def opM (x : List Int) : List Int := x.drop (opA x).toNat
def op1 (nonce ctx x : List Int) : Bool := andT (andT (andT true (!((nonce.length : Int) != 12))) (!decide ((ctx.length : Int) > 1048592))) (!decide ((x.length : Int) > 1048592))
def opb (x : List Int) : Bool := andT true (decide (0 ≤ opA x) && decide (opA x ≤ (x.length : Int)))
noncomputable def op2 (key nonce ctx x : List Int) : Bool := andT (andT (andT (andT (andT (op1 nonce ctx x) (!decide (opA x < 0))) (opb x)) (andT true (decide (nonce.length = 12) && decide (ctx.length + (opT x).length ≤ 274877906000)))) (andT true (opb x))) (andT true (decide ((mkW key nonce ctx (opT x)).length < 4611686018427387904)))
noncomputable def op3 (key nonce ctx x : List Int) : Bool := andT (andT (andT (op2 key nonce ctx x) (!!decide (mkW key nonce ctx (opT x) = opM x))) (opb x)) (andT true (decide (nonce.length = 12) && true && decide ((1 : Int) + ((opT x).length / 64 : Nat) ≤ 4294967295) && decide ((opT x).length ≤ 281474976710656)))
noncomputable def opBad : SV := .tup [.nl (.slice none 0 0), .iface 78 (.int .i64 2)]
section
variable (key nonce ctx x : List Int)
theorem open_run1 : (callS Tryz.prog (opC true true) 60 Tryz.f46 [.agg [.ints .u8 32 key], .ro false .u8 nonce, .ro false .u8 ctx, .ro false .u8 x] []).map (fun x => (x.1, x.2.2)) = some (opBad, andT (op1 nonce ctx x) (decide (opA x < 0))) := by kernel_rfl
theorem open_run2 : (callS Tryz.prog (opC false true) 60 Tryz.f46 [.agg [.ints .u8 32 key], .ro false .u8 nonce, .ro false .u8 ctx, .ro false .u8 x] []).map (fun x => (x.1, x.2.2)) = some (opBad, andT (op2 key nonce ctx x) (!decide (mkW key nonce ctx (opT x) = opM x))) := by kernel_rfl
theorem open_run3 : (callS Tryz.prog (opC false false) 60 Tryz.f46 [.agg [.ints .u8 32 key], .ro false .u8 nonce, .ro false .u8 ctx, .ro false .u8 x] []).map (fun x => (x.1, x.2.2)) = some (.tup [.ro true .u8 (Cc.mixW key nonce 1 (opT x)), .nl .nilIface], op3 key nonce ctx x) := by kernel_rfl
end
noncomputable def openB (key nonce ctx x : List Int) : Bool := decide (16 ≤ x.length) && decide (mkW key nonce ctx (x.take (x.length - 16)) = x.drop (x.length - 16))
noncomputable def openW (key nonce x : List Int) : List Int := Cc.mixW key nonce 1 (x.take (x.length - 16))
theorem op_facts {key nonce ctx x : List Int} (hn : nonce.length = 12) (h1 : ctx.length ≤ 1048592) (h2 : x.length ≤ 1048592) : op1 nonce ctx x = true ∧ (16 ≤ x.length → opT x = x.take (x.length - 16) ∧ opM x = x.drop (x.length - 16) ∧ op2 key nonce ctx x = true ∧ opb x = true) ∧ (decide (opA x < 0) = !decide (16 ≤ x.length)) := by
  have hA : opA x = (x.length : Int) - 16 := by unfold opA; rw [wrap_i64 _ (by omega) (by omega)]
  have ho : op1 nonce ctx x = true := by
    unfold op1
    rw [hn, decide_eq_false (show ¬ ((ctx.length : Int) > 1048592) by omega), decide_eq_false (show ¬ ((x.length : Int) > 1048592) by omega)]
    rfl
  refine ⟨ho, fun h => ?_, ?_⟩
  · have e : (opA x).toNat = x.length - 16 := by rw [hA]; omega
    have hb : opb x = true := by
      unfold opb
      rw [hA, decide_eq_true (show (0 : Int) ≤ (x.length : Int) - 16 by omega), decide_eq_true (show (x.length : Int) - 16 ≤ (x.length : Int) by omega)]
      rfl
    refine ⟨by unfold opT; rw [e], by unfold opM; rw [e], ?_, hb⟩
    unfold op2
    rw [ho, hb, hA, hn, mkW_len, decide_eq_false (show ¬ ((x.length : Int) - 16 < 0) by omega), decide_eq_true (show ctx.length + (opT x).length ≤ 274877906000 by unfold opT; rw [List.length_take]; omega)]
    rfl
  · rw [hA]
    by_cases h : 16 ≤ x.length
    · rw [decide_eq_true h, decide_eq_false (by omega)]; rfl
    · rw [decide_eq_false h, decide_eq_true (by omega)]; rfl
theorem open_fn {key nonce ctx x : List Int} (hn : nonce.length = 12) (h1 : ctx.length ≤ 1048592) (h2 : x.length ≤ 1048592) (ok : openB key nonce ctx x = true) :
    FnTr Tryz.prog 46 [.agg [.ints .u8 32 key], .ro false .u8 nonce, .ro false .u8 ctx, .ro false .u8 x] [] (.tup [.ro true .u8 (openW key nonce x), .nl .nilIface]) [] := by
  obtain ⟨a1, a2, a3⟩ := op_facts (key := key) hn h1 h2
  unfold openB at ok
  simp only [Bool.and_eq_true, decide_eq_true_eq] at ok
  obtain ⟨b1, b2, b3, b4⟩ := a2 ok.1
  have k := call0 (opC_ok false false) 60 Tryz.func46 (open_run3 key nonce ctx x) (by
    unfold op3
    rw [b3, b4, b1, b2, hn, decide_eq_true ok.2, decide_eq_true (show (1 : Int) + ((x.take (x.length - 16)).length / 64 : Nat) ≤ 4294967295 by rw [List.length_take]; omega), decide_eq_true (show (x.take (x.length - 16)).length ≤ 281474976710656 by rw [List.length_take]; omega)]
    rfl) rfl
  rw [b1] at k
  exact k
theorem open_bad {key nonce ctx x : List Int} (hn : nonce.length = 12) (h1 : ctx.length ≤ 1048592) (h2 : x.length ≤ 1048592) (ok : openB key nonce ctx x = false) :
    FnTr Tryz.prog 46 [.agg [.ints .u8 32 key], .ro false .u8 nonce, .ro false .u8 ctx, .ro false .u8 x] [] opBad [] := by
  obtain ⟨a1, a2, a3⟩ := op_facts (key := key) hn h1 h2
  unfold openB at ok
  by_cases h : 16 ≤ x.length
  · obtain ⟨b1, b2, b3, b4⟩ := a2 h
    rw [decide_eq_true h, Bool.true_and] at ok
    exact call0 (opC_ok false true) 60 Tryz.func46 (open_run2 key nonce ctx x) (by rw [b1, b2, ok, b3]; rfl) rfl
  · rw [decide_eq_false h] at a3
    exact call0 (opC_ok true true) 60 Tryz.func46 (open_run1 key nonce ctx x) (by rw [a1, a3]; rfl) rfl
noncomputable def openF (ok : Bool) : List SV → Option (SV × List Blk × Bool)
  | [.agg [.ints .u8 32 key], .ro false .u8 nonce, .ro false .u8 ctx, .ro false .u8 x] => match ok with
    | true => some (.tup [.ro true .u8 (openW key nonce x), .nl .nilIface], [], decide (nonce.length = 12) && decide (ctx.length ≤ 1048592) && decide (x.length ≤ 1048592) && openB key nonce ctx x)
    | false => some (opBad, [], decide (nonce.length = 12) && decide (ctx.length ≤ 1048592) && decide (x.length ≤ 1048592) && !openB key nonce ctx x)
  | _ => none
noncomputable def openE (ok : Bool) : Entry Tryz.prog := .val 46 _ Tryz.func46 (by decide) rfl true 0 (openF ok) fun vs v new e => by
  unfold openF at e
  split at e
  · split at e
    · simp only [Option.some.injEq, Prod.mk.injEq, Bool.and_eq_true, decide_eq_true_eq] at e
      obtain ⟨rfl, rfl, ⟨⟨h1, h2⟩, h3⟩, h4⟩ := e
      exact open_fn h1 h2 h3 h4
    · simp only [Option.some.injEq, Prod.mk.injEq, Bool.and_eq_true, decide_eq_true_eq, Bool.not_eq_true'] at e
      obtain ⟨rfl, rfl, ⟨⟨h1, h2⟩, h3⟩, h4⟩ := e
      exact open_bad h1 h2 h3 h4
  · cases e
theorem seal_opens (key nonce ctx text : List Int) : openB key nonce ctx (sealW key nonce ctx text) = true := by
  unfold openB
  have hl := sealW_len key nonce ctx text
  have hm := mixW_len key nonce 1 text
  rw [hl, Nat.add_sub_cancel]
  unfold sealW
  rw [List.take_left' hm, List.drop_left' hm, decide_eq_true rfl, decide_eq_true (show 16 ≤ text.length + 16 by omega)]
  rfl
theorem xor_nat {a b : Nat} (ha : a < 2 ^ 8) (hb : b < 2 ^ 8) : xorI .u8 (a : Int) (b : Int) = ((a ^^^ b : Nat) : Int) := by
  unfold xorI bitsI
  show IntKind.u8.wrap ((BitVec.ofInt 8 (a : Int) ^^^ BitVec.ofInt 8 (b : Int)).toNat : Int) = _
  rw [BitVec.ofInt_natCast, BitVec.ofInt_natCast, BitVec.toNat_xor, BitVec.toNat_ofNat, BitVec.toNat_ofNat, Nat.mod_eq_of_lt ha, Nat.mod_eq_of_lt hb, Fe.wrap_u8]
  have := Nat.xor_lt_two_pow ha hb
  omega
theorem xor_back (a b : Fin 256) : xorI .u8 (xorI .u8 (a.val : Int) (b.val : Int)) (b.val : Int) = (a.val : Int) := by
  rw [xor_nat (show a.val < 2 ^ 8 from a.isLt) (show b.val < 2 ^ 8 from b.isLt), xor_nat (Nat.xor_lt_two_pow (show a.val < 2 ^ 8 from a.isLt) (show b.val < 2 ^ 8 from b.isLt)) (show b.val < 2 ^ 8 from b.isLt), Nat.xor_assoc, Nat.xor_self, Nat.xor_zero]
theorem pcW_by (key nonce : List Int) (n : Int) (i : Nat) : 0 ≤ (Cc.pcW key nonce n).getD i 0 ∧ (Cc.pcW key nonce n).getD i 0 < 256 := by
  rw [List.getD_eq_getElem?_getD]
  cases e : (Cc.pcW key nonce n)[i]? with
  | none => exact ⟨by decide, by decide⟩
  | some x =>
    have hx := List.mem_of_getElem? e
    simp only [Cc.pcW, Lock_eq, Cc.pcO, List.mem_map] at hx
    obtain ⟨j, _, rfl⟩ := hx
    show 0 ≤ IntKind.u8.wrap _ ∧ IntKind.u8.wrap _ < 256
    rw [Fe.wrap_u8]
    exact ⟨Int.emod_nonneg _ (by decide), Int.emod_lt_of_pos _ (by decide)⟩
theorem mix_back {key nonce text : List Int} (n : Int) (h : ∀ x ∈ text, 0 ≤ x ∧ x < 256) : Cc.mixW key nonce n (Cc.mixW key nonce n text) = text := by
  have hl := mixW_len key nonce n text
  apply List.ext_getElem?
  intro i
  by_cases hi : i < text.length
  · have e1 : (Cc.mixW key nonce n text).getD i 0 = Cc.mxF key nonce n text i := by
      unfold Cc.mixW
      rw [List.getD_eq_getElem?_getD, List.getElem?_map, List.getElem?_range hi]; rfl
    have ht := h text[i] (List.getElem_mem _)
    have hp := pcW_by key nonce (n + (i / 64 : Nat)) (i % 64)
    rw [Cc.mixW, hl, List.getElem?_map, List.getElem?_range hi, List.getElem?_eq_getElem hi, Option.map_some]
    congr 1
    show xorI .u8 ((Cc.mixW key nonce n text).getD i 0) _ = _
    rw [e1, Cc.mxF, List.getD_eq_getElem?_getD, List.getElem?_eq_getElem hi, Option.getD_some]
    generalize (Cc.pcW key nonce (n + (i / 64 : Nat))).getD (i % 64) 0 = p at *
    generalize text[i] = t at *
    have := xor_back ⟨t.toNat, by omega⟩ ⟨p.toNat, by omega⟩
    simp only [Int.toNat_of_nonneg ht.1, Int.toNat_of_nonneg hp.1] at this
    exact this
  · rw [List.getElem?_eq_none (by rw [mixW_len, hl]; omega), List.getElem?_eq_none (by omega)]
theorem open_seal {key nonce ctx text : List Int} (h : ∀ x ∈ text, 0 ≤ x ∧ x < 256) : openW key nonce (sealW key nonce ctx text) = text := by
  unfold openW
  have hm := mixW_len key nonce 1 text
  rw [sealW_len, Nat.add_sub_cancel]
  unfold sealW
  rw [List.take_left' hm]
  exact mix_back 1 h
end Go.Proofs.YtibfpjeeanppjaaGreat.Ae
end
