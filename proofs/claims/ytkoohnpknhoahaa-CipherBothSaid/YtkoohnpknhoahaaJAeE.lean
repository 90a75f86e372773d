/- This file proves the contracts of aead's mark and Nonce and of slices.Equal. Conditions: nonces of 12 bytes; lengths that memory bears. -/
import Derived.Test.YtkoohnpknhoahaaJAeD
import Derived.Test.YtkoohnpknhoahaaJCcB
set_option linter.all false
namespace Go.Proofs.Ytkoohnpknhoahaa.Ae
open Go Go.Sy Sh
noncomputable def mkC : Ctr := mk (P := Try.prog) [Cc.pcE, putE, fillE, markE] []
theorem mkC_ok : CtrSound Try.prog mkC := mk_sound _ InlOK.nil _ _
noncomputable def mkT (ctx mixed : List Int) : List (List Int) := [ctx, List.replicate (flK (ctx.length : Int)) 0, mixed, List.replicate (flK (mixed.length : Int)) 0, putW (W (ctx.length : Int)), putW (W (mixed.length : Int))]
noncomputable def mkW (key nonce ctx mixed : List Int) : List Int := markW ((Cc.pcW key nonce 0).take 32) (mkT ctx mixed).flatten
theorem mkW_len (key nonce ctx mixed : List Int) : (mkW key nonce ctx mixed).length = 16 := markW_len _ _
theorem mkT_len (ctx mixed : List Int) : (mkT ctx mixed).flatten.length ≤ ctx.length + mixed.length + 48 := by
  have h1 := (flI_eq (n := (ctx.length : Int)) (by omega)).2
  have h2 := (flI_eq (n := (mixed.length : Int)) (by omega)).2
  have h3 : ∀ n, (putW n).length = 8 := fun n => by simp [putW]
  unfold mkT
  simp only [List.flatten_cons, List.flatten_nil, List.length_append, List.length_replicate, h3, List.length_nil]
  omega
set_option maxRecDepth 100000 in
theorem mark0_fn {key nonce ctx mixed : List Int} (hn : nonce.length = 12) (h1 : ctx.length + mixed.length ≤ 274877906000) :
    FnTr Try.prog 117 [.agg [.ints .u8 32 key], .ro false .u8 nonce, .ro false .u8 ctx, .ro false .u8 mixed] [] (.tup [.ro true .u8 (mkW key nonce ctx mixed), .nl .nilIface]) [] := by
  have ht := mkT_len ctx mixed
  have k := callM mkC_ok 60 Try.func117 (args := [.agg [.ints .u8 32 key], .ro false .u8 nonce, .ro false .u8 ctx, .ro false .u8 mixed]) (h := []) 4 (by simp) (v := .tup [.sl 3 0 0 1 16 16 true true, .nl .nilIface])
    (h1 := [.b [.ints .u8 32 key], .b [.ints .u8 64 (Cc.pcW key nonce 0)], .b [.ro false .u8 ctx, .ro true .u8 (List.replicate (flK (ctx.length : Int)) 0), .ro false .u8 mixed, .ro true .u8 (List.replicate (flK (mixed.length : Int)) 0), .ro true .u8 (putW (W (ctx.length : Int))), .ro true .u8 (putW (W (mixed.length : Int)))], .b [.ints .u8 16 (mkW key nonce ctx mixed)]])
    (p := andT (andT true (andT true (decide (nonce.length = 12) && true && true))) (andT true (decide (((Cc.pcW key nonce 0).take 32).length = 32) && decide ((mkT ctx mixed).flatten.length ≤ 274877906944) && true))) (by kernel_rfl)
    (by rw [hn, decide_eq_true (show ((Cc.pcW key nonce 0).take 32).length = 32 by rw [List.length_take, Cc.pcW_len]; rfl), decide_eq_true (show (mkT ctx mixed).flatten.length ≤ 274877906944 by omega)]; rfl) rfl rfl
  exact FnTr.fz 3 0 (by simp) (by simp) k (u := .tup [.ro true .u8 (mkW key nonce ctx mixed), .nl .nilIface]) (h2 := []) (p := andT (decide ((mkW key nonce ctx mixed).length = 16)) true) (by kernel_rfl) (by rw [mkW_len]; rfl)
noncomputable def mark0F : List SV → Option (SV × List Blk × Bool)
  | [.agg [.ints .u8 32 key], .ro false .u8 nonce, .ro false .u8 ctx, .ro false .u8 mixed] => some (.tup [.ro true .u8 (mkW key nonce ctx mixed), .nl .nilIface], [], decide (nonce.length = 12) && decide (ctx.length + mixed.length ≤ 274877906000))
  | _ => none
noncomputable def mark0E : Entry Try.prog := .val 117 _ Try.func117 (by decide) rfl true 0 mark0F fun vs v new e => by
  unfold mark0F at e
  split at e
  · simp only [Option.some.injEq, Prod.mk.injEq, Bool.and_eq_true, decide_eq_true_eq] at e
    obtain ⟨rfl, rfl, h1, h2⟩ := e
    exact mark0_fn h1 h2
  · cases e
noncomputable def noC : Ctr := mk (P := Try.prog) [putE] [] fun i => if i = 7 then some true else none
theorem noC_ok : CtrSound Try.prog noC := mk_sound _ InlOK.nil _ _
def nonceW (n : Int) : List Int := [0, 0, 0, 0] ++ putW (W n)
set_option maxRecDepth 100000 in
theorem nonce_fn (n : Int) : FnTr Try.prog 115 [.int .i64 n] [] (.ro true .u8 (nonceW n)) [] :=
  FnTr.frozen (N := 12) (ex := false) (wh := true) (FnTr.of_callS noC_ok Try.func115 (n := 200) (by kernel_rfl)) rfl
def nonceF : List SV → Option (SV × List Blk × Bool)
  | [.int .i64 n] => some (.ro true .u8 (nonceW n), [], true)
  | _ => none
noncomputable def nonceE : Entry Try.prog := .val 115 _ Try.func115 (by decide) rfl false 0 nonceF fun vs v new e => by
  unfold nonceF at e
  split at e
  · cases e; exact nonce_fn _
  · cases e
noncomputable def eqC (a b c : Bool) : Ctr := mk (P := Try.prog) [] [] fun i => if i = 10 then some a else if i = 14 then some b else if i = 24 then some c else none
theorem eqC_ok (a b c : Bool) : CtrSound Try.prog (eqC a b c) := mk_sound _ InlOK.nil _ _
noncomputable def eqB : Code := bodyOf Try.f120
noncomputable def eqS (xs ys : List Int) (i : Int) : St := ⟨slotsOf 26 [(0, .ro false .u8 xs), (1, .ro false .u8 ys), (12, .int .i64 xs.length), (13, .int .i64 i)], [], true⟩
section
variable (xs ys : List Int) (i : Int)
set_option maxRecDepth 100000 in
theorem eq_len : (callS Try.prog (eqC true true true) 60 Try.f120 [.ro false .u8 xs, .ro false .u8 ys] []).map (fun x => (x.1, x.2.2)) = some (.bool false, andT true ((xs.length : Int) != (ys.length : Int))) := by kernel_rfl
set_option maxRecDepth 100000 in
theorem eq_head : (execL Try.prog (eqC false true true) 60 0 4 (atoms eqB) ⟨slots0 Try.f120.ntmps [.ro false .u8 xs, .ro false .u8 ys], [], true⟩).bind (St.cut [0, 1, 12, 13] 0) = some { eqS xs ys 0 with ob := andT true (!((xs.length : Int) != (ys.length : Int))) } := by kernel_rfl
def eqO (i : Int) (n m : Nat) : Bool := andT (andT (andT (andT (andT true (decide (i < n))) (inB i n)) (decide (i.toNat < n))) (inB i m)) (decide (i.toNat < m))
set_option maxRecDepth 100000 in
theorem eq_one : (exec Try.prog (eqC false true false) 60 0 (inner (inner (nthC 4 eqB))) (eqS xs ys i)).bind (fun r => (r.2.cut [0, 1, 12, 13] 0).map fun q => (r.1, q)) =
    some (.normal, { eqS xs ys (IntKind.i64.wrap (i + 1)) with ob := andT (eqO i xs.length ys.length) (!(xs.getD i.toNat 0 != ys.getD i.toNat 0)) }) := by kernel_rfl
set_option maxRecDepth 100000 in
theorem eq_dif : (exec Try.prog (eqC false true true) 60 0 (inner (inner (nthC 4 eqB))) (eqS xs ys i)).bind (fun r => (r.2.cut [4] 0).map fun q => (r.1, q)) =
    some (.ret, ⟨slotsOf 26 [(4, .bool false)], [], andT (eqO i xs.length ys.length) (xs.getD i.toNat 0 != ys.getD i.toNat 0)⟩) := by kernel_rfl
set_option maxRecDepth 100000 in
theorem eq_end : (exec Try.prog (eqC false false true) 60 0 (inner (inner (nthC 4 eqB))) (eqS xs ys i)).bind (fun r => (r.2.cut [] 0).map fun q => (r.1, q)) =
    some (.exit 0, ⟨slotsOf 26 [], [], andT true (!decide (i < xs.length))⟩) := by kernel_rfl
end
theorem eqO_true {i n m : Nat} (h1 : i < n) (h2 : i < m) : eqO i n m = true := by
  unfold eqO
  rw [inB_true (by omega) (by omega), inB_true (by omega) (by omega), decide_eq_true (show (i : Int) < n by omega), decide_eq_true (show (i : Int).toNat < n by omega), decide_eq_true (show (i : Int).toNat < m by omega)]
  rfl
theorem eq_step {xs ys : List Int} (hl : xs.length = ys.length) (hn : xs.length < 4611686018427387904) {i : Nat} (hi : i < xs.length) (h : xs.getD i 0 = ys.getD i 0) : Tr Try.prog none 0 (inner (inner (nthC 4 eqB))) (eqS xs ys i) .normal (eqS xs ys ((i + 1 : Nat) : Int)) := by
  have k := eq_one xs ys i
  rw [eqO_true hi (by omega), Int.toNat_natCast, h, wrap_i64 _ (by omega) (by omega)] at k
  refine Tr.post (Tr.cut (eqC_ok false true false) 60 _ 0 (by omega) k (by simp [andT])) (Ent.same ?_ rfl)
  show (eqS xs ys _).t = (eqS xs ys _).t
  rw [show ((i : Int) + 1) = ((i + 1 : Nat) : Int) by omega]
theorem first_dif : ∀ {xs ys : List Int}, xs.length = ys.length → xs ≠ ys → ∃ k, k < xs.length ∧ (∀ i, i < k → xs.getD i 0 = ys.getD i 0) ∧ xs.getD k 0 ≠ ys.getD k 0
  | [], [], _, h => absurd rfl h
  | [], _ :: _, h, _ => by simp at h
  | _ :: _, [], h, _ => by simp at h
  | x :: xs, y :: ys, hl, h => by
    by_cases hx : x = y
    · subst hx
      obtain ⟨k, h1, h2, h3⟩ := first_dif (xs := xs) (ys := ys) (by simpa using hl) (fun q => h (by rw [q]))
      refine ⟨k + 1, by simp; omega, fun i hi => ?_, by simpa using h3⟩
      cases i with
      | zero => rfl
      | succ i => simpa using h2 i (by omega)
    · exact ⟨0, by simp, fun i hi => by omega, by simpa using hx⟩
set_option maxRecDepth 100000 in
theorem equal_fn {xs ys : List Int} (hn : xs.length < 4611686018427387904) : FnTr Try.prog 120 [.ro false .u8 xs, .ro false .u8 ys] [] (.bool (decide (xs = ys))) [] := by
  by_cases hl : xs.length = ys.length
  · have hne : ((xs.length : Int) != (ys.length : Int)) = false := by rw [hl]; simp
    have hh := eq_head xs ys
    rw [hne] at hh
    by_cases he : xs = ys
    · rw [decide_eq_true he]
      have hloop : Tr Try.prog none 0 (nthC 4 eqB) (eqS xs ys 0) .normal ⟨slotsOf 26 [], [], true⟩ := by
        refine Tr.loop (P := Try.prog) (ro := none) (k := 0) 0 (c := nthC 4 eqB) (by kernel_rfl) (fun j : Nat => eqS xs ys j) xs.length (fun j hj => eq_step hl hn hj (by rw [he])) ?_
        exact Tr.post (Tr.cut (eqC_ok false false true) 60 _ 0 (by omega) (eq_end xs ys xs.length) (by simp [andT])) (Ent.same rfl rfl)
      refine FnTr.restM (eqC_ok false true true) 60 5 0 Try.func120 (by simp) rfl (fun s' x h => ?_) (s := ⟨slotsOf 26 [], [], true⟩) (p := true) (by kernel_rfl) rfl rfl rfl
      refine TrL.items (eqC_ok false true true) 60 4 _ 0 (by simp) hh rfl (by decide) ?_
      exact TrL.item 4 (by decide) (Tr.pre hloop (Ent.same rfl rfl)) h
    · rw [decide_eq_false he]
      obtain ⟨k, h1, h2, h3⟩ := first_dif hl he
      have kd := eq_dif xs ys k
      rw [eqO_true h1 (by omega), Int.toNat_natCast, bne_iff_ne.2 h3] at kd
      have hloop : Tr Try.prog none 0 (nthC 4 eqB) (eqS xs ys 0) .ret ⟨slotsOf 26 [(4, .bool false)], [], true⟩ :=
        Tr.loopRet 0 (by kernel_rfl) (TrR.for (by simp) (fun j : Nat => eqS xs ys j) k (fun j hj => eq_step hl hn (by omega) (h2 j hj)) (Tr.cut (eqC_ok false true true) 60 _ 0 (by omega) kd rfl))
      refine FnTr.mk (vs := [.bool false]) Try.func120 rfl (x := .ret) (s := ⟨slotsOf 26 [(4, .bool false)], [], true⟩) ?_ (.inl rfl) (by kernel_rfl)
      refine TrL.items (eqC_ok false true true) 60 4 _ 0 (by simp) hh rfl (by decide) ?_
      exact TrL.leave 4 (by decide) (by simp) (Tr.pre hloop (Ent.same rfl rfl))
  · rw [decide_eq_false (fun q => hl (by rw [q]))]
    exact call0 (eqC_ok true true true) 60 Try.func120 (eq_len xs ys) (by rw [bne_iff_ne.2 (by omega)]; rfl) rfl
noncomputable def equalF : List SV → Option (SV × List Blk × Bool)
  | [.ro false .u8 xs, .ro false .u8 ys] => some (.bool (decide (xs = ys)), [], decide (xs.length < 4611686018427387904))
  | _ => none
noncomputable def equalE : Entry Try.prog := .val 120 _ Try.func120 (by decide) rfl true 0 equalF fun vs v new e => by
  unfold equalF at e
  split at e
  · simp only [Option.some.injEq, Prod.mk.injEq, decide_eq_true_eq] at e
    obtain ⟨rfl, rfl, h⟩ := e
    exact equal_fn h
  · cases e
end Go.Proofs.Ytkoohnpknhoahaa.Ae
