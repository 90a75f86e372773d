/- This file proves the contracts of kdf's padded, Tag and Extract. Conditions: lengths that memory bears. -/
import Derived.Test.YtkoohnpknhoahaaJS2C
set_option linter.all false
namespace Go.Proofs.Ytkoohnpknhoahaa.Kd
open Go Go.Sy Sh
noncomputable def pdC (a : Bool) : Ctr := mk (P := Try.prog) [S2.shortE] [] fun i => if i = 10 then some a else none
theorem pdC_ok (a : Bool) : CtrSound Try.prog (pdC a) := mk_sound _ InlOK.nil _ _
noncomputable def pdM : Code := bodyOf Try.f160
noncomputable def pdK (key : List Int) : List Int := if (key.length : Int) > 64 then S2.shortW key else key
noncomputable def pdB (k : List Int) : List Int := spl (List.replicate 64 0) 0 k (Nat.min k.length 64)
def pdX (l : List Int) (w : Int) : List Int := (List.range 64).map fun i => xorI .u8 (l.getD i 0) w
noncomputable def pdW (key : List Int) (w : Int) : List Int := Lock (pdX (pdB (pdK key)) w)
theorem pdW_len (key : List Int) (w : Int) : (pdW key w).length = 64 := by rw [pdW, Lock_eq]; simp [pdX]
noncomputable def pd1 (key l : List Int) (w : Int) : St := ⟨slotsOf 33 [(1, .int .u8 w), (6, .sl 2 0 0 1 64 64 true true), (20, .int .i64 64), (21, .int .i64 0)], [.b [.ro false .u8 key], .b [.ints .u8 32 (S2.shortW key)], .b [.ints .u8 64 l]], true⟩
noncomputable def pd0 (l : List Int) (w : Int) : St := ⟨slotsOf 33 [(1, .int .u8 w), (6, .sl 0 0 0 1 64 64 true true), (20, .int .i64 64), (21, .int .i64 0)], [.b [.ints .u8 64 l]], true⟩
section
variable (key l : List Int) (w : Int)
set_option maxRecDepth 100000 in
theorem pd_h1 : (execL Try.prog (pdC true) 60 0 6 (atoms pdM) ⟨slots0 Try.f160.ntmps [.ro false .u8 key, .int .u8 w], [], true⟩).bind (St.cut [1, 6, 20, 21] 3) =
    some ⟨slotsOf 33 [(1, .int .u8 w), (6, .sl 2 0 0 1 64 64 true true), (20, .int .i64 64), (21, .int .i64 0)], [.b [.ro false .u8 key], .b [.ints .u8 32 (S2.shortW [key].flatten)], .b [.ints .u8 64 (spl (List.replicate 64 0) 0 (S2.shortW [key].flatten) (Nat.min 32 64))]],
      andT (andT (andT true (decide ((key.length : Int) > 64))) (andT true (decide ([key].flatten.length < 274877900000) && true))) (andT (decide ((S2.shortW [key].flatten).length = 32) && true) (true && decide (Nat.min 32 64 ≤ (S2.shortW [key].flatten).length)))⟩ := by kernel_rfl
set_option maxRecDepth 100000 in
theorem pd_h0 : (execL Try.prog (pdC false) 60 0 6 (atoms pdM) ⟨slots0 Try.f160.ntmps [.ro false .u8 key, .int .u8 w], [], true⟩).bind (St.cut [1, 6, 20, 21] 1) =
    some { pd0 (pdB key) w with ob := andT (andT true (!decide ((key.length : Int) > 64))) (andT true (true && decide (0 + Nat.min key.length 64 ≤ 64) && decide (Nat.min key.length 64 ≤ key.length))) } := by kernel_rfl
end
theorem pdB_len (k : List Int) : (pdB k).length = 64 := spl_length (by simp) (by have h : Nat.min k.length 64 ≤ 64 := Nat.min_le_right _ _; generalize Nat.min k.length 64 = m at *; omega) (Nat.min_le_left _ _)
set_option maxRecDepth 100000 in
theorem padded_fn {key : List Int} {w : Int} (h : key.length < 274877900000) : FnTr Try.prog 160 [.ro false .u8 key, .int .u8 w] [] (.ro true .u8 (pdW key w)) [] := by
  rw [pdW, Lock_eq]
  unfold pdK
  split
  · rename_i hk
    have hs := S2.shortW_len key
    have e : spl (List.replicate 64 0) 0 (S2.shortW key) (Nat.min 32 64) = pdB (S2.shortW key) := by unfold pdB; rw [hs]
    have hh := pd_h1 key w
    rw [show [key].flatten = key by simp, e, hs, decide_eq_true hk, decide_eq_true h] at hh
    have k : FnTr Try.prog 160 [.ro false .u8 key, .int .u8 w] [] (.sl 2 0 0 1 64 64 true true) [.b [.ro false .u8 key], .b [.ints .u8 32 (S2.shortW key)], .b [.ints .u8 64 (pdX (pdB (S2.shortW key)) w)]] := by
      refine FnTr.restM (pdC_ok true) 200 6 3 Try.func160 (by simp) rfl (fun s' x hx => ?_) (s := pd1 key (lst 64 (pdB (S2.shortW key))) w) (p := true) ?_ rfl rfl rfl
      · refine TrL.items (pdC_ok true) 60 6 _ 3 (by simp) hh rfl (by decide) ?_
        exact TrL.pre hx (Ent.same rfl (by rw [lst_eq (pdB_len _)]; rfl)) (by decide)
      · generalize pdB (S2.shortW key) = l
        kernel_rfl
    exact FnTr.fz 2 0 (by simp) (by simp) k (u := .ro true .u8 (pdX (pdB (S2.shortW key)) w)) (h2 := []) (p := true) (by kernel_rfl) rfl
  · rename_i hk
    have hh := pd_h0 key w
    have h1 : Nat.min key.length 64 ≤ 64 := Nat.min_le_right _ _
    have h2 : Nat.min key.length 64 ≤ key.length := Nat.min_le_left _ _
    have h3 : 0 + Nat.min key.length 64 ≤ 64 := by generalize Nat.min key.length 64 = m at *; omega
    rw [decide_eq_false hk, decide_eq_true h3, decide_eq_true h2] at hh
    have k : FnTr Try.prog 160 [.ro false .u8 key, .int .u8 w] [] (.sl 0 0 0 1 64 64 true true) [.b [.ints .u8 64 (pdX (pdB key) w)]] := by
      refine FnTr.restM (pdC_ok false) 200 6 1 Try.func160 (by simp) rfl (fun s' x hx => ?_) (s := pd0 (lst 64 (pdB key)) w) (p := true) ?_ rfl rfl rfl
      · refine TrL.items (pdC_ok false) 60 6 _ 1 (by simp) hh rfl (by decide) ?_
        exact TrL.pre hx (Ent.same rfl (by rw [lst_eq (pdB_len _)])) (by decide)
      · generalize pdB key = l
        kernel_rfl
    exact FnTr.frozen k (by simp [pdX])
noncomputable def pdF : List SV → Option (SV × List Blk × Bool)
  | [.ro false .u8 key, .int .u8 w] => some (.ro true .u8 (pdW key w), [], decide (key.length < 274877900000))
  | _ => none
noncomputable def pdE : Entry Try.prog := .val 160 _ Try.func160 (by decide) rfl true 0 pdF fun vs v new e => by
  unfold pdF at e
  split at e
  · simp only [Option.some.injEq, Prod.mk.injEq, decide_eq_true_eq] at e
    obtain ⟨rfl, rfl, h⟩ := e
    exact padded_fn h
  · cases e
noncomputable def taC (a : Bool) : Ctr := mk (P := Try.prog) [S2.newE, S2.addE, S2.sumE, S2.shortE, pdE] [] fun i => if i = 17 then some a else none
theorem taC_ok (a : Bool) : CtrSound Try.prog (taC a) := mk_sound _ InlOK.nil _ _
noncomputable def taB : Code := bodyOf Try.f125
noncomputable def taS (key : List Int) (xss : List (List Int)) (d : Blk) (i : Int) : St := ⟨slotsOf 31 [(0, .ro false .u8 key), (4, .ptr 0 0 0), (5, .ptr 1 0 0), (14, .rob false xss), (15, .int .i64 xss.length), (16, .int .i64 i)], [.b [.ints .u8 32 S2.z32], d], true⟩
theorem taS_t (key : List Int) (xss : List (List Int)) (d d' : Blk) {i j : Int} (h : i = j) : (taS key xss d i).t = (taS key xss d' j).t := by subst h; rfl
theorem taS_h (key : List Int) (xss : List (List Int)) {d d' : Blk} (i j : Int) (h : d = d') : (taS key xss d i).h = (taS key xss d' j).h := by subst h; rfl
section
variable (key st r : List Int) (xss : List (List Int)) (n i : Int)
set_option maxRecDepth 100000 in
theorem ta_head : (execL Try.prog (taC true) 60 0 4 (atoms taB) ⟨slots0 Try.f125.ntmps [.ro false .u8 key, .rob false xss], [], true⟩).bind (St.cut [0, 4, 5, 14, 15, 16] 2) =
    some { taS key xss (S2.dg (S2.stN ([] ++ pdW key 54) S2.k32 S2.b32 (([] ++ pdW key 54).length / 64)) (([] ++ pdW key 54).drop (64 * (([] ++ pdW key 54).length / 64))) (IntKind.i64.wrap (0 + (pdW key 54).length))) 0 with
      ob := andT (andT true (andT true (decide (key.length < 274877900000)))) (andT true (true && decide (([] : List Int).length + (pdW key 54).length < 274877900000))) } := by kernel_rfl
set_option maxRecDepth 100000 in
theorem ta_one : (exec Try.prog (taC true) 60 0 (inner (inner (nthC 4 taB))) (taS key xss (S2.dg st r n) i)).bind (fun r => (r.2.cut [0, 4, 5, 14, 15, 16] 2).map fun q => (r.1, q)) =
    some (.normal, { taS key xss (S2.dg (S2.stN (r ++ xss.getD i.toNat []) S2.k32 st ((r ++ xss.getD i.toNat []).length / 64)) ((r ++ xss.getD i.toNat []).drop (64 * ((r ++ xss.getD i.toNat []).length / 64))) (IntKind.i64.wrap (n + (xss.getD i.toNat []).length))) (IntKind.i64.wrap (i + 1)) with
      ob := andT (andT (andT (andT true (decide (i < xss.length))) (inB i xss.length)) (decide (i.toNat < xss.length))) (andT true (decide (st.length = 8) && decide (r.length + (xss.getD i.toNat []).length < 274877900000))) }) := by kernel_rfl
set_option maxRecDepth 100000 in
theorem ta_end : (exec Try.prog (taC false) 60 0 (inner (inner (nthC 4 taB))) (taS key xss (S2.dg st r n) i)).bind (fun r => (r.2.cut [0, 4, 5, 14, 15, 16] 2).map fun q => (r.1, q)) =
    some (.exit 0, { taS key xss (S2.dg st r n) i with ob := andT true (!decide (i < xss.length)) }) := by kernel_rfl
set_option maxRecDepth 100000 in
theorem ta_rest : ((execA Try.prog (taC true) 60 ([] : List Blk).length ((atoms (bodyOf Try.f125)).drop 5) (taS key xss (S2.dg st r n) xss.length)).bind fun r => match r.1 with
      | .ret | .normal => (resS Try.prog r.2.t r.2.h Try.f125.results.toList).map fun q => (oneOf q.1, r.2.h.take 0, andT r.2.ob q.2)
      | _ => none) = some (.agg [.ints .u8 32 (S2.shortW [pdW key 92, S2.sumE1 st r n].flatten)], [],
    andT (andT (andT true (andT true (decide (st.length = 8) && decide (r.length < 274877900000)))) (andT true (decide (key.length < 274877900000)))) (andT true (decide ([pdW key 92, S2.sumE1 st r n].flatten.length < 274877900000) && true))) := by kernel_rfl
end
noncomputable def tagW (key xs : List Int) : List Int := Lock (S2.shortW (pdW key 92 ++ S2.shortW (pdW key 54 ++ xs)))
theorem tagW_len (key xs : List Int) : (tagW key xs).length = 32 := by rw [tagW, Lock_eq]; exact S2.shortW_len _
set_option maxRecDepth 100000 in
theorem tag_fn {key : List Int} {xss : List (List Int)} (hk : key.length < 274877900000) (h1 : xss.flatten.length < 274877890000) (h2 : xss.length ≤ 274877906944) : FnTr Try.prog 125 [.ro false .u8 key, .rob false xss] [] (.agg [.ints .u8 32 (tagW key xss.flatten)]) [] := by
  have hp := pdW_len key 54
  have hp2 := pdW_len key 92
  have hloop : Tr Try.prog none 0 (nthC 4 taB) (taS key xss (S2.dgs (pdW key 54)) 0) .normal (taS key xss (S2.dgs (pdW key 54 ++ xss.flatten)) xss.length) := by
    have key0 := Tr.loop (P := Try.prog) (ro := none) (k := 0) 0 (c := nthC 4 taB) (by kernel_rfl) (fun j : Nat => taS key xss (S2.dgs (pdW key 54 ++ (xss.take j).flatten)) j) xss.length (s' := taS key xss (S2.dgs (pdW key 54 ++ xss.flatten)) xss.length) (fun j hj => ?_) ?_
    · exact Tr.pre key0 (Ent.same (taS_t _ _ _ _ rfl) (taS_h _ _ _ _ (by rw [List.take_zero, List.flatten_nil, List.append_nil])))
    · generalize hx : pdW key 54 ++ (xss.take j).flatten = xs
      have hl := S2.flat_len xss (j + 1)
      rw [S2.flat_take hj, List.length_append] at hl
      have hxl : xs.length = 64 + (xss.take j).flatten.length := by rw [← hx, List.length_append, hp]
      have k := ta_one key (S2.stN xs S2.k32 S2.b32 (xs.length / 64)) (xs.drop (64 * (xs.length / 64))) xss xs.length j
      obtain ⟨e1, e2⟩ := S2.dgs_add xs (xss.getD j [])
      rw [Int.toNat_natCast, e1, e2, wrap_i64 (_ + _) (by omega) (by omega), wrap_i64 _ (by omega) (by omega), decide_eq_true (S2.stN_len S2.b32_len _), decide_eq_true (show (xs.drop (64 * (xs.length / 64))).length + (xss.getD j []).length < 274877900000 by rw [List.length_drop]; omega),
        decide_eq_true (show (j : Int) < xss.length by omega), inB_true (by omega) (by omega), decide_eq_true hj] at k
      refine Tr.post (Tr.cut (taC_ok true) 60 _ 2 (by omega) k rfl) (Ent.same (taS_t _ _ _ _ (by omega)) (taS_h _ _ _ _ ?_))
      rw [S2.flat_take hj, ← List.append_assoc, hx]
      unfold S2.dgs
      rw [List.length_append, Int.natCast_add]
    · have k := ta_end key (S2.stN (pdW key 54 ++ xss.flatten) S2.k32 S2.b32 ((pdW key 54 ++ xss.flatten).length / 64)) ((pdW key 54 ++ xss.flatten).drop (64 * ((pdW key 54 ++ xss.flatten).length / 64))) xss (pdW key 54 ++ xss.flatten).length xss.length
      rw [List.take_length]
      exact Tr.post (Tr.cut (taC_ok false) 60 _ 2 (by omega) k (by simp [andT])) (Ent.same rfl rfl)
  have hh := ta_head key xss
  rw [List.nil_append, hp, decide_eq_true hk] at hh
  have e0 : S2.dgs (pdW key 54) = S2.dg (S2.stN (pdW key 54) S2.k32 S2.b32 (64 / 64)) ((pdW key 54).drop (64 * (64 / 64))) (IntKind.i64.wrap (0 + (64 : Nat))) := by
    unfold S2.dgs
    rw [hp]; rfl
  have hs := S2.dgs_sum (pdW key 54 ++ xss.flatten)
  have hr : ((pdW key 54 ++ xss.flatten).drop (64 * ((pdW key 54 ++ xss.flatten).length / 64))).length < 274877900000 := by rw [List.length_drop, List.length_append, hp]; omega
  have k : FnTr Try.prog 125 [.ro false .u8 key, .rob false xss] [] (.agg [.ints .u8 32 (S2.shortW [pdW key 92, S2.shortW (pdW key 54 ++ xss.flatten)].flatten)]) [] := by
    rw [← hs]
    generalize hst : S2.stN (pdW key 54 ++ xss.flatten) S2.k32 S2.b32 ((pdW key 54 ++ xss.flatten).length / 64) = st
    generalize hrr : (pdW key 54 ++ xss.flatten).drop (64 * ((pdW key 54 ++ xss.flatten).length / 64)) = r at hr
    have h8 : st.length = 8 := by rw [← hst]; exact S2.stN_len S2.b32_len _
    have hin : ∀ s' x, TrL Try.prog none 0 ((atoms taB).drop 5) (taS key xss (S2.dg st r (pdW key 54 ++ xss.flatten).length) xss.length) x s' → TrL Try.prog none 0 (atoms taB) ⟨slots0 Try.f125.ntmps [.ro false .u8 key, .rob false xss], [], true⟩ x s' := fun s' x h => by
      refine TrL.items (taC_ok true) 60 4 _ 2 (by simp) hh rfl (by decide) ?_
      rw [← e0]
      refine TrL.item 4 (by decide) (Tr.pre hloop (Ent.same rfl rfl)) ?_
      unfold S2.dgs
      rw [hst, hrr]
      exact h
    generalize ((pdW key 54 ++ xss.flatten).length : Int) = n at *
    have hq := S2.sumE1_len st r n
    have hl : [pdW key 92, S2.sumE1 st r n].flatten.length < 274877900000 := by
      simp only [List.flatten_cons, List.flatten_nil, List.length_append, hp2, hq, List.length_nil]; omega
    refine FnTr.restM (taC_ok true) 60 5 0 Try.func125 (by simp) rfl (fun s' x h => hin s' x h) (s := taS key xss (S2.dg st r n) xss.length)
      (p := andT (andT (andT true (andT true (decide (st.length = 8) && decide (r.length < 274877900000)))) (andT true (decide (key.length < 274877900000)))) (andT true (decide ([pdW key 92, S2.sumE1 st r n].flatten.length < 274877900000) && true))) (ta_rest key st r xss n) ?_ rfl rfl
    rw [h8, decide_eq_true hr, decide_eq_true hk, decide_eq_true hl]
    rfl
  rw [tagW, Lock_eq]
  have e : [pdW key 92, S2.shortW (pdW key 54 ++ xss.flatten)].flatten = pdW key 92 ++ S2.shortW (pdW key 54 ++ xss.flatten) := by simp
  rw [e] at k
  exact k
noncomputable def tagF : List SV → Option (SV × List Blk × Bool)
  | [.ro false .u8 key, .rob false xss] => some (.agg [.ints .u8 32 (tagW key xss.flatten)], [], decide (key.length < 274877900000) && decide (xss.flatten.length < 274877890000) && decide (xss.length ≤ 274877906944))
  | _ => none
noncomputable def tagE : Entry Try.prog := .val 125 _ Try.func125 (by decide) rfl true 0 tagF fun vs v new e => by
  unfold tagF at e
  split at e
  · simp only [Option.some.injEq, Prod.mk.injEq, Bool.and_eq_true, decide_eq_true_eq] at e
    obtain ⟨rfl, rfl, ⟨h1, h2⟩, h3⟩ := e
    exact tag_fn h1 h2 h3
  · cases e
noncomputable def exC : Ctr := mk (P := Try.prog) [tagE] []
theorem exC_ok : CtrSound Try.prog exC := mk_sound _ InlOK.nil _ _
noncomputable def extractF : List SV → Option (SV × List Blk × Bool)
  | [.ro false .u8 salt, .ro false .u8 m] => some (.agg [.ints .u8 32 (tagW salt m)], [], decide (salt.length < 274877900000) && decide (m.length < 274877890000))
  | _ => none
set_option maxRecDepth 100000 in
theorem extract_run (salt m : List Int) : (callS Try.prog exC 60 Try.f76 [.ro false .u8 salt, .ro false .u8 m] []).map (fun x => (x.1, x.2.2)) = some (.agg [.ints .u8 32 (tagW salt [m].flatten)], andT true (andT true (decide (salt.length < 274877900000) && decide ([m].flatten.length < 274877890000) && true))) := by kernel_rfl
noncomputable def extractE : Entry Try.prog := .val 76 _ Try.func76 (by decide) rfl true 0 extractF fun vs v new e => by
  unfold extractF at e
  split at e
  · rename_i salt m
    simp only [Option.some.injEq, Prod.mk.injEq, Bool.and_eq_true, decide_eq_true_eq] at e
    obtain ⟨rfl, rfl, h1, h2⟩ := e
    have hm : [m].flatten = m := by simp
    have k := call0 exC_ok 60 Try.func76 (extract_run salt m) (by rw [hm, decide_eq_true h1, decide_eq_true h2]; rfl) rfl
    rw [hm] at k
    exact k
  · cases e
end Go.Proofs.Ytkoohnpknhoahaa.Kd
