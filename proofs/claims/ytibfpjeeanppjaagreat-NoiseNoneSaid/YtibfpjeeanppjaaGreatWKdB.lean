/- This file holds the texts KdA, KdB, a section each. No conditions beyond those in the theorems. -/
import Derived.Test.YtibfpjeeanppjaaGreatWS2C
set_option linter.all false
set_option maxRecDepth 100000
section
namespace Go.Proofs.YtibfpjeeanppjaaGreat.Kd
open Go Go.Sy Sh
noncomputable def pdC (a : Bool) : Ctr := mk (P := Tryz.prog) [S2.shortE] [] fun i => if i = 10 then some a else none
theorem pdC_ok (a : Bool) : CtrSound Tryz.prog (pdC a) := mk_sound _ InlOK.nil _ _
noncomputable def pdM : Code := bodyOf Tryz.f145
noncomputable def pdK (key : List Int) : List Int := if (key.length : Int) > 64 then S2.shortW key else key
noncomputable def pdB (k : List Int) : List Int := spl (List.replicate 64 0) 0 k (Nat.min k.length 64)
def pdX (l : List Int) (w : Int) : List Int := (List.range 64).map fun i => xorI .u8 (l.getD i 0) w
noncomputable def pdW (key : List Int) (w : Int) : List Int := Lock (pdX (pdB (pdK key)) w)
theorem pdW_len (key : List Int) (w : Int) : (pdW key w).length = 64 := by rw [pdW, Lock_eq]; simp [pdX]
noncomputable def pd1 (key l : List Int) (w : Int) : St := ⟨slotsOf 33 [(1, .int .u8 w), (6, .sl 2 0 0 1 64 64 true true), (20, .int .i64 64), (21, .int .i64 0)], [.b [.ro false .u8 key], .b [.ints .u8 32 (S2.shortW key)], .b [.ints .u8 64 l]], true⟩
noncomputable def pd0 (l : List Int) (w : Int) : St := ⟨slotsOf 33 [(1, .int .u8 w), (6, .sl 0 0 0 1 64 64 true true), (20, .int .i64 64), (21, .int .i64 0)], [.b [.ints .u8 64 l]], true⟩
section
variable (key l : List Int) (w : Int)
theorem pd_h1 : (execL Tryz.prog (pdC true) 60 0 6 (atoms pdM) ⟨slots0 Tryz.f145.ntmps [.ro false .u8 key, .int .u8 w], [], true⟩).bind (St.cut [1, 6, 20, 21] 3) =
    some ⟨slotsOf 33 [(1, .int .u8 w), (6, .sl 2 0 0 1 64 64 true true), (20, .int .i64 64), (21, .int .i64 0)], [.b [.ro false .u8 key], .b [.ints .u8 32 (S2.shortW [key].flatten)], .b [.ints .u8 64 (spl (List.replicate 64 0) 0 (S2.shortW [key].flatten) (Nat.min 32 64))]],
      andT (andT (andT true (decide ((key.length : Int) > 64))) (andT true (decide ([key].flatten.length < 274877900000) && true))) (andT (decide ((S2.shortW [key].flatten).length = 32) && true) (true && decide (Nat.min 32 64 ≤ (S2.shortW [key].flatten).length)))⟩ := by kernel_rfl
theorem pd_h0 : (execL Tryz.prog (pdC false) 60 0 6 (atoms pdM) ⟨slots0 Tryz.f145.ntmps [.ro false .u8 key, .int .u8 w], [], true⟩).bind (St.cut [1, 6, 20, 21] 1) =
    some { pd0 (pdB key) w with ob := andT (andT true (!decide ((key.length : Int) > 64))) (andT true (true && decide (0 + Nat.min key.length 64 ≤ 64) && decide (Nat.min key.length 64 ≤ key.length))) } := by kernel_rfl
end
theorem pdB_len (k : List Int) : (pdB k).length = 64 := spl_length (by simp) (by have h : Nat.min k.length 64 ≤ 64 := Nat.min_le_right _ _; generalize Nat.min k.length 64 = m at *; omega) (Nat.min_le_left _ _)
theorem padded_fn {key : List Int} {w : Int} (h : key.length < 274877900000) : FnTr Tryz.prog 145 [.ro false .u8 key, .int .u8 w] [] (.ro true .u8 (pdW key w)) [] := by
  rw [pdW, Lock_eq]
  unfold pdK
  split
  · rename_i hk
    have hs := S2.shortW_len key
    have e : spl (List.replicate 64 0) 0 (S2.shortW key) (Nat.min 32 64) = pdB (S2.shortW key) := by unfold pdB; rw [hs]
    have hh := pd_h1 key w
    rw [show [key].flatten = key by simp, e, hs, decide_eq_true hk, decide_eq_true h] at hh
    have k : FnTr Tryz.prog 145 [.ro false .u8 key, .int .u8 w] [] (.sl 2 0 0 1 64 64 true true) [.b [.ro false .u8 key], .b [.ints .u8 32 (S2.shortW key)], .b [.ints .u8 64 (pdX (pdB (S2.shortW key)) w)]] := by
      refine FnTr.restM (pdC_ok true) 200 6 3 Tryz.func145 (by simp) rfl (fun s' x hx => ?_) (s := pd1 key (lst 64 (pdB (S2.shortW key))) w) (p := true) ?_ rfl rfl rfl
      · refine TrL.items (pdC_ok true) 60 6 _ 3 (by simp) hh rfl (by decide) ?_
        exact TrL.pre hx (Ent.same rfl (by rw [lst_eq (pdB_len _)]; rfl)) (by decide)
      · generalize pdB (S2.shortW key) = l
        kernel_rfl
    exact FnTr.fz 2 0 (by simp) (by simp) k (u := .ro true .u8 (pdX (pdB (S2.shortW key)) w)) (h2 := []) (p := true) (by kernel_rfl) rfl
  · rename_i hk
    have hh := pd_h0 key w
    have h1 : Nat.min key.length 64 ≤ 64 := Nat.min_le_right _ _
    have h2 : Nat.min key.length 64 ≤ key.length := Nat.min_le_left _ _
    have h3 : 0 + Nat.min key.length 64 ≤ 64 := by generalize Nat.min key.length 64 = m at *; omega
    rw [decide_eq_false hk, decide_eq_true h3, decide_eq_true h2] at hh
    have k : FnTr Tryz.prog 145 [.ro false .u8 key, .int .u8 w] [] (.sl 0 0 0 1 64 64 true true) [.b [.ints .u8 64 (pdX (pdB key) w)]] := by
      refine FnTr.restM (pdC_ok false) 200 6 1 Tryz.func145 (by simp) rfl (fun s' x hx => ?_) (s := pd0 (lst 64 (pdB key)) w) (p := true) ?_ rfl rfl rfl
      · refine TrL.items (pdC_ok false) 60 6 _ 1 (by simp) hh rfl (by decide) ?_
        exact TrL.pre hx (Ent.same rfl (by rw [lst_eq (pdB_len _)])) (by decide)
      · generalize pdB key = l
        kernel_rfl
    exact FnTr.frozen k (by simp [pdX])
noncomputable def pdF : List SV → Option (SV × List Blk × Bool)
  | [.ro false .u8 key, .int .u8 w] => some (.ro true .u8 (pdW key w), [], decide (key.length < 274877900000))
  | _ => none
noncomputable def pdE : Entry Tryz.prog := .val 145 _ Tryz.func145 (by decide) rfl true 0 pdF fun vs v new e => by
  unfold pdF at e
  split at e
  · simp only [Option.some.injEq, Prod.mk.injEq, decide_eq_true_eq] at e
    obtain ⟨rfl, rfl, h⟩ := e
    exact padded_fn h
  · cases e
noncomputable def taC (a : Bool) : Ctr := mk (P := Tryz.prog) [S2.newE, S2.addE, S2.sumE, S2.shortE, pdE] [] fun i => if i = 17 then some a else none
theorem taC_ok (a : Bool) : CtrSound Tryz.prog (taC a) := mk_sound _ InlOK.nil _ _
noncomputable def taB : Code := bodyOf Tryz.f111
noncomputable def taS (key : List Int) (xss : List (List Int)) (d : Blk) (i : Int) : St := ⟨slotsOf 31 [(0, .ro false .u8 key), (4, .ptr 0 0 0), (5, .ptr 1 0 0), (14, .rob false xss), (15, .int .i64 xss.length), (16, .int .i64 i)], [.b [.ints .u8 32 S2.z32], d], true⟩
theorem taS_t (key : List Int) (xss : List (List Int)) (d d' : Blk) {i j : Int} (h : i = j) : (taS key xss d i).t = (taS key xss d' j).t := by subst h; rfl
theorem taS_h (key : List Int) (xss : List (List Int)) {d d' : Blk} (i j : Int) (h : d = d') : (taS key xss d i).h = (taS key xss d' j).h := by subst h; rfl
section
variable (key st r : List Int) (xss : List (List Int)) (n i : Int)
theorem ta_head : (execL Tryz.prog (taC true) 60 0 4 (atoms taB) ⟨slots0 Tryz.f111.ntmps [.ro false .u8 key, .rob false xss], [], true⟩).bind (St.cut [0, 4, 5, 14, 15, 16] 2) =
    some { taS key xss (S2.dg (S2.stN ([] ++ pdW key 54) S2.k32 S2.b32 (([] ++ pdW key 54).length / 64)) (([] ++ pdW key 54).drop (64 * (([] ++ pdW key 54).length / 64))) (IntKind.i64.wrap (0 + (pdW key 54).length))) 0 with
      ob := andT (andT true (andT true (decide (key.length < 274877900000)))) (andT true (true && decide (([] : List Int).length + (pdW key 54).length < 274877900000))) } := by kernel_rfl
theorem ta_one : (exec Tryz.prog (taC true) 60 0 (inner (inner (nthC 4 taB))) (taS key xss (S2.dg st r n) i)).bind (fun r => (r.2.cut [0, 4, 5, 14, 15, 16] 2).map fun q => (r.1, q)) =
    some (.normal, { taS key xss (S2.dg (S2.stN (r ++ xss.getD i.toNat []) S2.k32 st ((r ++ xss.getD i.toNat []).length / 64)) ((r ++ xss.getD i.toNat []).drop (64 * ((r ++ xss.getD i.toNat []).length / 64))) (IntKind.i64.wrap (n + (xss.getD i.toNat []).length))) (IntKind.i64.wrap (i + 1)) with
      ob := andT (andT (andT (andT true (decide (i < xss.length))) (inB i xss.length)) (decide (i.toNat < xss.length))) (andT true (decide (st.length = 8) && decide (r.length + (xss.getD i.toNat []).length < 274877900000))) }) := by kernel_rfl
theorem ta_end : (exec Tryz.prog (taC false) 60 0 (inner (inner (nthC 4 taB))) (taS key xss (S2.dg st r n) i)).bind (fun r => (r.2.cut [0, 4, 5, 14, 15, 16] 2).map fun q => (r.1, q)) =
    some (.exit 0, { taS key xss (S2.dg st r n) i with ob := andT true (!decide (i < xss.length)) }) := by kernel_rfl
theorem ta_rest : ((execA Tryz.prog (taC true) 60 ([] : List Blk).length ((atoms (bodyOf Tryz.f111)).drop 5) (taS key xss (S2.dg st r n) xss.length)).bind fun r => match r.1 with
      | .ret | .normal => (resS Tryz.prog r.2.t r.2.h Tryz.f111.results.toList).map fun q => (oneOf q.1, r.2.h.take 0, andT r.2.ob q.2)
      | _ => none) = some (.agg [.ints .u8 32 (S2.shortW [pdW key 92, S2.sumE1 st r n].flatten)], [],
    andT (andT (andT true (andT true (decide (st.length = 8) && decide (r.length < 274877900000)))) (andT true (decide (key.length < 274877900000)))) (andT true (decide ([pdW key 92, S2.sumE1 st r n].flatten.length < 274877900000) && true))) := by kernel_rfl
end
noncomputable def tagW (key xs : List Int) : List Int := Lock (S2.shortW (pdW key 92 ++ S2.shortW (pdW key 54 ++ xs)))
theorem tagW_len (key xs : List Int) : (tagW key xs).length = 32 := by rw [tagW, Lock_eq]; exact S2.shortW_len _
theorem tag_fn {key : List Int} {xss : List (List Int)} (hk : key.length < 274877900000) (h1 : xss.flatten.length < 274877890000) (h2 : xss.length ≤ 274877906944) : FnTr Tryz.prog 111 [.ro false .u8 key, .rob false xss] [] (.agg [.ints .u8 32 (tagW key xss.flatten)]) [] := by
  have hp := pdW_len key 54
  have hp2 := pdW_len key 92
  have hloop : Tr Tryz.prog none 0 (nthC 4 taB) (taS key xss (S2.dgs (pdW key 54)) 0) .normal (taS key xss (S2.dgs (pdW key 54 ++ xss.flatten)) xss.length) := by
    have key0 := Tr.loop (P := Tryz.prog) (ro := none) (k := 0) 0 (c := nthC 4 taB) (by kernel_rfl) (fun j : Nat => taS key xss (S2.dgs (pdW key 54 ++ (xss.take j).flatten)) j) xss.length (s' := taS key xss (S2.dgs (pdW key 54 ++ xss.flatten)) xss.length) (fun j hj => ?_) ?_
    · exact Tr.pre key0 (Ent.same (taS_t _ _ _ _ rfl) (taS_h _ _ _ _ (by rw [List.take_zero, List.flatten_nil, List.append_nil])))
    · generalize hx : pdW key 54 ++ (xss.take j).flatten = xs
      have hl := S2.flat_len xss (j + 1)
      rw [S2.flat_take hj, List.length_append] at hl
      have hxl : xs.length = 64 + (xss.take j).flatten.length := by rw [← hx, List.length_append, hp]
      have k := ta_one key (S2.stN xs S2.k32 S2.b32 (xs.length / 64)) (xs.drop (64 * (xs.length / 64))) xss xs.length j
      obtain ⟨e1, e2⟩ := S2.dgs_add xs (xss.getD j [])
      rw [Int.toNat_natCast, e1, e2, wrap_i64 (_ + _) (by omega) (by omega), wrap_i64 _ (by omega) (by omega), decide_eq_true (S2.stN_len S2.b32_len _), decide_eq_true (show (xs.drop (64 * (xs.length / 64))).length + (xss.getD j []).length < 274877900000 by rw [List.length_drop]; omega),
        decide_eq_true (show (j : Int) < xss.length by omega), inB_true (by omega) (by omega), decide_eq_true hj] at k
      refine Tr.post (Tr.cut (taC_ok true) 60 _ 2 (by omega) k rfl) (Ent.same (taS_t _ _ _ _ (by omega)) (taS_h _ _ _ _ ?_))
      rw [S2.flat_take hj, ← List.append_assoc, hx]
      unfold S2.dgs
      rw [List.length_append, Int.natCast_add]
    · have k := ta_end key (S2.stN (pdW key 54 ++ xss.flatten) S2.k32 S2.b32 ((pdW key 54 ++ xss.flatten).length / 64)) ((pdW key 54 ++ xss.flatten).drop (64 * ((pdW key 54 ++ xss.flatten).length / 64))) xss (pdW key 54 ++ xss.flatten).length xss.length
      rw [List.take_length]
      exact Tr.post (Tr.cut (taC_ok false) 60 _ 2 (by omega) k (by simp [andT])) (Ent.same rfl rfl)
  have hh := ta_head key xss
  rw [List.nil_append, hp, decide_eq_true hk] at hh
  have e0 : S2.dgs (pdW key 54) = S2.dg (S2.stN (pdW key 54) S2.k32 S2.b32 (64 / 64)) ((pdW key 54).drop (64 * (64 / 64))) (IntKind.i64.wrap (0 + (64 : Nat))) := by
    unfold S2.dgs
    rw [hp]; rfl
  have hs := S2.dgs_sum (pdW key 54 ++ xss.flatten)
  have hr : ((pdW key 54 ++ xss.flatten).drop (64 * ((pdW key 54 ++ xss.flatten).length / 64))).length < 274877900000 := by rw [List.length_drop, List.length_append, hp]; omega
  have k : FnTr Tryz.prog 111 [.ro false .u8 key, .rob false xss] [] (.agg [.ints .u8 32 (S2.shortW [pdW key 92, S2.shortW (pdW key 54 ++ xss.flatten)].flatten)]) [] := by
    rw [← hs]
    generalize hst : S2.stN (pdW key 54 ++ xss.flatten) S2.k32 S2.b32 ((pdW key 54 ++ xss.flatten).length / 64) = st
    generalize hrr : (pdW key 54 ++ xss.flatten).drop (64 * ((pdW key 54 ++ xss.flatten).length / 64)) = r at hr
    have h8 : st.length = 8 := by rw [← hst]; exact S2.stN_len S2.b32_len _
    have hin : ∀ s' x, TrL Tryz.prog none 0 ((atoms taB).drop 5) (taS key xss (S2.dg st r (pdW key 54 ++ xss.flatten).length) xss.length) x s' → TrL Tryz.prog none 0 (atoms taB) ⟨slots0 Tryz.f111.ntmps [.ro false .u8 key, .rob false xss], [], true⟩ x s' := fun s' x h => by
      refine TrL.items (taC_ok true) 60 4 _ 2 (by simp) hh rfl (by decide) ?_
      rw [← e0]
      refine TrL.item 4 (by decide) (Tr.pre hloop (Ent.same rfl rfl)) ?_
      unfold S2.dgs
      rw [hst, hrr]
      exact h
    generalize ((pdW key 54 ++ xss.flatten).length : Int) = n at *
    have hq := S2.sumE1_len st r n
    have hl : [pdW key 92, S2.sumE1 st r n].flatten.length < 274877900000 := by
      simp only [List.flatten_cons, List.flatten_nil, List.length_append, hp2, hq, List.length_nil]; omega
    refine FnTr.restM (taC_ok true) 60 5 0 Tryz.func111 (by simp) rfl (fun s' x h => hin s' x h) (s := taS key xss (S2.dg st r n) xss.length)
      (p := andT (andT (andT true (andT true (decide (st.length = 8) && decide (r.length < 274877900000)))) (andT true (decide (key.length < 274877900000)))) (andT true (decide ([pdW key 92, S2.sumE1 st r n].flatten.length < 274877900000) && true))) (ta_rest key st r xss n) ?_ rfl rfl
    rw [h8, decide_eq_true hr, decide_eq_true hk, decide_eq_true hl]
    rfl
  rw [tagW, Lock_eq]
  have e : [pdW key 92, S2.shortW (pdW key 54 ++ xss.flatten)].flatten = pdW key 92 ++ S2.shortW (pdW key 54 ++ xss.flatten) := by simp
  rw [e] at k
  exact k
noncomputable def tagF : List SV → Option (SV × List Blk × Bool)
  | [.ro false .u8 key, .rob false xss] => some (.agg [.ints .u8 32 (tagW key xss.flatten)], [], decide (key.length < 274877900000) && decide (xss.flatten.length < 274877890000) && decide (xss.length ≤ 274877906944))
  | _ => none
noncomputable def tagE : Entry Tryz.prog := .val 111 _ Tryz.func111 (by decide) rfl true 0 tagF fun vs v new e => by
  unfold tagF at e
  split at e
  · simp only [Option.some.injEq, Prod.mk.injEq, Bool.and_eq_true, decide_eq_true_eq] at e
    obtain ⟨rfl, rfl, ⟨h1, h2⟩, h3⟩ := e
    exact tag_fn h1 h2 h3
  · cases e
noncomputable def exC : Ctr := mk (P := Tryz.prog) [tagE] []
theorem exC_ok : CtrSound Tryz.prog exC := mk_sound _ InlOK.nil _ _
noncomputable def extractF : List SV → Option (SV × List Blk × Bool)
  | [.ro false .u8 salt, .ro false .u8 m] => some (.agg [.ints .u8 32 (tagW salt m)], [], decide (salt.length < 274877900000) && decide (m.length < 274877890000))
  | _ => none
theorem extract_run (salt m : List Int) : (callS Tryz.prog exC 60 Tryz.f70 [.ro false .u8 salt, .ro false .u8 m] []).map (fun x => (x.1, x.2.2)) = some (.agg [.ints .u8 32 (tagW salt [m].flatten)], andT true (andT true (decide (salt.length < 274877900000) && decide ([m].flatten.length < 274877890000) && true))) := by kernel_rfl
noncomputable def extractE : Entry Tryz.prog := .val 70 _ Tryz.func70 (by decide) rfl true 0 extractF fun vs v new e => by
  unfold extractF at e
  split at e
  · rename_i salt m
    simp only [Option.some.injEq, Prod.mk.injEq, Bool.and_eq_true, decide_eq_true_eq] at e
    obtain ⟨rfl, rfl, h1, h2⟩ := e
    have hm : [m].flatten = m := by simp
    have k := call0 exC_ok 60 Tryz.func70 (extract_run salt m) (by rw [hm, decide_eq_true h1, decide_eq_true h2]; rfl) rfl
    rw [hm] at k
    exact k
  · cases e
end Go.Proofs.YtibfpjeeanppjaaGreat.Kd
end
section
namespace Go.Sy
open Go
def fzT (b m : Nat) (s : St) : Option (St × Bool) := match St.fz b s with
  | some (s', p) => (s'.trunc m).map fun s2 => (s2, p)
  | none => none
theorem Ent.fzT {k b m : Nat} {s s2 : St} {p : Bool} (hb : k ≤ b) (hm : k ≤ m) (e : Go.Sy.fzT b m s = some (s2, p)) (hp : p = true) : Ent k s s2 := by
  subst hp
  unfold Go.Sy.fzT at e
  split at e
  case h_2 => cases e
  rename_i s' p' he
  obtain ⟨s3, h3, e⟩ := Option.map_eq_some_iff.1 e
  cases e
  exact (Ent.freeze hb he).trans (Ent.trunc hm h3)
theorem Ent.setV {k : Nat} {t : List (Option SV)} {h : List Blk} {o o' : Bool} (i : Nat) {v v' : SV} (hi : t[i]? = some (some v)) (hv : VE v v') : Ent k ⟨t, h, o⟩ ⟨t.set i (some v'), h, o'⟩ := by
  refine Ent.mono (by simp) (fun j u hj => ?_) rfl (fun i qs hi => ⟨qs, hi, PE.refl _⟩) (fun i g hi => hi)
  rw [List.getElem?_set] at hj
  split at hj
  · rename_i q
    subst q
    split at hj
    · cases hj; exact ⟨v, hi, hv⟩
    · cases hj
  · exact ⟨u, hj, VE.refl _⟩
theorem VE.nil_ro (f : Bool) (k : IntKind) : VE (.nl (.slice none 0 0)) (.ro f k []) := fun e y h => by
  have h' : y = .slice none 0 0 := h
  subst h'
  exact .inl ⟨rfl, none, 0, rfl, fun _ => rfl⟩
end Go.Sy
namespace Go.Proofs.YtibfpjeeanppjaaGreat.Kd
open Go Go.Sy Sh
noncomputable def c0 : Ctr := mk (P := Tryz.prog) [] []
theorem c0_ok : CtrSound Tryz.prog c0 := mk_sound _ InlOK.nil _ _
def tgF : List SV → Option (SV × List Blk × Bool)
  | [.ro false .u8 sec, .ro false .u8 info] => some (.fn (.func 166) [] [.ptr 0 0 0, .ptr 1 0 0], [.b [.ro false .u8 sec], .b [.ro false .u8 info]], true)
  | _ => none
noncomputable def tgE : Entry Tryz.prog := .val 144 _ Tryz.func144 (by decide) rfl true 2 tgF fun vs v new e => by
  unfold tgF at e
  split at e
  · cases e
    exact callM c0_ok 30 Tryz.func144 2 (by simp) (p := true) (by kernel_rfl) rfl rfl rfl
  · cases e
noncomputable def xpB : Code := bodyOf Tryz.f109
noncomputable def xpI : Code := inner (nthC 1 xpB)
noncomputable def xpR : Code := nthC 5 xpI
noncomputable def tgB : Code := bodyOf Tryz.f166
noncomputable def xpT : List (Option SV) := slotsOf 36 [(5, .ptr 0 0 0), (8, .ptr 2 0 0), (21, .fn (.func 166) [] [.ptr 3 0 0, .ptr 4 0 0])]
noncomputable def xpL (l : Nat) : Lp := rfL xpR xpT l
noncomputable def xpD (l : Nat) : Lp := { rfL xpR xpT l with st := .done, pend := some (.exit 0) }
noncomputable def xpH0 (sec info l : List Int) (m N : Nat) : List Blk := [.b [.int .i64 N], .b [.ints .u8 N l], .b [.sl 1 0 0 1 m N false false], .b [.ro false .u8 sec], .b [.ro false .u8 info]]
noncomputable def xpH (sec info l : List Int) (m N : Nat) (g : Option Lp) : List Blk := [.b [.int .i64 N], .b [.ints .u8 N l], .b [.sl 1 0 0 1 m N false false], .b [.ro false .u8 sec], .b [.ro false .u8 info], .g g]
noncomputable def tgS (sec info l : List Int) (m N : Nat) (last : List Int) (i : Int) (k : Nat) : St := ⟨slotsOf 25 [(0, .fn (.yield k) [] []), (1, .ptr 3 0 0), (2, .ptr 4 0 0), (4, .ro true .u8 last), (5, .int .u8 i)], xpH sec info l m N (some (xpL k)), true⟩
noncomputable def tgM (sec info l : List Int) (m N : Nat) (last t : List Int) (i j : Int) (k : Nat) : St := ⟨slotsOf 25 [(0, .fn (.yield k) [] []), (1, .ptr 3 0 0), (2, .ptr 4 0 0), (4, .sl 8 0 0 1 32 32 true true), (5, .int .u8 j)],
  [.b [.int .i64 N], .b [.ints .u8 N l], .b [.sl 1 0 0 1 m N false false], .b [.ro false .u8 sec], .b [.ro false .u8 info], .g (some (xpL k)), .b [.ints .u8 1 [i]], .b [.ro true .u8 last, .ro false .u8 info, .sl 6 0 0 1 1 1 true true], .b [.ints .u8 32 t]], true⟩
noncomputable def tgC (a : Bool) : Ctr := mk (P := Tryz.prog) [tagE] [] fun i => if i = 34 then some a else if i = 22 then some false else none
theorem tgC_ok (a : Bool) : CtrSound Tryz.prog (tgC a) := mk_sound _ InlOK.nil _ _
def xpI0 (m N : Nat) : Int := if IntKind.i64.wrap ((N : Int) - (m : Int)) < 32 then IntKind.i64.wrap ((N : Int) - (m : Int)) else 32
def xpN (m N : Nat) : Nat := (xpI0 m N).toNat
noncomputable def tT (sec last info : List Int) (i : Int) : List Int := tagW sec [last, info, [i]].flatten
noncomputable def xpW (l t : List Int) (m N : Nat) : List Int := spl l (0 + m) ((t.drop 0).take (xpN m N)) (xpN m N)
noncomputable def xpA (sec last info : List Int) (i : Int) : Bool := andT true (andT true (decide (sec.length < 274877900000) && decide ([last, info, [i]].flatten.length < 274877890000) && true))
noncomputable def xpY (l t : List Int) (m N k : Nat) : Bool := andT (andT (andT (decide (k = k)) (decide (k = k))) (andT true (decide (0 ≤ xpI0 m N) && decide (xpI0 m N ≤ 32)))) (andT (andT (decide (0 + xpN m N ≤ 32) && decide (0 + xpN m N ≤ t.length)) (decide (m + xpN m N ≤ N))) (decide (l.length = N) && decide (0 + m + xpN m N ≤ N) && decide (xpN m N ≤ ((t.drop 0).take (xpN m N)).length)))
section
variable (sec info l last t : List Int) (m N k : Nat) (i : Int)
theorem tg_one : (exec Tryz.prog (tgC false) 60 6 (inner (inner (nthC 2 tgB))) (tgS sec info l m N last i k)).bind (fun r => (r.2.cut [0, 1, 2, 4, 5] 9).map fun q => (r.1, q)) =
    some (.normal, { tgM sec info (xpW l (tT sec last info i) m N) (m + xpN m N) N last (tT sec last info i) i (IntKind.u8.wrap (i + 1)) k with
      ob := andT (andT (xpA sec last info i) (andT (andT (xpY l (tT sec last info i) m N k) (!((m + xpN m N : Nat) : Int) == (N : Int))) (decide (k = k)))) (!i == 255) }) := by kernel_rfl
theorem tg_fz (j : Int) : fzT 8 6 (tgM sec info l m N last t i j k) = some (tgS sec info l m N t j k, andT (decide (t.length = 32)) true) := by kernel_rfl
theorem tg_last : (exec Tryz.prog (tgC true) 60 6 (inner (inner (nthC 2 tgB))) (tgS sec info l m N last i k)).bind (fun r => (r.2.cut [] 6).map fun q => (r.1, q)) =
    some (.ret, ⟨slotsOf 25 [], xpH sec info (xpW l (tT sec last info i) m N) (m + xpN m N) N (some (xpD k)),
      andT (xpA sec last info i) (andT (andT (xpY l (tT sec last info i) m N k) (((m + xpN m N : Nat) : Int) == (N : Int))) (decide (k = k)))⟩) := by kernel_rfl
theorem tg_head : (execL Tryz.prog (tgC false) 60 6 2 (atoms tgB) ⟨slots0 Tryz.f166.ntmps [.fn (.yield k) [] [], .ptr 3 0 0, .ptr 4 0 0], xpH sec info l m N (some (xpL k)), true⟩).bind (St.cut [0, 1, 2, 4, 5] 6) =
    some ⟨slotsOf 25 [(0, .fn (.yield k) [] []), (1, .ptr 3 0 0), (2, .ptr 4 0 0), (4, .nl (.slice none 0 0)), (5, .int .u8 1)], xpH sec info l m N (some (xpL k)), true⟩ := by kernel_rfl
end
noncomputable def xpS (sec info : List Int) : Nat → List Int
  | 0 => []
  | j + 1 => tT sec (xpS sec info j) info ((j + 1 : Nat) : Int)
noncomputable def xpC (sec info : List Int) : Nat → List Int
  | 0 => []
  | j + 1 => xpC sec info j ++ xpS sec info (j + 1)
noncomputable def xpP (sec info : List Int) (N j : Nat) : List Int := xpC sec info j ++ List.replicate (N - 32 * j) 0
noncomputable def expandW (sec info : List Int) (N : Nat) : List Int := xpC sec info ((N - 1) / 32) ++ (xpS sec info ((N - 1) / 32 + 1)).take (N - 32 * ((N - 1) / 32))
theorem tT_len (sec last info : List Int) (i : Int) : (tT sec last info i).length = 32 := tagW_len _ _
theorem xpS_len (sec info : List Int) (j : Nat) : (xpS sec info (j + 1)).length = 32 := tT_len _ _ _ _
theorem xpS_le (sec info : List Int) : ∀ j, (xpS sec info j).length ≤ 32
  | 0 => by simp [xpS]
  | j + 1 => by rw [xpS_len]; exact Nat.le_refl _
theorem xpC_len (sec info : List Int) : ∀ j, (xpC sec info j).length = 32 * j
  | 0 => rfl
  | j + 1 => by rw [xpC, List.length_append, xpC_len sec info j, xpS_len]; omega
theorem xpP_len (sec info : List Int) {N j : Nat} (h : 32 * j ≤ N) : (xpP sec info N j).length = N := by unfold xpP; rw [List.length_append, xpC_len, List.length_replicate]; omega
theorem expandW_len (sec info : List Int) (N : Nat) : (expandW sec info N).length = N := by
  unfold expandW
  rw [List.length_append, xpC_len, List.length_take, xpS_len]
  omega
theorem xpN_eq {m N : Nat} (h : m ≤ N) (hN : N ≤ 8160) : xpN m N = min 32 (N - m) ∧ 0 ≤ xpI0 m N ∧ xpI0 m N ≤ 32 := by
  unfold xpN xpI0
  rw [wrap_i64 _ (by omega) (by omega)]
  split <;> omega
theorem xp_spl {sec info : List Int} {N j n : Nat} (_ : 32 * j + n ≤ N) (t : List Int) (ht : n ≤ t.length) : spl (xpP sec info N j) (0 + 32 * j) ((t.drop 0).take n) n = xpC sec info j ++ t.take n ++ List.replicate (N - 32 * j - n) 0 := by
  have hc := xpC_len sec info j
  unfold spl xpP
  rw [Nat.zero_add, List.drop_zero, List.take_left' hc, List.take_of_length_le (by rw [List.length_take]; omega), ← List.drop_drop, List.drop_left' hc, List.drop_replicate]
theorem xpA_true {sec info : List Int} (hs : sec.length < 274877900000) (hi : info.length < 270000000000) (j : Nat) (i : Int) : xpA sec (xpS sec info j) info i = true := by
  have h := xpS_le sec info j
  unfold xpA
  rw [decide_eq_true hs, decide_eq_true (show [xpS sec info j, info, [i]].flatten.length < 274877890000 by simp only [List.flatten_cons, List.flatten_nil, List.length_append, List.length_cons, List.length_nil]; omega)]
  rfl
theorem xpY_true {l t : List Int} {m N : Nat} (hm : m ≤ N) (hN : N ≤ 8160) (hl : l.length = N) (ht : t.length = 32) (k : Nat) : xpY l t m N k = true := by
  obtain ⟨e, h0, h1⟩ := xpN_eq hm hN
  have hk : xpN m N ≤ 32 ∧ m + xpN m N ≤ N := by rw [e]; omega
  have htl : ((t.drop 0).take (xpN m N)).length = xpN m N := by rw [List.drop_zero, List.length_take, ht]; omega
  unfold xpY
  rw [htl, ht, hl, decide_eq_true h0, decide_eq_true h1, decide_eq_true (show 0 + xpN m N ≤ 32 by omega), decide_eq_true hk.2, decide_eq_true (show 0 + m + xpN m N ≤ N by omega), decide_eq_true (Nat.le_refl (xpN m N))]
  simp [andT]
theorem tg_fn {sec info : List Int} {N : Nat} (hs : sec.length < 274877900000) (hi : info.length < 270000000000) (hN : N ≤ 8160) (k : Nat) :
    FnTr Tryz.prog 166 [.fn (.yield k) [] [], .ptr 3 0 0, .ptr 4 0 0] (xpH sec info (xpP sec info N 0) 0 N (some (xpL k))) (.tup []) (xpH sec info (expandW sec info N) N N (some (xpD k))) := by
  have hq : 32 * ((N - 1) / 32) ≤ N := by omega
  have hloop : Tr Tryz.prog none 6 (nthC 2 tgB) (tgS sec info (xpP sec info N 0) 0 N [] 1 k) .ret ⟨slotsOf 25 [], xpH sec info (expandW sec info N) N N (some (xpD k)), true⟩ := by
    refine Tr.loopRet 0 (by kernel_rfl) ?_
    have key0 := TrR.for (P := Tryz.prog) (ro := none) (k := 6) (b := inner (inner (nthC 2 tgB))) (x := .ret) (s' := ⟨slotsOf 25 [], xpH sec info (expandW sec info N) N N (some (xpD k)), true⟩) (by simp)
      (fun j : Nat => tgS sec info (xpP sec info N j) (32 * j) N (xpS sec info j) ((j + 1 : Nat) : Int) k) ((N - 1) / 32) (fun j hj => ?_) ?_
    · exact TrR.pre key0 (Ent.same rfl rfl)
    · have hj2 : 32 * j + 32 < N := by omega
      obtain ⟨e, _, _⟩ := xpN_eq (m := 32 * j) (N := N) (by omega) hN
      have e32 : xpN (32 * j) N = 32 := by rw [e]; omega
      have kk := tg_one sec info (xpP sec info N j) (xpS sec info j) (32 * j) N k ((j + 1 : Nat) : Int)
      have hw : xpW (xpP sec info N j) (tT sec (xpS sec info j) info ((j + 1 : Nat) : Int)) (32 * j) N = xpP sec info N (j + 1) := by
        unfold xpW
        rw [e32, xp_spl (by omega) _ (by rw [tT_len]; exact Nat.le_refl _), List.take_of_length_le (by rw [tT_len]; exact Nat.le_refl _)]
        unfold xpP
        rw [xpC, xpS, show N - 32 * j - 32 = N - 32 * (j + 1) by omega]
      have h1 : (!(((32 * j + 32 : Nat) : Int) == (N : Int))) = true := by simp; omega
      have h2 : (!(((j + 1 : Nat) : Int) == 255)) = true := by simp; omega
      have h3 : IntKind.u8.wrap (((j + 1 : Nat) : Int) + 1) = ((j + 1 + 1 : Nat) : Int) := by
        have : ∀ z : Int, IntKind.u8.wrap z = z % 256 := fun z => by simp [IntKind.wrap, IntKind.signed, IntKind.bits]
        rw [this]; omega
      rw [hw, e32, xpA_true hs hi, xpY_true (by omega) hN (xpP_len _ _ (by omega)) (tT_len _ _ _ _), h1, h2, h3, decide_eq_true rfl] at kk
      refine Tr.post (Tr.post (Tr.cut (tgC_ok false) 60 _ 9 (by omega) kk rfl) (Ent.same rfl rfl)) ?_
      exact Ent.fzT (by omega) (by omega) (tg_fz sec info (xpP sec info N (j + 1)) (xpS sec info j) (tT sec (xpS sec info j) info ((j + 1 : Nat) : Int)) (32 * j + 32) N k ((j + 1 : Nat) : Int) ((j + 1 + 1 : Nat) : Int)) (by rw [tT_len]; rfl)
    · have kk := tg_last sec info (xpP sec info N ((N - 1) / 32)) (xpS sec info ((N - 1) / 32)) (32 * ((N - 1) / 32)) N k (((N - 1) / 32 + 1 : Nat) : Int)
      obtain ⟨e, _, _⟩ := xpN_eq hq hN
      have eN : xpN (32 * ((N - 1) / 32)) N = N - 32 * ((N - 1) / 32) := by rw [e]; omega
      have hw : xpW (xpP sec info N ((N - 1) / 32)) (tT sec (xpS sec info ((N - 1) / 32)) info (((N - 1) / 32 + 1 : Nat) : Int)) (32 * ((N - 1) / 32)) N = expandW sec info N := by
        unfold xpW
        rw [eN, xp_spl (by omega) _ (by rw [tT_len]; omega), show N - 32 * ((N - 1) / 32) - (N - 32 * ((N - 1) / 32)) = 0 by omega, List.replicate_zero, List.append_nil]
        rfl
      have h1 : (((N : Nat) : Int) == (N : Int)) = true := beq_self_eq_true _
      rw [hw, xpA_true hs hi, xpY_true hq hN (xpP_len _ _ hq) (tT_len _ _ _ _), eN, show 32 * ((N - 1) / 32) + (N - 32 * ((N - 1) / 32)) = N by omega, h1, decide_eq_true rfl] at kk
      exact Tr.cut (tgC_ok true) 60 _ 6 (by omega) kk rfl
  refine FnTr.mk (vs := []) Tryz.func166 rfl (x := .ret) (s := ⟨slotsOf 25 [], xpH sec info (expandW sec info N) N N (some (xpD k)), true⟩) ?_ (.inl rfl) (by kernel_rfl)
  refine TrL.items (tgC_ok false) 60 2 _ 6 (by show 6 ≤ 6; omega) (tg_head sec info _ 0 N k) rfl (by decide) ?_
  refine TrL.pre ?_ (Ent.setV (o' := true) 4 (v := .nl (.slice none 0 0)) (v' := .ro true .u8 []) rfl (VE.nil_ro _ _)) (by decide)
  exact TrL.leave 2 (by decide) (by simp) (Tr.pre hloop (Ent.same rfl rfl))
end Go.Proofs.YtibfpjeeanppjaaGreat.Kd
end
