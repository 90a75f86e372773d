/- This file holds the texts ShC, ShD, a section each. No conditions beyond those in the theorems. -/
import Derived.Test.YtibfpjeeanppjaaGreatWShB
set_option linter.all false
set_option maxRecDepth 100000
section
namespace Go.Sy
open Go
variable {P : Program}
theorem FnTr.empty {f : FuncId} {args : List SV} {h h1 : List Blk} (g : FnTr P f args h (.nl (.slice none 0 0)) h1) (K : IntKind) (ex wh : Bool) : FnTr P f args h (.sl h1.length 0 0 1 0 0 ex wh) (h1 ++ [.b [.ints K 0 []]]) :=
  g.post fun B e w t' _ hl R => ⟨e, rfl, ⟨hl.1, fun i v v' a c => by
    cases i with
    | zero =>
      simp only [List.getElem?_cons_zero, Option.some.injEq] at a
      subst a
      have h1 : v' = .slice none 0 0 := hl.2 0 _ v' rfl c
      exact .inl ⟨rfl, rfl, none, h1⟩
    | succ i => simp at a⟩, by
    have := R.nothing (j := h1.length) (ps := [.ints K 0 []]) (.inl rfl) rfl
    unfold placeH at this
    rw [if_pos rfl] at this
    exact this⟩
theorem FnTr.frozen {f : FuncId} {args : List SV} {K : IntKind} {l : List Int} {N : Nat} {ex wh : Bool} (g : FnTr P f args [] (.sl 0 0 0 1 N N ex wh) [.b [.ints K N l]]) (hl : l.length = N) : FnTr P f args [] (.ro true K l) [] := by
  subst hl
  cases wh
  · have k := g.fz (u := .ro true K ((l.drop 0).take l.length)) (h2 := []) (p := andT (decide (l.length = l.length)) (([some (SV.sl 0 0 0 1 l.length l.length ex false)] : List (Option SV)).all fun o => match o with | some v => fzO 0 l.length v | none => true)) 0 0 (Nat.le_refl _) (Nat.le_refl _) rfl (by simp [fzO, andT])
    rw [List.drop_zero, List.take_length] at k
    exact k
  · exact g.fz (u := .ro true K l) (h2 := []) (p := andT (decide (l.length = l.length)) (([some (SV.sl 0 0 0 1 l.length l.length ex true)] : List (Option SV)).all fun o => match o with | some v => fzO 0 l.length v | none => true)) 0 0 (Nat.le_refl _) (Nat.le_refl _) rfl (by simp [fzO, andT])
end Go.Sy
namespace Go.Proofs.YtibfpjeeanppjaaGreat.Sh
open Go Go.Sy
noncomputable def gC (b : Bool) := mk (P := Tryz.prog) [] [] fun i => if i = 6 then some false else if i = 16 then some b else none
theorem gC_ok (b : Bool) : CtrSound Tryz.prog (gC b) := mk_sound _ InlOK.nil _ _
def gI (n : Int) : Int := IntKind.i64.wrap (n - IntKind.i64.wrap (0 - ((0 : Nat) : Int)))
def growF : List SV → Option (SV × List Blk × Bool)
  | [.nl (.slice none 0 0), .int .i64 n] => some (.sl 0 0 0 1 0 n.toNat false false, [.b [.ints .u8 n.toNat (List.replicate n.toNat 0)]], decide (0 ≤ n) && decide (n ≤ 274877906944))
  | _ => none
theorem grow_pos (n : Int) : (callS Tryz.prog (gC true) 60 Tryz.f74 [.nl (.slice none 0 0), .int .i64 n] []).map (fun x => x) =
    some (.sl 0 0 0 1 0 (gI n).toNat false false, [.b [.ints .u8 (gI n).toNat (List.replicate (gI n).toNat 0)]], andT (andT (andT true (!decide (n < 0))) (decide (gI n > 0))) (decide (0 ≤ gI n) && decide (gI n ≤ 2 ^ 38))) := by kernel_rfl
theorem grow_zero (n : Int) : (callS Tryz.prog (gC false) 60 Tryz.f74 [.nl (.slice none 0 0), .int .i64 n] []).map (fun x => (x.1, x.2.2)) =
    some (.nl (.slice none 0 0), andT (andT true (!decide (n < 0))) (!decide (gI n > 0))) := by kernel_rfl
theorem grow_fn {n : Int} (h0 : 0 ≤ n) (h1 : n ≤ 274877906944) : FnTr Tryz.prog 74 [.nl (.slice none 0 0), .int .i64 n] [] (.sl 0 0 0 1 0 n.toNat false false) [.b [.ints .u8 n.toNat (List.replicate n.toNat 0)]] := by
  have e : gI n = n := by
    unfold gI
    rw [wrap_i64 (0 - ((0 : Nat) : Int)) (by omega) (by omega), wrap_i64 _ (by omega) (by omega)]; omega
  by_cases hn : n = 0
  · subst hn
    have k := grow_zero 0
    rw [e] at k
    exact (call0 (gC_ok false) 60 Tryz.func74 k rfl rfl).empty .u8 false false
  · have k := grow_pos n
    rw [e, decide_eq_false (show ¬ n < 0 by omega), decide_eq_true (show n > 0 by omega), decide_eq_true h0, decide_eq_true (show n ≤ 2 ^ 38 by omega)] at k
    obtain ⟨x, h2, h3⟩ := Option.map_eq_some_iff.1 k
    subst h3
    exact FnTr.of_callS (gC_ok true) Tryz.func74 h2
noncomputable def growE : Entry Tryz.prog := .val 74 _ Tryz.func74 (by decide) rfl false 1 growF fun vs v new e => by
  unfold growF at e
  split at e
  · simp only [Option.some.injEq, Prod.mk.injEq, Bool.and_eq_true, decide_eq_true_eq] at e
    obtain ⟨rfl, rfl, h1, h2⟩ := e
    exact grow_fn h1 h2
  · cases e
end Go.Proofs.YtibfpjeeanppjaaGreat.Sh
end
section
namespace Go.Proofs.YtibfpjeeanppjaaGreat.Sh
open Go Go.Sy
noncomputable def cB : Code := bodyOf Tryz.f41
noncomputable def coC (a c : Bool) : Ctr := mk (P := Tryz.prog) [growE] [] (fun i => if i = 12 then some a else if i = 20 then some false else if i = 28 then some c else none) fun i => i = 33
theorem coC_ok (a c : Bool) : CtrSound Tryz.prog (coC a c) := mk_sound _ InlOK.nil _ _
noncomputable def c1 (xss : List (List Int)) (n i : Int) : St := ⟨slotsOf 36 [(0, .rob false xss), (2, .nl (.slice none 0 0)), (3, .int .i64 n), (9, .rob false xss), (10, .int .i64 xss.length), (11, .int .i64 i)], [], true⟩
noncomputable def c2 (xss : List (List Int)) (N m : Nat) (l : List Int) (i : Int) : St := ⟨slotsOf 36 [(6, .sl 0 0 0 1 m N false false), (25, .rob false xss), (26, .int .i64 xss.length), (27, .int .i64 i)], [.b [.ints .u8 N l]], true⟩
section
variable (xss : List (List Int)) (n i : Int) (N m : Nat) (l : List Int)
theorem co_head : (execL Tryz.prog (coC true true) 60 0 3 (atoms cB) ⟨slots0 Tryz.f41.ntmps [.rob false xss], [], true⟩).bind (St.cut [0, 2, 3, 9, 10, 11] 0) = some (c1 xss 0 0) := by kernel_rfl
theorem co_one : (exec Tryz.prog (coC true true) 60 0 (inner (inner (nthC 3 cB))) (c1 xss n i)).bind (fun r => (r.2.cut [0, 2, 3, 9, 10, 11] 0).map fun q => (r.1, q)) =
    some (.normal, { c1 xss (IntKind.i64.wrap (n + (xss.getD i.toNat []).length)) (IntKind.i64.wrap (i + 1)) with ob := andT (andT (andT (andT true (decide (i < xss.length))) (inB i xss.length)) (decide (i.toNat < xss.length))) (!decide (IntKind.i64.wrap (n + (xss.getD i.toNat []).length) < 0)) }) := by kernel_rfl
theorem co_oneE : (exec Tryz.prog (coC false true) 60 0 (inner (inner (nthC 3 cB))) (c1 xss n i)).bind (fun r => (r.2.cut [0, 2, 3, 9, 10, 11] 0).map fun q => (r.1, q)) =
    some (.exit 0, { c1 xss n i with ob := andT true (!decide (i < xss.length)) }) := by kernel_rfl
theorem co_mid : (execL Tryz.prog (coC true true) 60 0 2 ((atoms cB).drop 4) (c1 xss n i)).bind (St.cut [6, 25, 26, 27] 1) =
    some { c2 xss n.toNat 0 (List.replicate n.toNat 0) 0 with ob := andT true (andT true (decide (0 ≤ n) && decide (n ≤ 274877906944))) } := by kernel_rfl
theorem co_two : (exec Tryz.prog (coC true true) 60 0 (inner (inner (nthC 6 cB))) (c2 xss N m l i)).bind (fun r => (r.2.cut [6, 25, 26, 27] 1).map fun q => (r.1, q)) =
    some (.normal, { c2 xss N (m + (xss.getD i.toNat []).length) (spl l (0 + m) (xss.getD i.toNat []) (xss.getD i.toNat []).length) (IntKind.i64.wrap (i + 1)) with ob := andT (andT (andT (andT true (decide (i < xss.length))) (inB i xss.length)) (decide (i.toNat < xss.length))) (andT (andT true (decide (m + (xss.getD i.toNat []).length ≤ N)))
        (decide (l.length = N) && decide (0 + m + (xss.getD i.toNat []).length ≤ N) && decide ((xss.getD i.toNat []).length ≤ (xss.getD i.toNat []).length))) }) := by kernel_rfl
theorem co_twoE : (exec Tryz.prog (coC true false) 60 0 (inner (inner (nthC 6 cB))) (c2 xss N m l i)).bind (fun r => (r.2.cut [6, 25, 26, 27] 1).map fun q => (r.1, q)) =
    some (.exit 2, { c2 xss N m l i with ob := andT true (!decide (i < xss.length)) }) := by kernel_rfl
end
def tot (xss : List (List Int)) (i : Nat) : Nat := (xss.take i).flatten.length
theorem take_flat {xss : List (List Int)} {i : Nat} (h : i < xss.length) : (xss.take (i + 1)).flatten = (xss.take i).flatten ++ xss.getD i [] := by
  have e : xss.take (i + 1) = xss.take i ++ [xss[i]] := by simp
  have g : xss.getD i [] = xss[i] := by simp [List.getD, List.getElem?_eq_getElem h]
  rw [e, g, List.flatten_append, List.flatten_cons, List.flatten_nil, List.append_nil]
theorem tot_succ {xss : List (List Int)} {i : Nat} (h : i < xss.length) : tot xss (i + 1) = tot xss i + (xss.getD i []).length := by
  unfold tot; rw [take_flat h, List.length_append]
theorem tot_le (xss : List (List Int)) (i : Nat) : tot xss i ≤ xss.flatten.length := by
  have : xss.flatten = (xss.take i).flatten ++ (xss.drop i).flatten := by rw [← List.flatten_append, List.take_append_drop]
  unfold tot
  rw [this, List.length_append]; omega
theorem tot_all (xss : List (List Int)) : tot xss xss.length = xss.flatten.length := by unfold tot; rw [List.take_length]
def fillN (xss : List (List Int)) (i : Nat) : List Int := (xss.take i).flatten ++ List.replicate (xss.flatten.length - tot xss i) 0
theorem fillN_len (xss : List (List Int)) (i : Nat) : (fillN xss i).length = xss.flatten.length := by
  have := tot_le xss i
  unfold fillN
  rw [List.length_append, List.length_replicate]
  unfold tot at *; omega
theorem fillN_succ {xss : List (List Int)} {i : Nat} (h : i < xss.length) : spl (fillN xss i) (0 + tot xss i) (xss.getD i []) (xss.getD i []).length = fillN xss (i + 1) := by
  unfold spl
  have h1 : (fillN xss i).take (0 + tot xss i) = (xss.take i).flatten := by
    unfold fillN
    rw [Nat.zero_add]
    exact List.take_left' rfl
  have h2 : (fillN xss i).drop (0 + tot xss i + (xss.getD i []).length) = List.replicate (xss.flatten.length - tot xss (i + 1)) 0 := by
    unfold fillN
    rw [List.drop_append, tot_succ h, List.drop_of_length_le (by unfold tot; omega), List.nil_append, List.drop_replicate]
    congr 1
    unfold tot; omega
  rw [h1, h2, List.take_length]
  unfold fillN
  rw [take_flat h]
theorem co_sl {xss : List (List Int)} (h1 : xss.flatten.length ≤ 274877906944) (h2 : xss.length ≤ 274877906944) : FnTr Tryz.prog 41 [.rob false xss] [] (.sl 0 0 0 1 xss.flatten.length xss.flatten.length false false) [.b [.ints .u8 xss.flatten.length xss.flatten]] := by
  have l1 : Tr Tryz.prog none 0 (nthC 3 cB) (c1 xss 0 0) .normal (c1 xss xss.flatten.length xss.length) := by
    have key := Tr.loop (P := Tryz.prog) (ro := none) (k := 0) 0 (c := nthC 3 cB) (by kernel_rfl) (fun j : Nat => c1 xss (tot xss j) j) xss.length (s' := c1 xss xss.flatten.length xss.length) (fun j hj => ?_) ?_
    · exact key
    · have k := co_one xss (tot xss j) j
      have t1 := tot_le xss (j + 1)
      have t2 := tot_succ hj
      rw [Int.toNat_natCast, wrap_i64 _ (by omega) (by omega), wrap_i64 _ (by omega) (by omega)] at k
      refine Tr.post (Tr.cut (coC_ok true true) 60 _ 0 (by omega) k ?_) (Ent.same ?_ rfl)
      · simp only [andT_iff, decide_eq_true_eq, Bool.not_eq_true', decide_eq_false_iff_not, true_and]
        exact ⟨⟨⟨by omega, inB_true (by omega) (by omega)⟩, by omega⟩, by omega⟩
      · show (c1 _ _ _).t = (c1 _ _ _).t
        rw [show ((tot xss j : Nat) : Int) + ((xss.getD j []).length : Nat) = ((tot xss (j + 1) : Nat) : Int) by omega, show ((j : Int) + 1) = ((j + 1 : Nat) : Int) by omega]
    · have k := co_oneE xss (tot xss xss.length) xss.length
      rw [tot_all] at k ⊢
      exact Tr.post (Tr.cut (coC_ok false true) 60 _ 0 (by omega) k (by simp [andT])) (Ent.same rfl rfl)
  have l2 : Tr Tryz.prog none 0 (nthC 6 cB) (c2 xss xss.flatten.length 0 (List.replicate xss.flatten.length 0) 0) .normal (c2 xss xss.flatten.length xss.flatten.length xss.flatten xss.length) := by
    have key := Tr.loop (P := Tryz.prog) (ro := none) (k := 0) 2 (c := nthC 6 cB) (by kernel_rfl) (fun j : Nat => c2 xss xss.flatten.length (tot xss j) (fillN xss j) j) xss.length (s' := c2 xss xss.flatten.length xss.flatten.length xss.flatten xss.length) (fun j hj => ?_) ?_
    · exact key
    · have k := co_two xss j xss.flatten.length (tot xss j) (fillN xss j)
      have t1 := tot_le xss (j + 1)
      have t2 := tot_succ hj
      rw [Int.toNat_natCast, wrap_i64 _ (by omega) (by omega), fillN_succ hj, ← t2] at k
      refine Tr.post (Tr.cut (coC_ok true true) 60 _ 1 (by omega) k ?_) (Ent.same ?_ rfl)
      · simp only [andT_iff, Bool.and_eq_true, decide_eq_true_eq, true_and]
        exact ⟨⟨⟨by omega, inB_true (by omega) (by omega)⟩, by omega⟩, by omega, ⟨⟨fillN_len _ _, by omega⟩, by omega⟩⟩
      · show (c2 _ _ _ [] _).t = (c2 _ _ _ [] _).t
        rw [show ((j : Int) + 1) = ((j + 1 : Nat) : Int) by omega]
    · have k := co_twoE xss xss.length xss.flatten.length (tot xss xss.length) (fillN xss xss.length)
      have e : fillN xss xss.length = xss.flatten := by unfold fillN; rw [tot_all, Nat.sub_self, List.take_length]; simp
      rw [tot_all, e] at k
      rw [tot_all, e]
      exact Tr.post (Tr.cut (coC_ok true false) 60 _ 1 (by omega) k (by simp [andT])) (Ent.same rfl rfl)
  have key : FnTr Tryz.prog 41 [.rob false xss] [] (.sl 0 0 0 1 xss.flatten.length xss.flatten.length false false) [.b [.ints .u8 xss.flatten.length xss.flatten]] := by
    refine FnTr.restM (coC_ok true true) 60 7 1 Tryz.func41 (by simp) rfl (fun s' x h => ?_) (s := c2 xss xss.flatten.length xss.flatten.length xss.flatten xss.length) (p := true) (by kernel_rfl) rfl rfl rfl
    refine TrL.items (coC_ok true true) 60 3 _ 0 (by simp) (co_head xss) rfl (by decide) ?_
    refine TrL.item 3 (by decide) l1 ?_
    have hm := co_mid xss xss.flatten.length xss.length
    rw [Int.toNat_natCast] at hm
    refine TrL.items (coC_ok true true) 60 2 _ 1 (by simp) hm ?_ (by decide) ?_
    · simp only [andT_iff, Bool.and_eq_true, decide_eq_true_eq, true_and]; omega
    refine TrL.item 6 (by decide) (Tr.pre l2 (Ent.same rfl rfl)) h
  exact key
theorem co_fn {xss : List (List Int)} (h1 : xss.flatten.length ≤ 274877906944) (h2 : xss.length ≤ 274877906944) : FnTr Tryz.prog 41 [.rob false xss] [] (.ro true .u8 xss.flatten) [] := (co_sl h1 h2).frozen rfl
def coTF : List SV → Option (SV × List Blk × Bool)
  | [.rob false xss] => some (.sl 0 0 0 1 xss.flatten.length xss.flatten.length false false, [.b [.ints .u8 xss.flatten.length xss.flatten]], decide (xss.flatten.length ≤ 274877906944) && decide (xss.length ≤ 274877906944))
  | _ => none
noncomputable def concatTE : Entry Tryz.prog := .val 41 _ Tryz.func41 (by decide) rfl true 1 coTF fun vs v new e => by
  unfold coTF at e
  split at e
  · simp only [Option.some.injEq, Prod.mk.injEq, Bool.and_eq_true, decide_eq_true_eq] at e
    obtain ⟨rfl, rfl, h1, h2⟩ := e
    exact co_sl h1 h2
  · cases e
def coF : List SV → Option (SV × List Blk × Bool)
  | [.rob false xss] => some (.ro true .u8 xss.flatten, [], decide (xss.flatten.length ≤ 274877906944) && decide (xss.length ≤ 274877906944))
  | _ => none
noncomputable def concatE : Entry Tryz.prog := .val 41 _ Tryz.func41 (by decide) rfl true 0 coF fun vs v new e => by
  unfold coF at e
  split at e
  · simp only [Option.some.injEq, Prod.mk.injEq, Bool.and_eq_true, decide_eq_true_eq] at e
    obtain ⟨rfl, rfl, h1, h2⟩ := e
    exact co_fn h1 h2
  · cases e
end Go.Proofs.YtibfpjeeanppjaaGreat.Sh
end
