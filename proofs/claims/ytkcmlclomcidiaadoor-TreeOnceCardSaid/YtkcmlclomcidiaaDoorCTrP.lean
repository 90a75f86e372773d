/- This file holds the texts TrN, TrP, a section each. No conditions beyond those in the theorems. -/
import Derived.Test.YtkcmlclomcidiaaDoorCTrM
set_option linter.all false
set_option maxRecDepth 100000
section
namespace Go.Sy
open Go
section
variable {P : Program}
theorem FnTr.splitN {f : FuncId} {args : List SV} {h h1 : List Blk} {v : SV} {fl : Bool} {z n : Nat} {g : Nat → List SV} (g1 : 0 < n → FnTr P f (.rol fl z n g :: args) h v h1)
    (g2 : n = 0 → FnTr P f (.nl (.slice none 0 0) :: args) h v h1) (g3 : n = 0 → ∀ a c, FnTr P f (.nl (.slice (some a) 0 c) :: args) h v h1) : FnTr P f (.rol fl z n g :: args) h v h1 := by
  rcases Nat.eq_zero_or_pos n with hx | hx
  · intro B e w args' hB hl R
    obtain ⟨y, zs, h1, h2, rfl⟩ := hl
    rcases h1 with ⟨_, a, cap, rfl, ha⟩ | ⟨n', o, cap, c, t, fr, rfl, _⟩
    · cases a with
      | none =>
        obtain rfl := ha rfl
        exact g2 hx B e w _ hB ⟨.slice none 0 0, _, rfl, h2, rfl⟩ R
      | some a => exact g3 hx a cap B e w _ hB ⟨_, _, rfl, h2, rfl⟩ R
    · subst hx
      exact g3 rfl _ cap B e w _ hB ⟨_, _, rfl, h2, rfl⟩ R
  · exact g1 hx
theorem FnTr.splitI {f : FuncId} {args : List SV} {h h1 : List Blk} {v : SV} {k : IntKind} {xs : List Int} (g1 : 0 < xs.length → FnTr P f (.ro false k xs :: args) h v h1)
    (g2 : xs = [] → FnTr P f (.nl (.slice none 0 0) :: args) h v h1) (g3 : xs = [] → ∀ a c, FnTr P f (.nl (.slice (some a) 0 c) :: args) h v h1) : FnTr P f (.ro false k xs :: args) h v h1 := by
  by_cases hx : xs = []
  · intro B e w args' hB hl R
    obtain ⟨y, zs, h1, h2, rfl⟩ := hl
    rcases h1 with ⟨_, a, cap, rfl, ha⟩ | ⟨n, o, cap, c, t, fr, rfl, _⟩
    · cases a with
      | none =>
        obtain rfl := ha rfl
        exact g2 hx B e w _ hB ⟨.slice none 0 0, _, rfl, h2, rfl⟩ R
      | some a => exact g3 hx a cap B e w _ hB ⟨_, _, rfl, h2, rfl⟩ R
    · subst hx
      exact g3 rfl _ cap B e w _ hB ⟨_, _, rfl, h2, rfl⟩ R
  · exact g1 (List.length_pos_iff.2 hx)
theorem FnTr.frozenI {f : FuncId} {args : List SV} {K : IntKind} {l : List Int} {N : Nat} {ex wh : Bool} (g : FnTr P f args [] (.sl 0 0 0 1 N N ex wh) [.b [.ints K N l]]) (hl : l.length = N) : FnTr P f args [] (.ro true K l) [] := by
  subst hl
  cases wh
  · have k := g.fz (u := .ro true K ((l.drop 0).take l.length)) (h2 := []) (p := andT (decide (l.length = l.length)) (([some (SV.sl 0 0 0 1 l.length l.length ex false)] : List (Option SV)).all fun o => match o with | some v => fzO 0 l.length v | none => true)) 0 0 (Nat.le_refl _) (Nat.le_refl _) rfl (by simp [fzO, andT])
    rw [List.drop_zero, List.take_length] at k
    exact k
  · exact g.fz (u := .ro true K l) (h2 := []) (p := andT (decide (l.length = l.length)) (([some (SV.sl 0 0 0 1 l.length l.length ex true)] : List (Option SV)).all fun o => match o with | some v => fzO 0 l.length v | none => true)) 0 0 (Nat.le_refl _) (Nat.le_refl _) rfl (by simp [fzO, andT])
theorem FnTr.emptyN {f : FuncId} {args : List SV} {h h1 : List Blk} (g : FnTr P f args h (.nl (.slice none 0 0)) h1) (z : Nat) (gg : Nat → List SV) (ex : Bool) : FnTr P f args h (.rsl h1.length z 0 0 ex) (h1 ++ [.b [.rows z 0 gg]]) :=
  g.post fun B e w t' _ hl R => ⟨e, rfl, ⟨hl.1, fun i v v' a c => by
    cases i with
    | zero =>
      simp only [List.getElem?_cons_zero, Option.some.injEq] at a
      subst a
      have h1 : v' = .slice none 0 0 := hl.2 0 _ v' rfl c
      exact .inl ⟨rfl, rfl, none, h1⟩
    | succ i => simp at a⟩, by
    have := R.nothing (j := h1.length) (ps := [.rows z 0 gg]) (.inl rfl) (by simp [psize, psz])
    unfold placeH at this
    rw [if_pos rfl] at this
    exact this⟩
theorem VE.sl_rsl (j z n cap : Nat) (ex wh : Bool) : VE (.sl j 0 0 z n cap ex wh) (.rsl j z n cap ex) := fun e x h => by
  rcases h with h | ⟨p, cap', a, h1, h2, h3, h4, h5, h6, h7⟩
  · exact .inl h
  · exact .inr ⟨p, cap', a, h1, h2, fun q => by simpa using h3 q, h4, h5, h6, fun q => by simpa using h7 q⟩
theorem PE.rows {z n : Nat} {g g' : Nat → List SV} (h : ∀ i, i < n → PE (g i) (g' i)) : PE [.rows z n g] [.rows z n g'] :=
  ⟨rfl, fun e ys q => by
    obtain ⟨us, zs, h1, h2, h3, h4⟩ := PR.consRows.1 q
    exact PR.consRows.2 ⟨us, zs, h1, fun i hi => (h i hi).2 _ _ (h2 i hi), h3, h4⟩⟩
theorem PE.rows0 {z : Nat} {g : Nat → List SV} : PE [] [.rows z 0 g] :=
  ⟨by simp [psize, psz], fun e ys q => PR.consRows.2 ⟨[], ys, by simp, fun i hi => absurd hi (by omega), q, rfl⟩⟩
end
end Go.Sy
namespace Go.Proofs.YtkcmlclomcidiaaDoor.Tr
open Go Go.Sy
theorem noC_ok : CtrSound Tryd.prog (mk (P := Tryd.prog) [] []) := mk_sound _ InlOK.nil _ _
theorem cI_1 (xs : List Int) : (callS Tryd.prog (mk (P := Tryd.prog) [] []) 60 Tryd.f42 [.ro false .i64 xs] []) = some (.sl 0 0 0 1 (0 + xs.length) (0 + xs.length) false true, [.b [.ints .i64 (0 + xs.length) (List.replicate 0 0 ++ xs)]], andT (andT true (decide (0 < xs.length))) (andT true (decide (0 + xs.length ≤ 2 ^ 38)))) := by kernel_rfl
theorem cI_2 (a : Addr) (c : Nat) : (callS Tryd.prog (mk (P := Tryd.prog) [] []) 60 Tryd.f42 [.nl (.slice (some a) 0 c)] []) = some (.sl 0 0 0 1 0 0 false true, [.b [.ints .i64 0 []]], true) := by kernel_rfl
theorem cI_3 (_u : Unit) : (callS Tryd.prog (mk (P := Tryd.prog) [] []) 60 Tryd.f42 [.nl (.slice none 0 0)] []) = some (.nl (.slice none 0 0), [], true) := by kernel_rfl
theorem cN_1 (N : Nat) (t : Nat → Nod) : (callS Tryd.prog (mk (P := Tryd.prog) [] []) 60 Tryd.f41 [.rol false 99 N (tng t)] []) = some (.sl 1 0 0 99 (0 + N) (0 + N) false true, [.b [], .b [.rows 99 N (tng t)]], andT (andT true (decide (0 < N))) (andT (andT true (decide (0 + N ≤ 2 ^ 38))) (decide (0 < 0 + N)))) := by kernel_rfl
theorem cN_2 (a : Addr) (c : Nat) : (callS Tryd.prog (mk (P := Tryd.prog) [] []) 60 Tryd.f41 [.nl (.slice (some a) 0 c)] []) = some (.sl 0 0 0 99 0 0 false true, [.b []], true) := by kernel_rfl
theorem cN_3 (_u : Unit) : (callS Tryd.prog (mk (P := Tryd.prog) [] []) 60 Tryd.f41 [.nl (.slice none 0 0)] []) = some (.nl (.slice none 0 0), [], true) := by kernel_rfl
theorem cloneI_fn {xs : List Int} (h : xs.length ≤ 274877906944) : FnTr Tryd.prog 42 [.ro false .i64 xs] [] (.ro true .i64 xs) [] := by
  refine FnTr.splitI (fun h0 => ?_) (fun hx => ?_) (fun hx a c => ?_)
  · have k := cI_1 xs
    rw [Nat.zero_add, decide_eq_true h0, decide_eq_true (show xs.length ≤ 2 ^ 38 by omega)] at k
    exact FnTr.frozenI (FnTr.of_callS noC_ok Tryd.func42 k) rfl
  · subst hx
    exact FnTr.conv (FnTr.of_callS noC_ok Tryd.func42 (cI_3 ())) ⟨VE.refl _, trivial⟩ trivial (VE.nilRo true .i64) trivial
  · subst hx
    exact FnTr.frozenI (FnTr.of_callS noC_ok Tryd.func42 (cI_2 a c)) rfl
noncomputable def cloneIE : Entry Tryd.prog := .val 42 _ Tryd.func42 (by decide) rfl true 0 (fun vs => match vs with
  | [.ro false .i64 xs] => some (.ro true .i64 xs, [], decide (xs.length ≤ 274877906944))
  | _ => none) fun vs v new e => by
  split at e
  · simp only [Option.some.injEq, Prod.mk.injEq, decide_eq_true_eq] at e
    obtain ⟨rfl, rfl, h⟩ := e
    exact cloneI_fn h
  · cases e
theorem cloneN_fn {N : Nat} {t : Nat → Nod} (h : N ≤ 71) : FnTr Tryd.prog 41 [.rol false 99 N (tng t)] [] (.rsl 0 99 N N false) [.b [.rows 99 N (tng t)]] := by
  refine FnTr.splitN (fun h0 => ?_) (fun hx => ?_) (fun hx a c => ?_)
  · have k := cN_1 N t
    rw [Nat.zero_add, decide_eq_true h0, decide_eq_true (show N ≤ 2 ^ 38 by omega)] at k
    exact FnTr.conv (FnTr.sel (u := .sl 0 0 0 99 N N false true) (new := [.b [.rows 99 N (tng t)]]) [1] (FnTr.of_callS noC_ok Tryd.func41 k) (by kernel_rfl)) ⟨VE.refl _, trivial⟩ trivial (VE.sl_rsl _ _ _ _ _ _) ⟨PE.refl _, trivial⟩
  · subst hx
    exact (FnTr.of_callS noC_ok Tryd.func41 (cN_3 ())).emptyN 99 (tng t) false
  · subst hx
    exact FnTr.conv (FnTr.of_callS noC_ok Tryd.func41 (cN_2 a c)) ⟨VE.refl _, trivial⟩ trivial (VE.sl_rsl _ _ _ _ _ _) ⟨PE.rows0, trivial⟩
noncomputable def cloneNE : Entry Tryd.prog := .val 41 _ Tryd.func41 (by decide) rfl true 1 (fun vs => match vs with
  | [.rol false 99 N g] => some (.rsl 0 99 N N false, [.b [.rows 99 N (tng (treeOf g))]], okT N g && decide (N ≤ 71))
  | _ => none) fun vs v new e => by
  split at e
  · simp only [Option.some.injEq, Prod.mk.injEq, Bool.and_eq_true, decide_eq_true_eq] at e
    obtain ⟨rfl, rfl, h1, h2⟩ := e
    exact FnTr.conv (cloneN_fn (t := treeOf _) h2) ⟨VE.tree h1, trivial⟩ trivial (VE.refl _) ⟨PE.refl _, trivial⟩
  · cases e
end Go.Proofs.YtkcmlclomcidiaaDoor.Tr
end
section
namespace Go.Proofs.YtkcmlclomcidiaaDoor.Tr
open Go Go.Sy
noncomputable def cpC (b : Bool) : Ctr := mk (P := Tryd.prog) [cloneIE, cloneNE] [] (uT [(10, b)])
theorem cpC_ok (b : Bool) : CtrSound Tryd.prog (cpC b) := mk_sound _ InlOK.nil _ _
noncomputable def cpB : Code := bodyOf Tryd.f15
noncomputable def cpS (N : Nat) (t : Nat → Nod) (i : Int) : St := ⟨slotsOf 24 [(3, .rsl 0 99 N N false), (8, .int .i64 N), (9, .int .i64 i)], [.b [.rows 99 N (tng t)]], true⟩
theorem cp_head (N : Nat) (t : Nat → Nod) : resX (cutR [3, 8, 9] 1 ((execL Tryd.prog (cpC true) 60 0 3 (atoms cpB) ⟨slots0 Tryd.f15.ntmps [.rol false 99 N (tng t)], [], true⟩).map fun s => (Exit.normal, s))) = some (.normal, (cpS N t 0).t, [.b [.rows 99 N (tng (treeOf fun i => coolL (tng t i)))]]) := by kernel_rfl
theorem cp_head' (N : Nat) (t : Nat → Nod) : obX (cutR [3, 8, 9] 1 ((execL Tryd.prog (cpC true) 60 0 3 (atoms cpB) ⟨slots0 Tryd.f15.ntmps [.rol false 99 N (tng t)], [], true⟩).map fun s => (Exit.normal, s))) = (andT true (andT true ((okT N fun i => coolL (tng t i)) && decide (N ≤ 71)))) := by kernel_rfl
theorem cp_end (N : Nat) (t : Nat → Nod) (i : Int) : resX (cutR [3] 1 (exec Tryd.prog (cpC false) 60 0 (inner (inner (nthC 3 cpB))) (cpS N t i))) = some (.exit 0, slotsOf 24 [(3, .rsl 0 99 N N false)], [.b [.rows 99 N (tng t)]]) := by kernel_rfl
theorem cp_end' (N : Nat) (t : Nat → Nod) (i : Int) : obX (cutR [3] 1 (exec Tryd.prog (cpC false) 60 0 (inner (inner (nthC 3 cpB))) (cpS N t i))) = (andT true !decide (i < ((N : Nat) : Int))) := by kernel_rfl
theorem cp_one (N : Nat) (t : Nat → Nod) (i : Int) : resX (cutR [3, 8, 9] 1 (exec Tryd.prog (cpC true) 60 0 (inner (inner (nthC 3 cpB))) (cpS N t i))) = some (.normal, (cpS N t (IntKind.i64.wrap (i + 1))).t, [.b [.rows 99 N fun j => mergeP (Nat.beq j i.toNat) [.bool (t i.toNat).used, .int .i64 (t i.toNat).name, .ints .u8 32 (t i.toNat).key, .ints .u8 32 (t i.toNat).sign, .ints .u8 32 (t i.toNat).par, .ro true .i64 (t i.toNat).un] (tng t j)]]) := by kernel_rfl
theorem cp_one' (N : Nat) (t : Nat → Nod) (i : Int) : obX (cutR [3, 8, 9] 1 (exec Tryd.prog (cpC true) 60 0 (inner (inner (nthC 3 cpB))) (cpS N t i))) = (andT (andT (andT (andT (andT (andT true (decide (i < ((N : Nat) : Int)))) (inB i N)) (true && (decide (i.toNat < N) && true))) (andT true (decide ((t i.toNat).un.length ≤ 274877906944)))) (inB i N)) (true && decide (i.toNat < N))) := by kernel_rfl
theorem beqN (j i : Nat) : Nat.beq j i = decide (j = i) := by
  cases h : Nat.beq j i with
  | true => exact (decide_eq_true (Nat.eq_of_beq_eq_true h)).symm
  | false => exact (decide_eq_false (Nat.ne_of_beq_eq_false h)).symm
theorem cp_merge (t : Nat → Nod) (i : Nat) : (fun j => mergeP (Nat.beq j i) [.bool (t i).used, .int .i64 (t i).name, .ints .u8 32 (t i).key, .ints .u8 32 (t i).sign, .ints .u8 32 (t i).par, .ro true .i64 (t i).un] (tng t j)) = tng t := by
  funext j
  rw [beqN]
  by_cases h : j = i
  · subst h; rw [decide_eq_true rfl]; rfl
  · rw [decide_eq_false h]; rfl
theorem copy_fn {N : Nat} {t : Nat → Nod} (hT : TOK N t) : FnTr Tryd.prog 15 [.rol false 99 N (tng t)] [] (.rsl 0 99 N N false) [.b [.rows 99 N (tng t)]] := by
  have hle := hT.le
  refine FnTr.toEnd (h := []) Tryd.func15 rfl 3 0 (fun j => cpS N t ((j : Nat) : Int)) N
    (fun y s' g => TrL.itemsX (cpC_ok true) 60 3 _ 1 (Nat.zero_le _) (s1 := cpS N t ((0 : Nat) : Int)) _ (cp_head N t) (cp_head' N t) (by rw [show okT N (fun i => coolL (tng t i)) = true from okT_tng hT, decide_eq_true hle]; rfl) (by decide) rfl g) (by decide) (by kernel_rfl)
    (fun j hj => ?_) (sE := ⟨slotsOf 24 [(3, .rsl 0 99 N N false)], [.b [.rows 99 N (tng t)]], true⟩) (s' := ⟨slotsOf 24 [(2, .rsl 0 99 N N false), (3, .rsl 0 99 N N false), (23, .rsl 0 99 N N false)], [.b [.rows 99 N (tng t)]], true⟩) (x := .ret) (v := [.rsl 0 99 N N false]) ?_ ?_ (.inl rfl) (by kernel_rfl)
  · have e := cp_one N t j
    rw [Int.toNat_natCast, cp_merge, wrapS (by omega)] at e
    refine Tr.cutX (cpC_ok true) 60 _ 1 (Nat.zero_le _) (s' := cpS N t ((j + 1 : Nat) : Int)) _ e (cp_one' N t j) ?_
    rw [Int.toNat_natCast, ltN hj, inBN hj, decide_eq_true hj, decide_eq_true (hT.un j hj)]
    rfl
  · exact Tr.cutX (cpC_ok false) 60 _ 1 (Nat.zero_le _) _ (cp_end N t N) (cp_end' N t N) (by rw [nltN (Nat.le_refl _)]; rfl)
  · exact TrL.rest (cpC_ok true) 60 (by kernel_rfl) rfl
noncomputable def copyE : Entry Tryd.prog := .val 15 _ Tryd.func15 (by decide) rfl true 1 (fun vs => match vs with
  | [.rol false 99 N g] => some (.rsl 0 99 N N false, [.b [.rows 99 N (tng (treeOf g))]], okT N g && decide (N ≤ 71))
  | _ => none) fun vs v new e => by
  split at e
  · simp only [Option.some.injEq, Prod.mk.injEq, Bool.and_eq_true, decide_eq_true_eq] at e
    obtain ⟨rfl, rfl, h1, h2⟩ := e
    exact FnTr.conv (copy_fn (TOK.of h1 h2)) ⟨VE.tree h1, trivial⟩ trivial (VE.refl _) ⟨PE.refl _, trivial⟩
  · cases e
end Go.Proofs.YtkcmlclomcidiaaDoor.Tr
end
