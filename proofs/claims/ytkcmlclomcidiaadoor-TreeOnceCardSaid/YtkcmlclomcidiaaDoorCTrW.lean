/- This file holds the texts TrX, TrW, a section each. No conditions beyond those in the theorems. -/
import Derived.Test.YtkcmlclomcidiaaDoorCTrV
set_option linter.all false
section
namespace Go.Sy
open Go
section
variable {P : Program}
theorem take_mid {α : Type} (L : List α) {n z i : Nat} (hi : i < n) : ((L.take (n * z)).drop (i * z)).take z = (L.drop (i * z)).take z := by
  have : i * z + z ≤ n * z := by
    have := Nat.mul_le_mul_right z (show i + 1 ≤ n by omega)
    rw [Nat.add_mul, Nat.one_mul] at this
    exact this
  rw [List.drop_take, List.take_take, Nat.min_eq_left (by omega)]
theorem FnTr.frozenN {f : FuncId} {args : List SV} {v u : SV} {z n len cap : Nat} {ex : Bool} {g : Nat → List SV} (hlen : len ≤ n)
    (hu : ∀ (e e' : Env) (x : Value), (∀ m o, e.z m = some o → e'.z m = some o) → e'.n0 = e.n0 → (∀ y, VR e (.rsl 0 z len cap ex) y → VR e' (.rol true z len g) y) → VR e v x → VR e' u x) (k : FnTr P f args [] v [.b [.rows z n g]]) : FnTr P f args [] u [] := by
  intro B e w args' hB hl R
  refine (k B e w args' hB hl R).mono ?_
  rintro en w' ⟨v', rfl, e1, hm, hv, S⟩
  have hk0 : B.k = 0 := by simpa using hB
  have hBr : ∀ i p, B.e.r i ≠ some p := fun i p hi => by have := S.kr i p hi; omega
  have h1r : ∀ i, i ≠ 0 → e1.r i = none := fun i hi => by
    cases hq : e1.r i with
    | none => rfl
    | some p => have := S.dom i p hq; simp at this; omega
  have fin : ∀ (zz : Nat → Option (Array Value × TypeId × (Nat × Nat))), (∀ m o, e1.z m = some o → zz m = some o) → (∀ m c t fr, zz m = some (c, t, fr) → w'.heap[m]? = some (.cells c t fr)) → (∀ m x, zz m = some x → B.e.z m = some x ∨ B.w.heap.size ≤ m) → Rel B { e1 with r := fun _ => none, z := zz } [] w' := fun zz z1 z2 z3 => {
    os := S.os, tape := S.tape, output := S.output, size := S.size
    inj := fun i j p q hi => by cases hi
    dom := fun i p hi => by cases hi
    sep := fun i p hi => by cases hi
    zok := z2, zfresh := z3
    glb := fun gg K xs hg => (S.glb gg K xs hg).imp fun c ⟨t, fr, q1, q2⟩ => ⟨t, fr, z1 _ _ q1, q2⟩
    news := fun i p hi => by cases hi
    keepr := fun i p hi => absurd hi (hBr i p)
    keepz := fun m x hm => z1 m x (S.keepz m x hm)
    n0 := S.n0, n0le := S.n0le
    blk := fun i ps hi => by simp at hi
    gap := fun i g hi => by simp at hi
    yi := S.yi, yb := S.yb, old := S.old
    win := fun i p hi => absurd hi (hBr i p)
    kr := S.kr, kle := by rw [hk0]; exact Nat.zero_le _
    mks := S.mks, mnd := S.mnd }
  rcases S.blk 0 _ rfl with ⟨g1, g2⟩ | ⟨p, o, g1, g2, c, ty, rfl, g3, g4, g5⟩
  · refine ⟨v', rfl, { e1 with r := fun _ => none }, hm, hu e1 _ v' (fun _ _ h => h) rfl (fun y hy => ?_) hv, fin e1.z (fun _ _ h => h) S.zok (fun m x hx => ?_)⟩
    · rcases hy with ⟨q1, _, a, rfl⟩ | ⟨p, _, _, q1, _⟩
      · exact .inl ⟨q1, a, 0, rfl, fun _ => rfl⟩
      · rw [g2] at q1; cases q1
    · exact S.zfresh m x hx
  · have hpz : e1.z p.n = none := S.sep 0 p g1
    have hnew : B.w.heap.size ≤ p.n := (S.news 0 p g1).resolve_left (hBr 0 p)
    have hz1 : ∀ m o, e1.z m = some o → (if m = p.n then some (c, ty, (0, 0)) else e1.z m) = some o := fun m o h => by
      rw [if_neg (fun q => by rw [q, hpz] at h; cases h)]; exact h
    obtain ⟨us, zs, q1, q2, q3, q4⟩ := PR.consRows.1 g5
    rw [PR] at q3
    subst q3
    rw [List.append_nil] at q4
    have hps : psize [SV.rows z n g] = n * z := by simp [psize, psz]
    rw [hps] at q4 g4
    refine ⟨v', rfl, { e1 with r := fun _ => none, z := fun m => if m = p.n then some (c, ty, (0, 0)) else e1.z m }, hm, hu e1 _ v' hz1 rfl (fun y hy => ?_) hv, fin _ hz1 (fun m c' t' fr hx => ?_) (fun m x hx => ?_)⟩
    · rcases hy with ⟨h1, _, a, rfl⟩ | ⟨p', cap', a, h1, rfl, h3, h4, h5, h6, h7⟩
      · exact .inl ⟨h1, a, 0, rfl, fun _ => rfl⟩
      · rw [g1] at h1
        cases h1
        by_cases hc : cap' = 0
        · subst hc
          exact .inl ⟨by omega, some ⟨p.n, a, none⟩, 0, by rw [show len = 0 by omega], fun _ => rfl⟩
        · have ha := h3 hc
          have hcs := h7 hc
          refine .inr ⟨p.n, a, cap', c, ty, (0, 0), rfl, if_pos rfl, fun _ => ?_, fun i hi => ?_, h6, by omega⟩
          · show e1.n0 ≤ p.n
            rw [S.n0]
            exact Nat.le_trans S.n0le hnew
          · have := q2 i (by omega)
            rw [← q4, take_mid _ (show i < n by omega), List.drop_drop] at this
            rw [ha]
            exact PR.mono' (e := ⟨fun _ => none, e1.z, e1.n0, [], fun _ => none⟩) (e' := ⟨fun _ => none, fun m => if m = p.n then some (c, ty, (0, 0)) else e1.z m, e1.n0, [], fun _ => none⟩) hz1 (Nat.le_refl _) _ _ (fun j q _ h => by cases h) this
    · have hx' : (if m = p.n then some (c, ty, (0, 0)) else e1.z m) = some (c', t', fr) := hx
      split at hx'
      · rename_i q; cases hx'; rw [q]; exact g2
      · exact S.zok m c' t' fr hx'
    · have hx' : (if m = p.n then some (c, ty, (0, 0)) else e1.z m) = some x := hx
      split at hx'
      · rename_i q; right; omega
      · exact S.zfresh m x hx'
end
end Go.Sy
end
section
namespace Go.Proofs.YtkcmlclomcidiaaDoor.Tr
open Go Go.Sy
def nodA : List SV → Option Nod
  | [.bool u, .int .i64 n, .ints .u8 32 k, .ints .u8 32 s, .ints .u8 32 p, .ro false .i64 un] => some ⟨u, n, k, s, p, un⟩
  | [.bool u, .int .i64 n, .ints .u8 32 k, .ints .u8 32 s, .ints .u8 32 p, .nl (.slice none 0 0)] => some ⟨u, n, k, s, p, []⟩
  | _ => none
theorem nodA_ve {l : List SV} {n : Nod} (h : nodA l = some n) : PE l n.cells := by
  unfold nodA at h
  split at h
  · cases h; exact PE.refl _
  · rename_i u n' k s p
    cases h
    exact PE.last (ps := [.bool u, .int .i64 n', .ints .u8 32 k, .ints .u8 32 s, .ints .u8 32 p]) rfl rfl (VE.nilRo false .i64)
  · cases h
theorem fz2 {e e' : Env} {len cap : Nat} {ex : Bool} {g : Nat → List SV} {b : Value} {x : Value} (H : ∀ y, VR e (.rsl 0 99 len cap ex) y → VR e' (.rol true 99 len g) y) (hv : VR e (.tup [.rsl 0 99 len cap ex, .nl b]) x) : VR e' (.tup [.rol true 99 len g, .nl b]) x := by
  obtain ⟨ys, ⟨y, zs, h1, ⟨y2, zs2, h2, h3, rfl⟩, rfl⟩, rfl⟩ := hv
  exact ⟨_, ⟨y, _, H y h1, ⟨y2, zs2, h2, h3, rfl⟩, rfl⟩, rfl⟩
theorem fz3 {e e' : Env} {len cap : Nat} {ex : Bool} {g : Nat → List SV} {b : Value} {j : Int} {x : Value} (H : ∀ y, VR e (.rsl 0 99 len cap ex) y → VR e' (.rol true 99 len g) y) (hv : VR e (.tup [.rsl 0 99 len cap ex, .int .i64 j, .nl b]) x) : VR e' (.tup [.rol true 99 len g, .int .i64 j, .nl b]) x := by
  obtain ⟨ys, ⟨y, zs, h1, ⟨y2, zs2, h2, ⟨y3, zs3, h3, h4, rfl⟩, rfl⟩, rfl⟩, rfl⟩ := hv
  exact ⟨_, ⟨y, _, H y h1, ⟨y2, _, h2, ⟨y3, zs3, h3, h4, rfl⟩, rfl⟩, rfl⟩, rfl⟩
def freeJ (N : Nat) (t : Nat → Nod) : Nat := ((List.range 32).find? fun j => !(decide (2 * j < N) && (t (2 * j)).used)).getD 32
def addM (N : Nat) (t : Nat → Nod) : Nat := bif decide (2 * freeJ N t < N) then N else 2 * N + 1
def addU (N : Nat) (t : Nat → Nod) : Nat → Nod := bif decide (2 * freeJ N t < N) then t else extT N t
def addT (N : Nat) (t : Nat → Nod) (n : Nod) : Nat → Nod := updT (addU N t) (2 * freeJ N t) { n with un := [] }
def addL (N : Nat) (t : Nat → Nod) : Nat := (leavesV (addM N t)).toNat
def addOK (N : Nat) (t : Nat → Nod) (n : Nod) : Bool := decide (N ≤ 71) && checkB N t && lfB n.used n.name n.un && decide (findV N t n.name < 0) && decide (freeJ N t ≤ 31) && sizes.contains (addL N t) && (leavesV (addM N t) == (addL N t : Int)) && decide (addM N t = 2 * addL N t - 1) && decide (freeJ N t < addL N t) &&
  (List.range (lgN (addL N t))).all fun k => !(addT N t n (upV (addL N t) (2 * (freeJ N t : Int)) k).toNat).used
theorem freeJ_ok {N : Nat} {t : Nat → Nod} (h : freeJ N t ≤ 31) : (∀ k, k < freeJ N t → 2 * k < N ∧ (t (2 * k)).used = true) ∧ (2 * freeJ N t < N → (t (2 * freeJ N t)).used = false) := by
  unfold freeJ at h ⊢
  cases hq : (List.range 32).find? fun j => !(decide (2 * j < N) && (t (2 * j)).used) with
  | none => rw [hq] at h; simp at h
  | some j =>
    obtain ⟨_, h2, h3⟩ := find_range (b := fun j => decide (2 * j < N) && (t (2 * j)).used) hq
    simp only [Option.getD_some]
    refine ⟨fun k hk => ?_, fun hj => ?_⟩
    · have := h3 k hk
      simp only [Bool.and_eq_true, decide_eq_true_eq] at this
      exact this
    · rw [decide_eq_true hj, Bool.true_and] at h2
      exact h2
noncomputable def addE : Entry Tryd.prog := .val 18 _ Tryd.func18 (by decide) rfl true 0 (fun vs => match vs with
  | [.rol false 99 N g, .agg l] => match nodA l with
    | some n => some (.tup [.rol true 99 (addM N (treeOf g)) (tng (addT N (treeOf g) n)), .int .i64 (freeJ N (treeOf g)), .nl .nilIface], [], okT N g && addOK N (treeOf g) n)
    | none => none
  | _ => none) fun vs v new e => by
  split at e
  · rename_i N g l
    split at e
    · rename_i n hn
      simp only [Option.some.injEq, Prod.mk.injEq, Bool.and_eq_true] at e
      obtain ⟨rfl, rfl, h1, h2⟩ := e
      unfold addOK at h2
      simp only [Bool.and_eq_true, decide_eq_true_eq, beq_iff_eq, List.all_eq_true, List.mem_range, Bool.not_eq_true', List.contains_iff_mem] at h2
      obtain ⟨⟨⟨⟨⟨⟨⟨⟨⟨q1, q2⟩, q3⟩, q4⟩, q5⟩, q6⟩, q7⟩, q8⟩, q9⟩, q10⟩ := h2
      obtain ⟨f1, f2⟩ := freeJ_ok q5
      refine FnTr.conv (FnTr.frozenN (Nat.le_refl _) (fun e e' x _ _ H hv => fz3 H hv) (add_fn (t := treeOf g) (u := addU N (treeOf g)) (TOK.of h1 q1) q2 q3 q4 f1 f2 q5 ?_ q6 q7 q8 q9 q10)) ⟨VE.tree h1, VE.agg (nodA_ve hn), trivial⟩ trivial (VE.refl _) trivial
      unfold addM addU
      by_cases hj : 2 * freeJ N (treeOf g) < N
      · rw [decide_eq_true hj]; exact .inl ⟨hj, rfl, rfl⟩
      · rw [decide_eq_false hj]; exact .inr ⟨by omega, rfl, rfl⟩
    · cases e
  · cases e
def rmU (N : Nat) (t : Nat → Nod) (a : Nat) : Nat → Nod := blankK (updT t (2 * a) zeroN) (leavesV N).toNat (2 * (a : Int)) (lgN (leavesV N).toNat)
def rmK (N : Nat) (t : Nat → Nod) (a : Nat) : Nat := ((List.range 7).find? fun k => !halfB (halfK N k) (rmU N t a)).getD 7
def rmOK (N : Nat) (t : Nat → Nod) (a : Nat) : Bool := decide (N ≤ 71) && checkB N t && usedB N t a && !((cntK t ((N + 1) / 2) : Int) == 1) && sizes.contains (leavesV N).toNat && (leavesV N == ((leavesV N).toNat : Int)) && decide (N = 2 * (leavesV N).toNat - 1) && decide (a < (leavesV N).toNat) && decide (rmK N t a ≤ 6)
theorem rmK_ok {N a : Nat} {t : Nat → Nod} (h : rmK N t a ≤ 6) : (∀ k, k < rmK N t a → halfB (halfK N k) (rmU N t a) = true) ∧ halfB (halfK N (rmK N t a)) (rmU N t a) = false := by
  unfold rmK at h ⊢
  cases hq : (List.range 7).find? fun k => !halfB (halfK N k) (rmU N t a) with
  | none => rw [hq] at h; simp at h
  | some j =>
    obtain ⟨_, h2, h3⟩ := find_range (b := fun k => halfB (halfK N k) (rmU N t a)) hq
    exact ⟨fun k hk => h3 k hk, h2⟩
noncomputable def removeE : Entry Tryd.prog := .val 20 _ Tryd.func20 (by decide) rfl true 0 (fun vs => match vs with
  | [.rol false 99 N g, .int .i64 i] => some (.tup [.rol true 99 (halfK N (rmK N (treeOf g) i.toNat)) (tng (rmU N (treeOf g) i.toNat)), .nl .nilIface], [], okT N g && (decide (0 ≤ i) && rmOK N (treeOf g) i.toNat))
  | _ => none) fun vs v new e => by
  split at e
  · rename_i N g i
    simp only [Option.some.injEq, Prod.mk.injEq, Bool.and_eq_true, decide_eq_true_eq] at e
    obtain ⟨rfl, rfl, h1, h0, h2⟩ := e
    obtain ⟨a, rfl⟩ := Int.eq_ofNat_of_zero_le h0
    rw [Int.toNat_natCast] at h2 ⊢
    unfold rmOK at h2
    simp only [Bool.and_eq_true, decide_eq_true_eq, beq_iff_eq, Bool.not_eq_true', List.contains_iff_mem] at h2
    obtain ⟨⟨⟨⟨⟨⟨⟨⟨q1, q2⟩, q3⟩, q4⟩, q5⟩, q6⟩, q7⟩, q8⟩, q9⟩ := h2
    obtain ⟨k1, k2⟩ := rmK_ok q9
    exact FnTr.conv (FnTr.frozenN (halfK_le N _) (fun e e' x _ _ H hv => fz2 H hv) (remove_fn (t := treeOf g) (K := rmK N (treeOf g) a) (TOK.of h1 q1) q2 q3 q4 q5 q6 q7 q8 k1 k2)) ⟨VE.tree h1, VE.refl _, trivial⟩ trivial (VE.refl _) trivial
  · cases e
def oneN (n : Int) : Nod := ⟨true, n, List.replicate 32 0, List.replicate 32 0, List.replicate 32 0, []⟩
def oneT : Nat → Nod := fun _ => oneN 1
theorem PE.one (z : Nat) {ps : List SV} {g : Nat → List SV} (hz : psize ps = z) (hc : closedL ps = true) (h : PE ps (g 0)) : PE ps [.rows z 1 g] := by
  refine ⟨by simp [psize, psz, hz], fun e ys q => PR.consRows.2 ⟨ys, [], by rw [q.length]; omega, fun i hi => ?_, rfl, by simp⟩⟩
  obtain rfl : i = 0 := by omega
  have hl := q.length
  rw [Nat.zero_mul, List.drop_zero, List.take_of_length_le (by omega)]
  exact h.2 _ _ (q.closed hc)
noncomputable def oneE : Entry Tryd.prog := .val 35 _ Tryd.func35 (by decide) rfl false 0 (fun vs => match vs with
  | [] => some (.rol true 99 1 (tng oneT), [], true)
  | _ => none) fun vs v new e => by
  split at e
  · simp only [Option.some.injEq, Prod.mk.injEq] at e
    obtain ⟨rfl, rfl, _⟩ := e
    exact FnTr.frozenN (Nat.le_refl 1) (fun e e' x _ _ H hv => H x hv) (FnTr.conv (FnTr.of_callS noC_ok Tryd.func35 (n := 60) (v := .sl 0 0 0 99 1 1 true true) (h' := [.b [.bool true, .int .i64 1, .ints .u8 32 (List.replicate 32 0), .ints .u8 32 (List.replicate 32 0), .ints .u8 32 (List.replicate 32 0), .nl (.slice none 0 0)]]) (by kernel_rfl)) (show VEL [] [] from trivial) (show PEL [] [] from trivial) (VE.sl_rsl _ _ _ _ _ _) ⟨PE.one 99 rfl rfl (nodA_ve (n := oneN 1) rfl), trivial⟩)
  · cases e
noncomputable def alC : Ctr := mk (P := Tryd.prog) [oneE, addE, removeE, checkE true] [] fun _ => none
theorem alC_ok : CtrSound Tryd.prog alC := mk_sound _ InlOK.nil _ _
set_option maxRecDepth 100000 in
theorem al_run : (callS Tryd.prog alC 60 Tryd.f9 [] []).map (fun x => (x.1, x.2.2)) = some (.bool true, true) := by kernel_rfl
theorem alive_fn : FnTr Tryd.prog 9 [] [] (.bool true) [] := call0 alC_ok 60 Tryd.func9 al_run rfl rfl
end Go.Proofs.YtkcmlclomcidiaaDoor.Tr
end
