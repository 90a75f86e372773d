/- This file gives the contracts of functions that look at no tracked block of their caller, and contexts of contracts ('Entry', 'mk'). Conditions: the calls that they are made of. -/
import Derived.Test.YtailgcdcdhhpnaaSyN
namespace Go.Sy
open Go

mutual
/-- Does the value hold slices that may be elder? -/
def stale : SV → Bool
  | .ro f _ _ => !f
  | .rob f _ => !f
  | .rol _ _ _ _ => true
  | .rpi _ _ _ => true
  | .rpb _ _ _ => true
  | .rpl _ _ _ _ _ _ _ => true
  | .agg ps => staleL ps
  | .tup vs => staleL vs
  | .iface _ x => stale x
  | .fn _ a b => staleL a || staleL b
  | _ => false
def staleL : List SV → Bool
  | [] => false
  | x :: xs => stale x || staleL xs
end

section
variable {e e' : Env}
theorem RoI.fresh (hz : ∀ n x, e.n0 ≤ n → e.z n = some x → e'.z n = some x) (hn : e'.n0 ≤ e.n0) {k : IntKind} {xs : List Int} {v : Value} (g : RoI e true k xs v) : RoI e' true k xs v := by
  rcases g with h | ⟨n, o, cap, c, t, fr, h1, h2, h3, h4, h5, h6⟩
  · exact .inl h
  · exact .inr ⟨n, o, cap, c, t, fr, h1, hz _ _ (h3 rfl) h2, fun q => Nat.le_trans hn (h3 q), h4, h5, h6⟩
theorem RoB.fresh (hz : ∀ n x, e.n0 ≤ n → e.z n = some x → e'.z n = some x) (hn : e'.n0 ≤ e.n0) {xss : List (List Int)} {v : Value} (g : RoB e true xss v) : RoB e' true xss v := by
  rcases g with h | ⟨n, o, cap, c, t, fr, h1, h2, h3, h4, h5, h6⟩
  · exact .inl h
  · exact .inr ⟨n, o, cap, c, t, fr, h1, hz _ _ (h3 rfl) h2, fun q => Nat.le_trans hn (h3 q), fun i xs hi => (h4 i xs hi).imp fun y ⟨a, b⟩ => ⟨a, b.fresh hz hn⟩, h5, h6⟩
mutual
theorem VR.fresh (hr : e'.r = e.r) (hz : ∀ n x, e.n0 ≤ n → e.z n = some x → e'.z n = some x) (hn : e'.n0 ≤ e.n0) : ∀ {v : SV} {v' : Value}, stale v = false → VR e v v' → VR e' v v'
  | .bool _, _, _, h => h
  | .int _ _, _, _, h => h
  | .str _, _, _, h => h
  | .nl _, _, _, h => h
  | .ints _ _ _, _, _, h => h
  | .ptr b _ _, _, _, ⟨p, h1, h2⟩ => ⟨p, by rw [hr]; exact h1, h2⟩
  | .sl b _ _ _ _ _ _ _, _, _, h => by
    rcases h with h | ⟨p, c, a, h1, h2⟩
    · exact .inl h
    · exact .inr ⟨p, c, a, by rw [hr]; exact h1, h2⟩
  | .ro true _ _, _, _, h => RoI.fresh hz hn h
  | .ro false _ _, _, g, _ => by simp [stale] at g
  | .rob true _, _, _, h => RoB.fresh hz hn h
  | .rob false _, _, g, _ => by simp [stale] at g
  | .rol _ _ _ _, _, g, _ => by simp [stale] at g
  | .rpi _ _ _, _, g, _ => by simp [stale] at g
  | .rpb _ _ _, _, g, _ => by simp [stale] at g
  | .rpl _ _ _ _ _ _ _, _, g, _ => by simp [stale] at g
  | .agg ps, _, g, ⟨ys, h1, h2⟩ => ⟨ys, PR.fresh hr hz hn (by simpa [stale] using g) h1, h2⟩
  | .tup vs, _, g, ⟨ys, h1, h2⟩ => ⟨ys, LR.fresh hr hz hn (by simpa [stale] using g) h1, h2⟩
  | .iface _ x, _, g, ⟨y, h1, h2⟩ => ⟨y, VR.fresh hr hz hn (v := x) (by simpa [stale] using g) h1, h2⟩
  | .fn _ a b, _, g, ⟨ys, us, h1, h2, h3⟩ => by
    simp only [stale, Bool.or_eq_false_iff] at g
    exact ⟨ys, us, LR.fresh hr hz hn g.1 h1, LR.fresh hr hz hn g.2 h2, h3⟩
theorem LR.fresh (hr : e'.r = e.r) (hz : ∀ n x, e.n0 ≤ n → e.z n = some x → e'.z n = some x) (hn : e'.n0 ≤ e.n0) : ∀ {v : List SV} {v' : List Value}, staleL v = false → LR e v v' → LR e' v v'
  | [], _, _, h => h
  | x :: xs, _, g, ⟨y, zs, h1, h2, h3⟩ => by
    simp only [staleL, Bool.or_eq_false_iff] at g
    exact ⟨y, zs, VR.fresh hr hz hn g.1 h1, LR.fresh hr hz hn g.2 h2, h3⟩
theorem PR.fresh (hr : e'.r = e.r) (hz : ∀ n x, e.n0 ≤ n → e.z n = some x → e'.z n = some x) (hn : e'.n0 ≤ e.n0) : ∀ {v : List SV} {v' : List Value}, staleL v = false → PR e v v' → PR e' v v'
  | [], _, _, h => h
  | x :: xs, ys, g, h => by
    simp only [staleL, Bool.or_eq_false_iff] at g
    by_cases hx : notInts x = true
    · obtain ⟨y, zs, h1, h2, h3⟩ := (PR.cons hx).1 h
      exact (PR.cons hx).2 ⟨y, zs, VR.fresh hr hz hn g.1 h1, PR.fresh hr hz hn g.2 h2, h3⟩
    · cases x <;> simp [notInts] at hx
      obtain ⟨zs, h1, h2⟩ := h
      exact ⟨zs, PR.fresh hr hz hn g.2 h1, h2⟩
end
end

/-- Block numbers moved by j. -/
def shB (j : Nat) : Blk → Blk
  | .b ps => .b (renL (fun b => b + j) ps)
  | .g _ => .gap
def staleB : Blk → Bool
  | .b ps => staleL ps
  | .g _ => false

theorem placeH_get {h new : List Blk} {j : Nat} (hf : Free h j new.length) (i : Nat) : (placeH h j new)[i]? = if j ≤ i ∧ i < j + new.length then new[i - j]? else h[i]? := by
  unfold placeH
  split
  · rename_i hj
    rcases Nat.lt_or_ge i h.length with h1 | h1
    · rw [List.getElem?_append_left h1, if_neg (by omega)]
    · rw [List.getElem?_append_right h1]
      by_cases h2 : i < j + new.length
      · rw [if_pos ⟨by omega, h2⟩, hj]
      · rw [if_neg (by omega), List.getElem?_eq_none (by omega), List.getElem?_eq_none h1]
  · rename_i hj
    have hg := hf.resolve_left hj
    rw [fillH_get]
    by_cases h2 : j ≤ i ∧ i < j + new.length
    · have := (List.getElem?_eq_some_iff.1 (hg (i - j) (by omega))).1
      rw [if_pos ⟨h2.1, h2.2, by omega⟩, if_pos h2]
    · rw [if_neg (by omega), if_neg h2]
theorem placeH_length {h new : List Blk} {j : Nat} : h.length ≤ (placeH h j new).length := by
  unfold placeH; split
  · simp
  · rw [fillH_length]; exact Nat.le_refl _
theorem placeH_in {h new : List Blk} {j i : Nat} (hf : Free h j new.length) (hi : i < new.length) : j + i < (placeH h j new).length := by
  have := placeH_get hf (j + i)
  rw [if_pos (by omega), Nat.add_sub_cancel_left, List.getElem?_eq_getElem hi] at this
  exact (List.getElem?_eq_some_iff.1 this).1

section
variable {P : Program}

/-- A function that looks at no tracked block, called. -/
theorem pure_call {f : FuncId} {us : List SV} {v : SV} {new : List Blk} (g : FnTr P f us [] v new) {h : List Blk} {vs : List SV} {t : Bool} (hfz : frzL h vs = some (us, true, t)) (hst : t = true → stale v = false ∧ ∀ b ∈ new, staleB b = false)
    {B : Base} {e : Env} {w : World} {args : List Value} {j : Nat} (hl : LR e vs args) (R : Rel B e h w) (hj : Free h j new.length) :
    Calls P f ⟨args⟩ w fun en w' => ∃ v', en = .returned v' ∧ ∃ e2, VR e2 (ren (fun b => b + j) v) v' ∧ Rel B e2 (placeH h j (new.map (shB j))) w' ∧ EStep e e2 none := by
  let zz := if t = true then allZ w else e.z
  have hzz : ∀ n x, e.z n = some x → zz n = some x := fun n x hx => by
    show (if t = true then allZ w else e.z) n = some x
    by_cases ht : t = true
    · rw [if_pos ht]; obtain ⟨c, ty, fr⟩ := x; exact allZ_eq (R.zok n c ty fr hx)
    · rw [if_neg ht]; exact hx
  have hargs := frzL_sound (zz := zz) R hzz (T := t) (fun ht i p c ty _ _ hc => by show (if t = true then allZ w else e.z) p.n = _; rw [if_pos ht]; exact allZ_eq hc) w.heap.size hfz id hl
  let B0 : Base := ⟨w, env0 zz w.heap.size, 0, []⟩
  have R0 : Rel B0 (env0 zz w.heap.size) [] w := {
    os := rfl, tape := rfl, output := rfl, size := Nat.le_refl _, inj := (fun i j p q hi => by cases hi), dom := (fun i p hi => by cases hi), sep := (fun i p hi => by cases hi)
    zok := fun n c ty fr hx => by
      have hx' : (if t = true then allZ w else e.z) n = some (c, ty, fr) := hx
      by_cases ht : t = true
      · rw [if_pos ht] at hx'; exact allZ_heap hx'
      · rw [if_neg ht] at hx'; exact R.zok n c ty fr hx'
    zfresh := fun _ _ hx => .inl hx, news := fun _ _ hi => .inl hi, keepr := fun _ _ hi => hi, keepz := fun _ _ hx => hx, n0 := rfl, n0le := Nat.le_refl _
    blk := fun i ps hi => by simp at hi
    gap := fun i g hi => by simp at hi
    yi := (fun i j n hi => by cases hi), yb := (fun i n hi => by cases hi)
    old := fun _ _ _ _ => rfl, win := (fun i p hi => by cases hi), kr := (fun i p hi => by cases hi), kle := Nat.le_refl _, mks := (fun r hr => by cases hr), mnd := List.nodup_nil }
  refine (g B0 _ w args (Nat.le_refl _) hargs R0).mono ?_
  rintro en w' ⟨v', rfl, e', _, hv, S⟩
  have snew : ∀ i p, e'.r i = some p → w.heap.size ≤ p.n := fun i p hi => (S.news i p hi).resolve_left (fun x => by cases x)
  have sold : ∀ n, n < w.heap.size → w'.heap[n]? = w.heap[n]? := fun n hn => S.old n hn (fun i p hi => by cases hi) (by simp [B0])
  have hn0 : e'.n0 = w.heap.size := S.n0
  have hen : e.n0 ≤ w.heap.size := by have := R.n0; have := R.n0le; have := R.size; omega
  let z2 : Nat → Option (Array Value × TypeId × (Nat × Nat)) := fun n => if n < w.heap.size then e.z n else e'.z n
  let e2 : Env := ⟨fun i => if j ≤ i ∧ i < j + new.length then e'.r (i - j) else e.r i, z2, e.n0, e.m, e.y⟩
  have hr2n : ∀ i p, i < new.length → e'.r i = some p → e2.r (i + j) = some p := fun i p hi hp => by
    show (if j ≤ i + j ∧ i + j < j + new.length then e'.r (i + j - j) else e.r (i + j)) = some p
    rw [if_pos (by omega), Nat.add_sub_cancel]; exact hp
  have hr2o : ∀ i p, e.r i = some p → e2.r i = some p ∧ ¬ (j ≤ i ∧ i < j + new.length) := fun i p hp => by
    have hni : ¬ (j ≤ i ∧ i < j + new.length) := fun hi => by
      rcases hj with rfl | hg
      · have := R.dom i p hp; omega
      · have := (R.gap i _ (by have := hg (i - j) (by omega); rwa [show j + (i - j) = i by omega] at this)).1
        rw [hp] at this; cases this
    exact ⟨by show (if _ then _ else _) = some p; rw [if_neg hni]; exact hp, hni⟩
  have hr2c : ∀ i p, e2.r i = some p → (¬ (j ≤ i ∧ i < j + new.length) ∧ e.r i = some p) ∨ ((j ≤ i ∧ i < j + new.length) ∧ e'.r (i - j) = some p) := fun i p hp => by
    have hp' : (if j ≤ i ∧ i < j + new.length then e'.r (i - j) else e.r i) = some p := hp
    split at hp'
    · rename_i hc; exact .inr ⟨hc, hp'⟩
    · rename_i hc; exact .inl ⟨hc, hp'⟩
  have zold : ∀ n x, n < w.heap.size → e'.z n = some x → t = false → e.z n = some x := fun n x hn hx ht => by
    rcases S.zfresh n x hx with q | q
    · have q' : (if t = true then allZ w else e.z) n = some x := q
      rw [ht] at q'
      rw [if_neg (by simp)] at q'; exact q'
    · exact absurd q (by show ¬ w.heap.size ≤ n; omega)
  -- the environment between
  let e1 : Env := { e' with z := z2 }
  have toE1V : ∀ {u : SV} {u' : Value}, (t = true → stale u = false) → VR e' u u' → VR e1 u u' := fun {u u'} hs hu => by
    cases ht : t with
    | true => exact VR.fresh (e := e') (e' := e1) rfl (fun n x hn hx => by show (if n < w.heap.size then e.z n else e'.z n) = some x; rw [if_neg (by omega)]; exact hx) (Nat.le_refl _) (hs ht) hu
    | false => exact VR.mono' (e := e') (e' := e1) (fun n x hx => by
        show (if n < w.heap.size then e.z n else e'.z n) = some x
        by_cases hn : n < w.heap.size
        · rw [if_pos hn]; exact zold n x hn hx ht
        · rw [if_neg hn]; exact hx) (Nat.le_refl _) u u' (fun _ _ _ h => h) hu
  have toE1P : ∀ {u : List SV} {u' : List Value}, (t = true → staleL u = false) → PR e' u u' → PR e1 u u' := fun {u u'} hs hu => by
    cases ht : t with
    | true => exact PR.fresh (e := e') (e' := e1) rfl (fun n x hn hx => by show (if n < w.heap.size then e.z n else e'.z n) = some x; rw [if_neg (by omega)]; exact hx) (Nat.le_refl _) (hs ht) hu
    | false => exact PR.mono' (e := e') (e' := e1) (fun n x hx => by
        show (if n < w.heap.size then e.z n else e'.z n) = some x
        by_cases hn : n < w.heap.size
        · rw [if_pos hn]; exact zold n x hn hx ht
        · rw [if_neg hn]; exact hx) (Nat.le_refl _) u u' (fun _ _ _ h => h) hu
  have hle12 : e2.n0 ≤ e1.n0 := by show e.n0 ≤ e'.n0; omega
  have hdomS : ∀ i p, e'.r i = some p → i < new.length := S.dom
  have hle : Env.Le e e2 := ⟨fun i p hp => (hr2o i p hp).1, fun n x hx => by
    show (if n < w.heap.size then e.z n else e'.z n) = some x
    rw [if_pos (R.zlt hx)]; exact hx, Nat.le_refl _⟩
  refine ⟨v', rfl, e2, VR.ren (e := e1) (e' := e2) (fun _ _ h => h) hle12 v v' (fun i p _ hp => hr2n i p (hdomS i p hp) hp) (toE1V (fun ht => (hst ht).1) hv), ?_, EStep.of_le hle rfl _⟩
  have hfm : Free h j (new.map (shB j)).length := by simpa using hj
  exact {
    os := S.os.trans R.os, tape := S.tape.trans R.tape, output := S.output.trans R.output, size := Nat.le_trans R.size S.size
    inj := fun i i' p q hi hi' hpq => by
      rcases hr2c i p hi with ⟨c1, g1⟩ | ⟨c1, g1⟩ <;> rcases hr2c i' q hi' with ⟨c2, g2⟩ | ⟨c2, g2⟩
      · exact R.inj i i' p q g1 g2 hpq
      · have := R.lt g1; have := snew _ _ g2; omega
      · have := R.lt g2; have := snew _ _ g1; omega
      · have := S.inj _ _ p q g1 g2 hpq; omega
    dom := fun i p hi => by
      rcases hr2c i p hi with ⟨_, g1⟩ | ⟨c1, g1⟩
      · exact Nat.lt_of_lt_of_le (R.dom i p g1) placeH_length
      · have := placeH_in hfm (i := i - j) (by simp; omega)
        rwa [show j + (i - j) = i by omega] at this
    sep := fun i p hi => by
      show (if p.n < w.heap.size then e.z p.n else e'.z p.n) = none
      rcases hr2c i p hi with ⟨_, g1⟩ | ⟨_, g1⟩
      · rw [if_pos (R.lt g1)]; exact R.sep i p g1
      · rw [if_neg (by have := snew _ _ g1; omega)]; exact S.sep _ p g1
    zok := fun n c ty fr hx => by
      have hx' : (if n < w.heap.size then e.z n else e'.z n) = some (c, ty, fr) := hx
      split at hx'
      · rename_i hn; rw [sold n hn]; exact R.zok n c ty fr hx'
      · exact S.zok n c ty fr hx'
    zfresh := fun n x hx => by
      have hx' : (if n < w.heap.size then e.z n else e'.z n) = some x := hx
      split at hx'
      · exact R.zfresh n x hx'
      · exact .inr (by have := R.size; omega)
    news := fun i p hi => by
      rcases hr2c i p hi with ⟨_, g1⟩ | ⟨_, g1⟩
      · exact R.news i p g1
      · exact .inr (by have := R.size; have := snew _ _ g1; omega)
    keepr := fun i p hi => (hr2o i p (R.keepr i p hi)).1
    keepz := fun n x hx => hle.z n x (R.keepz n x hx)
    n0 := R.n0, n0le := R.n0le
    blk := fun i ps hi => by
      rw [placeH_get hfm, List.length_map] at hi
      split at hi
      · rename_i hc
        rw [List.getElem?_map] at hi
        cases hq : new[i - j]? with
        | none => rw [hq] at hi; cases hi
        | some b =>
          rw [hq] at hi
          simp only [Option.map_some, Option.some.injEq] at hi
          cases b with
          | g _ => cases hi
          | b qs =>
            simp only [shB, Blk.b.injEq] at hi
            subst hi
            have hre : e2.r i = e'.r (i - j) := by show (if _ then _ else _) = _; rw [if_pos hc]
            rcases S.blk (i - j) qs hq with ⟨g1, g2⟩ | ⟨p, o, g1, g2, c, ty, rfl, g3, g4, g5⟩
            · exact .inl ⟨by rw [psize_renL]; exact g1, by rw [hre]; exact g2⟩
            · refine .inr ⟨p, _, by rw [hre]; exact g1, g2, c, ty, rfl, g3, by rw [psize_renL]; exact g4, ?_⟩
              rw [psize_renL]
              refine PR.ren (e := e1) (e' := e2) (fun _ _ h => h) hle12 qs _ (fun b p _ hp => hr2n b p (hdomS b p hp) hp) (toE1P (fun ht => ?_) g5)
              have := (hst ht).2 _ (List.mem_of_getElem? hq)
              exact this
      · rename_i hc
        have hre : e2.r i = e.r i := by show (if _ then _ else _) = _; rw [if_neg hc]
        rcases R.blk i ps hi with ⟨g1, g2⟩ | ⟨p, o, g1, g2, g3⟩
        · exact .inl ⟨g1, by rw [hre]; exact g2⟩
        · exact .inr ⟨p, o, by rw [hre]; exact g1, by rw [sold p.n (R.lt g1)]; exact g2, g3.mono hle⟩
    gap := fun i g hi => by
      rw [placeH_get hfm, List.length_map] at hi
      split at hi
      · rename_i hc
        rw [List.getElem?_map] at hi
        cases hq : new[i - j]? with
        | none => rw [hq] at hi; cases hi
        | some b =>
          cases b with
          | g g' =>
            rw [hq] at hi
            simp only [Option.map_some, shB, Option.some.injEq, Blk.g.injEq] at hi
            subst hi
            refine ⟨?_, trivial⟩
            show (if j ≤ i ∧ i < j + new.length then e'.r (i - j) else e.r i) = none
            rw [if_pos hc]
            exact (S.gap _ _ hq).1
          | b qs => rw [hq] at hi; cases hi
      · rename_i hc
        refine ⟨?_, (R.gap i g hi).2.le (fun n o hn => by rw [sold n (Array.getElem?_eq_some_iff.1 hn).1]; exact hn) rfl hle⟩
        show (if j ≤ i ∧ i < j + new.length then e'.r (i - j) else e.r i) = none
        rw [if_neg hc]; exact (R.gap i g hi).1
    yi := R.yi, yb := R.yb
    old := fun n hn hno hnl => by rw [sold n (by have := R.size; omega)]; exact R.old n hn hno hnl
    win := fun i p hi => by
      obtain ⟨o, o', h1, h2, h3⟩ := R.win i p hi
      exact ⟨o, o', h1, by rw [sold p.n (R.lt (R.keepr i p hi))]; exact h2, h3⟩
    kr := R.kr
    kle := Nat.le_trans R.kle placeH_length
    mks := fun r hr => by
      have := R.mks r hr
      rw [sold r (Array.getElem?_eq_some_iff.1 this.1).1]; exact this
    mnd := R.mnd }

mutual
theorem frzS_none {h : List Blk} : ∀ {v u : SV} {p t : Bool}, frzS [] v = some (u, p, t) → frzS h v = some (u, p, t) ∧ t = false
  | .bool _, u, p, t, g => by simp only [frzS, Option.some.injEq, Prod.mk.injEq] at g ⊢; exact ⟨g, g.2.2.symm⟩
  | .int _ _, u, p, t, g => by simp only [frzS, Option.some.injEq, Prod.mk.injEq] at g ⊢; exact ⟨g, g.2.2.symm⟩
  | .str _, u, p, t, g => by simp only [frzS, Option.some.injEq, Prod.mk.injEq] at g ⊢; exact ⟨g, g.2.2.symm⟩
  | .nl _, u, p, t, g => by simp only [frzS, Option.some.injEq, Prod.mk.injEq] at g ⊢; exact ⟨g, g.2.2.symm⟩
  | .ints _ _ _, u, p, t, g => by simp only [frzS, Option.some.injEq, Prod.mk.injEq] at g ⊢; exact ⟨g, g.2.2.symm⟩
  | .ro _ _ _, u, p, t, g => by simp only [frzS, Option.some.injEq, Prod.mk.injEq] at g ⊢; exact ⟨g, g.2.2.symm⟩
  | .rob _ _, u, p, t, g => by simp only [frzS, Option.some.injEq, Prod.mk.injEq] at g ⊢; exact ⟨g, g.2.2.symm⟩
  | .sl b o i z len cap ex wh, u, p, t, g => by
    exfalso
    by_cases hz : z = 1
    · subst hz; simp [frzS, contS] at g
    · unfold frzS at g
      split at g <;> first | (rename_i h1; cases h1; done) | skip
      all_goals first | (rename_i h1; cases h1; exact hz rfl) | (cases g)
  | .agg ps, u, p, t, g => by
    simp only [frzS] at g ⊢
    split at g
    · rename_i l q t' hl
      obtain ⟨h1, h2⟩ := frzL_none (h := h) hl
      rw [h1]
      simp only [Option.some.injEq, Prod.mk.injEq] at g ⊢
      exact ⟨g, by rw [← g.2.2]; exact h2⟩
    · cases g
  | .iface ty x, u, p, t, g => by
    simp only [frzS] at g ⊢
    split at g
    · rename_i y q t' hl
      obtain ⟨h1, h2⟩ := frzS_none (h := h) hl
      rw [h1]
      simp only [Option.some.injEq, Prod.mk.injEq] at g ⊢
      exact ⟨g, by rw [← g.2.2]; exact h2⟩
    · cases g
  | .ptr _ _ _, u, p, t, g => by simp [frzS] at g
  | .rol _ _ _ _, u, p, t, g => by simp [frzS] at g
  | .rpi _ _ _, u, p, t, g => by simp [frzS] at g
  | .rpb _ _ _, u, p, t, g => by simp [frzS] at g
  | .rpl _ _ _ _ _ _ _, u, p, t, g => by simp [frzS] at g
  | .tup _, u, p, t, g => by simp [frzS] at g
  | .fn _ _ _, u, p, t, g => by simp [frzS] at g
theorem frzL_none {h : List Blk} : ∀ {v u : List SV} {p t : Bool}, frzL [] v = some (u, p, t) → frzL h v = some (u, p, t) ∧ t = false
  | [], u, p, t, g => by simp only [frzL, Option.some.injEq, Prod.mk.injEq] at g ⊢; exact ⟨g, g.2.2.symm⟩
  | x :: xs, u, p, t, g => by
    simp only [frzL] at g ⊢
    split at g
    · rename_i y p1 a l q b hx hl
      obtain ⟨h1, h2⟩ := frzS_none (h := h) hx
      obtain ⟨h3, h4⟩ := frzL_none (h := h) hl
      rw [h1, h3]
      simp only [Option.some.injEq, Prod.mk.injEq] at g ⊢
      exact ⟨g, by rw [← g.2.2, h2, h4]; rfl⟩
    · cases g
end
theorem frz_none {h : List Blk} {v u : List SV} {p t : Bool} (g : frzL [] v = some (u, p, t)) : frzL h v = some (u, p, t) ∧ t = false := frzL_none g

/-! ### Contexts of contracts -/
structure Entry (P : Program) where
  f : FuncId
  g : List SV → List Blk → Nat → Option (SV × List Blk × List Blk × Bool)
  pf : Nat
  nb : Nat
  ok : ∀ vs h j v h' new, g vs h j = some (v, h', new, true) → ∀ (B : Base) (e : Env) (w : World) (args : List Value), LR e vs args → Rel B e h w → Free h j new.length →
    CallOK P (.func f) ⟨args⟩ w fun v' w' => ∃ e', VR e' v v' ∧ Rel B e' (placeH h' j new) w' ∧ EStep e e' none
  pu : (pf = 0 → ∀ vs h j v h' new p, g vs h j = some (v, h', new, p) → h' = h ∧ ∀ h2, g vs h2 j = some (v, h2, new, p)) ∧ (pf = 1 → ∀ vs h j v h' new p, g vs h j = some (v, h', new, p) → h' = h ∧ ∀ h2, BLe h h2 → g vs h2 j = some (v, h2, new, p))

/-- A function from values to values (with new blocks). 'rd': its slices may lie in tracked blocks. -/
def Entry.val (f : FuncId) (fn : Func) (hf : P.funcs[f]? = some fn) (hn : (fn.name != "runtime.NumGoroutine") = true) (hb : fn.body.isSome = true) (rd : Bool) (nb : Nat) (F : List SV → Option (SV × List Blk × Bool))
    (ok : ∀ vs v new, F vs = some (v, new, true) → FnTr P f vs [] v new) : Entry P where
  f := f
  g := fun vs h j => match frzL (match rd with | true => h | false => []) vs with
    | some (us, p, t) => match F us with
      | some (v, new, q) => match t && (stale v || new.any staleB) with
        | true => none
        | false => some (ren (fun b => b + j) v, h, new.map (shB j), andT p q)
      | none => none
    | none => none
  pf := match rd with | true => 1 | false => 0
  nb := nb
  ok := by
    intro vs h j v h' new g B e w args hl R hj
    split at g
    · rename_i us p t hfz
      split at g
      · rename_i u nw q hF
        split at g
        · cases g
        · rename_i hs
          simp only [Option.some.injEq, Prod.mk.injEq, andT_iff] at g
          obtain ⟨rfl, rfl, rfl, rfl, rfl⟩ := g
          have hst : t = true → stale u = false ∧ ∀ b ∈ nw, staleB b = false := fun ht => by
            rw [ht, Bool.true_and, Bool.or_eq_false_iff] at hs
            refine ⟨hs.1, fun b hb => ?_⟩
            cases hq : staleB b with
            | false => rfl
            | true =>
              have : nw.any staleB = true := List.any_eq_true.2 ⟨b, hb, hq⟩
              rw [this] at hs; cases hs.2
          have hbn : fn.body ≠ none := fun q => by rw [q] at hb; cases hb
          refine .inr ⟨callFunc_enter hf (by simpa using hn) hbn _ w, ?_⟩
          cases rd with
          | true => exact pure_call (ok us u nw hF) hfz hst hl R (by simpa using hj)
          | false =>
            -- no tracked slice was read: the blocks do not matter
            have hfz' : frzL h vs = some (us, true, t) ∧ t = false := frz_none hfz
            exact pure_call (ok us u nw hF) hfz'.1 hst hl R (by simpa using hj)
      · cases g
    · cases g
  pu := by
    constructor
    · intro h0 vs h j v h' new p g
      cases rd with
      | true => cases h0
      | false =>
        simp only at g ⊢
        split at g
        · rename_i us p1 t hfz
          split at g
          · rename_i u nw q hF
            split at g
            · cases g
            · rename_i hs
              simp only [Option.some.injEq, Prod.mk.injEq] at g
              obtain ⟨rfl, rfl, rfl, rfl⟩ := g
              exact ⟨rfl, fun h2 => rfl⟩
          · cases g
        · cases g
    · intro _ vs h j v h' new p g
      split at g
      · rename_i us p1 t hfz
        split at g
        · rename_i u nw q hF
          split at g
          · cases g
          · rename_i hs
            simp only [Option.some.injEq, Prod.mk.injEq] at g
            obtain ⟨rfl, rfl, rfl, rfl⟩ := g
            refine ⟨rfl, fun h2 hle => ?_⟩
            cases rd with
            | false => rw [hfz]; simp only; rw [hF]; simp only; rw [hs]
            | true =>
              have hfz' := frzL_le hle hfz
              simp only
              rw [hfz']; simp only; rw [hF]; simp only; rw [hs]
        · cases g
      · cases g

/-- A function of the library that is an operation of the model. -/
def Entry.ext (f : FuncId) (F : List SV → Option (SV × Bool)) (ok : ∀ vs v, F vs = some (v, true) → ∀ (e : Env) (w : World) (args : List Value), LR e vs args → ∃ v', (callFunc f ⟨args⟩).run P w = .ok (.value v') w ∧ VR e v v') : Entry P where
  f := f
  g := fun vs h _ => match F vs with
    | some (v, p) => some (v, h, [], p)
    | none => none
  pf := 0
  nb := 0
  ok := by
    intro vs h j v h' new g B e w args hl R hj
    split at g
    · rename_i u p hF
      simp only [Option.some.injEq, Prod.mk.injEq] at g
      obtain ⟨rfl, rfl, rfl, rfl⟩ := g
      obtain ⟨v', h1, h2⟩ := ok vs u hF e w args hl
      exact .inl ⟨v', w, h1, e, h2, by rw [placeH_nil]; exact R, EStep.refl _ _⟩
    · cases g
  pu := by
    refine ⟨fun _ vs h j v h' new p g => ?_, fun h => by cases h⟩
    split at g
    · simp only [Option.some.injEq, Prod.mk.injEq] at g
      rename_i hF
      obtain ⟨rfl, rfl, rfl, rfl⟩ := g
      exact ⟨rfl, fun h2 => rfl⟩
    · cases g

/-- A context: contracts; functions that are taken in; tests that are decided ahead; appends that find room. -/
def mk (es : List (Entry P)) (inl : List (FuncId × Func)) (sym : Tmp → Option Bool := fun _ => none) (inp : Tmp → Bool := fun _ => false) : Ctr where
  sym := sym
  inp := inp
  g := fun f vs h j => match es.find? (fun e => e.f == f) with
    | some e => e.g vs h j
    | none => none
  inl := fun f => (inl.find? fun e => e.1 == f).map (·.2)
  pf := fun f => match inl.find? (fun e => e.1 == f) with
    | some _ => 2
    | none => match es.find? (fun e => e.f == f) with
      | some e => e.pf
      | none => 2
  nb := fun f => match es.find? (fun e => e.f == f) with
    | some e => e.nb
    | none => 0

/-- The functions that are taken in are the program's. -/
def InlOK (P : Program) (inl : List (FuncId × Func)) : Prop := ∀ x ∈ inl, P.funcs[x.1]? = some x.2 ∧ (x.2.name != "runtime.NumGoroutine") = true
theorem InlOK.nil : InlOK P [] := fun _ h => by cases h
theorem InlOK.cons {f : FuncId} {fn : Func} {l : List (FuncId × Func)} (hf : P.funcs[f]? = some fn) (hn : (fn.name != "runtime.NumGoroutine") = true) (h : InlOK P l) : InlOK P ((f, fn) :: l) := fun x hx => by
  rcases List.mem_cons.1 hx with rfl | hx
  · exact ⟨hf, hn⟩
  · exact h x hx

theorem mk_sound (es : List (Entry P)) {inl : List (FuncId × Func)} (hi : InlOK P inl) (sym : Tmp → Option Bool) (inp : Tmp → Bool) : CtrSound P (mk es inl sym inp) where
  calls := by
    intro f vs h j v h' new g
    simp only [mk] at g
    split at g
    · rename_i x hx
      have := List.find?_some hx
      simp only [beq_iff_eq] at this
      subst this
      exact x.ok vs h j v h' new g
    · cases g
  pure := by
    have key : ∀ (f : FuncId) (m : Nat), (mk es inl sym inp).pf f = m → m ≠ 2 → ∃ x : Entry P, es.find? (fun e => e.f == f) = some x ∧ x.pf = m := fun f m h hm => by
      simp only [mk] at h
      split at h
      · omega
      · split at h
        · rename_i x hx; exact ⟨x, hx, h⟩
        · omega
    refine ⟨fun f hf vs h j v h' new p g => ?_, fun f hf vs h j v h' new p g => ?_⟩
    · obtain ⟨x, hx, hp⟩ := key f 0 hf (by omega)
      simp only [fnG, mk, hx] at g ⊢
      exact x.pu.1 hp vs h j v h' new p g
    · obtain ⟨x, hx, hp⟩ := key f 1 hf (by omega)
      simp only [fnG, mk, hx] at g ⊢
      exact x.pu.2 hp vs h j v h' new p g
  inl := by
    intro f fn g
    simp only [mk] at g ⊢
    obtain ⟨x, hx, rfl⟩ := Option.map_eq_some_iff.1 g
    have h1 := List.find?_some hx
    simp only [beq_iff_eq] at h1
    subst h1
    obtain ⟨h2, h3⟩ := hi x (List.mem_of_find?_eq_some hx)
    refine ⟨h2, by simpa using h3, ?_⟩
    rw [hx]; simp
end
end Go.Sy
