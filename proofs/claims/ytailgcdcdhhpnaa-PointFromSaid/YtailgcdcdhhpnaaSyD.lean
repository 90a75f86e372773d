/- This file proves stores, new blocks, arithmetic and comparing sound. Conditions: those of the interpreter's own tests. -/
import Derived.Test.YtailgcdcdhhpnaaSyC
namespace Go.Sy
open Go

section
variable {P : Program} {e : Env} {B : Base} {h : List Blk} {w : World}

/-! ### Stores -/
/-- Cells stored in the window of a tracked block. -/
theorem Rel.storeAt (R : Rel B e h w) {b : Nat} {p : Pl} {ps : List SV} {c : Array Value} {t : TypeId} (hp : e.r b = some p) (hc : w.heap[p.n]? = some (.cells c t (0, 0))) (hsz : p.base + p.size ≤ c.size) (hpsz : psize ps ≤ p.size)
    (q : Nat) (vs : List Value) (ps' : List SV) (hq : q + vs.length ≤ psize ps) (hps : psize ps' = psize ps) (hone : ∀ v ∈ vs, v.oneCell' = true)
    (hpr' : PR e ps' (((c.toList.drop p.base).take (psize ps)).take q ++ vs ++ ((c.toList.drop p.base).take (psize ps)).drop (q + vs.length))) :
    ∃ w', (storeCells ⟨p.n, p.base + q, none⟩ vs 0).run P w = .ok () w' ∧ Rel B e (h.set b (.b ps')) w' := by
  have hst := run_storeCells_at P p.n (p.base + q) t vs 0 c w hc (by omega) hone
  simp only [Nat.add_zero] at hst
  refine ⟨_, hst, R.setBlock hp hc ?_ ?_ (by omega) ?_⟩
  · simp; omega
  · intro j hj
    simp only [List.getElem?_toArray]
    rcases Nat.lt_or_ge j (p.base + q) with h1 | h1
    · rw [List.append_assoc, List.getElem?_append_left (by simp; omega), List.getElem?_take, if_pos h1]; simp
    · have h2 : p.base + q + vs.length ≤ j := by omega
      rw [List.getElem?_append_right (by simp; omega), List.getElem?_drop]
      have : p.base + q + vs.length + (j - (List.take (p.base + q) c.toList ++ vs).length) = j := by simp; omega
      rw [this]; simp
  · rw [hps]
    have : (List.drop p.base (c.toList.take (p.base + q) ++ vs ++ c.toList.drop (p.base + q + vs.length))).take (psize ps) = ((c.toList.drop p.base).take (psize ps)).take q ++ vs ++ ((c.toList.drop p.base).take (psize ps)).drop (q + vs.length) := by
      apply List.ext_getElem?
      intro j
      simp only [List.getElem?_take, List.getElem?_drop, List.getElem?_append, List.length_append, List.length_take, List.length_drop, Array.length_toList]
      by_cases h1 : j < psize ps
      · rw [if_pos h1]
        by_cases h2 : j < q
        · simp only [show p.base + j < min (p.base + q) c.size + vs.length from by omega, show p.base + j < min (p.base + q) c.size from by omega, show p.base + j < p.base + q from by omega, show j < min q (min (psize ps) (c.size - p.base)) + vs.length from by omega, show j < min q (min (psize ps) (c.size - p.base)) from by omega, h2, h1, if_true]
        · by_cases h3 : j < q + vs.length
          · simp only [show p.base + j < min (p.base + q) c.size + vs.length from by omega, show ¬ p.base + j < min (p.base + q) c.size from by omega, show j < min q (min (psize ps) (c.size - p.base)) + vs.length from by omega, show ¬ j < min q (min (psize ps) (c.size - p.base)) from by omega, if_true, if_false]
            congr 1; omega
          · simp only [show ¬ p.base + j < min (p.base + q) c.size + vs.length from by omega, show ¬ j < min q (min (psize ps) (c.size - p.base)) + vs.length from by omega, if_false]
            rw [if_pos (by omega)]
            congr 1; omega
      · rw [if_neg h1]
        simp only [show ¬ j < min q (min (psize ps) (c.size - p.base)) + vs.length from by omega, if_false]
        rw [if_neg (by omega)]
    simp only []
    rw [this]; exact hpr'

theorem storeS_sound (R : Rel B e h w) {ty : TypeId} {a x : SV} {a' x' : Value} {h' : List Blk} (g : storeS P ty h x a = some (h', true)) (ha : VR e a a') (hx : VR e x x') :
    ∃ ad w', a' = .pointer (some ad) ∧ (storeVar ty ad x').run P w = .ok () w' ∧ Rel B e h' w' := by
  unfold storeS at g
  split at g
  · rename_i b o i
    obtain ⟨p, hp, rfl⟩ := ha
    split at g
    · rename_i ps hb
      obtain ⟨c, t, hc, hsz, hpsz, hpr⟩ := R.block hp hb
      have hcl : ((c.toList.drop p.base).take (psize ps)).length = psize ps := by simp; omega
      have key := fun q vs ps' => R.storeAt (P := P) (ps := ps) hp hc hsz hpsz q vs ps'
      split at g
      · rename_i hagg
        split at g
        · rename_i q n hn
          split at g
          · rename_i hqn
            simp only [Bool.and_eq_true, decide_eq_true_eq] at hqn
            obtain ⟨hqn, hone⟩ := hqn
            obtain ⟨ps', hput, h2⟩ := Option.map_eq_some_iff.1 g
            simp only [Prod.mk.injEq, and_true] at h2
            subst h2
            obtain ⟨ys, hys, rfl⟩ := hx.agg_of
            have hyl := hys.length
            obtain ⟨h3, h4⟩ := putP_sound hput hpr hys
            rw [hcl] at h4
            have hps' : psize ps' = psize ps := by
              have := h3.length
              simp at this; omega
            obtain ⟨w', hrun, R'⟩ := key o ys ps' (by omega) hps' (cells_oneCell hys hone) (by rw [hyl, hqn]; exact h3)
            refine ⟨_, w', rfl, ?_, R'⟩
            have hsz' : (Value.agg ⟨ys⟩).cells.size = n := by show ys.length = n; omega
            unfold storeVar
            rw [Sem.run_bind, szOf_run hn w]
            simp only [Result.andThen, hsz', ne_eq, not_true, if_false]
            exact hrun
          · cases g
        · cases g
      · rename_i hagg
        split at g
        · rename_i hc1
          simp only [Bool.and_eq_true, beq_iff_eq] at hc1
          obtain ⟨⟨ps', q⟩, hset, h2⟩ := Option.map_eq_some_iff.1 g
          simp only [Prod.mk.injEq] at h2
          obtain ⟨rfl, rfl⟩ := h2
          obtain ⟨h3, h4⟩ := setP_sound hset hpr hx
          rw [hcl] at h4
          have hps' : psize ps' = psize ps := by
            have := h3.length
            simp at this; omega
          have hcx : x'.cells.toList = [x'] := by
            have := hx.oneCell hc1.1
            cases x' <;> first | rfl | cases this
          obtain ⟨w', hrun, R'⟩ := key (o + i) [x'] ps' (by simp; omega) hps' (fun v hv => by simp at hv; subst hv; exact hx.oneCell hc1.1) (by
            rw [List.set_eq_take_append_cons_drop] at h3
            rw [if_pos (by rw [hcl]; exact h4)] at h3
            simpa using h3)
          refine ⟨_, w', rfl, ?_, R'⟩
          have hsz' : x'.cells.size = 1 := by rw [← Array.length_toList, hcx]; rfl
          unfold storeVar
          rw [Sem.run_bind, szOf_run hc1.2 w]
          simp only [Result.andThen, hsz', ne_eq, not_true, if_false]
          rw [hcx]
          exact hrun
        · cases g
      · cases g
    · cases g
  · cases g

/-! ### New blocks -/
/-- One number more is mapped. -/
def putR (e : Env) (j : Nat) (p : Pl) : Env := { e with r := fun i => if i = j then some p else e.r i }
theorem putR_le {j : Nat} {p : Pl} (hj : e.r j = none) : Env.Le e (putR e j p) := ⟨fun i b hi => by
  show (if i = j then some p else e.r i) = some b
  rw [if_neg (fun q => by subst q; rw [hj] at hi; cases hi)]
  exact hi, fun _ _ h => h, Nat.le_refl _⟩
theorem putR_self {j : Nat} {p : Pl} : (putR e j p).r j = some p := if_pos rfl
theorem putR_cases {j i : Nat} {p b : Pl} (hi : (putR e j p).r i = some b) : (i ≠ j ∧ e.r i = some b) ∨ (i = j ∧ b = p) := by
  simp only [putR] at hi
  split at hi
  · rename_i h; cases hi; exact .inr ⟨h, rfl⟩
  · rename_i h; exact .inl ⟨h, hi⟩

/-- The numbers from j on are free. -/
def Free (h : List Blk) (j : Nat) (n : Nat) : Prop := j = h.length ∨ ∀ i, i < n → h[j + i]? = some .gap

theorem BR.mono {e' : Env} (hle : Env.Le e e') {p : Pl} {ps : List SV} {o : Obj} (g : BR e p ps o) : BR e' p ps o := by
  obtain ⟨c, t, h1, h2, h3, h4⟩ := g
  exact ⟨c, t, h1, h2, h3, h4.mono hle⟩

theorem Rel.drawn (R : Rel B e h w) (d : Nat) : Rel B e h { w with drawn := d } :=
  { os := R.os, tape := R.tape, output := R.output, size := R.size, inj := R.inj, dom := R.dom, sep := R.sep, zok := R.zok, zfresh := R.zfresh, news := R.news, keepr := R.keepr, keepz := R.keepz, n0 := R.n0, n0le := R.n0le,
    blk := R.blk, gap := R.gap, yi := R.yi, yb := R.yb, old := R.old, win := R.win, kr := R.kr, kle := R.kle, mks := R.mks, mnd := R.mnd }

theorem Rel.free (R : Rel B e h w) {j : Nat} (hj : j = h.length ∨ h[j]? = some .gap) : e.r j = none := by
  rcases hj with rfl | hj
  · cases hq : e.r h.length with
    | none => rfl
    | some p => have := R.dom _ p hq; omega
  · exact (R.gap j _ hj).1

theorem Rel.new (R : Rel B e h w) {h' : List Blk} {ps : List SV} {ys : List Value} {t : TypeId} {j : Nat} (hl : PR e ps (ys.take (psize ps))) (hle : psize ps ≤ ys.length)
    (hj : e.r j = none) (h1 : h'[j]? = some (.b ps)) (h2 : ∀ i, i ≠ j → h'[i]? = h[i]?) (hlen : h.length ≤ h'.length) :
    Rel B (putR e j ⟨w.heap.size, 0, ys.length⟩) h' (w.alloc (.cells ⟨ys⟩ t)) := by
  have hold : ∀ n, n < w.heap.size → (w.alloc (.cells ⟨ys⟩ t)).heap[n]? = w.heap[n]? := fun n hn => heap_alloc_old w _ n hn
  exact {
    os := R.os, tape := R.tape, output := R.output
    size := by have := R.size; rw [World.size_alloc]; omega
    inj := fun i i' p q hi hi' g => by
      rcases putR_cases hi with ⟨_, g1⟩ | ⟨g1, g1'⟩ <;> rcases putR_cases hi' with ⟨_, g2⟩ | ⟨g2, g2'⟩
      · exact R.inj i i' p q g1 g2 g
      · have := R.lt g1; subst g2'; simp at g; omega
      · have := R.lt g2; subst g1'; simp at g; omega
      · omega
    dom := fun i p hi => by
      rcases putR_cases hi with ⟨_, g⟩ | ⟨g, _⟩
      · have := R.dom i p g; omega
      · subst g; exact (List.getElem?_eq_some_iff.1 h1).1
    sep := fun i p hi => by
      rcases putR_cases hi with ⟨_, g⟩ | ⟨_, g⟩
      · exact R.sep i p g
      · subst g
        show e.z w.heap.size = none
        cases hq : e.z w.heap.size with
        | none => rfl
        | some x => have := R.zlt hq; omega
    zok := fun n c tt fr hz => by rw [hold n (R.zlt hz)]; exact R.zok n c tt fr hz
    zfresh := R.zfresh
    news := fun i p hi => by
      rcases putR_cases hi with ⟨_, g⟩ | ⟨_, g⟩
      · exact R.news i p g
      · subst g; exact .inr R.size
    keepr := fun i p hi => (putR_le hj).r i p (R.keepr i p hi)
    keepz := R.keepz, n0 := R.n0, n0le := R.n0le
    blk := fun i qs hi => by
      by_cases hij : i = j
      · subst hij
        rw [h1] at hi
        cases hi
        exact .inr ⟨⟨w.heap.size, 0, ys.length⟩, _, putR_self, heap_alloc_new w _, ⟨ys⟩, t, rfl, by simp, hle, by simpa using hl.mono (putR_le hj)⟩
      · rw [h2 i hij] at hi
        rcases R.blk i qs hi with ⟨g1, g2⟩ | ⟨q, o, hq, ho, hbr⟩
        · exact .inl ⟨g1, by simp only [putR]; rw [if_neg hij]; exact g2⟩
        · exact .inr ⟨q, o, (putR_le hj).r i q hq, by rw [hold q.n (R.lt hq)]; exact ho, hbr.mono (putR_le hj)⟩
    gap := fun i g hi => by
      by_cases hij : i = j
      · subst hij; rw [h1] at hi; cases hi
      · rw [h2 i hij] at hi
        refine ⟨by simp only [putR]; rw [if_neg hij]; exact (R.gap i g hi).1, (R.gap i g hi).2.le (fun n o hn => ?_) rfl (putR_le hj)⟩
        rw [hold n (Array.getElem?_eq_some_iff.1 hn).1]; exact hn
    yi := R.yi, yb := R.yb
    old := fun n hn hno hnl => by rw [hold n (by have := R.size; omega)]; exact R.old n hn hno hnl
    win := fun i q hq => by
      obtain ⟨o, o', ho, ho', hso⟩ := R.win i q hq
      exact ⟨o, o', ho, by rw [hold q.n (R.lt (R.keepr i q hq))]; exact ho', hso⟩
    kr := R.kr
    kle := by have := R.kle; omega
    mks := fun r hr => by
      have := R.mks r hr
      rw [hold r (Array.getElem?_eq_some_iff.1 this.1).1]; exact this
    mnd := R.mnd }

/-- One new block in a free place. -/
theorem Rel.make (R : Rel B e h w) {ps : List SV} {ys : List Value} {t : TypeId} {j : Nat} (hf : Free h j 1) (hl : PR e ps (ys.take (psize ps))) (hle : psize ps ≤ ys.length) :
    Rel B (putR e j ⟨w.heap.size, 0, ys.length⟩) (placeH h j [.b ps]) (w.alloc (.cells ⟨ys⟩ t)) := by
  have hj : j = h.length ∨ h[j]? = some .gap := hf.imp id fun g => by simpa using g 0 (by omega)
  have hfree := R.free hj
  unfold placeH
  by_cases hjl : j = h.length
  · rw [if_pos hjl]
    refine R.new hl hle hfree (by rw [hjl]; simp) (fun i hi => ?_) (by simp)
    rcases Nat.lt_or_ge i h.length with h1 | h1
    · rw [List.getElem?_append_left h1]
    · rw [List.getElem?_append_right h1, List.getElem?_eq_none (l := h) h1, List.getElem?_eq_none (by simp; omega)]
  · rw [if_neg hjl]
    have hg := hj.resolve_left hjl
    have hlt := (List.getElem?_eq_some_iff.1 hg).1
    exact R.new hl hle hfree (List.getElem?_set_self hlt) (fun i hi => List.getElem?_set_ne (Ne.symm hi)) (by simp [fillH])

/-- A block of no cells need not lie anywhere. -/
theorem Rel.nothing (R : Rel B e h w) {ps : List SV} {j : Nat} (hf : Free h j 1) (hps : psize ps = 0) : Rel B e (placeH h j [.b ps]) w := by
  have hj : j = h.length ∨ h[j]? = some .gap := hf.imp id fun g => by simpa using g 0 (by omega)
  have hfree := R.free hj
  have key : ∀ h' : List Blk, h'[j]? = some (.b ps) → (∀ i, i ≠ j → h'[i]? = h[i]?) → h.length ≤ h'.length → Rel B e h' w := fun h' h1 h2 h3 =>
    { os := R.os, tape := R.tape, output := R.output, size := R.size, inj := R.inj, dom := fun i p hi => by have := R.dom i p hi; omega, sep := R.sep, zok := R.zok, zfresh := R.zfresh, news := R.news, keepr := R.keepr, keepz := R.keepz, n0 := R.n0, n0le := R.n0le,
      blk := fun i qs hi => by
        by_cases hij : i = j
        · subst hij; rw [h1] at hi; cases hi; exact .inl ⟨hps, hfree⟩
        · rw [h2 i hij] at hi; exact R.blk i qs hi
      gap := fun i g hi => by
        by_cases hij : i = j
        · subst hij; rw [h1] at hi; cases hi
        · rw [h2 i hij] at hi; exact R.gap i g hi
      yi := R.yi, yb := R.yb, old := R.old, win := R.win, kr := R.kr, kle := by have := R.kle; omega, mks := R.mks, mnd := R.mnd }
  unfold placeH
  by_cases hjl : j = h.length
  · rw [if_pos hjl]
    refine key _ (by rw [hjl]; simp) (fun i hi => ?_) (by simp)
    rcases Nat.lt_or_ge i h.length with h1 | h1
    · rw [List.getElem?_append_left h1]
    · rw [List.getElem?_append_right h1, List.getElem?_eq_none (l := h) h1, List.getElem?_eq_none (by simp; omega)]
  · rw [if_neg hjl]
    have hg := hj.resolve_left hjl
    have hlt := (List.getElem?_eq_some_iff.1 hg).1
    exact key _ (List.getElem?_set_self hlt) (fun i hi => List.getElem?_set_ne (Ne.symm hi)) (by simp [fillH])

/-! ### Integers -/
theorem bits_run (op : BinOp) (k : IntKind) (a b : Int) (w : World) (v : SV) (T : TypeId) (x y : Operand) (h : binI op k a k b = some (v, true)) (ho : op ≠ .shl) (ho' : op ≠ .shr) :
    ∃ v', (do eqGuard op T x y (.int k a) (.int k b); binOp op T (.int k a) (.int k b) : Sem Value).run P w = .ok v' w ∧ VR e v v' := by
  have hg : (eqGuard op T x y (.int k a) (.int k b)).run P w = .ok () w := by
    unfold eqGuard; split <;> simp
  rw [Sem.run_bind, hg]
  simp only [Result.andThen]
  cases op <;> simp [binI] at h <;> first | contradiction | skip
  all_goals (try (obtain ⟨rfl, h⟩ := h))
  all_goals (try subst h)
  all_goals (simp [binOp, Op.intArith, Op.intBits, Op.intCmp, Op.intDiv, andI, orI, xorI, andNotI, bitsI, VR, *, -Sem.run_bind])

theorem binI_sound {op : BinOp} {k k' : IntKind} {n m : Int} {v : SV} (h : binI op k n k' m = some (v, true)) (T : TypeId) (x y : Operand) (w : World) :
    ∃ v', (do eqGuard op T x y (.int k n) (.int k' m); binOp op T (.int k n) (.int k' m) : Sem Value).run P w = .ok v' w ∧ VR e v v' := by
  by_cases h1 : op = .shl
  · subst h1
    simp only [binI, Option.some.injEq, Prod.mk.injEq, decide_eq_true_eq] at h
    obtain ⟨rfl, h⟩ := h
    refine ⟨_, ?_, rfl⟩
    have : ¬ m < 0 := by omega
    simp [eqGuard, binOp, Op.shift, this, shlI]
  by_cases h2 : op = .shr
  · subst h2
    simp only [binI, Option.some.injEq, Prod.mk.injEq, decide_eq_true_eq] at h
    obtain ⟨rfl, h⟩ := h
    refine ⟨_, ?_, rfl⟩
    have : ¬ m < 0 := by omega
    simp [eqGuard, binOp, Op.shift, this, shrI]
  have hk : k = k' := by
    by_cases hk : k = k'
    · exact hk
    · cases op <;> simp [binI, hk] at h <;> contradiction
  subst hk
  exact bits_run op k n m w v T x y h h1 h2

/-! ### Comparing aggregates of integers -/
def aggI (k : IntKind) (xs : List Int) : Value := .agg ⟨intsV k xs⟩
/-- A value of a type whose cells are integers of one kind. -/
def flatV (P : Program) (t : TypeId) (k : IntKind) (l : List Int) : Value := match aggB P t with
  | some false => .int k (l.getD 0 0)
  | _ => aggI k l

theorem part_flat {e : TypeId} {k : IntKind} {m o : Nat} {l : List Int} (hs : szOf P e = some m) (hk : (P.underlying e).isSome = true) (hm : (aggB P e = some false → m = 1)) (h : o + m ≤ l.length) (w : World) :
    (part e ⟨intsV k l⟩ o).run P w = .ok (flatV P e k ((l.drop o).take m)) w := by
  cases hb : aggB P e with
  | none => simp [aggB] at hb; simp [hb] at hk
  | some b =>
    cases b with
    | true => simp [part, aggB_run hb, szOf_run hs, flatV, hb, aggI, intsV, List.extract_eq_take_drop, List.map_take, List.map_drop]
    | false =>
      have := hm hb
      subst this
      have ho : o < l.length := by omega
      simp [part, aggB_run hb, flatV, hb, intsV, List.getElem?_eq_getElem ho, List.getD]

/-- Element by element. -/
def eqParts (d : Nat) (e : TypeId) (n : Nat) (xs ys : Array Value) : Nat → Nat → Sem Bool
  | 0, _ => pure true
  | c + 1, i => do
    let a ← part e xs (i * n)
    let b ← part e ys (i * n)
    let r ← Op.equalIn d e a b
    if (!r) = true then pure false else eqParts d e n xs ys c (i + 1)

theorem run_equalIn_array (w : World) (d : Nat) (t e : TypeId) (len n : Nat) (xs ys : Array Value) (ht : P.underlying t = some (.array len e)) (hs : szOf P e = some n) :
    (Op.equalIn (d + 1) t (.agg xs) (.agg ys)).run P w = (eqParts d e n xs ys len 0).run P w := by
  simp only [Op.equalIn, Sem.run_bind, run_underlying ht, Result.andThen_ok, szOf_run hs, Std.Legacy.Range.forIn_eq_forIn_range']
  have hz : Std.Legacy.Range.size [:len] = len := by simp [Std.Legacy.Range.size]
  rw [hz]
  clear ht hz
  generalize 0 = i
  induction len generalizing w i with
  | zero => simp [eqParts]
  | succ len ih =>
    simp only [List.range'_succ, List.forIn_cons, eqParts, Sem.run_bind, Sem.run_ite]
    generalize (part e xs (i * n)).run P w = r1
    cases r1 with
    | ok a w1 =>
      simp only [Result.andThen_ok]
      generalize (part e ys (i * n)).run P w1 = r2
      cases r2 with
      | ok b w2 =>
        simp only [Result.andThen_ok]
        generalize (Op.equalIn d e a b).run P w2 = r3
        cases r3 with
        | ok r w3 =>
          cases r
          · simp only [Result.andThen_ok, Bool.not_false, if_true, Sem.run_pure]
          · simp only [Result.andThen_ok, Bool.not_true, Bool.false_eq_true, if_false, Sem.run_pure]
            exact ih w3 (i + 1)
        | halt x w3 => simp [Result.andThen]
      | halt x w2 => simp [Result.andThen]
    | halt x w1 => simp [Result.andThen]

theorem flatK_agg : ∀ {d : Nat} {t : TypeId} {k : IntKind} {n : Nat}, flatK P d t = some (k, n) → (P.underlying t).isSome = true ∧ (aggB P t = some false → n = 1)
  | 0, t, k, n, h => by simp [flatK] at h
  | d + 1, t, k, n, h => by
    unfold flatK at h
    split at h
    · rename_i k' hu; cases h; exact ⟨by simp [hu], fun _ => rfl⟩
    · rename_i hu; exact ⟨by simp [hu], fun hq => by simp [aggB, hu] at hq⟩
    · rename_i hu; exact ⟨by simp [hu], fun hq => by simp [aggB, hu] at hq⟩
    · cases h

theorem decide_split (l m : List Int) (n : Nat) : decide (l = m) = (decide (l.take n = m.take n) && decide (l.drop n = m.drop n)) := by
  rw [Bool.eq_iff_iff]
  simp only [Bool.and_eq_true, decide_eq_true_eq]
  constructor
  · rintro rfl; exact ⟨rfl, rfl⟩
  · rintro ⟨h1, h2⟩; rw [← List.take_append_drop n l, ← List.take_append_drop n m, h1, h2]

/-- What the comparing of a part comes to. -/
def EqAt (P : Program) (d : Nat) (t : TypeId) (k : IntKind) (n : Nat) : Prop :=
  ∀ (d' : Nat), d ≤ d' → ∀ (l m : List Int), l.length = n → m.length = n → ∀ w : World, (Op.equalIn d' t (flatV P t k l) (flatV P t k m)).run P w = .ok (decide (l = m)) w

theorem eqParts_flat {d d' : Nat} {e : TypeId} {k : IntKind} {z : Nat} (hd : d ≤ d') (hs : szOf P e = some z) (hf : flatK P d e = some (k, z)) (ih : EqAt P d e k z) {l m : List Int} (hlm : l.length = m.length) (w : World) : ∀ (c i : Nat), (i + c) * z = l.length →
    (eqParts d' e z ⟨intsV k l⟩ ⟨intsV k m⟩ c i).run P w = .ok (decide (l.drop (i * z) = m.drop (i * z))) w
  | 0, i, h => by
    have h1 : l.drop (i * z) = [] := List.drop_eq_nil_of_le (by simp at h; omega)
    have h2 : m.drop (i * z) = [] := List.drop_eq_nil_of_le (by simp at h; omega)
    simp [eqParts, h1, h2]
  | c + 1, i, h => by
    obtain ⟨hk, hone⟩ := flatK_agg hf
    have hfit : i * z + z ≤ l.length := by
      rw [← h, Nat.add_mul, Nat.add_mul]; omega
    have hsucc : (i + 1) * z = i * z + z := by rw [Nat.add_mul]; omega
    have p1 := part_flat (k := k) hs hk hone hfit w
    have p2 := part_flat (k := k) hs hk hone (l := m) (o := i * z) (by omega) w
    have q := ih d' hd ((l.drop (i * z)).take z) ((m.drop (i * z)).take z) (by simp; omega) (by simp; omega) w
    have hrec := eqParts_flat hd hs hf ih hlm w c (i + 1) (by rw [← h]; congr 1; omega)
    simp only [eqParts, Sem.run_bind, p1, p2, q, Result.andThen_ok, Sem.run_ite, hrec, hsucc]
    rw [decide_split (l.drop (i * z)) (m.drop (i * z)) z, List.drop_drop, List.drop_drop]
    cases decide ((l.drop (i * z)).take z = (m.drop (i * z)).take z) <;> simp

theorem eqFields_flat {d d' : Nat} {k : IntKind} (hd : d ≤ d') (ih : ∀ (t : TypeId) (n : Nat), flatK P d t = some (k, n) → EqAt P d t k n) {l m : List Int} (hlm : l.length = m.length) (w : World) : ∀ (fs : List Field) (a : Nat) (k' : IntKind), flatFs P (fun t => flatK P d t) k a fs = some (k', l.length) →
    k' = k ∧ a ≤ l.length ∧ (Op.eqFields d' ⟨intsV k l⟩ ⟨intsV k m⟩ fs).run P w = .ok (decide (l.drop a = m.drop a)) w
  | [], a, k', h => by
    simp only [flatFs, Option.some.injEq, Prod.mk.injEq] at h
    obtain ⟨rfl, rfl⟩ := h
    refine ⟨rfl, Nat.le_refl _, ?_⟩
    have h1 : l.drop l.length = [] := List.drop_eq_nil_of_le (Nat.le_refl _)
    have h2 : m.drop l.length = [] := List.drop_eq_nil_of_le (by omega)
    simp [Op.eqFields, h1, h2]
  | f :: fs, a, k', h => by
    simp only [flatFs] at h
    split at h
    · rename_i k2 z hf
      split at h
      · rename_i hc
        obtain ⟨rfl, hname, hoff, hs⟩ := hc
        obtain ⟨hkk, hle, hrec⟩ := eqFields_flat hd ih hlm w fs (a + z) k' h
        obtain ⟨hk, hone⟩ := flatK_agg hf
        have p1 := part_flat hs hk hone (l := l) (o := a) (k := k2) (by omega) w
        have p2 := part_flat hs hk hone (l := m) (o := a) (k := k2) (by omega) w
        have q := ih f.type z hf d' hd ((l.drop a).take z) ((m.drop a).take z) (by simp; omega) (by simp; omega) w
        refine ⟨hkk, by omega, ?_⟩
        simp only [Op.eqFields, hname, ne_eq, not_false_eq_true, if_true, hoff, Sem.run_bind, p1, p2, q, Result.andThen_ok, Sem.run_ite, hrec]
        rw [decide_split (l.drop a) (m.drop a) z, List.drop_drop, List.drop_drop]
        cases decide ((l.drop a).take z = (m.drop a).take z) <;> simp
      · cases h
    · cases h

theorem equal_flat : ∀ (d : Nat) (t : TypeId) (k : IntKind) (n : Nat), flatK P d t = some (k, n) → EqAt P d t k n
  | 0, t, k, n, h => by simp [flatK] at h
  | d + 1, t, k, n, h => by
    intro d' hd l m hl hm w
    obtain ⟨d', rfl⟩ : ∃ e, d' = e + 1 := ⟨d' - 1, by omega⟩
    unfold flatK at h
    split at h
    · rename_i k' hu
      cases h
      have hb : aggB P t = some false := by simp [aggB, hu]
      match l, hl, m, hm with
      | [a], _, [b], _ =>
        simp only [flatV, hb, List.getD_cons_zero]
        rw [run_equalIn_int w d' t k k a b hu]
        by_cases hab : a = b <;> simp [hab]
    · rename_i len e hu
      have hb : aggB P t = some true := by simp [aggB, hu]
      split at h
      · rename_i k2 z hf
        split at h
        · rename_i hs
          simp only [Option.some.injEq, Prod.mk.injEq] at h
          obtain ⟨rfl, rfl⟩ := h
          simp only [flatV, hb, aggI]
          rw [run_equalIn_array w d' t e len z _ _ hu hs]
          have := eqParts_flat (d := d) (d' := d') (by omega) hs hf (equal_flat d e k2 z hf) (l := l) (m := m) (by omega) w len 0 (by simp [hl])
          simpa using this
        · cases h
      · cases h
    · rename_i fs hu
      have hb : aggB P t = some true := by simp [aggB, hu]
      split at h
      · cases h
      · rename_i hst
        split at h
        · cases h
        · rename_i f rest hfs
          split at h
          · rename_i k2 z hf
            split at h
            · rename_i hc
              obtain ⟨hname, hoff, hs⟩ := hc
              have hfields : P.fieldsOf t = fs := by simp [Program.fieldsOf, hu]
              have h' : flatFs P (fun t => flatK P d t) k2 0 (f :: rest) = some (k, l.length) := by
                simp only [flatFs, hf, hoff, hs, hname, ne_eq, not_false_eq_true, and_self, if_true, Nat.zero_add]
                rw [h, hl]
              obtain ⟨hk, _, hrun⟩ := eqFields_flat (d := d) (d' := d') (by omega) (fun t n ht => equal_flat d t k2 n ht) (l := l) (m := m) (by omega) w (f :: rest) 0 k h'
              subst hk
              simp only [flatV, hb, aggI]
              rw [run_equalIn_struct w d' t _ _ (by rw [hfields]; exact hu) (by simpa using hst), hfields, hfs, hrun]
              simp
            · cases h
          · cases h
    · cases h


theorem flatI_sound {k : IntKind} : ∀ {ps : List SV} {l : List Int} {ys : List Value}, flatI k ps = some (l, true) → PR e ps ys → ys = intsV k l ∧ l.length = psize ps
  | [], l, ys, h, g => by
    simp only [flatI, Option.some.injEq, Prod.mk.injEq, and_true] at h
    subst h
    rw [PR] at g; subst g
    exact ⟨rfl, rfl⟩
  | x :: xs, l, ys, h, g => by
    unfold flatI at h
    split at h
    · rename_i h1; cases h1
    · rename_i k' n zs ps h1
      cases h1
      obtain ⟨us, h2, rfl⟩ := g
      split at h
      · rename_i hk
        subst hk
        split at h
        · rename_i hemp
          simp only [Option.some.injEq, Prod.mk.injEq, decide_eq_true_eq] at h
          obtain ⟨rfl, h⟩ := h
          have : xs = [] := by simpa using hemp
          subst this
          rw [PR] at h2; subst h2
          exact ⟨by rw [lst_eq h, List.append_nil], by simp [psize, psz, h]⟩
        · obtain ⟨⟨q1, q2⟩, h3, h4⟩ := Option.map_eq_some_iff.1 h
          simp only [Prod.mk.injEq, andT_iff, decide_eq_true_eq] at h4
          obtain ⟨rfl, h5, rfl⟩ := h4
          obtain ⟨h6, h7⟩ := flatI_sound h3 h2
          exact ⟨by rw [h6, lst_eq h5, intsV_append], by simp [psize, psz, h5, h7]⟩
      · cases h
    · rename_i k' n ps h1
      cases h1
      obtain ⟨y, us, hy, h2, rfl⟩ := (PR.cons rfl).1 g
      rw [VR] at hy; subst hy
      split at h
      · rename_i hk
        subst hk
        obtain ⟨⟨q1, q2⟩, h3, h4⟩ := Option.map_eq_some_iff.1 h
        simp only [Prod.mk.injEq] at h4
        obtain ⟨rfl, rfl⟩ := h4
        obtain ⟨h6, h7⟩ := flatI_sound h3 h2
        exact ⟨by rw [h6]; rfl, by simp [psize, psz, h7]; omega⟩
      · cases h
    · cases h

theorem boolOp_cases {op : BinOp} {b : Bool} {v : SV} (h : boolOp op b = some v) : (op = .eql ∧ v = .bool b) ∨ (op = .neq ∧ v = .bool !b) := by
  unfold boolOp at h
  split at h
  · cases h; exact .inl ⟨rfl, rfl⟩
  · cases h; exact .inr ⟨rfl, rfl⟩
  · cases h
/-- '==' by way of 'equal'. -/
theorem eq_run {op : BinOp} {T : TypeId} {b : Bool} {v : SV} {a' b' : Value} {x y : Operand} (h : boolOp op b = some v) (hg : (eqGuard op T x y a' b').run P w = .ok () w)
    (hq : ∀ op', op' = .eql ∨ op' = .neq → binOp op' T a' b' = (match op' with | .eql => do pure (.bool (← Op.equal T a' b')) | _ => do pure (.bool (!(← Op.equal T a' b'))) : Sem Value))
    (hr : (Op.equal T a' b').run P w = .ok b w) : ∃ v', (do eqGuard op T x y a' b'; binOp op T a' b' : Sem Value).run P w = .ok v' w ∧ VR e v v' := by
  rcases boolOp_cases h with ⟨rfl, rfl⟩ | ⟨rfl, rfl⟩
  · refine ⟨_, ?_, rfl⟩
    rw [Sem.run_bind, hg, Result.andThen_ok, hq _ (.inl rfl)]
    simp [hr]
  · refine ⟨_, ?_, rfl⟩
    rw [Sem.run_bind, hg, Result.andThen_ok, hq _ (.inr rfl)]
    simp [hr]
end
end Go.Sy
