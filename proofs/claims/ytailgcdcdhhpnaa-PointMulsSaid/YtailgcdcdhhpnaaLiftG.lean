/- This file gives the interpreter's helpers: integers of cells, slots by their numbers, pieces of a function's code, contracts of a method that writes its receiver. No conditions: definitions and plain laws. -/
import Derived.Test.YtailgcdcdhhpnaaLiftF
namespace Go.Lift
open Go

/-! ### Slots -/
/-- n slots, of which some are known. -/
def slotsOf (n : Nat) (l : List (Nat × Value)) : List (Option Value) := (List.range n).map fun i => (l.find? fun p => p.1 == i).map (·.2)
/-- All other slots are forgotten. -/
def keepT (live : List Nat) (t : List (Option Value)) : List (Option Value) := t.zipIdx.map fun (v, i) => if live.contains i then v else none
def St.keep (live : List Nat) (s : St) : St := ⟨keepT live s.t, s.h, s.ob⟩
theorem keep_sub (live : List Nat) (s : St) : Sub s (s.keep live) where
  tl := by simp [St.keep, keepT]
  t := fun i v e => by
    simp only [St.keep, keepT, List.getElem?_map, List.getElem?_zipIdx] at e
    cases h : s.t[i]? with
    | none => simp [h] at e
    | some x =>
      simp only [h, Option.map_some, Option.some.injEq] at e
      split at e
      · rw [e]
      · cases e
  hl := rfl
  h := fun i b b' e e' => by simp only [St.keep] at e'; rw [e] at e'; cases e'; exact ⟨rfl, rfl⟩

section
variable {P : Program}

theorem Tr.keep {Γ : Ctr} (hΓ : CtrSound P Γ) (n : Nat) (live : List Nat) {c : Code} {s s' : St} {x : Exit} (e : (Lift.exec P Γ n c s).map (fun r => (r.1, r.2.keep live)) = some (x, s')) (hob : s'.ob = true) : Tr P c s x s' := by
  obtain ⟨⟨y, s1⟩, h1, q⟩ := Option.map_eq_some_iff.1 e
  simp only [Prod.mk.injEq] at q
  obtain ⟨rfl, rfl⟩ := q
  exact (Tr.exec hΓ h1 hob).post (keep_sub live s1)

/-- The same where blocks are to be read otherwise (as integers, say). -/
theorem Tr.keepAs {Γ : Ctr} (hΓ : CtrSound P Γ) (n : Nat) (live : List Nat) {c : Code} {s s1 s' : St} {x : Exit} (e : (Lift.exec P Γ n c s).map (fun r => (r.1, r.2.keep live)) = some (x, s1)) (hob : s1.ob = true) (g : Sub s1 s') : Tr P c s x s' :=
  (Tr.keep hΓ n live e hob).post g

/-! ### Pieces of code -/
def bodyOf (fn : Func) : Code := fn.body.getD .skip
/-- The pieces of code, one behind the other. -/
def atoms : Code → List Code
  | .seq a b => atoms a ++ atoms b
  | c => [c]
/-- The n-th piece. -/
def nthC (n : Nat) (c : Code) : Code := (atoms c).getD n .skip
def inner : Code → Code
  | .block _ b => b
  | .loop b => b
  | c => c
def isLoop (id : Nat) : Code → Bool
  | .block j (.loop _) => j == id
  | _ => false

/-- Pieces, one behind the other. -/
def TrL (P : Program) : List Code → St → Exit → St → Prop
  | [], s, x, s' => x = .normal ∧ s' = s
  | a :: l, s, x, s' => (∃ s1, Tr P a s .normal s1 ∧ TrL P l s1 x s') ∨ (x ≠ .normal ∧ Tr P a s x s')

theorem TrL.append : ∀ (l1 : List Code) {l2 : List Code} {s s' : St} {x : Exit}, TrL P (l1 ++ l2) s x s' → (∃ s1, TrL P l1 s .normal s1 ∧ TrL P l2 s1 x s') ∨ (x ≠ .normal ∧ TrL P l1 s x s')
  | [], _, s, _, _, h => .inl ⟨s, ⟨rfl, rfl⟩, h⟩
  | a :: l1, l2, s, s', x, h => by
    rcases h with ⟨s1, h1, h2⟩ | ⟨hx, h1⟩
    · rcases TrL.append l1 h2 with ⟨s2, h3, h4⟩ | ⟨hx, h3⟩
      · exact .inl ⟨s2, .inl ⟨s1, h1, h3⟩, h4⟩
      · exact .inr ⟨hx, .inl ⟨s1, h1, h3⟩⟩
    · exact .inr ⟨hx, .inr ⟨hx, h1⟩⟩

theorem TrL.single {c : Code} {s s' : St} {x : Exit} (h : TrL P [c] s x s') : Tr P c s x s' := by
  rcases h with ⟨s1, h1, rfl, rfl⟩ | ⟨_, h1⟩
  · exact h1
  · exact h1

theorem Tr.of_atoms : ∀ {c : Code} {s s' : St} {x : Exit}, TrL P (atoms c) s x s' → Tr P c s x s' := by
  intro c
  induction c with
  | seq a b iha ihb =>
    intro s s' x h
    rcases TrL.append (atoms a) h with ⟨s1, h1, h2⟩ | ⟨hx, h1⟩
    · exact Tr.seq (iha h1) (ihb h2)
    · exact Tr.seq_leave (iha h1) hx
  | _ => intro s s' x h; exact TrL.single h

/-- The first m pieces. -/
def execL (P : Program) (Γ : Ctr) (n : Nat) : Nat → List Code → St → Option St
  | 0, _, s => some s
  | m + 1, a :: l, s => match exec P Γ n a s with
    | some (.normal, s') => execL P Γ n m l s'
    | _ => none
  | _ + 1, [], _ => none

/-- All pieces, till one leaves. -/
def execA (P : Program) (Γ : Ctr) (n : Nat) : List Code → St → Option (Exit × St)
  | [], s => some (.normal, s)
  | a :: l, s => match exec P Γ n a s with
    | some (.normal, s') => execA P Γ n l s'
    | r => r

theorem execL_sound {Γ : Ctr} (hΓ : CtrSound P Γ) (n : Nat) : ∀ (m : Nat) {l : List Code} {s s1 s' : St} {x : Exit}, execL P Γ n m l s = some s1 → s1.ob = true → TrL P (l.drop m) s1 x s' → TrL P l s x s' ∧ s.ob = true
  | 0, l, s, s1, s', x, e, hob, h => by simp only [execL, Option.some.injEq] at e; subst e; exact ⟨by simpa using h, hob⟩
  | m + 1, [], s, s1, s', x, e, _, _ => by simp [execL] at e
  | m + 1, a :: l, s, s1, s', x, e, hob, h => by
    simp only [execL] at e
    split at e
    · rename_i s2 h2
      obtain ⟨h3, h4⟩ := execL_sound hΓ n m e hob (by simpa only [List.drop_succ_cons] using h)
      exact ⟨.inl ⟨s2, Tr.exec hΓ h2 h4, h3⟩, exec_ob n a s s2 _ h2 h4⟩
    · cases e

theorem execA_sound {Γ : Ctr} (hΓ : CtrSound P Γ) (n : Nat) : ∀ {l : List Code} {s s' : St} {x : Exit}, execA P Γ n l s = some (x, s') → s'.ob = true → TrL P l s x s' ∧ s.ob = true
  | [], s, s', x, e, hob => by simp only [execA, Option.some.injEq, Prod.mk.injEq] at e; obtain ⟨rfl, rfl⟩ := e; exact ⟨⟨rfl, rfl⟩, hob⟩
  | a :: l, s, s', x, e, hob => by
    simp only [execA] at e
    split at e
    · rename_i s2 h2
      obtain ⟨h3, h4⟩ := execA_sound hΓ n e hob
      exact ⟨.inl ⟨s2, Tr.exec hΓ h2 h4, h3⟩, exec_ob n a s s2 _ h2 h4⟩
    · rename_i hne
      have hx : x ≠ .normal := fun q => by subst q; exact hne s' e
      exact ⟨.inr ⟨hx, Tr.exec hΓ e hob⟩, exec_ob n a s s' x e hob⟩

theorem TrL.pre : ∀ {l : List Code} {s s1 s' : St} {x : Exit}, TrL P l s1 x s' → Sub s s1 → l ≠ [] → TrL P l s x s'
  | [], _, _, _, _, _, _, h => absurd rfl h
  | _ :: _, _, _, _, _, .inl ⟨s2, h1, h2⟩, g, _ => .inl ⟨s2, h1.pre g, h2⟩
  | _ :: _, _, _, _, _, .inr ⟨hx, h1⟩, g, _ => .inr ⟨hx, h1.pre g⟩

/-- The first m pieces by the kernel; behind them only the slots 'live' are known. -/
theorem TrL.items {Γ : Ctr} (hΓ : CtrSound P Γ) (n m : Nat) (live : List Nat) {l : List Code} {s s1 s' : St} {x : Exit} (e : (execL P Γ n m l s).map (St.keep live) = some s1) (hob : s1.ob = true) (hl : m < l.length) (h : TrL P (l.drop m) s1 x s') : TrL P l s x s' := by
  obtain ⟨s2, h2, rfl⟩ := Option.map_eq_some_iff.1 e
  exact (execL_sound hΓ n m h2 hob (h.pre (keep_sub live s2) (by intro q; have := congrArg List.length q; simp at this; omega))).1

/-- One piece by a law of its own. -/
theorem TrL.item (m : Nat) {c : Code} {s s1 s' : St} {x : Exit} (hm : m < (atoms c).length) (h1 : Tr P (nthC m c) s .normal s1) (h2 : TrL P ((atoms c).drop (m + 1)) s1 x s') : TrL P ((atoms c).drop m) s x s' := by
  rw [List.drop_eq_getElem_cons hm]
  refine .inl ⟨s1, ?_, h2⟩
  have : nthC m c = (atoms c)[m] := by simp [nthC, List.getD, List.getElem?_eq_getElem hm]
  rwa [this] at h1

/-- Whatever is left by the kernel. -/
theorem TrL.rest {Γ : Ctr} (hΓ : CtrSound P Γ) (n : Nat) {l : List Code} {s s' : St} {x : Exit} (e : execA P Γ n l s = some (x, s')) (hob : s'.ob = true) : TrL P l s x s' := (execA_sound hΓ n e hob).1

/-- A loop in its block, from its rounds. -/
theorem Tr.loop (id : Nat) {c : Code} {s' : St} (hc : isLoop id c = true) (f : Nat → St) (N : Nat) (hb : ∀ i, i < N → Tr P (inner (inner c)) (f i) .normal (f (i + 1))) (hl : Tr P (inner (inner c)) (f N) (.exit id) s') : Tr P c (f 0) .normal s' := by
  cases c <;> simp [isLoop] at hc
  rename_i j b
  cases b <;> simp at hc
  subst hc
  exact Tr.block (Tr.for (by simp) f N hb hl)

/-- A loop in its block that is left by its own exit. -/
theorem Tr.loopR (id : Nat) {c : Code} {s s' : St} (hc : isLoop id c = true) (h : TrR P (inner (inner c)) s (.exit id) s') : Tr P c s .normal s' := by
  cases c <;> simp [isLoop] at hc
  rename_i j b
  cases b <;> simp at hc
  subst hc
  exact Tr.block (TrR.loop h)

/-- A loop in its block that returns. -/
theorem Tr.loopRet (id : Nat) {c : Code} {s s' : St} (hc : isLoop id c = true) (h : TrR P (inner (inner c)) s .ret s') : Tr P c s .ret s' := by
  cases c <;> simp [isLoop] at hc
  rename_i j b
  cases b <;> simp at hc
  subst hc
  exact Tr.block_pass (TrR.loop h) (by simp)

theorem TrL.leave (m : Nat) {c : Code} {s s' : St} {x : Exit} (hm : m < (atoms c).length) (hx : x ≠ .normal) (h1 : Tr P (nthC m c) s x s') : TrL P ((atoms c).drop m) s x s' := by
  rw [List.drop_eq_getElem_cons hm]
  refine .inr ⟨hx, ?_⟩
  have : nthC m c = (atoms c)[m] := by simp [nthC, List.getD, List.getElem?_eq_getElem hm]
  rwa [this] at h1

theorem Sub.ob (s : St) (o : Bool) : Sub ⟨s.t, s.h, o⟩ s := ⟨rfl, fun _ _ h => h, rfl, fun i b b' h h' => by rw [h] at h'; cases h'; exact ⟨rfl, rfl⟩⟩

theorem FnTr.mk {fn : Func} {args : List Value} {h : List Blk} {x : Exit} {s : St} {vs : List Value} (hb : fn.body.isSome = true) (ht : TrL P (atoms (bodyOf fn)) ⟨slots0 fn.ntmps args, h, true⟩ x s) (hx : x = .ret ∨ x = .normal)
    (hr : resS P s.t s.h fn.results.toList = some (vs, true)) : FnTr P fn args h (oneOf vs) s.h := by
  obtain ⟨c, hc⟩ := Option.isSome_iff_exists.1 hb
  exact ⟨c, x, s, vs, hc, hx, Tr.of_atoms (by simpa [bodyOf, hc] using ht), hr, rfl, rfl⟩

/-- A whole call whose last pieces are reckoned by the kernel. -/
theorem FnTr.rest {Γ : Ctr} (hΓ : CtrSound P Γ) (n m : Nat) {fn : Func} {args : List Value} {h h' : List Blk} {s : St} {v : Value} {p : Bool} (hb : fn.body.isSome = true)
    (ht : ∀ s' x, TrL P ((atoms (bodyOf fn)).drop m) s x s' → TrL P (atoms (bodyOf fn)) ⟨slots0 fn.ntmps args, h, true⟩ x s')
    (e : ((execA P Γ n ((atoms (bodyOf fn)).drop m) s).bind fun r => match r.1 with
      | .ret | .normal => (resS P r.2.t r.2.h fn.results.toList).map fun q => (oneOf q.1, r.2.h, andT r.2.ob q.2)
      | _ => none) = some (v, h', p)) (hp : p = true) : FnTr P fn args h v h' := by
  obtain ⟨⟨x, s'⟩, h1, e⟩ := Option.bind_eq_some_iff.1 e
  subst hp
  have key : ∀ (_ : x = .ret ∨ x = .normal), ((resS P s'.t s'.h fn.results.toList).map fun q => (oneOf q.1, s'.h, andT s'.ob q.2)) = some (v, h', true) → FnTr P fn args h v h' := fun hx e => by
    obtain ⟨⟨vs, q⟩, hr, e⟩ := Option.map_eq_some_iff.1 e
    simp only [Prod.mk.injEq, andT_iff] at e
    obtain ⟨rfl, rfl, hob, rfl⟩ := e
    exact FnTr.mk hb (ht s' x (TrL.rest hΓ n h1 hob)) hx hr
  cases x <;> simp only at e <;> first | exact key (by simp) e | cases e

theorem FnTr.of_take1 {Γ : Ctr} (hΓ : CtrSound P Γ) {fn : Func} {n : Nat} {args : List Value} {h : List Blk} {v : Value} {b : Blk} {p : Bool}
    (e : (callS P Γ n fn args h).map (fun x => (x.1, x.2.1.take 1, x.2.2)) = some (v, [b], p)) (hp : p = true) : ∃ g, FnTr P fn args h v (b :: g) := by
  obtain ⟨⟨u, h1, q⟩, he, e⟩ := Option.map_eq_some_iff.1 e
  simp only [Prod.mk.injEq] at e
  obtain ⟨rfl, h2, rfl⟩ := e
  subst hp
  cases h1 with
  | nil => simp at h2
  | cons c g => simp at h2; subst h2; exact ⟨g, FnTr.of_callS hΓ he⟩

/-! ### A method that writes its receiver's one block -/
theorem ctr_ptr1 {f : FuncId} {fn : Func} (hf : P.funcs[f]? = some fn) (hn : fn.name ≠ "runtime.NumGoroutine") {args : List Value} {b0 b1 b b' : Blk} {g : List Blk} {v : Value} {t : TypeId}
    (e : FnTr P fn (.pointer (some ⟨0, 0, none⟩) :: args) [b0] v (b1 :: g)) (ha : plainL args = true) (hv : plain v = true) (h0 : plainL b0.vals = true) (h1 : plainL b1.vals = true)
    (ho : b0.own = some t) (ho1 : b1.own = some t) {h : List Blk} {i : Nat} (hi : h[i]? = some b) (hb : b.own = some t) (hbv : b.vals = b0.vals) (hb' : b'.own = some t) (hbv' : b'.vals = b1.vals) :
    CtrAt P f (.pointer (some ⟨i, 0, none⟩) :: args) h v (h.set i b') := by
  have hil : i < h.length := (List.getElem?_eq_some_iff.1 hi).1
  refine ctr_of_call hf hn e [⟨i, 0, false⟩] [] ⟨_, _, ⟨⟨i, 0, false⟩, rfl, rfl⟩, LR.plain args ha, rfl⟩ rfl ?_ ?_ (lk [⟨i, 0, false⟩]) (by simp [lk]) (by simp) (by simp) (VR.plain v hv) (by simp) ?_ ?_
  · intro a c p q hp hq _
    have h1 := (List.getElem?_eq_some_iff.1 hp).1
    have h2 := (List.getElem?_eq_some_iff.1 hq).1
    simp at h1 h2
    left; omega
  · intro a bb hbb
    have h1' := (List.getElem?_eq_some_iff.1 hbb).1
    simp at h1'
    subst h1'
    simp at hbb
    subst hbb
    refine ⟨⟨i, 0, false⟩, b, rfl, hi, fun ty hty => ⟨rfl, rfl, ?_, ?_⟩, fun hno => ?_⟩
    · rw [ho] at hty; cases hty; exact hb
    · rw [hbv]; exact LR.plain _ h0
    · rw [ho] at hno; cases hno
  · intro a c hac _
    have h1' := (List.getElem?_eq_some_iff.1 hac).1
    simp at h1'
    subst h1'
    simp [lk] at hac
    subst hac
    exact ⟨b1, b', t, rfl, by simp [hil], ho1, hb', by rw [hbv']; exact LR.plain _ h1⟩
  · intro c _ hno
    have : i ≠ c := fun q => by have := hno ⟨i, 0, false⟩ (by simp) q; cases this
    exact List.getElem?_set_ne this

/-! ### A function that reads stretches of its caller's blocks -/
def winX (xs : List Int) (n : Nat) : Nat → List Int × Bool
  | 0 => (xs, n == xs.length)
  | o => ((xs.drop o).take n, decide (o + n ≤ xs.length))
/-- The integers of a stretch of a block, what must hold. -/
def winI (k : IntKind) (o n : Nat) : Blk → Option (List Int × Bool)
  | .c vs _ => (ints k ((vs.drop o).take n)).map fun l => (l, decide (o + n ≤ vs.length))
  | .r vs => (ints k ((vs.drop o).take n)).map fun l => (l, decide (o + n ≤ vs.length))
  | .s k' xs _ => if k' = k then some (winX xs n o) else none
  | .rs k' xs => if k' = k then some (winX xs n o) else none

theorem winI_sound {k : IntKind} {o n : Nat} {b : Blk} {l : List Int} (h : winI k o n b = some (l, true)) : intsV k l = (b.vals.drop o).take n ∧ l.length = n := by
  have lit : ∀ vs : List Value, (ints k ((vs.drop o).take n)).map (fun l => (l, decide (o + n ≤ vs.length))) = some (l, true) → intsV k l = (vs.drop o).take n ∧ l.length = n := fun vs e => by
    obtain ⟨l', hl, q⟩ := Option.map_eq_some_iff.1 e
    simp only [Prod.mk.injEq, decide_eq_true_eq] at q
    obtain ⟨rfl, hle⟩ := q
    have := ints_eq hl
    refine ⟨this.symm, ?_⟩
    have h2 := congrArg List.length this
    simp only [List.length_take, List.length_drop, intsV_length] at h2
    omega
  have sy : ∀ (k' : IntKind) (xs : List Int), (if k' = k then some (winX xs n o) else none) = some (l, true) → intsV k l = ((intsV k' xs).drop o).take n ∧ l.length = n := fun k' xs e => by
    split at e
    · rename_i hk
      subst hk
      unfold winX at e
      split at e
      · simp only [Option.some.injEq, Prod.mk.injEq, beq_iff_eq] at e
        obtain ⟨rfl, rfl⟩ := e
        exact ⟨by rw [List.drop_zero, List.take_of_length_le (by rw [intsV_length]; exact Nat.le_refl _)], rfl⟩
      · simp only [Option.some.injEq, Prod.mk.injEq, decide_eq_true_eq] at e
        obtain ⟨rfl, hle⟩ := e
        exact ⟨by simp [intsV, List.map_take, List.map_drop], by simp; omega⟩
    · cases e
  cases b with
  | c vs t => exact lit vs h
  | r vs => exact lit vs h
  | s k' xs t => exact sy k' xs h
  | rs k' xs => exact sy k' xs h

/-- The callee's read-only blocks over the caller's. -/
def RoOver (h0 : List Blk) (s : List Pl) (h : List Blk) : Prop :=
  s.length = h0.length ∧ ∀ (i : Nat) (b : Blk), h0[i]? = some b → b.own = none ∧ plainL b.vals = true ∧ ∃ c b', s[i]? = some c ∧ c.ro = true ∧ h[c.n]? = some b' ∧ b.vals = (b'.vals.drop c.base).take b.vals.length

theorem RoOver.ro {h0 : List Blk} {s : List Pl} {h : List Blk} (g : RoOver h0 s h) {p : Pl} (hp : p ∈ s) : p.ro = true := by
  obtain ⟨i, hi⟩ := List.mem_iff_getElem?.1 hp
  have hi' : i < h0.length := by rw [← g.1]; exact (List.getElem?_eq_some_iff.1 hi).1
  obtain ⟨_, _, c, _, hc, hr, _⟩ := g.2 i _ (List.getElem?_eq_getElem hi')
  rw [hi] at hc; cases hc; exact hr

theorem ctr_ro {f : FuncId} {fn : Func} (hf : P.funcs[f]? = some fn) (hn : fn.name ≠ "runtime.NumGoroutine") {args vs : List Value} {h0 h1 h : List Blk} {v : Value} (e : FnTr P fn args h0 v h1) (s : List Pl) (g : RoOver h0 s h)
    (ha : LR (lk s) args vs) (hv : plain v = true) : CtrAt P f vs h v h := by
  refine ctr_of_call hf hn e s [] ha g.1 ?_ ?_ (lk s) (by simp [lk]) (by simp) (by simp) (VR.plain v hv) (by simp) ?_ (fun _ _ _ => rfl)
  · intro i j c d hi hj _
    exact .inr ⟨g.ro (List.mem_iff_getElem?.2 ⟨i, hi⟩), g.ro (List.mem_iff_getElem?.2 ⟨j, hj⟩)⟩
  · intro i b hb
    obtain ⟨hno, hp, c, b', hc, hr, hb', hval⟩ := g.2 i b hb
    refine ⟨c, b', hc, hb', fun t ht => ?_, fun _ => ⟨hr, ?_⟩⟩
    · rw [hno] at ht; cases ht
    · rw [← hval]; exact LR.plain _ hp
  · intro i c hc hro
    rw [g.ro (List.mem_iff_getElem?.2 ⟨i, hc⟩)] at hro; cases hro

/-- The same where the callee hands back a slice over a new block of its own. -/
theorem ctr_ro_new {f : FuncId} {fn : Func} (hf : P.funcs[f]? = some fn) (hn : fn.name ≠ "runtime.NumGoroutine") {args vs : List Value} {h0 h1 h : List Blk} {i n m : Nat} (e : FnTr P fn args h0 (.slice (some ⟨i, 0, none⟩) n m) h1) (s : List Pl) (g : RoOver h0 s h)
    (ha : LR (lk s) args vs) {b b' : Blk} {t : TypeId} (hi : h0.length ≤ i) (hb : h1[i]? = some b) (ho : b.own = some t) (ho' : b'.own = some t) (hval : b'.vals = b.vals) (hp : plainL b.vals = true) :
    CtrAt P f vs h (.slice (some ⟨h.length, 0, none⟩) n m) (h ++ [b']) := by
  have hil := (List.getElem?_eq_some_iff.1 hb).1
  have hs0 : s[i]? = none := by rw [List.getElem?_eq_none_iff, g.1]; exact hi
  refine ctr_of_call hf hn e s [i] ha g.1 ?_ ?_ (fun j => if j = i then some ⟨h.length, 0, false⟩ else s[j]?) ?_ ?_ ?_ ?_ (by simp) ?_ ?_
  · intro i j c d hi hj _
    exact .inr ⟨g.ro (List.mem_iff_getElem?.2 ⟨i, hi⟩), g.ro (List.mem_iff_getElem?.2 ⟨j, hj⟩)⟩
  · intro i b hb
    obtain ⟨hno, hp, c, b', hc, hr, hb', hval⟩ := g.2 i b hb
    refine ⟨c, b', hc, hb', fun t ht => ?_, fun _ => ⟨hr, ?_⟩⟩
    · rw [hno] at ht; cases ht
    · rw [← hval]; exact LR.plain _ hp
  · intro j c
    by_cases hj : j = i
    · subst hj
      rw [if_pos rfl, hs0]
      constructor
      · intro q; cases q; exact .inr ⟨0, rfl, rfl⟩
      · rintro (q | ⟨a, ha, rfl⟩)
        · cases q
        · have := (List.getElem?_eq_some_iff.1 ha).1
          simp at this; subst this; rfl
    · rw [if_neg hj]
      constructor
      · exact .inl
      · rintro (q | ⟨a, ha, rfl⟩)
        · exact q
        · have h2 := (List.getElem?_eq_some_iff.1 ha).1
          simp at h2; subst h2; simp at ha; exact absurd ha.symm hj
  · intro a j ha
    have h2 := (List.getElem?_eq_some_iff.1 ha).1
    simp at h2; subst h2; simp at ha; subst ha
    exact ⟨hi, hil⟩
  · intro a c d ha hc
    have h2 := (List.getElem?_eq_some_iff.1 ha).1
    have h3 := (List.getElem?_eq_some_iff.1 hc).1
    simp at h2 h3; omega
  · exact ⟨⟨h.length, 0, false⟩, by simp, by simp⟩
  · intro j c hc hro
    by_cases hj : j = i
    · subst hj
      rw [if_pos rfl] at hc; cases hc
      exact ⟨b, b', t, hb, by simp, ho, ho', by rw [hval]; exact LR.plain _ hp⟩
    · rw [if_neg hj] at hc
      rw [g.ro (List.mem_iff_getElem?.2 ⟨j, hc⟩)] at hro; cases hro
  · intro c hc _
    exact List.getElem?_append_left hc
end
end Go.Lift
