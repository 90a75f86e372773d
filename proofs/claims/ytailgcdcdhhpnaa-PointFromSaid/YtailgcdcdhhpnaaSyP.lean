/- This file gives helpers of the interpreter: what a state entails, pieces of a function's code, loops. No conditions: definitions and plain laws. -/
import Derived.Test.YtailgcdcdhhpnaaSyO
namespace Go.Sy
open Go

/-! ### Slots -/
/-- n slots, of which some are known. -/
def slotsOf (n : Nat) (l : List (Nat × SV)) : List (Option SV) := (List.range n).map fun i => (l.find? fun p => p.1 == i).map (·.2)
/-- All other slots are forgotten. -/
def keepT (live : List Nat) (t : List (Option SV)) : List (Option SV) := t.zipIdx.map fun (v, i) => if live.contains i then v else none
def St.keep (live : List Nat) (s : St) : St := ⟨keepT live s.t, s.h, s.ob⟩

/-- State s says what s' says, whatever the world (B.k ≤ k). -/
def Ent (k : Nat) (s s' : St) : Prop := ∀ (B : Base) (e : Env) (w : World) (t' : List Value), B.k ≤ k → TR e s.t t' → Rel B e s.h w → ∃ e', e'.m = e.m ∧ TR e' s'.t t' ∧ Rel B e' s'.h w

theorem Ent.refl (k : Nat) (s : St) : Ent k s s := fun _ e _ _ _ hl R => ⟨e, rfl, hl, R⟩
theorem Ent.trans {k : Nat} {a b c : St} (h : Ent k a b) (g : Ent k b c) : Ent k a c := fun B e w t' hB hl R => by
  obtain ⟨e1, h1, h2, h3⟩ := h B e w t' hB hl R
  obtain ⟨e2, h4, h5, h6⟩ := g B e1 w t' hB h2 h3
  exact ⟨e2, h4.trans h1, h5, h6⟩
theorem Ent.same {k : Nat} {s s' : St} (h1 : s.t = s'.t) (h2 : s.h = s'.h) : Ent k s s' := fun _ e _ _ _ hl R => ⟨e, rfl, by rw [← h1]; exact hl, by rw [← h2]; exact R⟩

/-- Value v says what v' says. -/
def VE (v v' : SV) : Prop := ∀ (e : Env) (x : Value), VR e v x → VR e v' x
/-- Parts. -/
def PE (ps qs : List SV) : Prop := psize qs = psize ps ∧ ∀ (e : Env) (xs : List Value), PR e ps xs → PR e qs xs

theorem Ent.mono {k : Nat} {s s' : St} (hl : s.t.length = s'.t.length) (ht : ∀ (i : Nat) (v' : SV), s'.t[i]? = some (some v') → ∃ v, s.t[i]? = some (some v) ∧ VE v v')
    (hn : s'.h.length = s.h.length) (hh : ∀ (i : Nat) (qs : List SV), s'.h[i]? = some (.b qs) → ∃ ps, s.h[i]? = some (.b ps) ∧ PE ps qs) (hg : ∀ (i : Nat) (g : Option Lp), s'.h[i]? = some (.g g) → s.h[i]? = some (.g g)) : Ent k s s' :=
  fun B e w t' hB hlr R => ⟨e, rfl, ⟨hl.symm.trans hlr.1, fun i v' x h1 h2 => by
    obtain ⟨v, h3, h4⟩ := ht i v' h1
    exact h4 e x (hlr.2 i v x h3 h2)⟩, { R with
      dom := fun i p hi => by rw [hn]; exact R.dom i p hi
      blk := fun i qs hi => by
        obtain ⟨ps, h1, h2, h3⟩ := hh i qs hi
        rcases R.blk i ps h1 with ⟨g1, g2⟩ | ⟨p, o, g1, g2, c, t, rfl, g3, g4, g5⟩
        · exact .inl ⟨by rw [h2]; exact g1, g2⟩
        · exact .inr ⟨p, _, g1, g2, c, t, rfl, g3, by rw [h2]; exact g4, by rw [h2]; exact h3 e _ g5⟩
      gap := fun i g hi => R.gap i g (hg i g hi)
      kle := by rw [hn]; exact R.kle }⟩

theorem Ent.slots {k : Nat} {s s' : St} (hl : s.t.length = s'.t.length) (ht : ∀ (i : Nat) (v' : SV), s'.t[i]? = some (some v') → s.t[i]? = some (some v')) (hh : s.h = s'.h) : Ent k s s' :=
  fun _ e _ _ _ hlr R => ⟨e, rfl, ⟨hl.symm.trans hlr.1, fun i v' x h1 h2 => hlr.2 i v' x (ht i v' h1) h2⟩, by rw [← hh]; exact R⟩
theorem Ent.keep (k : Nat) (live : List Nat) (s : St) : Ent k s (s.keep live) := Ent.slots (by simp [St.keep, keepT]) (fun i v e => by
    simp only [St.keep, keepT, List.getElem?_map, List.getElem?_zipIdx] at e
    cases h : s.t[i]? with
    | none => simp [h] at e
    | some x =>
      simp only [h, Option.map_some, Option.some.injEq] at e
      split at e
      · rw [e]
      · cases e) rfl

def blkIn (n : Nat) : Blk → Bool
  | .b ps => refsInL (List.range n) ps
  | .g (some L) => L.t.all fun o => match o with | some v => refsIn (List.range n) v | none => true
  | .g none => true
/-- The last blocks are dropped: nothing that is kept leads there. -/
def St.trunc (n : Nat) (s : St) : Option St :=
  if s.t.all (fun o => match o with | some v => refsIn (List.range n) v | none => true) && (s.h.take n).all (blkIn n) then some ⟨s.t, s.h.take n, s.ob⟩ else none

theorem Ent.trunc {k n : Nat} (hk : k ≤ n) {s s' : St} (h : s.trunc n = some s') : Ent k s s' := by
  unfold St.trunc at h
  split at h
  · rename_i hc
    cases h
    simp only [Bool.and_eq_true, List.all_eq_true] at hc
    obtain ⟨h1, h2⟩ := hc
    intro B e w t' hB hl R
    let e' : Env := { e with r := fun i => if i < n then e.r i else none }
    have hr : ∀ i p, e'.r i = some p → i < n ∧ e.r i = some p := fun i p hi => by
      have hi' : (if i < n then e.r i else none) = some p := hi
      split at hi'
      · rename_i hc; exact ⟨hc, hi'⟩
      · cases hi'
    have hr' : ∀ i, i < n → e'.r i = e.r i := fun i hi => if_pos hi
    have up : ∀ j p, j ∈ List.range n → e.r j = some p → e'.r j = some p := fun j p hj hp => by rw [hr' j (List.mem_range.1 hj)]; exact hp
    have hkn : ∀ i p, B.e.r i = some p → i < n := fun i p hi => by have := R.kr i p hi; omega
    refine ⟨e', rfl, ⟨hl.1, fun i v v' g1 g2 => ?_⟩, ?_⟩
    · have := h1 _ (List.mem_of_getElem? g1)
      exact VR.mono' (e := e) (e' := e') (fun _ _ h => h) (Nat.le_refl _) v v' (fun j p hu hp => up j p (refsIn_uses this hu) hp) (hl.2 i v v' g1 g2)
    · have tk : ∀ i x, (s.h.take n)[i]? = some x → i < n ∧ s.h[i]? = some x := fun i x hi => by
        rw [List.getElem?_take] at hi
        split at hi
        · rename_i hc; exact ⟨hc, hi⟩
        · cases hi
      exact { R with
        inj := fun i j p q hi hj => R.inj i j p q (hr i p hi).2 (hr j q hj).2
        dom := fun i p hi => by
          obtain ⟨g1, g2⟩ := hr i p hi
          have := R.dom i p g2
          rw [List.length_take]; omega
        sep := fun i p hi => R.sep i p (hr i p hi).2
        news := fun i p hi => R.news i p (hr i p hi).2
        keepr := fun i p hi => by rw [hr' i (hkn i p hi)]; exact R.keepr i p hi
        blk := fun i ps hi => by
          obtain ⟨g1, g2⟩ := tk i _ hi
          have hu := h2 _ (List.mem_of_getElem? hi)
          rcases R.blk i ps g2 with ⟨q1, q2⟩ | ⟨p, o, q1, q2, c, t, rfl, q3, q4, q5⟩
          · exact .inl ⟨q1, by rw [hr' i g1]; exact q2⟩
          · exact .inr ⟨p, _, by rw [hr' i g1]; exact q1, q2, c, t, rfl, q3, q4, PR.mono' (e := e) (e' := e') (fun _ _ h => h) (Nat.le_refl _) ps _ (fun j p hu' hp => up j p (refsInL_uses hu hu') hp) q5⟩
        gap := fun i g hi => by
          obtain ⟨g1, g2⟩ := tk i _ hi
          have hu := h2 _ (List.mem_of_getElem? hi)
          refine ⟨by rw [hr' i g1]; exact (R.gap i g g2).1, (R.gap i g g2).2.keep (fun _ _ h => h) rfl fun L hL v v' hv hvr => ?_⟩
          subst hL
          have := List.all_eq_true.1 hu (some v) hv
          exact VR.mono' (e := e) (e' := e') (fun _ _ h => h) (Nat.le_refl _) v v' (fun j p hu' hp => up j p (refsIn_uses this hu') hp) hvr
        kle := by have := R.kle; rw [List.length_take]; omega }
  · cases h

/-- Slots kept, blocks dropped. -/
def St.cut (live : List Nat) (n : Nat) (s : St) : Option St := (s.keep live).trunc n
theorem Ent.cut {k n : Nat} {live : List Nat} (hk : k ≤ n) {s s' : St} (h : s.cut live n = some s') : Ent k s s' := (Ent.keep k live s).trans (Ent.trunc hk h)

section
variable {P : Program} {ro : Option Nat} {k : Nat}

theorem Tr.pre {c : Code} {s s1 s' : St} {x : Exit} (h : Tr P ro k c s1 x s') (g : Ent k s s1) : Tr P ro k c s x s' :=
  fun B e w t' d Q nn hB hl R hQ => by
    obtain ⟨e1, h1, h2, h3⟩ := g B e w t' hB hl R
    rw [← h1]
    exact h B e1 w t' d Q nn hB h2 h3 hQ
theorem Tr.post {c : Code} {s s1 s' : St} {x : Exit} (h : Tr P ro k c s x s1) (g : Ent k s1 s') : Tr P ro k c s x s' :=
  fun B e w t' d Q nn hB hl R hQ => h B e w t' d Q nn hB hl R fun e2 w2 t2 hl2 R2 => by
    obtain ⟨e1, h1, h2, h3⟩ := g B e2 w2 t2 hB hl2 R2
    rw [← h1]
    exact hQ e1 w2 t2 h2 h3
theorem TrR.pre {c : Code} {s s1 s' : St} {x : Exit} (h : TrR P ro k c s1 x s') (g : Ent k s s1) : TrR P ro k c s x s' := by
  obtain ⟨m, hm⟩ := h
  refine ⟨m, fun B e w t' d Q nn hB hl R hQ => ?_⟩
  obtain ⟨e1, h1, h2, h3⟩ := g B e w t' hB hl R
  rw [← h1]
  exact hm B e1 w t' d Q nn hB h2 h3 hQ

/-- Code reckoned by the kernel; then only the slots 'live' and the first m blocks are known. -/
theorem Tr.cut {Γ : Ctr} (hΓ : CtrSound P Γ) (n : Nat) (live : List Nat) (m : Nat) (hm : k ≤ m) {c : Code} {s s' : St} {x : Exit} (e : (Sy.exec P Γ n k c s).bind (fun r => (r.2.cut live m).map fun q => (r.1, q)) = some (x, s')) (hob : s'.ob = true) : Tr P ro k c s x s' := by
  obtain ⟨⟨y, s1⟩, h1, e⟩ := Option.bind_eq_some_iff.1 e
  obtain ⟨s2, h2, q⟩ := Option.map_eq_some_iff.1 e
  cases q
  refine (Tr.exec hΓ h1 ?_).post (Ent.cut hm h2)
  unfold St.cut St.trunc at h2
  split at h2
  · cases h2; exact hob
  · cases h2
theorem Tr.keep {Γ : Ctr} (hΓ : CtrSound P Γ) (n : Nat) (live : List Nat) {c : Code} {s s' : St} {x : Exit} (e : (Sy.exec P Γ n k c s).map (fun r => (r.1, r.2.keep live)) = some (x, s')) (hob : s'.ob = true) : Tr P ro k c s x s' := by
  obtain ⟨⟨y, s1⟩, h1, q⟩ := Option.map_eq_some_iff.1 e
  simp only [Prod.mk.injEq] at q
  obtain ⟨rfl, rfl⟩ := q
  exact (Tr.exec hΓ h1 hob).post (Ent.keep k live s1)

/-! ### Pieces of code -/
def bodyOf (fn : Func) : Code := fn.body.getD .skip
/-- The pieces of code, one behind the other. -/
def atoms : Code → List Code
  | .seq a b => atoms a ++ atoms b
  | c => [c]
/-- The n-th piece. -/
def nthC (n : Nat) (c : Code) : Code := (atoms c).getD n .skip
def inner : Code → Code
  | .block _ b => b
  | .loop b => b
  | c => c
def isLoop (id : Nat) : Code → Bool
  | .block j (.loop _) => j == id
  | _ => false

/-- Pieces, one behind the other. -/
def TrL (P : Program) (ro : Option Nat) (k : Nat) : List Code → St → Exit → St → Prop
  | [], s, x, s' => x = .normal ∧ s' = s
  | a :: l, s, x, s' => (∃ s1, Tr P ro k a s .normal s1 ∧ TrL P ro k l s1 x s') ∨ (x ≠ .normal ∧ Tr P ro k a s x s')

theorem TrL.append : ∀ (l1 : List Code) {l2 : List Code} {s s' : St} {x : Exit}, TrL P ro k (l1 ++ l2) s x s' → (∃ s1, TrL P ro k l1 s .normal s1 ∧ TrL P ro k l2 s1 x s') ∨ (x ≠ .normal ∧ TrL P ro k l1 s x s')
  | [], _, s, _, _, h => .inl ⟨s, ⟨rfl, rfl⟩, h⟩
  | a :: l1, l2, s, s', x, h => by
    rcases h with ⟨s1, h1, h2⟩ | ⟨hx, h1⟩
    · rcases TrL.append l1 h2 with ⟨s2, h3, h4⟩ | ⟨hx, h3⟩
      · exact .inl ⟨s2, .inl ⟨s1, h1, h3⟩, h4⟩
      · exact .inr ⟨hx, .inl ⟨s1, h1, h3⟩⟩
    · exact .inr ⟨hx, .inr ⟨hx, h1⟩⟩

theorem TrL.single {c : Code} {s s' : St} {x : Exit} (h : TrL P ro k [c] s x s') : Tr P ro k c s x s' := by
  rcases h with ⟨s1, h1, rfl, rfl⟩ | ⟨_, h1⟩
  · exact h1
  · exact h1

theorem Tr.of_atoms : ∀ {c : Code} {s s' : St} {x : Exit}, TrL P ro k (atoms c) s x s' → Tr P ro k c s x s' := by
  intro c
  induction c with
  | seq a b iha ihb =>
    intro s s' x h
    rcases TrL.append (atoms a) h with ⟨s1, h1, h2⟩ | ⟨hx, h1⟩
    · exact Tr.seq (iha h1) (ihb h2)
    · exact Tr.seq_leave (iha h1) hx
  | _ => intro s s' x h; exact TrL.single h

/-- The first m pieces. -/
def execL (P : Program) (Γ : Ctr) (n k : Nat) : Nat → List Code → St → Option St
  | 0, _, s => some s
  | m + 1, a :: l, s => match exec P Γ n k a s with
    | some (.normal, s') => execL P Γ n k m l s'
    | _ => none
  | _ + 1, [], _ => none

/-- All pieces, till one leaves. -/
def execA (P : Program) (Γ : Ctr) (n k : Nat) : List Code → St → Option (Exit × St)
  | [], s => some (.normal, s)
  | a :: l, s => match exec P Γ n k a s with
    | some (.normal, s') => execA P Γ n k l s'
    | r => r

theorem execL_sound {Γ : Ctr} (hΓ : CtrSound P Γ) (n : Nat) : ∀ (m : Nat) {l : List Code} {s s1 s' : St} {x : Exit}, execL P Γ n k m l s = some s1 → s1.ob = true → TrL P ro k (l.drop m) s1 x s' → TrL P ro k l s x s' ∧ s.ob = true
  | 0, l, s, s1, s', x, e, hob, h => by simp only [execL, Option.some.injEq] at e; subst e; exact ⟨by simpa using h, hob⟩
  | m + 1, [], s, s1, s', x, e, _, _ => by simp [execL] at e
  | m + 1, a :: l, s, s1, s', x, e, hob, h => by
    simp only [execL] at e
    split at e
    · rename_i s2 h2
      obtain ⟨h3, h4⟩ := execL_sound hΓ n m e hob (by simpa only [List.drop_succ_cons] using h)
      exact ⟨.inl ⟨s2, Tr.exec hΓ h2 h4, h3⟩, exec_ob n k a s s2 _ h2 h4⟩
    · cases e

theorem execA_sound {Γ : Ctr} (hΓ : CtrSound P Γ) (n : Nat) : ∀ {l : List Code} {s s' : St} {x : Exit}, execA P Γ n k l s = some (x, s') → s'.ob = true → TrL P ro k l s x s' ∧ s.ob = true
  | [], s, s', x, e, hob => by simp only [execA, Option.some.injEq, Prod.mk.injEq] at e; obtain ⟨rfl, rfl⟩ := e; exact ⟨⟨rfl, rfl⟩, hob⟩
  | a :: l, s, s', x, e, hob => by
    simp only [execA] at e
    split at e
    · rename_i s2 h2
      obtain ⟨h3, h4⟩ := execA_sound hΓ n e hob
      exact ⟨.inl ⟨s2, Tr.exec hΓ h2 h4, h3⟩, exec_ob n k a s s2 _ h2 h4⟩
    · rename_i hne
      have hx : x ≠ .normal := fun q => by subst q; exact hne s' e
      exact ⟨.inr ⟨hx, Tr.exec hΓ e hob⟩, exec_ob n k a s s' x e hob⟩

theorem TrL.pre : ∀ {l : List Code} {s s1 s' : St} {x : Exit}, TrL P ro k l s1 x s' → Ent k s s1 → l ≠ [] → TrL P ro k l s x s'
  | [], _, _, _, _, _, _, h => absurd rfl h
  | _ :: _, _, _, _, _, .inl ⟨s2, h1, h2⟩, g, _ => .inl ⟨s2, h1.pre g, h2⟩
  | _ :: _, _, _, _, _, .inr ⟨hx, h1⟩, g, _ => .inr ⟨hx, h1.pre g⟩

/-- The first m pieces by the kernel; behind them only the slots 'live' and the first j blocks are known. -/
theorem TrL.items {Γ : Ctr} (hΓ : CtrSound P Γ) (n m : Nat) (live : List Nat) (j : Nat) (hj : k ≤ j) {l : List Code} {s s1 s' : St} {x : Exit} (e : (execL P Γ n k m l s).bind (St.cut live j) = some s1) (hob : s1.ob = true) (hl : m < l.length) (h : TrL P ro k (l.drop m) s1 x s') : TrL P ro k l s x s' := by
  obtain ⟨s2, h2, h3⟩ := Option.bind_eq_some_iff.1 e
  refine (execL_sound hΓ n m h2 ?_ (h.pre (Ent.cut hj h3) (by intro q; have := congrArg List.length q; simp at this; omega))).1
  unfold St.cut St.trunc at h3
  split at h3
  · cases h3; exact hob
  · cases h3

/-- One piece by a law of its own. -/
theorem TrL.item (m : Nat) {c : Code} {s s1 s' : St} {x : Exit} (hm : m < (atoms c).length) (h1 : Tr P ro k (nthC m c) s .normal s1) (h2 : TrL P ro k ((atoms c).drop (m + 1)) s1 x s') : TrL P ro k ((atoms c).drop m) s x s' := by
  rw [List.drop_eq_getElem_cons hm]
  refine .inl ⟨s1, ?_, h2⟩
  have : nthC m c = (atoms c)[m] := by simp [nthC, List.getD, List.getElem?_eq_getElem hm]
  rwa [this] at h1

theorem TrL.leave (m : Nat) {c : Code} {s s' : St} {x : Exit} (hm : m < (atoms c).length) (hx : x ≠ .normal) (h1 : Tr P ro k (nthC m c) s x s') : TrL P ro k ((atoms c).drop m) s x s' := by
  rw [List.drop_eq_getElem_cons hm]
  refine .inr ⟨hx, ?_⟩
  have : nthC m c = (atoms c)[m] := by simp [nthC, List.getD, List.getElem?_eq_getElem hm]
  rwa [this] at h1

/-- Whatever is left by the kernel. -/
theorem TrL.rest {Γ : Ctr} (hΓ : CtrSound P Γ) (n : Nat) {l : List Code} {s s' : St} {x : Exit} (e : execA P Γ n k l s = some (x, s')) (hob : s'.ob = true) : TrL P ro k l s x s' := (execA_sound hΓ n e hob).1

/-- A loop in its block, from its rounds. -/
theorem Tr.loop (id : Nat) {c : Code} {s' : St} (hc : isLoop id c = true) (f : Nat → St) (N : Nat) (hb : ∀ i, i < N → Tr P ro k (inner (inner c)) (f i) .normal (f (i + 1))) (hl : Tr P ro k (inner (inner c)) (f N) (.exit id) s') : Tr P ro k c (f 0) .normal s' := by
  cases c <;> simp [isLoop] at hc
  rename_i j b
  cases b <;> simp at hc
  subst hc
  exact Tr.block (TrR.loop (TrR.for (by simp) f N hb hl))

/-- A loop in its block that is left by its own exit. -/
theorem Tr.loopR (id : Nat) {c : Code} {s s' : St} (hc : isLoop id c = true) (h : TrR P ro k (inner (inner c)) s (.exit id) s') : Tr P ro k c s .normal s' := by
  cases c <;> simp [isLoop] at hc
  rename_i j b
  cases b <;> simp at hc
  subst hc
  exact Tr.block (TrR.loop h)

/-- A loop in its block that returns. -/
theorem Tr.loopRet (id : Nat) {c : Code} {s s' : St} (hc : isLoop id c = true) (h : TrR P ro k (inner (inner c)) s .ret s') : Tr P ro k c s .ret s' := by
  cases c <;> simp [isLoop] at hc
  rename_i j b
  cases b <;> simp at hc
  subst hc
  exact Tr.block_pass (TrR.loop h) (by simp)

theorem FnTr.mk {f : FuncId} {fn : Func} (hf : P.funcs[f]? = some fn) {args : List SV} {h : List Blk} {x : Exit} {s : St} {vs : List SV} (hb : fn.body.isSome = true) (ht : TrL P none h.length (atoms (bodyOf fn)) ⟨slots0 fn.ntmps args, h, true⟩ x s) (hx : x = .ret ∨ x = .normal)
    (hr : resS P s.t s.h fn.results.toList = some (vs, true)) : FnTr P f args h (oneOf vs) s.h := by
  obtain ⟨c, hc⟩ := Option.isSome_iff_exists.1 hb
  exact FnTr.of_Tr hf hc hx (Tr.of_atoms (by simpa [bodyOf, hc] using ht)) hr

/-- A whole call whose last pieces are reckoned by the kernel. -/
theorem FnTr.rest {Γ : Ctr} (hΓ : CtrSound P Γ) (n m : Nat) {f : FuncId} {fn : Func} (hf : P.funcs[f]? = some fn) {args : List SV} {h h' : List Blk} {s : St} {v : SV} {p : Bool} (hb : fn.body.isSome = true)
    (ht : ∀ s' x, TrL P none h.length ((atoms (bodyOf fn)).drop m) s x s' → TrL P none h.length (atoms (bodyOf fn)) ⟨slots0 fn.ntmps args, h, true⟩ x s')
    (e : ((execA P Γ n h.length ((atoms (bodyOf fn)).drop m) s).bind fun r => match r.1 with
      | .ret | .normal => (resS P r.2.t r.2.h fn.results.toList).map fun q => (oneOf q.1, r.2.h, andT r.2.ob q.2)
      | _ => none) = some (v, h', p)) (hp : p = true) : FnTr P f args h v h' := by
  obtain ⟨⟨x, s'⟩, h1, e⟩ := Option.bind_eq_some_iff.1 e
  subst hp
  have key : ∀ (_ : x = .ret ∨ x = .normal), ((resS P s'.t s'.h fn.results.toList).map fun q => (oneOf q.1, s'.h, andT s'.ob q.2)) = some (v, h', true) → FnTr P f args h v h' := fun hx e => by
    obtain ⟨⟨vs, q⟩, hr, e⟩ := Option.map_eq_some_iff.1 e
    simp only [Prod.mk.injEq, andT_iff] at e
    obtain ⟨rfl, rfl, hob, rfl⟩ := e
    exact FnTr.mk hf hb (ht s' x (TrL.rest hΓ n h1 hob)) hx hr
  cases x <;> simp only at e <;> first | exact key (by simp) e | cases e

/-- What comes out of a call, less. -/
theorem FnTr.post {f : FuncId} {args : List SV} {h h1 h2 : List Blk} {v v2 : SV} (g : FnTr P f args h v h1) (q : Ent h.length ⟨[some v], h1, true⟩ ⟨[some v2], h2, true⟩) : FnTr P f args h v2 h2 := by
  intro B e w args' hB hl R
  refine (g B e w args' hB hl R).mono ?_
  rintro en w' ⟨v', rfl, e1, hm, hv, R1⟩
  obtain ⟨e2, hm2, hl2, R2⟩ := q B e1 w' [v'] hB ⟨rfl, fun i u u' h1 h2 => by
    have hi := (List.getElem?_eq_some_iff.1 h1).1
    simp at hi; subst hi; simp at h1 h2; subst h1; subst h2; exact hv⟩ R1
  exact ⟨v', rfl, e2, hm2.trans hm, hl2.2 0 v2 v' rfl rfl, R2⟩
theorem FnTr.pre {f : FuncId} {args args2 : List SV} {h h2 : List Blk} {h1 : List Blk} {v : SV} (g : FnTr P f args2 h2 v h1) (hk : h.length = h2.length) (q : Ent h.length ⟨args.map some, h, true⟩ ⟨args2.map some, h2, true⟩) : FnTr P f args h v h1 := by
  intro B e w args' hB hl R
  have hlen := hl.length
  obtain ⟨e2, hm2, hl2, R2⟩ := q B e w args' hB ⟨by simp [hlen], fun i u u' h1 h2 => by
    rw [List.getElem?_map] at h1
    obtain ⟨x, hx, hxe⟩ := Option.map_eq_some_iff.1 h1
    cases hxe
    obtain ⟨y, hy, hv⟩ := hl.get hx
    rw [h2] at hy; cases hy; exact hv⟩ R
  have hl3 : LR e2 args2 args' := by
    have : ∀ (as : List SV) (bs : List Value), as.length = bs.length → (∀ (i : Nat) (v : SV) (v' : Value), as[i]? = some v → bs[i]? = some v' → VR e2 v v') → LR e2 as bs := by
      intro as
      induction as with
      | nil => intro bs h _; cases bs <;> simp at h; rfl
      | cons a as ih =>
        intro bs h g
        cases bs with
        | nil => simp at h
        | cons b bs => exact ⟨b, bs, g 0 a b rfl rfl, ih bs (by simpa using h) (fun i v v' h1 h2 => g (i + 1) v v' (by simpa using h1) (by simpa using h2)), rfl⟩
    refine this args2 args' (by simpa using hl2.1) fun i v v' h1 h2 => hl2.2 i v v' (by simp [h1]) h2
  refine (g B e2 w args' (by omega) hl3 R2).mono ?_
  rintro en w' ⟨v', rfl, e3, hm3, hv, R3⟩
  exact ⟨v', rfl, e3, hm3.trans hm2, hv, R3⟩
end
end Go.Sy
