/- This file proves a whole call of the interpreter ('callS') sound, and turns a computed call into a contract for callers ('CtrAt'). Conditions: the contracts that it uses are sound, and what must hold holds. -/
import Derived.Test.YtailgcdcdhhpnaaLiftE
namespace Go.Lift
open Go

section
variable {P : Program}

def resOne (t' : List Value) : ResultVar → Sem Value
  | .tmp i => pure ((⟨t'⟩ : Array Value).getD i undef)
  | .cell a ty => do loadVar ty (← asAddr ((⟨t'⟩ : Array Value).getD a undef))

theorem resS_sound {k : Nat} {w0 w : World} {r : List Pl} {h : List Blk} {t : List (Option Value)} {t' : List Value} (hl : TR (lk r) t t') (R : Rel k w0 r h w) : ∀ (l : List ResultVar) (vs : List Value), resS P t h l = some (vs, true) →
    ∃ vs', (l.mapM (resOne t')).run P w = .ok vs' w ∧ LR (lk r) vs vs'
  | [], vs, e => by simp [resS] at e; subst e; exact ⟨[], by simp, rfl⟩
  | .tmp i :: l, vs, e => by
    simp only [resS] at e
    split at e
    · rename_i v us p hv hr
      simp only [Option.some.injEq, Prod.mk.injEq] at e
      obtain ⟨rfl, rfl⟩ := e
      obtain ⟨vs', hvs, hl'⟩ := resS_sound hl R l us hr
      refine ⟨_, ?_, _, _, ev_sound (d := []) hl hv, hl', rfl⟩
      simp only [List.mapM_cons, resOne, Sem.run_bind, hvs, Sem.run_pure, Result.andThen_ok, Act.eval]
    · cases e
  | .cell a ty :: l, vs, e => by
    simp only [resS] at e
    split at e
    · rename_i x hx
      split at e
      · rename_i v q us p hv hus
        simp only [Option.some.injEq, Prod.mk.injEq, andT_iff] at e
        obtain ⟨rfl, rfl, rfl⟩ := e
        obtain ⟨vs', hv', hl'⟩ := resS_sound hl R l us hus
        obtain ⟨n, o, v', ha, hr, hvr⟩ := loadS_sound R hv (ev_sound (d := []) hl hx)
        have ha' : (⟨t'⟩ : Array Value).getD a undef = .pointer (some ⟨n, o, none⟩) := ha
        refine ⟨_, ?_, _, _, hvr, hl', rfl⟩
        simp only [List.mapM_cons, resOne, Sem.run_bind, ha', asAddr, Sem.run_pure, Result.andThen_ok, hr, hv']
      · cases e
    · cases e

theorem oneOf_VR {r : Nat → Option Pl} {vs vs' : List Value} (h : LR r vs vs') : VR r (oneOf vs) (if g : (⟨vs'⟩ : Array Value).size = 1 then (⟨vs'⟩ : Array Value)[0] else .tuple ⟨vs'⟩) := by
  match vs, h with
  | [], e => rw [LR] at e; subst e; exact ⟨[], rfl, rfl⟩
  | [x], ⟨y, zs, hy, hz, q⟩ => rw [LR] at hz; subst hz; subst q; simpa [oneOf] using hy
  | x :: x' :: xs, ⟨y, zs, hy, hz, q⟩ =>
    subst q
    have hlen := hz.length
    have : ¬ (⟨y :: zs⟩ : Array Value).size = 1 := by simp [List.size_toArray] at *; intro e; subst e; simp at hlen
    rw [dif_neg this]
    exact ⟨_, ⟨y, zs, hy, hz, rfl⟩, rfl⟩

theorem results_sound {k : Nat} {w0 w : World} {r : List Pl} {h : List Blk} {t : List (Option Value)} {t' : List Value} (hl : TR (lk r) t t') (R : Rel k w0 r h w) {fn : Func} {vs : List Value} (e : resS P t h fn.results.toList = some (vs, true)) :
    ∃ v', (results fn ⟨t'⟩).run P w = .ok v' w ∧ VR (lk r) (oneOf vs) v' := by
  obtain ⟨vs', hv, hl'⟩ := resS_sound hl R fn.results.toList vs e
  refine ⟨_, ?_, oneOf_VR hl'⟩
  have hfun : results fn ⟨t'⟩ = (do let vs ← fn.results.mapM (resOne t'); pure (if h : vs.size = 1 then vs[0] else .tuple vs)) := by
    unfold results
    have : ∀ g : ResultVar → Sem Value, (∀ x, g x = resOne t' x) → g = resOne t' := fun g h => funext h
    rw [this (fun x => _) (fun x => by cases x <;> rfl)]
  rw [hfun, Array.mapM_eq_mapM_toList]
  simp only [Sem.run_bind, Sem.run_map, hv, Result.andThen_ok]
  rfl

theorem TR.slots0 {r : Nat → Option Pl} {args args' : List Value} (h : LR r args args') (n : Nat) : TR r (slots0 n args) (args' ++ List.replicate (n - args.length) undef) := by
  refine ⟨by simp [Lift.slots0, h.length], fun i v v' e e' => ?_⟩
  unfold Lift.slots0 at e
  rcases Nat.lt_or_ge i args.length with h1 | h1
  · rw [List.getElem?_append_left (by simpa using h1), List.getElem?_map] at e
    rw [List.getElem?_append_left (by rw [h.length]; exact h1)] at e'
    obtain ⟨x, hx, q⟩ := Option.map_eq_some_iff.1 e
    cases q
    obtain ⟨y, hy, hv⟩ := h.get hx
    rw [e'] at hy; cases hy
    exact hv
  · rw [List.getElem?_append_right (by simpa using h1), List.getElem?_replicate] at e
    split at e <;> cases e

/-- Code c, begun at s, is left by x at s'. -/
def Tr (P : Program) (c : Code) (s : St) (x : Exit) (s' : St) : Prop :=
  ∀ (r : List Pl) (k : Nat) (w0 w : World) (t' : List Value) (d : List Deferred) (Q : Exit → Act → World → Prop), TR (lk r) s.t t' → Rel k w0 r s.h w →
    (∀ r' w' t'', Ext r r' → TR (lk r') s'.t t'' → Rel k w0 r' s'.h w' → Q x ⟨⟨t''⟩, d⟩ w') → c.wp P Q ⟨⟨t'⟩, d⟩ w

theorem Tr.exec {Γ : Ctr} (hΓ : CtrSound P Γ) {n : Nat} {c : Code} {s s' : St} {x : Exit} (e : exec P Γ n c s = some (x, s')) (hob : s'.ob = true) : Tr P c s x s' :=
  fun _ _ _ _ _ _ _ hl R hQ => (exec_sound hΓ n).1 c s s' x e hob hl R hQ

theorem Tr.seq {a b : Code} {s s1 s' : St} {x : Exit} (h1 : Tr P a s .normal s1) (h2 : Tr P b s1 x s') : Tr P (.seq a b) s x s' :=
  fun r k w0 w t' d Q hl R hQ => wp_seq (h1 r k w0 w t' d _ hl R fun r1 w1 t1 he hl1 R1 => h2 r1 k w0 w1 t1 d Q hl1 R1 fun r2 w2 t2 he2 hl2 R2 => hQ r2 w2 t2 (he.trans he2) hl2 R2)

theorem Tr.seq_leave {a b : Code} {s s' : St} {x : Exit} (h1 : Tr P a s x s') (hx : x ≠ .normal) : Tr P (.seq a b) s x s' :=
  fun r k w0 w t' d Q hl R hQ => wp_seq (h1 r k w0 w t' d _ hl R fun r1 w1 t1 he hl1 R1 => by
    have := hQ r1 w1 t1 he hl1 R1
    cases x <;> first | exact absurd rfl hx | exact this)

theorem Tr.block {id : Nat} {b : Code} {s s' : St} (h : Tr P b s (.exit id) s') : Tr P (.block id b) s .normal s' :=
  fun r k w0 w t' d Q hl R hQ => wp_block (h r k w0 w t' d _ hl R fun r1 w1 t1 he hl1 R1 => by
    show (if id = id then Q .normal _ _ else _)
    rw [if_pos rfl]; exact hQ r1 w1 t1 he hl1 R1)

theorem Tr.block_pass {id : Nat} {b : Code} {s s' : St} {x : Exit} (h : Tr P b s x s') (hx : ∀ j, x ≠ .exit j) : Tr P (.block id b) s x s' :=
  fun r k w0 w t' d Q hl R hQ => wp_block (h r k w0 w t' d _ hl R fun r1 w1 t1 he hl1 R1 => by
    have := hQ r1 w1 t1 he hl1 R1
    cases x <;> first | exact absurd rfl (hx _) | exact this)

theorem Tr.block_out {id j : Nat} {b : Code} {s s' : St} (h : Tr P b s (.exit j) s') (hj : j ≠ id) : Tr P (.block id b) s (.exit j) s' :=
  fun r k w0 w t' d Q hl R hQ => wp_block (h r k w0 w t' d _ hl R fun r1 w1 t1 he hl1 R1 => by
    show (if j = id then Q .normal _ _ else _)
    rw [if_neg hj]; exact hQ r1 w1 t1 he hl1 R1)

/-- Fewer slots are known, the blocks read the same. -/
structure Sub (s s' : St) : Prop where
  tl : s'.t.length = s.t.length
  t : ∀ (i : Nat) (v : Value), s'.t[i]? = some (some v) → s.t[i]? = some (some v)
  hl : s'.h.length = s.h.length
  h : ∀ (i : Nat) (b b' : Blk), s.h[i]? = some b → s'.h[i]? = some b' → b'.own = b.own ∧ b'.vals = b.vals

theorem Sub.TR {s s' : St} (h : Sub s s') {r : Nat → Option Pl} {t' : List Value} (g : Lift.TR r s.t t') : Lift.TR r s'.t t' :=
  ⟨by rw [h.tl, g.1], fun i v v' e e' => g.2 i v v' (h.t i v e) e'⟩

theorem BR.same {r : Nat → Option Pl} {p : Pl} {b b' : Blk} {o : Obj} (h1 : b'.own = b.own) (h2 : b'.vals = b.vals) (g : BR r p b o) : BR r p b' o := by
  unfold BR at g ⊢
  rw [h1, h2]; exact g

theorem Sub.Rel {s s' : St} (h : Sub s s') {k : Nat} {w0 w : World} {r : List Pl} (R : Lift.Rel k w0 r s.h w) : Lift.Rel k w0 r s'.h w where
  os := R.os
  tape := R.tape
  output := R.output
  size := R.size
  nodup := R.nodup
  len := by rw [h.hl, R.len]
  news := R.news
  blk := fun i b' hb' => by
    have hi : i < s.h.length := by rw [← h.hl]; exact (List.getElem?_eq_some_iff.1 hb').1
    obtain ⟨p, o, hp, ho, hbr⟩ := R.blk i _ (List.getElem?_eq_getElem hi)
    obtain ⟨h1, h2⟩ := h.h i _ b' (List.getElem?_eq_getElem hi) hb'
    exact ⟨p, o, hp, ho, BR.same h1 h2 hbr⟩
  old := R.old
  kle := by rw [h.hl]; exact R.kle

theorem Tr.pre {c : Code} {s s1 s' : St} {x : Exit} (h : Tr P c s1 x s') (g : Sub s s1) : Tr P c s x s' :=
  fun r k w0 w t' d Q hl R hQ => h r k w0 w t' d Q (g.TR hl) (g.Rel R) hQ
theorem Tr.post {c : Code} {s s1 s' : St} {x : Exit} (h : Tr P c s x s1) (g : Sub s1 s') : Tr P c s x s' :=
  fun r k w0 w t' d Q hl R hQ => h r k w0 w t' d Q hl R fun r1 w1 t1 he hl1 R1 => hQ r1 w1 t1 he (g.TR hl1) (g.Rel R1)

/-- A loop, from its rounds. -/
theorem Tr.for {b : Code} {x : Exit} {s' : St} (hx : x ≠ .normal) (f : Nat → St) : ∀ (N : Nat), (∀ i, i < N → Tr P b (f i) .normal (f (i + 1))) → Tr P b (f N) x s' → Tr P (.loop b) (f 0) x s' := by
  have key : ∀ (m i N : Nat), N = i + m → (∀ j, j < N → Tr P b (f j) .normal (f (j + 1))) → Tr P b (f N) x s' →
      ∀ (r : List Pl) (k : Nat) (w0 w : World) (t' : List Value) (d : List Deferred) (Q : Exit → Act → World → Prop), TR (lk r) (f i).t t' → Rel k w0 r (f i).h w →
      (∀ r' w' t'', Ext r r' → TR (lk r') s'.t t'' → Rel k w0 r' s'.h w' → Q x ⟨⟨t''⟩, d⟩ w') → Code.rounds P b Q (m + 1) ⟨⟨t'⟩, d⟩ w := by
    intro m
    induction m with
    | zero =>
      intro i N hN _ hlast r k w0 w t' d Q hl R hQ
      obtain rfl : N = i := by omega
      rw [rounds_succ]
      refine hlast r k w0 w t' d _ hl R fun r1 w1 t1 he hl1 R1 => ?_
      have := hQ r1 w1 t1 he hl1 R1
      cases x <;> first | exact absurd rfl hx | exact this
    | succ m ih =>
      intro i N hN hb hlast r k w0 w t' d Q hl R hQ
      rw [rounds_succ]
      refine hb i (by omega) r k w0 w t' d _ hl R fun r1 w1 t1 he hl1 R1 => ?_
      exact ih (i + 1) N (by omega) hb hlast r1 k w0 w1 t1 d Q hl1 R1 fun r2 w2 t2 he2 hl2 R2 => hQ r2 w2 t2 (he.trans he2) hl2 R2
  intro N hb hlast r k w0 w t' d Q hl R hQ
  exact wp_loop_rounds (N + 1) (key N 0 N (by omega) hb hlast r k w0 w t' d Q hl R hQ)

/-- Rounds of a loop, till it is left. -/
def TrR (P : Program) (b : Code) (s : St) (x : Exit) (s' : St) : Prop :=
  ∃ m : Nat, ∀ (r : List Pl) (k : Nat) (w0 w : World) (t' : List Value) (d : List Deferred) (Q : Exit → Act → World → Prop), TR (lk r) s.t t' → Rel k w0 r s.h w →
    (∀ r' w' t'', Ext r r' → TR (lk r') s'.t t'' → Rel k w0 r' s'.h w' → Q x ⟨⟨t''⟩, d⟩ w') → Code.rounds P b Q m ⟨⟨t'⟩, d⟩ w

theorem TrR.leave {b : Code} {s s' : St} {x : Exit} (h : Tr P b s x s') (hx : x ≠ .normal) : TrR P b s x s' :=
  ⟨1, fun r k w0 w t' d Q hl R hQ => by
    rw [rounds_succ]
    refine h r k w0 w t' d _ hl R fun r1 w1 t1 he hl1 R1 => ?_
    have := hQ r1 w1 t1 he hl1 R1
    cases x <;> first | exact absurd rfl hx | exact this⟩

theorem TrR.step {b : Code} {s s1 s' : St} {x : Exit} (h : Tr P b s .normal s1) (g : TrR P b s1 x s') : TrR P b s x s' := by
  obtain ⟨m, hm⟩ := g
  refine ⟨m + 1, fun r k w0 w t' d Q hl R hQ => ?_⟩
  rw [rounds_succ]
  exact h r k w0 w t' d _ hl R fun r1 w1 t1 he hl1 R1 => hm r1 k w0 w1 t1 d Q hl1 R1 fun r2 w2 t2 he2 hl2 R2 => hQ r2 w2 t2 (he.trans he2) hl2 R2

theorem TrR.loop {b : Code} {s s' : St} {x : Exit} (h : TrR P b s x s') : Tr P (.loop b) s x s' := by
  obtain ⟨m, hm⟩ := h
  exact fun r k w0 w t' d Q hl R hQ => wp_loop_rounds m (hm r k w0 w t' d Q hl R hQ)

theorem TrR.pre {b : Code} {s s1 s' : St} {x : Exit} (h : TrR P b s1 x s') (g : Sub s s1) : TrR P b s x s' := by
  obtain ⟨m, hm⟩ := h
  exact ⟨m, fun r k w0 w t' d Q hl R hQ => hm r k w0 w t' d Q (g.TR hl) (g.Rel R) hQ⟩

/-- What a call of fn comes to. -/
def FnTr (P : Program) (fn : Func) (args : List Value) (h : List Blk) (v : Value) (h' : List Blk) : Prop :=
  ∃ c x s vs, fn.body = some c ∧ (x = .ret ∨ x = .normal) ∧ Tr P c ⟨slots0 fn.ntmps args, h, true⟩ x s ∧ resS P s.t s.h fn.results.toList = some (vs, true) ∧ v = oneOf vs ∧ h' = s.h

theorem FnTr.of_callS {Γ : Ctr} (hΓ : CtrSound P Γ) {fn : Func} {n : Nat} {args : List Value} {h h' : List Blk} {v : Value} (e : callS P Γ n fn args h = some (v, h', true)) : FnTr P fn args h v h' := by
  unfold callS at e
  split at e
  · cases e
  · rename_i c hb
    split at e
    all_goals (try (cases e; done))
    all_goals
      rename_i s hs
      obtain ⟨⟨vs, p⟩, hr, q⟩ := Option.map_eq_some_iff.1 e
      simp only [Prod.mk.injEq, andT_iff] at q
      obtain ⟨rfl, rfl, hob, rfl⟩ := q
      exact ⟨c, _, s, vs, hb, by simp, Tr.exec hΓ hs hob, hr, rfl, rfl⟩

theorem FnTr.calls {f : FuncId} {fn : Func} (hf : P.funcs[f]? = some fn) {args : List Value} {h h' : List Blk} {v : Value} (e : FnTr P fn args h v h')
    {r : List Pl} {k : Nat} {w0 w : World} {args' : List Value} (hl : LR (lk r) args args') (R : Rel k w0 r h w) :
    Calls P f ⟨args'⟩ w fun e w' => ∃ v', e = .returned v' ∧ ∃ r', Ext r r' ∧ VR (lk r') v v' ∧ Rel k w0 r' h' w' := by
  obtain ⟨c, x, s, vs, hb, hx, htr, hr, rfl, rfl⟩ := e
  refine calls_of_wp hf hb ?_
  have hlen := hl.length
  have hinit := TR.slots0 hl fn.ntmps
  have htm : ((⟨args'⟩ : Array Value) ++ Array.replicate (fn.ntmps - (⟨args'⟩ : Array Value).size) undef) = ⟨args' ++ List.replicate (fn.ntmps - args.length) undef⟩ := by
    apply Array.ext'
    simp [hlen]
  rw [htm]
  refine htr r k w0 w _ _ _ hinit R fun r' w' t'' he hl' R' => ?_
  obtain ⟨v', hv, hvr⟩ := results_sound hl' R' hr
  rcases hx with rfl | rfl
  · exact ⟨rfl, v', hv, v', rfl, r', he, hvr, R'⟩
  · exact ⟨rfl, v', hv, v', rfl, r', he, hvr, R'⟩

/-- The contract of f at these arguments and blocks. -/
def CtrAt (P : Program) (f : FuncId) (vs : List Value) (h : List Blk) (v : Value) (h' : List Blk) : Prop :=
  ∀ (r : List Pl) (w : World) (args : List Value), LR (lk r) vs args → Rel h.length w r h w →
    CallOK P f ⟨args⟩ w fun v' w' => ∃ r', Ext r r' ∧ VR (lk r') v v' ∧ Rel h.length w r' h' w'

/-- The callee's block b0, at place c of the caller's block b. -/
def BK (s : Nat → Option Pl) (c : Pl) (b0 b : Blk) : Prop :=
  (∀ t, b0.own = some t → c.base = 0 ∧ c.ro = false ∧ b.own = some t ∧ LR s b0.vals b.vals) ∧
  (b0.own = none → c.ro = true ∧ LR s b0.vals ((b.vals.drop c.base).take b0.vals.length))

theorem BR.cells {r : Nat → Option Pl} {m : Pl} {b : Blk} {o : Obj} (g : BR r m b o) : ∃ c t fr, o = .cells c t fr ∧ LR r b.vals ((c.toList.drop m.base).take b.vals.length) := by
  cases hq : b.own with
  | some ty =>
    obtain ⟨h0, _, ys, hy, rfl⟩ := g.1 ty hq
    refine ⟨⟨ys⟩, ty, (0, 0), rfl, ?_⟩
    have : (ys.drop m.base).take b.vals.length = ys := by rw [h0]; simp [← hy.length]
    rw [this]; exact hy
  | none => obtain ⟨_, c, t, fr, e, h⟩ := g.2 hq; exact ⟨c, t, fr, e, h⟩

theorem take_drop_take {l : List Value} {a b n m : Nat} (h : b + n ≤ m) : (((l.drop a).take m).drop b).take n = (l.drop (a + b)).take n := by
  rw [List.drop_take, List.take_take, List.drop_drop]
  congr 1
  omega

/-- What the callee sees of the caller's block is what the machine holds. -/
theorem BR.comp {s r t : Nat → Option Pl} (h : ∀ (i : Nat) (c m : Pl), s i = some c → r c.n = some m → ∃ p, t i = some p ∧ p.n = m.n ∧ p.base = m.base + c.base) {c m p : Pl} {b0 b : Blk} {o : Obj}
    (e : BK s c b0 b) (g : BR r m b o) (hp : p.base = m.base + c.base) (hro : p.ro = c.ro) : BR t p b0 o := by
  refine ⟨fun ty hty => ?_, fun hnone => ?_⟩
  · obtain ⟨h1, h2, hown, hu⟩ := e.1 ty hty
    obtain ⟨h3, _, ys, hy, rfl⟩ := g.1 ty hown
    exact ⟨by rw [hp, h1, h3], by rw [hro, h2], ys, LR.comp h _ _ ys hu hy, rfl⟩
  · obtain ⟨h1, hu⟩ := e.2 hnone
    obtain ⟨cs, ty, fr, rfl, hy⟩ := BR.cells g
    refine ⟨by rw [hro, h1], cs, ty, fr, rfl, ?_⟩
    generalize b0.vals = vs at hu ⊢
    have hfit : c.base + vs.length ≤ b.vals.length ∨ vs = [] := by
      have := hu.length
      simp only [List.length_take, List.length_drop] at this
      rcases vs with _ | ⟨v, vs⟩
      · exact .inr rfl
      · left; simp at this ⊢; omega
    rcases hfit with hfit | rfl
    · have h4 := LR.comp h vs _ _ hu ((hy.drop c.base).take vs.length)
      rwa [take_drop_take hfit, ← hp] at h4
    · simp [LR]

/-- Behind the call: what the machine holds is what the caller may take its block to be. -/
theorem BR.other {s r t : Nat → Option Pl} (h : ∀ (i : Nat) (c m : Pl), s i = some c → r i = some m → ∃ p, t c.n = some p ∧ p.n = m.n ∧ p.base + c.base = m.base) {c m p : Pl} {b1 b2 : Blk} {ty : TypeId} {o : Obj}
    (e : LR s b1.vals b2.vals) (h1 : b1.own = some ty) (h2 : b2.own = some ty) (g : BR r m b1 o) (hp : p.base + c.base = m.base) (hro : p.ro = m.ro) : BR t p b2 o := by
  obtain ⟨h3, h4, ys, hy, rfl⟩ := g.1 ty h1
  refine ⟨fun t' ht => ?_, fun hn => by rw [h2] at hn; cases hn⟩
  rw [h2] at ht; cases ht
  exact ⟨by omega, by rw [hro, h4], ys, LR.other h _ _ ys e hy, rfl⟩

/-- A computed call as a contract for a caller whose blocks are others: 's': where each block of the callee's beginning lies among the caller's; 'ex': the callee's new blocks that the caller gets. -/
theorem ctr_of_call {f : FuncId} {fn : Func} (hf : P.funcs[f]? = some fn) (hn : fn.name ≠ "runtime.NumGoroutine") {args : List Value} {h0 h1 : List Blk} {v : Value}
    (e : FnTr P fn args h0 v h1) (s : List Pl) (ex : List Nat) {vs : List Value} {h h' : List Blk} {u : Value} (ha : LR (lk s) args vs)
    (hs : s.length = h0.length) (hsn : ∀ (i j : Nat) (c d : Pl), s[i]? = some c → s[j]? = some d → c.n = d.n → i = j ∨ (c.ro = true ∧ d.ro = true))
    (hb : ∀ (i : Nat) (b : Blk), h0[i]? = some b → ∃ c b', s[i]? = some c ∧ h[c.n]? = some b' ∧ BK (lk s) c b b')
    (t : Nat → Option Pl) (ht : ∀ (i : Nat) (c : Pl), t i = some c ↔ s[i]? = some c ∨ ∃ j : Nat, ex[j]? = some i ∧ c = ⟨h.length + j, 0, false⟩)
    (hex : ∀ j i : Nat, ex[j]? = some i → h0.length ≤ i ∧ i < h1.length) (hexn : ∀ i j c : Nat, ex[i]? = some c → ex[j]? = some c → i = j)
    (hu : VR t v u) (hlen : h'.length = h.length + ex.length)
    (hb' : ∀ (i : Nat) (c : Pl), t i = some c → c.ro = false → ∃ b b' ty, h1[i]? = some b ∧ h'[c.n]? = some b' ∧ b.own = some ty ∧ b'.own = some ty ∧ LR t b.vals b'.vals)
    (hkeep : ∀ c : Nat, c < h.length → (∀ p ∈ s, p.n = c → p.ro = true) → h'[c]? = h[c]?) : CtrAt P f vs h u h' := by
  intro r w argsm hl R
  have hbody : fn.body ≠ none := by
    obtain ⟨c, _, _, _, hc, _⟩ := e; rw [hc]; simp
  right
  refine ⟨by cases hq : fn.body with | none => exact absurd hq hbody | some c => simp [callFunc, hf, hn, hq], ?_⟩
  -- the callee's own list
  let mv : Pl → Pl := fun c => ⟨(r.getD c.n ⟨0, 0, false⟩).n, (r.getD c.n ⟨0, 0, false⟩).base + c.base, c.ro⟩
  let rc : List Pl := s.map mv
  have hmv : ∀ (c m : Pl), r[c.n]? = some m → mv c = ⟨m.n, m.base + c.base, c.ro⟩ := fun c m hm => by simp [mv, List.getD, hm]
  have hsr : ∀ (i : Nat) (c : Pl), s[i]? = some c → ∃ m, r[c.n]? = some m := fun i c hi => by
    have hi' : i < h0.length := by rw [← hs]; exact (List.getElem?_eq_some_iff.1 hi).1
    obtain ⟨c', b', hc', hb'', _⟩ := hb i _ (List.getElem?_eq_getElem hi')
    rw [hi] at hc'; cases hc'
    obtain ⟨m, _, hm, _, _⟩ := R.blk c.n b' hb''
    exact ⟨m, hm⟩
  have hrc : ∀ (i : Nat) (c m : Pl), s[i]? = some c → r[c.n]? = some m → rc[i]? = some ⟨m.n, m.base + c.base, c.ro⟩ := fun i c m hi hm => by
    simp [rc, hi, hmv c m hm]
  have hrc' : ∀ (i : Nat) (m : Pl), rc[i]? = some m → ∃ c m', s[i]? = some c ∧ r[c.n]? = some m' ∧ m = ⟨m'.n, m'.base + c.base, c.ro⟩ := fun i m hi => by
    simp only [rc, List.getElem?_map] at hi
    cases hsi : s[i]? with
    | none => simp [hsi] at hi
    | some c =>
      obtain ⟨m', hm'⟩ := hsr i c hsi
      simp only [hsi, Option.map_some, hmv c m' hm', Option.some.injEq] at hi
      exact ⟨c, m', rfl, hm', hi.symm⟩
  have hcomp : ∀ (i : Nat) (c m : Pl), lk s i = some c → lk r c.n = some m → ∃ p, lk rc i = some p ∧ p.n = m.n ∧ p.base = m.base + c.base := fun i c m h1 h2 => ⟨_, hrc i c m h1 h2, rfl, rfl⟩
  -- the kind of the caller's block at an owned place
  have hown : ∀ (i : Nat) (c m : Pl), s[i]? = some c → c.ro = false → r[c.n]? = some m → m.ro = false := fun i c m hi hc hm => by
    have hi' : i < h0.length := by rw [← hs]; exact (List.getElem?_eq_some_iff.1 hi).1
    obtain ⟨c', b', hc', hb'', hk⟩ := hb i _ (List.getElem?_eq_getElem hi')
    rw [hi] at hc'; cases hc'
    obtain ⟨m', o, hm', ho, hbr⟩ := R.blk c.n b' hb''
    rw [hm] at hm'; cases hm'
    cases hq : (h0[i]).own with
    | some ty => obtain ⟨_, _, hown, _⟩ := hk.1 ty hq; exact (hbr.1 ty hown).2.1
    | none => rw [(hk.2 hq).1] at hc; cases hc
  have Rc : Rel h0.length w rc h0 w := {
    os := rfl, tape := rfl, output := rfl, size := Nat.le_refl _
    nodup := fun i j p q hi hj e => by
      obtain ⟨c, m, hc, hm, rfl⟩ := hrc' i p hi
      obtain ⟨d, m', hd, hm', rfl⟩ := hrc' j q hj
      simp only at e ⊢
      by_cases hcd : c.n = d.n
      · exact hsn i j c d hc hd hcd
      · rcases R.nodup c.n d.n m m' hm hm' e with h1 | ⟨h1, h2⟩
        · exact absurd h1 hcd
        · right
          constructor
          · cases hq : c.ro with
            | true => rfl
            | false => have := hown i c m hc hq hm; rw [h1] at this; cases this
          · cases hq : d.ro with
            | true => rfl
            | false => have := hown j d m' hd hq hm'; rw [h2] at this; cases this
    len := by simp [rc, hs]
    news := fun i b hk hi => by
      have := (List.getElem?_eq_some_iff.1 hi).1
      simp [rc, hs] at this; omega
    blk := fun i b hi => by
      obtain ⟨c, b', hc, hcb, hk⟩ := hb i b hi
      obtain ⟨m, o, hm, ho, hbr⟩ := R.blk c.n b' hcb
      exact ⟨_, o, hrc i c m hc hm, ho, BR.comp (s := lk s) (r := lk r) hcomp hk hbr rfl rfl⟩
    old := fun _ _ _ => rfl
    kle := Nat.le_refl _ }
  have hac : LR (lk rc) args argsm := LR.comp (s := lk s) (r := lk r) hcomp _ _ _ ha hl
  intro cs
  obtain ⟨en, w', fr, ⟨v', rfl, rc2, hee, hvv, R2⟩, rest⟩ := FnTr.calls hf e hac Rc cs
  refine ⟨.returned v', w', fr, ⟨v', rfl, ?_⟩, rest⟩
  let r2 : List Pl := r ++ ex.map fun i => rc2.getD i ⟨0, 0, false⟩
  -- new blocks are owned and begin at their beginning
  have hfresh : ∀ (j i : Nat) (m : Pl), ex[j]? = some i → rc2[i]? = some m → m.base = 0 ∧ m.ro = false ∧ w.heap.size ≤ m.n := fun j i m hj hm => by
    obtain ⟨b, b', ty, h3, _, hown, _, _⟩ := hb' i ⟨h.length + j, 0, false⟩ ((ht i _).2 (.inr ⟨j, hj, rfl⟩)) rfl
    obtain ⟨m', o, hm', ho, hbr⟩ := R2.blk i _ h3
    rw [hm] at hm'; cases hm'
    exact ⟨(hbr.1 ty hown).1, (hbr.1 ty hown).2.1, R2.news i m (hex j i hj).1 hm⟩
  have hr2 : ∀ (i : Nat) (c m : Pl), t i = some c → rc2[i]? = some m → ∃ p, r2[c.n]? = some p ∧ p.n = m.n ∧ p.base + c.base = m.base ∧ (c.ro = false → p.ro = m.ro) := fun i c m hi hm => by
    rcases (ht i c).1 hi with h3 | ⟨j, hj, rfl⟩
    · obtain ⟨m', hm'⟩ := hsr i c h3
      have h4 := hee i _ (hrc i c m' h3 hm')
      rw [hm] at h4; cases h4
      exact ⟨m', Ext.append r _ c.n m' hm', rfl, rfl, fun hc => by rw [hown i c m' h3 hc hm']; exact hc.symm⟩
    · refine ⟨m, ?_, rfl, rfl, fun _ => rfl⟩
      simp only [← R.len]
      show (r ++ ex.map fun i => rc2.getD i ⟨0, 0, false⟩)[r.length + j]? = some m
      rw [List.getElem?_append_right (Nat.le_add_right _ _)]
      simp [hj, List.getD, hm]
  have hr2' : ∀ (i : Nat) (c m : Pl), t i = some c → lk rc2 i = some m → ∃ p, lk r2 c.n = some p ∧ p.n = m.n ∧ p.base + c.base = m.base := fun i c m h1 h2 => by
    obtain ⟨p, h3, h4, h5, _⟩ := hr2 i c m h1 h2
    exact ⟨p, h3, h4, h5⟩
  have hexr : ∀ (j : Nat) (m : Pl), (ex.map fun i => rc2.getD i ⟨0, 0, false⟩)[j]? = some m → ∃ i, ex[j]? = some i ∧ rc2[i]? = some m := fun j m hj => by
    simp only [List.getElem?_map] at hj
    cases hej : ex[j]? with
    | none => simp [hej] at hj
    | some i =>
      have hi := (hex j i hej).2
      rw [← R2.len] at hi
      simp only [hej, Option.map_some, List.getD, List.getElem?_eq_getElem hi, Option.getD_some, Option.some.injEq] at hj
      exact ⟨i, rfl, by rw [List.getElem?_eq_getElem hi, hj]⟩
  have hcase : ∀ (c : Nat) (m : Pl), r2[c]? = some m → r[c]? = some m ∨ ∃ j i, c = h.length + j ∧ ex[j]? = some i ∧ rc2[i]? = some m := fun c m hc => by
    rcases Nat.lt_or_ge c r.length with h3 | h3
    · left; simpa [r2, List.getElem?_append_left h3] using hc
    · right
      simp only [r2] at hc
      rw [List.getElem?_append_right h3] at hc
      obtain ⟨i, hi, hm⟩ := hexr _ _ hc
      exact ⟨c - r.length, i, by rw [← R.len]; omega, hi, hm⟩
  -- a block of the machine that no owned place of the callee's names is as it was
  have hsame : ∀ m : Nat, m < w.heap.size → (∀ (c q : Pl), c ∈ s → c.ro = false → r[c.n]? = some q → q.n ≠ m) → w'.heap[m]? = w.heap[m]? := fun m hm hno => by
    apply R2.old m hm
    intro i p hi hp hpn
    have hik : i < rc.length := by simp [rc, hs]; exact hi
    have h5 := hee i _ (List.getElem?_eq_getElem hik)
    rw [hp] at h5
    injection h5 with h5
    obtain ⟨c, q, hc, hq, h6⟩ := hrc' i p (by rw [h5]; exact List.getElem?_eq_getElem hik)
    subst h6
    simp only at hpn ⊢
    cases hcr : c.ro with
    | true => rfl
    | false => exact absurd hpn (hno c q (List.mem_iff_getElem?.2 ⟨i, hc⟩) hcr hq)
  refine ⟨r2, Ext.append r _, VR.other (s := t) (r := lk rc2) hr2' _ _ _ hu hvv, ?_⟩
  exact {
    os := R2.os, tape := R2.tape, output := R2.output, size := R2.size
    nodup := fun c d m m' hc hd e => by
      rcases hcase c m hc with h3 | ⟨j, i, rfl, hj, hm⟩ <;> rcases hcase d m' hd with h4 | ⟨j', i', rfl, hj', hm'⟩
      · exact R.nodup c d m m' h3 h4 e
      · have := R.lt h3; have := (hfresh _ _ _ hj' hm').2.2; omega
      · have := R.lt h4; have := (hfresh _ _ _ hj hm).2.2; omega
      · rcases R2.nodup i i' m m' hm hm' e with h5 | ⟨h5, _⟩
        · subst h5; left; rw [hexn j j' i hj hj']
        · rw [(hfresh _ _ _ hj hm).2.1] at h5; cases h5
    len := by simp [r2, R.len, hlen]
    news := fun c m hc hm => by
      rcases hcase c m hm with h3 | ⟨j, i, rfl, hj, hm⟩
      · have := (List.getElem?_eq_some_iff.1 h3).1; have := R.len; omega
      · exact (hfresh _ _ _ hj hm).2.2
    blk := fun c b hc => by
      rcases Nat.lt_or_ge c h.length with h3 | h3
      · by_cases hin : ∃ p ∈ s, p.n = c ∧ p.ro = false
        · obtain ⟨p, hp, rfl, hpr⟩ := hin
          obtain ⟨i, hi⟩ := List.mem_iff_getElem?.1 hp
          have hti := (ht i p).2 (.inl hi)
          obtain ⟨b1, b2, ty, hb1, hb2, o1, o2, hk⟩ := hb' i p hti hpr
          rw [hc] at hb2; cases hb2
          obtain ⟨m, o, hm, ho, hbr⟩ := R2.blk i _ hb1
          obtain ⟨q, h4, h5, h6, h7⟩ := hr2 i p m hti hm
          exact ⟨q, o, h4, by rw [h5]; exact ho, BR.other (s := t) (r := lk rc2) (c := p) (m := m) hr2' hk o1 o2 hbr h6 (h7 hpr)⟩
        · have hro : ∀ p ∈ s, p.n = c → p.ro = true := fun p hp hpc => by
            cases hq : p.ro with
            | true => rfl
            | false => exact absurd ⟨p, hp, hpc, hq⟩ hin
          rw [hkeep c h3 hro] at hc
          obtain ⟨m, o, hm, ho, hbr⟩ := R.blk c b hc
          refine ⟨m, o, Ext.append r _ c m hm, ?_, BR.mono (Ext.lk (Ext.append r _)) hbr⟩
          rw [hsame m.n (R.lt hm)]
          · exact ho
          · intro d q hd hdr hq hqn
            obtain ⟨i, hi⟩ := List.mem_iff_getElem?.1 hd
            rcases R.nodup d.n c q m hq hm hqn with h4 | ⟨h4, _⟩
            · have := hro d hd h4; rw [hdr] at this; cases this
            · rw [hown i d q hi hdr hq] at h4; cases h4
      · have hcl := (List.getElem?_eq_some_iff.1 hc).1
        rw [hlen] at hcl
        have hj : c - h.length < ex.length := by omega
        have hej := List.getElem?_eq_getElem hj
        have hcc : h.length + (c - h.length) = c := by omega
        have hti := (ht (ex[c - h.length]) ⟨c, 0, false⟩).2 (.inr ⟨c - h.length, hej, by rw [hcc]⟩)
        obtain ⟨b1, b2, ty, hb1, hb2, o1, o2, hk⟩ := hb' _ _ hti rfl
        simp only at hb2
        rw [hc] at hb2; cases hb2
        obtain ⟨m, o, hm, ho, hbr⟩ := R2.blk _ _ hb1
        obtain ⟨q, h4, h5, h6, h7⟩ := hr2 _ _ m hti hm
        exact ⟨q, o, h4, by rw [h5]; exact ho, BR.other (s := t) (r := lk rc2) (c := ⟨c, 0, false⟩) (m := m) hr2' hk o1 o2 hbr h6 (h7 rfl)⟩
    old := fun m hm hnot => by
      apply hsame m hm
      intro d q hd hdr hq hqn
      obtain ⟨i, hi⟩ := List.mem_iff_getElem?.1 hd
      have hdl : d.n < h.length := by rw [← R.len]; exact (List.getElem?_eq_some_iff.1 hq).1
      have := hnot d.n q hdl (Ext.append r _ d.n q hq) hqn
      rw [hown i d q hi hdr hq] at this; cases this
    kle := by rw [hlen]; omega }

/-- A function that takes values and yields one: its contract. -/
theorem ctr_pure {f : FuncId} {fn : Func} (hf : P.funcs[f]? = some fn) (hn : fn.name ≠ "runtime.NumGoroutine") {vs : List Value} {h1 : List Blk} {v : Value}
    (e : FnTr P fn vs [] v h1) (hvs : plainL vs = true) (hv : plain v = true) (h : List Blk) : CtrAt P f vs h v h :=
  ctr_of_call hf hn e [] [] (LR.plain vs hvs) rfl (by simp) (by simp) (fun _ => none) (by simp) (by simp) (by simp) (VR.plain v hv) (by simp) (by simp) (fun _ _ _ => rfl)

/-- The same from a computed call, its blocks let go. -/
theorem ctr_val {f : FuncId} {fn : Func} (hf : P.funcs[f]? = some fn) (hn : fn.name ≠ "runtime.NumGoroutine") {Γ : Ctr} (hΓ : CtrSound P Γ) (n : Nat) {vs : List Value} {v : Value} {p : Bool}
    (e : (callS P Γ n fn vs []).map (fun x => (x.1, x.2.2)) = some (v, p)) (hp : p = true) (hvs : plainL vs = true) (hv : plain v = true) (h : List Blk) : CtrAt P f vs h v h := by
  obtain ⟨⟨u, h1, q⟩, he, e⟩ := Option.map_eq_some_iff.1 e
  simp only [Prod.mk.injEq] at e
  obtain ⟨rfl, rfl⟩ := e
  subst hp
  exact ctr_pure hf hn (FnTr.of_callS hΓ he) hvs hv h

/-- A function of the library that is an operation of the model. -/
theorem ctr_extern {f : FuncId} {vs : List Value} {v : Value} (h : List Blk) (hvs : plainL vs = true) (hv : plain v = true) (e : ∀ w : World, (callFunc f ⟨vs⟩).run P w = .ok (.value v) w) : CtrAt P f vs h v h := by
  intro r w args hl R
  have := LR.eq_of_plain vs args hvs hl
  subst this
  exact .inl ⟨v, w, e w, r, Ext.refl r, VR.plain v hv, R⟩

/-- A contract beside its function. -/
structure Entry (P : Program) where
  f : FuncId
  g : List Value → List Blk → Option (Value × List Blk × Bool)
  pu : Bool
  ok : ∀ vs h v h', g vs h = some (v, h', true) → CtrAt P f vs h v h'
  pok : pu = true → PureG g
  /-- It leaves the blocks alone. -/
  rd : Bool := false
  rok : rd = true → ReadG g := by intro h; cases h

/-- The contract of a function from values to a value. -/
def Entry.val (f : FuncId) (g : List Value → Option (Value × Bool)) (ok : ∀ vs v, g vs = some (v, true) → ∀ h, CtrAt P f vs h v h) : Entry P where
  f := f
  g := fun vs h => match g vs with
    | some (v, p) => some (v, h, p)
    | none => none
  pu := true
  ok := fun vs h v h' e => by
    cases q : g vs with
    | none => simp [q] at e
    | some x =>
      obtain ⟨u, p⟩ := x
      simp only [q, Option.some.injEq, Prod.mk.injEq] at e
      obtain ⟨rfl, rfl, rfl⟩ := e
      exact ok vs u q h
  pok := fun _ vs h v h' p e => by
    cases q : g vs with
    | none => simp [q] at e
    | some x =>
      obtain ⟨u, p⟩ := x
      simp only [q, Option.some.injEq, Prod.mk.injEq] at e
      obtain ⟨rfl, rfl, rfl⟩ := e
      exact ⟨rfl, fun h2 => by simp only [q]⟩

def mk (es : List (Entry P)) (sym : Tmp → Option Bool := fun _ => none) : Ctr where
  sym := sym
  g := fun f vs h => match es.find? (fun e => e.f == f) with
    | some e => e.g vs h
    | none => none
  pf := fun f => match es.find? (fun e => e.f == f) with
    | some e => if e.pu then 0 else if e.rd then 1 else 2
    | none => 2

theorem mk_sound (es : List (Entry P)) (sym : Tmp → Option Bool) : CtrSound P (mk es sym) where
  calls := by
    intro f vs h v h' e
    simp only [mk] at e
    split at e
    · rename_i x hx
      have := List.find?_some hx
      simp only [beq_iff_eq] at this
      subst this
      exact x.ok vs h v h' e
    · cases e
  pure := by
    constructor <;> intro f hf <;> simp only [mk] at hf ⊢ <;> cases hx : es.find? (fun e => e.f == f) with
    | none => simp [hx] at hf
    | some x =>
      simp only [hx] at hf
      cases hp : x.pu <;> cases hr : x.rd <;> simp [hp, hr] at hf
      all_goals first | exact x.pok hp | exact x.rok hr
end
end Go.Lift
