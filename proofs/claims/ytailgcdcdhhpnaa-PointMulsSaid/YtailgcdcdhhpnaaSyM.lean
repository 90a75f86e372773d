/- This file proves the interpreter 'exec' sound, functions that are taken in among them. Conditions: those of the interpreter's own tests; the contracts that it uses are sound. -/
import Derived.Test.YtailgcdcdhhpnaaSyL
namespace Go.Sy
open Go

/-- The contracts of Γ hold of the program. -/
structure CtrSound (P : Program) (Γ : Ctr) : Prop where
  calls : GSound P Γ.g
  pure : PureC Γ.pf Γ.g
  inl : ∀ f fn, Γ.inl f = some fn → P.funcs[f]? = some fn ∧ fn.name ≠ "runtime.NumGoroutine" ∧ 2 ≤ Γ.pf f

/-- The environment with no marks of its own. -/
def Env.bare (e : Env) : Env := { e with m := [] }
theorem bare_le (e : Env) : Env.Le e e.bare := ⟨fun _ _ h => h, fun _ _ h => h, Nat.le_refl _⟩

section
variable {P : Program} {e : Env} {B : Base} {h : List Blk} {w : World}

/-- Where a call begins. -/
def baseOf (e : Env) (h : List Blk) (w : World) : Base := ⟨w, e.bare, h.length⟩

theorem BR.env {e e' : Env} (hr : ∀ i p, e.r i = some p → e'.r i = some p) (hz : ∀ n o, e.z n = some o → e'.z n = some o) (hn : e'.n0 ≤ e.n0) {p : Pl} {ps : List SV} {o : Obj} (g : BR e p ps o) : BR e' p ps o := g.mono ⟨hr, hz, hn⟩

theorem Rel.self (R : Rel B e h w) : Rel (baseOf e h w) e.bare h w where
  os := rfl
  tape := rfl
  output := rfl
  size := Nat.le_refl _
  inj := R.inj
  dom := R.dom
  sep := R.sep
  zok := R.zok
  zfresh := fun _ _ hz => .inl hz
  news := fun _ _ hi => .inl hi
  keepr := fun _ _ hi => hi
  keepz := fun _ _ hz => hz
  n0 := rfl
  n0le := by show e.n0 ≤ w.heap.size; have := R.n0; have := R.n0le; have := R.size; omega
  blk := fun i ps hi => (R.blk i ps hi).imp id fun ⟨p, o, h1, h2, h3⟩ => ⟨p, o, h1, h2, h3.mono (bare_le e)⟩
  gap := R.gap
  old := fun _ _ _ => rfl
  win := fun i p hi => by
    obtain ⟨c, t, h1, _⟩ := R.isCells hi
    exact ⟨_, _, h1, h1, c, c, t, (0, 0), rfl, rfl, rfl, fun _ _ => rfl⟩
  kr := fun i p hi => R.dom i p hi
  kle := Nat.le_refl _
  mks := fun r hr => by cases hr
  mnd := List.nodup_nil

theorem SameOut.trans {a n : Nat} {x y z : Obj} (h : SameOut a n x y) (g : SameOut a n y z) : SameOut a n x z := by
  obtain ⟨c, c', t, fr, rfl, rfl, h1, h2⟩ := h
  obtain ⟨d, d', t', fr', q, rfl, h3, h4⟩ := g
  cases q
  exact ⟨c, d', t, fr, rfl, rfl, h3.trans h1, fun j hj => (h4 j hj).trans (h2 j hj)⟩

theorem Rel.trans (R : Rel B e h w) {e' : Env} {h' : List Blk} {w' : World} (S : Rel (baseOf e h w) e' h' w') : Rel B { e' with m := e.m } h' w' where
  os := S.os.trans R.os
  tape := S.tape.trans R.tape
  output := S.output.trans R.output
  size := Nat.le_trans R.size S.size
  inj := S.inj
  dom := S.dom
  sep := S.sep
  zok := S.zok
  zfresh := fun n x hz => by
    rcases S.zfresh n x hz with g | g
    · exact R.zfresh n x g
    · exact .inr (Nat.le_trans R.size g)
  news := fun i p hi => by
    rcases S.news i p hi with g | g
    · exact R.news i p g
    · exact .inr (Nat.le_trans R.size g)
  keepr := fun i p hi => S.keepr i p (R.keepr i p hi)
  keepz := fun n x hz => S.keepz n x (R.keepz n x hz)
  n0 := S.n0.trans R.n0
  n0le := R.n0le
  blk := fun i ps hi => (S.blk i ps hi).imp id fun ⟨p, o, h1, h2, h3⟩ => ⟨p, o, h1, h2, BR.mono (e := e') (e' := { e' with m := e.m }) ⟨fun _ _ h => h, fun _ _ h => h, Nat.le_refl _⟩ h3⟩
  gap := S.gap
  old := fun n hn hno => by
    have hlt : n < w.heap.size := by have := R.size; omega
    rw [S.old n hlt fun i p hi hp => ?_]
    · exact R.old n hn hno
    · rcases R.news i p hi with g | g
      · exact hno i p g hp
      · omega
  win := fun i p hi => by
    obtain ⟨o, o', h1, h2, h3⟩ := R.win i p hi
    obtain ⟨x, x', g1, g2, g3⟩ := S.win i p (R.keepr i p hi)
    have g1' : w.heap[p.n]? = some x := g1
    rw [h2] at g1'; cases g1'
    exact ⟨o, x', h1, g2, h3.trans g3⟩
  kr := R.kr
  kle := Nat.le_trans R.kle S.kle
  mks := fun r hr => by
    have hm := R.mks r hr
    rw [S.old r (Array.getElem?_eq_some_iff.1 hm).1 fun i p hi hp => ?_]
    · exact hm
    · subst hp
      obtain ⟨c, t, h1, _⟩ := R.isCells hi
      rw [h1] at hm; cases hm
  mnd := R.mnd

/-! ### Results -/
def resOne (t' : List Value) : ResultVar → Sem Value
  | .tmp i => pure ((⟨t'⟩ : Array Value).getD i undef)
  | .cell a ty => do loadVar ty (← asAddr ((⟨t'⟩ : Array Value).getD a undef))

theorem resS_sound {t : List (Option SV)} {t' : List Value} (hl : TR e t t') (R : Rel B e h w) : ∀ (l : List ResultVar) (vs : List SV), resS P t h l = some (vs, true) →
    ∃ vs', (l.mapM (resOne t')).run P w = .ok vs' w ∧ LR e vs vs'
  | [], vs, g => by simp [resS] at g; subst g; exact ⟨[], by simp, rfl⟩
  | .tmp i :: l, vs, g => by
    simp only [resS] at g
    split at g
    · rename_i v us p hv hr
      simp only [Option.some.injEq, Prod.mk.injEq] at g
      obtain ⟨rfl, rfl⟩ := g
      obtain ⟨vs', hvs, hl'⟩ := resS_sound hl R l us hr
      refine ⟨_, ?_, _, _, ev_sound (d := []) hl hv, hl', rfl⟩
      simp only [List.mapM_cons, resOne, Sem.run_bind, hvs, Sem.run_pure, Result.andThen_ok, Act.eval]
    · cases g
  | .cell a ty :: l, vs, g => by
    simp only [resS] at g
    split at g
    · rename_i x hx
      split at g
      · rename_i v q us p hv hus
        simp only [Option.some.injEq, Prod.mk.injEq, andT_iff] at g
        obtain ⟨rfl, rfl, rfl⟩ := g
        obtain ⟨vs', hv', hl'⟩ := resS_sound hl R l us hus
        obtain ⟨ad, v', ha, hr, hvr⟩ := loadS_sound (P := P) R hv (ev_sound (d := []) hl hx)
        have ha' : (⟨t'⟩ : Array Value).getD a undef = .pointer (some ad) := ha
        refine ⟨_, ?_, _, _, hvr, hl', rfl⟩
        simp only [List.mapM_cons, resOne, Sem.run_bind, ha', asAddr, Sem.run_pure, Result.andThen_ok, hr, hv']
      · cases g
    · cases g

theorem oneOf_VR {vs : List SV} {vs' : List Value} (h : LR e vs vs') : VR e (oneOf vs) (if g : (⟨vs'⟩ : Array Value).size = 1 then (⟨vs'⟩ : Array Value)[0] else .tuple ⟨vs'⟩) := by
  match vs, h with
  | [], g => rw [LR] at g; subst g; exact ⟨[], rfl, rfl⟩
  | [x], ⟨y, zs, hy, hz, q⟩ => rw [LR] at hz; subst hz; subst q; simpa [oneOf] using hy
  | x :: x' :: xs, ⟨y, zs, hy, hz, q⟩ =>
    subst q
    have hlen := hz.length
    have : ¬ (⟨y :: zs⟩ : Array Value).size = 1 := by simp [List.size_toArray] at *; intro e; subst e; simp at hlen
    rw [dif_neg this]
    exact ⟨_, ⟨y, zs, hy, hz, rfl⟩, rfl⟩

theorem results_sound {t : List (Option SV)} {t' : List Value} (hl : TR e t t') (R : Rel B e h w) {fn : Func} {vs : List SV} (g : resS P t h fn.results.toList = some (vs, true)) :
    ∃ v', (results fn ⟨t'⟩).run P w = .ok v' w ∧ VR e (oneOf vs) v' := by
  obtain ⟨vs', hv, hl'⟩ := resS_sound hl R fn.results.toList vs g
  refine ⟨_, ?_, oneOf_VR hl'⟩
  have hfun : results fn ⟨t'⟩ = (do let vs ← fn.results.mapM (resOne t'); pure (if h : vs.size = 1 then vs[0] else .tuple vs)) := by
    unfold results
    have : ∀ g : ResultVar → Sem Value, (∀ x, g x = resOne t' x) → g = resOne t' := fun g h => funext h
    rw [this (fun x => _) (fun x => by cases x <;> rfl)]
  rw [hfun, Array.mapM_eq_mapM_toList]
  simp only [Sem.run_bind, Sem.run_map, hv, Result.andThen_ok]
  rfl

theorem TR.slots0 {args : List SV} {args' : List Value} (h : LR e args args') (n : Nat) : TR e (slots0 n args) (args' ++ List.replicate (n - args.length) undef) := by
  refine ⟨by simp [Sy.slots0, h.length], fun i v v' g g' => ?_⟩
  unfold Sy.slots0 at g
  rcases Nat.lt_or_ge i args.length with h1 | h1
  · rw [List.getElem?_append_left (by simpa using h1), List.getElem?_map] at g
    rw [List.getElem?_append_left (by rw [h.length]; exact h1)] at g'
    obtain ⟨x, hx, q⟩ := Option.map_eq_some_iff.1 g
    cases q
    obtain ⟨y, hy, hv⟩ := h.get hx
    rw [g'] at hy; cases hy
    exact hv
  · rw [List.getElem?_append_right (by simpa using h1), List.getElem?_replicate] at g
    split at g <;> cases g
end

/-- Code c, from state s, is left by x in state s': whatever the world. k: the blocks that were there when the function began. -/
def Tr (P : Program) (ro : Option Nat) (k : Nat) (c : Code) (s : St) (x : Exit) (s' : St) : Prop :=
  ∀ (B : Base) (e : Env) (w : World) (t' : List Value) (d : List Deferred) (Q : Exit → Act → World → Prop) (nn : Nat), B.k ≤ k → TR e s.t t' → Rel B e s.h w →
    (∀ e' w' t'', e'.m = e.m → TR e' s'.t t'' → Rel B e' s'.h w' → Q x ⟨⟨t''⟩, d⟩ w') → c.wpIn (wF ro) nn P Q ⟨⟨t'⟩, d⟩ w

/-- Rounds of a loop, till it is left. -/
def TrR (P : Program) (ro : Option Nat) (k : Nat) (b : Code) (s : St) (x : Exit) (s' : St) : Prop :=
  ∃ m : Nat, ∀ (B : Base) (e : Env) (w : World) (t' : List Value) (d : List Deferred) (Q : Exit → Act → World → Prop) (nn : Nat), B.k ≤ k → TR e s.t t' → Rel B e s.h w →
    (∀ e' w' t'', e'.m = e.m → TR e' s'.t t'' → Rel B e' s'.h w' → Q x ⟨⟨t''⟩, d⟩ w') → Code.roundsIn (wF ro) nn P b Q m ⟨⟨t'⟩, d⟩ w

section
variable {P : Program} {ro : Option Nat} {k : Nat}

theorem Tr.seq {a b : Code} {s s1 s' : St} {x : Exit} (h1 : Tr P ro k a s .normal s1) (h2 : Tr P ro k b s1 x s') : Tr P ro k (.seq a b) s x s' :=
  fun B e w t' d Q nn hB hl R hQ => wpIn_seq (h1 B e w t' d _ nn hB hl R fun e1 w1 t1 hm1 hl1 R1 => h2 B e1 w1 t1 d Q nn hB hl1 R1 fun e2 w2 t2 hm2 hl2 R2 => hQ e2 w2 t2 (hm2.trans hm1) hl2 R2)
theorem Tr.seq_leave {a b : Code} {s s' : St} {x : Exit} (h1 : Tr P ro k a s x s') (hx : x ≠ .normal) : Tr P ro k (.seq a b) s x s' :=
  fun B e w t' d Q nn hB hl R hQ => wpIn_seq (h1 B e w t' d _ nn hB hl R fun e1 w1 t1 hm1 hl1 R1 => by
    have := hQ e1 w1 t1 hm1 hl1 R1
    cases x <;> first | exact absurd rfl hx | exact this)
theorem Tr.block {id : Nat} {b : Code} {s s' : St} (h : Tr P ro k b s (.exit id) s') : Tr P ro k (.block id b) s .normal s' :=
  fun B e w t' d Q nn hB hl R hQ => wpIn_block (h B e w t' d _ nn hB hl R fun e1 w1 t1 hm1 hl1 R1 => by
    show (if id = id then Q .normal _ _ else _)
    rw [if_pos rfl]; exact hQ e1 w1 t1 hm1 hl1 R1)
theorem Tr.block_pass {id : Nat} {b : Code} {s s' : St} {x : Exit} (h : Tr P ro k b s x s') (hx : ∀ j, x ≠ .exit j) : Tr P ro k (.block id b) s x s' :=
  fun B e w t' d Q nn hB hl R hQ => wpIn_block (h B e w t' d _ nn hB hl R fun e1 w1 t1 hm1 hl1 R1 => by
    have := hQ e1 w1 t1 hm1 hl1 R1
    cases x <;> first | exact absurd rfl (hx _) | exact this)
theorem Tr.block_out {id j : Nat} {b : Code} {s s' : St} (h : Tr P ro k b s (.exit j) s') (hj : j ≠ id) : Tr P ro k (.block id b) s (.exit j) s' :=
  fun B e w t' d Q nn hB hl R hQ => wpIn_block (h B e w t' d _ nn hB hl R fun e1 w1 t1 hm1 hl1 R1 => by
    show (if j = id then Q .normal _ _ else _)
    rw [if_neg hj]; exact hQ e1 w1 t1 hm1 hl1 R1)
theorem Tr.cond_true {c : Operand} {a b : Code} {s s' : St} {x : Exit} (hc : ev s.t c = some (.bool true)) (h : Tr P ro k a s x s') : Tr P ro k (.cond c a b) s x s' :=
  fun B e w t' d Q nn hB hl R hQ => wpIn_cond_true (ev_sound (d := d) hl hc) (h B e w t' d Q nn hB hl R hQ)
theorem Tr.cond_false {c : Operand} {a b : Code} {s s' : St} {x : Exit} (hc : ev s.t c = some (.bool false)) (h : Tr P ro k b s x s') : Tr P ro k (.cond c a b) s x s' :=
  fun B e w t' d Q nn hB hl R hQ => wpIn_cond_false (ev_sound (d := d) hl hc) (h B e w t' d Q nn hB hl R hQ)

theorem TrR.leave {b : Code} {s s' : St} {x : Exit} (h : Tr P ro k b s x s') (hx : x ≠ .normal) : TrR P ro k b s x s' :=
  ⟨1, fun B e w t' d Q nn hB hl R hQ => by
    rw [roundsIn_succ]
    refine h B e w t' d _ nn hB hl R fun e1 w1 t1 hm1 hl1 R1 => ?_
    have := hQ e1 w1 t1 hm1 hl1 R1
    cases x <;> first | exact absurd rfl hx | exact this⟩
theorem TrR.step {b : Code} {s s1 s' : St} {x : Exit} (h : Tr P ro k b s .normal s1) (g : TrR P ro k b s1 x s') : TrR P ro k b s x s' := by
  obtain ⟨m, hm⟩ := g
  refine ⟨m + 1, fun B e w t' d Q nn hB hl R hQ => ?_⟩
  rw [roundsIn_succ]
  exact h B e w t' d _ nn hB hl R fun e1 w1 t1 hm1 hl1 R1 => hm B e1 w1 t1 d Q nn hB hl1 R1 fun e2 w2 t2 hm2 hl2 R2 => hQ e2 w2 t2 (hm2.trans hm1) hl2 R2
theorem TrR.loop {b : Code} {s s' : St} {x : Exit} (h : TrR P ro k b s x s') : Tr P ro k (.loop b) s x s' := by
  obtain ⟨m, hm⟩ := h
  exact fun B e w t' d Q nn hB hl R hQ => wpIn_loop_rounds m (hm B e w t' d Q nn hB hl R hQ)

/-- A loop, from its rounds. -/
theorem TrR.for {b : Code} {x : Exit} {s' : St} (hx : x ≠ .normal) (f : Nat → St) (N : Nat) (hb : ∀ i, i < N → Tr P ro k b (f i) .normal (f (i + 1))) (hlast : Tr P ro k b (f N) x s') : TrR P ro k b (f 0) x s' := by
  have key : ∀ (m i : Nat), N = i + m → TrR P ro k b (f i) x s' := by
    intro m
    induction m with
    | zero => intro i hN; obtain rfl : N = i := by omega
              exact TrR.leave hlast hx
    | succ m ih => intro i hN; exact TrR.step (hb i (by omega)) (ih (i + 1) (by omega))
  exact key N 0 (by omega)

/-- What a function's call comes to, from its code. -/
theorem calls_of_Tr {f : FuncId} {fn : Func} (hf : P.funcs[f]? = some fn) {c : Code} (hb : fn.body = some c) {args : List SV} {h : List Blk} {x : Exit} {s : St} {vs : List SV} (hx : x = .ret ∨ x = .normal) {kk : Nat}
    (ht : Tr P none kk c ⟨slots0 fn.ntmps args, h, true⟩ x s) (hr : resS P s.t s.h fn.results.toList = some (vs, true)) {B : Base} {e : Env} {w : World} {args' : List Value} (hB : B.k ≤ kk) (hl : LR e args args') (R : Rel B e h w) :
    Calls P f ⟨args'⟩ w fun en w' => ∃ v', en = .returned v' ∧ ∃ e', e'.m = e.m ∧ VR e' (oneOf vs) v' ∧ Rel B e' s.h w' := by
  refine callsIn_wF.1 (callsIn_of_wp (F := wF none) (n := 0) hf hb trivial ?_)
  have hlen := hl.length
  have htm : ((⟨args'⟩ : Array Value) ++ Array.replicate (fn.ntmps - (⟨args'⟩ : Array Value).size) undef) = ⟨args' ++ List.replicate (fn.ntmps - args.length) undef⟩ := by
    apply Array.ext'
    simp [hlen]
  rw [htm]
  refine ht B e w _ _ _ 0 hB (TR.slots0 hl fn.ntmps) R fun e' w' t'' hm hl' R' => ?_
  obtain ⟨v', hv, hvr⟩ := results_sound hl' R' hr
  rcases hx with rfl | rfl
  · exact ⟨rfl, v', hv, v', rfl, e', hm, hvr, R'⟩
  · exact ⟨rfl, v', hv, v', rfl, e', hm, hvr, R'⟩

theorem callFunc_enter {f : FuncId} {fn : Func} (hf : P.funcs[f]? = some fn) (hn : fn.name ≠ "runtime.NumGoroutine") (hb : fn.body ≠ none) (args : Array Value) (w : World) : (callFunc f args).run P w = .ok (.enter f args) w := by
  cases hq : fn.body with
  | none => exact absurd hq hb
  | some c => simp [callFunc, hf, hn, hq]

theorem exec_ob {Γ : Ctr} : ∀ (n k : Nat) (c : Code) (s s' : St) (x : Exit), exec P Γ n k c s = some (x, s') → s'.ob = true → s.ob = true
  | 0, _, _, _, _, _, e, _ => by simp [exec] at e
  | n + 1, k, c, s, s', x, e, h => by
    cases c <;> simp only [exec] at e
    case skip => cases e; exact h
    case label => cases e; exact h
    case exit => cases e; exact h
    case ret => cases e; exact h
    case seq a b =>
      split at e
      · rename_i s1 h1; exact exec_ob n k a s s1 _ h1 (exec_ob n k b s1 s' x e h)
      · exact exec_ob n k a s s' x e h
    case cond c a b =>
      split at e
      · exact exec_ob n k a s s' x e h
      · exact exec_ob n k b s s' x e h
      · cases e
    case block id b =>
      split at e
      · rename_i j s1 h1
        split at e <;> (cases e; exact exec_ob n k b s _ _ h1 h)
      · exact exec_ob n k b s s' x e h
    case loop b =>
      split at e
      · rename_i s1 h1; exact exec_ob n k b s s1 _ h1 (exec_ob n k _ s1 s' x e h)
      · exact exec_ob n k b s s' x e h
    case region id ops draw =>
      split at e
      · split at e
        · obtain ⟨s1, h1, h2⟩ := Option.map_eq_some_iff.1 e
          cases h2
          exact runD_ob _ ⟨s.t, s.h ++ List.replicate (makes Γ.nb ops.toList) .gap, s.ob⟩ _ h1 h
        · cases e
      · obtain ⟨s1, h1, h2⟩ := Option.map_eq_some_iff.1 e
        cases h2
        exact runOps_ob _ _ _ h1 h
    all_goals cases e

theorem callG_pure {Γ : Ctr} (hΓ : CtrSound P Γ) (ex : Nat → Code → St → Option (Exit × St)) : PureC Γ.pf (callG P Γ ex) := by
  refine ⟨fun f hf vs h j v h' new p g => ?_, fun f hf vs h j v h' new p g => ?_⟩
  · unfold callG at g ⊢
    cases hi : Γ.inl f with
    | some fn => have := (hΓ.inl f fn hi).2.2; omega
    | none => rw [hi] at g; exact hΓ.pure.1 f hf vs h j v h' new p g
  · unfold callG at g
    cases hi : Γ.inl f with
    | some fn => have := (hΓ.inl f fn hi).2.2; omega
    | none => rw [hi] at g; exact hΓ.pure.2 f hf vs h j v h' new p g

theorem callG_sound {Γ : Ctr} (hΓ : CtrSound P Γ) {n : Nat} (hex : ∀ (k : Nat) (c : Code) (s s' : St) (x : Exit), exec P Γ n k c s = some (x, s') → s'.ob = true → Tr P none k c s x s') : GSound P (callG P Γ fun k => exec P Γ n k) := by
  intro f vs h j v h' new g B e w args hl R hj
  unfold callG at g
  cases hi : Γ.inl f with
  | none => rw [hi] at g; exact hΓ.calls f vs h j v h' new g B e w args hl R hj
  | some fn =>
    obtain ⟨hf, hn, _⟩ := hΓ.inl f fn hi
    rw [hi] at g
    simp only at g
    split at g
    · rename_i u h1 p hcall
      split at g
      · rename_i hc
        simp only [Option.some.injEq, Prod.mk.injEq] at g
        obtain ⟨rfl, rfl, rfl, rfl⟩ := g
        unfold callW at hcall
        cases hb : fn.body with
        | none => rw [hb] at hcall; cases hcall
        | some c =>
          rw [hb] at hcall
          simp only at hcall
          have key : ∀ (x : Exit) (s : St), (x = .ret ∨ x = .normal) → exec P Γ n h.length c ⟨slots0 fn.ntmps vs, h, true⟩ = some (x, s) → ((resS P s.t s.h fn.results.toList).map fun q => (oneOf q.1, s.h, andT s.ob q.2)) = some (u, h1, true) →
              CallOK P f ⟨args⟩ w fun v' w' => ∃ e', VR e' u v' ∧ Rel B e' (placeH (h1.take h.length) j (h1.drop h.length)) w' ∧ EStep e e' none := fun x s hx hs hr => by
            obtain ⟨⟨rs, q⟩, hres, h2⟩ := Option.map_eq_some_iff.1 hr
            simp only [Prod.mk.injEq, andT_iff] at h2
            obtain ⟨rfl, rfl, hob, rfl⟩ := h2
            refine .inr ⟨callFunc_enter hf hn (by rw [hb]; simp) _ w, ?_⟩
            refine (calls_of_Tr hf hb hx (hex _ c _ s x hs hob) hres (B := baseOf e h w) (e := e.bare) (Nat.le_refl _) (hl.mono (bare_le e)) R.self).mono ?_
            rintro en w' ⟨v', rfl, e', hm, hv, S⟩
            have T := R.trans S
            refine ⟨v', rfl, { e' with m := e.m }, VR.mono (e := e') (e' := { e' with m := e.m }) ⟨fun _ _ h => h, fun _ _ h => h, Nat.le_refl _⟩ hv, ?_, ⟨fun i p _ hi => S.keepr i p hi, fun n x hz => S.keepz n x hz, by show e'.n0 ≤ e.n0; rw [S.n0]; exact Nat.le_refl _, rfl⟩⟩
            have hle : h.length ≤ s.h.length := S.kle
            have : placeH (s.h.take h.length) j (s.h.drop h.length) = s.h := by
              simp only [Bool.or_eq_true] at hc
              unfold placeH
              have hlt : (s.h.take h.length).length = h.length := by simp; omega
              rcases hc with hc | hc
              · have := Nat.eq_of_beq_eq_true hc
                have hd : s.h.drop h.length = [] := List.drop_eq_nil_of_le (by omega)
                rw [hd]
                split
                · rw [List.append_nil, List.take_of_length_le (by omega)]
                · simp only [fillH]; rw [List.take_of_length_le (by omega)]
              · have := Nat.eq_of_beq_eq_true hc
                rw [if_pos (by rw [hlt]; exact this), List.take_append_drop]
            rw [this]
            exact T
          split at hcall
          · rename_i s hs; exact key _ s (.inl rfl) hs hcall
          · rename_i s hs; exact key _ s (.inr rfl) hs hcall
          · cases hcall
      · cases g
    · cases g

theorem exec_sound {Γ : Ctr} (hΓ : CtrSound P Γ) : ∀ (n : Nat) (ro : Option Nat) (k : Nat),
    (∀ (c : Code) (s s' : St) (x : Exit), exec P Γ n k c s = some (x, s') → s'.ob = true → Tr P ro k c s x s') ∧
    (∀ (c : Code) (s s' : St) (x : Exit), exec P Γ n k (.loop c) s = some (x, s') → s'.ob = true → TrR P ro k c s x s') := by
  intro n
  induction n with
  | zero => exact fun ro k => ⟨fun _ _ _ _ e => by simp [exec] at e, fun _ _ _ _ e => by simp [exec] at e⟩
  | succ n ih =>
    intro ro k
    obtain ⟨ihA, ihB⟩ := ih ro k
    have hG := callG_sound hΓ fun k c s s' x => (ih none k).1 c s s' x
    have hP := callG_pure hΓ fun k => exec P Γ n k
    have hB : ∀ (c : Code) (s s' : St) (x : Exit), exec P Γ (n + 1) k (.loop c) s = some (x, s') → s'.ob = true → TrR P ro k c s x s' := by
      intro c s s' x e hob
      simp only [exec] at e
      split at e
      · rename_i s1 h1
        exact TrR.step (ihA c s s1 .normal h1 (exec_ob n k _ s1 s' x e hob)) (ihB c s1 s' x e hob)
      · rename_i hne
        have hx : x ≠ .normal := fun q => by subst q; exact hne s' e
        exact TrR.leave (ihA c s s' x e hob) hx
    refine ⟨?_, hB⟩
    intro c s s' x e hob
    cases c
    case loop b => exact TrR.loop (hB b s s' x e hob)
    all_goals simp only [exec] at e
    case skip => cases e; exact fun B e w t' d Q nn hB hl R hQ => wpIn_skip (hQ e w t' rfl hl R)
    case label => cases e; exact fun B e w t' d Q nn hB hl R hQ => wpIn_label (hQ e w t' rfl hl R)
    case exit => cases e; exact fun B e w t' d Q nn hB hl R hQ => wpIn_exit (hQ e w t' rfl hl R)
    case ret => cases e; exact fun B e w t' d Q nn hB hl R hQ => wpIn_ret (hQ e w t' rfl hl R)
    case seq a b =>
      split at e
      · rename_i s1 h1
        exact Tr.seq (ihA a s s1 .normal h1 (exec_ob n k _ s1 s' x e hob)) (ihA b s1 s' x e hob)
      · rename_i hne
        have hx : x ≠ .normal := fun q => by subst q; exact hne s' e
        exact Tr.seq_leave (ihA a s s' x e hob) hx
    case cond c a b =>
      split at e
      · rename_i hcv; exact Tr.cond_true hcv (ihA a s s' x e hob)
      · rename_i hcv; exact Tr.cond_false hcv (ihA b s s' x e hob)
      · cases e
    case block id b =>
      split at e
      · rename_i j s1 h1
        split at e
        · rename_i hj
          cases e
          subst hj
          exact Tr.block (ihA b s s' _ h1 hob)
        · rename_i hj
          cases e
          exact Tr.block_out (ihA b s s' _ h1 hob) hj
      · rename_i hne
        exact Tr.block_pass (ihA b s s' x e hob) fun j q => by subst q; exact hne j s' e
    case region id ops draw =>
      split at e
      · split at e
        · rename_i hd
          simp only [Bool.and_eq_true] at hd
          obtain ⟨s1, h1, h2⟩ := Option.map_eq_some_iff.1 e
          cases h2
          exact fun B e w t' d Q nn hB hl R hQ => region_draw_sound hG hP hd.1 hd.2 h1 hob (fun i p hi => Nat.lt_of_lt_of_le (R.kr i p hi) hB) hl R hQ id
        · cases e
      · obtain ⟨s1, h1, h2⟩ := Option.map_eq_some_iff.1 e
        cases h2
        exact fun B e w t' d Q nn hB hl R hQ => wpIn_region (runOps_sound hG _ _ _ h1 hob (fun i p hi => Nat.lt_of_lt_of_le (R.kr i p hi) hB) hl R hQ)
    all_goals cases e

theorem Tr.exec {Γ : Ctr} (hΓ : CtrSound P Γ) {n : Nat} {c : Code} {s s' : St} {x : Exit} (e : exec P Γ n k c s = some (x, s')) (hob : s'.ob = true) : Tr P ro k c s x s' := (exec_sound hΓ n ro k).1 c s s' x e hob
end
end Go.Sy
