/- This file proves the interpreter 'exec' sound, functions that are taken in among them. Conditions: those of the interpreter's own tests; the contracts that it uses are sound. -/
import Derived.Test.YtailgcdcdhhpnaaSyL
import Derived.RangeFuncLeaves
import Derived.RangeFuncRecord
import Derived.RangeFuncIn
namespace Go.Sy
open Go

/-- The contracts of Γ hold of the program. -/
structure CtrSound (P : Program) (Γ : Ctr) : Prop where
  calls : GSoundF P Γ.g
  pure : PureC Γ.pf (fnG Γ.g)
  inl : ∀ f fn, Γ.inl f = some fn → P.funcs[f]? = some fn ∧ fn.name ≠ "runtime.NumGoroutine" ∧ 2 ≤ Γ.pf f

/-- The environment with no marks of its own, and with the loops of the blocks h alone. -/
def Env.bare (e : Env) (h : List Blk) : Env := { e with m := [], y := fun i => match lpAt h i with | some _ => e.y i | none => none }
theorem bare_le (e : Env) (h : List Blk) : Env.Le e (e.bare h) := ⟨fun _ _ h => h, fun _ _ h => h, Nat.le_refl _⟩
theorem lpAt_of {h : List Blk} {i : Nat} {L : Lp} (g : h[i]? = some (.g (some L))) : lpAt h i = some L := by unfold lpAt; rw [g]
theorem lpAt_eq {h : List Blk} {i : Nat} {L : Lp} (g : lpAt h i = some L) : h[i]? = some (.g (some L)) := by
  unfold lpAt at g
  split at g
  · rename_i L' hq; cases g; exact hq
  · cases g
theorem bare_y {e : Env} {h : List Blk} {i : Nat} {L : Lp} (g : h[i]? = some (.g (some L))) : (e.bare h).y i = e.y i := by
  show (match lpAt h i with | some _ => e.y i | none => none) = e.y i
  rw [lpAt_of g]
theorem bare_y' {e : Env} {h : List Blk} {i n : Nat} (g : (e.bare h).y i = some n) : e.y i = some n ∧ ∃ L, h[i]? = some (.g (some L)) := by
  have g' : (match lpAt h i with | some _ => e.y i | none => none) = some n := g
  split at g'
  · rename_i L hL; exact ⟨g', L, lpAt_eq hL⟩
  · cases g'
/-- The loops' records among the blocks. -/
def loopOf : Blk → Option Nat
  | .g (some L) => some L.l
  | _ => none
def loopsOf (h : List Blk) : List Nat := h.filterMap loopOf
theorem loopsOf_mem {h : List Blk} {n : Nat} : n ∈ loopsOf h ↔ ∃ (i : Nat) (L : Lp), h[i]? = some (.g (some L)) ∧ L.l = n := by
  unfold loopsOf
  rw [List.mem_filterMap]
  constructor
  · rintro ⟨b, hb, hq⟩
    obtain ⟨i, hi⟩ := List.mem_iff_getElem?.1 hb
    match b, hq with
    | .g (some L), hq => exact ⟨i, L, hi, Option.some.inj hq⟩
  · rintro ⟨i, L, hi, rfl⟩
    exact ⟨_, List.mem_of_getElem? hi, rfl⟩

section
variable {P : Program} {e : Env} {B : Base} {h : List Blk} {w : World}

/-- Where a call begins. -/
def baseOf (e : Env) (h : List Blk) (w : World) : Base := ⟨w, e.bare h, h.length, loopsOf h⟩

theorem BR.env {e e' : Env} (hr : ∀ i p, e.r i = some p → e'.r i = some p) (hz : ∀ n o, e.z n = some o → e'.z n = some o) (hn : e'.n0 ≤ e.n0) {p : Pl} {ps : List SV} {o : Obj} (g : BR e p ps o) : BR e' p ps o := g.mono ⟨hr, hz, hn⟩

theorem Rel.self (R : Rel B e h w) : Rel (baseOf e h w) (e.bare h) h w where
  os := rfl
  tape := rfl
  output := rfl
  size := Nat.le_refl _
  inj := R.inj
  dom := R.dom
  sep := R.sep
  zok := R.zok
  zfresh := fun _ _ hz => .inl hz
  news := fun _ _ hi => .inl hi
  keepr := fun _ _ hi => hi
  keepz := fun _ _ hz => hz
  n0 := rfl
  n0le := by show e.n0 ≤ w.heap.size; have := R.n0; have := R.n0le; have := R.size; omega
  blk := fun i ps hi => (R.blk i ps hi).imp id fun ⟨p, o, h1, h2, h3⟩ => ⟨p, o, h1, h2, h3.mono (bare_le e h)⟩
  gap := fun i g hi => ⟨(R.gap i g hi).1, by
    have hg := (R.gap i g hi).2
    cases g with
    | none => trivial
    | some L => exact hg.le (fun _ _ h => h) (bare_y hi) (bare_le e h)⟩
  yi := fun i j n hi hj => R.yi i j n (bare_y' hi).1 (bare_y' hj).1
  yb := fun i n hi => by
    obtain ⟨h1, L, h2⟩ := bare_y' hi
    have := (R.gap i _ h2).2.1
    rw [h1] at this; cases this
    exact .inl (loopsOf_mem.2 ⟨i, L, h2, rfl⟩)
  old := fun _ _ _ _ => rfl
  win := fun i p hi => by
    obtain ⟨c, t, h1, _⟩ := R.isCells hi
    exact ⟨_, _, h1, h1, c, c, t, (0, 0), rfl, rfl, rfl, fun _ _ => rfl⟩
  kr := fun i p hi => R.dom i p hi
  kle := Nat.le_refl _
  mks := fun r hr => by cases hr
  mnd := List.nodup_nil

theorem SameOut.trans {a n : Nat} {x y z : Obj} (h : SameOut a n x y) (g : SameOut a n y z) : SameOut a n x z := by
  obtain ⟨c, c', t, fr, rfl, rfl, h1, h2⟩ := h
  obtain ⟨d, d', t', fr', q, rfl, h3, h4⟩ := g
  cases q
  exact ⟨c, d', t, fr, rfl, rfl, h3.trans h1, fun j hj => (h4 j hj).trans (h2 j hj)⟩

theorem Rel.trans (R : Rel B e h w) {e' : Env} {h' : List Blk} {w' : World} (S : Rel (baseOf e h w) e' h' w') : Rel B { e' with m := e.m } h' w' where
  os := S.os.trans R.os
  tape := S.tape.trans R.tape
  output := S.output.trans R.output
  size := Nat.le_trans R.size S.size
  inj := S.inj
  dom := S.dom
  sep := S.sep
  zok := S.zok
  zfresh := fun n x hz => by
    rcases S.zfresh n x hz with g | g
    · exact R.zfresh n x g
    · exact .inr (Nat.le_trans R.size g)
  news := fun i p hi => by
    rcases S.news i p hi with g | g
    · exact R.news i p g
    · exact .inr (Nat.le_trans R.size g)
  keepr := fun i p hi => S.keepr i p (R.keepr i p hi)
  keepz := fun n x hz => S.keepz n x (R.keepz n x hz)
  n0 := S.n0.trans R.n0
  n0le := R.n0le
  blk := fun i ps hi => (S.blk i ps hi).imp id fun ⟨p, o, h1, h2, h3⟩ => ⟨p, o, h1, h2, BR.mono (e := e') (e' := { e' with m := e.m }) ⟨fun _ _ h => h, fun _ _ h => h, Nat.le_refl _⟩ h3⟩
  gap := fun i g hi => ⟨(S.gap i g hi).1, (S.gap i g hi).2.le (fun _ _ h => h) rfl ⟨fun _ _ h => h, fun _ _ h => h, Nat.le_refl _⟩⟩
  yi := S.yi
  yb := fun i n hi => by
    rcases S.yb i n hi with g | g
    · obtain ⟨i0, L, h1, rfl⟩ := loopsOf_mem.1 g
      exact R.yb i0 _ (R.gap i0 _ h1).2.1
    · exact .inr (Nat.le_trans R.size g)
  old := fun n hn hno hnl => by
    have hlt : n < w.heap.size := by have := R.size; omega
    rw [S.old n hlt (fun i p hi hp => ?_) (fun hl => ?_)]
    · exact R.old n hn hno hnl
    · rcases R.news i p hi with g | g
      · exact hno i p g hp
      · omega
    · obtain ⟨i0, L, h1, rfl⟩ := loopsOf_mem.1 hl
      rcases R.yb i0 _ (R.gap i0 _ h1).2.1 with g | g
      · exact hnl g
      · omega
  win := fun i p hi => by
    obtain ⟨o, o', h1, h2, h3⟩ := R.win i p hi
    obtain ⟨x, x', g1, g2, g3⟩ := S.win i p (R.keepr i p hi)
    have g1' : w.heap[p.n]? = some x := g1
    rw [h2] at g1'; cases g1'
    exact ⟨o, x', h1, g2, h3.trans g3⟩
  kr := R.kr
  kle := Nat.le_trans R.kle S.kle
  mks := fun r hr => by
    have hm := R.mks r hr
    refine ⟨?_, hm.2⟩
    rw [S.old r (Array.getElem?_eq_some_iff.1 hm.1).1 (fun i p hi hp => ?_) (fun hl => ?_)]
    · exact hm.1
    · subst hp
      obtain ⟨c, t, h1, _⟩ := R.isCells hi
      have h2 := hm.1
      rw [h1] at h2; cases h2
    · obtain ⟨i0, L, h1, rfl⟩ := loopsOf_mem.1 hl
      obtain ⟨_, r, h2, _⟩ := (R.gap i0 _ h1).2
      have h3 := hm.1
      rw [h2] at h3; cases h3
  mnd := R.mnd

/-! ### Results -/
def resOne (t' : List Value) : ResultVar → Sem Value
  | .tmp i => pure ((⟨t'⟩ : Array Value).getD i undef)
  | .cell a ty => do loadVar ty (← asAddr ((⟨t'⟩ : Array Value).getD a undef))

theorem resS_sound {t : List (Option SV)} {t' : List Value} (hl : TR e t t') (R : Rel B e h w) : ∀ (l : List ResultVar) (vs : List SV), resS P t h l = some (vs, true) →
    ∃ vs', (l.mapM (resOne t')).run P w = .ok vs' w ∧ LR e vs vs'
  | [], vs, g => by simp [resS] at g; subst g; exact ⟨[], by simp, rfl⟩
  | .tmp i :: l, vs, g => by
    simp only [resS] at g
    split at g
    · rename_i v us p hv hr
      simp only [Option.some.injEq, Prod.mk.injEq] at g
      obtain ⟨rfl, rfl⟩ := g
      obtain ⟨vs', hvs, hl'⟩ := resS_sound hl R l us hr
      refine ⟨_, ?_, _, _, ev_sound (d := []) hl hv, hl', rfl⟩
      simp only [List.mapM_cons, resOne, Sem.run_bind, hvs, Sem.run_pure, Result.andThen_ok, Act.eval]
    · cases g
  | .cell a ty :: l, vs, g => by
    simp only [resS] at g
    split at g
    · rename_i x hx
      split at g
      · rename_i v q us p hv hus
        simp only [Option.some.injEq, Prod.mk.injEq, andT_iff] at g
        obtain ⟨rfl, rfl, rfl⟩ := g
        obtain ⟨vs', hv', hl'⟩ := resS_sound hl R l us hus
        obtain ⟨ad, v', ha, hr, hvr⟩ := loadS_sound (P := P) R hv (ev_sound (d := []) hl hx)
        have ha' : (⟨t'⟩ : Array Value).getD a undef = .pointer (some ad) := ha
        refine ⟨_, ?_, _, _, hvr, hl', rfl⟩
        simp only [List.mapM_cons, resOne, Sem.run_bind, ha', asAddr, Sem.run_pure, Result.andThen_ok, hr, hv']
      · cases g
    · cases g

theorem oneOf_VR {vs : List SV} {vs' : List Value} (h : LR e vs vs') : VR e (oneOf vs) (if g : (⟨vs'⟩ : Array Value).size = 1 then (⟨vs'⟩ : Array Value)[0] else .tuple ⟨vs'⟩) := by
  match vs, h with
  | [], g => rw [LR] at g; subst g; exact ⟨[], rfl, rfl⟩
  | [x], ⟨y, zs, hy, hz, q⟩ => rw [LR] at hz; subst hz; subst q; simpa [oneOf] using hy
  | x :: x' :: xs, ⟨y, zs, hy, hz, q⟩ =>
    subst q
    have hlen := hz.length
    have : ¬ (⟨y :: zs⟩ : Array Value).size = 1 := by simp [List.size_toArray] at *; intro e; subst e; simp at hlen
    rw [dif_neg this]
    exact ⟨_, ⟨y, zs, hy, hz, rfl⟩, rfl⟩

theorem results_sound {t : List (Option SV)} {t' : List Value} (hl : TR e t t') (R : Rel B e h w) {fn : Func} {vs : List SV} (g : resS P t h fn.results.toList = some (vs, true)) :
    ∃ v', (results fn ⟨t'⟩).run P w = .ok v' w ∧ VR e (oneOf vs) v' := by
  obtain ⟨vs', hv, hl'⟩ := resS_sound hl R fn.results.toList vs g
  refine ⟨_, ?_, oneOf_VR hl'⟩
  have hfun : results fn ⟨t'⟩ = (do let vs ← fn.results.mapM (resOne t'); pure (if h : vs.size = 1 then vs[0] else .tuple vs)) := by
    unfold results
    have : ∀ g : ResultVar → Sem Value, (∀ x, g x = resOne t' x) → g = resOne t' := fun g h => funext h
    rw [this (fun x => _) (fun x => by cases x <;> rfl)]
  rw [hfun, Array.mapM_eq_mapM_toList]
  simp only [Sem.run_bind, Sem.run_map, hv, Result.andThen_ok]
  rfl

theorem TR.slots0 {args : List SV} {args' : List Value} (h : LR e args args') (n : Nat) : TR e (slots0 n args) (args' ++ List.replicate (n - args.length) undef) := by
  refine ⟨by simp [Sy.slots0, h.length], fun i v v' g g' => ?_⟩
  unfold Sy.slots0 at g
  rcases Nat.lt_or_ge i args.length with h1 | h1
  · rw [List.getElem?_append_left (by simpa using h1), List.getElem?_map] at g
    rw [List.getElem?_append_left (by rw [h.length]; exact h1)] at g'
    obtain ⟨x, hx, q⟩ := Option.map_eq_some_iff.1 g
    cases q
    obtain ⟨y, hy, hv⟩ := h.get hx
    rw [g'] at hy; cases hy
    exact hv
  · rw [List.getElem?_append_right (by simpa using h1), List.getElem?_replicate] at g
    split at g <;> cases g
end

/-- The marks among the deferred calls. -/
def mkD (m : List Nat) : List Deferred := m.map fun r => { target := .collected r, args := #[] }

/-- Code c, from state s, is left by x in state s': whatever the world. k: the blocks that were there when the function began. -/
def Tr (P : Program) (ro : Option Nat) (k : Nat) (c : Code) (s : St) (x : Exit) (s' : St) : Prop :=
  ∀ (B : Base) (e : Env) (w : World) (t' : List Value) (d : List Deferred) (Q : Exit → Act → World → Prop) (nn : Nat), B.k ≤ k → TR e s.t t' → Rel B e s.h w →
    (∀ e' w' t'', TR e' s'.t t'' → Rel B e' s'.h w' → Q x ⟨⟨t''⟩, mkD e'.m ++ d⟩ w') → c.wpIn (wF ro) nn P Q ⟨⟨t'⟩, mkD e.m ++ d⟩ w

/-- Rounds of a loop, till it is left. -/
def TrR (P : Program) (ro : Option Nat) (k : Nat) (b : Code) (s : St) (x : Exit) (s' : St) : Prop :=
  ∃ m : Nat, ∀ (B : Base) (e : Env) (w : World) (t' : List Value) (d : List Deferred) (Q : Exit → Act → World → Prop) (nn : Nat), B.k ≤ k → TR e s.t t' → Rel B e s.h w →
    (∀ e' w' t'', TR e' s'.t t'' → Rel B e' s'.h w' → Q x ⟨⟨t''⟩, mkD e'.m ++ d⟩ w') → Code.roundsIn (wF ro) nn P b Q m ⟨⟨t'⟩, mkD e.m ++ d⟩ w

section
variable {P : Program} {ro : Option Nat} {k : Nat}

theorem Tr.seq {a b : Code} {s s1 s' : St} {x : Exit} (h1 : Tr P ro k a s .normal s1) (h2 : Tr P ro k b s1 x s') : Tr P ro k (.seq a b) s x s' :=
  fun B e w t' d Q nn hB hl R hQ => wpIn_seq (h1 B e w t' d _ nn hB hl R fun e1 w1 t1 hl1 R1 => h2 B e1 w1 t1 d Q nn hB hl1 R1 fun e2 w2 t2 hl2 R2 => hQ e2 w2 t2 hl2 R2)
theorem Tr.seq_leave {a b : Code} {s s' : St} {x : Exit} (h1 : Tr P ro k a s x s') (hx : x ≠ .normal) : Tr P ro k (.seq a b) s x s' :=
  fun B e w t' d Q nn hB hl R hQ => wpIn_seq (h1 B e w t' d _ nn hB hl R fun e1 w1 t1 hl1 R1 => by
    have := hQ e1 w1 t1 hl1 R1
    cases x <;> first | exact absurd rfl hx | exact this)
theorem Tr.block {id : Nat} {b : Code} {s s' : St} (h : Tr P ro k b s (.exit id) s') : Tr P ro k (.block id b) s .normal s' :=
  fun B e w t' d Q nn hB hl R hQ => wpIn_block (h B e w t' d _ nn hB hl R fun e1 w1 t1 hl1 R1 => by
    show (if id = id then Q .normal _ _ else _)
    rw [if_pos rfl]; exact hQ e1 w1 t1 hl1 R1)
theorem Tr.block_pass {id : Nat} {b : Code} {s s' : St} {x : Exit} (h : Tr P ro k b s x s') (hx : ∀ j, x ≠ .exit j) : Tr P ro k (.block id b) s x s' :=
  fun B e w t' d Q nn hB hl R hQ => wpIn_block (h B e w t' d _ nn hB hl R fun e1 w1 t1 hl1 R1 => by
    have := hQ e1 w1 t1 hl1 R1
    cases x <;> first | exact absurd rfl (hx _) | exact this)
theorem Tr.block_out {id j : Nat} {b : Code} {s s' : St} (h : Tr P ro k b s (.exit j) s') (hj : j ≠ id) : Tr P ro k (.block id b) s (.exit j) s' :=
  fun B e w t' d Q nn hB hl R hQ => wpIn_block (h B e w t' d _ nn hB hl R fun e1 w1 t1 hl1 R1 => by
    show (if j = id then Q .normal _ _ else _)
    rw [if_neg hj]; exact hQ e1 w1 t1 hl1 R1)
theorem Tr.cond_true {c : Operand} {a b : Code} {s s' : St} {x : Exit} (hc : ev s.t c = some (.bool true)) (h : Tr P ro k a s x s') : Tr P ro k (.cond c a b) s x s' :=
  fun B e w t' d Q nn hB hl R hQ => wpIn_cond_true (ev_sound hl hc) (h B e w t' d Q nn hB hl R hQ)
theorem Tr.cond_false {c : Operand} {a b : Code} {s s' : St} {x : Exit} (hc : ev s.t c = some (.bool false)) (h : Tr P ro k b s x s') : Tr P ro k (.cond c a b) s x s' :=
  fun B e w t' d Q nn hB hl R hQ => wpIn_cond_false (ev_sound hl hc) (h B e w t' d Q nn hB hl R hQ)

theorem TrR.leave {b : Code} {s s' : St} {x : Exit} (h : Tr P ro k b s x s') (hx : x ≠ .normal) : TrR P ro k b s x s' :=
  ⟨1, fun B e w t' d Q nn hB hl R hQ => by
    rw [roundsIn_succ]
    refine h B e w t' d _ nn hB hl R fun e1 w1 t1 hl1 R1 => ?_
    have := hQ e1 w1 t1 hl1 R1
    cases x <;> first | exact absurd rfl hx | exact this⟩
theorem TrR.step {b : Code} {s s1 s' : St} {x : Exit} (h : Tr P ro k b s .normal s1) (g : TrR P ro k b s1 x s') : TrR P ro k b s x s' := by
  obtain ⟨m, hm⟩ := g
  refine ⟨m + 1, fun B e w t' d Q nn hB hl R hQ => ?_⟩
  rw [roundsIn_succ]
  exact h B e w t' d _ nn hB hl R fun e1 w1 t1 hl1 R1 => hm B e1 w1 t1 d Q nn hB hl1 R1 fun e2 w2 t2 hl2 R2 => hQ e2 w2 t2 hl2 R2
theorem TrR.loop {b : Code} {s s' : St} {x : Exit} (h : TrR P ro k b s x s') : Tr P ro k (.loop b) s x s' := by
  obtain ⟨m, hm⟩ := h
  exact fun B e w t' d Q nn hB hl R hQ => wpIn_loop_rounds m (hm B e w t' d Q nn hB hl R hQ)

/-- A loop, from its rounds. -/
theorem TrR.for {b : Code} {x : Exit} {s' : St} (hx : x ≠ .normal) (f : Nat → St) (N : Nat) (hb : ∀ i, i < N → Tr P ro k b (f i) .normal (f (i + 1))) (hlast : Tr P ro k b (f N) x s') : TrR P ro k b (f 0) x s' := by
  have key : ∀ (m i : Nat), N = i + m → TrR P ro k b (f i) x s' := by
    intro m
    induction m with
    | zero => intro i hN; obtain rfl : N = i := by omega
              exact TrR.leave hlast hx
    | succ m ih => intro i hN; exact TrR.step (hb i (by omega)) (ih (i + 1) (by omega))
  exact key N 0 (by omega)

/-- A mark is taken off: its block is shut. -/
theorem Rel.unmark {B : Base} {e : Env} {h : List Blk} {w : World} (R : Rel B e h w) {r : Nat} {m : List Nat} (hm : e.m = r :: m) : Rel B { e with m := m } h (w.putObj r (.deferred none)) := by
  obtain ⟨hr, hrB⟩ := R.mks r (by rw [hm]; simp)
  have hother : ∀ n, n ≠ r → (w.putObj r (.deferred none)).heap[n]? = w.heap[n]? := fun n hn => World.putObj_heap_other hn
  have le : Env.Le e { e with m := m } := ⟨fun _ _ h => h, fun _ _ h => h, Nat.le_refl _⟩
  have cellsK : ∀ {n : Nat} {c : Array Value} {t : TypeId} {fr : Nat × Nat}, w.heap[n]? = some (.cells c t fr) → (w.putObj r (.deferred none)).heap[n]? = some (.cells c t fr) := fun {n c t fr} h => by
    rw [hother n (fun q => by subst q; rw [hr] at h; cases h)]; exact h
  exact {
    os := R.os, tape := R.tape, output := R.output
    size := by rw [World.putObj_size]; exact R.size
    inj := R.inj, dom := R.dom, sep := R.sep
    zok := fun n c t fr hz => cellsK (R.zok n c t fr hz)
    zfresh := R.zfresh, news := R.news, keepr := R.keepr, keepz := R.keepz, n0 := R.n0, n0le := R.n0le
    blk := fun i ps hi => (R.blk i ps hi).imp id fun ⟨p, o, h1, h2, h3⟩ => by
      obtain ⟨c, t, rfl, h4, h5, h6⟩ := h3
      exact ⟨p, _, h1, cellsK h2, c, t, rfl, h4, h5, h6.mono le⟩
    gap := fun i g hi => ⟨(R.gap i g hi).1, (R.gap i g hi).2.le (fun n o hn => by rw [hother n (fun q => by subst q; rw [hr] at hn; cases hn)]; exact hn) rfl le⟩
    yi := R.yi, yb := R.yb
    old := fun n hn hno hnl => by rw [hother n (by omega)]; exact R.old n hn hno hnl
    win := fun i p hi => by
      obtain ⟨o, o', h1, h2, h3⟩ := R.win i p hi
      obtain ⟨c, c', t, fr, rfl, rfl, h4⟩ := h3
      exact ⟨_, _, h1, cellsK h2, c, c', t, fr, rfl, rfl, h4⟩
    kr := R.kr, kle := R.kle
    mks := fun q hq => by
      have hnd := R.mnd
      rw [hm, List.nodup_cons] at hnd
      refine ⟨?_, (R.mks q (by rw [hm]; simp [hq])).2⟩
      rw [hother q (fun x => by subst x; exact hnd.1 hq)]
      exact (R.mks q (by rw [hm]; simp [hq])).1
    mnd := by have hnd := R.mnd; rw [hm, List.nodup_cons] at hnd; exact hnd.2 }

/-- A function's end: its marks are taken off. -/
theorem leaves_marks {fn : Func} {t : List (Option SV)} {h : List Blk} {vs : List SV} (hr : resS P t h fn.results.toList = some (vs, true)) {B : Base} {t'' : List Value} {K : Ending → World → Prop} : ∀ (m : List Nat) (e : Env) (w : World), e.m = m → TR e t t'' → Rel B e h w →
    (∀ v' e' w', VR e' (oneOf vs) v' → Rel B e' h w' → K (.returned v') w') → LeavesInM (wF none) 0 P fn ⟨t''⟩ K (mkD m ++ []) .returning w
  | [], e, w, _, hl, R, hK => by
    obtain ⟨v', hv, hvr⟩ := results_sound hl R hr
    exact ⟨v', hv, hK v' e w hvr R⟩
  | r :: m, e, w, hm, hl, R, hK => by
    have hr1 := (R.mks r (by rw [hm]; simp)).1
    refine ⟨by simp, .inl ⟨r, _, rfl, run_takeDeferred hr1, ?_⟩⟩
    exact leaves_marks hr m { e with m := m } _ rfl (TR.mono (e := e) (e' := { e with m := m }) ⟨fun _ _ h => h, fun _ _ h => h, Nat.le_refl _⟩ hl) (R.unmark hm) hK

/-- What a function's call comes to, from its code; since the call. -/
theorem calls_of_TrS {f : FuncId} {fn : Func} (hf : P.funcs[f]? = some fn) {c : Code} (hb : fn.body = some c) {args : List SV} {h : List Blk} {x : Exit} {s : St} {vs : List SV} (hx : x = .ret ∨ x = .normal) {kk : Nat}
    (ht : Tr P none kk c ⟨slots0 fn.ntmps args, h, true⟩ x s) (hr : resS P s.t s.h fn.results.toList = some (vs, true)) {B : Base} {e : Env} {w : World} {args' : List Value} (hB : h.length ≤ kk) (hl : LR e args args') (R : Rel B e h w) :
    Calls P f ⟨args'⟩ w fun en w' => ∃ v', en = .returned v' ∧ ∃ e', VR e' (oneOf vs) v' ∧ Rel (baseOf e h w) e' s.h w' := by
  refine callsIn_wF.1 (callsIn_of_wp_marks (F := wF none) (n := 0) hf hb trivial ?_)
  have hlen := hl.length
  have htm : ((⟨args'⟩ : Array Value) ++ Array.replicate (fn.ntmps - (⟨args'⟩ : Array Value).size) undef) = ⟨args' ++ List.replicate (fn.ntmps - args.length) undef⟩ := by
    apply Array.ext'
    simp [hlen]
  rw [htm]
  have key := ht (baseOf e h w) (e.bare h) w (args' ++ List.replicate (fn.ntmps - args.length) undef) [] (bodyPostM (wF none) 0 P fn fun en w' => ∃ v', en = .returned v' ∧ ∃ e', VR e' (oneOf vs) v' ∧ Rel (baseOf e h w) e' s.h w') 0 hB (TR.slots0 (hl.mono (bare_le e h)) fn.ntmps) R.self
  refine key fun e' w' t'' hl' R' => ?_
  have fin := leaves_marks (fn := fn) (K := fun en w' => ∃ v', en = .returned v' ∧ ∃ e', VR e' (oneOf vs) v' ∧ Rel (baseOf e h w) e' s.h w') hr e'.m e' w' rfl hl' R' fun v' e2 w2 hv R2 => ⟨v', rfl, e2, hv, R2⟩
  rcases hx with rfl | rfl
  · exact fin
  · exact fin

/-- What a function's call comes to, from its code. -/
theorem calls_of_Tr {f : FuncId} {fn : Func} (hf : P.funcs[f]? = some fn) {c : Code} (hb : fn.body = some c) {args : List SV} {h : List Blk} {x : Exit} {s : St} {vs : List SV} (hx : x = .ret ∨ x = .normal) {kk : Nat}
    (ht : Tr P none kk c ⟨slots0 fn.ntmps args, h, true⟩ x s) (hr : resS P s.t s.h fn.results.toList = some (vs, true)) {B : Base} {e : Env} {w : World} {args' : List Value} (hB : h.length ≤ kk) (hl : LR e args args') (R : Rel B e h w) :
    Calls P f ⟨args'⟩ w fun en w' => ∃ v', en = .returned v' ∧ ∃ e', e'.m = e.m ∧ VR e' (oneOf vs) v' ∧ Rel B e' s.h w' := by
  refine (calls_of_TrS hf hb hx ht hr hB hl R).mono ?_
  rintro en w' ⟨v', rfl, e', hv, S⟩
  exact ⟨v', rfl, { e' with m := e.m }, rfl, VR.mono (e := e') (e' := { e' with m := e.m }) ⟨fun _ _ h => h, fun _ _ h => h, Nat.le_refl _⟩ hv, R.trans S⟩

theorem callFunc_enter {f : FuncId} {fn : Func} (hf : P.funcs[f]? = some fn) (hn : fn.name ≠ "runtime.NumGoroutine") (hb : fn.body ≠ none) (args : Array Value) (w : World) : (callFunc f args).run P w = .ok (.enter f args) w := by
  cases hq : fn.body with
  | none => exact absurd hq hb
  | some c => simp [callFunc, hf, hn, hq]

theorem exec_ob {Γ : Ctr} : ∀ (n k : Nat) (c : Code) (s s' : St) (x : Exit), exec P Γ n k c s = some (x, s') → s'.ob = true → s.ob = true
  | 0, _, _, _, _, _, e, _ => by simp [exec] at e
  | n + 1, k, c, s, s', x, e, h => by
    cases c <;> simp only [exec] at e
    case skip => cases e; exact h
    case label => cases e; exact h
    case exit => cases e; exact h
    case ret => cases e; exact h
    case seq a b =>
      split at e
      · rename_i s1 h1; exact exec_ob n k a s s1 _ h1 (exec_ob n k b s1 s' x e h)
      · exact exec_ob n k a s s' x e h
    case cond c a b =>
      split at e
      · exact exec_ob n k a s s' x e h
      · exact exec_ob n k b s s' x e h
      · cases e
    case block id b =>
      split at e
      · rename_i j s1 h1
        split at e <;> (cases e; exact exec_ob n k b s _ _ h1 h)
      · exact exec_ob n k b s s' x e h
    case loop b =>
      split at e
      · rename_i s1 h1; exact exec_ob n k b s s1 _ h1 (exec_ob n k _ s1 s' x e h)
      · exact exec_ob n k b s s' x e h
    case region id ops draw =>
      split at e
      · split at e
        · obtain ⟨s1, h1, h2⟩ := Option.map_eq_some_iff.1 e
          cases h2
          exact runD_ob _ ⟨s.t, s.h ++ List.replicate (makes Γ.nb ops.toList) .gap, s.ob⟩ _ h1 h
        · cases e
      · obtain ⟨s1, h1, h2⟩ := Option.map_eq_some_iff.1 e
        cases h2
        exact runOps_ob _ _ _ h1 h
    all_goals cases e

theorem callG_pure {Γ : Ctr} (hΓ : CtrSound P Γ) (ex : Nat → Code → St → Option (Exit × St)) : PureC Γ.pf (callG P Γ ex) := by
  refine ⟨fun f hf vs h j v h' new p g => ?_, fun f hf vs h j v h' new p g => ?_⟩
  · simp only [callG] at g ⊢
    cases hi : Γ.inl f with
    | some fn => have := (hΓ.inl f fn hi).2.2; omega
    | none => rw [hi] at g; exact hΓ.pure.1 f hf vs h j v h' new p g
  · simp only [callG] at g ⊢
    cases hi : Γ.inl f with
    | some fn => have := (hΓ.inl f fn hi).2.2; omega
    | none => rw [hi] at g; exact hΓ.pure.2 f hf vs h j v h' new p g

theorem place_back {h h1 : List Blk} {j : Nat} (hle : h.length ≤ h1.length) (hc : (Nat.beq (h1.length - h.length) 0 || Nat.beq j h.length) = true) : placeH (h1.take h.length) j (h1.drop h.length) = h1 := by
  simp only [Bool.or_eq_true] at hc
  unfold placeH
  have hlt : (h1.take h.length).length = h.length := by simp; omega
  rcases hc with hc | hc
  · have := Nat.eq_of_beq_eq_true hc
    have hd : h1.drop h.length = [] := List.drop_eq_nil_of_le (by omega)
    rw [hd]
    split
    · rw [List.append_nil, List.take_of_length_le (by omega)]
    · simp only [fillH]; rw [List.take_of_length_le (by omega)]
  · have := Nat.eq_of_beq_eq_true hc
    rw [if_pos (by rw [hlt]; exact this), List.take_append_drop]

/-- What comes of a call or of a round, seen from where it was called. -/
theorem back_sound {B : Base} {e e' : Env} {h h1 : List Blk} {w w' : World} {j : Nat} {u : SV} {v' : Value} (R : Rel B e h w) (S : Rel (baseOf e h w) e' h1 w') (hv : VR e' u v') (hc : (Nat.beq (h1.length - h.length) 0 || Nat.beq j h.length) = true) :
    ∃ e2, VR e2 u v' ∧ Rel B e2 (placeH (h1.take h.length) j (h1.drop h.length)) w' ∧ EStep e e2 none := by
  have T := R.trans S
  refine ⟨{ e' with m := e.m }, VR.mono (e := e') (e' := { e' with m := e.m }) ⟨fun _ _ h => h, fun _ _ h => h, Nat.le_refl _⟩ hv, ?_, ⟨fun i p _ hi => S.keepr i p hi, fun n x hz => S.keepz n x hz, by show e'.n0 ≤ e.n0; rw [S.n0]; exact Nat.le_refl _, rfl⟩⟩
  rw [place_back S.kle hc]
  exact T

/-- A loop's record, written. -/
theorem Rel.setLoop {B : Base} {e : Env} {h : List Blk} {w : World} (R : Rel B e h w) {i : Nat} {L : Lp} (hi : h[i]? = some (.g (some L))) {r : Loop} (hr : w.heap[L.l]? = some (.loop r)) (st : LoopState) (pend : Option Code) :
    Rel B e (h.set i (.g (some { L with st := st, pend := pend }))) (w.putObj L.l (.loop { r with state := st, pending := pend })) := by
  have hil := (List.getElem?_eq_some_iff.1 hi).1
  have hother : ∀ n, n ≠ L.l → (w.putObj L.l (.loop { r with state := st, pending := pend })).heap[n]? = w.heap[n]? := fun n hn => World.putObj_heap_other hn
  have hself : (w.putObj L.l (.loop { r with state := st, pending := pend })).heap[L.l]? = some (.loop { r with state := st, pending := pend }) := World.putObj_heap_same (Array.getElem?_eq_some_iff.1 hr).1
  have cellsK : ∀ {n : Nat} {c : Array Value} {t : TypeId} {fr : Nat × Nat}, w.heap[n]? = some (.cells c t fr) → (w.putObj L.l (.loop { r with state := st, pending := pend })).heap[n]? = some (.cells c t fr) := fun {n c t fr} h => by
    rw [hother n (fun q => by subst q; rw [hr] at h; cases h)]; exact h
  obtain ⟨hn, hy, r0, h0, h1, h2, h3, h4, h5, h6⟩ := R.gap i _ hi
  rw [hr] at h0; cases h0
  exact {
    os := R.os, tape := R.tape, output := R.output
    size := by rw [World.putObj_size]; exact R.size
    inj := R.inj, dom := fun i p hi => by simpa using R.dom i p hi, sep := R.sep
    zok := fun n c t fr hz => cellsK (R.zok n c t fr hz)
    zfresh := R.zfresh, news := R.news, keepr := R.keepr, keepz := R.keepz, n0 := R.n0, n0le := R.n0le
    blk := fun j ps hj => by
      by_cases hij : i = j
      · subst hij; rw [List.getElem?_set_self hil] at hj; cases hj
      · rw [List.getElem?_set_ne hij] at hj
        refine (R.blk j ps hj).imp id fun ⟨p, o, h1, h2, h3⟩ => ?_
        obtain ⟨c, t, rfl, h4, h5, h6⟩ := h3
        exact ⟨p, _, h1, cellsK h2, c, t, rfl, h4, h5, h6⟩
    gap := fun j g hj => by
      by_cases hij : i = j
      · subst hij
        rw [List.getElem?_set_self hil] at hj; cases hj
        exact ⟨hn, hy, _, hself, h1, h2, h3, rfl, rfl, h6⟩
      · rw [List.getElem?_set_ne hij] at hj
        refine ⟨(R.gap j g hj).1, ?_⟩
        have hg := (R.gap j g hj).2
        cases g with
        | none => trivial
        | some M =>
          obtain ⟨q1, r1, q2, q3⟩ := hg
          refine ⟨q1, r1, ?_, q3⟩
          rw [hother M.l (fun x => hij (R.yi i j L.l hy (by rw [q1, x])))]; exact q2
    yi := R.yi, yb := R.yb
    old := fun n hlt hno hnl => by
      rw [hother n (fun q => ?_)]
      · exact R.old n hlt hno hnl
      · subst q
        rcases R.yb i _ hy with g | g
        · exact hnl g
        · omega
    win := fun i p hi => by
      obtain ⟨o, o', h1, h2, h3⟩ := R.win i p hi
      obtain ⟨c, c', t, fr, rfl, rfl, h4⟩ := h3
      exact ⟨_, _, h1, cellsK h2, c, c', t, fr, rfl, rfl, h4⟩
    kr := R.kr, kle := by simpa using R.kle
    mks := fun q hq => by
      refine ⟨?_, (R.mks q hq).2⟩
      rw [hother q (fun x => by subst x; have := (R.mks _ hq).1; rw [hr] at this; cases this)]
      exact (R.mks q hq).1
    mnd := R.mnd }

theorem readyL_get : ∀ {h : List Blk} {i j : Nat} {L : Lp}, readyL h j = some (i, L) → j ≤ i ∧ h[i - j]? = some (.g (some L)) ∧ L.st = .ready
  | [], i, j, L, g => by simp [readyL] at g
  | b :: bs, i, j, L, g => by
    simp only [readyL] at g
    split at g
    · rename_i q hq
      cases g
      obtain ⟨h1, h2, h3⟩ := readyL_get hq
      exact ⟨by omega, by rw [show i - j = (i - (j + 1)) + 1 by omega, List.getElem?_cons_succ]; exact h2, h3⟩
    · split at g
      · rename_i L'
        split at g
        · rename_i hst
          cases g
          exact ⟨Nat.le_refl _, by rw [Nat.sub_self]; rfl, hst⟩
        · cases g
      · cases g

theorem setTs_sound {e : Env} : ∀ (ps : List Tmp) (vs : List SV) (t : List (Option SV)) (t' ys : List Value), TR e t t' → LR e vs ys → ps.length = vs.length →
    TR e (setTs t ps vs) ((ps.zip ys).foldl (fun (tm : Array Value) (q : Tmp × Value) => tm.setIfInBounds q.1 q.2) ⟨t'⟩).toList
  | [], vs, t, t', ys, h, _, _ => by cases vs <;> simpa [setTs] using h
  | i :: is, [], t, t', ys, h, _, hl => by simp at hl
  | i :: is, v :: vs, t, t', ys, h, ⟨y, zs, h1, h2, q⟩, hl => by
    subst q
    simp only [setTs, List.zip_cons_cons, List.foldl_cons]
    have := setTs_sound is vs (t.set i (some v)) (t'.set i y) zs (h.set h1 i) h2 (by simpa using hl)
    have hq : (⟨t'⟩ : Array Value).setIfInBounds i y = ⟨t'.set i y⟩ := by simp
    rw [hq]; exact this

theorem callG_sound {Γ : Ctr} (hΓ : CtrSound P Γ) {n : Nat} (hex : ∀ (ro : Option Nat) (k : Nat) (c : Code) (s s' : St) (x : Exit), exec P Γ n k c s = some (x, s') → s'.ob = true → Tr P ro k c s x s') : GSound P (callG P Γ fun k => exec P Γ n k) := by
  intro f vs h j v h' new g B e w args hl R hj
  cases f with
  | func f =>
    simp only [callG] at g
    cases hi : Γ.inl f with
    | none => rw [hi] at g; exact hΓ.calls f vs h j v h' new g B e w args hl R hj
    | some fn =>
      obtain ⟨hf, hn, _⟩ := hΓ.inl f fn hi
      rw [hi] at g
      simp only at g
      split at g
      · rename_i u h1 p hcall
        split at g
        · rename_i hc
          simp only [Option.some.injEq, Prod.mk.injEq] at g
          obtain ⟨rfl, rfl, rfl, rfl⟩ := g
          unfold callW at hcall
          cases hb : fn.body with
          | none => rw [hb] at hcall; cases hcall
          | some c =>
            rw [hb] at hcall
            simp only at hcall
            have key : ∀ (x : Exit) (s : St), (x = .ret ∨ x = .normal) → exec P Γ n h.length c ⟨slots0 fn.ntmps vs, h, true⟩ = some (x, s) → ((resS P s.t s.h fn.results.toList).map fun q => (oneOf q.1, s.h, andT s.ob q.2)) = some (u, h1, true) →
                CallOK P (.func f) ⟨args⟩ w fun v' w' => ∃ e', VR e' u v' ∧ Rel B e' (placeH (h1.take h.length) j (h1.drop h.length)) w' ∧ EStep e e' none := fun x s hx hs hr => by
              obtain ⟨⟨rs, q⟩, hres, h2⟩ := Option.map_eq_some_iff.1 hr
              simp only [Prod.mk.injEq, andT_iff] at h2
              obtain ⟨rfl, rfl, hob, rfl⟩ := h2
              refine .inr ⟨callFunc_enter hf hn (by rw [hb]; simp) _ w, ?_⟩
              refine (calls_of_TrS hf hb hx (hex none _ c _ s x hs hob) hres (Nat.le_refl _) hl R).mono ?_
              rintro en w' ⟨v', rfl, e', hv, S⟩
              exact ⟨v', rfl, back_sound R S hv hc⟩
            split at hcall
            · rename_i s hs; exact key _ s (.inl rfl) hs hcall
            · rename_i s hs; exact key _ s (.inr rfl) hs hcall
            · cases hcall
        · cases g
      · cases g
  | yield l =>
    simp only [callG] at g
    split at g
    · rename_i u h1 p hy
      split at g
      · rename_i hc
        simp only [Option.some.injEq, Prod.mk.injEq] at g
        obtain ⟨rfl, rfl, rfl, rfl⟩ := g
        unfold yieldW at hy
        split at hy
        · cases hy
        · rename_i i L hL
          obtain ⟨_, hLi, hst⟩ := readyL_get hL
          rw [Nat.sub_zero] at hLi
          split at hy
          · rename_i s1 hps hasg
            split at hy
            · cases hy
            · rename_i L1 hL1
              have hL1 := lpAt_eq hL1
              split at hy
              · rename_i x s2 hst1 hbody
                split at hy
                · rename_i q L2 hq hL2
                  have hL2 := lpAt_eq hL2
                  simp only [Option.some.injEq, Prod.mk.injEq, andT_iff, decide_eq_true_eq] at hy
                  obtain ⟨rfl, rfl, hob2, hl2⟩ := hy
                  have hob1 := exec_ob n _ _ _ _ _ hbody hob2
                  simp only [andT_iff, decide_eq_true_eq] at hob1
                  obtain ⟨hob1, hl1⟩ := hob1
                  have hl0 : L.l = l := by have := exec_ob n _ _ _ _ _ hasg hob1; simpa using this
                  have S0 := R.self
                  obtain ⟨_, _, r, hr, hp, ha, hbd, _, _, hTR⟩ := S0.gap i _ hLi
                  rw [hl0] at hr
                  have hps' := Nat.eq_of_beq_eq_true hps
                  have hargs : (⟨args⟩ : Array Value).size = r.params.size := by rw [hp, hps']; exact hl.length
                  refine ⟨r.fn, _, r.assign, r.body, run_yield hr hargs, fun ro nn => ?_⟩
                  refine roundIn_of_wpIn (F := wF ro) trivial ?_
                  have htm : ((r.params.zip ⟨args⟩).foldl (fun tmps (t, a) => tmps.setIfInBounds t a) r.tmps) = ⟨((L.ps.toList.zip args).foldl (fun (tm : Array Value) (q : Tmp × Value) => tm.setIfInBounds q.1 q.2) ⟨r.tmps.toList⟩).toList⟩ := by
                    rw [hp]
                    apply Array.ext'
                    rw [← Array.foldl_toList]
                    simp
                  rw [htm, ha, hbd]
                  have hTR' := setTs_sound L.ps.toList vs L.t r.tmps.toList args hTR (hl.mono (bare_le e h)) (by simpa using hps')
                  refine hex (some l) _ _ _ _ _ hasg hob1 (baseOf e h w) (e.bare h) w _ [] _ nn (Nat.le_refl _) hTR' S0 fun e1 w1 t1 hl1' S1 => ?_
                  obtain ⟨_, hy1, r1, hr1, hp1, ha1, hbd1, hst1', _, hTR1⟩ := S1.gap i _ hL1
                  rw [hl1] at hr1
                  refine ⟨_, run_beginRound hr1 (by rw [hst1', hst1]), ?_⟩
                  have hpend : r1.pending = L1.pend := by obtain ⟨_, _, r1', hr1', _, _, _, _, h9, _⟩ := S1.gap i _ hL1; rw [hl1, hr1] at hr1'; cases hr1'; exact h9
                  have S1' : Rel (baseOf e h w) e1 (s1.h.set i (.g (some { L1 with st := .busy }))) (w1.putObj l (.loop { r1 with state := .busy })) := by
                    have := S1.setLoop hL1 (r := r1) (by rw [hl1]; exact hr1) .busy L1.pend
                    rw [← hpend] at this
                    rw [hl1] at this
                    have hset : ({ L1 with st := .busy } : Lp) = { l := l, t := L1.t, ps := L1.ps, asg := L1.asg, body := L1.body, st := .busy, pend := r1.pending } := by rw [hpend, ← hl1]
                    rw [hset]; exact this
                  refine hex (some l) _ _ _ _ _ hbody hob2 (baseOf e h w) e1 _ t1 [] _ nn (Nat.le_refl _) hl1' S1' fun e2 w2 t2 hl2' S2 => ?_
                  obtain ⟨_, hy2, r2, hr2, _, _, _, _, _, _⟩ := S2.gap i _ hL2
                  rw [hl2] at hr2
                  have S3 := S2.setLoop hL2 (r := r2) (by rw [hl2]; exact hr2) (if q.isNone then .ready else .done) q
                  have fin : ∃ v w4, (Instr.endRound l q).run P w2 = .ok v w4 ∧ ∃ v', Ending.returned v = .returned v' ∧ ∃ e', VR e' (.bool q.isNone) v' ∧ Rel B e' (placeH ((s2.h.set i (.g (some { L2 with st := if q.isNone then .ready else .done, pend := q }))).take h.length) j ((s2.h.set i (.g (some { L2 with st := if q.isNone then .ready else .done, pend := q }))).drop h.length)) w4 ∧ EStep e e' none := by
                    refine ⟨_, _, run_endRound q hr2, _, rfl, ?_⟩
                    rw [hl2] at S3
                    have S3' : Rel (baseOf e h w) e2 (s2.h.set i (.g (some { L2 with st := if q.isNone then .ready else .done, pend := q }))) (w2.putObj l (.loop { r2 with state := if q.isNone then .ready else .done, pending := q })) := by
                      have hset : ({ L2 with st := if q.isNone then .ready else .done, pend := q } : Lp) = { l := l, t := L2.t, ps := L2.ps, asg := L2.asg, body := L2.body, st := if q.isNone then .ready else .done, pend := q } := by rw [← hl2]
                      rw [hset]; exact S3
                    exact back_sound R S3' (v' := .bool q.isNone) rfl hc
                  cases x <;> simp only [jumpOf, Option.some.injEq, reduceCtorEq] at hq <;> subst hq <;> exact fin
                · cases hy
              · cases hy
          · cases hy
      · cases g
    · cases g
  | _ => cases g

theorem exec_sound {Γ : Ctr} (hΓ : CtrSound P Γ) : ∀ (n : Nat) (ro : Option Nat) (k : Nat),
    (∀ (c : Code) (s s' : St) (x : Exit), exec P Γ n k c s = some (x, s') → s'.ob = true → Tr P ro k c s x s') ∧
    (∀ (c : Code) (s s' : St) (x : Exit), exec P Γ n k (.loop c) s = some (x, s') → s'.ob = true → TrR P ro k c s x s') := by
  intro n
  induction n with
  | zero => exact fun ro k => ⟨fun _ _ _ _ e => by simp [exec] at e, fun _ _ _ _ e => by simp [exec] at e⟩
  | succ n ih =>
    intro ro k
    obtain ⟨ihA, ihB⟩ := ih ro k
    have hG := callG_sound hΓ fun ro k c s s' x => (ih ro k).1 c s s' x
    have hP := callG_pure hΓ fun k => exec P Γ n k
    have hB : ∀ (c : Code) (s s' : St) (x : Exit), exec P Γ (n + 1) k (.loop c) s = some (x, s') → s'.ob = true → TrR P ro k c s x s' := by
      intro c s s' x e hob
      simp only [exec] at e
      split at e
      · rename_i s1 h1
        exact TrR.step (ihA c s s1 .normal h1 (exec_ob n k _ s1 s' x e hob)) (ihB c s1 s' x e hob)
      · rename_i hne
        have hx : x ≠ .normal := fun q => by subst q; exact hne s' e
        exact TrR.leave (ihA c s s' x e hob) hx
    refine ⟨?_, hB⟩
    intro c s s' x e hob
    cases c
    case loop b => exact TrR.loop (hB b s s' x e hob)
    all_goals simp only [exec] at e
    case skip => cases e; exact fun B e w t' d Q nn hB hl R hQ => wpIn_skip (hQ e w t' hl R)
    case label => cases e; exact fun B e w t' d Q nn hB hl R hQ => wpIn_label (hQ e w t' hl R)
    case exit => cases e; exact fun B e w t' d Q nn hB hl R hQ => wpIn_exit (hQ e w t' hl R)
    case ret => cases e; exact fun B e w t' d Q nn hB hl R hQ => wpIn_ret (hQ e w t' hl R)
    case seq a b =>
      split at e
      · rename_i s1 h1
        exact Tr.seq (ihA a s s1 .normal h1 (exec_ob n k _ s1 s' x e hob)) (ihA b s1 s' x e hob)
      · rename_i hne
        have hx : x ≠ .normal := fun q => by subst q; exact hne s' e
        exact Tr.seq_leave (ihA a s s' x e hob) hx
    case cond c a b =>
      split at e
      · rename_i hcv; exact Tr.cond_true hcv (ihA a s s' x e hob)
      · rename_i hcv; exact Tr.cond_false hcv (ihA b s s' x e hob)
      · cases e
    case block id b =>
      split at e
      · rename_i j s1 h1
        split at e
        · rename_i hj
          cases e
          subst hj
          exact Tr.block (ihA b s s' _ h1 hob)
        · rename_i hj
          cases e
          exact Tr.block_out (ihA b s s' _ h1 hob) hj
      · rename_i hne
        exact Tr.block_pass (ihA b s s' x e hob) fun j q => by subst q; exact hne j s' e
    case region id ops draw =>
      split at e
      · split at e
        · rename_i hd
          simp only [Bool.and_eq_true] at hd
          obtain ⟨s1, h1, h2⟩ := Option.map_eq_some_iff.1 e
          cases h2
          exact fun B e w t' d Q nn hB hl R hQ => region_draw_sound hG hP hd.1 hd.2 h1 hob (fun i p hi => Nat.lt_of_lt_of_le (R.kr i p hi) hB) hl R (fun e' w' t'' hm hl' R' => by rw [← hm]; exact hQ e' w' t'' hl' R') id
        · cases e
      · obtain ⟨s1, h1, h2⟩ := Option.map_eq_some_iff.1 e
        cases h2
        exact fun B e w t' d Q nn hB hl R hQ => wpIn_region (runOps_sound hG _ _ _ h1 hob (fun i p hi => Nat.lt_of_lt_of_le (R.kr i p hi) hB) hl R (fun e' w' t'' hm hl' R' => by rw [← hm]; exact hQ e' w' t'' hl' R'))
    all_goals cases e

theorem Tr.exec {Γ : Ctr} (hΓ : CtrSound P Γ) {n : Nat} {c : Code} {s s' : St} {x : Exit} (e : exec P Γ n k c s = some (x, s')) (hob : s'.ob = true) : Tr P ro k c s x s' := (exec_sound hΓ n ro k).1 c s s' x e hob
end
end Go.Sy
