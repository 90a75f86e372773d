/- This file gives the law of a range over a function ('Tr.range'): the loop's record is laid, the function is called, its calls of yield are rounds. Conditions: what the function comes to, whatever the record's number. -/
import Derived.Test.YtailgcdcdhhpnaaSyT
namespace Go.Sy
open Go

section
variable {P : Program} {B : Base} {e : Env} {h : List Blk} {w : World}

/-- The environment with one more loop. -/
def Env.enter (e : Env) (h : List Blk) (n : Nat) : Env := { e with m := n :: e.m, y := fun i => if i = h.length then some (n + 1) else match lpAt h i with | some _ => e.y i | none => none }
theorem enter_le (e : Env) (h : List Blk) (n : Nat) : Env.Le e (e.enter h n) := ⟨fun _ _ h => h, fun _ _ h => h, Nat.le_refl _⟩
theorem enter_y {i n : Nat} {L : Lp} (g : h[i]? = some (.g (some L))) : (e.enter h n).y i = e.y i := by
  show (if i = h.length then some (n + 1) else match lpAt h i with | some _ => e.y i | none => none) = e.y i
  rw [if_neg (by have := (List.getElem?_eq_some_iff.1 g).1; omega), lpAt_of g]
theorem enter_y' (R : Rel B e h w) {i n m : Nat} (g : (e.enter h n).y i = some m) : (i = h.length ∧ m = n + 1) ∨ (i < h.length ∧ e.y i = some m ∧ m < w.heap.size) := by
  have g' : (if i = h.length then some (n + 1) else match lpAt h i with | some _ => e.y i | none => none) = some m := g
  split at g'
  · rename_i hi; cases g'; exact .inl ⟨hi, rfl⟩
  · split at g'
    · rename_i L hL
      have hL := lpAt_eq hL
      obtain ⟨_, h1, r, h2, _⟩ := R.gap i _ hL
      rw [g'] at h1; cases h1
      exact .inr ⟨(List.getElem?_eq_some_iff.1 hL).1, g', (Array.getElem?_eq_some_iff.1 h2).1⟩
    · cases g'

/-- A loop's record and its block for deferred calls are laid. -/
theorem Rel.enter (R : Rel B e h w) {t : List (Option SV)} {t' : List Value} (hl : TR e t t') (fn : FuncId) (ps : Array Tmp) (asg body : Code) :
    Rel B (e.enter h w.heap.size) (h ++ [.g (some ⟨w.heap.size + 1, t, ps, asg, body, .ready, none⟩)]) ((w.alloc (.deferred (some []))).alloc (.loop { state := .ready, pending := none, fn, tmps := ⟨t'⟩, params := ps, assign := asg, body, defers := w.heap.size })) := by
  generalize hrec : Obj.loop { state := .ready, pending := none, fn, tmps := ⟨t'⟩, params := ps, assign := asg, body, defers := w.heap.size } = ob
  have hold : ∀ n, n < w.heap.size → ((w.alloc (.deferred (some []))).alloc ob).heap[n]? = w.heap[n]? := fun n hn => (heap_alloc_old _ _ n (by rw [World.size_alloc]; omega)).trans (heap_alloc_old w _ n hn)
  have hd : ((w.alloc (.deferred (some []))).alloc ob).heap[w.heap.size]? = some (.deferred (some [])) := (heap_alloc_old _ _ _ (by rw [World.size_alloc]; omega)).trans (heap_alloc_new w _)
  have hlp : ((w.alloc (.deferred (some []))).alloc ob).heap[w.heap.size + 1]? = some ob := by
    have := heap_alloc_new (w.alloc (.deferred (some []))) ob
    rwa [World.size_alloc] at this
  have le := enter_le e h w.heap.size
  have get : ∀ (i : Nat) (b : Blk), (h ++ [.g (some ⟨w.heap.size + 1, t, ps, asg, body, .ready, none⟩)])[i]? = some b → (i < h.length ∧ h[i]? = some b) ∨ (i = h.length ∧ b = .g (some ⟨w.heap.size + 1, t, ps, asg, body, .ready, none⟩)) := fun i b hi => by
    rcases Nat.lt_or_ge i h.length with h1 | h1
    · rw [List.getElem?_append_left h1] at hi; exact .inl ⟨h1, hi⟩
    · rw [List.getElem?_append_right h1] at hi
      have := (List.getElem?_eq_some_iff.1 hi).1
      simp at this
      have hq : i = h.length := by omega
      subst hq
      simp at hi
      exact .inr ⟨rfl, hi.symm⟩
  exact {
    os := R.os, tape := R.tape, output := R.output
    size := by have := R.size; rw [World.size_alloc, World.size_alloc]; omega
    inj := R.inj, dom := fun i p hi => by have := R.dom i p hi; simp; omega
    sep := R.sep
    zok := fun n c ty fr hz => by rw [hold n (R.zlt hz)]; exact R.zok n c ty fr hz
    zfresh := R.zfresh, news := R.news, keepr := R.keepr, keepz := R.keepz, n0 := R.n0, n0le := R.n0le
    blk := fun i qs hi => by
      rcases get i _ hi with ⟨h1, h2⟩ | ⟨_, h2⟩
      · rcases R.blk i qs h2 with g | ⟨p, o, hq, ho, hbr⟩
        · exact .inl g
        · exact .inr ⟨p, o, hq, by rw [hold p.n (R.lt hq)]; exact ho, hbr.mono le⟩
      · cases h2
    gap := fun i g hi => by
      rcases get i _ hi with ⟨h1, h2⟩ | ⟨h1, h2⟩
      · refine ⟨(R.gap i g h2).1, ?_⟩
        have hg := (R.gap i g h2).2
        cases g with
        | none => trivial
        | some L => exact hg.le (fun n o hn => by rw [hold n (Array.getElem?_eq_some_iff.1 hn).1]; exact hn) (enter_y h2) le
      · cases h2
        refine ⟨?_, ?_, _, by rw [hlp, ← hrec], rfl, rfl, rfl, rfl, rfl, hl.mono le⟩
        · cases hq : e.r i with
          | none => exact hq
          | some p => have := R.dom _ p hq; omega
        · show (if i = h.length then _ else _) = _
          rw [if_pos h1]
    yi := fun i j n hi hj => by
      rcases enter_y' R hi with ⟨h1, h2⟩ | ⟨h1, h2, h3⟩ <;> rcases enter_y' R hj with ⟨g1, g2⟩ | ⟨g1, g2, g3⟩
      · omega
      · omega
      · omega
      · exact R.yi i j n h2 g2
    yb := fun i n hi => by
      rcases enter_y' R hi with ⟨h1, h2⟩ | ⟨h1, h2, h3⟩
      · exact .inr (by have := R.size; omega)
      · exact R.yb i n h2
    old := fun n hn hno hnl => by rw [hold n (by have := R.size; omega)]; exact R.old n hn hno hnl
    win := fun i p hi => by
      obtain ⟨o, o', h1, h2, h3⟩ := R.win i p hi
      exact ⟨o, o', h1, by rw [hold p.n (R.lt (R.keepr i p hi))]; exact h2, h3⟩
    kr := R.kr
    kle := by have := R.kle; simp; omega
    mks := fun r hr => by
      rcases List.mem_cons.1 hr with rfl | hr
      · exact ⟨hd, R.size⟩
      · have := R.mks r hr
        exact ⟨by rw [hold r (Array.getElem?_eq_some_iff.1 this.1).1]; exact this.1, this.2⟩
    mnd := List.nodup_cons.2 ⟨fun hm => by have := (Array.getElem?_eq_some_iff.1 (R.mks _ hm).1).1; omega, R.mnd⟩ }

/-- A loop that is over is forgotten. -/
theorem Rel.dropLoop (R : Rel B e h w) {i : Nat} {g : Option Lp} (hi : h[i]? = some (.g g)) : Rel B e (h.set i .gap) w := { R with
  dom := fun j p hj => by simpa using R.dom j p hj
  blk := fun j ps hj => by
    by_cases hij : i = j
    · subst hij; rw [List.getElem?_set_self (List.getElem?_eq_some_iff.1 hi).1] at hj; cases hj
    · rw [List.getElem?_set_ne hij] at hj; exact R.blk j ps hj
  gap := fun j g' hj => by
    by_cases hij : i = j
    · subst hij; rw [List.getElem?_set_self (List.getElem?_eq_some_iff.1 hi).1] at hj; cases hj; exact ⟨(R.gap i g hi).1, trivial⟩
    · rw [List.getElem?_set_ne hij] at hj; exact R.gap j g' hj
  kle := by simpa using R.kle }
end

section
variable {P : Program}

/-- A range over a function. -/
theorem Tr.range {k : Nat} {g : Operand} {ps : Array Tmp} {asg body : Code} {f : FuncId} {fn : Func} {first capt : List SV} {s : St} {v : SV} {h1 : Nat → List Blk} {hf : List Blk} {q : Option Code} {x : Exit} (ob : Bool)
    (hfn : P.funcs[f]? = some fn) (hn : (fn.name != "runtime.NumGoroutine") = true) (hb : fn.body.isSome = true) (hg : ev s.t g = some (.fn (.func f) first capt))
    (hcall : ∀ l, FnTr P f (first ++ [.fn (.yield l) [] []] ++ capt) (s.h ++ [.g (some ⟨l, s.t, ps, asg, body, .ready, none⟩)]) v (h1 l))
    (hL : ∀ l, ∃ L, lpAt (h1 l) s.h.length = some L ∧ L.l = l ∧ L.st ≠ .busy ∧ L.pend = q) (hh : ∀ l, (h1 l).set s.h.length .gap = hf) (hx : jumpOf x = some q) :
    Tr P none k (.rangeFunc g ps asg body) s x ⟨s.t, hf, ob⟩ := by
  intro B e w t' d Q nn hB hl R hQ
  refine wpIn_rangeFunc fun fnid _ => ?_
  have R1 := R.enter hl fnid ps asg body
  generalize hW : (w.alloc (.deferred (some []))).alloc (.loop { state := .ready, pending := none, fn := fnid, tmps := ⟨t'⟩, params := ps, assign := asg, body, defers := w.heap.size }) = W1 at R1
  obtain ⟨ys, us, hy, hu, hgv⟩ := ev_sound (d := mkD e.m ++ d) hl hg
  have hargs : LR (e.enter s.h w.heap.size) (first ++ [.fn (.yield (w.heap.size + 1)) [] []] ++ capt) (ys ++ [.func (.yield (w.heap.size + 1)) #[] #[]] ++ us) :=
    ((hy.mono (enter_le e _ _)).append (LR.one (show VR (e.enter s.h w.heap.size) (.fn (.yield (w.heap.size + 1)) [] []) (.func (.yield (w.heap.size + 1)) #[] #[]) from ⟨[], [], rfl, rfl, rfl⟩))).append (hu.mono (enter_le e _ _))
  have hbn : fn.body ≠ none := fun q => by rw [q] at hb; cases hb
  have henter := callFunc_enter hfn (by simpa using hn) hbn ⟨ys ++ [.func (.yield (w.heap.size + 1)) #[] #[]] ++ us⟩ W1
  refine ⟨w.heap.size + 1, [{ target := .collected w.heap.size, args := #[] }], W1, { target := .fn (.func f) ⟨us⟩, args := ⟨ys ++ [.func (.yield (w.heap.size + 1)) #[] #[]]⟩ }, W1, f, ⟨ys ++ [.func (.yield (w.heap.size + 1)) #[] #[]] ++ us⟩, W1, ?_, ?_, fun _ _ => trivial, ?_, fun h => by simp [wF, Fence.wide] at h, callsIn_wF.2 ?_⟩
  · rw [← hW]; exact run_enterLoop_outer _ _ _ _ _
  · simp only [resolve, hgv, Deferred.ofValue, Sem.run_pure]
    congr 2
    apply Array.ext'
    simp [Act.eval]
  · simp only [invoke]
    rw [← henter]
    congr 2
    apply Array.ext'
    simp
  · refine (hcall (w.heap.size + 1) _ _ W1 _ (Nat.le_refl _) (hargs.mono (bare_le _ _)) R1.self).mono ?_
    rintro en w' ⟨v', rfl, e', _, hv, S⟩
    have T := R1.trans S
    obtain ⟨L, hLat, hLl, hLst, hLp⟩ := hL (w.heap.size + 1)
    have hLi := lpAt_eq hLat
    obtain ⟨_, _, r, hr, _, _, _, hst, hpd, _⟩ := T.gap _ _ hLi
    have T2 := T.setLoop hLi hr .exhausted L.pend
    have T3 := T2.dropLoop (i := s.h.length) (List.getElem?_set_self (List.getElem?_eq_some_iff.1 hLi).1)
    rw [List.set_set, hh] at T3
    rw [hLl] at hr
    refine ⟨r.pending, _, run_endLoop hr (by rw [hst]; exact hLst), ?_⟩
    have hpq : r.pending = q := hpd.trans hLp
    have le : Env.Le e { e' with m := (e.enter s.h w.heap.size).m } := ⟨fun i p hp => S.keepr i p hp, fun n o ho => S.keepz n o ho, by show e'.n0 ≤ e.n0; rw [S.n0]; exact Nat.le_refl _⟩
    have fin := hQ { e' with m := (e.enter s.h w.heap.size).m } _ t' (hl.mono le) T3
    have hpe : L.pend = r.pending := hLp.trans hpq.symm
    rw [hpe, hLl] at fin
    rw [hpq]
    rw [hpq] at fin
    cases x <;> simp only [jumpOf, Option.some.injEq, reduceCtorEq] at hx <;> subst hx
    · rw [← hpq]; rw [hpq]; exact fin
    · exact wpIn_exit fin
    · exact wpIn_ret fin

/-! ### A range over a function, as a piece of code -/
def isRf (id : Nat) : Code → Bool
  | .block j (.rangeFunc _ _ _ _) => j == id
  | _ => false
def rfG : Code → Operand
  | .rangeFunc g _ _ _ => g
  | _ => .const .nilFunc
def rfP : Code → Array Tmp
  | .rangeFunc _ ps _ _ => ps
  | _ => #[]
noncomputable def rfA : Code → Code
  | .rangeFunc _ _ a _ => a
  | _ => .skip
noncomputable def rfB : Code → Code
  | .rangeFunc _ _ _ b => b
  | _ => .skip
/-- The loop's record, ready. -/
noncomputable def rfL (c : Code) (t : List (Option SV)) (l : Nat) : Lp := ⟨l, t, rfP (inner c), rfA (inner c), rfB (inner c), .ready, none⟩
/-- A range over a function in its block, to its end. -/
theorem Tr.rangeB (id : Nat) {k : Nat} {c : Code} (hc : isRf id c = true) {f : FuncId} {fn : Func} {first capt : List SV} {s : St} {v : SV} {h1 : Nat → List Blk} {hf : List Blk} (ob : Bool)
    (hfn : P.funcs[f]? = some fn) (hn : (fn.name != "runtime.NumGoroutine") = true) (hb : fn.body.isSome = true) (hg : ev s.t (rfG (inner c)) = some (.fn (.func f) first capt))
    (hcall : ∀ l, FnTr P f (first ++ [.fn (.yield l) [] []] ++ capt) (s.h ++ [.g (some (rfL c s.t l))]) v (h1 l))
    (hL : ∀ l, ∃ L, lpAt (h1 l) s.h.length = some L ∧ L.l = l ∧ L.st ≠ .busy ∧ L.pend = none) (hh : ∀ l, (h1 l).set s.h.length .gap = hf) :
    Tr P none k c s .normal ⟨s.t, hf, ob⟩ := by
  cases c <;> simp only [isRf, Bool.false_eq_true] at hc
  rename_i j b
  cases b <;> simp only [Bool.false_eq_true] at hc
  exact Tr.block_pass (Tr.range ob hfn hn hb hg hcall hL hh rfl) (by simp)
end
end Go.Sy
