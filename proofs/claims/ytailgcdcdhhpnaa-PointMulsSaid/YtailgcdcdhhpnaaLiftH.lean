/- This file ties the interpreter's calls to a row's statement: a call over slices that came in returns what is reckoned, and writes nothing that was there. Conditions: the slices lie in blocks of cells, each cell an integer. -/
import Derived.Test.YtailgcdcdhhpnaaLiftG
import Derived.Below
import Derived.WideShapes
namespace Go.Lift
open Go
section
variable {P : Program}

/-- The cells of a slice that came in, as integers. -/
theorem win_of_cells {w : World} {a : Addr} {c : Array Value} {t : TypeId} {fr : Nat × Nat} {k : IntKind} {zs : List Int} (hb : w.heap[a.block]? = some (.cells c t fr)) (hs : a.spot = none)
    (hc : ∀ i, i < zs.length → w.cell? (a.add i) = some (.int k (zs.getD i 0))) : intsV k zs = (c.toList.drop a.off).take zs.length := by
  have key : ∀ i, i < zs.length → c.toList[a.off + i]? = some (.int k (zs.getD i 0)) := fun i hi => by
    have h := hc i hi
    unfold World.cell? Addr.add at h
    split at h
    · rename_i c' t' fr' hb'
      split at hb'
      · rename_i h0
        subst h0
        rw [hb] at hb'
        cases hb'
        simp only [if_true, hs] at h
        simpa using h
      · simp only [hb, Option.some.injEq, Obj.cells.injEq] at hb'
        obtain ⟨rfl, rfl, rfl⟩ := hb'
        rename_i hi0
        rw [if_neg hi0] at h
        simpa using h
    · cases h
  apply List.ext_getElem?
  intro i
  simp only [intsV, List.getElem?_map, List.getElem?_take, List.getElem?_drop]
  by_cases hi : i < zs.length
  · rw [if_pos hi, key i hi]
    simp [List.getD, List.getElem?_eq_getElem hi]
  · rw [if_neg hi, List.getElem?_eq_none (by omega)]; rfl

/-- A slice that came in lies in a block of cells. -/
theorem block_of_wide {w : World} {r : Reach} {base : Nat} {t e : TypeId} {a : Addr} {len cap : Nat} (ht : P.underlying t = some (.slice e)) (h : Value.okWide P w r base t (.slice (some a) len cap)) :
    a.spot = none ∧ ∃ c t' fr, w.heap[a.block]? = some (.cells c t' fr) := by
  simp only [Value.okWide, ht, Cell.okWide, Cell.ok, World.has] at h
  obtain ⟨_, _, _, hs, row, cells, hsh, _⟩ := h
  refine ⟨hs, ?_⟩
  unfold World.shape? at hsh
  split at hsh
  · rename_i c el fr hb
    exact ⟨c, el, fr, hb⟩
  · simp at hsh

/-- Where all tracked blocks are windows, read only. -/
theorem FnTr.below {f : FuncId} {fn : Func} (hf : P.funcs[f]? = some fn) {args args' : List Value} {h h' : List Blk} {b : Bool} (e : FnTr P fn args h (.bool b) h') {r : List Pl} {w : World} (hl : LR (lk r) args args') (R : Rel h.length w r h w)
    (hro : ∀ (i : Nat) (p : Pl), r[i]? = some p → p.ro = true) : Calls P f ⟨args'⟩ w fun e w' => e = .returned (.bool b) ∧ Go.RowKit.Below w.heap.size w w' := by
  refine (FnTr.calls hf e hl R).mono ?_
  rintro x w' ⟨v', rfl, r', he, hv, R'⟩
  simp only [VR] at hv
  subst hv
  refine ⟨rfl, R'.os, R'.tape, R'.output, R'.size, fun n hn => R'.old n hn fun i p hi hp _ => ?_⟩
  have hi' : i < r.length := by rw [R.len]; exact hi
  have h0 := he i r[i] (List.getElem?_eq_getElem hi')
  rw [hp] at h0
  cases h0
  exact hro i r[i] (List.getElem?_eq_getElem hi')

theorem Rel.none (w : World) : Rel 0 w [] [] w :=
  ⟨rfl, rfl, rfl, Nat.le_refl _, fun i j p q hp => by simp at hp, rfl, fun i p _ hp => by simp at hp, fun i b hb => by simp at hb, fun _ _ _ => rfl, Nat.le_refl _⟩

theorem Rel.one {w : World} {a : Addr} {c : Array Value} {t : TypeId} {fr : Nat × Nat} {k : IntKind} {l : List Int} (hb : w.heap[a.block]? = some (.cells c t fr)) (hl : intsV k l = (c.toList.drop a.off).take l.length) :
    Rel 1 w [⟨a.block, a.off, true⟩] [.rs k l] w where
  os := rfl
  tape := rfl
  output := rfl
  size := Nat.le_refl _
  nodup := fun i j p q hp hq _ => by
    have h1 := (List.getElem?_eq_some_iff.1 hp).1
    have h2 := (List.getElem?_eq_some_iff.1 hq).1
    simp at h1 h2
    left; omega
  len := rfl
  news := fun i p hk hp => by
    have h1 := (List.getElem?_eq_some_iff.1 hp).1
    simp at h1
    omega
  blk := fun i b hb' => by
    have h1 := (List.getElem?_eq_some_iff.1 hb').1
    simp at h1
    subst h1
    simp at hb'
    subst hb'
    refine ⟨_, _, rfl, hb, fun ty hty => (by simp [Blk.own] at hty), fun _ => ⟨rfl, c, t, fr, rfl, ?_⟩⟩
    simp only [Blk.vals, intsV_length]
    rw [← hl]
    exact LR.plain _ (plain_ints _ _)
  old := fun _ _ _ => rfl
  kle := Nat.le_refl _
end
end Go.Lift
