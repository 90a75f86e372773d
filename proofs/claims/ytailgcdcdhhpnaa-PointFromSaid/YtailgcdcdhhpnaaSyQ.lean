/- This file ties the interpreter's calls to a row's statement: a law called with what came in returns what is reckoned, and writes nothing that was there. Conditions: what came in reads as data. -/
import Derived.Test.YtailgcdcdhhpnaaSyP
import Derived.Below
import Derived.WideShapes
namespace Go.Sy
open Go

/-- The relation at a call's beginning, nothing tracked. -/
theorem Rel.start (w : World) : Rel ⟨w, env0 (allZ w) w.heap.size, 0, []⟩ (env0 (allZ w) w.heap.size) [] w where
  os := rfl
  tape := rfl
  output := rfl
  size := Nat.le_refl _
  inj := fun i j p q hi => by cases hi
  dom := fun i p hi => by cases hi
  sep := fun i p hi => by cases hi
  zok := fun n c ty fr hx => allZ_heap hx
  zfresh := fun _ _ hx => .inl hx
  news := fun _ _ hi => .inl hi
  keepr := fun _ _ hi => hi
  keepz := fun _ _ hx => hx
  n0 := rfl
  n0le := Nat.le_refl _
  blk := fun i ps hi => by simp at hi
  gap := fun i g hi => by simp at hi
  yi := fun i j n hi => by cases hi
  yb := fun i n hi => by cases hi
  old := fun _ _ _ _ => rfl
  win := fun i p hi => by cases hi
  kr := fun i p hi => by cases hi
  kle := Nat.le_refl _
  mks := fun r hr => by cases hr
  mnd := List.nodup_nil

section
variable {P : Program}

/-- A law's call. -/
theorem FnTr.below {f : FuncId} {args : List SV} {args' : List Value} {h' : List Blk} {b : Bool} (g : FnTr P f args [] (.bool b) h') {w : World} (hl : LR (env0 (allZ w) w.heap.size) args args') :
    Calls P f ⟨args'⟩ w fun e w' => e = .returned (.bool b) ∧ Go.RowKit.Below w.heap.size w w' := by
  refine (g _ _ w args' (Nat.le_refl _) hl (Rel.start w)).mono ?_
  rintro x w' ⟨v', rfl, e', _, hv, R'⟩
  rw [VR] at hv
  subst hv
  exact ⟨rfl, R'.os, R'.tape, R'.output, R'.size, fun n hn => R'.old n hn (fun i p hi => by cases hi) (by simp)⟩

/-- Any pure function's call. -/
theorem FnTr.belowV {f : FuncId} {args : List SV} {args' : List Value} {h' : List Blk} {v : SV} {v1 : Value} (hv1 : ∀ e x, VR e v x → x = v1) (g : FnTr P f args [] v h') {w : World} (hl : LR (env0 (allZ w) w.heap.size) args args') :
    Calls P f ⟨args'⟩ w fun e w' => e = .returned v1 ∧ Go.RowKit.Below w.heap.size w w' := by
  refine (g _ _ w args' (Nat.le_refl _) hl (Rel.start w)).mono ?_
  rintro x w' ⟨v', rfl, e', _, hv, R'⟩
  have := hv1 _ _ hv
  subst this
  exact ⟨rfl, R'.os, R'.tape, R'.output, R'.size, fun n hn => R'.old n hn (fun i p hi => by cases hi) (by simp)⟩

/-! ### What came in -/
/-- An aggregate of integers of one kind. -/
theorem agg_ints {w : World} {r : Reach} {base : Nat} {t : TypeId} {v : Value} {k : IntKind} {n : Nat} (ha : (P.underlying t).map (fun | .struct _ => true | .array _ _ => true | _ => false) = some true)
    (hc : (P.cellTypes P.depth t).map (fun ts => ts.all fun u => isInt P u == some k) = some true) (hn : P.cellsOf t = n) (h : Value.okWide P w r base t v) :
    ∃ zs : List Int, v = .agg ⟨intsV k zs⟩ ∧ zs.length = n ∧ ∀ z ∈ zs, k.has z := by
  have h' : ∃ cs, v = .agg cs ∧ cs.size = P.cellsOf t ∧ Row.okWide P w r base t cs := by
    unfold Value.okWide at h
    cases hu : P.underlying t with
    | none => rw [hu] at ha; cases ha
    | some u => rw [hu] at ha h; cases u <;> first | exact h | (cases ha; done)
  obtain ⟨cs, rfl, hs, ts, hts, _, hall⟩ := h'
  rw [hts] at hc
  simp only [Option.map_some, Option.some.injEq, List.all_eq_true, beq_iff_eq] at hc
  have cell : ∀ (i : Nat) (v : Value), cs[i]? = some v → ∃ z : Int, v = Value.int k z ∧ k.has z := fun i v hi => by
    obtain ⟨u, hu, hok⟩ := hall i v hi
    have hk := hc u (List.mem_of_getElem? hu)
    have hk' : P.underlying u = some (.int k) := by
      unfold isInt at hk
      split at hk
      · rename_i hx; cases hk; exact hx
      · cases hk
    simp only [Cell.okWide, hk', Cell.ok] at hok
    cases v <;> simp_all
  have hex : ∀ l : List Value, (∀ v ∈ l, ∃ z : Int, v = Value.int k z ∧ k.has z) → ∃ zs : List Int, l = intsV k zs ∧ ∀ z ∈ zs, k.has z := by
    intro l
    induction l with
    | nil => intro _; exact ⟨[], rfl, by simp⟩
    | cons a l ih =>
      intro hl
      obtain ⟨z, rfl, hz⟩ := hl a (by simp)
      obtain ⟨zs, rfl, hzs⟩ := ih fun v hv => hl v (by simp [hv])
      refine ⟨z :: zs, rfl, fun y hy => ?_⟩
      rcases List.mem_cons.1 hy with rfl | hy
      · exact hz
      · exact hzs y hy
  obtain ⟨zs, hzs, hk⟩ := hex cs.toList fun v hv => by
    obtain ⟨i, hi⟩ := List.mem_iff_getElem?.1 hv
    exact cell i v (by simpa using hi)
  refine ⟨zs, by rw [← hzs], ?_, hk⟩
  have := congrArg List.length hzs
  rw [intsV_length] at this
  simp at this
  omega

theorem VR.aggInts {e : Env} {k : IntKind} {n : Nat} {zs : List Int} (h : zs.length = n) : VR e (.agg [.ints k n zs]) (.agg ⟨intsV k zs⟩) :=
  ⟨intsV k zs, ⟨[], rfl, by rw [lst_eq h, List.append_nil]⟩, rfl⟩

/-- The cells of a slice that came in, as integers. -/
theorem win_of_cells {w : World} {a : Addr} {c : Array Value} {t : TypeId} {fr : Nat × Nat} {k : IntKind} {zs : List Int} (hb : w.heap[a.block]? = some (.cells c t fr)) (hs : a.spot = none)
    (hc : ∀ i, i < zs.length → w.cell? (a.add i) = some (.int k (zs.getD i 0))) : intsV k zs = (c.toList.drop a.off).take zs.length := by
  have key : ∀ i, i < zs.length → c.toList[a.off + i]? = some (.int k (zs.getD i 0)) := fun i hi => by
    have h := hc i hi
    unfold World.cell? Addr.add at h
    split at h
    · rename_i c' t' fr' hb'
      split at hb'
      · rename_i h0
        subst h0
        rw [hb] at hb'
        cases hb'
        simp only [if_true, hs] at h
        simpa using h
      · simp only [hb, Option.some.injEq, Obj.cells.injEq] at hb'
        obtain ⟨rfl, rfl, rfl⟩ := hb'
        rename_i hi0
        rw [if_neg hi0] at h
        simpa using h
    · cases h
  apply List.ext_getElem?
  intro i
  simp only [intsV, List.getElem?_map, List.getElem?_take, List.getElem?_drop]
  by_cases hi : i < zs.length
  · rw [if_pos hi, key i hi]
    simp [List.getD, List.getElem?_eq_getElem hi]
  · rw [if_neg hi, List.getElem?_eq_none (by omega)]; rfl

/-- A slice that came in lies in a block of cells. -/
theorem block_of_wide {w : World} {r : Reach} {base : Nat} {t e : TypeId} {a : Addr} {len cap : Nat} (ht : P.underlying t = some (.slice e)) (h : Value.okWide P w r base t (.slice (some a) len cap)) :
    len ≤ cap ∧ a.spot = none ∧ ∃ c t' fr, w.heap[a.block]? = some (.cells c t' fr) := by
  simp only [Value.okWide, ht, Cell.okWide, Cell.ok, World.has] at h
  obtain ⟨hl, _, _, hs, row, cells, hsh, _⟩ := h
  refine ⟨hl, hs, ?_⟩
  unfold World.shape? at hsh
  split at hsh
  · rename_i c el fr hb
    exact ⟨c, el, fr, hb⟩
  · simp at hsh

/-- What came in as integers, read. -/
theorem RoI.of_cells {w : World} {a : Addr} {c : Array Value} {t : TypeId} {fr : Nat × Nat} {k : IntKind} {zs : List Int} {len cap m : Nat} (hb : w.heap[a.block]? = some (.cells c t fr)) (hs : a.spot = none) (hcap : zs.length = cap) (hlen : len ≤ cap)
    (hc : ∀ i, i < zs.length → w.cell? (a.add i) = some (.int k (zs.getD i 0))) : RoI (env0 (allZ w) m) false k (zs.take len) (.slice (some a) len cap) := by
  have hl : (zs.take len).length = len := by rw [List.length_take]; omega
  by_cases h0 : cap = 0
  · exact .inl ⟨List.length_eq_zero_iff.1 (by omega), _, cap, by rw [show len = 0 by omega], fun q => by cases q⟩
  · obtain ⟨b, o, sp⟩ := a
    simp only at hs
    subst hs
    have hw := win_of_cells hb rfl hc
    have hsz : o + cap ≤ c.size := by
      have := congrArg List.length hw
      rw [intsV_length, List.length_take, List.length_drop] at this
      simp only [Array.length_toList] at this
      omega
    refine .inr ⟨b, o, cap, c, t, fr, by rw [hl], allZ_eq hb, (fun q => by cases q), ?_, by omega, hsz⟩
    rw [intsV_take, hw, hl, List.take_take, hcap, Nat.min_eq_left hlen]
end
end Go.Sy
