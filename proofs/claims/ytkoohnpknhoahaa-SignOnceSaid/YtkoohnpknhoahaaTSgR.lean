/- This file reads slices of bytes, and structs that hold bytes and such a slice, that come in with a row. Conditions: what came in reads as data. -/
import Derived.Test.YtkoohnpknhoahaaTSxA
import Derived.ChangeSlices
import Derived.WideShapes
import Derived.RowKit
set_option linter.all false
namespace Go.Sy
open Go Go.ChangeShapes Go.WideShapes Go.RowKit
variable {P : Program}
theorem open_bytes {H : Type} {enc : TypeId × Value → H} {W : World} {r : Reach} {base base' m : Nat} {t e : TypeId} {v : Value} {d : DataW H} {p : List MemPlace} {held : Bool} (ht : P.underlying t = some (.slice e)) (he : P.underlying e = some (.int .u8)) (hc : P.cellsOf e = 1)
    (hval : Value.okWide P W r base t v) (h : DataW.Trod enc P W base' (fun _ => true) held t v d p) : ∃ zs, VR (env0 (allZ W) m) (.ro false .u8 zs) v ∧ ∀ z ∈ zs, 0 ≤ z ∧ z < 256 := by
  obtain ⟨a0, len0, cap0, rfl⟩ := okWide_slice ht hval
  obtain ⟨fuel, hf⟩ := h
  rcases ChangeShapes.open_ints ht he hc hf with ⟨hcs, _⟩ | ⟨x, l, c, zs, hcs, _, hl, hm, hz, _, hcell, hwz⟩
  · simp [Value.cells] at hcs
    obtain ⟨rfl, rfl, rfl⟩ := hcs
    exact ⟨[], .inl ⟨rfl, none, 0, rfl, fun _ => rfl⟩, fun _ h => by cases h⟩
  · simp [Value.cells] at hcs
    obtain ⟨rfl, rfl, rfl⟩ := hcs
    obtain ⟨_, hs, c, t', fr, hb⟩ := block_of_wide ht hval
    refine ⟨zs.take len0, RoI.of_cells hb hs (by simpa using hz) hl hcell, ?_⟩
    intro n hn
    have h1 := hwz n (List.mem_of_mem_take hn)
    have h2 : 0 ≤ n ∧ n ≤ 255 := by simpa [Lit.wf, IntKind.has, IntKind.min, IntKind.max, IntKind.signed, IntKind.bits] using h1
    omega
theorem open_tail {H : Type} {enc : TypeId × Value → H} {W : World} {r : Reach} {base base' m : Nat} {t e : TypeId} {fs : Array Field} {f : Field} {i n : Nat} {v : Value} {d : DataW H} {p : List MemPlace} {held : Bool} (hs : P.underlying t = some (.struct fs)) (hf : fs[i]? = some f)
    (ho : f.offset = n) (hn : P.cellsOf t = n + 1) (hc1 : P.cellsOf f.type = 1) (ht : P.underlying f.type = some (.slice e)) (he : P.underlying e = some (.int .u8)) (hc : P.cellsOf e = 1)
    (hct : (P.cellTypes P.depth t).map (fun ts => (ts.take n).all (fun u => isInt P u == some .u8) && ts.length == n + 1 && ts[n]? == some f.type) = some true)
    (hval : Value.okWide P W r base t v) (h : DataW.Trod enc P W base' (fun _ => true) held t v d p) :
    ∃ (bs : List Int) (zs : List Int) (y : Value), v = .agg ⟨intsV .u8 bs ++ [y]⟩ ∧ bs.length = n ∧ (∀ z ∈ bs, 0 ≤ z ∧ z < 256) ∧ VR (env0 (allZ W) m) (.ro false .u8 zs) y ∧ ∀ z ∈ zs, 0 ≤ z ∧ z < 256 := by
  have h' : ∃ cs, v = .agg cs ∧ cs.size = P.cellsOf t ∧ Row.okWide P W r base t cs := by
    unfold Value.okWide at hval
    rw [hs] at hval
    exact hval
  obtain ⟨cs, rfl, hsz, ts, hts, _, hall⟩ := h'
  rw [hts] at hct
  simp only [Option.map_some, Option.some.injEq, Bool.and_eq_true, List.all_eq_true, beq_iff_eq] at hct
  obtain ⟨⟨h1, h2⟩, h3⟩ := hct
  rw [hn] at hsz
  have cell : ∀ j v, j < n → cs[j]? = some v → ∃ z : Int, v = Value.int .u8 z ∧ IntKind.u8.has z := fun j v hj hi => by
    obtain ⟨u, hu, hok⟩ := hall j v hi
    rw [h2, Nat.mod_eq_of_lt (by omega)] at hu
    have hk := h1 u (List.mem_of_getElem? (i := j) (by rw [List.getElem?_take, if_pos hj]; exact hu))
    have hk' : P.underlying u = some (.int .u8) := by
      unfold isInt at hk
      split at hk
      · rename_i hx; cases hk; exact hx
      · cases hk
    simp only [Cell.okWide, hk', Cell.ok] at hok
    cases v <;> simp_all
  have hex : ∀ l : List Value, (∀ v ∈ l, ∃ z : Int, v = Value.int .u8 z ∧ IntKind.u8.has z) → ∃ zs : List Int, l = intsV .u8 zs ∧ ∀ z ∈ zs, IntKind.u8.has z := by
    intro l
    induction l with
    | nil => intro _; exact ⟨[], rfl, by simp⟩
    | cons a l ih =>
      intro hl
      obtain ⟨z, rfl, hz⟩ := hl a (by simp)
      obtain ⟨zs, rfl, hzs⟩ := ih fun v hv => hl v (by simp [hv])
      refine ⟨z :: zs, rfl, fun y hy => ?_⟩
      rcases List.mem_cons.1 hy with rfl | hy
      · exact hz
      · exact hzs y hy
  obtain ⟨bs, hbs, hk⟩ := hex (cs.toList.take n) fun v hv => by
    obtain ⟨j, hj⟩ := List.mem_iff_getElem?.1 hv
    rw [List.getElem?_take] at hj
    split at hj
    · exact cell j v (by assumption) (by simpa using hj)
    · cases hj
  have hy : ∃ y, cs[n]? = some y := ⟨cs[n], by rw [Array.getElem?_eq_getElem]⟩
  obtain ⟨y, hy⟩ := hy
  have hsp : cs.toList = intsV .u8 bs ++ [y] := by
    rw [← hbs]
    have hd : cs.toList.drop n = [y] := by
      rw [List.drop_eq_getElem_cons (by simp; omega), List.drop_of_length_le (by simp; omega)]
      have : cs.toList[n]? = some y := by simpa using hy
      rw [List.getElem?_eq_some_iff] at this
      obtain ⟨_, q⟩ := this
      rw [q]
    rw [← hd, List.take_append_drop]
  obtain ⟨u, hu, hok⟩ := hall n y hy
  rw [h2, Nat.mod_eq_of_lt (by omega), h3] at hu
  cases hu
  have hval2 : Value.okWide P W r base f.type y := by unfold Value.okWide; rw [ht]; exact hok
  obtain ⟨a0, len0, cap0, rfl⟩ := okWide_slice ht hval2
  obtain ⟨fuel, hf'⟩ := h
  obtain ⟨xs, k, rfl, _, hl, hxl, hfl⟩ := DataW.trod_struct hs hf'
  have hx := hfl i f hf
  have hcs : (Value.agg cs).cells = cs := rfl
  have hln : bs.length = n := by
    have := congrArg List.length hbs
    rw [intsV_length, List.length_take] at this
    simp at this
    omega
  rw [hcs, hsp, ho, hc1, List.drop_left' (by rw [intsV_length, hln])] at hx
  have hi : i < xs.length := by rw [hxl]; exact (Array.getElem?_eq_some_iff.1 hf).1
  rw [List.getElem?_eq_getElem hi] at hx
  obtain ⟨zs, z1, z2⟩ := open_bytes (m := m) (base := base) (base' := base') (enc := enc) (held := held) (d := xs[i].1) (p := xs[i].2) ht he hc hval2 ⟨k, hx⟩
  refine ⟨bs, zs, _, by rw [← hsp], hln, fun z hz => ?_, z1, z2⟩
  have := hk z hz
  simp [IntKind.has, IntKind.min, IntKind.max, IntKind.signed, IntKind.bits] at this
  omega
theorem VR.tail {e : Env} {n k : Nat} {bs zs : List Int} {y : Value} (h : bs.length = n + k) (hy : VR e (.ro false .u8 zs) y) : VR e (.agg [.ints .u8 n (bs.take n), .ints .u8 k (bs.drop n), .ro false .u8 zs]) (.agg ⟨intsV .u8 bs ++ [y]⟩) := by
  refine ⟨intsV .u8 bs ++ [y], ⟨intsV .u8 (bs.drop n) ++ [y], ⟨[y], ⟨y, [], hy, rfl, rfl⟩, ?_⟩, ?_⟩, rfl⟩
  · rw [lst_eq (by simp; omega)]
  · rw [lst_eq (by simp; omega), ← List.append_assoc, ← intsV_append, List.take_append_drop]
end Go.Sy
