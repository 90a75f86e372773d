/- This file reads slices of bytes, and structs that hold bytes and such a slice, that come in with a row. Conditions: what came in reads as data. -/
import Derived.Test.YtkoohnpknhoahaaHSxA
import Derived.ChangeSlices
import Derived.WideShapes
import Derived.RowKit
set_option linter.all false
namespace Go.Sy
open Go Go.ChangeShapes Go.WideShapes Go.RowKit
variable {P : Program}
theorem open_bytes {H : Type} {enc : TypeId × Value → H} {W : World} {r : Reach} {base base' m : Nat} {t e : TypeId} {v : Value} {d : DataW H} {p : List MemPlace} {held : Bool} (ht : P.underlying t = some (.slice e)) (he : P.underlying e = some (.int .u8)) (hc : P.cellsOf e = 1)
    (hval : Value.okWide P W r base t v) (h : DataW.Trod enc P W base' (fun _ => true) held t v d p) : ∃ zs, VR (env0 (allZ W) m) (.ro false .u8 zs) v ∧ ∀ z ∈ zs, 0 ≤ z ∧ z < 256 := by
  obtain ⟨a0, len0, cap0, rfl⟩ := okWide_slice ht hval
  obtain ⟨fuel, hf⟩ := h
  rcases ChangeShapes.open_ints ht he hc hf with ⟨hcs, _⟩ | ⟨x, l, c, zs, hcs, _, hl, hm, hz, _, hcell, hwz⟩
  · simp [Value.cells] at hcs
    obtain ⟨rfl, rfl, rfl⟩ := hcs
    exact ⟨[], .inl ⟨rfl, none, 0, rfl, fun _ => rfl⟩, fun _ h => by cases h⟩
  · simp [Value.cells] at hcs
    obtain ⟨rfl, rfl, rfl⟩ := hcs
    obtain ⟨_, hs, c, t', fr, hb⟩ := block_of_wide ht hval
    refine ⟨zs.take len0, RoI.of_cells hb hs (by simpa using hz) hl hcell, ?_⟩
    intro n hn
    have h1 := hwz n (List.mem_of_mem_take hn)
    have h2 : 0 ≤ n ∧ n ≤ 255 := by simpa [Lit.wf, IntKind.has, IntKind.min, IntKind.max, IntKind.signed, IntKind.bits] using h1
    omega
end Go.Sy
