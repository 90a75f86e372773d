/- This file reads structs with keys that come in with the row NoisePlays. Conditions: what came in reads as data. -/
import Derived.Test.YtkcmlclomcidiaaDoorACpR
import Derived.OpenShut
set_option linter.all false
namespace Go.Sy
open Go Go.ChangeShapes Go.WideShapes Go.RowKit
variable {P : Program} {H : Type} {enc : TypeId × Value → H} {W : World}
theorem inner_key {base N : Nat} {t e : TypeId} {fuel : Nat} {held : Bool} {cs : List Value} {x : DataW H × List MemPlace} (ht : P.underlying t = some (.array N e)) (he : P.underlying e = some (.int .u8)) (hc : P.cellsOf e = 1) (hn : P.cellsOf t = N)
    (h : DataW.trod enc P W base (fun _ => true) held fuel t cs = some x) : ∃ zs, cs = intsV .u8 zs ∧ zs.length = N ∧ ∀ z ∈ zs, 0 ≤ z ∧ z < 256 := by
  obtain ⟨xs, m, _, _, hl, hxl, hx⟩ := DataW.trod_array ht h
  rw [hn] at hl
  rw [hc] at hx
  have each : ∀ v ∈ cs, ∃ z : Int, v = Value.int .u8 z ∧ 0 ≤ z ∧ z < 256 := fun v hv => by
    obtain ⟨i, hi, hvi⟩ := List.getElem_of_mem hv
    have q := hx i (by omega)
    rw [List.getElem?_eq_getElem (by omega), Nat.mul_one] at q
    obtain ⟨z, e1, _, hw⟩ := DataW.trod_int he q
    have g := congrArg (fun l : List Value => l[0]?) e1
    simp only [List.getElem?_cons_zero, List.getElem?_take, List.getElem?_drop, Nat.add_zero, Nat.zero_lt_one, if_true] at g
    rw [List.getElem?_eq_getElem hi, hvi] at g
    have h2 : 0 ≤ z ∧ z ≤ 255 := by simpa [Lit.wf, IntKind.has, IntKind.min, IntKind.max, IntKind.signed, IntKind.bits] using hw
    exact ⟨z, by simpa using g, by omega⟩
  have hex : ∀ l : List Value, (∀ v ∈ l, ∃ z : Int, v = Value.int .u8 z ∧ 0 ≤ z ∧ z < 256) → ∃ zs : List Int, l = intsV .u8 zs ∧ ∀ z ∈ zs, 0 ≤ z ∧ z < 256 := by
    intro l
    induction l with
    | nil => intro _; exact ⟨[], rfl, by simp⟩
    | cons a l ih =>
      intro hl
      obtain ⟨z, rfl, hz⟩ := hl a (by simp)
      obtain ⟨zs, rfl, hzs⟩ := ih fun v hv => hl v (by simp [hv])
      exact ⟨z :: zs, rfl, fun y hy => by rcases List.mem_cons.1 hy with rfl | hy; exact hz; exact hzs y hy⟩
  obtain ⟨zs, rfl, hz⟩ := hex cs each
  exact ⟨zs, rfl, by simpa [intsV] using hl, hz⟩
end Go.Sy
