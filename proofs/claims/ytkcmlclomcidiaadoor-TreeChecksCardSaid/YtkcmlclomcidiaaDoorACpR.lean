/- This file reads slices of structs that come in with a row, and the structs of a number, bytes and a number. Conditions: what came in reads as data. -/
import Derived.Test.YtkcmlclomcidiaaDoorASgR
set_option linter.all false
namespace Go.Sy
open Go Go.ChangeShapes Go.WideShapes Go.RowKit
variable {P : Program} {H : Type} {enc : TypeId × Value → H} {W : World}
theorem cell_block {a : Addr} {v : Value} (h : W.cell? a = some v) : ∃ c t fr, W.heap[a.block]? = some (.cells c t fr) ∧ a.spot = none ∧ c[a.off]? = some v := by
  unfold World.cell? at h
  split at h
  · rename_i c t fr hb
    split at h
    · cases h
    · rename_i hs
      refine ⟨c, t, fr, hb, ?_, h⟩
      cases q : a.spot with
      | none => rfl
      | some x => rw [q] at hs; exact absurd rfl hs
  · cases h
theorem open_list {α : Type} [Inhabited α] (cell : α → List SV) (G : α → Prop) {r : Reach} {base base' m z : Nat} {t e : TypeId} {v : Value} {d : DataW H} {p : List MemPlace} {held : Bool} (ht : P.underlying t = some (.slice e)) (hc : P.cellsOf e = z) (hz0 : 0 < z)
    (hval : Value.okWide P W r base t v) (h : DataW.Trod enc P W base' (fun _ => true) held t v d p)
    (each : ∀ (n : Nat) (cs : List Value) (y : DataW H × List MemPlace), DataW.trod enc P W base' (fun _ => true) held n e cs = some y → ∃ a : α, PR ⟨fun _ => none, allZ W, m, [], fun _ => none⟩ (cell a) cs ∧ G a) :
    ∃ (len : Nat) (f : Nat → α), VR (env0 (allZ W) m) (.rol false z len (fun i => cell (f i))) v ∧ ∀ i, i < len → G (f i) := by
  obtain ⟨a0, len0, cap0, rfl⟩ := okWide_slice ht hval
  obtain ⟨fuel, hf⟩ := h
  rcases DataW.trod_slice ht hf with ⟨hcs, _⟩ | ⟨a, len, cap, elems, rest, n, _, hcs, _, _, hl, _, hlen, hel, hsp, _⟩
  · simp [Value.cells] at hcs
    obtain ⟨rfl, rfl, rfl⟩ := hcs
    exact ⟨0, fun _ => default, .inl ⟨rfl, none, 0, rfl, fun _ => rfl⟩, fun _ h => by omega⟩
  · simp [Value.cells] at hcs
    obtain ⟨rfl, rfl, rfl⟩ := hcs
    by_cases h0 : len0 = 0
    · exact ⟨0, fun _ => default, .inl ⟨rfl, some a, cap0, by rw [h0], fun q => by cases q⟩, fun _ h => by omega⟩
    obtain ⟨_, hs, c, t', fr, hb⟩ := block_of_wide ht hval
    rw [hc] at hel hsp
    have adds : ∀ k, a.add k = ⟨a.block, a.off + k, none⟩ := fun k => by
      obtain ⟨b, o, s⟩ := a
      simp only at hs
      subst hs
      unfold Addr.add
      split
      · rename_i h; simp [h]
      · rfl
    have addsP : ∀ (b o j : Nat), Addr.add ⟨b, o, none⟩ j = ⟨b, o + j, none⟩ := fun b o j => by
      unfold Addr.add
      split
      · rename_i h; simp [h]
      · rfl
    have cellc : ∀ (k : Nat) (v : Value), W.cell? (a.add k) = some v → c[a.off + k]? = some v := fun k v hk => by
      obtain ⟨c1, t1, f1, e1, _, e3⟩ := cell_block hk
      rw [adds] at e1 e3
      rw [hb] at e1
      cases e1
      exact e3
    have part : ∀ (i : Nat) (cs : List Value), W.cells? base' (a.add (i * z)) z = some cs → cs = (c.toList.drop (a.off + i * z)).take z ∧ a.off + i * z + z ≤ c.size := fun i cs hi => by
      obtain ⟨_, q2, q3⟩ := World.cells?_some hi
      have hq : ∀ j, j < z → ∃ v, cs[j]? = some v ∧ c[a.off + i * z + j]? = some v := fun j hj => by
        have hv : ∃ v, cs[j]? = some v := ⟨cs[j], by rw [List.getElem?_eq_getElem]⟩
        obtain ⟨v, hv⟩ := hv
        have hk : W.cell? (a.add (i * z + j)) = some v := by
          have := q3 j hj
          rw [hv] at this
          rw [← this, adds, adds, addsP, Nat.add_assoc]
        exact ⟨v, hv, by rw [Nat.add_assoc]; exact cellc _ v hk⟩
      have hsz : a.off + i * z + z ≤ c.size := by
        obtain ⟨v, _, hv⟩ := hq (z - 1) (by omega)
        have := (Array.getElem?_eq_some_iff.1 hv).1
        omega
      refine ⟨?_, hsz⟩
      apply List.ext_getElem?
      intro j
      by_cases hj : j < z
      · obtain ⟨v, h1, h2⟩ := hq j hj
        rw [h1, List.getElem?_take, if_pos hj, List.getElem?_drop]
        simpa using h2.symm
      · rw [List.getElem?_eq_none (by omega), List.getElem?_eq_none (by rw [List.length_take]; omega)]
    have one : ∀ i, i < len0 → ∃ x : α, PR ⟨fun _ => none, allZ W, m, [], fun _ => none⟩ (cell x) ((c.toList.drop (a.off + i * z)).take z) ∧ G x := fun i hi => by
      have h1 := hel i hi
      rw [List.getElem?_eq_getElem (by omega)] at h1
      obtain ⟨cs, h2, h3⟩ := Option.bind_eq_some_iff.1 h1
      obtain ⟨x, hx, hg⟩ := each n cs _ h3
      rw [(part i cs h2).1] at hx
      exact ⟨x, hx, hg⟩
    have size : a.off + cap0 * z ≤ c.size := by
      have last : ∃ cs, W.cells? base' (a.add ((cap0 - 1) * z)) z = some cs := by
        by_cases hcl : cap0 = len0
        · have h1 := hel (len0 - 1) (by omega)
          rw [List.getElem?_eq_getElem (by omega)] at h1
          obtain ⟨cs, h2, _⟩ := Option.bind_eq_some_iff.1 h1
          exact ⟨cs, by rw [hcl]; exact h2⟩
        · obtain ⟨r1, r2⟩ := hsp rfl
          have h1 := r2 (cap0 - len0 - 1) (by omega)
          rw [List.getElem?_eq_getElem (by omega)] at h1
          obtain ⟨cs, h2, _⟩ := Option.bind_eq_some_iff.1 h1
          exact ⟨cs, by rw [show cap0 - 1 = len0 + (cap0 - len0 - 1) by omega]; exact h2⟩
      obtain ⟨cs, h1⟩ := last
      have := (part _ cs h1).2
      have e : cap0 * z = (cap0 - 1) * z + z := by
        rw [show cap0 = (cap0 - 1) + 1 by omega, Nat.add_mul, Nat.one_mul, Nat.add_sub_cancel]
      omega
    refine ⟨len0, fun i => if hi : i < len0 then (one i hi).choose else default, .inr ⟨a.block, a.off, cap0, c, t', fr, ?_, ?_, (fun q => by cases q), (fun i hi => ?_), hl, size⟩, fun i hi => ?_⟩
    · obtain ⟨b, o, s⟩ := a
      simp only at hs
      subst hs; rfl
    · show allZ W a.block = _
      unfold allZ
      rw [hb]
    · simp only [dif_pos hi]
      exact (one i hi).choose_spec.1
    · simp only [dif_pos hi]
      exact (one i hi).choose_spec.2
end Go.Sy
