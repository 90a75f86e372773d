/- This file reads slices of structs that come in with a row, and the structs of a number, bytes and a number. Conditions: what came in reads as data. -/
import Derived.Test.YtkoohnpknhoahaaKSgR
set_option linter.all false
namespace Go.Sy
open Go Go.ChangeShapes Go.WideShapes Go.RowKit
variable {P : Program} {H : Type} {enc : TypeId × Value → H} {W : World}
theorem cell_block {a : Addr} {v : Value} (h : W.cell? a = some v) : ∃ c t fr, W.heap[a.block]? = some (.cells c t fr) ∧ a.spot = none ∧ c[a.off]? = some v := by
  unfold World.cell? at h
  split at h
  · rename_i c t fr hb
    split at h
    · cases h
    · rename_i hs
      refine ⟨c, t, fr, hb, ?_, h⟩
      cases q : a.spot with
      | none => rfl
      | some x => rw [q] at hs; exact absurd rfl hs
  · cases h
theorem inner_bytes {base m : Nat} {t e : TypeId} {fuel : Nat} {held : Bool} {cs : List Value} {x : DataW H × List MemPlace} (ht : P.underlying t = some (.slice e)) (he : P.underlying e = some (.int .u8)) (hc : P.cellsOf e = 1)
    (h : DataW.trod enc P W base (fun _ => true) held fuel t cs = some x) : ∃ zs v, cs = [v] ∧ VR (env0 (allZ W) m) (.ro false .u8 zs) v ∧ ∀ z ∈ zs, 0 ≤ z ∧ z < 256 := by
  rcases ChangeShapes.open_ints ht he hc h with ⟨hcs, _⟩ | ⟨a, len, cap, zs, hcs, _, hl, hm, hz, _, hcell, hwz⟩
  · exact ⟨[], _, hcs, .inl ⟨rfl, none, 0, rfl, fun _ => rfl⟩, fun _ h => by cases h⟩
  · have hz' : zs.length = cap := by simpa using hz
    refine ⟨zs.take len, _, hcs, ?_, fun n hn => ?_⟩
    · by_cases h0 : cap = 0
      · exact .inl ⟨by rw [List.take_eq_nil_iff]; left; omega, some a, cap, by rw [show len = 0 by omega], fun q => by cases q⟩
      · obtain ⟨c, t', fr, hb, hs, _⟩ := cell_block (hcell 0 (by omega))
        exact RoI.of_cells hb hs hz' hl hcell
    · have h1 := hwz n (List.mem_of_mem_take hn)
      have h2 : 0 ≤ n ∧ n ≤ 255 := by simpa [Lit.wf, IntKind.has, IntKind.min, IntKind.max, IntKind.signed, IntKind.bits] using h1
      omega
theorem open_list {α : Type} [Inhabited α] (cell : α → List SV) (G : α → Prop) {r : Reach} {base base' m z : Nat} {t e : TypeId} {v : Value} {d : DataW H} {p : List MemPlace} {held : Bool} (ht : P.underlying t = some (.slice e)) (hc : P.cellsOf e = z) (hz0 : 0 < z)
    (hval : Value.okWide P W r base t v) (h : DataW.Trod enc P W base' (fun _ => true) held t v d p)
    (each : ∀ (n : Nat) (cs : List Value) (y : DataW H × List MemPlace), DataW.trod enc P W base' (fun _ => true) held n e cs = some y → ∃ a : α, PR ⟨fun _ => none, allZ W, m, [], fun _ => none⟩ (cell a) cs ∧ G a) :
    ∃ (len : Nat) (f : Nat → α), VR (env0 (allZ W) m) (.rol false z len (fun i => cell (f i))) v ∧ ∀ i, i < len → G (f i) := by
  obtain ⟨a0, len0, cap0, rfl⟩ := okWide_slice ht hval
  obtain ⟨fuel, hf⟩ := h
  rcases DataW.trod_slice ht hf with ⟨hcs, _⟩ | ⟨a, len, cap, elems, rest, n, _, hcs, _, _, hl, _, hlen, hel, hsp, _⟩
  · simp [Value.cells] at hcs
    obtain ⟨rfl, rfl, rfl⟩ := hcs
    exact ⟨0, fun _ => default, .inl ⟨rfl, none, 0, rfl, fun _ => rfl⟩, fun _ h => by omega⟩
  · simp [Value.cells] at hcs
    obtain ⟨rfl, rfl, rfl⟩ := hcs
    by_cases h0 : len0 = 0
    · exact ⟨0, fun _ => default, .inl ⟨rfl, some a, cap0, by rw [h0], fun q => by cases q⟩, fun _ h => by omega⟩
    obtain ⟨_, hs, c, t', fr, hb⟩ := block_of_wide ht hval
    rw [hc] at hel hsp
    have adds : ∀ k, a.add k = ⟨a.block, a.off + k, none⟩ := fun k => by
      obtain ⟨b, o, s⟩ := a
      simp only at hs
      subst hs
      unfold Addr.add
      split
      · rename_i h; simp [h]
      · rfl
    have addsP : ∀ (b o j : Nat), Addr.add ⟨b, o, none⟩ j = ⟨b, o + j, none⟩ := fun b o j => by
      unfold Addr.add
      split
      · rename_i h; simp [h]
      · rfl
    have cellc : ∀ (k : Nat) (v : Value), W.cell? (a.add k) = some v → c[a.off + k]? = some v := fun k v hk => by
      obtain ⟨c1, t1, f1, e1, _, e3⟩ := cell_block hk
      rw [adds] at e1 e3
      rw [hb] at e1
      cases e1
      exact e3
    have part : ∀ (i : Nat) (cs : List Value), W.cells? base' (a.add (i * z)) z = some cs → cs = (c.toList.drop (a.off + i * z)).take z ∧ a.off + i * z + z ≤ c.size := fun i cs hi => by
      obtain ⟨_, q2, q3⟩ := World.cells?_some hi
      have hq : ∀ j, j < z → ∃ v, cs[j]? = some v ∧ c[a.off + i * z + j]? = some v := fun j hj => by
        have hv : ∃ v, cs[j]? = some v := ⟨cs[j], by rw [List.getElem?_eq_getElem]⟩
        obtain ⟨v, hv⟩ := hv
        have hk : W.cell? (a.add (i * z + j)) = some v := by
          have := q3 j hj
          rw [hv] at this
          rw [← this, adds, adds, addsP, Nat.add_assoc]
        exact ⟨v, hv, by rw [Nat.add_assoc]; exact cellc _ v hk⟩
      have hsz : a.off + i * z + z ≤ c.size := by
        obtain ⟨v, _, hv⟩ := hq (z - 1) (by omega)
        have := (Array.getElem?_eq_some_iff.1 hv).1
        omega
      refine ⟨?_, hsz⟩
      apply List.ext_getElem?
      intro j
      by_cases hj : j < z
      · obtain ⟨v, h1, h2⟩ := hq j hj
        rw [h1, List.getElem?_take, if_pos hj, List.getElem?_drop]
        simpa using h2.symm
      · rw [List.getElem?_eq_none (by omega), List.getElem?_eq_none (by rw [List.length_take]; omega)]
    have one : ∀ i, i < len0 → ∃ x : α, PR ⟨fun _ => none, allZ W, m, [], fun _ => none⟩ (cell x) ((c.toList.drop (a.off + i * z)).take z) ∧ G x := fun i hi => by
      have h1 := hel i hi
      rw [List.getElem?_eq_getElem (by omega)] at h1
      obtain ⟨cs, h2, h3⟩ := Option.bind_eq_some_iff.1 h1
      obtain ⟨x, hx, hg⟩ := each n cs _ h3
      rw [(part i cs h2).1] at hx
      exact ⟨x, hx, hg⟩
    have size : a.off + cap0 * z ≤ c.size := by
      have last : ∃ cs, W.cells? base' (a.add ((cap0 - 1) * z)) z = some cs := by
        by_cases hcl : cap0 = len0
        · have h1 := hel (len0 - 1) (by omega)
          rw [List.getElem?_eq_getElem (by omega)] at h1
          obtain ⟨cs, h2, _⟩ := Option.bind_eq_some_iff.1 h1
          exact ⟨cs, by rw [hcl]; exact h2⟩
        · obtain ⟨r1, r2⟩ := hsp rfl
          have h1 := r2 (cap0 - len0 - 1) (by omega)
          rw [List.getElem?_eq_getElem (by omega)] at h1
          obtain ⟨cs, h2, _⟩ := Option.bind_eq_some_iff.1 h1
          exact ⟨cs, by rw [show cap0 - 1 = len0 + (cap0 - len0 - 1) by omega]; exact h2⟩
      obtain ⟨cs, h1⟩ := last
      have := (part _ cs h1).2
      have e : cap0 * z = (cap0 - 1) * z + z := by
        rw [show cap0 = (cap0 - 1) + 1 by omega, Nat.add_mul, Nat.one_mul, Nat.add_sub_cancel]
      omega
    refine ⟨len0, fun i => if hi : i < len0 then (one i hi).choose else default, .inr ⟨a.block, a.off, cap0, c, t', fr, ?_, ?_, (fun q => by cases q), (fun i hi => ?_), hl, size⟩, fun i hi => ?_⟩
    · obtain ⟨b, o, s⟩ := a
      simp only at hs
      subst hs; rfl
    · show allZ W a.block = _
      unfold allZ
      rw [hb]
    · simp only [dif_pos hi]
      exact (one i hi).choose_spec.1
    · simp only [dif_pos hi]
      exact (one i hi).choose_spec.2
theorem open_ops {r : Reach} {base base' m : Nat} {t e t0 t1 t2 e1 : TypeId} {f0 f1 f2 : Field} {v : Value} {d : DataW H} {p : List MemPlace} {held : Bool} (ht : P.underlying t = some (.slice e)) (he : P.underlying e = some (.struct #[f0, f1, f2])) (hc : P.cellsOf e = 3)
    (h0 : f0.type = t0 ∧ f0.offset = 0 ∧ P.underlying t0 = some (.int .i64) ∧ P.cellsOf t0 = 1) (h1 : f1.type = t1 ∧ f1.offset = 1 ∧ P.underlying t1 = some (.slice e1) ∧ P.cellsOf t1 = 1 ∧ P.underlying e1 = some (.int .u8) ∧ P.cellsOf e1 = 1)
    (h2 : f2.type = t2 ∧ f2.offset = 2 ∧ P.underlying t2 = some (.int .i64) ∧ P.cellsOf t2 = 1)
    (hval : Value.okWide P W r base t v) (h : DataW.Trod enc P W base' (fun _ => true) held t v d p) :
    ∃ (N : Nat) (k n : Nat → Int) (x : Nat → List Int), VR (env0 (allZ W) m) (.rol false 3 N (fun i => [.int .i64 (k i), .ro false .u8 (x i), .int .i64 (n i)])) v ∧
      ∀ i, i < N → IntKind.i64.has (k i) ∧ IntKind.i64.has (n i) ∧ ∀ z ∈ x i, 0 ≤ z ∧ z < 256 := by
  obtain ⟨rfl, o0, u0, c0⟩ := h0
  obtain ⟨rfl, o1, u1, c1, u1', c1'⟩ := h1
  obtain ⟨rfl, o2, u2, c2⟩ := h2
  have hw : ∀ {z : Int}, (Lit.int .i64 z).wf = true → IntKind.i64.has z := fun h => by
    simpa [Lit.wf, IntKind.has, IntKind.min, IntKind.max, IntKind.signed, IntKind.bits] using h
  obtain ⟨N, f, g1, g2⟩ := open_list (α := Int × List Int × Int) (m := m) (fun a => [.int .i64 a.1, .ro false .u8 a.2.1, .int .i64 a.2.2]) (fun a => IntKind.i64.has a.1 ∧ IntKind.i64.has a.2.2 ∧ ∀ z ∈ a.2.1, 0 ≤ z ∧ z < 256) ht hc (by decide) hval h fun n cs y hy => by
    obtain ⟨xs, n', rfl, _, hl, hxl, hfl⟩ := DataW.trod_struct he hy
    rw [hc] at hl
    obtain ⟨a, b, c, rfl⟩ : ∃ a b c, cs = [a, b, c] := by
      match cs, hl with
      | [a, b, c], _ => exact ⟨a, b, c, rfl⟩
    have q0 := hfl 0 f0 rfl
    have q1 := hfl 1 f1 rfl
    have q2 := hfl 2 f2 rfl
    rw [List.getElem?_eq_getElem (by rw [hxl]; simp)] at q0 q1 q2
    rw [o0, c0] at q0
    rw [o1, c1] at q1
    rw [o2, c2] at q2
    obtain ⟨z0, e0, _, w0⟩ := DataW.trod_int u0 q0
    obtain ⟨z2, e2, _, w2⟩ := DataW.trod_int u2 q2
    obtain ⟨zs, v1, e1', r1, r2⟩ := inner_bytes (m := m) u1 u1' c1' q1
    simp at e0 e1' e2
    subst e0 e1' e2
    exact ⟨(z0, zs, z2), ⟨_, _, rfl, ⟨_, _, r1, ⟨_, _, rfl, rfl, rfl⟩, rfl⟩, rfl⟩, hw w0, hw w2, r2⟩
  exact ⟨N, fun i => (f i).1, fun i => (f i).2.2, fun i => (f i).2.1, g1, g2⟩
end Go.Sy
