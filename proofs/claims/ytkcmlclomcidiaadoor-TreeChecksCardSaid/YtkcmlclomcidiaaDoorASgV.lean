/- This file reads trees that come in with a row. Conditions: what came in reads as data. -/
import Derived.Test.YtkcmlclomcidiaaDoorASgT
import Derived.Test.YtkcmlclomcidiaaDoorATrO
set_option linter.all false
namespace Go.Sy
open Go Go.ChangeShapes Go.WideShapes Go.RowKit
variable {P : Program} {H : Type} {enc : TypeId × Value → H} {W : World}
theorem inner_ints {k : IntKind} {base m : Nat} {t e : TypeId} {fuel : Nat} {held : Bool} {cs : List Value} {x : DataW H × List MemPlace} (ht : P.underlying t = some (.slice e)) (he : P.underlying e = some (.int k)) (hc : P.cellsOf e = 1)
    (h : DataW.trod enc P W base (fun _ => true) held fuel t cs = some x) : ∃ zs v, cs = [v] ∧ VR (env0 (allZ W) m) (.ro false k zs) v ∧ ∀ z ∈ zs, (Lit.int k z).wf = true := by
  rcases ChangeShapes.open_ints ht he hc h with ⟨hcs, _⟩ | ⟨a, len, cap, zs, hcs, _, hl, hm, hz, _, hcell, hwz⟩
  · exact ⟨[], _, hcs, .inl ⟨rfl, none, 0, rfl, fun _ => rfl⟩, fun _ h => by cases h⟩
  · have hz' : zs.length = cap := by simpa using hz
    refine ⟨zs.take len, _, hcs, ?_, fun n hn => hwz n (List.mem_of_mem_take hn)⟩
    by_cases h0 : cap = 0
    · exact .inl ⟨by rw [List.take_eq_nil_iff]; left; omega, some a, cap, by rw [show len = 0 by omega], fun q => by cases q⟩
    · obtain ⟨c, t', fr, hb, hs, _⟩ := cell_block (hcell 0 (by omega))
      exact RoI.of_cells hb hs hz' hl hcell
theorem cut6 (l : List Value) (h : l.length = 99) : l = (l.drop 0).take 1 ++ ((l.drop 1).take 1 ++ ((l.drop 2).take 32 ++ ((l.drop 34).take 32 ++ ((l.drop 66).take 32 ++ (l.drop 98).take 1)))) := by
  rw [List.take_of_length_le (l := l.drop 98) (by rw [List.length_drop]; omega), show l.drop 98 = (l.drop 66).drop 32 by rw [List.drop_drop], List.take_append_drop, show l.drop 66 = (l.drop 34).drop 32 by rw [List.drop_drop], List.take_append_drop,
    show l.drop 34 = (l.drop 2).drop 32 by rw [List.drop_drop], List.take_append_drop, show l.drop 2 = (l.drop 1).drop 1 by rw [List.drop_drop], List.take_append_drop, List.drop_zero, List.take_append_drop]
structure NodT (P : Program) (e t0 t1 t2 t3 t4 e1 e2 : TypeId) (f0 f1 f2 f3 f4 f5 : Field) : Prop where
  s : P.underlying e = some (.struct #[f0, f1, f2, f3, f4, f5])
  c : P.cellsOf e = 99
  ft : f0.type = t0 ∧ f1.type = t1 ∧ f2.type = t2 ∧ f3.type = t2 ∧ f4.type = t4 ∧ f5.type = t3
  o : f0.offset = 0 ∧ f1.offset = 1 ∧ f2.offset = 2 ∧ f3.offset = 34 ∧ f4.offset = 66 ∧ f5.offset = 98
  u : P.underlying t0 = some .bool ∧ P.underlying t1 = some (.int .i64) ∧ P.underlying t2 = some (.array 32 e1) ∧ P.underlying t3 = some (.slice e2) ∧ P.underlying e1 = some (.int .u8) ∧ P.underlying e2 = some (.int .i64) ∧ P.underlying t4 = some (.array 32 e1)
  k : P.cellsOf t0 = 1 ∧ P.cellsOf t1 = 1 ∧ P.cellsOf t2 = 32 ∧ P.cellsOf t3 = 1 ∧ P.cellsOf e1 = 1 ∧ P.cellsOf e2 = 1 ∧ P.cellsOf t4 = 32
theorem open_node {base m : Nat} {e t0 t1 t2 t3 t4 e1 e2 : TypeId} {f0 f1 f2 f3 f4 f5 : Field} {fuel : Nat} {held : Bool} {cs : List Value} {x : DataW H × List MemPlace} (T : NodT P e t0 t1 t2 t3 t4 e1 e2 f0 f1 f2 f3 f4 f5)
    (h : DataW.trod enc P W base (fun _ => true) held fuel e cs = some x) : ∃ n : Nod, PR ⟨fun _ => none, allZ W, m, [], fun _ => none⟩ n.cells cs ∧ n.OK := by
  obtain ⟨he, hc, ⟨rfl, rfl, r2, r3, r4, rfl⟩, ⟨o0, o1, o2, o3, o4, o5⟩, ⟨u0, u1, u2, u3, u4, u5, u6⟩, ⟨k0, k1, k2, k3, k4, k5, k6⟩⟩ := T
  obtain ⟨xs, n', rfl, _, hl, hxl, hfl⟩ := DataW.trod_struct he h
  rw [hc] at hl
  have q0 := hfl 0 f0 rfl
  have q1 := hfl 1 f1 rfl
  have q2 := hfl 2 f2 rfl
  have q3 := hfl 3 f3 rfl
  have q4 := hfl 4 f4 rfl
  have q5 := hfl 5 f5 rfl
  rw [List.getElem?_eq_getElem (by rw [hxl]; simp)] at q0 q1 q2 q3 q4 q5
  rw [o0, k0] at q0
  rw [o1, k1] at q1
  rw [r2, o2, k2] at q2
  rw [r3, o3, k2] at q3
  rw [r4, o4, k6] at q4
  rw [o5, k3] at q5
  obtain ⟨b, e0, _⟩ := DataW.trod_bool u0 q0
  obtain ⟨z, e1', _, w1⟩ := DataW.trod_int u1 q1
  obtain ⟨ks, e2', l2, w2⟩ := inner_key u2 u4 k4 k2 q2
  obtain ⟨ss, e3', l3, w3⟩ := inner_key u2 u4 k4 k2 q3
  obtain ⟨ps, e4', l4, w4⟩ := inner_key u6 u4 k4 k6 q4
  obtain ⟨zs, v1, e5', g1, g2⟩ := inner_ints (m := m) u3 u5 k5 q5
  have hcs := cut6 cs hl
  rw [e0, e1', e2', e3', e4', e5'] at hcs
  subst hcs
  refine ⟨⟨b, z, ks, ss, ps, zs⟩, ?_, w1, ⟨l2, w2⟩, ⟨l3, w3⟩, ⟨l4, w4⟩, g2⟩
  refine ⟨_, _, rfl, ⟨_, _, rfl, ⟨intsV .u8 ss ++ (intsV .u8 ps ++ [v1]), ⟨intsV .u8 ps ++ [v1], ⟨[v1], ⟨_, _, g1, rfl, rfl⟩, ?_⟩, ?_⟩, ?_⟩, rfl⟩, rfl⟩
  · rw [lst_eq l4]
  · rw [lst_eq l3]
  · rw [lst_eq l2]; rfl
theorem open_tree {r : Reach} {base base' m : Nat} {t e t0 t1 t2 t3 t4 e1 e2 : TypeId} {f0 f1 f2 f3 f4 f5 : Field} {v : Value} {d : DataW H} {p : List MemPlace} {held : Bool} (ht : P.underlying t = some (.slice e)) (T : NodT P e t0 t1 t2 t3 t4 e1 e2 f0 f1 f2 f3 f4 f5)
    (hval : Value.okWide P W r base t v) (h : DataW.Trod enc P W base' (fun _ => true) held t v d p) :
    ∃ (N : Nat) (f : Nat → Nod), VR (env0 (allZ W) m) (.rol false 99 N (fun i => (f i).cells)) v ∧ ∀ i, i < N → (f i).OK :=
  open_list (α := Nod) (m := m) Nod.cells Nod.OK ht T.c (by decide) hval h fun _ _ _ hy => open_node T hy
end Go.Sy
