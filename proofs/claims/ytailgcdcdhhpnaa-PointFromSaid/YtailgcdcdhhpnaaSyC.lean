/- This file proves what the tracked blocks' relation to the machine's world bears: loads, stores, new blocks. Conditions: those of the interpreter's own tests. -/
import Derived.Test.YtailgcdcdhhpnaaSyB
namespace Go.Sy
open Go

section
variable {P : Program} {e : Env}

/-! ### Slots and operands -/
theorem VR.empty : VR e (.tup []) undef := ⟨[], rfl, rfl⟩
theorem TR.get {t : List (Option SV)} {t' : List Value} (h : TR e t t') {i : Nat} {v : SV} (g : t[i]? = some (some v)) : ∃ v', t'[i]? = some v' ∧ VR e v v' := by
  have hi : i < t'.length := by rw [← h.1]; exact (List.getElem?_eq_some_iff.1 g).1
  exact ⟨t'[i], List.getElem?_eq_getElem hi, h.2 i v _ g (List.getElem?_eq_getElem hi)⟩
theorem TR.set {t : List (Option SV)} {t' : List Value} (h : TR e t t') {v : SV} {v' : Value} (g : VR e v v') (i : Nat) : TR e (t.set i (some v)) (t'.set i v') := by
  refine ⟨by simp [h.1], fun j x x' hx hx' => ?_⟩
  by_cases hij : i = j
  · subst hij
    have h1 : i < t.length := by have := (List.getElem?_eq_some_iff.1 hx).1; simpa using this
    have h2 : i < t'.length := by rw [← h.1]; exact h1
    rw [List.getElem?_set_self h1] at hx
    rw [List.getElem?_set_self h2] at hx'
    cases hx; cases hx'
    exact g
  · rw [List.getElem?_set_ne hij] at hx hx'
    exact h.2 j x x' hx hx'
theorem TR.mono {e' : Env} (h : Env.Le e e') {t : List (Option SV)} {t' : List Value} (g : TR e t t') : TR e' t t' :=
  ⟨g.1, fun i v v' a b => VR.mono h (g.2 i v v' a b)⟩
theorem TR.kill {e' : Env} (hz : ∀ n o, e.z n = some o → e'.z n = some o) (hn : e'.n0 ≤ e.n0) {b : Nat} (hr : ∀ j p, j ≠ b → e.r j = some p → e'.r j = some p) {t : List (Option SV)} {t' : List Value} (g : TR e t t') : TR e' (killT (some b) t) t' := by
  refine ⟨by simp [killT, g.1], fun i v v' a c => ?_⟩
  simp only [killT, List.getElem?_map] at a
  cases hq : t[i]? with
  | none => simp [hq] at a
  | some x =>
    cases x with
    | none => simp [hq] at a
    | some x =>
      simp only [hq, Option.map_some, Option.some.injEq] at a
      split at a
      · cases a
      · rename_i hu
        cases a
        refine VR.mono' hz hn v v' (fun j p hj hp => hr j p (fun q => ?_) hp) (g.2 i v v' hq c)
        subst q; exact hu hj

mutual
theorem ofV_sound : ∀ {v : Value} {s : SV}, ofV v = some s → VR e s v
  | .bool b, s, h => by simp only [ofV, Option.some.injEq] at h; subst h; exact rfl
  | .int k n, s, h => by simp only [ofV, Option.some.injEq] at h; subst h; exact rfl
  | .string x, s, h => by simp only [ofV, Option.some.injEq] at h; subst h; exact ⟨x, rfl, rfl⟩
  | .pointer none, s, h => by simp only [ofV, Option.some.injEq] at h; subst h; exact rfl
  | .pointer (some a), s, h => by simp [ofV] at h
  | .slice none 0 0, s, h => by simp only [ofV, Option.some.injEq] at h; subst h; exact rfl
  | .slice none (_ + 1) _, s, h => by simp [ofV] at h
  | .slice none 0 (_ + 1), s, h => by simp [ofV] at h
  | .slice (some _) _ _, s, h => by simp [ofV] at h
  | .map none, s, h => by simp only [ofV, Option.some.injEq] at h; subst h; exact rfl
  | .map (some _), s, h => by simp [ofV] at h
  | .chan none, s, h => by simp only [ofV, Option.some.injEq] at h; subst h; exact rfl
  | .chan (some _), s, h => by simp [ofV] at h
  | .nilFunc, s, h => by simp only [ofV, Option.some.injEq] at h; subst h; exact rfl
  | .nilIface, s, h => by simp only [ofV, Option.some.injEq] at h; subst h; exact rfl
  | .float _ _, s, h => by simp [ofV] at h
  | .complex _ _ _, s, h => by simp [ofV] at h
  | .agg _, s, h => by simp [ofV] at h
  | .tuple ⟨xs⟩, s, h => by
    simp only [ofV] at h
    obtain ⟨a, h1, rfl⟩ := Option.map_eq_some_iff.1 h
    exact ⟨xs, ofL_sound h1, rfl⟩
  | .iface t x, s, h => by
    simp only [ofV] at h
    obtain ⟨a, h1, rfl⟩ := Option.map_eq_some_iff.1 h
    exact ⟨x, ofV_sound h1, rfl⟩
  | .func f ⟨xs⟩ ⟨ys⟩, s, h => by
    simp only [ofV] at h
    split at h
    · rename_i a b h1 h2
      cases h
      exact ⟨xs, ys, ofL_sound h1, ofL_sound h2, rfl⟩
    · cases h
theorem ofL_sound : ∀ {v : List Value} {s : List SV}, ofL v = some s → LR e s v
  | [], s, h => by simp only [ofL, Option.some.injEq] at h; subst h; exact rfl
  | x :: xs, s, h => by
    simp only [ofL] at h
    split at h
    · rename_i a b h1 h2
      cases h
      exact ⟨x, xs, ofV_sound h1, ofL_sound h2, rfl⟩
    · cases h
end

theorem ev_sound {t : List (Option SV)} {t' : List Value} {d : List Deferred} (h : TR e t t') {x : Operand} {v : SV} (g : ev t x = some v) : VR e v (Act.eval ⟨⟨t'⟩, d⟩ x) := by
  cases x with
  | tmp i =>
    simp only [ev] at g
    split at g
    · rename_i u hu
      cases g
      obtain ⟨v', hv', hv⟩ := h.get hu
      have : Act.eval ⟨⟨t'⟩, d⟩ (.tmp i) = v' := by
        show (⟨t'⟩ : Array Value).getD i undef = v'
        rw [Array.getD_eq_getD_getElem?]
        simp [hv']
      rw [this]
      exact hv
    · cases g
  | const c => exact ofV_sound g
  | func f => simp only [ev, Option.some.injEq] at g; subst g; exact ⟨[], [], rfl, rfl, rfl⟩
  | global g' => simp [ev] at g
theorem evL_sound {t : List (Option SV)} {t' : List Value} {d : List Deferred} (h : TR e t t') : ∀ {xs : List Operand} {vs : List SV}, evL t xs = some vs → LR e vs (xs.map (Act.eval ⟨⟨t'⟩, d⟩))
  | [], vs, g => by simp [evL] at g; subst g; rfl
  | x :: xs, vs, g => by
    simp only [evL] at g
    split at g
    · rename_i v vs' hx hxs; cases g
      exact ⟨_, _, ev_sound h hx, evL_sound h hxs, rfl⟩
    · cases g
/-- A value that need not be there. -/
def VO (e : Env) : Option SV → Option Value → Prop
  | none, y => y = none
  | some x, y => ∃ z, y = some z ∧ VR e x z
theorem evO_sound {t : List (Option SV)} {t' : List Value} {d : List Deferred} (h : TR e t t') {x : Option Operand} {v : Option SV} (g : evO t x = some v) : VO e v (x.map (Act.eval ⟨⟨t'⟩, d⟩)) := by
  cases x with
  | none => simp only [evO, Option.some.injEq] at g; subst g; rfl
  | some x =>
    simp only [evO] at g
    obtain ⟨u, hu, rfl⟩ := Option.map_eq_some_iff.1 g
    exact ⟨_, rfl, ev_sound h hu⟩

/-! ### Types -/
theorem szOf_run {t : TypeId} {n : Nat} (h : szOf P t = some n) (w : World) : (sizeOf t).run P w = .ok n w := by
  cases hq : P.info? t with
  | none => simp [szOf, hq] at h
  | some i => simp [szOf, hq] at h; subst h; simp [sizeOf, typeInfo, hq]
theorem szOf_info {t : TypeId} {n : Nat} (h : szOf P t = some n) : ∃ i, P.info? t = some i ∧ i.size = n := by
  cases hq : P.info? t with
  | none => simp [szOf, hq] at h
  | some i => simp [szOf, hq] at h; exact ⟨i, rfl, h⟩
theorem zeroOf_run {t : TypeId} {z : Value} (h : zeroOf P t = some z) (w : World) : (zeroValue t).run P w = .ok z w := by
  cases hq : P.info? t with
  | none => simp [zeroOf, hq] at h
  | some i => simp [zeroOf, hq] at h; simp [zeroValue, typeInfo, hq, h]
theorem aggB_run {t : TypeId} {b : Bool} (h : aggB P t = some b) (w : World) : (isAgg t).run P w = .ok b w := by
  cases hq : P.underlying t with
  | none => simp [aggB, hq] at h
  | some d =>
    simp only [aggB, hq, Option.map_some, Option.some.injEq] at h
    unfold isAgg
    rw [Sem.run_bind, run_underlying hq w]
    cases d <;> simp_all
theorem isInt_eq {t : TypeId} {k : IntKind} (h : isInt P t = some k) : P.underlying t = some (.int k) := by
  unfold isInt at h
  split at h
  · rename_i k' hu; cases h; exact hu
  · cases h

/-! ### Zero values -/
theorem sameI_sound {k : IntKind} : ∀ {xs : List Int} {ys zs : List Value}, sameI k xs ys = some zs → ys = intsV k xs ++ zs
  | [], ys, zs, h => by simp only [sameI, Option.some.injEq] at h; subst h; rfl
  | a :: as, ys, zs, h => by
    unfold sameI at h
    split at h
    · rename_i h1; cases h1
    · rename_i a' as' k' b ys' h1
      cases h1
      split at h
      · rename_i hc
        obtain ⟨rfl, rfl⟩ := hc
        rw [sameI_sound h]; rfl
      · cases h
    · cases h
theorem nilC_eq {v w : Value} {a : Nat} (h : nilC v = some a) (g : nilC w = some a) : w = v := by
  have key : ∀ {u : Value} {a : Nat}, nilC u = some a → (a = 0 ∧ u = .pointer none) ∨ (a = 1 ∧ u = .slice none 0 0) ∨ (a = 2 ∧ u = .map none) ∨ (a = 3 ∧ u = .chan none) ∨ (a = 4 ∧ u = .nilFunc) ∨ (a = 5 ∧ u = .nilIface) := by
    intro u a h
    unfold nilC at h
    split at h <;> simp at h <;> subst h <;> simp
  rcases key h with ⟨h1, rfl⟩ | ⟨h1, rfl⟩ | ⟨h1, rfl⟩ | ⟨h1, rfl⟩ | ⟨h1, rfl⟩ | ⟨h1, rfl⟩ <;> rcases key g with ⟨h2, rfl⟩ | ⟨h2, rfl⟩ | ⟨h2, rfl⟩ | ⟨h2, rfl⟩ | ⟨h2, rfl⟩ | ⟨h2, rfl⟩ <;> first | rfl | omega
theorem sameC_sound {x : SV} {y : Value} (h : sameC x y = true) : VR e x y ∧ notInts x = true := by
  unfold sameC at h
  split at h
  · simp at h; subst h; exact ⟨rfl, rfl⟩
  · simp at h; obtain ⟨rfl, rfl⟩ := h; exact ⟨rfl, rfl⟩
  · rename_i s
    refine ⟨⟨s, rfl, ?_⟩, rfl⟩
    have : s.data.toList = [] := by simpa using h
    simp [strL, this]
  · rename_i v w
    split at h
    · rename_i a b ha hb
      simp at h; subst h
      exact ⟨nilC_eq ha hb, rfl⟩
    · cases h
  · cases h
theorem sameP_sound : ∀ {ps : List SV} {ys : List Value}, sameP ps ys = true → PR e ps ys
  | [], ys, h => by simp [sameP] at h; exact h
  | x :: xs, ys, h => by
    unfold sameP at h
    split at h
    · rename_i h1; cases h1
    · rename_i k n l ps ys h1
      cases h1
      split at h
      · rename_i zs hz
        simp only [Bool.and_eq_true, decide_eq_true_eq] at h
        exact ⟨zs, sameP_sound h.2, by rw [lst_eq h.1]; exact sameI_sound hz⟩
      · cases h
    · rename_i p ps y ys hni h1
      cases h1
      simp only [Bool.and_eq_true] at h
      obtain ⟨hv, hn⟩ := sameC_sound (e := e) h.1
      exact (PR.cons hn).2 ⟨y, ys, hv, sameP_sound h.2, rfl⟩
    · cases h
theorem cellsL_eq (v : Value) : cellsL v = v.cells.toList := by cases v <;> rfl
theorem zeroS_sound {t : TypeId} {ps : List SV} (h : zeroS P t = some ps) : ∃ z, zeroOf P t = some z ∧ PR e ps z.cells.toList := by
  unfold zeroS at h
  split at h
  · rename_i z ps' hz hp
    split at h
    · rename_i hs
      cases h
      exact ⟨z, hz, by rw [← cellsL_eq]; exact sameP_sound hs⟩
    · cases h
  · cases h

theorem VR.agg_of {ps : List SV} {v' : Value} (h : VR e (.agg ps) v') : ∃ ys, PR e ps ys ∧ v' = .agg ⟨ys⟩ := h
/-- A value's cells. -/
theorem VR.parts {v : SV} {v' : Value} (h : VR e v v') (ho : one v = true ∨ ∃ ps, v = .agg ps) : PR e (partsOf v) v'.cells.toList := by
  rcases ho with ho | ⟨ps, rfl⟩
  · have h1 := h.oneCell ho
    have h2 : partsOf v = [v] := by cases v <;> first | rfl | cases ho
    have h3 : notInts v = true := by cases v <;> first | rfl | cases ho
    have h4 : v'.cells.toList = [v'] := by cases v' <;> first | rfl | cases h1
    rw [h2, h4]
    exact (PR.cons h3).2 ⟨v', [], h, rfl, rfl⟩
  · obtain ⟨ys, h1, rfl⟩ := h.agg_of
    exact h1
theorem ofParts_sound {t : TypeId} {ps : List SV} {v : SV} {z : Value} (h : ofParts P t ps = some v) (hz : PR e ps z.cells.toList) (ha : aggB P t = some true → ∃ cs, z = .agg cs) (hb : aggB P t = some false → z.oneCell' = true) : VR e v z := by
  unfold ofParts at h
  split at h
  · rename_i hq
    cases h
    obtain ⟨cs, rfl⟩ := ha hq
    exact ⟨cs.toList, hz, rfl⟩
  · rename_i hq
    split at h
    · rename_i p
      split at h
      · rename_i ho
        cases h
        have h1 := hb hq
        have h4 : z.cells.toList = [z] := by cases z <;> first | rfl | cases h1
        have h3 : notInts v = true := by cases v <;> first | rfl | cases ho
        rw [h4] at hz
        obtain ⟨y, zs, hv, _, q⟩ := (PR.cons h3).1 hz
        simp at q
        rw [q.1]; exact hv
      · cases h
    · cases h
  · cases h

/-! ### Tracked blocks -/
theorem addr_add (n o j : Nat) : (⟨n, o, none⟩ : Addr).add j = ⟨n, o + j, none⟩ := by unfold Addr.add; split <;> simp_all

variable {B : Base} {h : List Blk} {w : World}
theorem Rel.block (R : Rel B e h w) {b : Nat} {p : Pl} {ps : List SV} (hr : e.r b = some p) (hb : h[b]? = some (.b ps)) :
    ∃ c t, w.heap[p.n]? = some (.cells c t (0, 0)) ∧ p.base + p.size ≤ c.size ∧ psize ps ≤ p.size ∧ PR e ps ((c.toList.drop p.base).take (psize ps)) := by
  rcases R.blk b ps hb with ⟨_, hn⟩ | ⟨q, o, hq, ho, hbr⟩
  · rw [hr] at hn; cases hn
  · rw [hr] at hq; cases hq
    obtain ⟨c, t, rfl, h1, h2, h3⟩ := hbr
    exact ⟨c, t, ho, h1, h2, h3⟩
theorem Rel.tracked (R : Rel B e h w) {b : Nat} {p : Pl} (hr : e.r b = some p) : ∃ ps, h[b]? = some (.b ps) := by
  have hd := R.dom b p hr
  cases hq : h[b]? with
  | none => rw [List.getElem?_eq_none_iff] at hq; omega
  | some x =>
    cases x with
    | b ps => exact ⟨ps, rfl⟩
    | g _ => rw [(R.gap b _ hq).1] at hr; cases hr
theorem Rel.isCells (R : Rel B e h w) {b : Nat} {p : Pl} (hr : e.r b = some p) : ∃ c t, w.heap[p.n]? = some (.cells c t (0, 0)) ∧ p.base + p.size ≤ c.size := by
  obtain ⟨ps, hps⟩ := R.tracked hr
  obtain ⟨c, t, h1, h2, _⟩ := R.block hr hps
  exact ⟨c, t, h1, h2⟩
theorem Rel.lt (R : Rel B e h w) {b : Nat} {p : Pl} (hr : e.r b = some p) : p.n < w.heap.size := by
  obtain ⟨c, t, h1, _⟩ := R.isCells hr
  exact (Array.getElem?_eq_some_iff.1 h1).1
theorem Rel.zlt (R : Rel B e h w) {n : Nat} {x} (hz : e.z n = some x) : n < w.heap.size := by
  obtain ⟨c, t, fr⟩ := x
  exact (Array.getElem?_eq_some_iff.1 (R.zok n c t fr hz)).1

theorem cell_of {n : Nat} {c : Array Value} {t : TypeId} {fr : Nat × Nat} (hb : w.heap[n]? = some (.cells c t fr)) {j : Nat} {y : Value} (hy : c.toList[j]? = some y) : w.cell? ⟨n, j, none⟩ = some y := by
  simp only [World.cell?, hb]
  simpa using hy

/-- Cells of a row, loaded. -/
theorem run_loadVar_agg {n o m : Nat} {c : Array Value} {t ty : TypeId} {fr : Nat × Nat} (hb : w.heap[n]? = some (.cells c t fr)) (hagg : aggB P ty = some true) (hs : szOf P ty = some m) (hl : o + m ≤ c.size) :
    (loadVar ty ⟨n, o, none⟩).run P w = .ok (.agg ⟨(c.toList.drop o).take m⟩) w := by
  have hlen : ((c.toList.drop o).take m).length = m := by simp [List.length_take, List.length_drop]; omega
  have hrun := run_loadCells_list (P := P) w ⟨n, o, none⟩ ((c.toList.drop o).take m) (fun j v hv => by
    rw [addr_add]
    apply cell_of hb
    have hj : j < m := by
      have := (List.getElem?_eq_some_iff.1 hv).1
      omega
    rwa [List.getElem?_take_of_lt hj, List.getElem?_drop] at hv)
  rw [hlen] at hrun
  simp [loadVar, Sem.run_bind, aggB_run hagg, szOf_run hs, hrun]
theorem run_loadVar_cell {n o : Nat} {y : Value} {ty : TypeId} (hc : w.cell? ⟨n, o, none⟩ = some y) (hagg : aggB P ty = some false) : (loadVar ty ⟨n, o, none⟩).run P w = .ok y w := by
  simp [loadVar, Sem.run_bind, aggB_run hagg, run_load, hc]

theorem subI_sound {ps : List SV} {o i n : Nat} {q : List SV} {ys : List Value} (hs : subI ps o i n = some (q, true)) (g : PR e ps ys) : PR e q ((ys.drop (o + i)).take n) ∧ o + i + n ≤ ys.length := by
  unfold subI at hs
  split at hs
  · obtain ⟨q', h1, h2⟩ := Option.map_eq_some_iff.1 hs
    cases h2
    exact subP_sound h1 g
  · rename_i i
    split at hs
    · rename_i k m xs ps' hd
      simp only [Option.some.injEq, Prod.mk.injEq, decide_eq_true_eq] at hs
      obtain ⟨rfl, hle⟩ := hs
      obtain ⟨h1, h2⟩ := dropP_sound hd g
      obtain ⟨zs, h3, h4⟩ := h1
      have hlen : ys.length - o = m + zs.length := by rw [← List.length_drop, h4]; simp [intsV_length, lst_length]
      refine ⟨⟨[], rfl, ?_⟩, by omega⟩
      rw [← List.drop_drop, h4, List.append_nil, List.drop_append_of_le_length (by rw [intsV_length, lst_length]; omega), List.take_append_of_le_length (by rw [List.length_drop, intsV_length, lst_length]; omega)]
      rw [← intsV_drop, ← intsV_take, ← lst_drop, ← lst_take (by omega)]
    · cases hs

theorem intsV_at {k : IntKind} {xs : List Int} {c : List Value} {o i : Nat} (hq : intsV k xs = (c.drop o).take xs.length) (hi : i < xs.length) : c[o + i]? = some (.int k (xs.getD i 0)) := by
  have h1 := intsV_get (k := k) hi
  rw [hq, List.getElem?_take_of_lt hi, List.getElem?_drop] at h1
  exact h1

/-- A load. -/
theorem loadS_sound (R : Rel B e h w) {ty : TypeId} {a v : SV} {a' : Value} (g : loadS P ty h a = some (v, true)) (ha : VR e a a') :
    ∃ x v', a' = .pointer (some x) ∧ (loadVar ty x).run P w = .ok v' w ∧ VR e v v' := by
  unfold loadS at g
  split at g
  · rename_i b o i
    obtain ⟨p, hp, rfl⟩ := ha
    split at g
    · rename_i ps hb
      obtain ⟨c, t, hc, hsz, hpsz, hpr⟩ := R.block hp hb
      split at g
      · rename_i hagg
        split at g
        · rename_i n hn
          obtain ⟨⟨q, pq⟩, hq, h2⟩ := Option.map_eq_some_iff.1 g
          simp only [Prod.mk.injEq] at h2
          obtain ⟨rfl, rfl⟩ := h2
          obtain ⟨h3, h4⟩ := subI_sound hq hpr
          have hl : ((c.toList.drop p.base).take (psize ps)).length = psize ps := by simp; omega
          rw [hl] at h4
          refine ⟨_, _, rfl, run_loadVar_agg hc hagg hn (by omega), _, ?_, rfl⟩
          rw [List.drop_take, List.take_take, List.drop_drop, Nat.min_eq_left (by omega)] at h3
          exact h3
        · cases g
      · rename_i hagg
        obtain ⟨y, hy, hv⟩ := cellP_sound g hpr
        refine ⟨_, y, rfl, run_loadVar_cell (cell_of hc ?_) hagg, hv⟩
        have hlt : o + i < psize ps := by
          have := (List.getElem?_eq_some_iff.1 hy).1
          simp at this; omega
        rwa [List.getElem?_take_of_lt hlt, List.getElem?_drop] at hy
      · cases g
    · cases g
  · rename_i k xs i
    obtain ⟨n, o, c, t, fr, rfl, hz, hq⟩ := ha
    have hc := R.zok _ _ _ _ hz
    split at g
    · rename_i hagg
      split at g
      · rename_i m hm
        simp only [Option.some.injEq, Prod.mk.injEq, Bool.and_eq_true, decide_eq_true_eq] at g
        obtain ⟨rfl, hpos, hle⟩ := g
        have hlen : xs.length ≤ c.size - o := by
          have := congrArg List.length hq
          simp [intsV_length] at this; omega
        refine ⟨_, _, rfl, run_loadVar_agg hc hagg hm (by omega), _, ⟨[], rfl, rfl⟩, ?_⟩
        rw [List.append_nil, lst_eq (by simp; omega), intsV_take, intsV_drop, hq, List.drop_take, List.take_take, List.drop_drop, Nat.min_eq_left (by omega)]
      · cases g
    · rename_i hagg
      simp only [Option.some.injEq, Prod.mk.injEq, decide_eq_true_eq] at g
      obtain ⟨rfl, hlt⟩ := g
      exact ⟨_, _, rfl, run_loadVar_cell (cell_of hc (intsV_at hq hlt)) hagg, rfl⟩
    · cases g
  · rename_i f xss i
    obtain ⟨n, o, c, t, fr, rfl, hz, hq⟩ := ha
    have hc := R.zok _ _ _ _ hz
    split at g
    · rename_i hagg
      simp only [Option.some.injEq, Prod.mk.injEq, decide_eq_true_eq] at g
      obtain ⟨rfl, hlt⟩ := g
      obtain ⟨y, hy, hv⟩ := hq i _ (List.getElem?_eq_getElem hlt)
      refine ⟨_, y, rfl, run_loadVar_cell (cell_of hc hy) hagg, ?_⟩
      have : xss.getD i [] = xss[i] := by simp [List.getD, List.getElem?_eq_getElem hlt]
      rw [this]; exact hv
    · cases g
  · rename_i f z len c0 el o i
    obtain ⟨n, o0, c, t, fr, rfl, hz, hq, hsz⟩ := ha
    have hc := R.zok _ _ _ _ hz
    have up : ∀ {q : SV} {y : Value}, VR ⟨fun _ => none, e.z, e.n0, [], fun _ => none⟩ q y → VR e q y := fun hv => VR.mono (e := ⟨fun _ => none, e.z, e.n0, [], fun _ => none⟩) (e' := e) ⟨(fun _ _ x => by cases x), (fun _ _ x => x), Nat.le_refl _⟩ hv
    have hrow : el < len → el * z + z ≤ len * z := fun hlt => by
      have := Nat.mul_le_mul_right z (Nat.succ_le_of_lt hlt)
      rw [Nat.succ_mul] at this; exact this
    split at g
    · rename_i hagg
      split at g
      · rename_i m hm
        obtain ⟨⟨q, pq⟩, hq', h2⟩ := Option.map_eq_some_iff.1 g
        simp only [Prod.mk.injEq, Bool.and_eq_true, decide_eq_true_eq] at h2
        obtain ⟨rfl, rfl, hlt, hle⟩ := h2
        have := hrow hlt
        obtain ⟨h3, h4⟩ := subI_sound hq' (hq el hlt)
        refine ⟨_, _, rfl, run_loadVar_agg hc hagg hm (by omega), up ⟨_, ?_, rfl⟩⟩
        rw [List.drop_take, List.take_take, List.drop_drop, Nat.min_eq_left (by omega)] at h3
        exact h3
      · cases g
    · rename_i hagg
      obtain ⟨⟨q, pq⟩, hq', h2⟩ := Option.map_eq_some_iff.1 g
      simp only [Prod.mk.injEq, Bool.and_eq_true, decide_eq_true_eq] at h2
      obtain ⟨rfl, rfl, hlt, hle⟩ := h2
      obtain ⟨y, hy, hv⟩ := cellP_sound hq' (hq el hlt)
      refine ⟨_, y, rfl, run_loadVar_cell (cell_of hc ?_) hagg, up hv⟩
      rwa [List.getElem?_take_of_lt hle, List.getElem?_drop] at hy
    · cases g
  · cases g

/-! ### The world behind a change of one tracked block -/
theorem Rel.setBlock (R : Rel B e h w) {b : Nat} {p : Pl} {ps' : List SV} {c c' : Array Value} {t : TypeId} (hr : e.r b = some p) (hc : w.heap[p.n]? = some (.cells c t (0, 0)))
    (hs : c'.size = c.size) (hout : ∀ j, j < p.base ∨ p.base + p.size ≤ j → c'[j]? = c[j]?) (hps : psize ps' ≤ p.size) (hpr : PR e ps' ((c'.toList.drop p.base).take (psize ps'))) :
    Rel B e (h.set b (.b ps')) (w.setRow p.n c') := by
  have hb := R.dom b p hr
  obtain ⟨c0, t0, h1, h2⟩ := R.isCells hr
  rw [hc] at h1; cases h1
  have hself : (w.setRow p.n c').heap[p.n]? = some (.cells c' t (0, 0)) := setRow_heap w p.n c c' t (0, 0) hc
  have hother : ∀ n, n ≠ p.n → (w.setRow p.n c').heap[n]? = w.heap[n]? := fun n hn => setRow_other w p.n n c' hn
  exact {
    os := R.os, tape := R.tape, output := R.output
    size := by have := R.size; simpa [World.setRow] using this
    inj := R.inj
    dom := fun i q hi => by simpa using R.dom i q hi
    sep := R.sep
    zok := fun n cc tt fr hz => by
      rw [hother n (fun q => by rw [q, R.sep b p hr] at hz; cases hz)]
      exact R.zok n cc tt fr hz
    zfresh := R.zfresh, news := R.news, keepr := R.keepr, keepz := R.keepz, n0 := R.n0, n0le := R.n0le
    blk := fun i qs hi => by
      by_cases hbi : b = i
      · subst hbi
        rw [List.getElem?_set_self hb] at hi
        cases hi
        exact .inr ⟨p, _, hr, hself, c', t, rfl, by rw [hs]; exact h2, hps, hpr⟩
      · rw [List.getElem?_set_ne hbi] at hi
        rcases R.blk i qs hi with g | ⟨q, o, hq, ho, hbr⟩
        · exact .inl g
        · exact .inr ⟨q, o, hq, by rw [hother q.n (fun x => hbi (R.inj i b q p hq hr x).symm)]; exact ho, hbr⟩
    gap := fun i g hi => by
      by_cases hbi : b = i
      · subst hbi; rw [List.getElem?_set_self hb] at hi; cases hi
      · rw [List.getElem?_set_ne hbi] at hi
        refine ⟨(R.gap i g hi).1, (R.gap i g hi).2.le (fun n o hn => ?_) rfl (Env.Le.refl e)⟩
        rw [hother n (fun q => by subst q; rw [hc] at hn; cases hn)]; exact hn
    yi := R.yi, yb := R.yb
    old := fun n hn hno hnl => by
      rw [hother n (fun q => ?_)]
      · exact R.old n hn hno hnl
      · subst q
        rcases R.news b p hr with g | g
        · exact hno b p g rfl
        · omega
    win := fun i q hq => by
      obtain ⟨o, o', ho, ho', hso⟩ := R.win i q hq
      by_cases hqp : q.n = p.n
      · have hib := R.inj i b q p (R.keepr i q hq) hr hqp
        subst hib
        have := R.keepr i q hq
        rw [hr] at this; cases this
        rw [hc] at ho'; cases ho'
        obtain ⟨d, d', tt, fr, rfl, q1, q2, q3⟩ := hso
        cases q1
        exact ⟨_, _, ho, hself, d, c', t, (0, 0), rfl, rfl, by rw [hs, q2], fun j hj => by rw [hout j hj, q3 j hj]⟩
      · exact ⟨o, o', ho, by rw [hother q.n hqp]; exact ho', hso⟩
    kr := R.kr
    kle := by simpa using R.kle
    mks := fun r hrm => by
      refine ⟨?_, (R.mks r hrm).2⟩
      rw [hother r (fun q => ?_)]
      · exact (R.mks r hrm).1
      · subst q; have := (R.mks _ hrm).1; rw [hc] at this; cases this
    mnd := R.mnd }

theorem one_agg {v : SV} (ho : one v = true) : ∀ cs, v ≠ .agg cs := fun cs q => by subst q; cases ho
theorem cells_oneCell {ps : List SV} : ∀ {ys : List Value}, PR e ps ys → ps.all (fun p => one p || !notInts p) = true → ∀ v ∈ ys, v.oneCell' = true := by
  induction ps with
  | nil => intro ys g _ v hv; rw [PR] at g; subst g; cases hv
  | cons x xs ih =>
    intro ys g ha v hv
    simp only [List.all_cons, Bool.and_eq_true] at ha
    by_cases hx : notInts x = true
    · obtain ⟨y, zs, h1, h2, rfl⟩ := (PR.cons hx).1 g
      have ho : one x = true := by simpa [hx] using ha.1
      rcases List.mem_cons.1 hv with rfl | hv
      · exact h1.oneCell ho
      · exact ih h2 ha.2 v hv
    · cases x <;> simp [notInts] at hx
      obtain ⟨zs, h2, rfl⟩ := g
      rcases List.mem_append.1 hv with hv | hv
      · simp only [intsV, List.mem_map] at hv
        obtain ⟨n, _, rfl⟩ := hv
        rfl
      · exact ih h2 ha.2 v hv
end
end Go.Sy
