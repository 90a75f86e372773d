/- This file proves each operation of the interpreter 'exec' sound. Conditions: those of the interpreter's own tests. -/
import Derived.Test.YtailgcdcdhhpnaaLiftB
namespace Go.Lift
open Go

section
variable {P : Program} {r : Nat → Option Pl}

theorem VR.undef : VR r undef undef := ⟨[], rfl, rfl⟩
theorem VR.int {k : IntKind} {n : Int} {v : Value} (h : VR r (.int k n) v) : v = .int k n := h
theorem VR.bool {b : Bool} {v : Value} (h : VR r (.bool b) v) : v = .bool b := h

theorem TR.get {t : List (Option Value)} {t' : List Value} (h : TR r t t') {i : Nat} {v : Value} (e : t[i]? = some (some v)) : ∃ v', t'[i]? = some v' ∧ VR r v v' := by
  have hi : i < t'.length := by rw [← h.1]; exact (List.getElem?_eq_some_iff.1 e).1
  exact ⟨t'[i], List.getElem?_eq_getElem hi, h.2 i v _ e (List.getElem?_eq_getElem hi)⟩

theorem TR.set {t : List (Option Value)} {t' : List Value} (h : TR r t t') {v v' : Value} (g : VR r v v') (i : Nat) : TR r (t.set i (some v)) (t'.set i v') := by
  refine ⟨by simp [h.1], fun j x x' hx hx' => ?_⟩
  by_cases hij : i = j
  · subst hij
    have h1 : i < t.length := by have := (List.getElem?_eq_some_iff.1 hx).1; simpa using this
    have h2 : i < t'.length := by rw [← h.1]; exact h1
    rw [List.getElem?_set_self h1] at hx
    rw [List.getElem?_set_self h2] at hx'
    cases hx; cases hx'
    exact g
  · rw [List.getElem?_set_ne hij] at hx hx'
    exact h.2 j x x' hx hx'

theorem TR.mono {s : Nat → Option Pl} (h : ∀ (i : Nat) (b : Pl), r i = some b → s i = some b) {t : List (Option Value)} {t' : List Value} (g : TR r t t') : TR s t t' :=
  ⟨g.1, fun i v v' e e' => VR.mono h v v' (g.2 i v v' e e')⟩

theorem ev_sound {t : List (Option Value)} {t' : List Value} {d : List Deferred} (h : TR r t t') {x : Operand} {v : Value} (e : ev t x = some v) : VR r v (Act.eval ⟨⟨t'⟩, d⟩ x) := by
  cases x with
  | tmp i =>
    simp only [ev] at e
    split at e
    · rename_i u hu
      cases e
      obtain ⟨v', hv', hv⟩ := h.get hu
      have : Act.eval ⟨⟨t'⟩, d⟩ (.tmp i) = v' := by
        show (⟨t'⟩ : Array Value).getD i undef = v'
        rw [Array.getD_eq_getD_getElem?]
        simp [hv']
      rw [this]
      exact hv
    · cases e
  | const c =>
    simp only [ev] at e
    split at e
    · cases e; rename_i hp; exact VR.plain _ hp
    · cases e
  | func f => simp only [ev, Option.some.injEq] at e; subst e; exact ⟨[], [], rfl, rfl, rfl⟩
  | global g => simp [ev] at e

theorem evL_sound {t : List (Option Value)} {t' : List Value} {d : List Deferred} (h : TR r t t') : ∀ {xs : List Operand} {vs : List Value}, evL t xs = some vs → LR r vs (xs.map (Act.eval ⟨⟨t'⟩, d⟩))
  | [], vs, e => by simp [evL] at e; subst e; rfl
  | x :: xs, vs, e => by
    simp only [evL] at e
    split at e
    · rename_i v vs' hx hxs; cases e
      exact ⟨_, _, ev_sound h hx, evL_sound h hxs, rfl⟩
    · cases e

/-- A value that need not be there. -/
def VO (r : Nat → Option Pl) : Option Value → Option Value → Prop
  | none, y => y = none
  | some x, y => ∃ z, y = some z ∧ VR r x z

theorem evO_sound {t : List (Option Value)} {t' : List Value} {d : List Deferred} (h : TR r t t') {x : Option Operand} {v : Option Value} (e : evO t x = some v) : VO r v (x.map (Act.eval ⟨⟨t'⟩, d⟩)) := by
  cases x with
  | none => simp only [evO, Option.some.injEq] at e; subst e; rfl
  | some x =>
    simp only [evO] at e
    obtain ⟨u, hu, rfl⟩ := Option.map_eq_some_iff.1 e
    exact ⟨_, rfl, ev_sound h hu⟩

theorem szOf_run {t : TypeId} {n : Nat} (h : szOf P t = some n) (w : World) : (sizeOf t).run P w = .ok n w := by
  cases hq : P.info? t with
  | none => simp [szOf, hq] at h
  | some i => simp [szOf, hq] at h; subst h; simp [sizeOf, typeInfo, hq]
theorem szOf_info {t : TypeId} {n : Nat} (h : szOf P t = some n) : ∃ i, P.info? t = some i ∧ i.size = n := by
  cases hq : P.info? t with
  | none => simp [szOf, hq] at h
  | some i => simp [szOf, hq] at h; exact ⟨i, rfl, h⟩
theorem zeroOf_run {t : TypeId} {z : Value} (h : zeroOf P t = some z) (w : World) : (zeroValue t).run P w = .ok z w := by
  cases hq : P.info? t with
  | none => simp [zeroOf, hq] at h
  | some i => simp [zeroOf, hq] at h; simp [zeroValue, typeInfo, hq, h]
theorem aggB_run {t : TypeId} {b : Bool} (h : aggB P t = some b) (w : World) : (isAgg t).run P w = .ok b w := by
  cases hq : P.underlying t with
  | none => simp [aggB, hq] at h
  | some d =>
    simp only [aggB, hq, Option.map_some, Option.some.injEq] at h
    unfold isAgg
    rw [Sem.run_bind, run_underlying hq w]
    cases d <;> simp_all

theorem VR.cells {v v' : Value} (h : VR r v v') : LR r (cellsL v) v'.cells.toList := by
  match v, h with
  | .agg ⟨xs⟩, ⟨ys, e, q⟩ => subst q; exact e
  | .tuple ⟨xs⟩, ⟨ys, e, q⟩ => subst q; exact LR.one ⟨ys, e, rfl⟩
  | .iface t x, ⟨y, e, q⟩ => subst q; exact LR.one ⟨y, e, rfl⟩
  | .func f ⟨xs⟩ ⟨zs⟩, ⟨ys, us, e, e', q⟩ => subst q; exact LR.one ⟨ys, us, e, e', rfl⟩
  | .pointer (some a), ⟨b, e, q⟩ => subst q; exact LR.one ⟨b, e, rfl⟩
  | .slice (some a) _ _, ⟨b, e, q⟩ => subst q; exact LR.one ⟨b, e, rfl⟩
  | .map (some m), ⟨b, e, q⟩ => subst q; exact LR.one ⟨b, e, rfl⟩
  | .bool _, h => cases h; exact LR.one rfl
  | .int _ _, h => cases h; exact LR.one rfl
  | .float _ _, h => cases h; exact LR.one rfl
  | .complex _ _ _, h => cases h; exact LR.one rfl
  | .string _, h => cases h; exact LR.one rfl
  | .pointer none, h => cases h; exact LR.one rfl
  | .slice none _ _, h => cases h; exact LR.one rfl
  | .map none, h => cases h; exact LR.one rfl
  | .chan _, h => cases h; exact LR.one rfl
  | .nilFunc, h => cases h; exact LR.one rfl
  | .nilIface, h => cases h; exact LR.one rfl

theorem VR.oneCell {v v' : Value} (h : VR r v v') (ho : v.oneCell' = true) : v'.oneCell' = true := by
  match v, h with
  | .agg _, _ => simp [Value.oneCell'] at ho
  | .tuple _, _ => simp [Value.oneCell'] at ho
  | .iface t x, ⟨y, e, q⟩ => subst q; rfl
  | .func f ⟨xs⟩ ⟨zs⟩, ⟨ys, us, e, e', q⟩ => subst q; rfl
  | .pointer (some a), ⟨b, e, q⟩ => subst q; rfl
  | .slice (some a) _ _, ⟨b, e, q⟩ => subst q; rfl
  | .map (some m), ⟨b, e, q⟩ => subst q; rfl
  | .bool _, h => cases h; rfl
  | .int _ _, h => cases h; rfl
  | .float _ _, h => cases h; rfl
  | .complex _ _ _, h => cases h; rfl
  | .string _, h => cases h; rfl
  | .pointer none, h => cases h; rfl
  | .slice none _ _, h => cases h; rfl
  | .map none, h => cases h; rfl
  | .chan _, h => cases h; rfl
  | .nilFunc, h => cases h; rfl
  | .nilIface, h => cases h; rfl

theorem LR.oneCell : ∀ {xs ys : List Value}, LR r xs ys → xs.all Value.oneCell' = true → ∀ v ∈ ys, v.oneCell' = true
  | [], _, e, _, v, hv => by rw [LR] at e; subst e; cases hv
  | x :: xs, _, ⟨y, zs, hy, hz, q⟩, ha, v, hv => by
    subst q; simp only [List.all_cons, Bool.and_eq_true] at ha
    rcases List.mem_cons.1 hv with rfl | hv
    · exact hy.oneCell ha.1
    · exact hz.oneCell ha.2 v hv

theorem putL_eq (vs : List Value) (o : Nat) (xs : List Value) (h : o + xs.length ≤ vs.length) : putL vs o xs = vs.take o ++ xs ++ vs.drop (o + xs.length) := by
  unfold putL
  split
  · rename_i x
    simp only [List.length_cons, List.length_nil] at h ⊢
    rw [List.set_eq_take_append_cons_drop]
    simp [show o < vs.length by omega]
  · rfl

theorem LR.putL {vs ys xs zs : List Value} {o : Nat} (h : LR r vs ys) (g : LR r xs zs) (hf : o + xs.length ≤ vs.length) :
    LR r (putL vs o xs) (ys.take o ++ zs ++ ys.drop (o + zs.length)) := by
  rw [putL_eq vs o xs hf, g.length]
  exact ((h.take o).append g).append (h.drop _)

end
section
variable {P : Program} {r : List Pl}

theorem Rel.lt {k : Nat} {w0 w : World} {h : List Blk} (R : Rel k w0 r h w) {i : Nat} {p : Pl} (hi : r[i]? = some p) : p.n < w.heap.size := by
  have hi' : i < h.length := by rw [← R.len]; exact (List.getElem?_eq_some_iff.1 hi).1
  obtain ⟨m, o, hn, ho, _⟩ := R.blk i _ (List.getElem?_eq_getElem hi')
  rw [hi] at hn; cases hn
  exact (Array.getElem?_eq_some_iff.1 ho).1

theorem Rel.block {k : Nat} {w0 w : World} {h : List Blk} (R : Rel k w0 r h w) {b : Nat} {bl : Blk} {e : TypeId} (hb : h[b]? = some bl) (he : bl.own = some e) :
    ∃ p ys, r[b]? = some p ∧ p.base = 0 ∧ p.ro = false ∧ w.heap[p.n]? = some (.cells ⟨ys⟩ e (0, 0)) ∧ LR (lk r) bl.vals ys := by
  obtain ⟨p, o, hn, ho, hbr, _⟩ := R.blk b _ hb
  obtain ⟨h1, h2, ys, hl, q⟩ := hbr e he
  subst q
  exact ⟨p, ys, hn, h1, h2, ho, hl⟩

theorem Rel.cells {k : Nat} {w0 w : World} {h : List Blk} (R : Rel k w0 r h w) {b : Nat} {bl : Blk} (hb : h[b]? = some bl) :
    ∃ p ys, r[b]? = some p ∧ LR (lk r) bl.vals ys ∧ ∀ j y, ys[j]? = some y → w.cell? ⟨p.n, p.base + j, none⟩ = some y := by
  obtain ⟨p, o, hn, ho, hbr1, hbr2⟩ := R.blk b _ hb
  cases hown : bl.own with
  | some t =>
    obtain ⟨h1, _, ys, hl, q⟩ := hbr1 t hown
    subst q
    refine ⟨p, ys, hn, hl, fun j y hy => ?_⟩
    rw [World.cell?, ho, h1]
    simpa using hy
  | none =>
    obtain ⟨_, c, t, fr, q, hl⟩ := hbr2 hown
    subst q
    refine ⟨p, _, hn, hl, fun j y hy => ?_⟩
    rw [World.cell?, ho]
    have hj : j < bl.vals.length := by
      have := (List.getElem?_eq_some_iff.1 hy).1
      simp only [List.length_take] at this; omega
    rw [List.getElem?_take_of_lt hj, List.getElem?_drop] at hy
    simpa using hy

theorem intsV_get {k : IntKind} {xs : List Int} {o : Nat} (h : o < xs.length) : (intsV k xs)[o]? = some (.int k (xs.getD o 0)) := by
  simp [intsV, List.getD, List.getElem?_eq_getElem h]
theorem intsV_length {k : IntKind} {xs : List Int} : (intsV k xs).length = xs.length := by simp [intsV]

theorem cellAt_sound {o : Nat} {b : Blk} {v : Value} (h : cellAt o b = some (v, true)) : b.vals[o]? = some v := by
  cases b <;> simp only [cellAt] at h
  case c vs t => obtain ⟨x, hx, q⟩ := Option.map_eq_some_iff.1 h; cases q; exact hx
  case r vs => obtain ⟨x, hx, q⟩ := Option.map_eq_some_iff.1 h; cases q; exact hx
  all_goals
    simp only [Option.some.injEq, Prod.mk.injEq, decide_eq_true_eq] at h
    rw [← h.1]; exact intsV_get h.2

theorem cellsAt_sound {o n : Nat} {b : Blk} (h : (cellsAt o n b).2 = true) : (cellsAt o n b).1 = (b.vals.drop o).take n ∧ o + n ≤ b.vals.length := by
  have key : ∀ (k : IntKind) (xs : List Int), (intCells k xs n o).2 = true → (intCells k xs n o).1 = ((intsV k xs).drop o).take n ∧ o + n ≤ (intsV k xs).length := fun k xs => by
    rw [intsV_length]
    unfold intCells
    split
    · intro h
      simp only [beq_iff_eq] at h
      subst h
      refine ⟨?_, by omega⟩
      rw [List.drop_zero, List.take_of_length_le (by rw [intsV_length]; exact Nat.le_refl _)]
    · intro h
      simp only [decide_eq_true_eq] at h
      exact ⟨by simp [intsV, List.map_take, List.map_drop], h⟩
  cases b with
  | c vs t => simp only [cellsAt, decide_eq_true_eq] at h ⊢; exact ⟨rfl, h⟩
  | r vs => simp only [cellsAt, decide_eq_true_eq] at h ⊢; exact ⟨rfl, h⟩
  | s k xs t => exact key k xs h
  | rs k xs => exact key k xs h

theorem putB_sound {o : Nat} {cs : List Value} {b b' : Blk} (h : putB o cs b = some (b', true)) : ∃ t, b.own = some t ∧ b'.own = some t ∧ o + cs.length ≤ b.vals.length ∧ b'.vals = putL b.vals o cs := by
  unfold putB at h
  split at h
  · rename_i vs t
    simp only [Option.some.injEq, Prod.mk.injEq, decide_eq_true_eq] at h
    obtain ⟨rfl, h⟩ := h
    exact ⟨t, rfl, rfl, h, rfl⟩
  · rename_i k xs t
    split at h
    · rename_i k' n
      split at h
      · rename_i hk
        subst hk
        simp only [Option.some.injEq, Prod.mk.injEq, decide_eq_true_eq] at h
        obtain ⟨rfl, h⟩ := h
        refine ⟨t, rfl, rfl, by simp [Blk.vals, intsV_length]; omega, ?_⟩
        simp [Blk.vals, putL, intsV, List.map_set]
      · cases h
    · simp only [Option.some.injEq, Prod.mk.injEq, decide_eq_true_eq] at h
      obtain ⟨rfl, h⟩ := h
      exact ⟨t, rfl, rfl, by simp [Blk.vals, intsV_length]; omega, rfl⟩
  · cases h

theorem addr_add (n o j : Nat) : (⟨n, o, none⟩ : Addr).add j = ⟨n, o + j, none⟩ := by unfold Addr.add; split <;> simp_all

theorem loadS_sound {k : Nat} {w0 w : World} {h : List Blk} (R : Rel k w0 r h w) {ty : TypeId} {a v a' : Value} (e : loadS P ty h a = some (v, true)) (ha : VR (lk r) a a') :
    ∃ n o v', a' = .pointer (some ⟨n, o, none⟩) ∧ (loadVar ty ⟨n, o, none⟩).run P w = .ok v' w ∧ VR (lk r) v v' := by
  unfold loadS at e
  split at e
  · rename_i b o
    obtain ⟨p, hn, q⟩ := ha
    subst q
    split at e
    · rename_i bl hb
      obtain ⟨p', ys, hn', hl, hcell⟩ := R.cells hb
      have hn2 : r[b]? = some p := hn
      rw [hn2] at hn'; cases hn'
      refine ⟨p.n, p.base + o, ?_⟩
      split at e
      · rename_i hagg
        split at e
        · rename_i m hm
          simp only [Option.some.injEq, Prod.mk.injEq] at e
          obtain ⟨rfl, e2⟩ := e
          obtain ⟨e1, hle⟩ := cellsAt_sound e2
          rw [e1]
          have hlen : ((ys.drop o).take m).length = m := by simp [List.length_take, List.length_drop, hl.length]; omega
          have hrun := run_loadCells_list (P := P) w ⟨p.n, p.base + o, none⟩ ((ys.drop o).take m) (fun j v hv => by
            rw [addr_add, Nat.add_assoc]
            apply hcell
            have hj : j < m := by
              have := (List.getElem?_eq_some_iff.1 hv).1
              omega
            rwa [List.getElem?_take_of_lt hj, List.getElem?_drop] at hv)
          rw [hlen] at hrun
          refine ⟨.agg ⟨(ys.drop o).take m⟩, rfl, ?_, _, (hl.drop o).take m, rfl⟩
          simp [loadVar, Sem.run_bind, aggB_run hagg, szOf_run hm, hrun]
        · cases e
      · rename_i hagg
        obtain ⟨y, hy, hv⟩ := hl.get (cellAt_sound e)
        refine ⟨y, rfl, ?_, hv⟩
        simp [loadVar, Sem.run_bind, aggB_run hagg, run_load, hcell o y hy]
      · cases e
    · cases e
  · cases e

/-- The world behind a store into one tracked block. -/
theorem Rel.setRow {k : Nat} {w0 w : World} {h : List Blk} (R : Rel k w0 r h w) {b : Nat} {p : Pl} {bl : Blk} {ys : List Value} {e : TypeId} {old : Array Value} (hb : b < h.length) (hn : r[b]? = some p)
    (h0 : p.base = 0) (hro : p.ro = false) (hg : w.heap[p.n]? = some (.cells old e (0, 0))) (he : bl.own = some e) (hl : LR (lk r) bl.vals ys) : Rel k w0 r (h.set b bl) (w.setRow p.n ⟨ys⟩) where
  os := R.os
  tape := R.tape
  output := R.output
  size := by have := R.size; simpa [World.setRow] using this
  nodup := R.nodup
  len := by simpa using R.len
  news := R.news
  blk := fun i x hx => by
    by_cases hi : b = i
    · subst hi
      rw [List.getElem?_set_self hb] at hx
      cases hx
      refine ⟨p, _, hn, setRow_heap w p.n old ⟨ys⟩ e (0, 0) hg, fun t ht => ?_, fun hnone => ?_⟩
      · rw [he] at ht; cases ht; exact ⟨h0, hro, ys, hl, rfl⟩
      · rw [he] at hnone; cases hnone
    · rw [List.getElem?_set_ne hi] at hx
      obtain ⟨m, o, hm, ho, hr⟩ := R.blk i x hx
      refine ⟨m, o, hm, ?_, hr⟩
      rw [setRow_other w p.n m.n ⟨ys⟩ (fun q => ?_), ho]
      rcases R.nodup i b m p hm hn q with h1 | ⟨_, h1⟩
      · exact hi h1.symm
      · rw [hro] at h1; cases h1
  old := fun m hm hnot => by
    have : m ≠ p.n := fun q => by
      subst q
      rcases Nat.lt_or_ge b k with hk | hk
      · have := hnot b p hk hn rfl
        rw [hro] at this; cases this
      · have := R.news b p hk hn; omega
    rw [setRow_other w p.n m ⟨ys⟩ this]
    exact R.old m hm hnot
  kle := by simpa using R.kle

theorem storeS_sound {k : Nat} {w0 w : World} {h h' : List Blk} (R : Rel k w0 r h w) {ty : TypeId} {a x a' x' : Value} (e : storeS P ty h x a = some (h', true)) (ha : VR (lk r) a a') (hx : VR (lk r) x x') :
    ∃ n o w', a' = .pointer (some ⟨n, o, none⟩) ∧ (storeVar ty ⟨n, o, none⟩ x').run P w = .ok () w' ∧ Rel k w0 r h' w' := by
  unfold storeS at e
  split at e
  · rename_i b o
    obtain ⟨p, hn, q⟩ := ha
    subst q
    split at e
    · rename_i bl hb
      split at e
      · rename_i hc
        simp only [Bool.and_eq_true, beq_iff_eq] at hc
        obtain ⟨hs, hone⟩ := hc
        obtain ⟨⟨bl', q⟩, hput, e⟩ := Option.map_eq_some_iff.1 e
        simp only [Prod.mk.injEq] at e
        obtain ⟨rfl, rfl⟩ := e
        obtain ⟨et, hown, hown', hf, hvals⟩ := putB_sound hput
        obtain ⟨p', ys, hn', h0, hro, hg, hl⟩ := R.block hb hown
        have hn2 : r[b]? = some p := hn
        rw [hn2] at hn'; cases hn'
        have hcx := hx.cells
        have hlen : x'.cells.toList.length = (cellsL x).length := hcx.length
        have hst := run_storeCells_at P p.n o et x'.cells.toList 0 ⟨ys⟩ w hg (by simp only [Nat.add_zero]; rw [hlen]; simpa [hl.length] using hf) (hcx.oneCell hone)
        refine ⟨p.n, o, _, by rw [h0, Nat.zero_add], ?_, R.setRow (bl := bl') (List.getElem?_eq_some_iff.1 hb).1 hn2 h0 hro hg hown' (by rw [hvals]; exact hl.putL hcx hf)⟩
        have hsz : x'.cells.size = (cellsL x).length := by rw [← hlen]; simp
        simp only [Nat.add_zero] at hst
        unfold storeVar
        rw [Sem.run_bind, szOf_run hs w]
        simp only [Result.andThen, hsz, ne_eq, not_true, if_false]
        rw [hst]
      · cases e
    · cases e
  · cases e

theorem Rel.alloc {k : Nat} {w0 w : World} {h : List Blk} (R : Rel k w0 r h w) {bl : Blk} {ys : List Value} {e : TypeId} (ho : bl.own = some e) (hl : LR (lk r) bl.vals ys) :
    Rel k w0 (r ++ [⟨w.heap.size, 0, false⟩]) (h ++ [bl]) (w.alloc (.cells ⟨ys⟩ e)) := by
  have hmono : ∀ (i : Nat) (b : Pl), r[i]? = some b → (r ++ [⟨w.heap.size, 0, false⟩])[i]? = some b := fun i b hi => by
    rw [List.getElem?_append_left (List.getElem?_eq_some_iff.1 hi).1]; exact hi
  have hcase : ∀ (i : Nat) (b : Pl), (r ++ [⟨w.heap.size, 0, false⟩])[i]? = some b → (r[i]? = some b) ∨ (i = r.length ∧ b = ⟨w.heap.size, 0, false⟩) := fun i b hi => by
    rcases Nat.lt_or_ge i r.length with h1 | h1
    · left; rwa [List.getElem?_append_left h1] at hi
    · right
      rw [List.getElem?_append_right h1] at hi
      have h2 := (List.getElem?_eq_some_iff.1 hi).1
      simp at h2
      have : i = r.length := by omega
      subst this
      simp at hi
      exact ⟨rfl, hi.symm⟩
  exact {
    os := R.os
    tape := R.tape
    output := R.output
    size := by have := R.size; rw [World.size_alloc]; omega
    nodup := fun i j p q hi hj e => by
      rcases hcase i p hi with h1 | ⟨h1, h1'⟩ <;> rcases hcase j q hj with h2 | ⟨h2, h2'⟩
      · exact R.nodup i j p q h1 h2 e
      · have := R.lt h1; subst h2'; simp at e; omega
      · have := R.lt h2; subst h1'; simp at e; omega
      · left; omega
    len := by simp [R.len]
    news := fun i b hk hi => by
      rcases hcase i b hi with h1 | ⟨_, h1⟩
      · exact R.news i b hk h1
      · have := R.size; subst h1; exact this
    blk := fun i x hx => by
      rcases Nat.lt_or_ge i h.length with h1 | h1
      · rw [List.getElem?_append_left h1] at hx
        obtain ⟨n, o, hn, ho, hr⟩ := R.blk i x hx
        exact ⟨n, o, hmono i n hn, by rw [heap_alloc_old w _ n.n (R.lt hn)]; exact ho, BR.mono hmono hr⟩
      · rw [List.getElem?_append_right h1] at hx
        have h2 := (List.getElem?_eq_some_iff.1 hx).1
        simp at h2
        have : i = h.length := by omega
        subst this
        simp at hx
        subst hx
        exact ⟨⟨w.heap.size, 0, false⟩, _, by rw [← R.len]; simp, heap_alloc_new w _, fun t ht => by rw [ho] at ht; cases ht; exact ⟨rfl, rfl, ys, LR.mono hmono _ _ hl, rfl⟩, fun hnone => by rw [ho] at hnone; cases hnone⟩
    old := fun n hn hnot => by
      rw [heap_alloc_old w _ n (by have := R.size; omega)]
      exact R.old n hn fun i p hi hp => hnot i p hi (hmono i p hp)
    kle := by simp; have := R.kle; omega }
end
end Go.Lift
