/- This file proves the interpreter 'exec' sound: from a computed call ('callS') to the machine's call ('Calls'). Conditions: the contracts that it uses are sound, and what must hold holds. -/
import Derived.Test.YtailgcdcdhhpnaaLiftD
namespace Go.Lift
open Go

def Ext (r s : List Pl) : Prop := ∀ (i : Nat) (b : Pl), r[i]? = some b → s[i]? = some b
theorem Ext.refl (r : List Pl) : Ext r r := fun _ _ h => h
theorem Ext.trans {r s t : List Pl} (h : Ext r s) (g : Ext s t) : Ext r t := fun i b e => g i b (h i b e)
theorem Ext.append (r s : List Pl) : Ext r (r ++ s) := fun i b e => by
  rw [List.getElem?_append_left (List.getElem?_eq_some_iff.1 e).1]; exact e
theorem Ext.lk {r s : List Pl} (h : Ext r s) : ∀ (i : Nat) (b : Pl), lk r i = some b → lk s i = some b := h

/-- What a call of function f in world w may be taken to do. -/
def CallOK (P : Program) (f : FuncId) (args : Array Value) (w : World) (R : Value → World → Prop) : Prop :=
  (∃ v w', (callFunc f args).run P w = .ok (.value v) w' ∧ R v w') ∨
  ((callFunc f args).run P w = .ok (.enter f args) w ∧ Calls P f args w fun e w' => ∃ v, e = .returned v ∧ R v w')

theorem CallOK.mono {P : Program} {f : FuncId} {args : Array Value} {w : World} {R R' : Value → World → Prop} (h : CallOK P f args w R) (hr : ∀ v w', R v w' → R' v w') : CallOK P f args w R' := by
  rcases h with ⟨v, w', e, h⟩ | ⟨e, h⟩
  · exact .inl ⟨v, w', e, hr _ _ h⟩
  · refine .inr ⟨e, ?_⟩
    intro cs
    obtain ⟨e, w', fr, ⟨v, he, hv⟩, rest⟩ := h cs
    exact ⟨e, w', fr, ⟨v, he, hr _ _ hv⟩, rest⟩

/-- It leaves the blocks alone, and does not look at them. -/
def PureG (g : List Value → List Blk → Option (Value × List Blk × Bool)) : Prop :=
  ∀ vs h v h' p, g vs h = some (v, h', p) → h' = h ∧ ∀ h2, g vs h2 = some (v, h2, p)

/-- It leaves the blocks alone. -/
def ReadG (g : List Value → List Blk → Option (Value × List Blk × Bool)) : Prop :=
  ∀ vs h v h' p, g vs h = some (v, h', p) → h' = h
def PureC (Γ : Ctr) : Prop := (∀ f, Γ.pf f = 0 → PureG (Γ.g f)) ∧ (∀ f, Γ.pf f = 1 → ReadG (Γ.g f))

/-- The contracts of Γ hold of the program. -/
structure CtrSound (P : Program) (Γ : Ctr) : Prop where
  calls : ∀ f vs h v h', Γ.g f vs h = some (v, h', true) → ∀ (r : List Pl) (w : World) (args : List Value), LR (lk r) vs args → Rel h.length w r h w →
    CallOK P f ⟨args⟩ w fun v' w' => ∃ r', Ext r r' ∧ VR (lk r') v v' ∧ Rel h.length w r' h' w'
  pure : PureC Γ

section
variable {P : Program}

theorem Rel.self {k : Nat} {w0 w : World} {r : List Pl} {h : List Blk} (R : Rel k w0 r h w) : Rel h.length w r h w where
  os := rfl
  tape := rfl
  output := rfl
  size := Nat.le_refl _
  nodup := R.nodup
  len := R.len
  news := fun i b hk hi => by have := (List.getElem?_eq_some_iff.1 hi).1; have := R.len; omega
  blk := R.blk
  old := fun _ _ _ => rfl
  kle := Nat.le_refl _

theorem Rel.trans {k : Nat} {w0 w w' : World} {r r' : List Pl} {h h' : List Blk} (R : Rel k w0 r h w) (S : Rel h.length w r' h' w') (e : Ext r r') : Rel k w0 r' h' w' where
  os := S.os.trans R.os
  tape := S.tape.trans R.tape
  output := S.output.trans R.output
  size := Nat.le_trans R.size S.size
  nodup := S.nodup
  len := S.len
  news := fun i b hk hi => by
    rcases Nat.lt_or_ge i h.length with h1 | h1
    · rw [← R.len] at h1
      have h2 := e i _ (List.getElem?_eq_getElem h1)
      rw [hi] at h2
      injection h2 with h2
      exact R.news i b hk (by rw [h2]; exact List.getElem?_eq_getElem h1)
    · have := S.news i b h1 hi
      have := R.size
      omega
  blk := S.blk
  old := fun n hn hnot => by
    rw [S.old n (by have := R.size; omega), R.old n hn]
    · exact fun i p hi hp => hnot i p hi (e i p hp)
    · intro i p hi hp hpn
      rcases Nat.lt_or_ge i k with hk | hk
      · exact hnot i p hk hp hpn
      · rw [← R.len] at hi
        have h2 := e i _ (List.getElem?_eq_getElem hi)
        rw [hp] at h2
        injection h2 with h2
        have := R.news i p hk (by rw [h2]; exact List.getElem?_eq_getElem hi)
        omega
  kle := Nat.le_trans R.kle S.kle

theorem parts_sound {r : Nat → Option Pl} {t : List (Option Value)} {t' : List Value} {d : List Deferred} (h : TR r t t') : ∀ (ps : List (Nat × Operand)) (vs : List Value), evL t (ps.map (·.2)) = some vs →
    PR r ((ps.map (·.1)).zip vs) (ps.map fun (i, x) => (i, Act.eval ⟨⟨t'⟩, d⟩ x))
  | [], vs, _ => by simp [PR]
  | (i, x) :: ps, vs, e => by
    simp only [List.map_cons, evL] at e
    split at e
    · rename_i v vs' hx hxs
      cases e
      exact ⟨_, _, ev_sound h hx, parts_sound h ps vs' hxs, rfl⟩
    · cases e

/-- What an operation's run comes to. -/
def OpOK (r : List Pl) (k : Nat) (w0 : World) (v : Value) (h' : List Blk) (res : Result Next) : Prop :=
  ∃ nx w' r' v', res = .ok nx w' ∧ (nx = .value v' ∨ (nx = .skip ∧ v' = undef)) ∧ Ext r r' ∧ VR (lk r') v v' ∧ Rel k w0 r' h' w'

theorem OpOK.value {r : List Pl} {k : Nat} {w0 w : World} {v v' : Value} {h : List Blk} {s : Sem Value} (e : s.run P w = .ok v' w) (hv : VR (lk r) v v') (R : Rel k w0 r h w) :
    OpOK r k w0 v h ((do pure (.value (← s)) : Sem Next).run P w) :=
  ⟨.value v', w, r, v', by simp [e], .inl rfl, Ext.refl r, hv, R⟩

theorem OpOK.newSlice {r : List Pl} {k : Nat} {w0 w : World} {h : List Blk} {bl : Blk} {ys : List Value} {e : TypeId} {n m : Nat} {s : Sem Value} (R : Rel k w0 r h w) (ho : bl.own = some e) (hl : LR (lk r) bl.vals ys)
    (q : s.run P w = .ok (.slice (some ⟨w.heap.size, 0, none⟩) n m) (w.alloc (.cells ⟨ys⟩ e))) :
    OpOK r k w0 (.slice (some ⟨h.length, 0, none⟩) n m) (h ++ [bl]) ((do pure (.value (← s)) : Sem Next).run P w) :=
  ⟨.value (.slice (some ⟨w.heap.size, 0, none⟩) n m), w.alloc (.cells ⟨ys⟩ e), r ++ [⟨w.heap.size, 0, false⟩], _, by simp [q], .inl rfl, Ext.append r _, ⟨⟨w.heap.size, 0, false⟩, by simp [lk, ← R.len], by simp⟩, R.alloc ho hl⟩

theorem alloc_sound {r : List Pl} {k : Nat} {w0 w : World} {h : List Blk} {e : TypeId} {v v' : Value} (R : Rel k w0 r h w) (hl : LR (lk r) (cellsL v) v'.cells.toList) :
    OpOK r k w0 (.pointer (some ⟨h.length, 0, none⟩)) (h ++ [.c (cellsL v) e]) ((do pure (.value (← (do pure (.pointer (some (← newVar e v'))) : Sem Value))) : Sem Next).run P w) := by
  refine ⟨.value (.pointer (some ⟨w.heap.size, 0, none⟩)), w.alloc (.cells v'.cells e), r ++ [⟨w.heap.size, 0, false⟩], _, ?_, .inl rfl, Ext.append r _, ?_, R.alloc (bl := .c (cellsL v) e) (ys := v'.cells.toList) rfl hl⟩
  · simp [newVar, newRow, newObj, Sem.run]
  · exact ⟨⟨w.heap.size, 0, false⟩, by simp [lk, ← R.len], by simp⟩

set_option maxHeartbeats 1000000 in
theorem opS_sound {Γ : Ctr} {t : List (Option Value)} {t' : List Value} {h h' : List Blk} {v : Value} {p : Bool} {o : Oper} (e : opS P Γ t h o.op = some (v, h', p)) (hp : p = true) (hc : ∀ c f, o.op = .call c → c.callee ≠ .value (.func f))
    {r : List Pl} {k : Nat} {w0 w : World} {d : List Deferred} (hl : TR (lk r) t t') (R : Rel k w0 r h w) :
    OpOK r k w0 v h' ((execOp (Act.eval ⟨⟨t'⟩, d⟩) o).run P w) := by
  unfold execOp
  generalize o.op = op at e hc ⊢
  have pureOK : ∀ {x : Operand} {u : Value}, ev t x = some u → OpOK r k w0 u h ((pure (.value (Act.eval ⟨⟨t'⟩, d⟩ x)) : Sem Next).run P w) := fun hx =>
    ⟨_, w, r, _, rfl, .inl rfl, Ext.refl r, ev_sound hl hx, R⟩
  cases op <;> simp only [opS] at e
  case move x =>
    cases hx : ev t x <;> simp [hx] at e
    obtain ⟨rfl, rfl, rfl⟩ := e
    exact pureOK hx
  case assign x =>
    cases hx : ev t x <;> simp [hx] at e
    obtain ⟨rfl, rfl, rfl⟩ := e
    exact pureOK hx
  case pick c a b =>
    split at e
    · rename_i hcv
      cases hx : ev t a <;> simp [hx] at e
      obtain ⟨rfl, rfl, rfl⟩ := e
      have hb := (ev_sound (d := d) hl hcv).bool
      refine ⟨_, w, r, _, ?_, .inl rfl, Ext.refl r, ev_sound (d := d) hl hx, R⟩
      simp [hb, asBool]
    · rename_i hcv
      cases hx : ev t b <;> simp [hx] at e
      obtain ⟨rfl, rfl, rfl⟩ := e
      have hb := (ev_sound (d := d) hl hcv).bool
      refine ⟨_, w, r, _, ?_, .inl rfl, Ext.refl r, ev_sound (d := d) hl hx, R⟩
      simp [hb, asBool]
    · cases e
  case alloc el =>
    split at e
    · rename_i z hz
      split at e
      · rename_i hpl
        cases e
        have := alloc_sound (P := P) (e := el) (v := z) (v' := z) R (VR.plain z hpl).cells
        simpa [Instr.alloc, zeroOf_run hz] using this
      · cases e
    · cases e
  case box el x =>
    cases hx : ev t x <;> simp [hx] at e
    obtain ⟨rfl, rfl, rfl⟩ := e
    have := alloc_sound (P := P) (e := el) R (ev_sound (d := d) hl hx).cells
    simpa [Instr.box] using this
  case build ty ps =>
    split at e
    · rename_i vs hvs
      cases hb : buildS P ty ((ps.toList.map (·.1)).zip vs) <;> simp [hb] at e
      obtain ⟨rfl, rfl, rfl⟩ := e
      obtain ⟨v', hr, hv⟩ := buildS_sound hb (parts_sound (d := d) hl ps.toList vs hvs) w
      refine OpOK.value ?_ hv R
      rw [← hr]
      congr 2
      apply Array.ext'
      simp
    · cases e
  case load ty x =>
    split at e
    · rename_i a hx
      cases hb : loadS P ty h a <;> simp [hb] at e
      rename_i u
      obtain ⟨u1, u2⟩ := u
      obtain ⟨rfl, rfl, rfl⟩ := e
      simp only at hp; subst hp
      obtain ⟨n, o', v', ha, hr, hv⟩ := loadS_sound R hb (ev_sound (d := d) hl hx)
      refine OpOK.value ?_ hv R
      simp [Instr.loadAt, ha, Instr.sureAddr, hr]
    · cases e
  case store ty x y =>
    split at e
    · rename_i a u hx hy
      cases hb : storeS P ty h u a <;> simp [hb] at e
      rename_i u'
      obtain ⟨u1, u2⟩ := u'
      obtain ⟨rfl, rfl, rfl⟩ := e
      simp only at hp; subst hp
      obtain ⟨n, o', w', ha, hr, R'⟩ := storeS_sound R hb (ev_sound (d := d) hl hx) (ev_sound (d := d) hl hy)
      refine ⟨.skip, w', r, undef, ?_, .inr ⟨rfl, rfl⟩, Ext.refl r, VR.undef, R'⟩
      simp [Instr.storeAt, ha, Instr.sureAddr, hr]
    · cases e
  case nilCheck x =>
    split at e
    · rename_i a hx
      cases e
      obtain ⟨b, hb, q⟩ := ev_sound (d := d) hl hx
      refine ⟨.value (.pointer (some ⟨b.n, b.base + a.off, a.spot⟩)), w, r, _, ?_, .inl rfl, Ext.refl r, ⟨b, hb, rfl⟩, R⟩
      simp [q]
    · cases e
  case binOp op T x y T' =>
    split at e
    · rename_i a b hx hy
      split at e
      · rename_i u1 u2 hb
        simp only [Option.some.injEq, Prod.mk.injEq] at e
        obtain ⟨rfl, rfl, rfl⟩ := e
        have := binS_sound hb hp (ev_sound (d := d) hl hx) (ev_sound (d := d) hl hy) T x y w (P := P)
        exact OpOK.value this.1 this.2 R
      · cases hb : eqS P op T a b <;> simp [hb] at e
        obtain ⟨rfl, rfl, rfl⟩ := e
        have := eqS_sound hb (ev_sound (d := d) hl hx) (ev_sound (d := d) hl hy) x y w
        exact OpOK.value this.1 this.2 R
    · cases e
  case buildSlice ty len ps =>
    split at e
    · rename_i vs hvs
      cases hb : buildSliceS P ty len ((ps.toList.map (·.1)).zip vs) <;> simp [hb] at e
      rename_i u
      obtain ⟨cs, et⟩ := u
      obtain ⟨rfl, rfl, rfl⟩ := e
      obtain ⟨ys, hr, hlr⟩ := buildSliceS_sound (r := lk r) hb (parts_sound (d := d) hl ps.toList vs hvs) w
      refine OpOK.newSlice R (bl := .c cs et) rfl hlr ?_
      rw [← hr]
      congr 2
      apply Array.ext'
      simp
    · cases e
  case makeSlice ty l c =>
    split at e
    · rename_i a b ha hb
      cases hm : makeSliceS P ty a b <;> simp [hm] at e
      rename_i u
      obtain ⟨k1, e1, n1, m1, p1⟩ := u
      obtain ⟨rfl, rfl, rfl⟩ := e
      simp only at hp; subst hp
      have hr := makeSliceS_sound hm (ev_sound (d := d) hl ha) (ev_sound (d := d) hl hb) w
      exact OpOK.newSlice R (bl := .s k1 (List.replicate m1 0) e1) rfl (LR.plain _ (plain_ints _ _)) hr
    · cases e
  case unOp op T x =>
    split at e
    · rename_i a hx
      cases hb : unS op a <;> simp [hb] at e
      obtain ⟨rfl, rfl, rfl⟩ := e
      obtain ⟨v', hr, hv⟩ := unS_sound (P := P) hb (ev_sound (d := d) hl hx) w
      exact OpOK.value hr hv R
    · cases e
  case convert src dst x =>
    split at e
    · rename_i a hx
      cases hb : convS P src dst a <;> simp [hb] at e
      obtain ⟨rfl, rfl, rfl⟩ := e
      obtain ⟨v', hr, hv⟩ := convS_sound hb (ev_sound (d := d) hl hx) w
      exact OpOK.value hr hv R
    · cases e
  case fieldAddr ty x i =>
    split at e
    · rename_i a hx
      cases hb : fieldAddrS P ty i a <;> simp [hb] at e
      obtain ⟨rfl, rfl, rfl⟩ := e
      obtain ⟨v', hr, hv⟩ := fieldAddrS_sound hb (ev_sound (d := d) hl hx) w
      exact OpOK.value hr hv R
    · cases e
  case field ty x i =>
    split at e
    · rename_i a hx
      cases hb : fieldS P ty i a <;> simp [hb] at e
      obtain ⟨rfl, rfl, rfl⟩ := e
      obtain ⟨v', hr, hv⟩ := fieldS_sound hb (ev_sound (d := d) hl hx) w
      exact OpOK.value hr hv R
    · cases e
  case indexAddr ty x i =>
    split at e
    · rename_i a b hx hy
      cases hb : indexAddrS P ty a b <;> simp [hb] at e
      obtain ⟨rfl, rfl, rfl⟩ := e
      obtain ⟨v', hr, hv⟩ := indexAddrS_sound hb hp (ev_sound (d := d) hl hx) (ev_sound (d := d) hl hy) w
      exact OpOK.value hr hv R
    · cases e
  case index ty x i =>
    split at e
    · rename_i a b hx hy
      cases hb : indexS P ty a b <;> simp [hb] at e
      obtain ⟨rfl, rfl, rfl⟩ := e
      obtain ⟨v', hr, hv⟩ := indexS_sound hb hp (ev_sound (d := d) hl hx) (ev_sound (d := d) hl hy) w
      exact OpOK.value hr hv R
    · cases e
  case extract x i =>
    split at e
    · rename_i vs hx
      cases hb : vs[i]? <;> simp [hb] at e
      obtain ⟨rfl, rfl, rfl⟩ := e
      obtain ⟨ys, hys, q⟩ := ev_sound (d := d) hl hx
      obtain ⟨y, hy, hv⟩ := hys.get hb
      refine OpOK.value (v' := y) ?_ hv R
      simp [q, Instr.extract, hy]
    · cases e
  case slice ty x lo hi mx =>
    split at e
    · rename_i a l u m hx hlo hhi hmx
      cases hb : sliceS P ty a l u m <;> simp [hb] at e
      obtain ⟨rfl, rfl, rfl⟩ := e
      obtain ⟨v', hr, hv⟩ := sliceS_sound hb hp (ev_sound (d := d) hl hx) (evO_sound (d := d) hl hlo) (evO_sound (d := d) hl hhi) (evO_sound (d := d) hl hmx) w
      exact OpOK.value hr hv R
    · cases e
  case call c =>
    have hcc := fun f => hc c f rfl
    split at e
    · rename_i f hf; exact absurd hf (hcc f)
    · rename_i hlen
      split at e
      · rename_i ty a hty ha
        cases hb : lenS P ty a <;> simp [hb] at e
        obtain ⟨rfl, rfl, rfl⟩ := e
        obtain ⟨y, zs, hy, hz, q⟩ := evL_sound (d := d) hl ha
        rw [LR] at hz; subst hz
        obtain ⟨v', hr, hv⟩ := lenS_sound (ty := o.type) hb hy w
        have h1 : c.argTypes = #[ty] := Array.ext' hty
        have h2 : c.args.map (Act.eval ⟨⟨t'⟩, d⟩) = #[y] := by apply Array.ext'; simpa using q
        refine OpOK.value (s := Builtin.len_ #[ty] o.type #[y]) hr hv R |> fun this => ?_
        simpa [resolve, hlen, invoke, builtin, h1, h2] using this
      · cases e
    · cases e
  all_goals cases e

/-- The world behind an operation, taken as the walk takes it. -/
theorem oper_sound {Γ : Ctr} (hΓ : CtrSound P Γ) {t : List (Option Value)} {t' : List Value} {h h' : List Blk} {v : Value} {o : Oper} (e : opS P Γ t h o.op = some (v, h', true))
    {r : List Pl} {k : Nat} {w0 w : World} {d : List Deferred} (hl : TR (lk r) t t') (R : Rel k w0 r h w) {next : Act → World → Prop} {Q : Exit → Act → World → Prop}
    (hn : ∀ r' v' w', Ext r r' → VR (lk r') v v' → Rel k w0 r' h' w' → next (Act.put ⟨⟨t'⟩, d⟩ o.dst v') w') : o.wp P ⟨⟨t'⟩, d⟩ w next Q := by
  by_cases hc : ∃ c f, o.op = .call c ∧ c.callee = .value (.func f)
  · obtain ⟨c, f, hc, hcal⟩ := hc
    rw [hc] at e
    simp only [opS, hcal] at e
    · split at e
      · rename_i vs hvs
        have hargs := evL_sound (d := d) hl hvs
        have hk := hΓ.calls f vs h v h' e r w _ hargs R.self
        have hexec : (execOp (Act.eval ⟨⟨t'⟩, d⟩) o).run P w = (callFunc f ⟨c.args.toList.map (Act.eval ⟨⟨t'⟩, d⟩)⟩).run P w := by
          unfold execOp
          rw [hc]
          simp only [resolve, hcal, Act.eval, Deferred.ofValue, invoke, Sem.run_bind, Sem.run_pure, Result.andThen_ok]
          congr 2
          apply Array.ext'
          simp
        unfold Oper.wp
        rw [hexec]
        rcases hk with ⟨v', w', hr, r', he, hv, R'⟩ | ⟨hr, hcalls⟩
        · rw [hr]
          exact hn r' v' w' he hv (R.trans R' he)
        · rw [hr]
          show Calls P f _ w _
          intro cs
          obtain ⟨e, w', fr, ⟨v', rfl, r', he, hv, R'⟩, rest⟩ := hcalls cs
          exact ⟨.returned v', w', fr, hn r' v' w' he hv (R.trans R' he), rest⟩
      · cases e
  · obtain ⟨nx, w', r', v', hr, hnx, he, hv, R'⟩ := opS_sound (Γ := Γ) (d := d) e rfl (fun c f q q' => hc ⟨c, f, q, q'⟩) hl R
    unfold Oper.wp
    rw [hr]
    rcases hnx with rfl | ⟨rfl, rfl⟩
    · exact hn r' v' w' he hv R'
    · exact hn r' undef w' he hv R'

theorem VR.bool' {r : Nat → Option Pl} {x : Value} {b : Bool} (h : VR r x (.bool b)) : x = .bool b := by
  match x, h with
  | .agg ⟨xs⟩, ⟨ys, e, q⟩ => cases q
  | .tuple ⟨xs⟩, ⟨ys, e, q⟩ => cases q
  | .iface t x, ⟨y, e, q⟩ => cases q
  | .func f ⟨xs⟩ ⟨zs⟩, ⟨ys, us, e, e', q⟩ => cases q
  | .pointer (some a), ⟨b, e, q⟩ => cases q
  | .slice (some a) _ _, ⟨b, e, q⟩ => cases q
  | .map (some m), ⟨b, e, q⟩ => cases q
  | .bool _, h => cases h; rfl
  | .int _ _, h => cases h
  | .float _ _, h => cases h
  | .complex _ _ _, h => cases h
  | .string _, h => cases h
  | .pointer none, h => cases h
  | .slice none _ _, h => cases h
  | .map none, h => cases h
  | .chan _, h => cases h
  | .nilFunc, h => cases h
  | .nilIface, h => cases h

theorem wantS_sound {r : Nat → Option Pl} {t : List (Option Value)} {t' : List Value} (h : TR r t t') {ops : Array Oper} {o : Oper} {b : Bool} (e : wantS ops t o = some b) : Region.wanted o (yielded ops ⟨t'⟩) = b := by
  unfold wantS at e
  unfold Region.wanted
  split at e
  · rename_i hg; rw [hg]; cases e; rfl
  · rename_i j want hg
    rw [hg]
    simp only []
    unfold yielded
    have hj : ops[j]? = ops.toList[j]? := by simp
    rw [hj]
    split at e
    · rename_i hd; rw [hd]; cases e; rfl
    · rename_i i hd
      rw [hd]
      simp only [Option.bind_some]
      have e2 : (⟨t'⟩ : Array Value)[i]? = t'[i]? := by simp
      rw [e2]
      split at e
      · rename_i hn
        cases e
        have : t'[i]? = none := by rw [List.getElem?_eq_none_iff] at hn ⊢; rw [← h.1]; exact hn
        rw [this]
        rfl
      · cases e
      · rename_i x hx
        cases e
        obtain ⟨v', hv', hv⟩ := h.get hx
        rw [hv', hv.bool]
        cases x <;> cases want <;> rfl
      · rename_i v hnb hx
        cases e
        obtain ⟨v', hv', hv⟩ := h.get hx
        rw [hv']
        by_cases hb : ∃ b, v' = .bool b
        · obtain ⟨b, rfl⟩ := hb
          exact absurd hv.bool' (hnb b)
        · have n1 : (match some v' with | some (.bool b) => some b | _ => none : Option Bool) = none := by
            cases v' <;> first | rfl | exact absurd ⟨_, rfl⟩ hb
          exact (congrArg (fun z : Option Bool => z == some want) n1).trans rfl

theorem TR.put {r : Nat → Option Pl} {t : List (Option Value)} {t' : List Value} {d : List Deferred} {o : Option Tmp} {v v' : Value} (h : TR r t t') (g : VR r v v') : ∃ t'', Act.put ⟨⟨t'⟩, d⟩ o v' = ⟨⟨t''⟩, d⟩ ∧ TR r (putT t o v) t'' := by
  cases o with
  | none => exact ⟨t', rfl, h⟩
  | some i => exact ⟨t'.set i v', by simp [Act.put], h.set g i⟩

theorem takeS_eq {Γ : Ctr} {d : Option Tmp} {v : Value} (h : (takeS Γ d v).2 = true) : (takeS Γ d v).1 = v := by
  unfold takeS at h ⊢
  split
  · rfl
  · split
    · rfl
    · rename_i b hb
      simp only [hb] at h
      split
      · cases b <;> simp at h <;> rw [h]
      · rfl

theorem stepI_ob {Γ : Ctr} {ops : Array Oper} {o : Oper} {s s' : St} (e : stepI P Γ ops o s = some s') (h : s'.ob = true) : s.ob = true := by
  unfold stepI at e
  split at e
  · split at e
    · cases e; simp only [andT_iff] at h; exact h.1.1
    · cases e
  · cases e; exact h
  · cases e

theorem runOps_ob {Γ : Ctr} {ops : Array Oper} : ∀ (is : List Nat) (s s' : St), runOps P Γ ops is s = some s' → s'.ob = true → s.ob = true
  | [], s, s', e, h => by simp only [runOps, Option.some.injEq] at e; subst e; exact h
  | i :: is, s, s', e, h => by
    simp only [runOps] at e
    split at e
    · exact runOps_ob is s s' e h
    · split at e
      · rename_i s1 h1; exact stepI_ob h1 (runOps_ob is s1 s' e h)
      · cases e

theorem wpOp_sound {Γ : Ctr} (hΓ : CtrSound P Γ) {ops : Array Oper} {o : Oper} {i : Nat} (hi : ops[i]? = some o) {s s' : St} (e : stepI P Γ ops o s = some s') (hob : s'.ob = true)
    {r : List Pl} {k : Nat} {w0 w : World} {t' : List Value} {d : List Deferred} {Q : Exit → Act → World → Prop} {K : Act → World → Prop} (hl : TR (lk r) s.t t') (R : Rel k w0 r s.h w)
    (hK : ∀ r' w' t'', Ext r r' → TR (lk r') s'.t t'' → Rel k w0 r' s'.h w' → K ⟨⟨t''⟩, d⟩ w') : wpOp P ops Q i K ⟨⟨t'⟩, d⟩ w := by
  unfold stepI at e
  unfold wpOp
  rw [hi]
  simp only []
  split at e
  · rename_i hw
    rw [if_pos (wantS_sound hl hw)]
    refine .inl ?_
    split at e
    · rename_i v h p hop
      cases e
      simp only [andT_iff] at hob
      rw [hob.1.2] at hop
      refine oper_sound hΓ hop hl R fun r' v' w' he hv R' => ?_
      rw [takeS_eq hob.2] at hK
      obtain ⟨t'', q, hl'⟩ := TR.put (d := d) (o := o.dst) (TR.mono he.lk hl) hv
      rw [q]
      exact hK r' w' t'' he hl' R'
    · cases e
  · rename_i hw
    cases e
    rw [if_neg (by rw [wantS_sound hl hw]; simp)]
    obtain ⟨t'', q, hl'⟩ := TR.put (d := d) (o := o.dst) hl (VR.undef (r := lk r))
    rw [q]
    exact hK r w t'' (Ext.refl r) hl' R
  · cases e

theorem runOps_sound {Γ : Ctr} (hΓ : CtrSound P Γ) {ops : Array Oper} : ∀ (is : List Nat) (s s' : St), runOps P Γ ops is s = some s' → s'.ob = true →
    ∀ {r : List Pl} {k : Nat} {w0 w : World} {t' : List Value} {d : List Deferred} {Q : Exit → Act → World → Prop}, TR (lk r) s.t t' → Rel k w0 r s.h w →
    (∀ r' w' t'', Ext r r' → TR (lk r') s'.t t'' → Rel k w0 r' s'.h w' → Q .normal ⟨⟨t''⟩, d⟩ w') → wpOps P ops Q is ⟨⟨t'⟩, d⟩ w
  | [], s, s', e, _, r, k, w0, w, t', d, Q, hl, R, hQ => by
    simp only [runOps, Option.some.injEq] at e; subst e
    exact hQ r w t' (Ext.refl r) hl R
  | i :: is, s, s', e, hob, r, k, w0, w, t', d, Q, hl, R, hQ => by
    simp only [runOps] at e
    have hi : ops[i]? = ops.toList[i]? := by simp
    rw [wpOps_cons]
    split at e
    · rename_i hn
      rw [← hi] at hn
      simp only [wpOp, hn]
      exact runOps_sound hΓ is s s' e hob hl R hQ
    · rename_i o ho
      rw [← hi] at ho
      split at e
      · rename_i s1 h1
        refine wpOp_sound hΓ ho h1 (runOps_ob is s1 s' e hob) hl R fun r' w' t'' he hl' R' => ?_
        exact runOps_sound hΓ is s1 s' e hob hl' R' fun r2 w2 t2 he2 hl2 R2 => hQ r2 w2 t2 (he.trans he2) hl2 R2
      · cases e

/-! ### Whatever order is drawn -/

theorem evL_congr {t t' : List (Option Value)} : ∀ {xs : List Operand}, (∀ x ∈ xs, ev t x = ev t' x) → evL t xs = evL t' xs
  | [], _ => rfl
  | x :: xs, h => by simp only [evL, h x (by simp), evL_congr (xs := xs) fun y hy => h y (by simp [hy])]

theorem opS_congr {Γ : Ctr} {t t' : List (Option Value)} {h : List Blk} (o : Op) (e : ∀ x ∈ o.operands, ev t x = ev t' x) : opS P Γ t h o = opS P Γ t' h o := by
  cases o <;> simp only [Op.operands] at e <;> simp only [opS]
  case build ty ps =>
    rw [evL_congr (t := t) (t' := t') (xs := ps.toList.map (·.2)) fun x hx => e x (by simpa using hx)]
  case buildSlice ty len ps =>
    rw [evL_congr (t := t) (t' := t') (xs := ps.toList.map (·.2)) fun x hx => e x (by simpa using hx)]
  case makeSlice ty l c => rw [e l (by simp), e c (by simp)]
  case slice ty x lo hi mx =>
    have eO : ∀ y : Option Operand, (∀ z, y = some z → ev t z = ev t' z) → evO t y = evO t' y := fun y hy => by
      cases y with
      | none => rfl
      | some z => simp only [evO, hy z rfl]
    rw [e x (by simp), eO lo (fun z hz => e z (by subst hz; simp)), eO hi (fun z hz => e z (by subst hz; simp)), eO mx (fun z hz => e z (by subst hz; simp))]
  case call c =>
    rw [evL_congr (t := t) (t' := t') (xs := c.args.toList) fun x hx => e x (by simp [Call.operands, Array.mem_toList_iff.1 hx])]
  case pick c a b => rw [e c (by simp), e a (by simp), e b (by simp)]
  case store ty a v => rw [e a (by simp), e v (by simp)]
  case binOp op T x y T' => rw [e x (by simp), e y (by simp)]
  case indexAddr T x i => rw [e x (by simp), e i (by simp)]
  case index T x i => rw [e x (by simp), e i (by simp)]
  all_goals first
    | rfl
    | (rw [e _ (by simp)])

/-- An operation that looks at no block. -/
theorem opS_pure {Γ : Ctr} (hΓ : PureC Γ) {t : List (Option Value)} {h h' : List Blk} {v : Value} {p : Bool} {o : Op} (hc : clsOf Γ.pf o = 0) (e : opS P Γ t h o = some (v, h', p)) :
    h' = h ∧ ∀ h2, opS P Γ t h2 o = some (v, h2, p) := by
  cases o <;> simp only [clsOf] at hc <;> simp only [opS] at e ⊢
  case call c =>
    split at hc
    · rename_i f hf
      try simp only [hf] at e ⊢
      cases hv : evL t c.args.toList with
      | none => rw [hv] at e; cases e
      | some vs =>
        rw [hv] at e
        exact hΓ.1 f hc vs h v h' p e
    · rename_i hlen
      try simp only [hlen] at e ⊢
      split at e
      · obtain ⟨x, hx, q⟩ := Option.map_eq_some_iff.1 e; cases q; exact ⟨rfl, fun _ => by simp only [hx, Option.map_some]⟩
      · cases e
    · cases hc
  case load => cases hc
  case alloc => cases hc
  case box => cases hc
  case store => cases hc
  case buildSlice => cases hc
  case makeSlice => cases hc
  case binOp op T x y T' =>
    split at e
    · split at e
      · cases e; exact ⟨rfl, fun _ => rfl⟩
      · obtain ⟨x, hx, q⟩ := Option.map_eq_some_iff.1 e
        cases q
        exact ⟨rfl, fun _ => by simp only [hx, Option.map_some]⟩
    · cases e
  all_goals first
    | (cases e; done)
    | (split at e <;> first
        | (cases e; done)
        | (cases e; exact ⟨rfl, fun _ => rfl⟩)
        | (obtain ⟨x, hx, q⟩ := Option.map_eq_some_iff.1 e; cases q; exact ⟨rfl, fun _ => by simp only [hx, Option.map_some]⟩))
    | (obtain ⟨x, hx, q⟩ := Option.map_eq_some_iff.1 e; cases q; exact ⟨rfl, fun _ => by simp only [hx, Option.map_some]⟩)

theorem opS_read {Γ : Ctr} (hΓ : PureC Γ) {t : List (Option Value)} {h h' : List Blk} {v : Value} {p : Bool} {o : Op} (hc : clsOf Γ.pf o = 1) (e : opS P Γ t h o = some (v, h', p)) : h' = h := by
  cases o <;> simp only [clsOf] at hc
  case load =>
    simp only [opS] at e
    split at e
    · obtain ⟨x, hx, q⟩ := Option.map_eq_some_iff.1 e; cases q; rfl
    · cases e
  case call c =>
    split at hc
    · rename_i f hf
      simp only [opS] at e
      try simp only [hf] at e
      cases hv : evL t c.args.toList with
      | none => rw [hv] at e; cases e
      | some vs =>
        rw [hv] at e
        exact hΓ.2 f hc vs h v h' p e
    · cases hc
    · cases hc
  all_goals cases hc

theorem ev_put {t : List (Option Value)} {d : Option Tmp} {v : Value} {x : Operand} (h : ∀ i, d = some i → x ≠ .tmp i) : ev (putT t d v) x = ev t x := by
  cases d with
  | none => rfl
  | some i =>
    cases x with
    | tmp j =>
      have : i ≠ j := fun q => h i rfl (by rw [q])
      simp [ev, putT, List.getElem?_set_ne this]
    | _ => rfl

theorem wantS_put {ops : Array Oper} {o : Oper} {t : List (Option Value)} {d : Option Tmp} {v : Value} (h : ∀ i, d = some i → i ∉ o.looksAt ops) : wantS ops (putT t d v) o = wantS ops t o := by
  unfold wantS
  cases hg : o.guard with
  | none => rfl
  | some g =>
    obtain ⟨j, b⟩ := g
    simp only []
    cases hd : (ops.toList[j]?).bind (·.dst) with
    | none => rfl
    | some k =>
      simp only []
      cases d with
      | none => rfl
      | some i =>
        have hj : ops[j]? = ops.toList[j]? := by simp
        have : i ≠ k := fun q => h i rfl (by simp only [Oper.looksAt, hg, List.mem_append]; right; rw [hj, hd, q]; simp)
        simp [putT, List.getElem?_set_ne this]

theorem opS_put {Γ : Ctr} {ops : Array Oper} {o : Oper} {t : List (Option Value)} {h : List Blk} {d : Option Tmp} {v : Value} (hn : ∀ i, d = some i → i ∉ o.looksAt ops) : opS P Γ (putT t d v) h o.op = opS P Γ t h o.op := by
  apply opS_congr
  intro x hx
  apply ev_put
  intro i hi q
  subst q
  exact hn i hi (by simp only [Oper.looksAt, List.mem_append, List.mem_filterMap]; exact .inl ⟨_, Array.mem_toList_iff.2 hx, rfl⟩)

theorem putT_comm {t : List (Option Value)} {a b : Option Tmp} (u v : Value) (h : ∀ d, a = some d → b ≠ some d) : putT (putT t a u) b v = putT (putT t b v) a u := by
  cases a with
  | none => rfl
  | some i =>
    cases b with
    | none => rfl
    | some j =>
      have : i ≠ j := fun q => h i rfl (by rw [q])
      exact List.set_comm _ _ this

theorem stepI_comm {Γ : Ctr} (hΓ : PureC Γ) {ops : Array Oper} {x y : Oper} (hc : commB Γ.pf ops x y = true) {s s1 s2 : St} (e1 : stepI P Γ ops x s = some s1) (e2 : stepI P Γ ops y s1 = some s2) :
    ∃ s', stepI P Γ ops y s = some s' ∧ stepI P Γ ops x s' = some s2 := by
  unfold commB at hc
  simp only [Bool.and_eq_true] at hc
  obtain ⟨hap, hcl⟩ := hc
  obtain ⟨h1, h2, h3⟩ : (∀ d, x.dst = some d → d ∉ y.looksAt ops) ∧ (∀ d, x.dst = some d → y.dst ≠ some d) ∧ (∀ d, y.dst = some d → d ∉ x.looksAt ops) := by
    unfold Oper.apart at hap
    simp only [Bool.and_eq_true] at hap
    obtain ⟨ha, hb⟩ := hap
    refine ⟨fun d hd => ?_, fun d hd => ?_, fun d hd => ?_⟩
    · rw [hd] at ha; simp at ha; exact ha.1
    · rw [hd] at ha; simp at ha; exact ha.2
    · rw [hd] at hb; simpa using hb
  unfold stepI at e1 e2 ⊢
  split at e1
  · rename_i wx
    split at e1
    · rename_i vx hx px hox
      cases e1
      simp only [wantS_put h1, opS_put h1] at e2
      split at e2
      · rename_i wy
        try rw [wy]
        split at e2
        · rename_i vy hy py hoy
          cases e2
          have key : opS P Γ s.t s.h y.op = some (vy, (if clsOf Γ.pf y.op = 0 then s.h else hy), py) ∧
              opS P Γ s.t (if clsOf Γ.pf y.op = 0 then s.h else hy) x.op = some (vx, hy, px) := by
            by_cases cy : clsOf Γ.pf y.op = 0
            · rw [if_pos cy]
              obtain ⟨q, hall⟩ := opS_pure hΓ cy hoy
              exact ⟨hall s.h, by rw [q]; exact hox⟩
            · rw [if_neg cy]
              by_cases cx : clsOf Γ.pf x.op = 0
              · obtain ⟨q, hall⟩ := opS_pure hΓ cx hox
                rw [q] at hoy
                exact ⟨hoy, hall hy⟩
              · simp only [Bool.or_eq_true, beq_iff_eq, Bool.and_eq_true] at hcl
                obtain ⟨c1, c2⟩ : clsOf Γ.pf x.op = 1 ∧ clsOf Γ.pf y.op = 1 := by
                  rcases hcl with (h | h) | h
                  · exact absurd h cx
                  · exact absurd h cy
                  · exact h
                have q1 := opS_read hΓ c1 hox
                rw [q1] at hoy
                have q2 := opS_read hΓ c2 hoy
                rw [q2]
                rw [q2] at hoy
                exact ⟨hoy, by rw [← q1]; rw [q1] at hox ⊢; exact hox⟩
          try simp only [key.1]
          refine ⟨_, rfl, ?_⟩
          simp only [wantS_put h3, opS_put h3, wx, key.2]
          have hb3 : ∀ a b c b' c' : Bool, andT (andT (andT (andT a b) b') c) c' = andT (andT (andT (andT a c) c') b) b' := by decide
          rw [putT_comm _ _ h2, hb3 s.ob]
        · cases e2
      · rename_i wy
        try rw [wy]
        cases e2
        refine ⟨_, rfl, ?_⟩
        simp only [wantS_put h3, opS_put h3, wx, hox]
        rw [putT_comm _ undef h2]
      · cases e2
    · cases e1
  · rename_i wx
    cases e1
    simp only [wantS_put h1, opS_put h1] at e2
    split at e2
    · rename_i wy
      try rw [wy]
      split at e2
      · rename_i vy hy py hoy
        cases e2
        try simp only [hoy]
        refine ⟨_, rfl, ?_⟩
        simp only [wantS_put h3, wx]
        rw [putT_comm undef _ h2]
      · cases e2
    · rename_i wy
      try rw [wy]
      cases e2
      refine ⟨_, rfl, ?_⟩
      simp only [wantS_put h3, wx]
      rw [putT_comm undef undef h2]
    · cases e2
  · cases e1

/-- An operation that may change places with all before it may be taken first. -/
theorem runOps_first {Γ : Ctr} (hΓ : PureC Γ) {ops : Array Oper} {i : Nat} {y : Oper} (hi : ops.toList[i]? = some y) : ∀ (pre post : List Nat) (s s' : St),
    (∀ j ∈ pre, ∀ x, ops.toList[j]? = some x → commB Γ.pf ops x y = true) → runOps P Γ ops (pre ++ i :: post) s = some s' → ∃ s1, stepI P Γ ops y s = some s1 ∧ runOps P Γ ops (pre ++ post) s1 = some s'
  | [], post, s, s', _, e => by
    simp only [List.nil_append, runOps, hi] at e
    split at e
    · rename_i s1 h1; exact ⟨s1, h1, e⟩
    · cases e
  | j :: pre, post, s, s', hc, e => by
    simp only [List.cons_append, runOps] at e
    split at e
    · rename_i hn
      obtain ⟨s1, h1, h2⟩ := runOps_first hΓ hi pre post s s' (fun k hk => hc k (by simp [hk])) e
      exact ⟨s1, h1, by simp only [List.cons_append, runOps, hn]; exact h2⟩
    · rename_i x hx
      split at e
      · rename_i s0 h0
        obtain ⟨s1, h1, h2⟩ := runOps_first hΓ hi pre post s0 s' (fun k hk => hc k (by simp [hk])) e
        obtain ⟨s2, h3, h4⟩ := stepI_comm hΓ (hc j (by simp) x hx) h0 h1
        exact ⟨s2, h3, by simp only [List.cons_append, runOps, hx, h4]; exact h2⟩
      · cases e

theorem mask_bit (acc : List Nat) (j : Nat) : ∀ (es : List Edge) (s : Nat), (es.foldl (fun s e => if Region.binds .any e then s ||| 2 ^ e.on ||| acc.getD e.on 0 else s) s).testBit j = true →
    s.testBit j = true ∨ ∃ e ∈ es, Region.binds .any e = true ∧ (j = e.on ∨ (acc.getD e.on 0).testBit j = true)
  | [], s, h => .inl h
  | e :: es, s, h => by
    simp only [List.foldl_cons] at h
    rcases mask_bit acc j es _ h with h1 | ⟨e', he', hb, h1⟩
    · split at h1
      · rename_i hb
        simp only [Nat.testBit_or, Bool.or_eq_true, Nat.testBit_two_pow, decide_eq_true_eq] at h1
        rcases h1 with (h1 | h1) | h1
        · exact .inl h1
        · exact .inr ⟨e, by simp, hb, .inl h1.symm⟩
        · exact .inr ⟨e, by simp, hb, .inr h1⟩
      · exact .inl h1
    · exact .inr ⟨e', by simp [he'], hb, h1⟩

theorem getD_app {l m : List Nat} {i : Nat} (h : i < l.length) : (l ++ m).getD i 0 = l.getD i 0 := by
  rw [List.getD_eq_getElem?_getD, List.getElem?_append_left h, List.getD_eq_getElem?_getD]

/-- What a set of the masks says. -/
def MaskOK (ops : List Oper) (m : List Nat) : Prop :=
  ∀ (i : Nat) (o : Oper), i < m.length → ops[i]? = some o → ∀ j : Nat, (m.getD i 0).testBit j = true → ∃ e ∈ o.after.toList, Region.binds .any e = true ∧ (j = e.on ∨ (e.on < i ∧ (m.getD e.on 0).testBit j = true))

theorem masks_ok : ∀ (rest done : List Oper) (acc : List Nat), acc.length = done.length → MaskOK (done ++ rest) acc → MaskOK (done ++ rest) (masks rest acc)
  | [], _, acc, _, h => h
  | o :: rest, done, acc, hl, h => by
    have : done ++ o :: rest = (done ++ [o]) ++ rest := by simp
    rw [this]
    apply masks_ok rest (done ++ [o]) (acc ++ [maskOf acc o]) (by simp [hl])
    rw [← this]
    intro i x hi hx j hj
    rcases Nat.lt_or_ge i acc.length with h1 | h1
    · rw [getD_app h1] at hj
      obtain ⟨e, he, hb, h2⟩ := h i x h1 hx j hj
      refine ⟨e, he, hb, h2.imp id fun h3 => ⟨h3.1, ?_⟩⟩
      rw [getD_app (by omega)]; exact h3.2
    · simp at hi
      have hi' : i = acc.length := by omega
      subst hi'
      rw [hl, List.getElem?_append_right (Nat.le_refl _)] at hx
      simp at hx
      subst hx
      simp only [List.getD_eq_getElem?_getD, List.getElem?_append_right (Nat.le_refl _), Nat.sub_self, List.getElem?_cons_zero, Option.getD_some] at hj
      rcases mask_bit acc j _ 0 hj with h2 | ⟨e, he, hb, h2⟩
      · simp at h2
      · refine ⟨e, he, hb, h2.imp id fun h3 => ?_⟩
        have : e.on < acc.length := by
          rcases Nat.lt_or_ge e.on acc.length with h4 | h4
          · exact h4
          · rw [List.getD_eq_getElem?_getD, List.getElem?_eq_none h4] at h3; simp at h3
        exact ⟨this, by rw [getD_app this]; exact h3⟩

/-- The listed operations are closed under what must come before. -/
def Closed (ops : List Oper) (listed : Array Bool) : Prop :=
  ∀ (j : Nat) (o : Oper), ops[j]? = some o → listed.getD j false = true → ∀ e ∈ o.after.toList, Region.binds .any e = true → listed.getD e.on false = true

theorem closed_mask {ops : List Oper} {m : List Nat} (hm : MaskOK ops m) (hlen : m.length = ops.length) {listed : Array Bool} (hc : Closed ops listed) : ∀ (n i : Nat) (o : Oper), i ≤ n → ops[i]? = some o →
    (∀ e ∈ o.after.toList, Region.binds .any e = true → listed.getD e.on false = true) → ∀ j : Nat, (m.getD i 0).testBit j = true → listed.getD j false = true := by
  intro n
  induction n with
  | zero =>
    intro i o hi ho hp j hj
    obtain ⟨e, he, hb, h1⟩ := hm i o (by rw [hlen]; exact (List.getElem?_eq_some_iff.1 ho).1) ho j hj
    rcases h1 with rfl | ⟨h1, _⟩
    · exact hp e he hb
    · omega
  | succ n ih =>
    intro i o hi ho hp j hj
    obtain ⟨e, he, hb, h1⟩ := hm i o (by rw [hlen]; exact (List.getElem?_eq_some_iff.1 ho).1) ho j hj
    rcases h1 with rfl | ⟨h1, h2⟩
    · exact hp e he hb
    · have hlt : e.on < ops.length := by have := (List.getElem?_eq_some_iff.1 ho).1; omega
      have heo := List.getElem?_eq_getElem hlt
      exact ih e.on _ (by omega) heo (hc e.on _ heo (hp e he hb)) j h2

theorem masks_length : ∀ (rest : List Oper) (acc : List Nat), (masks rest acc).length = acc.length + rest.length
  | [], acc => by simp [masks]
  | o :: rest, acc => by rw [masks, masks_length rest]; simp; omega

theorem wpAny_ops {Γ : Ctr} (hΓ : CtrSound P Γ) {ops : Array Oper} (hd : drawOK Γ.pf ops = true) : ∀ (fuel : Nat) (listed : Array Bool) (s s' : St), listed.size = ops.size → Closed ops.toList listed →
    ((List.range ops.size).filter fun i => !listed.getD i true).length = fuel →
    runOps P Γ ops ((List.range ops.size).filter fun i => !listed.getD i true) s = some s' → s'.ob = true →
    ∀ {r : List Pl} {k : Nat} {w0 w : World} {t' : List Value} {d : List Deferred} {Q : Exit → Act → World → Prop}, TR (lk r) s.t t' → Rel k w0 r s.h w →
    (∀ r' w' t'', Ext r r' → TR (lk r') s'.t t'' → Rel k w0 r' s'.h w' → Q .normal ⟨⟨t''⟩, d⟩ w') → wpAny P .any ops Q fuel listed ⟨⟨t'⟩, d⟩ w := by
  have hd' : ∀ (j : Nat) (y : Oper), ops.toList[j]? = some y → (∀ e ∈ y.after.toList, Region.binds .any e = true → e.on < j) ∧
      ∀ (i : Nat) (x : Oper), i < j → ops.toList[i]? = some x → ((masks ops.toList []).getD j 0).testBit i = true ∨ commB Γ.pf ops x y = true := by
    intro j y hy
    unfold drawOK at hd
    rw [List.all_eq_true] at hd
    have hmem : (y, j) ∈ ops.toList.zipIdx := by
      rw [List.mk_mem_zipIdx_iff_getElem?]; exact hy
    have h1 := hd _ hmem
    simp only [Bool.and_eq_true, List.all_eq_true, Bool.or_eq_true, Bool.not_eq_true', decide_eq_true_eq] at h1
    refine ⟨fun e he hb => (h1.1 e he).resolve_left (by simp [hb]), fun i x hij hx => ?_⟩
    have h2 : (x, i) ∈ ops.toList.zipIdx.take j := by
      rw [List.mem_iff_getElem?]
      refine ⟨i, ?_⟩
      rw [List.getElem?_take_of_lt hij, List.getElem?_zipIdx, hx]
      simp
    exact h1.2 _ h2
  have hready : ∀ (listed : Array Bool) (i : Nat), i ∈ Region.ready .any ops listed → i ∈ (List.range ops.size).filter fun i => !listed.getD i true := fun listed i hi => by
    obtain ⟨h1, o, ho, _⟩ := mem_ready.1 hi
    rw [List.mem_filter, List.mem_range]
    exact ⟨(Array.getElem?_eq_some_iff.1 ho).1, by simp only [h1, Bool.not_false]⟩
  intro fuel
  induction fuel with
  | zero =>
    intro listed s s' _ _ hlen hr hob r k w0 w t' d Q hl R hQ
    have hnil := List.length_eq_zero_iff.1 hlen
    rw [hnil] at hr
    simp only [runOps, Option.some.injEq] at hr
    subst hr
    refine ⟨?_, hQ r w t' (Ext.refl r) hl R⟩
    cases hrd : Region.ready .any ops listed with
    | nil => rfl
    | cons i l =>
      have := hready listed i (by rw [hrd]; simp)
      rw [hnil] at this
      cases this
  | succ fuel ih =>
    intro listed s s' hsz hcl hlen hr hob r k w0 w t' d Q hl R hQ
    refine ⟨fun hnil => ?_, fun i hi => ?_⟩
    · -- the first that is not listed is ready
      exfalso
      cases hL : (List.range ops.size).filter fun i => !listed.getD i true with
      | nil => rw [hL] at hlen; cases hlen
      | cons i0 l =>
        have hi0 : i0 ∈ (List.range ops.size).filter fun i => !listed.getD i true := by rw [hL]; simp
        rw [List.mem_filter, List.mem_range] at hi0
        have hsorted : ((List.range ops.size).filter fun i => !listed.getD i true).Pairwise (· < ·) := List.Pairwise.filter _ List.pairwise_lt_range
        have hmin : ∀ j, j < i0 → listed.getD j false = true := fun j hj => by
          cases hq : listed.getD j true with
          | true =>
            have hjs : j < listed.size := by rw [hsz]; omega
            simp [hjs] at hq ⊢; exact hq
          | false =>
            have hm : j ∈ (List.range ops.size).filter fun i => !listed.getD i true := by
              rw [List.mem_filter, List.mem_range]; exact ⟨by omega, by simp only [hq, Bool.not_false]⟩
            rw [hL] at hm hsorted
            rcases List.mem_cons.1 hm with rfl | hm
            · omega
            · have := (List.pairwise_cons.1 hsorted).1 j hm; omega
        have ho := Array.getElem?_eq_getElem (xs := ops) hi0.1
        have : i0 ∈ Region.ready .any ops listed := by
          refine mem_ready.2 ⟨by simpa using hi0.2, _, ho, fun e he hb => hmin e.on ?_⟩
          exact (hd' i0 _ (by rw [Array.getElem?_toList]; exact ho)).1 e (by simpa using he) hb
        rw [hnil] at this
        cases this
    · obtain ⟨hun, o, ho, hpre⟩ := mem_ready.1 hi
      have hil := hready listed i hi
      obtain ⟨pre, post, hsplit⟩ := List.append_of_mem hil
      have hsorted : ((List.range ops.size).filter fun i => !listed.getD i true).Pairwise (· < ·) := List.Pairwise.filter _ List.pairwise_lt_range
      rw [hsplit] at hr hsorted
      have hprelt : ∀ j ∈ pre, j < i := fun j hj => (List.pairwise_append.1 hsorted).2.2 j hj i (by simp)
      have hpostgt : ∀ j ∈ post, i < j := fun j hj => (List.pairwise_cons.1 (List.pairwise_append.1 hsorted).2.1).1 j hj
      have hol : ops.toList[i]? = some o := by simpa using ho
      have hmk := masks_ok ops.toList [] [] rfl (fun i o hi => by simp at hi)
      have hml : (masks ops.toList []).length = ops.toList.length := by rw [masks_length]; simp
      have hcomm : ∀ j ∈ pre, ∀ x, ops.toList[j]? = some x → commB Γ.pf ops x o = true := fun j hj x hx => by
        rcases (hd' i o hol).2 j x (hprelt j hj) hx with h1 | h1
        · have h2 := closed_mask (by simpa using hmk) hml hcl i i o (Nat.le_refl _) hol (fun e he hb => hpre e (by simpa using he) hb) j h1
          have hjm : j ∈ (List.range ops.size).filter fun i => !listed.getD i true := by rw [hsplit]; simp [hj]
          rw [List.mem_filter] at hjm
          have hjs : j < listed.size := by rw [hsz]; exact List.mem_range.1 hjm.1
          have h3 := hjm.2
          simp [hjs] at h2 h3
          rw [h2] at h3
          cases h3
        · exact h1
      obtain ⟨s1, h1, h2⟩ := runOps_first (P := P) hΓ.pure hol pre post s s' hcomm hr
      refine wpOp_sound hΓ ho h1 (runOps_ob _ _ _ h2 hob) hl R fun r' w' t'' he hl' R' => ?_
      have hfil : (List.range ops.size).filter (fun j => !(listed.setIfInBounds i true).getD j true) = pre ++ post := by
        have e1 : ∀ j, (listed.setIfInBounds i true).getD j true = (listed.getD j true || decide (j = i)) := fun j => by
          by_cases hij : i = j
          · subst hij
            have his : i < listed.size := by rw [hsz]; exact (Array.getElem?_eq_some_iff.1 ho).1
            simp [his]
          · rw [getD_set_ne true hij]
            have : ¬ j = i := fun q => hij q.symm
            simp [this]
        have e2 : (List.range ops.size).filter (fun j => !(listed.setIfInBounds i true).getD j true) = ((List.range ops.size).filter fun j => !listed.getD j true).filter fun j => decide (j ≠ i) := by
          rw [List.filter_filter]
          apply List.filter_congr
          intro j _
          rw [e1 j]
          by_cases hji : j = i <;> simp [hji]
        rw [e2, hsplit, List.filter_append, List.filter_cons]
        have e3 : pre.filter (fun j => decide (j ≠ i)) = pre := List.filter_eq_self.2 fun j hj => by have := hprelt j hj; simp; omega
        have e4 : post.filter (fun j => decide (j ≠ i)) = post := List.filter_eq_self.2 fun j hj => by have := hpostgt j hj; simp; omega
        rw [e3, e4]
        simp
      refine ih (listed.setIfInBounds i true) s1 s' (by simp [hsz]) ?_ ?_ (by rw [hfil]; exact h2) hob hl' R' fun r2 w2 t2 he2 hl2 R2 => hQ r2 w2 t2 (he.trans he2) hl2 R2
      · intro j x hx hlj e hes hb
        by_cases hij : i = j
        · subst hij
          rw [hol] at hx; cases hx
          exact getD_set_true (hpre e (by simpa using hes) hb)
        · rw [getD_set_ne false hij] at hlj
          exact getD_set_true (hcl j x hx hlj e hes hb)
      · rw [hfil]
        rw [hsplit] at hlen
        simp at hlen ⊢
        omega

/-- A region whose order is drawn. -/
theorem region_draw_sound {Γ : Ctr} (hΓ : CtrSound P Γ) {ops : Array Oper} (hm : P.follows .mixedOrders = true) (hd : drawOK Γ.pf ops = true) {s s' : St} (hr : runOps P Γ ops (List.range ops.size) s = some s') (hob : s'.ob = true)
    {r : List Pl} {k : Nat} {w0 w : World} {t' : List Value} {d : List Deferred} {Q : Exit → Act → World → Prop} (hl : TR (lk r) s.t t') (R : Rel k w0 r s.h w)
    (hQ : ∀ r' w' t'', Ext r r' → TR (lk r') s'.t t'' → Rel k w0 r' s'.h w' → Q .normal ⟨⟨t''⟩, d⟩ w') (id : Nat) : (Code.region id ops true).wp P Q ⟨⟨t'⟩, d⟩ w := by
  refine wp_region_any hm ?_
  have hall : (List.range ops.size).filter (fun i => !(Array.replicate ops.size false).getD i true) = List.range ops.size := List.filter_eq_self.2 fun i hi => by
    rw [List.mem_range] at hi; simp [hi]
  have R' : Rel k w0 r s.h { w with drawn := w.drawn + 1 } := { os := R.os, tape := R.tape, output := R.output, size := R.size, nodup := R.nodup, len := R.len, news := R.news, blk := R.blk, old := R.old, kle := R.kle }
  refine wpAny_ops hΓ hd ops.size _ s s' (by simp) ?_ (by rw [hall]; simp) (by rw [hall]; exact hr) hob hl R' hQ
  intro j o ho hlj
  rw [show (Array.replicate ops.size false).getD j false = false from by rw [Array.getD_eq_getD_getElem?, Array.getElem?_replicate]; split <;> rfl] at hlj
  cases hlj

theorem exec_ob {Γ : Ctr} : ∀ (n : Nat) (c : Code) (s s' : St) (x : Exit), exec P Γ n c s = some (x, s') → s'.ob = true → s.ob = true
  | 0, _, _, _, _, e, _ => by simp [exec] at e
  | n + 1, c, s, s', x, e, h => by
    cases c <;> simp only [exec] at e
    case skip => cases e; exact h
    case label => cases e; exact h
    case exit => cases e; exact h
    case ret => cases e; exact h
    case seq a b =>
      split at e
      · rename_i s1 h1; exact exec_ob n a s s1 _ h1 (exec_ob n b s1 s' x e h)
      · exact exec_ob n a s s' x e h
    case cond c a b =>
      split at e
      · exact exec_ob n a s s' x e h
      · exact exec_ob n b s s' x e h
      · cases e
    case block id b =>
      split at e
      · rename_i j s1 h1
        split at e <;> (cases e; exact exec_ob n b s _ _ h1 h)
      · exact exec_ob n b s s' x e h
    case loop b =>
      split at e
      · rename_i s1 h1; exact exec_ob n b s s1 _ h1 (exec_ob n _ s1 s' x e h)
      · exact exec_ob n b s s' x e h
    case region id ops draw =>
      split at e
      · cases hr : runOps P Γ ops (List.range ops.size) s <;> simp [hr] at e
        obtain ⟨rfl, rfl⟩ := e
        exact runOps_ob _ _ _ hr h
      · cases e
    all_goals cases e

theorem exec_sound {Γ : Ctr} (hΓ : CtrSound P Γ) : ∀ (n : Nat),
    (∀ (c : Code) (s s' : St) (x : Exit), exec P Γ n c s = some (x, s') → s'.ob = true →
      ∀ {r : List Pl} {k : Nat} {w0 w : World} {t' : List Value} {d : List Deferred} {Q : Exit → Act → World → Prop}, TR (lk r) s.t t' → Rel k w0 r s.h w →
      (∀ r' w' t'', Ext r r' → TR (lk r') s'.t t'' → Rel k w0 r' s'.h w' → Q x ⟨⟨t''⟩, d⟩ w') → c.wp P Q ⟨⟨t'⟩, d⟩ w) ∧
    (∀ (c : Code) (s s' : St) (x : Exit), exec P Γ n (.loop c) s = some (x, s') → s'.ob = true →
      ∀ {r : List Pl} {k : Nat} {w0 w : World} {t' : List Value} {d : List Deferred} {Q : Exit → Act → World → Prop}, TR (lk r) s.t t' → Rel k w0 r s.h w →
      (∀ r' w' t'', Ext r r' → TR (lk r') s'.t t'' → Rel k w0 r' s'.h w' → Q x ⟨⟨t''⟩, d⟩ w') → Code.rounds P c Q n ⟨⟨t'⟩, d⟩ w) := by
  intro n
  induction n with
  | zero => exact ⟨fun _ _ _ _ e => by simp [exec] at e, fun _ _ _ _ e => by simp [exec] at e⟩
  | succ n ih =>
    obtain ⟨ihA, ihB⟩ := ih
    have hB : ∀ (c : Code) (s s' : St) (x : Exit), exec P Γ (n + 1) (.loop c) s = some (x, s') → s'.ob = true →
      ∀ {r : List Pl} {k : Nat} {w0 w : World} {t' : List Value} {d : List Deferred} {Q : Exit → Act → World → Prop}, TR (lk r) s.t t' → Rel k w0 r s.h w →
      (∀ r' w' t'', Ext r r' → TR (lk r') s'.t t'' → Rel k w0 r' s'.h w' → Q x ⟨⟨t''⟩, d⟩ w') → Code.rounds P c Q (n + 1) ⟨⟨t'⟩, d⟩ w := by
      intro c s s' x e hob r k w0 w t' d Q hl R hQ
      rw [rounds_succ]
      simp only [exec] at e
      split at e
      · rename_i s1 h1
        refine ihA c s s1 .normal h1 (exec_ob n _ s1 s' x e hob) hl R fun r1 w1 t1 he1 hl1 R1 => ?_
        exact ihB c s1 s' x e hob hl1 R1 fun r2 w2 t2 he2 hl2 R2 => hQ r2 w2 t2 (he1.trans he2) hl2 R2
      · rename_i hne
        refine ihA c s s' x e hob hl R fun r1 w1 t1 he1 hl1 R1 => ?_
        have := hQ r1 w1 t1 he1 hl1 R1
        cases x
        case normal => exact absurd e (hne s')
        all_goals exact this
    refine ⟨?_, hB⟩
    intro c s s' x e hob r k w0 w t' d Q hl R hQ
    cases c
    case loop b => exact wp_loop_rounds (n + 1) (hB b s s' x e hob hl R hQ)
    all_goals simp only [exec] at e
    case skip => cases e; exact wp_skip (hQ r w t' (Ext.refl r) hl R)
    case label => cases e; exact wp_label (hQ r w t' (Ext.refl r) hl R)
    case exit => cases e; exact wp_exit (hQ r w t' (Ext.refl r) hl R)
    case ret => cases e; exact wp_ret (hQ r w t' (Ext.refl r) hl R)
    case seq a b =>
      refine wp_seq ?_
      split at e
      · rename_i s1 h1
        refine ihA a s s1 .normal h1 (exec_ob n _ s1 s' x e hob) hl R fun r1 w1 t1 he1 hl1 R1 => ?_
        exact ihA b s1 s' x e hob hl1 R1 fun r2 w2 t2 he2 hl2 R2 => hQ r2 w2 t2 (he1.trans he2) hl2 R2
      · rename_i hne
        refine ihA a s s' x e hob hl R fun r1 w1 t1 he1 hl1 R1 => ?_
        have := hQ r1 w1 t1 he1 hl1 R1
        cases x
        case normal => exact absurd e (hne s')
        all_goals exact this
    case cond c a b =>
      split at e
      · rename_i hcv
        exact wp_cond_true (ev_sound (d := d) hl hcv).bool (ihA a s s' x e hob hl R hQ)
      · rename_i hcv
        exact wp_cond_false (ev_sound (d := d) hl hcv).bool (ihA b s s' x e hob hl R hQ)
      · cases e
    case block id b =>
      refine wp_block ?_
      split at e
      · rename_i j s1 h1
        split at e
        · rename_i hj
          cases e
          refine ihA b s s' _ h1 hob hl R fun r1 w1 t1 he1 hl1 R1 => ?_
          simp only [Exit.inBlock, hj, if_true]
          exact hQ r1 w1 t1 he1 hl1 R1
        · rename_i hj
          cases e
          refine ihA b s s' _ h1 hob hl R fun r1 w1 t1 he1 hl1 R1 => ?_
          simp only [Exit.inBlock, hj, if_false]
          exact hQ r1 w1 t1 he1 hl1 R1
      · rename_i hne
        refine ihA b s s' x e hob hl R fun r1 w1 t1 he1 hl1 R1 => ?_
        have := hQ r1 w1 t1 he1 hl1 R1
        cases x
        case exit j => exact absurd e (hne j s')
        all_goals exact this
    case region id ops draw =>
      split at e
      · rename_i hdr
        cases hr : runOps P Γ ops (List.range ops.size) s <;> simp [hr] at e
        obtain ⟨rfl, rfl⟩ := e
        cases draw
        · exact wp_region (runOps_sound hΓ _ _ _ hr hob hl R hQ)
        · simp at hdr
          exact region_draw_sound hΓ hdr.1 hdr.2 hr hob hl R hQ id
      · cases e
    all_goals cases e
end
end Go.Lift
