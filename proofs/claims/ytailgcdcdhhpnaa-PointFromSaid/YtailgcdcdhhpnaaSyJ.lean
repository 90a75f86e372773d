/- This file proves an operation of the interpreter ('opS'), calls among them, sound. Conditions: those of the interpreter's own tests; the contracts that it uses are sound. -/
import Derived.Test.YtailgcdcdhhpnaaSyI
import Derived.RangeFuncIn
import Derived.RangeFuncRecord
namespace Go.Sy
open Go

/-- The fence that lets in everything, in a round of the loop or in none. -/
def wF (ro : Option Nat) : Fence := { Fence.wide with round := ro }
/-- What a call of function f in world w may be taken to do. -/
def CallOK (P : Program) (f : Fn) (args : Array Value) (w : World) (R : Value → World → Prop) : Prop := match f with
  | .func f => (∃ v w', (callFunc f args).run P w = .ok (.value v) w' ∧ R v w') ∨
    ((callFunc f args).run P w = .ok (.enter f args) w ∧ Calls P f args w fun e w' => ∃ v, e = .returned v ∧ R v w')
  | .yield l => ∃ fn tmps asg body, (Instr.yield l args).run P w = .ok (.round l fn tmps asg body) w ∧ ∀ ro n, RoundIn (wF ro) n P l fn tmps asg body w fun e w' => ∃ v, e = .returned v ∧ R v w'
  | _ => False

theorem CallOK.mono {P : Program} {f : Fn} {args : Array Value} {w : World} {R R' : Value → World → Prop} (h : CallOK P f args w R) (hr : ∀ v w', R v w' → R' v w') : CallOK P f args w R' := by
  cases f with
  | func f =>
    rcases h with ⟨v, w', e, h⟩ | ⟨e, h⟩
    · exact .inl ⟨v, w', e, hr _ _ h⟩
    · refine .inr ⟨e, ?_⟩
      intro cs
      obtain ⟨e, w', fr, ⟨v, he, hv⟩, rest⟩ := h cs
      exact ⟨e, w', fr, ⟨v, he, hr _ _ hv⟩, rest⟩
  | yield l =>
    obtain ⟨fn, tmps, asg, body, h1, h2⟩ := h
    exact ⟨fn, tmps, asg, body, h1, fun ro n => RoundIn.mono (h2 ro n) fun e w' ⟨v, g1, g2⟩ => ⟨v, g1, hr _ _ g2⟩⟩
  | _ => exact h.elim

/-- Contracts of functions as calls. -/
def fnG (g : CallF) : CallFn := fun f vs h j => match f with
  | .func f => g f vs h j
  | _ => none
/-- The calls of G are sound. -/
def GSound (P : Program) (G : CallFn) : Prop :=
  ∀ f vs h j v h' new, G f vs h j = some (v, h', new, true) → ∀ (B : Base) (e : Env) (w : World) (args : List Value), LR e vs args → Rel B e h w → Free h j new.length →
    CallOK P f ⟨args⟩ w fun v' w' => ∃ e', VR e' v v' ∧ Rel B e' (placeH h' j new) w' ∧ EStep e e' none

theorem fenced_wF (P : Program) (ro : Option Nat) (m : Machine) : m.fenced P (wF ro) := by
  intro g _
  exact ⟨fun h => by simp [wF, Fence.wide] at h, .inl trivial, fun _ _ => trivial, fun _ h => by simp [wF, Fence.wide] at h⟩
theorem stepsIn_wF {P : Program} {ro : Option Nat} {m m' : Machine} : StepsIn (Machine.fenced P (wF ro)) P m m' ↔ Steps P m m' :=
  ⟨StepsIn.steps, fun h => (StepsIn.of_steps h).mono fun m _ => fenced_wF P ro m⟩
theorem callsIn_wF {ro : Option Nat} {n : Nat} {P : Program} {f : FuncId} {args : Array Value} {w : World} {R : Ending → World → Prop} : CallsIn (wF ro) n P f args w R ↔ Calls P f args w R := by
  have hc : ∀ {m m' : Machine} {e : Ending}, ComesIn (Machine.fenced P (wF ro)) P m m' e ↔ Comes P m m' e := fun {m m' e} => by
    cases e with
    | returned v => exact stepsIn_wF
    | panicked chain => exact stepsIn_wF
    | outgrown => exact Iff.rfl
  exact ⟨fun h cs => let ⟨e, w', fr, r, s, x⟩ := h.2 cs (fun _ h => by simp [wF, Fence.wide] at h); ⟨e, w', fr, r, hc.1 s, x⟩,
    fun h => ⟨trivial, fun cs _ => let ⟨e, w', fr, r, s, x⟩ := h cs; ⟨e, w', fr, r, hc.2 s, x⟩⟩⟩

/-- The contracts g are sound. -/
def GSoundF (P : Program) (g : CallF) : Prop :=
  ∀ f vs h j v h' new, g f vs h j = some (v, h', new, true) → ∀ (B : Base) (e : Env) (w : World) (args : List Value), LR e vs args → Rel B e h w → Free h j new.length →
    CallOK P (.func f) ⟨args⟩ w fun v' w' => ∃ e', VR e' v v' ∧ Rel B e' (placeH h' j new) w' ∧ EStep e e' none

section
variable {P : Program} {e : Env} {B : Base} {h : List Blk} {w : World}

theorem OpTo.value {j : Nat} {v : SV} {v' : Value} {s : Sem Value} (R : Rel B e h w) (hr : s.run P w = .ok v' w) (hv : VR e v v') : OpTo B e j (.of h (v, true)) ((do pure (.value (← s)) : Sem Next).run P w) :=
  ⟨.value v', w, e, v', by simp [hr], .inl rfl, hv, by show Rel B e (placeH h j []) w; rw [placeH_nil]; exact R, EStep.refl _ _⟩
theorem OpTo.ofVal {j : Nat} {v : SV} {v' : Value} (R : Rel B e h w) (hv : VR e v v') : OpTo B e j (.of h (v, true)) ((pure (.value v') : Sem Next).run P w) :=
  ⟨.value v', w, e, v', rfl, .inl rfl, hv, by show Rel B e (placeH h j []) w; rw [placeH_nil]; exact R, EStep.refl _ _⟩
theorem OpTo.make {j : Nat} {v : SV} {v' : Value} {ps : List SV} {ys : List Value} {el : TypeId} {s : Sem Value} {r : Res} (R : Rel B e h w) (hf : Free h j 1) (hl : PR e ps (ys.take (psize ps))) (hle : psize ps ≤ ys.length)
    (hr : s.run P w = .ok v' (w.alloc (.cells ⟨ys⟩ el))) (hv : VR (putR e j ⟨w.heap.size, 0, ys.length⟩) v v') (h1 : r.v = v) (h2 : r.h = h) (h3 : r.new = [.b ps]) : OpTo B e j r ((do pure (.value (← s)) : Sem Next).run P w) := by
  have hj : j = h.length ∨ h[j]? = some .gap := hf.imp id fun g => by simpa using g 0 (by omega)
  exact ⟨.value v', w.alloc (.cells ⟨ys⟩ el), putR e j ⟨w.heap.size, 0, ys.length⟩, v', (by simp only [Sem.run_bind, hr, Result.andThen_ok, Sem.run_pure]), .inl rfl, (by rw [h1]; exact hv), (by rw [h2, h3]; exact R.make hf hl hle), EStep.of_le (putR_le (R.free hj)) rfl _⟩

theorem parts_sound {t : List (Option SV)} {t' : List Value} {d : List Deferred} (h : TR e t t') : ∀ (ps : List (Nat × Operand)) (vs : List SV), evL t (ps.map (·.2)) = some vs →
    VP e ((ps.map (·.1)).zip vs) (ps.map fun (i, x) => (i, Act.eval ⟨⟨t'⟩, d⟩ x))
  | [], vs, _ => by simp [VP]
  | (i, x) :: ps, vs, g => by
    simp only [List.map_cons, evL] at g
    split at g
    · rename_i v vs' hx hxs
      cases g
      exact ⟨_, _, ev_sound h hx, parts_sound h ps vs' hxs, rfl⟩
    · cases g

theorem map_toArray (ps : Array (Nat × Operand)) (f : Operand → Value) : (ps.map fun (i, x) => (i, f x)) = (ps.toList.map fun (i, x) => (i, f x)).toArray := by
  apply Array.ext'
  simp

theorem okParts_eq {v : SV} (h : (partsOf v).all (fun p => one p || !notInts p) = true) (hn : notInts v = true) : one v = true ∨ ∃ ps, v = .agg ps := by
  by_cases ha : ∃ ps, v = .agg ps
  · exact .inr ha
  · left
    have h1 : partsOf v = [v] := by cases v <;> first | rfl | exact absurd ⟨_, rfl⟩ ha
    rw [h1] at h
    simpa [hn] using h
theorem VR.notInts {v : SV} {v' : Value} (h : VR e v v') : notInts v = true := by cases v <;> first | rfl | exact h.elim

theorem VR.newSlice {j n z len cap size : Nat} {wh : Bool} (h1 : cap * z ≤ size) (h2 : len ≤ cap) : VR (putR e j ⟨n, 0, size⟩) (.sl j 0 0 z len cap true wh) (.slice (some ⟨n, 0, none⟩) len cap) := by
  right
  refine ⟨⟨n, 0, size⟩, cap, 0, putR_self, rfl, fun _ => ?_, Nat.le_refl _, fun _ => rfl, h2, fun _ => ?_⟩
  · simp
  · simpa using h1

/-- What an operation on evaluated operands is to come to. -/
abbrev Ops (P : Program) (B : Base) (e : Env) (w : World) (j : Nat) (r : Res) (s : Sem Value) : Prop := OpTo B e j r ((do pure (.value (← s)) : Sem Next).run P w)

variable {j : Nat} {t : List (Option SV)} {t' : List Value} {d : List Deferred} {r : Res}

theorem op_alloc {el : TypeId} (R : Rel B e h w) (g : (zeroS P el).map (fun ps => (⟨.ptr j 0 0, h, [.b ps], none, true⟩ : Res)) = some r) (hj : Free h j r.new.length) : Ops P B e w j r (Instr.alloc el true (.tuple #[])) := by
  obtain ⟨ps, hz, rfl⟩ := Option.map_eq_some_iff.1 g
  obtain ⟨z, hz1, hz2⟩ := zeroS_sound (e := e) hz
  have hlen := hz2.length
  refine OpTo.make (v := .ptr j 0 0) R hj (ps := ps) (ys := z.cells.toList) (el := el) (by rw [List.take_of_length_le (by omega)]; exact hz2) (by omega) (v' := .pointer (some ⟨w.heap.size, 0, none⟩)) ?_ ⟨_, putR_self, rfl⟩ rfl rfl rfl
  simp [Instr.alloc, zeroOf_run hz1, newVar, newRow, newObj, Sem.run]

theorem op_box {el : TypeId} {x : Operand} (hl : TR e t t') (R : Rel B e h w) (g : (ev t x).map (fun v => (⟨.ptr j 0 0, h, [.b (partsOf v)], none, (partsOf v).all fun p => one p || !notInts p⟩ : Res)) = some r) (hp : r.p = true) (hj : Free h j r.new.length) : Ops P B e w j r (Instr.box el (Act.eval ⟨⟨t'⟩, d⟩ x)) := by
  obtain ⟨v, hx, rfl⟩ := Option.map_eq_some_iff.1 g
  have hv := ev_sound (d := d) hl hx
  have hps := hv.parts (okParts_eq hp hv.notInts)
  have hlen := hps.length
  refine OpTo.make (v := .ptr j 0 0) R hj (ps := partsOf v) (ys := (Act.eval ⟨⟨t'⟩, d⟩ x).cells.toList) (el := el) (by rw [List.take_of_length_le (by omega)]; exact hps) (by omega) (v' := .pointer (some ⟨w.heap.size, 0, none⟩)) ?_ ⟨_, putR_self, rfl⟩ rfl rfl rfl
  simp [Instr.box, newVar, newRow, newObj, Sem.run]

theorem op_buildSlice {ty : TypeId} {len : Nat} {ps : Array (Nat × Operand)} {vs : List SV} (hl : TR e t t') (R : Rel B e h w) (hvs : evL t (ps.toList.map (·.2)) = some vs) (g : (buildSliceS P ty len ((ps.toList.map (·.1)).zip vs)).map (fun q => (⟨.sl j 0 0 q.2.1 len len true true, h, [.b q.1], none, q.2.2⟩ : Res)) = some r) (hp : r.p = true) (hj : Free h j r.new.length) :
    Ops P B e w j r (Instr.buildSlice ty len (ps.map fun (i, x) => (i, Act.eval ⟨⟨t'⟩, d⟩ x))) := by
  obtain ⟨⟨ps', z, q⟩, hb, rfl⟩ := Option.map_eq_some_iff.1 g
  simp only at hp; subst hp
  obtain ⟨el, ys, hr, hpr, hlen, hz⟩ := buildSliceS_sound (w := w) hb (parts_sound (d := d) hl ps.toList vs hvs)
  have hl2 := hpr.length
  rw [map_toArray]
  exact OpTo.make R hj (ps := ps') (ys := ys) (el := el) (by rw [List.take_of_length_le (by omega)]; exact hpr) (by omega) hr (VR.newSlice (Nat.le_of_eq hlen.symm) (Nat.le_refl _)) rfl rfl rfl

theorem op_makeSlice {ty : TypeId} {l c : Operand} {a b : SV} {wh : Bool} (hl : TR e t t') (R : Rel B e h w) (ha : ev t l = some a) (hb : ev t c = some b) (g : (makeSliceS P ty a b).map (fun q => (⟨.sl j 0 0 q.2.1 q.2.2.1 q.2.2.2.1 true wh, h, [.b q.1], none, q.2.2.2.2⟩ : Res)) = some r) (hp : r.p = true) (hj : Free h j r.new.length) :
    Ops P B e w j r (Instr.makeSlice ty (Act.eval ⟨⟨t'⟩, d⟩ l) (Act.eval ⟨⟨t'⟩, d⟩ c)) := by
  obtain ⟨⟨ps', z, n, m, q⟩, hm, rfl⟩ := Option.map_eq_some_iff.1 g
  simp only at hp; subst hp
  obtain ⟨el, ys, hr, hpr, hlen, hz, hnm⟩ := makeSliceS_sound (w := w) hm (ev_sound (d := d) hl ha) (ev_sound (d := d) hl hb)
  have hl2 := hpr.length
  exact OpTo.make R hj (ps := ps') (ys := ys) (el := el) (by rw [List.take_of_length_le (by omega)]; exact hpr) (by omega) hr (VR.newSlice (Nat.le_of_eq hlen.symm) hnm) rfl rfl rfl

theorem op_nilCheck {x : Operand} (hl : TR e t t') (R : Rel B e h w) (g : (match ev t x with
    | some (.ptr b o i) => some (.of h (.ptr b o i, true))
    | some (.rpi k xs i) => some (.of h (.rpi k xs i, true))
    | some (.rpl f z l g e o i) => some (.of h (.rpl f z l g e o i, true))
    | some (.fn (.func f) a b) => some (.of h (.fn (.func f) a b, true))
    | _ => none) = some r) : OpTo B e j r ((match Act.eval ⟨⟨t'⟩, d⟩ x with
    | .pointer none | .nilIface | .nilFunc => runtimePanic .nilDeref
    | .func (.method name) first captured =>
      match (first[0]? : Option Value) with
      | some .nilIface => runtimePanic .nilDeref
      | some (.iface t w) => do
        if (← nilAhead ((← program).types.size + Made.depth) t w name) != some false then
          unsupported (.noEntry "op/nilCheck.the method's receiver behind this interface value is a nil pointer, or cannot be seen to be none, and the arguments act or may panic (ledger 612)")
        pure (.value (.func (.method name) first captured))
      | _ => pure (.value (.func (.method name) first captured))
    | x => pure (.value x) : Sem Next).run P w) := by
  split at g
  · rename_i hx
    cases g
    obtain ⟨p, hp, q⟩ := ev_sound (d := d) hl hx
    rw [q]
    exact OpTo.ofVal R ⟨p, hp, rfl⟩
  · rename_i hx
    cases g
    obtain ⟨n, o', c, tt, fr, q, h1, h2⟩ := ev_sound (d := d) hl hx
    rw [q]
    exact OpTo.ofVal R ⟨n, o', c, tt, fr, rfl, h1, h2⟩
  · rename_i hx
    cases g
    obtain ⟨n, o', c, tt, fr, q, h1, h2, h3⟩ := ev_sound (d := d) hl hx
    rw [q]
    exact OpTo.ofVal R ⟨n, o', c, tt, fr, rfl, h1, h2, h3⟩
  · rename_i hx
    cases g
    obtain ⟨ys, us, h1, h2, q⟩ := ev_sound (d := d) hl hx
    rw [q]
    exact OpTo.ofVal R ⟨ys, us, h1, h2, rfl⟩
  · cases g

theorem op_binOp {op : BinOp} {T : TypeId} {x y : Operand} (hl : TR e t t') (R : Rel B e h w) (g : (match ev t x, ev t y with
    | some (.int k a), some (.int k' b) => (binI op k a k' b).map (.of h)
    | some a, some b => (eqS P op T x y a b).map (.of h)
    | _, _ => none) = some r) (hp : r.p = true) : Ops P B e w j r (do eqGuard op T x y (Act.eval ⟨⟨t'⟩, d⟩ x) (Act.eval ⟨⟨t'⟩, d⟩ y); binOp op T (Act.eval ⟨⟨t'⟩, d⟩ x) (Act.eval ⟨⟨t'⟩, d⟩ y)) := by
  split at g
  · rename_i k1 a k2 b hx hy
    obtain ⟨⟨v, q⟩, hb, rfl⟩ := Option.map_eq_some_iff.1 g
    simp only [Res.of] at hp; subst hp
    have h1 : Act.eval ⟨⟨t'⟩, d⟩ x = .int k1 a := ev_sound (d := d) hl hx
    have h2 : Act.eval ⟨⟨t'⟩, d⟩ y = .int k2 b := ev_sound (d := d) hl hy
    obtain ⟨v', hr, hv⟩ := binI_sound (P := P) (e := e) hb T x y w
    rw [h1, h2]
    exact OpTo.value R hr hv
  · rename_i a b hne hx hy
    obtain ⟨⟨v, q⟩, hb, rfl⟩ := Option.map_eq_some_iff.1 g
    simp only [Res.of] at hp; subst hp
    obtain ⟨v', hr, hv⟩ := eqS_sound (P := P) (w := w) hb (ev_sound (d := d) hl hx) (ev_sound (d := d) hl hy)
    exact OpTo.value R hr hv
  · cases g

theorem op_convert {src dst : TypeId} {x : Operand} (hl : TR e t t') (R : Rel B e h w) (g : convR P h src dst (ev t x) = some r) (hp : r.p = true) : Ops P B e w j r (convert src dst (Act.eval ⟨⟨t'⟩, d⟩ x)) := by
  unfold convR at g
  split at g
  · rename_i xs hx
    split at g
    · rename_i el hd
      split at g
      · rename_i he hs1
        split at g
        · rename_i dd hs
          cases g
          obtain ⟨s, hv, rfl⟩ := ev_sound (d := d) hl hx
          obtain ⟨v', w', e', hr, hv', R', hst⟩ := strBytes_sound (P := P) (s := s) R (src := src) (dst := dst) (by simp [hs]) hd he
          refine ⟨.value v', w', e', v', ?_, .inl rfl, hv', by show Rel B e' (placeH h j []) w'; rw [placeH_nil]; exact R', hst⟩
          rw [hv]
          simp only [Sem.run_bind, hr, Result.andThen_ok, Sem.run_pure]
        · cases g
      · cases g
    · obtain ⟨v, hb, rfl⟩ := Option.map_eq_some_iff.1 g
      obtain ⟨v', hr, hv⟩ := convS_sound (P := P) (w := w) hb (ev_sound (d := d) hl hx)
      exact OpTo.value R hr hv
  · rename_i k1 n hx
    obtain ⟨v, hb, rfl⟩ := Option.map_eq_some_iff.1 g
    obtain ⟨v', hr, hv⟩ := convS_sound (P := P) (w := w) hb (ev_sound (d := d) hl hx)
    exact OpTo.value R hr hv
  · rename_i hx
    split at g
    · rename_i el hs hd
      split at g
      · rename_i he
        cases g
        have hv : Act.eval ⟨⟨t'⟩, d⟩ x = .slice none 0 0 := ev_sound (d := d) hl hx
        rw [hv]
        exact OpTo.value R (run_convert_bytes_nil w src el hs (isInt_eq he) 0 0 dst hd) ⟨ByteArray.empty, rfl, rfl⟩
      · cases g
    · cases g
  · rename_i a hns hni hnn hx
    split at g
    · rename_i el m xs q n hs hd hcc hln
      split at g
      · rename_i he
        cases g
        simp only [Res.of, andT_iff, Bool.and_eq_true, decide_eq_true_eq] at hp
        obtain ⟨⟨rfl, hrow, hlm⟩, hu⟩ := hp
        have hr := bytesStr_sound (P := P) R hs hd he hcc hln hrow (fun s q => hns s (by rw [q])) hlm hu (ev_sound (d := d) hl hx)
        have h2 := OpTo.value (j := j) R hr (show VR e (.str xs) _ from ⟨_, rfl, (strOf_sound hu).symm⟩)
        have h3 : andT (andT true (isRowOK 1 a && decide (xs.length = m))) (u8R xs) = true := by rw [hrow, hu, decide_eq_true hlm]; rfl
        rw [h3]; exact h2
      · cases g
    · cases g
  · cases g

theorem op_toArray {arr : TypeId} {x : Operand} (hl : TR e t t') (R : Rel B e h w) (g : (match P.underlying arr, ev t x with
    | some (.array (n + 1) e), some (.sl b o i 1 len _ _ _) => match isInt P e with
      | some _ => some (Res.of h (.ptr b o i, decide (n + 1 ≤ len)))
      | none => none
    | some (.array (n + 1) e), some (.ro _ k xs) => match isInt P e with
      | some _ => some (.of h (.rpi k xs 0, decide (n + 1 ≤ xs.length)))
      | none => none
    | _, _ => none) = some r) (hp : r.p = true) : Ops P B e w j r (Instr.arrayAt arr (Act.eval ⟨⟨t'⟩, d⟩ x)) := by
  split at g
  · rename_i n el b o i len cap ex wh hu hx
    split at g
    · cases g
      simp only [Res.of, decide_eq_true_eq] at hp
      rcases ev_sound (d := d) hl hx with ⟨h0, _⟩ | ⟨p, cap', a, hp', hv, ha, _, _, hlc, _⟩
      · omega
      · have ha2 := ha (by omega)
        have hn : ¬ len < n + 1 := by omega
        rw [hv]
        have hr : (Instr.arrayAt arr (.slice (some ⟨p.n, a, none⟩) len cap')).run P w = .ok (.pointer (some ⟨p.n, a, none⟩)) w := by
          simp [Instr.arrayAt, run_underlying hu, hn]
        have := OpTo.value (j := j) (v := .ptr b o i) R hr ⟨p, hp', by rw [ha2, Nat.mul_one]⟩
        have hd : decide (n + 1 ≤ len) = true := decide_eq_true hp
        rw [hd]; exact this
    · cases g
  · rename_i n el f k xs hu hx
    split at g
    · cases g
      simp only [Res.of, decide_eq_true_eq] at hp
      rcases ev_sound (d := d) hl hx with ⟨h0, _⟩ | ⟨n', o, cap, c, tt, fr, hv, hz, _, hq, _⟩
      · subst h0; simp at hp
      · have hn : ¬ xs.length < n + 1 := by omega
        rw [hv]
        have hr : (Instr.arrayAt arr (.slice (some ⟨n', o, none⟩) xs.length cap)).run P w = .ok (.pointer (some ⟨n', o, none⟩)) w := by
          simp [Instr.arrayAt, run_underlying hu, hn]
        have := OpTo.value (j := j) (v := .rpi k xs 0) R hr ⟨n', o, c, tt, fr, rfl, hz, hq⟩
        have hd : decide (n + 1 ≤ xs.length) = true := decide_eq_true hp
        rw [hd]; exact this
    · cases g
  · cases g

theorem LR.map_eval (hl : TR e t t') {xs : Array Operand} {vs : List SV} (h : evL t xs.toList = some vs) : LR e vs (xs.map (Act.eval ⟨⟨t'⟩, d⟩)).toList := by
  rw [Array.toList_map]; exact evL_sound hl h

theorem op_builtin {c : Call} {b : Builtin} {o : Oper} {args' : Array Value} (hcal : c.callee = .builtin b) (ha : args' = c.args.map (Act.eval ⟨⟨t'⟩, d⟩)) (ho : o.op = .call c) :
    (execOp (Act.eval ⟨⟨t'⟩, d⟩) o) = builtin b c.argTypes o.type (c.args.map fun | .const _ => true | _ => false) args' := by
  unfold execOp
  rw [ho]
  simp only [resolve, hcal]
  rw [ha]
  rfl

theorem Res.of_eq {q : SV × Bool} (h2 : q.2 = true) : Res.of h q = Res.of h (q.1, true) := by cases q; simp only at h2; subst h2; rfl

theorem opS_sound {G : CallFn} {inp : Tmp → Bool} {k : Nat} {o : Oper} (g : opS P G inp k t h j o = some r) (hp : r.p = true) (hc : ∀ c f, o.op = .call c → c.callee ≠ .value f) (hj : Free h j r.new.length)
    (hk : ∀ i p, B.e.r i = some p → i < k) (hl : TR e t t') (R : Rel B e h w) : OpTo B e j r ((execOp (Act.eval ⟨⟨t'⟩, d⟩) o).run P w) := by
  have isCall : (∃ c, o.op = .call c) ∨ ∀ c, o.op ≠ .call c := by cases o.op <;> simp
  rcases isCall with ⟨c, hop⟩ | hnc
  · -- builtins
    unfold opS at g
    rw [hop] at g
    simp only at g
    split at g
    · rename_i f hcal; exact absurd hcal (hc c f hop)
    · rename_i hcal
      split at g
      · rename_i ty a hty ha
        obtain ⟨v, hb, rfl⟩ := Option.map_eq_some_iff.1 g
        obtain ⟨y, zs, hy, hz, q⟩ := LR.map_eval (d := d) hl ha
        rw [LR] at hz; subst hz
        obtain ⟨v', hr, hv⟩ := lenS_sound (P := P) (w := w) (ty := o.type) hb hy
        have h1 : c.argTypes = #[ty] := Array.ext' hty
        have h2 : #[y] = c.args.map (Act.eval ⟨⟨t'⟩, d⟩) := by apply Array.ext'; exact q.symm
        rw [op_builtin hcal h2 hop, h1]
        exact OpTo.value R hr hv
      · cases g
    · rename_i hcal
      split at g
      · rename_i ty a hty ha
        obtain ⟨v, hb, rfl⟩ := Option.map_eq_some_iff.1 g
        obtain ⟨y, zs, hy, hz, q⟩ := LR.map_eval (d := d) hl ha
        rw [LR] at hz; subst hz
        obtain ⟨v', hr, hv⟩ := capS_sound (P := P) (w := w) (ty := o.type) hb hy
        have h1 : c.argTypes = #[ty] := Array.ext' hty
        have h2 : #[y] = c.args.map (Act.eval ⟨⟨t'⟩, d⟩) := by apply Array.ext'; exact q.symm
        rw [op_builtin hcal h2 hop, h1]
        exact OpTo.value R hr hv
      · cases g
    · rename_i hcal
      split at g
      · rename_i kk a vs ha
        obtain ⟨n, hb, rfl⟩ := Option.map_eq_some_iff.1 g
        obtain ⟨y, zs, hy, hz, q⟩ := LR.map_eval (d := d) hl ha
        rw [VR] at hy; subst hy
        have h2 : (⟨.int kk a :: zs⟩ : Array Value) = c.args.map (Act.eval ⟨⟨t'⟩, d⟩) := by apply Array.ext'; exact q.symm
        rw [op_builtin hcal h2 hop]
        exact OpTo.value (s := Builtin.min_ c.argTypes o.type ⟨.int kk a :: zs⟩) R (minI_sound hb hz) rfl
      · cases g
    · rename_i hcal
      split at g
      · rename_i ty xt a b hty ha
        obtain ⟨y, zs, hy, hz, q⟩ := LR.map_eval (d := d) hl ha
        obtain ⟨y2, zs2, hy2, hz2, q2⟩ := hz
        rw [LR] at hz2; subst hz2 q2
        have h1 : c.argTypes = #[ty, xt] := Array.ext' hty
        have h2 : #[y, y2] = c.args.map (Act.eval ⟨⟨t'⟩, d⟩) := by apply Array.ext'; exact q.symm
        rw [op_builtin hcal h2 hop, h1]
        exact appendS_sound R g hp hj hk hy hy2
      · cases g
    · rename_i hcal
      split at g
      · rename_i ty xt a b hty ha
        obtain ⟨⟨h', v, pp⟩, hb, rfl⟩ := Option.map_eq_some_iff.1 g
        simp only at hp; subst hp
        obtain ⟨y, zs, hy, hz, q⟩ := LR.map_eval (d := d) hl ha
        obtain ⟨y2, zs2, hy2, hz2, q2⟩ := hz
        rw [LR] at hz2; subst hz2 q2
        have h1 : c.argTypes = #[ty, xt] := Array.ext' hty
        have h2 : #[y, y2] = c.args.map (Act.eval ⟨⟨t'⟩, d⟩) := by apply Array.ext'; exact q.symm
        rw [op_builtin hcal h2 hop, h1]
        obtain ⟨v', w', hr, hv, R'⟩ := copyS_sound (P := P) (sT := xt) (ty := o.type) R hb hy hy2
        refine ⟨.value v', w', e, v', ?_, .inl rfl, hv, by rw [placeH_nil]; exact R', EStep.refl _ _⟩
        show ((do pure (.value (← Builtin.copy_ #[ty, xt] o.type #[y, y2])) : Sem Next)).run P w = _
        simp only [Sem.run_bind, hr, Result.andThen_ok, Sem.run_pure]
      · cases g
    · cases g
  unfold opS at g
  unfold execOp
  generalize o.op = op at g hnc ⊢
  cases op <;> simp only at g
  case move x =>
    obtain ⟨v, hx, rfl⟩ := Option.map_eq_some_iff.1 g
    exact OpTo.ofVal R (ev_sound hl hx)
  case assign x =>
    obtain ⟨v, hx, rfl⟩ := Option.map_eq_some_iff.1 g
    exact OpTo.ofVal R (ev_sound hl hx)
  case pick c a b =>
    split at g
    · rename_i hcv
      obtain ⟨v, hx, rfl⟩ := Option.map_eq_some_iff.1 g
      have hb : Act.eval ⟨⟨t'⟩, d⟩ c = .bool true := ev_sound (d := d) hl hcv
      have := OpTo.ofVal (P := P) (j := j) R (ev_sound (d := d) hl hx)
      simpa [hb, asBool] using this
    · rename_i hcv
      obtain ⟨v, hx, rfl⟩ := Option.map_eq_some_iff.1 g
      have hb : Act.eval ⟨⟨t'⟩, d⟩ c = .bool false := ev_sound (d := d) hl hcv
      have := OpTo.ofVal (P := P) (j := j) R (ev_sound (d := d) hl hx)
      simpa [hb, asBool] using this
    · cases g
  case alloc el => exact op_alloc R g hj
  case box el x => exact op_box hl R g hp hj
  case build ty ps =>
    split at g
    · rename_i vs hvs
      obtain ⟨⟨v, q⟩, hb, rfl⟩ := Option.map_eq_some_iff.1 g
      simp only [Res.of] at hp; subst hp
      obtain ⟨v', hr, hv⟩ := buildS_sound (w := w) hb (parts_sound (d := d) hl ps.toList vs hvs)
      exact OpTo.value (s := Instr.build ty (ps.map fun (i, x) => (i, Act.eval ⟨⟨t'⟩, d⟩ x))) R (by rw [map_toArray]; exact hr) hv
    · cases g
  case buildSlice ty len ps =>
    split at g
    · rename_i vs hvs; exact op_buildSlice hl R hvs g hp hj
    · cases g
  case makeSlice ty l c =>
    split at g
    · rename_i a b ha hb; exact op_makeSlice hl R ha hb g hp hj
    · cases g
  case load ty x =>
    split at g
    · rename_i a hx
      obtain ⟨⟨v, q⟩, hb, rfl⟩ := Option.map_eq_some_iff.1 g
      simp only [Res.of] at hp; subst hp
      obtain ⟨ad, v', ha, hr, hv⟩ := loadS_sound (P := P) R hb (ev_sound (d := d) hl hx)
      exact OpTo.value (s := Instr.loadAt ty (Act.eval ⟨⟨t'⟩, d⟩ x)) R (by rw [ha]; simp [Instr.loadAt, Instr.sureAddr, hr]) hv
    · cases g
  case store ty x y =>
    split at g
    · rename_i a v hx hy
      obtain ⟨⟨h', q⟩, hb, rfl⟩ := Option.map_eq_some_iff.1 g
      simp only at hp; subst hp
      obtain ⟨ad, w', ha, hr, R'⟩ := storeS_sound (P := P) R hb (ev_sound (d := d) hl hx) (ev_sound (d := d) hl hy)
      refine ⟨.skip, w', e, undef, ?_, .inr ⟨rfl, rfl⟩, VR.empty, by rw [placeH_nil]; exact R', EStep.refl _ _⟩
      show ((do Instr.storeAt ty (Act.eval ⟨⟨t'⟩, d⟩ x) (Act.eval ⟨⟨t'⟩, d⟩ y); pure .skip : Sem Next)).run P w = _
      rw [ha]
      simp [Instr.storeAt, Instr.sureAddr, hr]
    · cases g
  case nilCheck x => exact op_nilCheck hl R g
  case binOp op T x y T' => exact op_binOp hl R g hp
  case unOp op T x =>
    split at g
    · rename_i a hx
      obtain ⟨v, hb, rfl⟩ := Option.map_eq_some_iff.1 g
      obtain ⟨v', hr, hv⟩ := unS_sound (P := P) (w := w) hb (ev_sound (d := d) hl hx)
      exact OpTo.value R hr hv
    · cases g
  case convert src dst x => exact op_convert hl R g hp
  case sliceToArrayPointer arr x => exact op_toArray hl R g hp
  case makeInterface ty x =>
    split at g
    · cases g
    · rename_i dd v hni hu hx
      split at g
      · rename_i ho
        cases g
        have hr : (Instr.makeInterface ty (Act.eval ⟨⟨t'⟩, d⟩ x)).run P w = .ok (.iface ty (Act.eval ⟨⟨t'⟩, d⟩ x)) w := by
          unfold Instr.makeInterface
          rw [Sem.run_bind, run_underlying hu, Result.andThen_ok]
          cases dd <;> first | exact (hni _ rfl).elim | rfl
        exact OpTo.value R hr ⟨_, ev_sound (d := d) hl hx, rfl⟩
      · cases g
    · cases g
  case makeFunc fn first captured =>
    split at g
    · rename_i a b ha hb
      cases g
      exact OpTo.value R (s := Instr.makeFunc fn (first.map (Act.eval ⟨⟨t'⟩, d⟩)) (captured.map (Act.eval ⟨⟨t'⟩, d⟩))) rfl ⟨_, _, LR.map_eval (d := d) hl ha, LR.map_eval (d := d) hl hb, rfl⟩
    · cases g
  case fieldAddr ty x i =>
    split at g
    · rename_i a hx
      obtain ⟨v, hb, rfl⟩ := Option.map_eq_some_iff.1 g
      obtain ⟨v', hr, hv⟩ := fieldAddrS_sound (P := P) (w := w) hb (ev_sound (d := d) hl hx)
      exact OpTo.value R hr hv
    · cases g
  case field ty x i =>
    split at g
    · rename_i a hx
      obtain ⟨⟨v, q⟩, hb, rfl⟩ := Option.map_eq_some_iff.1 g
      simp only [Res.of] at hp; subst hp
      obtain ⟨v', hr, hv⟩ := fieldS_sound (P := P) (w := w) hb (ev_sound (d := d) hl hx)
      exact OpTo.value R hr hv
    · cases g
  case indexAddr ty x i =>
    split at g
    · rename_i a b hx hi
      obtain ⟨⟨v, q⟩, hb, rfl⟩ := Option.map_eq_some_iff.1 g
      simp only [Res.of] at hp; subst hp
      obtain ⟨v', hr, hv⟩ := indexAddrS_sound (P := P) (w := w) hb (ev_sound (d := d) hl hx) (ev_sound (d := d) hl hi)
      exact OpTo.value R hr hv
    · cases g
  case index ty x i =>
    split at g
    · rename_i a b hx hi
      obtain ⟨⟨v, q⟩, hb, rfl⟩ := Option.map_eq_some_iff.1 g
      simp only [Res.of] at hp; subst hp
      obtain ⟨v', hr, hv⟩ := indexS_sound (P := P) (w := w) hb (ev_sound (d := d) hl hx) (ev_sound (d := d) hl hi)
      exact OpTo.value R hr hv
    · cases g
  case slice ty x lo hi mx =>
    split at g
    · rename_i a l u m hx hlo hhi hmx
      obtain ⟨⟨v, q⟩, hb, rfl⟩ := Option.map_eq_some_iff.1 g
      simp only [Res.of] at hp; subst hp
      obtain ⟨v', hr, hv⟩ := sliceS_sound (P := P) R hb (ev_sound (d := d) hl hx) (evO_sound (d := d) hl hlo) (evO_sound (d := d) hl hhi) (evO_sound (d := d) hl hmx)
      exact OpTo.value R hr hv
    · cases g
  case typeAssert x xT asserted ok =>
    split at g
    · rename_i a hx
      obtain ⟨v, hb, rfl⟩ := Option.map_eq_some_iff.1 g
      obtain ⟨v', hr, hv⟩ := assertS_sound (P := P) (w := w) (xT := xT) hb (ev_sound (d := d) hl hx)
      exact OpTo.value R hr hv
    · cases g
  case extract x i =>
    split at g
    · rename_i vs hx
      obtain ⟨v, hb, rfl⟩ := Option.map_eq_some_iff.1 g
      obtain ⟨ys, hys, q⟩ := ev_sound (d := d) hl hx
      obtain ⟨y, hy, hv⟩ := hys.get hb
      exact OpTo.value (s := Instr.extract (Act.eval ⟨⟨t'⟩, d⟩ x) i) (v' := y) R (by rw [q]; simp [Instr.extract, hy]) hv
    · cases g
  case call c => exact absurd rfl (hnc c)
  all_goals cases g
end
end Go.Sy
