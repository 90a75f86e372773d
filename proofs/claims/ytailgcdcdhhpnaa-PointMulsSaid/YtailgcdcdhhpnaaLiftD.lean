/- This file proves every operation of the interpreter 'exec' but the call sound. Conditions: those of the interpreter's own tests. -/
import Derived.Test.YtailgcdcdhhpnaaLiftC
namespace Go.Lift
open Go

section
variable {P : Program} {r : Nat → Option Pl}

theorem bits_run (op : BinOp) (k : IntKind) (a b : Int) (w : World) (v : Value) (p : Bool) (T : TypeId) (x y : Operand) (h : binS op (.int k a) (.int k b) = some (v, p)) (hp : p = true) (ho : op ≠ .shl) (ho' : op ≠ .shr) :
    (do eqGuard op T x y (.int k a) (.int k b); binOp op T (.int k a) (.int k b) : Sem Value).run P w = .ok v w := by
  have hg : (eqGuard op T x y (.int k a) (.int k b)).run P w = .ok () w := by
    unfold eqGuard; split <;> simp
  rw [Sem.run_bind, hg]
  simp only [Result.andThen]
  cases op <;> simp [binS] at h <;> first | contradiction | skip
  all_goals (try (obtain ⟨rfl, rfl⟩ := h))
  all_goals (try simp at hp)
  all_goals (try simp [binOp, Op.intArith, Op.intBits, Op.intCmp, Op.intDiv, andI, orI, xorI, andNotI, bitsI, hp, -Sem.run_bind])

theorem binS_sound {op : BinOp} {a b a' b' v : Value} {p : Bool} (h : binS op a b = some (v, p)) (hp : p = true) (ha : VR r a a') (hb : VR r b b') (T : TypeId) (x y : Operand) (w : World) :
    (do eqGuard op T x y a' b'; binOp op T a' b' : Sem Value).run P w = .ok v w ∧ VR r v v := by
  have key : ∃ k n k' m, a = .int k n ∧ b = .int k' m := by
    unfold binS at h
    split at h
    · rename_i k n k' m; exact ⟨k, n, k', m, rfl, rfl⟩
    · cases h
  obtain ⟨k, n, k', m, rfl, rfl⟩ := key
  cases ha; cases hb
  by_cases h1 : op = .shl
  · subst h1
    simp only [binS, Option.some.injEq, Prod.mk.injEq] at h
    obtain ⟨rfl, rfl⟩ := h
    simp only [decide_eq_true_eq] at hp
    refine ⟨?_, rfl⟩
    have : ¬ m < 0 := by omega
    simp [eqGuard, binOp, Op.shift, this, shlI]
  by_cases h2 : op = .shr
  · subst h2
    simp only [binS, Option.some.injEq, Prod.mk.injEq] at h
    obtain ⟨rfl, rfl⟩ := h
    simp only [decide_eq_true_eq] at hp
    refine ⟨?_, rfl⟩
    have : ¬ m < 0 := by omega
    simp [eqGuard, binOp, Op.shift, this, shrI]
  have hk : k = k' := by
    by_cases hk : k = k'
    · exact hk
    · cases op <;> simp [binS, hk] at h <;> contradiction
  subst hk
  refine ⟨bits_run op k n m w v p T x y h hp h1 h2, ?_⟩
  cases op <;> simp [binS] at h <;> first | contradiction | (obtain ⟨rfl, _⟩ := h; rfl)

/-! ### '==' on aggregates of integers -/

/-- A value of a type whose cells are integers of one kind. -/
def flatV (P : Program) (t : TypeId) (k : IntKind) (l : List Int) : Value := match aggB P t with
  | some false => .int k (l.getD 0 0)
  | _ => aggI k l

theorem part_flat {e : TypeId} {k : IntKind} {m o : Nat} {l : List Int} (hs : szOf P e = some m) (hk : (P.underlying e).isSome = true) (hm : (aggB P e = some false → m = 1)) (h : o + m ≤ l.length) (w : World) :
    (part e ⟨intsV k l⟩ o).run P w = .ok (flatV P e k ((l.drop o).take m)) w := by
  cases hb : aggB P e with
  | none => simp [aggB] at hb; simp [hb] at hk
  | some b =>
    cases b with
    | true => simp [part, aggB_run hb, szOf_run hs, flatV, hb, aggI, intsV, List.extract_eq_take_drop, List.map_take, List.map_drop]
    | false =>
      have := hm hb
      subst this
      have ho : o < l.length := by omega
      simp [part, aggB_run hb, flatV, hb, intsV, List.getElem?_eq_getElem ho, List.getD]

/-- Element by element. -/
def eqParts (d : Nat) (e : TypeId) (n : Nat) (xs ys : Array Value) : Nat → Nat → Sem Bool
  | 0, _ => pure true
  | c + 1, i => do
    let a ← part e xs (i * n)
    let b ← part e ys (i * n)
    let r ← Op.equalIn d e a b
    if (!r) = true then pure false else eqParts d e n xs ys c (i + 1)

theorem run_equalIn_array (w : World) (d : Nat) (t e : TypeId) (len n : Nat) (xs ys : Array Value) (ht : P.underlying t = some (.array len e)) (hs : szOf P e = some n) :
    (Op.equalIn (d + 1) t (.agg xs) (.agg ys)).run P w = (eqParts d e n xs ys len 0).run P w := by
  simp only [Op.equalIn, Sem.run_bind, run_underlying ht, Result.andThen_ok, szOf_run hs, Std.Legacy.Range.forIn_eq_forIn_range']
  have hz : Std.Legacy.Range.size [:len] = len := by simp [Std.Legacy.Range.size]
  rw [hz]
  clear ht hz
  generalize 0 = i
  induction len generalizing w i with
  | zero => simp [eqParts]
  | succ len ih =>
    simp only [List.range'_succ, List.forIn_cons, eqParts, Sem.run_bind, Sem.run_ite]
    generalize (part e xs (i * n)).run P w = r1
    cases r1 with
    | ok a w1 =>
      simp only [Result.andThen_ok]
      generalize (part e ys (i * n)).run P w1 = r2
      cases r2 with
      | ok b w2 =>
        simp only [Result.andThen_ok]
        generalize (Op.equalIn d e a b).run P w2 = r3
        cases r3 with
        | ok r w3 =>
          cases r
          · simp only [Result.andThen_ok, Bool.not_false, if_true, Sem.run_pure]
          · simp only [Result.andThen_ok, Bool.not_true, Bool.false_eq_true, if_false, Sem.run_pure]
            exact ih w3 (i + 1)
        | halt x w3 => simp [Result.andThen]
      | halt x w2 => simp [Result.andThen]
    | halt x w1 => simp [Result.andThen]

theorem flatK_agg : ∀ {d : Nat} {t : TypeId} {k : IntKind} {n : Nat}, flatK P d t = some (k, n) → (P.underlying t).isSome = true ∧ (aggB P t = some false → n = 1)
  | 0, t, k, n, h => by simp [flatK] at h
  | d + 1, t, k, n, h => by
    unfold flatK at h
    split at h
    · rename_i k' hu; cases h; exact ⟨by simp [hu], fun _ => rfl⟩
    · rename_i hu; exact ⟨by simp [hu], fun hq => by simp [aggB, hu] at hq⟩
    · rename_i hu; exact ⟨by simp [hu], fun hq => by simp [aggB, hu] at hq⟩
    · cases h

theorem decide_split (l m : List Int) (n : Nat) : decide (l = m) = (decide (l.take n = m.take n) && decide (l.drop n = m.drop n)) := by
  rw [Bool.eq_iff_iff]
  simp only [Bool.and_eq_true, decide_eq_true_eq]
  constructor
  · rintro rfl; exact ⟨rfl, rfl⟩
  · rintro ⟨h1, h2⟩; rw [← List.take_append_drop n l, ← List.take_append_drop n m, h1, h2]

/-- What the comparing of a part comes to. -/
def EqAt (P : Program) (d : Nat) (t : TypeId) (k : IntKind) (n : Nat) : Prop :=
  ∀ (d' : Nat), d ≤ d' → ∀ (l m : List Int), l.length = n → m.length = n → ∀ w : World, (Op.equalIn d' t (flatV P t k l) (flatV P t k m)).run P w = .ok (decide (l = m)) w

theorem eqParts_flat {d d' : Nat} {e : TypeId} {k : IntKind} {z : Nat} (hd : d ≤ d') (hs : szOf P e = some z) (hf : flatK P d e = some (k, z)) (ih : EqAt P d e k z) {l m : List Int} (hlm : l.length = m.length) (w : World) : ∀ (c i : Nat), (i + c) * z = l.length →
    (eqParts d' e z ⟨intsV k l⟩ ⟨intsV k m⟩ c i).run P w = .ok (decide (l.drop (i * z) = m.drop (i * z))) w
  | 0, i, h => by
    have h1 : l.drop (i * z) = [] := List.drop_eq_nil_of_le (by simp at h; omega)
    have h2 : m.drop (i * z) = [] := List.drop_eq_nil_of_le (by simp at h; omega)
    simp [eqParts, h1, h2]
  | c + 1, i, h => by
    obtain ⟨hk, hone⟩ := flatK_agg hf
    have hfit : i * z + z ≤ l.length := by
      rw [← h, Nat.add_mul, Nat.add_mul]; omega
    have hsucc : (i + 1) * z = i * z + z := by rw [Nat.add_mul]; omega
    have p1 := part_flat (k := k) hs hk hone hfit w
    have p2 := part_flat (k := k) hs hk hone (l := m) (o := i * z) (by omega) w
    have q := ih d' hd ((l.drop (i * z)).take z) ((m.drop (i * z)).take z) (by simp; omega) (by simp; omega) w
    have hrec := eqParts_flat hd hs hf ih hlm w c (i + 1) (by rw [← h]; congr 1; omega)
    simp only [eqParts, Sem.run_bind, p1, p2, q, Result.andThen_ok, Sem.run_ite, hrec, hsucc]
    rw [decide_split (l.drop (i * z)) (m.drop (i * z)) z, List.drop_drop, List.drop_drop]
    cases decide ((l.drop (i * z)).take z = (m.drop (i * z)).take z) <;> simp

theorem eqFields_flat {d d' : Nat} {k : IntKind} (hd : d ≤ d') (ih : ∀ (t : TypeId) (n : Nat), flatK P d t = some (k, n) → EqAt P d t k n) {l m : List Int} (hlm : l.length = m.length) (w : World) : ∀ (fs : List Field) (a : Nat) (k' : IntKind), flatFs P (fun t => flatK P d t) k a fs = some (k', l.length) →
    k' = k ∧ a ≤ l.length ∧ (Op.eqFields d' ⟨intsV k l⟩ ⟨intsV k m⟩ fs).run P w = .ok (decide (l.drop a = m.drop a)) w
  | [], a, k', h => by
    simp only [flatFs, Option.some.injEq, Prod.mk.injEq] at h
    obtain ⟨rfl, rfl⟩ := h
    refine ⟨rfl, Nat.le_refl _, ?_⟩
    have h1 : l.drop l.length = [] := List.drop_eq_nil_of_le (Nat.le_refl _)
    have h2 : m.drop l.length = [] := List.drop_eq_nil_of_le (by omega)
    simp [Op.eqFields, h1, h2]
  | f :: fs, a, k', h => by
    simp only [flatFs] at h
    split at h
    · rename_i k2 z hf
      split at h
      · rename_i hc
        obtain ⟨rfl, hname, hoff, hs⟩ := hc
        obtain ⟨hkk, hle, hrec⟩ := eqFields_flat hd ih hlm w fs (a + z) k' h
        obtain ⟨hk, hone⟩ := flatK_agg hf
        have p1 := part_flat hs hk hone (l := l) (o := a) (k := k2) (by omega) w
        have p2 := part_flat hs hk hone (l := m) (o := a) (k := k2) (by omega) w
        have q := ih f.type z hf d' hd ((l.drop a).take z) ((m.drop a).take z) (by simp; omega) (by simp; omega) w
        refine ⟨hkk, by omega, ?_⟩
        simp only [Op.eqFields, hname, ne_eq, not_false_eq_true, if_true, hoff, Sem.run_bind, p1, p2, q, Result.andThen_ok, Sem.run_ite, hrec]
        rw [decide_split (l.drop a) (m.drop a) z, List.drop_drop, List.drop_drop]
        cases decide ((l.drop a).take z = (m.drop a).take z) <;> simp
      · cases h
    · cases h

theorem equal_flat : ∀ (d : Nat) (t : TypeId) (k : IntKind) (n : Nat), flatK P d t = some (k, n) → EqAt P d t k n
  | 0, t, k, n, h => by simp [flatK] at h
  | d + 1, t, k, n, h => by
    intro d' hd l m hl hm w
    obtain ⟨d', rfl⟩ : ∃ e, d' = e + 1 := ⟨d' - 1, by omega⟩
    unfold flatK at h
    split at h
    · rename_i k' hu
      cases h
      have hb : aggB P t = some false := by simp [aggB, hu]
      match l, hl, m, hm with
      | [a], _, [b], _ =>
        simp only [flatV, hb, List.getD_cons_zero]
        rw [run_equalIn_int w d' t k k a b hu]
        by_cases hab : a = b <;> simp [hab]
    · rename_i len e hu
      have hb : aggB P t = some true := by simp [aggB, hu]
      split at h
      · rename_i k2 z hf
        split at h
        · rename_i hs
          simp only [Option.some.injEq, Prod.mk.injEq] at h
          obtain ⟨rfl, rfl⟩ := h
          simp only [flatV, hb, aggI]
          rw [run_equalIn_array w d' t e len z _ _ hu hs]
          have := eqParts_flat (d := d) (d' := d') (by omega) hs hf (equal_flat d e k2 z hf) (l := l) (m := m) (by omega) w len 0 (by simp [hl])
          simpa using this
        · cases h
      · cases h
    · rename_i fs hu
      have hb : aggB P t = some true := by simp [aggB, hu]
      split at h
      · cases h
      · rename_i hst
        split at h
        · cases h
        · rename_i f rest hfs
          split at h
          · rename_i k2 z hf
            split at h
            · rename_i hc
              obtain ⟨hname, hoff, hs⟩ := hc
              have hfields : P.fieldsOf t = fs := by simp [Program.fieldsOf, hu]
              have h' : flatFs P (fun t => flatK P d t) k2 0 (f :: rest) = some (k, l.length) := by
                simp only [flatFs, hf, hoff, hs, hname, ne_eq, not_false_eq_true, and_self, if_true, Nat.zero_add]
                rw [h, hl]
              obtain ⟨hk, _, hrun⟩ := eqFields_flat (d := d) (d' := d') (by omega) (fun t n ht => equal_flat d t k2 n ht) (l := l) (m := m) (by omega) w (f :: rest) 0 k h'
              subst hk
              simp only [flatV, hb, aggI]
              rw [run_equalIn_struct w d' t _ _ (by rw [hfields]; exact hu) (by simpa using hst), hfields, hfs, hrun]
              simp
            · cases h
          · cases h
    · cases h

theorem eqS_sound {op : BinOp} {T : TypeId} {a b a' b' v : Value} (h : eqS P op T a b = some v) (ha : VR r a a') (hb : VR r b b') (x y : Operand) (w : World) :
    (do eqGuard op T x y a' b'; binOp op T a' b' : Sem Value).run P w = .ok v w ∧ VR r v v := by
  unfold eqS at h
  split at h
  · rename_i cs ds
    split at h
    · cases h
    · rename_i hg
      split at h
      · rename_i k n hf
        split at h
        · rename_i l m hl hm
          obtain ⟨hcs, hln⟩ := intsN_eq hl
          obtain ⟨hds, hmn⟩ := intsN_eq hm
          rw [lst_eq hln] at hcs
          rw [lst_eq hmn] at hds
          subst hcs hds
          have ea := VR.eq_of_plain _ _ (by simp [plain, plain_ints]) ha
          have eb := VR.eq_of_plain _ _ (by simp [plain, plain_ints]) hb
          subst ea eb
          simp only [Bool.or_eq_true, beq_iff_eq, not_or, Bool.not_eq_true] at hg
          have hguard := run_eqGuard_agg (P := P) w op T x y ⟨intsV k l⟩ ⟨intsV k m⟩ hg.1
          have hq : aggB P T ≠ some false → (Op.equalIn 10000 T (aggI k l) (aggI k m)).run P w = .ok (decide (l = m)) w := fun hne => by
            have := equal_flat 20 T k n hf 10000 (by omega) l m hln hmn w
            have hv : ∀ z : List Int, flatV P T k z = aggI k z := fun z => by
              unfold flatV
              split
              · rename_i h1; exact absurd h1 hne
              · rfl
            rwa [hv, hv] at this
          have hrun := hq hg.2
          simp only [aggI] at hrun
          split at h
          · cases h
            refine ⟨?_, rfl⟩
            rw [Sem.run_bind, hguard, Result.andThen_ok, run_eql_struct, hrun]
            rfl
          · cases h
            refine ⟨?_, rfl⟩
            rw [Sem.run_bind, hguard, Result.andThen_ok, run_neq_struct, hrun]
            rfl
          · cases h
        · cases h
      · cases h
  · rename_i a b
    cases ha; cases hb
    split at h
    · rename_i hu
      have hguard : (eqGuard op T x y (.bool a) (.bool b)).run P w = .ok () w := by unfold eqGuard; split <;> simp
      split at h
      · cases h
        refine ⟨?_, rfl⟩
        rw [Sem.run_bind, hguard, Result.andThen_ok]
        simp [binOp, Op.equal, Op.maxDepth, run_equalIn_bool' w 9999 T a b hu]
      · cases h
        refine ⟨?_, rfl⟩
        rw [Sem.run_bind, hguard, Result.andThen_ok]
        simp [binOp, Op.equal, Op.maxDepth, run_equalIn_bool' w 9999 T a b hu]
      · cases h
    · cases h
  · cases h

theorem foldl_set_LR (o : Nat) : ∀ (l l' : List Value) (i : Nat) (cs cs' : Array Value), LR r l l' → LR r cs.toList cs'.toList →
    LR r ((l.zipIdx i).foldl (fun cs (c, j) => cs.setIfInBounds (o + j) c) cs).toList ((l'.zipIdx i).foldl (fun cs (c, j) => cs.setIfInBounds (o + j) c) cs').toList
  | [], l', i, cs, cs', e, h => by rw [LR] at e; subst e; simpa using h
  | x :: l, _, i, cs, cs', ⟨y, zs, hy, hz, q⟩, h => by
    subst q
    simp only [List.zipIdx_cons, List.foldl_cons]
    exact foldl_set_LR o l zs (i + 1) _ _ hz (by simp only [Array.toList_setIfInBounds]; exact h.set hy)

theorem VR.cellsSize {v v' : Value} (h : VR r v v') : v'.cells.size = v.cells.size := by
  match v, h with
  | .agg ⟨xs⟩, ⟨ys, e, q⟩ => subst q; simpa [Value.cells] using e.length
  | .tuple ⟨xs⟩, ⟨ys, e, q⟩ => subst q; rfl
  | .iface t x, ⟨y, e, q⟩ => subst q; rfl
  | .func f ⟨xs⟩ ⟨zs⟩, ⟨ys, us, e, e', q⟩ => subst q; rfl
  | .pointer (some a), ⟨b, e, q⟩ => subst q; rfl
  | .slice (some a) _ _, ⟨b, e, q⟩ => subst q; rfl
  | .map (some m), ⟨b, e, q⟩ => subst q; rfl
  | .bool _, h => cases h; rfl
  | .int _ _, h => cases h; rfl
  | .float _ _, h => cases h; rfl
  | .complex _ _ _, h => cases h; rfl
  | .string _, h => cases h; rfl
  | .pointer none, h => cases h; rfl
  | .slice none _ _, h => cases h; rfl
  | .map none, h => cases h; rfl
  | .chan _, h => cases h; rfl
  | .nilFunc, h => cases h; rfl
  | .nilIface, h => cases h; rfl
theorem VR.cells2 {v v' : Value} (h : VR r v v') : LR r v.cells.toList v'.cells.toList := by
  have := h.cells
  have e : v.cells.toList = cellsL v := by cases v <;> rfl
  rwa [e]

/-- Parts that fit: the same places, values that fit. -/
def PR (r : Nat → Option Pl) : List (Nat × Value) → List (Nat × Value) → Prop
  | [], ys => ys = []
  | (i, x) :: xs, ys => ∃ y zs, VR r x y ∧ PR r xs zs ∧ ys = (i, y) :: zs

theorem fill_sound (place : Nat → Option (Nat × Nat)) : ∀ (ps ps' : List (Nat × Value)) (cs cs' out : Array Value), PR r ps ps' → LR r cs.toList cs'.toList → Instr.fill place cs ps = some out →
    ∃ out', Instr.fill place cs' ps' = some out' ∧ LR r out.toList out'.toList
  | [], _, cs, cs', out, e, h, q => by
    rw [PR] at e; subst e; simp only [Instr.fill, Option.some.injEq] at q ⊢; subst q; exact ⟨cs', rfl, h⟩
  | (i, x) :: ps, _, cs, cs', out, ⟨y, zs, hy, hz, e⟩, h, q => by
    subst e
    simp only [Instr.fill] at q ⊢
    split at q
    · cases q
    · rename_i o n hpl
      have hsz := hy.cellsSize
      have hcs : cs'.size = cs.size := by have := h.length; simpa using this
      simp only [hsz, hcs]
      split at q
      · cases q
      · rename_i hc
        rw [if_neg hc]
        refine fill_sound place ps zs _ _ out hz ?_ q
        have := foldl_set_LR (r := r) o x.cells.toList y.cells.toList 0 cs cs' hy.cells2 h
        have e : ∀ a c : Array Value, a.zipIdx.foldl (fun cs (x : Value × Nat) => cs.setIfInBounds (o + x.2) x.1) c = (a.toList.zipIdx 0).foldl (fun cs (x : Value × Nat) => cs.setIfInBounds (o + x.2) x.1) c := fun a c => by
          rw [← Array.foldl_toList, Array.toList_zipIdx]
        rw [e, e]
        exact this

theorem buildS_sound {t : TypeId} {ps ps' : List (Nat × Value)} {v : Value} (h : buildS P t ps = some v) (hp : PR r ps ps') (w : World) :
    ∃ v', (Instr.build t ps'.toArray).run P w = .ok v' w ∧ VR r v v' := by
  unfold buildS at h
  split at h
  · cases h
  · rename_i z hz
    split at h
    · rename_i hpl
      cases hb : P.built t ps with
      | none => simp [hb] at h
      | some cells =>
        simp only [hb, Option.map_some, Option.some.injEq] at h
        subst h
        have hzero : ∀ it : TypeInfo, P.info? t = some it → ∀ z', it.zero = some z' → LR r z'.cells.toList z'.cells.toList := fun it hit z' hz' => by
          have : z' = z := by simp [zeroOf, hit, hz'] at hz; exact hz
          subst this
          exact (VR.plain _ hpl).cells2
        have : ∃ cells', P.built t ps' = some cells' ∧ LR r cells.toList cells'.toList := by
          unfold Program.built at hb ⊢
          cases hit : P.info? t with
          | none => simp [hit] at hb
          | some it =>
            cases hu : P.underlying t with
            | none => simp [hit, hu] at hb
            | some d =>
              cases hz' : it.zero with
              | none => cases d <;> simp [hit, hu, hz'] at hb
              | some z' =>
                have hzz := hzero it hit z' hz'
                cases d <;> try (simp [hit, hu] at hb; done)
                case array n e =>
                  cases hie : P.info? e with
                  | none => simp [hit, hu, hz', hie] at hb
                  | some ie =>
                    simp only [hit, hu, hz', hie] at hb ⊢
                    exact fill_sound _ ps ps' _ _ _ hp hzz hb
                case struct fields =>
                  cases hpp : fields.toList.mapM (fun f => (P.info? f.type).map fun i => (f.offset, i.size)) with
                  | none => simp [hit, hu, hz', hpp] at hb
                  | some places =>
                    simp only [hit, hu, hz', hpp] at hb ⊢
                    exact fill_sound _ ps ps' _ _ _ hp hzz hb
        obtain ⟨cells', hc, hl⟩ := this
        exact ⟨.agg cells', run_build w t ps'.toArray cells' (by simpa using hc), cells'.toList, hl, rfl⟩
    · cases h

theorem partS_sound {t : TypeId} {cs ys : List Value} {o : Nat} {v : Value} (h : partS P t cs o = some v) (hl : LR r cs ys) (w : World) :
    ∃ v', (part t ⟨ys⟩ o).run P w = .ok v' w ∧ VR r v v' := by
  unfold partS at h
  split at h
  · rename_i ha
    split at h
    · rename_i n hn
      cases h
      refine ⟨.agg ⟨(ys.drop o).take n⟩, ?_, _, (hl.drop o).take n, rfl⟩
      simp [part, aggB_run ha, szOf_run hn, List.extract_eq_take_drop]
    · cases h
  · rename_i ha
    obtain ⟨y, hy, hv⟩ := hl.get h
    exact ⟨y, by simp [part, aggB_run ha, hy], hv⟩
  · cases h

theorem fieldAddrS_sound {t : TypeId} {i : Nat} {a a' v : Value} (h : fieldAddrS P t i a = some v) (ha : VR r a a') (w : World) :
    ∃ v', (Instr.fieldAt t a' i).run P w = .ok v' w ∧ VR r v v' := by
  unfold fieldAddrS at h
  split at h
  · rename_i b o
    obtain ⟨n, hn, q⟩ := ha
    subst q
    split at h
    · rename_i fs hu
      split at h
      · rename_i f hf
        split at h
        · rename_i m hm
          cases h
          have hf' : fs[i]? = some f := by simpa using hf
          refine ⟨.pointer (some ⟨n.n, n.base + (o + f.offset), none⟩), ?_, n, hn, rfl⟩
          simp [Instr.fieldAt, run_underlying hu, hf', Instr.sureAddr, fieldPlace, szOf_run hm, addr_add, Nat.add_assoc]
        · cases h
      · cases h
    · cases h
  · cases h

theorem fieldS_sound {t : TypeId} {i : Nat} {a a' v : Value} (h : fieldS P t i a = some v) (ha : VR r a a') (w : World) :
    ∃ v', (Instr.field t a' i).run P w = .ok v' w ∧ VR r v v' := by
  unfold fieldS at h
  split at h
  · rename_i cs
    obtain ⟨ys, hl, q⟩ := ha
    subst q
    split at h
    · rename_i fs hu
      split at h
      · rename_i f hf
        have hf' : fs[i]? = some f := by simpa using hf
        obtain ⟨v', hr, hv⟩ := partS_sound h hl w
        exact ⟨v', by simp [Instr.field, run_underlying hu, hf', asAgg, hr], hv⟩
      · cases h
    · cases h
  · cases h

theorem indexAddrS_sound {t : TypeId} {a ix a' ix' v : Value} {p : Bool} (h : indexAddrS P t a ix = some (v, p)) (hp : p = true) (ha : VR r a a') (hi : VR r ix ix') (w : World) :
    ∃ v', (Instr.indexAt t a' ix').run P w = .ok v' w ∧ VR r v v' := by
  unfold indexAddrS at h
  split at h
  · rename_i k i
    cases hi
    split at h
    · rename_i len e b o hu
      obtain ⟨n, hn, q⟩ := ha
      subst q
      split at h
      · rename_i m hm
        simp only [Option.some.injEq, Prod.mk.injEq] at h
        obtain ⟨rfl, rfl⟩ := h
        simp only [Bool.and_eq_true, decide_eq_true_eq] at hp
        refine ⟨.pointer (some ⟨n.n, n.base + (o + i.toNat * m), none⟩), ?_, n, hn, rfl⟩
        simp [Instr.indexAt, asIntOf, run_underlying hu, Instr.sureAddr, szOf_run hm, hp, addr_add, Nat.add_assoc]
      · cases h
    · rename_i e b o len cap hu
      obtain ⟨n, hn, q⟩ := ha
      subst q
      split at h
      · rename_i m hm
        simp only [Option.some.injEq, Prod.mk.injEq] at h
        obtain ⟨rfl, rfl⟩ := h
        simp only [Bool.and_eq_true, decide_eq_true_eq] at hp
        refine ⟨.pointer (some ⟨n.n, n.base + (o + i.toNat * m), none⟩), ?_, n, hn, rfl⟩
        simp [Instr.indexAt, asIntOf, run_underlying hu, szOf_run hm, hp, addr_add, Nat.add_assoc]
      · cases h
    · cases h
  · cases h

theorem indexS_sound {t : TypeId} {a ix a' ix' v : Value} {p : Bool} (h : indexS P t a ix = some (v, p)) (hp : p = true) (ha : VR r a a') (hi : VR r ix ix') (w : World) :
    ∃ v', (Instr.index t a' ix').run P w = .ok v' w ∧ VR r v v' := by
  unfold indexS at h
  split at h
  · rename_i k i cs
    cases hi
    obtain ⟨ys, hl, q⟩ := ha
    subst q
    split at h
    · rename_i len e hu
      split at h
      · rename_i m hm
        cases hpt : partS P e cs (i.toNat * m) with
        | none => simp [hpt] at h
        | some u =>
          simp only [hpt, Option.map_some, Option.some.injEq, Prod.mk.injEq] at h
          obtain ⟨rfl, rfl⟩ := h
          simp only [Bool.and_eq_true, decide_eq_true_eq] at hp
          obtain ⟨v', hr, hv⟩ := partS_sound hpt hl w
          exact ⟨v', by simp [Instr.index, asIntOf, run_underlying hu, szOf_run hm, hp, hr], hv⟩
      · cases h
    · cases h
  · cases h

theorem convS_sound {src dst : TypeId} {a a' v : Value} (h : convS P src dst a = some v) (ha : VR r a a') (w : World) :
    ∃ v', (convert src dst a').run P w = .ok v' w ∧ VR r v v' := by
  unfold convS at h
  split at h
  · rename_i k0 n
    cases ha
    split at h
    · rename_i ds k hs hu
      cases h
      exact ⟨_, by simp [convert, run_underlying hs, run_underlying hu, Conv.intToInt], rfl⟩
    · cases h
  · cases h

theorem unS_sound {op : UnOp} {a a' v : Value} (h : unS op a = some v) (ha : VR r a a') (w : World) :
    ∃ v', (Op.unary op a').run P w = .ok v' w ∧ VR r v v' := by
  unfold unS at h
  split at h
  · cases h; cases ha; exact ⟨_, by simp [Op.unary, Op.intArith], rfl⟩
  · cases h; cases ha; exact ⟨_, by simp [Op.unary, Op.intBits, xorI, bitsI], rfl⟩
  · cases h; cases ha; exact ⟨_, by simp [Op.unary], rfl⟩
  · cases h

theorem bound_sound {d y : Nat} {v : Option Value} {v' : Option Value} {n : Nat} {p : Bool} (h : boundS d y v = some (n, p)) (hp : p = true) (hv : VO r v v') (code : BoundsCode) (w : World) :
    (match v' with | some x => Instr.sliceBound x y code | none => pure d : Sem Nat).run P w = .ok n w := by
  unfold boundS at h
  split at h
  · cases h; cases hv; rfl
  · rename_i k i
    obtain ⟨z, rfl, hz⟩ := hv
    cases hz
    simp only [Option.some.injEq, Prod.mk.injEq] at h
    obtain ⟨rfl, rfl⟩ := h
    simp only [Bool.and_eq_true, decide_eq_true_eq] at hp
    simp [Instr.sliceBound, asIntOf, hp]
  · cases h

theorem bounds_sound {b : Bool} {len cap : Nat} {lo hi lo' hi' : Option Value} {u l : Nat} {p q : Bool} (h1 : boundS len cap hi = some (u, p)) (h2 : boundS 0 u lo = some (l, q)) (hp : (p && q) = true) (hl : VO r lo lo') (hh : VO r hi hi') (w : World) :
    (Instr.sliceBounds b len cap lo' hi' none).run P w = .ok (l, u, cap) w := by
  simp only [Bool.and_eq_true] at hp
  have a1 := bound_sound (P := P) h1 hp.1 hh (if b then .sliceAcap else .sliceAlen) w
  have a2 := bound_sound (P := P) h2 hp.2 hl .sliceB w
  unfold Instr.sliceBounds
  cases hi' <;> cases lo' <;> simp_all [Sem.run_bind]

theorem slOff_add (n b o l m z : Nat) : (if m = l then (⟨n, b + o, none⟩ : Addr) else (⟨n, b + o, none⟩ : Addr).add (l * z)) = ⟨n, b + slOff o l m z, none⟩ := by
  cases l with
  | zero =>
    simp only [slOff, Nat.zero_mul]
    split
    · rfl
    · rw [addr_add, Nat.add_zero]
  | succ l =>
    simp only [slOff]
    split
    · rfl
    · rw [addr_add, Nat.add_assoc]

theorem sliceS_sound {t : TypeId} {x x' v : Value} {lo hi mx lo' hi' mx' : Option Value} {p : Bool} (h : sliceS P t x lo hi mx = some (v, p)) (hp : p = true) (hx : VR r x x') (hl : VO r lo lo') (hh : VO r hi hi') (hm : VO r mx mx') (w : World) :
    ∃ v', (Instr.sliceAt t x' lo' hi' mx').run P w = .ok v' w ∧ VR r v v' := by
  unfold sliceS at h
  split at h
  · cases h
  · cases hm
    split at h
    · rename_i n e b o hu
      obtain ⟨pl, hpl, q⟩ := hx
      subst q
      split at h
      · rename_i z u pu hz hbu
        split at h
        · rename_i l ql hbl
          simp only [Option.some.injEq, Prod.mk.injEq] at h
          obtain ⟨rfl, rfl⟩ := h
          refine ⟨.slice (some ⟨pl.n, pl.base + slOff o l n z, none⟩) (u - l) (n - l), ?_, pl, hpl, rfl⟩
          simp only [Instr.sliceAt, Sem.run_bind, run_underlying hu, Result.andThen_ok, Instr.sureAddr, Sem.run_pure, bounds_sound (P := P) hbu hbl hp hl hh, szOf_run hz]
          rw [← slOff_add]
        · cases h
      · cases h
    · rename_i e b o len cap hu
      obtain ⟨pl, hpl, q⟩ := hx
      subst q
      split at h
      · rename_i z u pu hz hbu
        split at h
        · rename_i l ql hbl
          simp only [Option.some.injEq, Prod.mk.injEq] at h
          obtain ⟨rfl, rfl⟩ := h
          refine ⟨.slice (some ⟨pl.n, pl.base + slOff o l cap z, none⟩) (u - l) (cap - l), ?_, pl, hpl, rfl⟩
          simp only [Instr.sliceAt, Instr.slice, Sem.run_bind, run_underlying hu, Result.andThen_ok, Sem.run_pure, bounds_sound (P := P) hbu hbl hp hl hh, szOf_run hz]
          rw [← slOff_add]
          congr 1
          congr 1
          split <;> rfl
        · cases h
      · cases h
    · cases h

theorem lenS_sound {t ty : TypeId} {x x' v : Value} (h : lenS P t x = some v) (hx : VR r x x') (w : World) : ∃ v', (Builtin.len_ #[t] ty #[x']).run P w = .ok v' w ∧ VR r v v' := by
  unfold lenS at h
  split at h
  · rename_i a n c
    have : ∃ a', x' = .slice a' n c := by
      cases a with
      | none => cases hx; exact ⟨_, rfl⟩
      | some a => obtain ⟨pl, _, q⟩ := hx; exact ⟨_, q⟩
    obtain ⟨a', rfl⟩ := this
    split at h
    · rename_i e hu
      cases h
      exact ⟨_, by simp [Builtin.len_, run_underlying hu, goInt], rfl⟩
    · cases h
  · rename_i cs
    split at h
    · rename_i n e hu
      cases h
      refine ⟨.int .i64 n, ?_, rfl⟩
      cases cs with
      | mk cs =>
        obtain ⟨ys, _, q⟩ := hx
        subst q
        simp [Builtin.len_, run_underlying hu, goInt]
    · cases h
  · cases h

/-- '[]T{..}': the cells of the new block. -/
theorem buildSliceS_sound {t : TypeId} {len : Nat} {ps ps' : List (Nat × Value)} {cs : List Value} {e : TypeId} (h : buildSliceS P t len ps = some (cs, e)) (hp : PR r ps ps') (w : World) :
    ∃ ys, (Instr.buildSlice t len ps'.toArray).run P w = .ok (.slice (some ⟨w.heap.size, 0, none⟩) len len) (w.alloc (.cells ⟨ys⟩ e)) ∧ LR r cs ys := by
  unfold buildSliceS at h
  split at h
  · rename_i e' hu
    split at h
    · rename_i n z hs hz
      split at h
      · rename_i hc
        simp only [Bool.and_eq_true, decide_eq_true_eq] at hc
        obtain ⟨cells, hf, q⟩ := Option.map_eq_some_iff.1 h
        simp only [Prod.mk.injEq] at q
        obtain ⟨rfl, rfl⟩ := q
        have hplain : ∀ v ∈ z.cells.toList, plain v = true := fun v hv => by
          have h1 := (VR.plain (r := r) z hc.1).cells2
          have hz1 : plainL z.cells.toList = true := by
            cases z <;> simp_all [plain, Value.cells, plainL]
          clear h1
          generalize z.cells.toList = l at hv hz1
          induction l with
          | nil => cases hv
          | cons a l ih =>
            simp only [plainL, Bool.and_eq_true] at hz1
            rcases List.mem_cons.1 hv with rfl | hv
            · exact hz1.1
            · exact ih hv hz1.2
        have hpl : ∀ (l : List Nat), plainL (l.map fun i => z.cells[i % z.cells.size]!) = true := fun l => by
          induction l with
          | nil => rfl
          | cons a l ih =>
            simp only [List.map_cons, plainL, Bool.and_eq_true]
            refine ⟨?_, ih⟩
            by_cases h0 : z.cells.size = 0
            · have : z.cells = #[] := by simpa using h0
              simp [this, default, plain, instInhabitedValue.default]
            · have hlt : a % z.cells.size < z.cells.size := Nat.mod_lt _ (by omega)
              rw [getElem!_pos z.cells (a % z.cells.size) hlt]
              exact hplain _ (by simp)
        have hLR : LR r ((Array.range (len * (n + 1))).map fun i => z.cells[i % z.cells.size]!).toList ((Array.range (len * (n + 1))).map fun i => z.cells[i % z.cells.size]!).toList := by
          rw [Array.toList_map]; exact LR.plain _ (hpl _)
        obtain ⟨out, ho, hl⟩ := fill_sound _ ps ps' _ _ _ hp hLR hf
        refine ⟨out.toList, ?_, hl⟩
        have hle : ¬ len * (n + 1) > 2 ^ 24 := by omega
        unfold Instr.buildSlice
        simp only [Sem.run_bind, run_underlying hu, Result.andThen_ok, szOf_run hs, Sem.run_ite, if_neg hle, Sem.run_pure]
        by_cases h0 : len * (n + 1) = 0
        · rw [if_pos h0]
          have : ((Array.range (len * (n + 1))).map fun i => z.cells[i % z.cells.size]!) = ((Array.range (len * (n + 1))).map fun i => (#[] : Array Value)[i % (#[] : Array Value).size]!) := by rw [h0]; simp
          rw [this] at ho
          simp only [ho, newRow, newObj, Sem.run_bind, Sem.run_pure]
          rfl
        · rw [if_neg h0]
          simp only [zeroOf_run hz, Result.andThen_ok, ho, newRow, newObj, Sem.run_bind, Sem.run_pure]
          rfl
      · cases h
    · cases h
  · cases h

theorem makeSliceS_sound {t : TypeId} {a b a' b' : Value} {k : IntKind} {e : TypeId} {n m : Nat} (h : makeSliceS P t a b = some (k, e, n, m, true)) (ha : VR r a a') (hb : VR r b b') (w : World) :
    (Instr.makeSlice t a' b').run P w = .ok (.slice (some ⟨w.heap.size, 0, none⟩) n m) (w.alloc (.cells ⟨intsV k (List.replicate m 0)⟩ e)) := by
  unfold makeSliceS at h
  split at h
  · rename_i k1 l k2 c
    cases ha; cases hb
    split at h
    · rename_i e' hu
      split at h
      · rename_i k' i hu' hi
        split at h
        · rename_i k3 z hz
          split at h
          · rename_i hc
            obtain ⟨hs, rfl, rfl⟩ := hc
            simp only [Option.some.injEq, Prod.mk.injEq, Bool.and_eq_true, beq_iff_eq, decide_eq_true_eq] at h
            obtain ⟨rfl, rfl, rfl, rfl, ⟨hl, hcc⟩, ⟨h0, hlc⟩, hbig⟩ := h
            have t1 : (decide (c < 0) || decide ((i.bytes : Int) * c > 2 ^ 48)) = false := by
              rw [Bool.or_eq_false_iff]; exact ⟨decide_eq_false (by omega), decide_eq_false (by omega)⟩
            have hsz : (sizeOf e').run P w = .ok 1 w := by simp [sizeOf, typeInfo, hi, hs]
            have hzero : ∀ w : World, (zeroValue e').run P w = .ok (.int k3 0) w := fun w => by simp [zeroValue, typeInfo, hi, hz]
            have hrow : ∀ N : Nat, ((Array.range (N * 1)).map fun i => (#[Value.int k3 0] : Array Value)[i % (#[Value.int k3 0] : Array Value).size]!) = ⟨intsV k3 (List.replicate N 0)⟩ := fun N => by
              apply Array.ext'
              rw [Array.toList_map, Nat.mul_one]
              apply List.ext_getElem?
              intro j
              simp only [intsV, List.map_replicate, List.getElem?_replicate, List.getElem?_map, Array.toList_range]
              by_cases hj : j < N
              · rw [List.getElem?_range hj, if_pos hj]
                simp [Nat.mod_one]
              · rw [if_neg hj, List.getElem?_eq_none (by simpa using hj)]; rfl
            unfold Instr.makeSlice
            have hnn : ¬ l > c := by omega
            have hn0 : ¬ l < 0 := by omega
            simp only [Sem.run_bind, run_underlying hu, Result.andThen_ok, asInt, asIntOf, Sem.run_pure, typeInfo, run_program, hi, hl, hcc, t1, hn0, hnn, decide_false, Bool.or_self, Bool.false_eq_true, if_false]
            have hroom : ∀ w : World, (askRoom (c.toNat * i.bytes)).run P w = .ok () w := fun w => by unfold askRoom; split <;> simp [mark, Sem.run]
            rw [hroom]
            simp only [Result.andThen_ok, hsz, Nat.mul_one]
            by_cases hc0 : c.toNat = 0
            · rw [if_pos hc0]
              have hr0 : Array.range 0 = #[] := by simp
              simp [newRow, newObj, Sem.run, hc0, intsV, hr0]
            · rw [if_neg hc0]
              simp only [Sem.run_bind, hzero, Sem.run_pure, Result.andThen_ok, newRow, newObj]
              have := hrow c.toNat
              rw [Nat.mul_one] at this
              simp only [Value.cells, this]
              rfl
          · cases h
        · cases h
      · cases h
    · cases h
  · cases h
end
end Go.Lift
