/- This file proves that the operations of a region whose order is drawn may change places. Conditions: those of the interpreter's own tests. -/
import Derived.Test.YtailgcdcdhhpnaaSyK
namespace Go.Sy
open Go

/-- What is said of the blocks h is said of h2. -/
def BLe (h h2 : List Blk) : Prop := ∀ (i : Nat) (ps : List SV), h[i]? = some (.b ps) → h2[i]? = some (.b ps)
theorem BLe.refl (h : List Blk) : BLe h h := fun _ _ h => h
/-- Which calls look at no block, which write none. -/
def PureC (pf : FuncId → Nat) (G : CallFn) : Prop :=
  (∀ f, pf f = 0 → ∀ vs h j v h' new p, G (.func f) vs h j = some (v, h', new, p) → h' = h ∧ ∀ h2, G (.func f) vs h2 j = some (v, h2, new, p)) ∧
  (∀ f, pf f = 1 → ∀ vs h j v h' new p, G (.func f) vs h j = some (v, h', new, p) → h' = h ∧ ∀ h2, BLe h h2 → G (.func f) vs h2 j = some (v, h2, new, p))

section
variable {P : Program}

theorem evL_congr {t t' : List (Option SV)} : ∀ {xs : List Operand}, (∀ x ∈ xs, ev t x = ev t' x) → evL t xs = evL t' xs
  | [], _ => rfl
  | x :: xs, h => by simp only [evL, h x (by simp), evL_congr (xs := xs) fun y hy => h y (by simp [hy])]
theorem evO_congr {t t' : List (Option SV)} {y : Option Operand} (hy : ∀ z, y = some z → ev t z = ev t' z) : evO t y = evO t' y := by
  cases y with
  | none => rfl
  | some z => simp only [evO, hy z rfl]

theorem opS_congr {G : CallFn} {inp : Tmp → Bool} {k j : Nat} {t t' : List (Option SV)} {h : List Blk} (o : Oper) (e : ∀ x ∈ o.op.operands, ev t x = ev t' x) : opS P G inp k t h j o = opS P G inp k t' h j o := by
  unfold opS
  generalize o.op = op at e ⊢
  cases op <;> simp only [Op.operands] at e <;> simp only
  case build ty ps => rw [evL_congr (t := t) (t' := t') (xs := ps.toList.map (·.2)) fun x hx => e x (by simpa using hx)]
  case buildSlice ty len ps => rw [evL_congr (t := t) (t' := t') (xs := ps.toList.map (·.2)) fun x hx => e x (by simpa using hx)]
  case makeSlice ty l c => rw [e l (by simp), e c (by simp)]
  case makeFunc fn a b => rw [evL_congr (t := t) (t' := t') (xs := a.toList) fun x hx => e x (by simp [Array.mem_toList_iff.1 hx]), evL_congr (t := t) (t' := t') (xs := b.toList) fun x hx => e x (by simp [Array.mem_toList_iff.1 hx])]
  case slice ty x lo hi mx =>
    rw [e x (by simp), evO_congr (y := lo) (fun z hz => e z (by subst hz; simp)), evO_congr (y := hi) (fun z hz => e z (by subst hz; simp)), evO_congr (y := mx) (fun z hz => e z (by subst hz; simp))]
  case call c =>
    have h1 := evL_congr (t := t) (t' := t') (xs := c.args.toList) fun x hx => e x (by simp [Call.operands, Array.mem_toList_iff.1 hx])
    have h2 : ∀ f, c.callee = .value f → ev t f = ev t' f := fun f hf => e f (by simp [Call.operands, hf])
    rw [h1]
    cases hcal : c.callee with
    | value f => simp only; rw [h2 f hcal]
    | invoke r m => rfl
    | builtin b => cases b <;> rfl
  case pick c a b => rw [e c (by simp), e a (by simp), e b (by simp)]
  case store ty a v => rw [e a (by simp), e v (by simp)]
  case binOp op T x y T' => rw [e x (by simp), e y (by simp)]
  case indexAddr T x i => rw [e x (by simp), e i (by simp)]
  case index T x i => rw [e x (by simp), e i (by simp)]
  all_goals first
    | rfl
    | (rw [e _ (by simp)])

theorem ev_put {t : List (Option SV)} {d : Option Tmp} {v : SV} {x : Operand} (h : ∀ i, d = some i → x ≠ .tmp i) : ev (putT t d v) x = ev t x := by
  cases d with
  | none => rfl
  | some i =>
    cases x with
    | tmp j =>
      have : i ≠ j := fun q => h i rfl (by rw [q])
      simp [ev, putT, List.getElem?_set_ne this]
    | _ => rfl
theorem wantS_put {ops : Array Oper} {o : Oper} {t : List (Option SV)} {d : Option Tmp} {v : SV} (h : ∀ i, d = some i → i ∉ o.looksAt ops) : wantS ops (putT t d v) o = wantS ops t o := by
  unfold wantS
  cases hg : o.guard with
  | none => rfl
  | some g =>
    obtain ⟨j, b⟩ := g
    simp only []
    cases hd : (ops.toList[j]?).bind (·.dst) with
    | none => rfl
    | some k =>
      simp only []
      cases d with
      | none => rfl
      | some i =>
        have hj : ops[j]? = ops.toList[j]? := by simp
        have : i ≠ k := fun q => h i rfl (by simp only [Oper.looksAt, hg, List.mem_append]; right; rw [hj, hd, q]; simp)
        simp [putT, List.getElem?_set_ne this]
theorem ev_puts {ops : Array Oper} {o : Oper} {t : List (Option SV)} {d : Option Tmp} {v : SV} (hn : ∀ i, d = some i → i ∉ o.looksAt ops) : ∀ x ∈ o.op.operands, ev (putT t d v) x = ev t x := by
  intro x hx
  apply ev_put
  intro i hi q
  subst q
  exact hn i hi (by simp only [Oper.looksAt, List.mem_append, List.mem_filterMap]; exact .inl ⟨_, Array.mem_toList_iff.2 hx, rfl⟩)
theorem addrB_congr {t t' : List (Option SV)} {o : Op} (e : ∀ x ∈ o.operands, ev t x = ev t' x) : addrB t o = addrB t' o := by
  cases o <;> simp only [addrB, Op.operands] at e ⊢ <;> rw [e _ (by simp)]
theorem putT_comm {t : List (Option SV)} {a b : Option Tmp} (u v : SV) (h : ∀ d, a = some d → b ≠ some d) : putT (putT t a u) b v = putT (putT t b v) a u := by
  cases a with
  | none => rfl
  | some i =>
    cases b with
    | none => rfl
    | some j =>
      have : i ≠ j := fun q => h i rfl (by rw [q])
      exact List.set_comm _ _ this

/-! ### What operations of a class do to the blocks -/
theorem opS_pure {Γ : Ctr} {G : CallFn} (hG : PureC Γ.pf G) {inp : Tmp → Bool} {k j : Nat} {t : List (Option SV)} {h : List Blk} {r : Res} {o : Oper} (hc : clsOf P Γ.pf o.op = 0) (e : opS P G inp k t h j o = some r) :
    r.h = h ∧ r.kill = none ∧ ∀ h2, opS P G inp k t h2 j o = some { r with h := h2 } := by
  have ofOK : ∀ {α : Type} {x : Option α} {f : α → SV × Bool}, x.map (fun a => Res.of h (f a)) = some r → r.h = h ∧ r.kill = none ∧ ∀ h2, x.map (fun a => Res.of h2 (f a)) = some { r with h := h2 } := fun {α x f} hx => by
    obtain ⟨a, ha, rfl⟩ := Option.map_eq_some_iff.1 hx
    exact ⟨rfl, rfl, fun h2 => by rw [ha]; rfl⟩
  unfold opS at e ⊢
  generalize o.op = op at e hc ⊢
  cases op <;> simp only [clsOf] at hc <;> simp only at e ⊢
  case load => cases hc
  case store => cases hc
  case slice => cases hc
  case convert src dst x =>
    have hcc : convC P src dst = false := by
      split at hc
      · cases hc
      · assumption
    have hno : ∀ e, P.underlying src = some (.slice e) → P.underlying dst = some .string → False := fun e h1 h2 => by
      unfold convC at hcc
      rw [h1, h2] at hcc
      cases hcc
    generalize ev t x = z at e
    unfold convR at e ⊢
    split at e
    · split at e
      · rename_i hd
        split at e
        · split at e
          · cases e; exact ⟨rfl, rfl, fun h2 => rfl⟩
          · cases e
        · cases e
      · exact ofOK (f := fun v => (v, true)) e
    · exact ofOK (f := fun v => (v, true)) e
    · split at e
      · rename_i h1 h2
        exact (hno _ h1 h2).elim
      · cases e
    · split at e
      · rename_i h1 h2 _ _
        exact (hno _ h1 h2).elim
      · cases e
    · cases e
  case call c =>
    cases hcal : c.callee with
    | invoke rr m => rw [hcal] at e; cases e
    | value f =>
      rw [hcal] at e hc
      simp only at e hc ⊢
      split at e
      · rename_i f' first capt vs hf hvs
        split at e
        case h_2 => cases e
        obtain ⟨⟨v, h', new, q⟩, hg, rfl⟩ := Option.map_eq_some_iff.1 e
        cases f with
        | func g =>
          simp only [ev, Option.some.injEq, SV.fn.injEq] at hf
          obtain ⟨rfl, rfl, rfl⟩ := hf
          simp only at hc
          have h0 : Γ.pf g = 0 := by
            split at hc
            · assumption
            · cases hc
            · cases hc
          obtain ⟨h1, h2⟩ := hG.1 g h0 _ _ _ _ _ _ _ hg
          exact ⟨h1, rfl, fun h3 => by rw [h2 h3]; rfl⟩
        | _ => simp at hc
      · cases e
    | builtin b =>
      rw [hcal] at e hc
      cases b <;> simp only at e hc ⊢
      case len =>
        split at e
        · exact ofOK (f := fun v => (v, true)) e
        · cases e
      case cap =>
        split at e
        · exact ofOK (f := fun v => (v, true)) e
        · cases e
      case min =>
        split at e
        · exact ofOK (f := fun n => (_, true)) e
        · cases e
      all_goals first | cases e | cases hc
  all_goals first
    | (cases e; done)
    | exact ofOK (f := fun v => (v, true)) e
    | exact ofOK (f := fun q => q) e
    | (obtain ⟨a, ha, rfl⟩ := Option.map_eq_some_iff.1 e; exact ⟨rfl, rfl, fun h2 => by rw [ha]; rfl⟩)
    | (split at e <;> first
        | (cases e; done)
        | exact ofOK (f := fun v => (v, true)) e
        | exact ofOK (f := fun q => q) e
        | (cases e; exact ⟨rfl, rfl, fun h2 => rfl⟩)
        | (obtain ⟨a, ha, rfl⟩ := Option.map_eq_some_iff.1 e; exact ⟨rfl, rfl, fun h2 => by rw [ha]; rfl⟩)
        | (split at e <;> first | (cases e; done) | (rename_i hif; cases e; exact ⟨rfl, rfl, fun h2 => by first | rfl | (rw [if_pos hif]; rfl)⟩)))

/-- Reading: only the block at the address matters. -/
theorem opS_load {pf : FuncId → Nat} {G : CallFn} {inp : Tmp → Bool} {k j : Nat} {t : List (Option SV)} {h : List Blk} {r : Res} {o : Oper} (hc : clsOf P pf o.op = 1) (e : opS P G inp k t h j o = some r) :
    r.h = h ∧ r.new = [] ∧ r.kill = none ∧ ∀ h2, (∀ b, addrB t o.op = some b → h2[b]? = h[b]?) → opS P G inp k t h2 j o = some { r with h := h2 } := by
  have ofOK : ∀ {x y : Option (SV × Bool)} {h2 : List Blk}, x.map (Res.of h) = some r → y = x → r.h = h ∧ y.map (Res.of h2) = some { r with h := h2 } := fun {x y h2} hx hy => by
    obtain ⟨a, ha, rfl⟩ := Option.map_eq_some_iff.1 hx
    exact ⟨rfl, by rw [hy, ha]; rfl⟩
  have kn : ∀ {x : Option (SV × Bool)}, x.map (Res.of h) = some r → r.new = [] ∧ r.kill = none := fun {x} hx => by
    obtain ⟨a, _, rfl⟩ := Option.map_eq_some_iff.1 hx
    exact ⟨rfl, rfl⟩
  unfold opS at e ⊢
  generalize o.op = op at e hc ⊢
  cases op <;> simp only [clsOf] at hc <;> simp only [addrB] at e ⊢
  case load ty x =>
    split at e
    · rename_i a hx
      have hh : ∀ h2, (∀ b, (match some a with | some (.ptr b _ _) => some b | _ => none) = some b → h2[b]? = h[b]?) → loadS P ty h2 a = loadS P ty h a := fun h2 hb => by
        cases a with
        | ptr b o i => simp only [loadS]; rw [hb b rfl]
        | _ => rfl
      refine ⟨(ofOK (h2 := h) e rfl).1, (kn e).1, (kn e).2, fun h2 hb => (ofOK e (hh h2 ?_)).2⟩
      rw [hx] at hb; exact hb
    · cases e
  case slice ty x lo hi mx =>
    split at e
    · rename_i a l u m hx hlo hhi hmx
      have hh : ∀ h2, (∀ b, (match some a with | some (.ptr b _ _) => some b | _ => none) = some b → h2[b]? = h[b]?) → sliceS P ty h2 a l u m = sliceS P ty h a l u m := fun h2 hb => by
        unfold sliceS
        split
        · rename_i b o i _
          rw [hb b rfl]
        all_goals rfl
      refine ⟨(ofOK (h2 := h) e rfl).1, (kn e).1, (kn e).2, fun h2 hb => (ofOK e (hh h2 ?_)).2⟩
      rw [hx] at hb; exact hb
    · cases e
  case call c =>
    exfalso
    split at hc
    · split at hc <;> cases hc
    · cases hc
    · cases hc
    · cases hc
    · cases hc
  all_goals first | (cases hc; done) | (split at hc <;> cases hc)

/-- Writing: one block is turned. -/
theorem opS_store {pf : FuncId → Nat} {G : CallFn} {inp : Tmp → Bool} {k j : Nat} {t : List (Option SV)} {h : List Blk} {r : Res} {o : Oper} (hc : clsOf P pf o.op = 2) (e : opS P G inp k t h j o = some r) :
    r.new = [] ∧ r.kill = none ∧ ∃ b ps ps', addrB t o.op = some b ∧ h[b]? = some (.b ps) ∧ r.h = h.set b (.b ps') ∧ ∀ h2, h2[b]? = h[b]? → opS P G inp k t h2 j o = some { r with h := h2.set b (.b ps') } := by
  unfold opS at e ⊢
  generalize o.op = op at e hc ⊢
  cases op <;> simp only [clsOf] at hc <;> simp only [addrB] at e ⊢
  case store ty x y =>
    split at e
    · rename_i a v hx hy
      obtain ⟨⟨h', q⟩, hs, rfl⟩ := Option.map_eq_some_iff.1 e
      refine ⟨rfl, rfl, ?_⟩
      rw [hx]
      cases a with
      | ptr b o i =>
        unfold storeS at hs
        simp only at hs
        cases hb : h[b]? with
        | none => rw [hb] at hs; cases hs
        | some bl =>
          cases bl with
          | g _ => rw [hb] at hs; cases hs
          | b ps =>
            rw [hb] at hs
            simp only at hs
            split at hs
            · rename_i hagg
              split at hs
              · rename_i q' n' hsz
                split at hs
                · rename_i hcd
                  obtain ⟨ps', hp, h3⟩ := Option.map_eq_some_iff.1 hs
                  simp only [Prod.mk.injEq] at h3
                  obtain ⟨rfl, rfl⟩ := h3
                  refine ⟨b, ps, ps', rfl, hb, rfl, fun h2 h2b => ?_⟩
                  have : storeS P ty h2 (.agg q') (.ptr b o 0) = some (h2.set b (.b ps'), true) := by
                    unfold storeS
                    simp only [h2b, hb, hagg, hsz, hcd, if_true, hp, Option.map_some]
                  rw [this]; rfl
                · cases hs
              · cases hs
            · rename_i hagg
              split at hs
              · rename_i hcd
                obtain ⟨q', hp, h3⟩ := Option.map_eq_some_iff.1 hs
                simp only [Prod.mk.injEq] at h3
                obtain ⟨rfl, rfl⟩ := h3
                refine ⟨b, ps, q'.1, rfl, hb, rfl, fun h2 h2b => ?_⟩
                have : storeS P ty h2 v (.ptr b o i) = some (h2.set b (.b q'.1), q'.2) := by
                  unfold storeS
                  simp only [h2b, hb, hagg, hcd, if_true, hp, Option.map_some]
                rw [this]; rfl
              · cases hs
            · cases hs
      | _ => simp [storeS] at hs
    · cases e
  case call c =>
    exfalso
    split at hc
    · split at hc <;> cases hc
    · cases hc
    · cases hc
    · cases hc
    · cases hc
  all_goals first | (cases hc; done) | (split at hc <;> cases hc)

/-- Calls that write no block. -/
theorem opS_read {Γ : Ctr} {G : CallFn} (hG : PureC Γ.pf G) {inp : Tmp → Bool} {k j : Nat} {t : List (Option SV)} {h : List Blk} {r : Res} {o : Oper} (hc : clsOf P Γ.pf o.op = 4) (e : opS P G inp k t h j o = some r) : r.h = h ∧ ∀ h2, BLe h h2 → opS P G inp k t h2 j o = some { r with h := h2 } := by
  unfold opS at e ⊢
  generalize o.op = op at e hc
  cases op <;> simp only [clsOf] at hc <;> simp only at e ⊢
  case call c =>
    cases hcal : c.callee with
    | invoke rr m => rw [hcal] at e; cases e
    | value f =>
      rw [hcal] at e hc
      simp only at e hc ⊢
      split at e
      · rename_i f' first capt vs hf hvs
        split at e
        case h_2 => cases e
        obtain ⟨⟨v, h', new, q⟩, hg, rfl⟩ := Option.map_eq_some_iff.1 e
        cases f with
        | func g =>
          simp only [ev, Option.some.injEq, SV.fn.injEq] at hf
          obtain ⟨rfl, rfl, rfl⟩ := hf
          simp only at hc
          have h0 : Γ.pf g = 1 := by
            split at hc
            · cases hc
            · assumption
            · cases hc
          obtain ⟨h1, h2⟩ := hG.2 g h0 _ _ _ _ _ _ _ hg
          exact ⟨h1, fun h3 hle => by rw [h2 h3 hle]; rfl⟩
        | _ => simp at hc
      · cases e
    | builtin b => rw [hcal] at hc; cases b <;> cases hc
  all_goals first | (cases hc; done) | (split at hc <;> cases hc)

/-! ### Numbers that are kept -/
theorem makes_take_succ (nb : FuncId → Nat) (ops : List Oper) (i : Nat) (o : Oper) (hi : ops[i]? = some o) : makes nb (ops.take (i + 1)) = makes nb (ops.take i) + nmk nb o.op := by
  have : ops.take (i + 1) = ops.take i ++ [o] := by rw [List.take_add_one, hi]; rfl
  simp [makes, this]
theorem makes_mono (nb : FuncId → Nat) (ops : List Oper) {i j : Nat} (h : i ≤ j) : makes nb (ops.take i) ≤ makes nb (ops.take j) := by
  induction j with
  | zero => obtain rfl : i = 0 := by omega
            exact Nat.le_refl _
  | succ j ih =>
    by_cases hij : i = j + 1
    · subst hij; exact Nat.le_refl _
    · have h1 := ih (by omega)
      cases hq : ops[j]? with
      | none =>
        have : ops.take (j + 1) = ops.take j := by rw [List.take_add_one, hq]; simp
        rw [this]; exact h1
      | some o => rw [makes_take_succ nb ops j o hq]; omega
theorem resv_apart {nb : FuncId → Nat} {ops : List Oper} {n i j : Nat} {x : Oper} (hi : ops[i]? = some x) (hij : i < j) : resv nb ops n i + nmk nb x.op ≤ resv nb ops n j := by
  unfold resv
  have h1 := makes_take_succ nb ops i x hi
  have h2 := makes_mono nb ops (i := i + 1) (j := j) hij
  omega
theorem resv_ge {nb : FuncId → Nat} {ops : List Oper} {n i : Nat} : n ≤ resv nb ops n i := Nat.le_add_right _ _

theorem addrOK_iff {nb : FuncId → Nat} {ops : List Oper} {n i : Nat} {m : List Nat} {t : List (Option SV)} {o : Op} (h : addrOK nb ops n m i t o = true) {b : Nat} (hb : addrB t o = some b) :
    b < n ∨ ∃ j x, j < i ∧ (m.getD i 0).testBit j = true ∧ ops[j]? = some x ∧ resv nb ops n j ≤ b ∧ b < resv nb ops n j + nmk nb x.op := by
  unfold addrOK at h
  rw [hb] at h
  simp only [Bool.or_eq_true, List.any_eq_true, List.mem_range, Bool.and_eq_true] at h
  rcases h with h | ⟨j, hj, h1, h2⟩
  · exact .inl (Nat.le_of_ble_eq_true h)
  · split at h2
    · rename_i x hx
      simp only [Bool.and_eq_true] at h2
      exact .inr ⟨j, x, hj, h1, hx, Nat.le_of_ble_eq_true h2.1, Nat.le_of_ble_eq_true h2.2⟩
    · cases h2

theorem gapsAt_iff {h : List Blk} : ∀ {n j : Nat}, gapsAt h j n = true ↔ ∀ i, i < n → h[j + i]? = some .gap
  | 0, j => by simp [gapsAt]
  | n + 1, j => by
    simp only [gapsAt, Bool.and_eq_true, gapsAt_iff (n := n) (j := j + 1)]
    constructor
    · rintro ⟨h1, h2⟩ i hi
      cases i with
      | zero =>
        rw [Nat.add_zero]
        split at h1
        · assumption
        · cases h1
      | succ i => rw [show j + (i + 1) = j + 1 + i by omega]; exact h2 i (by omega)
    · intro hall
      refine ⟨?_, fun i hi => ?_⟩
      · have := hall 0 (by omega); rw [Nat.add_zero] at this; rw [this]
      · have := hall (i + 1) (by omega); rw [show j + (i + 1) = j + 1 + i by omega] at this; exact this

theorem fillH_out {h new : List Blk} {j i : Nat} (hi : i < j ∨ j + new.length ≤ i) : (fillH h j new)[i]? = h[i]? := by
  rw [fillH_get, if_neg (by omega)]
theorem fillH_comm {h a b : List Blk} {i j : Nat} (hd : i + a.length ≤ j ∨ j + b.length ≤ i) : fillH (fillH h i a) j b = fillH (fillH h j b) i a := by
  apply List.ext_getElem?
  intro x
  simp only [fillH_get, fillH_length]
  by_cases h1 : j ≤ x ∧ x < j + b.length ∧ x < h.length
  · rw [if_pos h1, if_neg (by omega), if_pos h1]
  · rw [if_neg h1, if_neg h1]
theorem fillH_set {h a : List Blk} {i b : Nat} {bl : Blk} (hd : b < i ∨ i + a.length ≤ b) : fillH (h.set b bl) i a = (fillH h i a).set b bl := by
  apply List.ext_getElem?
  intro x
  simp only [fillH_get, List.getElem?_set, List.length_set, fillH_length]
  by_cases h1 : b = x
  · subst h1
    rw [if_neg (by omega)]
    simp
  · simp only [h1, if_false]

theorem opD_eq {Γ : Ctr} {G : CallFn} {k n i : Nat} {ops : List Oper} {m : List Nat} {t : List (Option SV)} {h h' : List Blk} {v : SV} {p : Bool} {o : Oper} : opD P Γ G k ops n m i t h o = some (v, h', p) ↔
    addrOK Γ.nb ops n m i t o.op = true ∧ ∃ r, opS P G (fun _ => true) k t h (resv Γ.nb ops n i) o = some r ∧ r.kill = none ∧ r.new.length = nmk Γ.nb o.op ∧ gapsAt h (resv Γ.nb ops n i) (nmk Γ.nb o.op) = true ∧ r.h.length = h.length ∧ v = r.v ∧ h' = fillH r.h (resv Γ.nb ops n i) r.new ∧ p = r.p := by
  unfold opD
  constructor
  · intro g
    split at g
    · rename_i r ha hr
      split at g
      · rename_i hc
        simp only [Bool.and_eq_true, decide_eq_true_eq, Option.isNone_iff_eq_none] at hc
        simp only [Option.some.injEq, Prod.mk.injEq] at g
        obtain ⟨rfl, rfl, rfl⟩ := g
        exact ⟨ha, r, hr, hc.1.1.1, hc.1.1.2, hc.1.2, hc.2, rfl, rfl, rfl⟩
      · cases g
    · cases g
  · rintro ⟨ha, r, hr, h1, h2, h3, h4, rfl, rfl, rfl⟩
    rw [ha, hr]
    simp only
    have : (r.kill.isNone && decide (r.new.length = nmk Γ.nb o.op) && gapsAt h (resv Γ.nb ops n i) (nmk Γ.nb o.op) && decide (r.h.length = h.length)) = true := by
      simp [h1, h2, h3, h4]
    rw [this]

/-- Two operations that may change places. -/
theorem opD_comm {Γ : Ctr} {G : CallFn} (hG : PureC Γ.pf G) {k n i i' : Nat} {ops : List Oper} {m : List Nat} {x y : Oper} (hx : ops[i]? = some x) (hlt : i < i') (hbit : (m.getD i' 0).testBit i = false)
    (hc : clsC (clsOf P Γ.pf x.op) (nmk Γ.nb x.op) (clsOf P Γ.pf y.op) (nmk Γ.nb y.op) = true) {t : List (Option SV)} {h h1 h2 : List Blk} {vx vy : SV} {px py : Bool}
    (e1 : opD P Γ G k ops n m i t h x = some (vx, h1, px)) (e2 : opD P Γ G k ops n m i' t h1 y = some (vy, h2, py)) :
    ∃ h', opD P Γ G k ops n m i' t h y = some (vy, h', py) ∧ opD P Γ G k ops n m i t h' x = some (vx, h2, px) := by
  obtain ⟨ax, rx, ox, kx, nx, gx, lx, rfl, rfl, rfl⟩ := opD_eq.1 e1
  obtain ⟨ay, ry, oy, ky, ny, gy, ly, rfl, rfl, rfl⟩ := opD_eq.1 e2
  have hap := resv_apart (nb := Γ.nb) (n := n) hx hlt
  -- addresses and the numbers that are kept
  have yout : ∀ b, addrB t y.op = some b → b < resv Γ.nb ops n i ∨ resv Γ.nb ops n i + rx.new.length ≤ b := fun b hb => by
    rw [nx]
    rcases addrOK_iff ay hb with h | ⟨j, z, hj, h3, h4, h5, h6⟩
    · have := resv_ge (nb := Γ.nb) (ops := ops) (n := n) (i := i); omega
    · rcases Nat.lt_trichotomy j i with q | q | q
      · have := resv_apart (nb := Γ.nb) (n := n) h4 q; omega
      · subst q; rw [hbit] at h3; cases h3
      · have := resv_apart (nb := Γ.nb) (n := n) hx q; omega
  have xout : ∀ b, addrB t x.op = some b → b < resv Γ.nb ops n i' := fun b hb => by
    rcases addrOK_iff ax hb with h | ⟨j, z, hj, h3, h4, h5, h6⟩
    · have := resv_ge (nb := Γ.nb) (ops := ops) (n := n) (i := i'); omega
    · have := resv_apart (nb := Γ.nb) (n := n) h4 (show j < i' by omega); omega
  unfold clsC at hc
  simp only [Bool.or_eq_true, Bool.and_eq_true, beq_iff_eq] at hc
  by_cases cx : clsOf P Γ.pf x.op = 0
  · obtain ⟨q1, _, qx⟩ := opS_pure hG cx ox
    rw [q1] at oy gy ly
    have gback : gapsAt h (resv Γ.nb ops n i') (nmk Γ.nb y.op) = true := by
      rw [gapsAt_iff] at gy ⊢
      intro a ha
      have := gy a ha
      rwa [fillH_out (by rw [nx]; omega)] at this
    have gfwd : ∀ h' : List Blk, (∀ a, a < resv Γ.nb ops n i' → h'[a]? = h[a]?) → gapsAt h' (resv Γ.nb ops n i) (nmk Γ.nb x.op) = true := fun h' hh => by
      rw [gapsAt_iff] at gx ⊢
      intro a ha
      rw [hh _ (by omega)]; exact gx a ha
    by_cases cy : clsOf P Γ.pf y.op = 0
    · obtain ⟨q2, _, qy⟩ := opS_pure hG cy oy
      refine ⟨fillH h (resv Γ.nb ops n i') ry.new, opD_eq.2 ⟨ay, { ry with h := h }, qy h, ky, ny, gback, rfl, rfl, rfl, rfl⟩, opD_eq.2 ⟨ax, _, qx _, kx, nx, gfwd _ fun a ha => fillH_out (.inl ha), rfl, rfl, ?_, rfl⟩⟩
      rw [q2]
      exact fillH_comm (.inl (by rw [nx]; exact hap))
    · by_cases cy1 : clsOf P Γ.pf y.op = 1
      · obtain ⟨q2, q3, _, qy⟩ := opS_load cy1 oy
        have := qy h fun b hb => (fillH_out (yout b hb)).symm
        refine ⟨h, opD_eq.2 ⟨ay, { ry with h := h }, this, ky, ny, gback, rfl, rfl, by rw [q3]; rfl, rfl⟩, opD_eq.2 ⟨ax, rx, ox, kx, nx, gx, lx, rfl, ?_, rfl⟩⟩
        rw [q2, q3, q1]; rfl
      · by_cases cy2 : clsOf P Γ.pf y.op = 2
        · obtain ⟨q3, _, b, ps, ps', hb, hbp, q2, qy⟩ := opS_store cy2 oy
          have ho := yout b hb
          have := qy h (fillH_out ho).symm
          refine ⟨h.set b (.b ps'), opD_eq.2 ⟨ay, _, this, ky, ny, gback, by simp, rfl, by simp only; rw [q3]; rfl, rfl⟩, opD_eq.2 ⟨ax, _, qx _, kx, nx, ?_, rfl, rfl, ?_, rfl⟩⟩
          · rw [gapsAt_iff] at gx ⊢
            intro a ha
            rw [List.getElem?_set_ne (by rw [nx] at ho; omega)]; exact gx a ha
          · rw [q2, q3]
            simp only [fillH]
            exact (fillH_set ho).symm
        · -- x makes nothing
          have hn0 : nmk Γ.nb x.op = 0 := by omega
          have hnew : rx.new = [] := List.length_eq_zero_iff.1 (by omega)
          rw [hnew] at oy gy ly
          simp only [fillH] at oy gy ly
          refine ⟨_, opD_eq.2 ⟨ay, ry, oy, ky, ny, gback, ly, rfl, rfl, rfl⟩, opD_eq.2 ⟨ax, _, qx _, kx, nx, by rw [hn0]; rfl, rfl, rfl, ?_, rfl⟩⟩
          rw [hnew]; rfl
  · by_cases cy : clsOf P Γ.pf y.op = 0
    · obtain ⟨q2, _, qy⟩ := opS_pure hG cy oy
      by_cases cx1 : clsOf P Γ.pf x.op = 1
      · obtain ⟨q1, q3, _, qx⟩ := opS_load cx1 ox
        rw [q1, q3] at oy gy ly q2
        simp only [fillH] at oy gy ly q2
        refine ⟨_, opD_eq.2 ⟨ay, ry, oy, ky, ny, gy, ly, rfl, rfl, rfl⟩, ?_⟩
        rw [q2]
        have := qx (fillH h (resv Γ.nb ops n i') ry.new) fun b hb => fillH_out (.inl (xout b hb))
        refine opD_eq.2 ⟨ax, _, this, kx, nx, ?_, rfl, rfl, by simp only; rw [q3]; rfl, rfl⟩
        rw [gapsAt_iff] at gx ⊢
        intro a ha
        rw [fillH_out (.inl (by omega))]; exact gx a ha
      · by_cases cx2 : clsOf P Γ.pf x.op = 2
        · obtain ⟨q3, _, b, ps, ps', hb, hbp, q1, qx⟩ := opS_store cx2 ox
          rw [q1, q3] at oy gy ly q2
          simp only [fillH] at oy gy ly q2
          have ho := xout b hb
          refine ⟨_, opD_eq.2 ⟨ay, _, qy h, ky, ny, ?_, rfl, rfl, rfl, rfl⟩, ?_⟩
          · rw [gapsAt_iff] at gy ⊢
            intro a ha
            have := gy a ha
            rwa [List.getElem?_set_ne (by omega)] at this
          · have := qx (fillH h (resv Γ.nb ops n i') ry.new) (fillH_out (.inl ho))
            refine opD_eq.2 ⟨ax, _, this, kx, nx, ?_, by simp, rfl, ?_, rfl⟩
            · rw [gapsAt_iff] at gx ⊢
              intro a ha
              rw [fillH_out (.inl (by omega))]; exact gx a ha
            · simp only; rw [q2, q3]
              simp only [fillH]
              exact fillH_set (.inl ho)
        · by_cases cx4 : clsOf P Γ.pf x.op = 4 ∧ nmk Γ.nb x.op = 0
          · -- x only reads
            obtain ⟨q1, qx⟩ := opS_read hG cx4.1 ox
            have hxn : rx.new = [] := List.length_eq_zero_iff.1 (by omega)
            rw [q1, hxn] at oy gy ly q2
            simp only [fillH] at oy gy ly q2
            have hle : BLe h (fillH h (resv Γ.nb ops n i') ry.new) := fun a ps ha => by
              rw [fillH_get, if_neg]
              · exact ha
              · intro hc'
                have := (gapsAt_iff.1 gy) (a - resv Γ.nb ops n i') (by rw [← ny]; omega)
                rw [show resv Γ.nb ops n i' + (a - resv Γ.nb ops n i') = a by omega, ha] at this
                cases this
            refine ⟨_, opD_eq.2 ⟨ay, ry, oy, ky, ny, gy, ly, rfl, rfl, rfl⟩, ?_⟩
            rw [q2]
            refine opD_eq.2 ⟨ax, _, qx _ hle, kx, nx, by rw [cx4.2]; rfl, rfl, rfl, by simp only; rw [hxn]; rfl, rfl⟩
          -- y makes nothing
          have hn0 : nmk Γ.nb y.op = 0 := by omega
          have hnew : ry.new = [] := List.length_eq_zero_iff.1 (by omega)
          refine ⟨h, opD_eq.2 ⟨ay, _, qy h, ky, ny, by rw [hn0]; rfl, rfl, rfl, by simp only; rw [hnew]; rfl, rfl⟩, opD_eq.2 ⟨ax, rx, ox, kx, nx, gx, lx, rfl, ?_, rfl⟩⟩
          rw [q2, hnew]; rfl
    · -- two that only read
      obtain ⟨⟨hx14, hy14⟩, hnx, hny⟩ : ((clsOf P Γ.pf x.op = 1 ∨ clsOf P Γ.pf x.op = 4) ∧ (clsOf P Γ.pf y.op = 1 ∨ clsOf P Γ.pf y.op = 4)) ∧ nmk Γ.nb x.op = 0 ∧ nmk Γ.nb y.op = 0 := by
        rcases hc with (hc | hc) | hc
        · exact absurd hc.1 cx
        · exact absurd hc.1 cy
        · exact ⟨⟨hc.1.1.1, hc.1.1.2⟩, hc.1.2, hc.2⟩
      have hxn : rx.new = [] := List.length_eq_zero_iff.1 (by omega)
      have hyn : ry.new = [] := List.length_eq_zero_iff.1 (by omega)
      have q1 : rx.h = h := by
        rcases hx14 with c | c
        · exact (opS_load c ox).1
        · exact (opS_read hG c ox).1
      rw [q1, hxn] at oy gy ly
      simp only [fillH] at oy gy ly
      have q2 : ry.h = h := by
        rcases hy14 with c | c
        · exact (opS_load c oy).1
        · exact (opS_read hG c oy).1
      refine ⟨h, opD_eq.2 ⟨ay, ry, oy, ky, ny, gy, ly, rfl, by rw [q2, hyn]; rfl, rfl⟩, opD_eq.2 ⟨ax, rx, ox, kx, nx, gx, lx, rfl, by rw [q2, hyn, q1, hxn]; rfl, rfl⟩⟩
end

theorem mask_bit (acc : List Nat) (j : Nat) : ∀ (es : List Edge) (s : Nat), (es.foldl (fun s e => if Region.binds .any e then s ||| 2 ^ e.on ||| acc.getD e.on 0 else s) s).testBit j = true →
    s.testBit j = true ∨ ∃ e ∈ es, Region.binds .any e = true ∧ (j = e.on ∨ (acc.getD e.on 0).testBit j = true)
  | [], s, h => .inl h
  | e :: es, s, h => by
    simp only [List.foldl_cons] at h
    rcases mask_bit acc j es _ h with h1 | ⟨e', he', hb, h1⟩
    · split at h1
      · rename_i hb
        simp only [Nat.testBit_or, Bool.or_eq_true, Nat.testBit_two_pow, decide_eq_true_eq] at h1
        rcases h1 with (h1 | h1) | h1
        · exact .inl h1
        · exact .inr ⟨e, by simp, hb, .inl h1.symm⟩
        · exact .inr ⟨e, by simp, hb, .inr h1⟩
      · exact .inl h1
    · exact .inr ⟨e', by simp [he'], hb, h1⟩

theorem getD_app {l m : List Nat} {i : Nat} (h : i < l.length) : (l ++ m).getD i 0 = l.getD i 0 := by
  rw [List.getD_eq_getElem?_getD, List.getElem?_append_left h, List.getD_eq_getElem?_getD]

/-- What a set of the masks says. -/
def MaskOK (ops : List Oper) (m : List Nat) : Prop :=
  ∀ (i : Nat) (o : Oper), i < m.length → ops[i]? = some o → ∀ j : Nat, (m.getD i 0).testBit j = true → ∃ e ∈ o.after.toList, Region.binds .any e = true ∧ (j = e.on ∨ (e.on < i ∧ (m.getD e.on 0).testBit j = true))

theorem masks_ok : ∀ (rest done : List Oper) (acc : List Nat), acc.length = done.length → MaskOK (done ++ rest) acc → MaskOK (done ++ rest) (masks rest acc)
  | [], _, acc, _, h => h
  | o :: rest, done, acc, hl, h => by
    have : done ++ o :: rest = (done ++ [o]) ++ rest := by simp
    rw [this]
    apply masks_ok rest (done ++ [o]) (acc ++ [maskOf acc o]) (by simp [hl])
    rw [← this]
    intro i x hi hx j hj
    rcases Nat.lt_or_ge i acc.length with h1 | h1
    · rw [getD_app h1] at hj
      obtain ⟨e, he, hb, h2⟩ := h i x h1 hx j hj
      refine ⟨e, he, hb, h2.imp id fun h3 => ⟨h3.1, ?_⟩⟩
      rw [getD_app (by omega)]; exact h3.2
    · simp at hi
      have hi' : i = acc.length := by omega
      subst hi'
      rw [hl, List.getElem?_append_right (Nat.le_refl _)] at hx
      simp at hx
      subst hx
      simp only [List.getD_eq_getElem?_getD, List.getElem?_append_right (Nat.le_refl _), Nat.sub_self, List.getElem?_cons_zero, Option.getD_some] at hj
      rcases mask_bit acc j _ 0 hj with h2 | ⟨e, he, hb, h2⟩
      · simp at h2
      · refine ⟨e, he, hb, h2.imp id fun h3 => ?_⟩
        have : e.on < acc.length := by
          rcases Nat.lt_or_ge e.on acc.length with h4 | h4
          · exact h4
          · rw [List.getD_eq_getElem?_getD, List.getElem?_eq_none h4] at h3; simp at h3
        exact ⟨this, by rw [getD_app this]; exact h3⟩

/-- The listed operations are closed under what must come before. -/
def Closed (ops : List Oper) (listed : Array Bool) : Prop :=
  ∀ (j : Nat) (o : Oper), ops[j]? = some o → listed.getD j false = true → ∀ e ∈ o.after.toList, Region.binds .any e = true → listed.getD e.on false = true

theorem closed_mask {ops : List Oper} {m : List Nat} (hm : MaskOK ops m) (hlen : m.length = ops.length) {listed : Array Bool} (hc : Closed ops listed) : ∀ (n i : Nat) (o : Oper), i ≤ n → ops[i]? = some o →
    (∀ e ∈ o.after.toList, Region.binds .any e = true → listed.getD e.on false = true) → ∀ j : Nat, (m.getD i 0).testBit j = true → listed.getD j false = true := by
  intro n
  induction n with
  | zero =>
    intro i o hi ho hp j hj
    obtain ⟨e, he, hb, h1⟩ := hm i o (by rw [hlen]; exact (List.getElem?_eq_some_iff.1 ho).1) ho j hj
    rcases h1 with rfl | ⟨h1, _⟩
    · exact hp e he hb
    · omega
  | succ n ih =>
    intro i o hi ho hp j hj
    obtain ⟨e, he, hb, h1⟩ := hm i o (by rw [hlen]; exact (List.getElem?_eq_some_iff.1 ho).1) ho j hj
    rcases h1 with rfl | ⟨h1, h2⟩
    · exact hp e he hb
    · have hlt : e.on < ops.length := by have := (List.getElem?_eq_some_iff.1 ho).1; omega
      have heo := List.getElem?_eq_getElem hlt
      exact ih e.on _ (by omega) heo (hc e.on _ heo (hp e he hb)) j h2

theorem masks_length : ∀ (rest : List Oper) (acc : List Nat), (masks rest acc).length = acc.length + rest.length
  | [], acc => by simp [masks]
  | o :: rest, acc => by rw [masks, masks_length rest]; simp; omega



section
variable {P : Program}

theorem stepD_comm {Γ : Ctr} {G : CallFn} (hG : PureC Γ.pf G) {k n i i' : Nat} {ops : Array Oper} {m : List Nat} {x y : Oper} (hx : ops.toList[i]? = some x) (hlt : i < i') (hbit : (m.getD i' 0).testBit i = false)
    (hc : commB P Γ ops x y = true) {s s1 s2 : St} (e1 : stepD P Γ G k ops n m i x s = some s1) (e2 : stepD P Γ G k ops n m i' y s1 = some s2) :
    ∃ s', stepD P Γ G k ops n m i' y s = some s' ∧ stepD P Γ G k ops n m i x s' = some s2 := by
  unfold commB at hc
  simp only [Bool.and_eq_true] at hc
  obtain ⟨hap, hcl⟩ := hc
  obtain ⟨h1, h2, h3⟩ : (∀ d, x.dst = some d → d ∉ y.looksAt ops) ∧ (∀ d, x.dst = some d → y.dst ≠ some d) ∧ (∀ d, y.dst = some d → d ∉ x.looksAt ops) := by
    unfold Oper.apart at hap
    simp only [Bool.and_eq_true] at hap
    obtain ⟨ha, hb⟩ := hap
    refine ⟨fun d hd => ?_, fun d hd => ?_, fun d hd => ?_⟩
    · rw [hd] at ha; simp at ha; exact ha.1
    · rw [hd] at ha; simp at ha; exact ha.2
    · rw [hd] at hb; simpa using hb
  have dput : ∀ {j : Nat} {t : List (Option SV)} {h : List Blk} {o : Oper} {dd : Option Tmp} {v : SV}, (∀ d, dd = some d → d ∉ o.looksAt ops) → opD P Γ G k ops.toList n m j (putT t dd v) h o = opD P Γ G k ops.toList n m j t h o := fun {j t h o dd v} hn => by
    have he := ev_puts (t := t) (v := v) hn
    unfold opD
    rw [opS_congr o he]
    have : addrOK Γ.nb ops.toList n m j (putT t dd v) o.op = addrOK Γ.nb ops.toList n m j t o.op := by unfold addrOK; rw [addrB_congr he]
    rw [this]
  have hb3 : ∀ a b c b' c' : Bool, andT (andT (andT (andT a b) b') c) c' = andT (andT (andT (andT a c) c') b) b' := by decide
  unfold stepD at e1 e2 ⊢
  split at e1
  · rename_i wx
    split at e1
    · rename_i qx ox
      obtain ⟨vx, hx1, px⟩ := qx
      cases e1
      simp only [wantS_put h1, dput h1] at e2
      split at e2
      · rename_i wy
        split at e2
        · rename_i qy oy
          obtain ⟨vy, hy2, py⟩ := qy
          cases e2
          obtain ⟨h', o1, o2⟩ := opD_comm hG hx hlt hbit hcl ox oy
          simp only [o1]
          refine ⟨_, rfl, ?_⟩
          simp only [wantS_put h3, dput h3, wx, o2]
          rw [putT_comm _ _ h2, hb3 s.ob]
        · cases e2
      · rename_i wy
        cases e2
        try simp only [wy]
        refine ⟨_, rfl, ?_⟩
        simp only [wantS_put h3, dput h3, wx, ox]
        rw [putT_comm _ (.tup []) h2]
      · cases e2
    · cases e1
  · rename_i wx
    cases e1
    simp only [wantS_put h1, dput h1] at e2
    split at e2
    · rename_i wy
      split at e2
      · rename_i qy oy
        cases e2
        try simp only [wy, oy]
        refine ⟨_, rfl, ?_⟩
        simp only [wantS_put h3, wx]
        rw [putT_comm (.tup []) _ h2]
      · cases e2
    · rename_i wy
      cases e2
      try simp only [wy]
      refine ⟨_, rfl, ?_⟩
      simp only [wantS_put h3, wx]
      rw [putT_comm (.tup []) (.tup []) h2]
    · cases e2
  · cases e1

theorem stepD_ob {Γ : Ctr} {G : CallFn} {k n i : Nat} {ops : Array Oper} {m : List Nat} {o : Oper} {s s' : St} (e : stepD P Γ G k ops n m i o s = some s') (h : s'.ob = true) : s.ob = true := by
  unfold stepD at e
  split at e
  · split at e
    · cases e; simp only [andT_iff] at h; exact h.1.1
    · cases e
  · cases e; exact h
  · cases e
theorem runD_ob {Γ : Ctr} {G : CallFn} {k n : Nat} {ops : Array Oper} {m : List Nat} : ∀ (is : List Nat) (s s' : St), runD P Γ G k ops n m is s = some s' → s'.ob = true → s.ob = true
  | [], s, s', e, h => by simp only [runD, Option.some.injEq] at e; subst e; exact h
  | i :: is, s, s', e, h => by
    simp only [runD] at e
    split at e
    · exact runD_ob is s s' e h
    · split at e
      · rename_i s1 h1; exact stepD_ob h1 (runD_ob is s1 s' e h)
      · cases e

theorem runD_first {Γ : Ctr} {G : CallFn} (hG : PureC Γ.pf G) {k n : Nat} {ops : Array Oper} {m : List Nat} {i : Nat} {y : Oper} (hi : ops.toList[i]? = some y) : ∀ (pre post : List Nat) (s s' : St),
    (∀ j ∈ pre, j < i ∧ ∀ x, ops.toList[j]? = some x → (m.getD i 0).testBit j = false ∧ commB P Γ ops x y = true) → runD P Γ G k ops n m (pre ++ i :: post) s = some s' → ∃ s1, stepD P Γ G k ops n m i y s = some s1 ∧ runD P Γ G k ops n m (pre ++ post) s1 = some s'
  | [], post, s, s', _, e => by
    simp only [List.nil_append, runD, hi] at e
    split at e
    · rename_i s1 h1; exact ⟨s1, h1, e⟩
    · cases e
  | j :: pre, post, s, s', hc, e => by
    simp only [List.cons_append, runD] at e
    split at e
    · rename_i hn
      obtain ⟨s1, h1, h2⟩ := runD_first hG hi pre post s s' (fun k hk => hc k (by simp [hk])) e
      exact ⟨s1, h1, by simp only [List.cons_append, runD, hn]; exact h2⟩
    · rename_i x hx
      split at e
      · rename_i s0 h0
        obtain ⟨s1, h1, h2⟩ := runD_first hG hi pre post s0 s' (fun k hk => hc k (by simp [hk])) e
        obtain ⟨hji, hjx⟩ := hc j (by simp)
        obtain ⟨hb, hcm⟩ := hjx x hx
        obtain ⟨s2, h3, h4⟩ := stepD_comm hG hx hji hb hcm h0 h1
        exact ⟨s2, h3, by simp only [List.cons_append, runD, hx, h4]; exact h2⟩
      · cases e

theorem wpOpD_sound {Γ : Ctr} {G : CallFn} (hG : GSound P G) {k n nn : Nat} {ro : Option Nat} {m : List Nat} {ops : Array Oper} {o : Oper} {i : Nat} (hi : ops[i]? = some o) {s s' : St} (g : stepD P Γ G k ops n m i o s = some s') (hob : s'.ob = true)
    {B : Base} {e : Env} {w : World} {t' : List Value} {d : List Deferred} {Q : Exit → Act → World → Prop} {K : Act → World → Prop} (hk : ∀ i p, B.e.r i = some p → i < k) (hl : TR e s.t t') (R : Rel B e s.h w)
    (hK : ∀ e' w' t'', e'.m = e.m → TR e' s'.t t'' → Rel B e' s'.h w' → K ⟨⟨t''⟩, d⟩ w') : wpOpIn (wF ro) nn P ops Q i K ⟨⟨t'⟩, d⟩ w := by
  unfold stepD at g
  unfold wpOpIn
  rw [hi]
  simp only []
  split at g
  · rename_i hw
    rw [if_pos (wantS_sound hl hw)]
    split at g
    · rename_i q hop
      obtain ⟨v, h', p⟩ := q
      obtain ⟨_, r, hr, hkill, hnew, hgap, hlen, rfl, rfl, rfl⟩ := opD_eq.1 hop
      cases g
      simp only [andT_iff] at hob
      refine oper_sound hG hr hob.1.2 (.inr fun a ha => ?_) hk hl R fun e' v' w' hv R' hst => ?_
      · rw [gapsAt_iff] at hgap; exact hgap a (by omega)
      rw [takeS_eq hob.2] at hK
      rw [hkill] at hst
      obtain ⟨t'', q, hl'⟩ := TR.put (d := d) (o := o.dst) (hst.slots hl) hv
      rw [q]
      refine hK e' w' t'' hst.m hl' ?_
      have hpl : placeH r.h (resv Γ.nb ops.toList n i) r.new = fillH r.h (resv Γ.nb ops.toList n i) r.new := by
        unfold placeH
        split
        · rename_i hj
          have : r.new = [] := by
            cases hq : r.new with
            | nil => rfl
            | cons b bs =>
              exfalso
              have hpos : 0 < nmk Γ.nb o.op := by rw [← hnew, hq]; simp
              have := (gapsAt_iff.1 hgap) 0 hpos
              have := (List.getElem?_eq_some_iff.1 this).1
              omega
          rw [this]; simp [fillH]
        · rfl
      rw [hpl] at R'
      exact R'
    · cases g
  · rename_i hw
    cases g
    rw [if_neg (by rw [wantS_sound hl hw]; simp)]
    obtain ⟨t'', q, hl'⟩ := TR.put (d := d) (o := o.dst) hl (VR.empty (e := e))
    rw [q]
    exact ⟨fun _ _ => trivial, hK e w t'' rfl hl' R⟩
  · cases g

theorem wpAny_ops {Γ : Ctr} {G : CallFn} (hG : GSound P G) (hP : PureC Γ.pf G) {k n nn : Nat} {ro : Option Nat} {ops : Array Oper} (hd : drawOK P Γ ops = true) : ∀ (fuel : Nat) (listed : Array Bool) (s s' : St), listed.size = ops.size → Closed ops.toList listed →
    ((List.range ops.size).filter fun i => !listed.getD i true).length = fuel →
    runD P Γ G k ops n (masks ops.toList []) ((List.range ops.size).filter fun i => !listed.getD i true) s = some s' → s'.ob = true →
    ∀ {B : Base} {e : Env} {w : World} {t' : List Value} {d : List Deferred} {Q : Exit → Act → World → Prop}, (∀ i p, B.e.r i = some p → i < k) → TR e s.t t' → Rel B e s.h w →
    (∀ e' w' t'', e'.m = e.m → TR e' s'.t t'' → Rel B e' s'.h w' → Q .normal ⟨⟨t''⟩, d⟩ w') → wpAnyIn (wF ro) nn P .any ops Q fuel listed ⟨⟨t'⟩, d⟩ w := by
  have hd' : ∀ (j : Nat) (y : Oper), ops.toList[j]? = some y → (∀ e ∈ y.after.toList, Region.binds .any e = true → e.on < j) ∧
      ∀ (i : Nat) (x : Oper), i < j → ops.toList[i]? = some x → ((masks ops.toList []).getD j 0).testBit i = true ∨ commB P Γ ops x y = true := by
    intro j y hy
    unfold drawOK at hd
    rw [List.all_eq_true] at hd
    have hmem : (y, j) ∈ ops.toList.zipIdx := by
      rw [List.mk_mem_zipIdx_iff_getElem?]; exact hy
    have h1 := hd _ hmem
    simp only [Bool.and_eq_true, List.all_eq_true, Bool.or_eq_true, Bool.not_eq_true', decide_eq_true_eq] at h1
    refine ⟨fun e he hb => (h1.1 e he).resolve_left (by simp [hb]), fun i x hij hx => ?_⟩
    have h2 : (x, i) ∈ ops.toList.zipIdx.take j := by
      rw [List.mem_iff_getElem?]
      refine ⟨i, ?_⟩
      rw [List.getElem?_take_of_lt hij, List.getElem?_zipIdx, hx]
      simp
    exact h1.2 _ h2
  have hready : ∀ (listed : Array Bool) (i : Nat), i ∈ Region.ready .any ops listed → i ∈ (List.range ops.size).filter fun i => !listed.getD i true := fun listed i hi => by
    obtain ⟨h1, o, ho, _⟩ := mem_ready.1 hi
    rw [List.mem_filter, List.mem_range]
    exact ⟨(Array.getElem?_eq_some_iff.1 ho).1, by simp only [h1, Bool.not_false]⟩
  intro fuel
  induction fuel with
  | zero =>
    intro listed s s' _ _ hlen hr hob B e w t' d Q hk hl R hQ
    have hnil := List.length_eq_zero_iff.1 hlen
    rw [hnil] at hr
    simp only [runD, Option.some.injEq] at hr
    subst hr
    refine ⟨?_, hQ e w t' rfl hl R⟩
    cases hrd : Region.ready .any ops listed with
    | nil => rfl
    | cons i l =>
      have := hready listed i (by rw [hrd]; simp)
      rw [hnil] at this
      cases this
  | succ fuel ih =>
    intro listed s s' hsz hcl hlen hr hob B e w t' d Q hk hl R hQ
    refine ⟨fun hnil => ?_, fun i hi => ?_⟩
    · -- the first that is not listed is ready
      exfalso
      cases hL : (List.range ops.size).filter fun i => !listed.getD i true with
      | nil => rw [hL] at hlen; cases hlen
      | cons i0 l =>
        have hi0 : i0 ∈ (List.range ops.size).filter fun i => !listed.getD i true := by rw [hL]; simp
        rw [List.mem_filter, List.mem_range] at hi0
        have hsorted : ((List.range ops.size).filter fun i => !listed.getD i true).Pairwise (· < ·) := List.Pairwise.filter _ List.pairwise_lt_range
        have hmin : ∀ j, j < i0 → listed.getD j false = true := fun j hj => by
          cases hq : listed.getD j true with
          | true =>
            have hjs : j < listed.size := by rw [hsz]; omega
            simp [hjs] at hq ⊢; exact hq
          | false =>
            have hm : j ∈ (List.range ops.size).filter fun i => !listed.getD i true := by
              rw [List.mem_filter, List.mem_range]; exact ⟨by omega, by simp only [hq, Bool.not_false]⟩
            rw [hL] at hm hsorted
            rcases List.mem_cons.1 hm with rfl | hm
            · omega
            · have := (List.pairwise_cons.1 hsorted).1 j hm; omega
        have ho := Array.getElem?_eq_getElem (xs := ops) hi0.1
        have : i0 ∈ Region.ready .any ops listed := by
          refine mem_ready.2 ⟨by simpa using hi0.2, _, ho, fun e he hb => hmin e.on ?_⟩
          exact (hd' i0 _ (by rw [Array.getElem?_toList]; exact ho)).1 e (by simpa using he) hb
        rw [hnil] at this
        cases this
    · obtain ⟨hun, o, ho, hpre⟩ := mem_ready.1 hi
      have hil := hready listed i hi
      obtain ⟨pre, post, hsplit⟩ := List.append_of_mem hil
      have hsorted : ((List.range ops.size).filter fun i => !listed.getD i true).Pairwise (· < ·) := List.Pairwise.filter _ List.pairwise_lt_range
      rw [hsplit] at hr hsorted
      have hprelt : ∀ j ∈ pre, j < i := fun j hj => (List.pairwise_append.1 hsorted).2.2 j hj i (by simp)
      have hpostgt : ∀ j ∈ post, i < j := fun j hj => (List.pairwise_cons.1 (List.pairwise_append.1 hsorted).2.1).1 j hj
      have hol : ops.toList[i]? = some o := by simpa using ho
      have hmk := masks_ok ops.toList [] [] rfl (fun i o hi => by simp at hi)
      have hml : (masks ops.toList []).length = ops.toList.length := by rw [masks_length]; simp
      have hcomm : ∀ j ∈ pre, j < i ∧ ∀ x, ops.toList[j]? = some x → ((masks ops.toList []).getD i 0).testBit j = false ∧ commB P Γ ops x o = true := fun j hj => ⟨hprelt j hj, fun x hx => by
        have hnb : ((masks ops.toList []).getD i 0).testBit j = false := by
          cases hb : ((masks ops.toList []).getD i 0).testBit j with
          | false => rfl
          | true =>
            exfalso
            have h2 := closed_mask (by simpa using hmk) hml hcl i i o (Nat.le_refl _) hol (fun e he hb => hpre e (by simpa using he) hb) j hb
            have hjm : j ∈ (List.range ops.size).filter fun i => !listed.getD i true := by rw [hsplit]; simp [hj]
            rw [List.mem_filter] at hjm
            have hjs : j < listed.size := by rw [hsz]; exact List.mem_range.1 hjm.1
            have h3 := hjm.2
            simp [hjs] at h2 h3
            rw [h2] at h3
            cases h3
        refine ⟨hnb, ?_⟩
        rcases (hd' i o hol).2 j x (hprelt j hj) hx with h1 | h1
        · rw [hnb] at h1; cases h1
        · exact h1⟩
      obtain ⟨s1, h1, h2⟩ := runD_first (P := P) hP hol pre post s s' hcomm hr
      refine wpOpD_sound hG ho h1 (runD_ob _ _ _ h2 hob) hk hl R fun e' w' t'' hm' hl' R' => ?_
      have hfil : (List.range ops.size).filter (fun j => !(listed.setIfInBounds i true).getD j true) = pre ++ post := by
        have e1 : ∀ j, (listed.setIfInBounds i true).getD j true = (listed.getD j true || decide (j = i)) := fun j => by
          by_cases hij : i = j
          · subst hij
            have his : i < listed.size := by rw [hsz]; exact (Array.getElem?_eq_some_iff.1 ho).1
            simp [his]
          · rw [getD_set_ne true hij]
            have : ¬ j = i := fun q => hij q.symm
            simp [this]
        have e2 : (List.range ops.size).filter (fun j => !(listed.setIfInBounds i true).getD j true) = ((List.range ops.size).filter fun j => !listed.getD j true).filter fun j => decide (j ≠ i) := by
          rw [List.filter_filter]
          apply List.filter_congr
          intro j _
          rw [e1 j]
          by_cases hji : j = i <;> simp [hji]
        rw [e2, hsplit, List.filter_append, List.filter_cons]
        have e3 : pre.filter (fun j => decide (j ≠ i)) = pre := List.filter_eq_self.2 fun j hj => by have := hprelt j hj; simp; omega
        have e4 : post.filter (fun j => decide (j ≠ i)) = post := List.filter_eq_self.2 fun j hj => by have := hpostgt j hj; simp; omega
        rw [e3, e4]
        simp
      refine ih (listed.setIfInBounds i true) s1 s' (by simp [hsz]) ?_ ?_ (by rw [hfil]; exact h2) hob hk hl' R' fun e2 w2 t2 hm2 hl2 R2 => hQ e2 w2 t2 (hm2.trans hm') hl2 R2
      · intro j x hx hlj e hes hb
        by_cases hij : i = j
        · subst hij
          rw [hol] at hx; cases hx
          exact getD_set_true (hpre e (by simpa using hes) hb)
        · rw [getD_set_ne false hij] at hlj
          exact getD_set_true (hcl j x hx hlj e hes hb)
      · rw [hfil]
        rw [hsplit] at hlen
        simp at hlen ⊢
        omega

/-- Numbers kept at the end. -/
theorem Rel.gaps {B : Base} {e : Env} {h : List Blk} {w : World} (R : Rel B e h w) (n : Nat) : Rel B e (h ++ List.replicate n .gap) w :=
  { os := R.os, tape := R.tape, output := R.output, size := R.size, inj := R.inj, dom := fun i p hi => by have := R.dom i p hi; simp; omega, sep := R.sep, zok := R.zok, zfresh := R.zfresh, news := R.news, keepr := R.keepr, keepz := R.keepz, n0 := R.n0, n0le := R.n0le,
    blk := fun i ps hi => by
      rcases Nat.lt_or_ge i h.length with h1 | h1
      · rw [List.getElem?_append_left h1] at hi; exact R.blk i ps hi
      · rw [List.getElem?_append_right h1, List.getElem?_replicate] at hi; split at hi <;> cases hi
    gap := fun i g hi => by
      rcases Nat.lt_or_ge i h.length with h1 | h1
      · rw [List.getElem?_append_left h1] at hi; exact R.gap i g hi
      · refine ⟨?_, ?_⟩
        · cases hq : e.r i with
          | none => rfl
          | some p => have := R.dom i p hq; omega
        · rw [List.getElem?_append_right h1, List.getElem?_replicate] at hi
          split at hi
          · cases hi; trivial
          · cases hi
    yi := R.yi, yb := R.yb, old := R.old, win := R.win, kr := R.kr, kle := by have := R.kle; simp; omega, mks := R.mks, mnd := R.mnd }

/-- A region whose order is drawn. -/
theorem region_draw_sound {Γ : Ctr} {G : CallFn} (hG : GSound P G) (hP : PureC Γ.pf G) {k nn : Nat} {ro : Option Nat} {ops : Array Oper} (hm : P.follows .mixedOrders = true) (hd : drawOK P Γ ops = true) {s s' : St}
    (hr : runD P Γ G k ops s.h.length (masks ops.toList []) (List.range ops.size) ⟨s.t, s.h ++ List.replicate (makes Γ.nb ops.toList) .gap, s.ob⟩ = some s') (hob : s'.ob = true)
    {B : Base} {e : Env} {w : World} {t' : List Value} {d : List Deferred} {Q : Exit → Act → World → Prop} (hk : ∀ i p, B.e.r i = some p → i < k) (hl : TR e s.t t') (R : Rel B e s.h w)
    (hQ : ∀ e' w' t'', e'.m = e.m → TR e' s'.t t'' → Rel B e' s'.h w' → Q .normal ⟨⟨t''⟩, d⟩ w') (id : Nat) : (Code.region id ops true).wpIn (wF ro) nn P Q ⟨⟨t'⟩, d⟩ w := by
  refine wpIn_region_any hm ?_
  have hall : (List.range ops.size).filter (fun i => !(Array.replicate ops.size false).getD i true) = List.range ops.size := List.filter_eq_self.2 fun i hi => by
    rw [List.mem_range] at hi; simp [hi]
  refine wpAny_ops hG hP hd ops.size _ ⟨s.t, s.h ++ List.replicate (makes Γ.nb ops.toList) .gap, s.ob⟩ s' (by simp) ?_ (by rw [hall]; simp) (by rw [hall]; exact hr) hob hk hl ((R.gaps _).drawn _) hQ
  intro j o ho hlj
  rw [show (Array.replicate ops.size false).getD j false = false from by rw [Array.getD_eq_getD_getElem?, Array.getElem?_replicate]; split <;> rfl] at hlj
  cases hlj

theorem runOps_sound {G : CallFn} (hG : GSound P G) {sym : Tmp → Option Bool} {inp : Tmp → Bool} {k n : Nat} {ro : Option Nat} {ops : Array Oper} : ∀ (is : List Nat) (s s' : St), runOps P G sym inp k ops is s = some s' → s'.ob = true →
    ∀ {B : Base} {e : Env} {w : World} {t' : List Value} {d : List Deferred} {Q : Exit → Act → World → Prop}, (∀ i p, B.e.r i = some p → i < k) → TR e s.t t' → Rel B e s.h w →
    (∀ e' w' t'', e'.m = e.m → TR e' s'.t t'' → Rel B e' s'.h w' → Q .normal ⟨⟨t''⟩, d⟩ w') → wpOpsIn (wF ro) n P ops Q is ⟨⟨t'⟩, d⟩ w
  | [], s, s', g, _, B, e, w, t', d, Q, hk, hl, R, hQ => by
    simp only [runOps, Option.some.injEq] at g; subst g
    exact hQ e w t' rfl hl R
  | i :: is, s, s', g, hob, B, e, w, t', d, Q, hk, hl, R, hQ => by
    simp only [runOps] at g
    have hi : ops[i]? = ops.toList[i]? := by simp
    rw [wpOpsIn_cons]
    split at g
    · rename_i hn
      rw [← hi] at hn
      simp only [wpOpIn, hn]
      exact runOps_sound hG is s s' g hob hk hl R hQ
    · rename_i o ho
      rw [← hi] at ho
      split at g
      · rename_i s1 h1
        refine wpOp_sound hG ho h1 (runOps_ob is s1 s' g hob) hk hl R fun e' w' t'' hm hl' R' => ?_
        exact runOps_sound hG is s1 s' g hob hk hl' R' fun e2 w2 t2 hm2 hl2 R2 => hQ e2 w2 t2 (hm2.trans hm) hl2 R2
      · cases g
end
end Go.Sy
