/- This file holds the texts SxD, SxE, a section each. No conditions beyond those in the theorems. -/
import Derived.Test.YtkcmlclomcidiaaDoorCSxC
set_option linter.all false
section
namespace Go.Sy
open Go
section
variable {P : Program} {ro : Option Nat} {k : Nat}
def resX (r : Option (Exit × St)) : Option (Exit × List (Option SV) × List Blk) := r.map fun q => (q.1, q.2.t, q.2.h)
def obX (r : Option (Exit × St)) : Bool := match r with
  | some q => q.2.ob
  | none => false
def cutR (live : List Nat) (m : Nat) (r : Option (Exit × St)) : Option (Exit × St) := r.bind fun q => (q.2.cut live m).map fun s => (q.1, s)
theorem Tr.cutX {Γ : Ctr} (hΓ : CtrSound P Γ) (n : Nat) (live : List Nat) (m : Nat) (hm : k ≤ m) {c : Code} {s s' : St} {x : Exit} (ob : Bool) (e : resX (cutR live m (Sy.exec P Γ n k c s)) = some (x, s'.t, s'.h)) (hob : obX (cutR live m (Sy.exec P Γ n k c s)) = ob) (h : ob = true) : Tr P ro k c s x s' := by
  unfold resX cutR at e
  unfold obX cutR at hob
  cases hr : (Sy.exec P Γ n k c s).bind fun q => (q.2.cut live m).map fun s => (q.1, s) with
  | none => rw [hr] at e; cases e
  | some q =>
    obtain ⟨y, s1⟩ := q
    rw [hr] at e hob
    simp only [Option.map_some, Option.some.injEq, Prod.mk.injEq] at e
    obtain ⟨rfl, h1, h2⟩ := e
    exact Tr.post (Tr.cut hΓ n live m hm hr (hob.trans h)) (Ent.same h1 h2)
theorem TrL.itemsX {Γ : Ctr} (hΓ : CtrSound P Γ) (n m : Nat) (live : List Nat) (j : Nat) (hj : k ≤ j) {l : List Code} {s s1 s' : St} {x : Exit} (ob : Bool) (e : resX (cutR live j ((execL P Γ n k m l s).map fun s => (Exit.normal, s))) = some (.normal, s1.t, s1.h))
    (hob : obX (cutR live j ((execL P Γ n k m l s).map fun s => (Exit.normal, s))) = ob) (h : ob = true) (hl : m < l.length) (hs : s1.ob = true) (g : TrL P ro k (l.drop m) s1 x s') : TrL P ro k l s x s' := by
  unfold resX cutR at e
  unfold obX cutR at hob
  cases hr : execL P Γ n k m l s with
  | none => rw [hr] at e; cases e
  | some q =>
    rw [hr] at e hob
    simp only [Option.map_some, Option.bind_some] at e hob
    cases hc : q.cut live j with
    | none => rw [hc] at e; cases e
    | some q2 =>
      rw [hc] at e hob
      simp only [Option.map_some, Option.some.injEq, Prod.mk.injEq, true_and] at e hob
      obtain ⟨h1, h2⟩ := e
      have : q2 = s1 := by
        obtain ⟨t, b, o⟩ := q2
        obtain ⟨t1, b1, o1⟩ := s1
        simp only at h1 h2 hs hob
        subst h1 h2 hs hob h
        rfl
      subst this
      exact TrL.items hΓ n m live j hj (by rw [hr]; exact hc) hs hl g
def firstN (b : Nat → Bool) (N : Nat) : Option Nat := (List.range N).find? fun i => !b i
theorem firstN_none {b : Nat → Bool} {N : Nat} (h : firstN b N = none) : ∀ i, i < N → b i = true := fun i hi => by
  have := List.find?_eq_none.1 h i (List.mem_range.2 hi)
  simpa using this
theorem find_range {b : Nat → Bool} : ∀ {N i : Nat}, firstN b N = some i → i < N ∧ b i = false ∧ ∀ j, j < i → b j = true := by
  intro N
  induction N with
  | zero => intro i h; simp [firstN] at h
  | succ N ih =>
    intro i h
    unfold firstN at h ih
    rw [List.range_succ, List.find?_append] at h
    cases hq : (List.range N).find? (fun i => !b i) with
    | some j =>
      rw [hq] at h
      simp only [Option.some_or, Option.some.injEq] at h
      subst h
      obtain ⟨h1, h2, h3⟩ := ih hq
      exact ⟨by omega, h2, h3⟩
    | none =>
      rw [hq] at h
      simp only [Option.none_or, List.find?_cons, List.find?_nil] at h
      split at h
      · rename_i hb
        cases h
        exact ⟨by omega, by simpa using hb, fun j hj => firstN_none hq j hj⟩
      · cases h
theorem firstN_all (b : Nat → Bool) (N : Nat) : (firstN b N).isNone = (List.range N).all b := by
  unfold firstN
  cases h : (List.range N).all b with
  | true =>
    have := List.all_eq_true.1 h
    rw [show (List.range N).find? (fun i => !b i) = none from List.find?_eq_none.2 fun i hi => by simp [this i hi]]
    rfl
  | false =>
    cases hq : (List.range N).find? (fun i => !b i) with
    | some j => rfl
    | none =>
      exfalso
      have : (List.range N).all b = true := List.all_eq_true.2 fun i hi => by
        have := List.find?_eq_none.1 hq i hi
        simpa using this
      rw [h] at this; cases this
def scanV {α : Type} (b : Nat → Bool) (N : Nat) (vF : Nat → α) (vE : α) : α := match firstN b N with
  | some i => vF i
  | none => vE
theorem FnTr.scan {f : FuncId} {fn : Func} (hf : P.funcs[f]? = some fn) (hb : fn.body.isSome = true) {args : List SV} {h h' : List Blk} (m id : Nat) (S : Nat → St) (b : Nat → Bool) (N : Nat)
    (head : ∀ x s', TrL P none h.length ((atoms (bodyOf fn)).drop m) (S 0) x s' → TrL P none h.length (atoms (bodyOf fn)) ⟨slots0 fn.ntmps args, h, true⟩ x s')
    (hm : m < (atoms (bodyOf fn)).length) (hl : isLoop id (nthC m (bodyOf fn)) = true)
    (step : ∀ i, i < N → b i = true → (∀ j, j < i → b j = true) → Tr P none h.length (inner (inner (nthC m (bodyOf fn)))) (S i) .normal (S (i + 1)))
    (sF : Nat → St) (vF : Nat → List SV) (out : ∀ i, i < N → b i = false → (∀ j, j < i → b j = true) → Tr P none h.length (inner (inner (nthC m (bodyOf fn)))) (S i) .ret (sF i) ∧ resS P (sF i).t (sF i).h fn.results.toList = some (vF i, true) ∧ (sF i).h = h')
    {sE sE' : St} {vE : List SV} {xE : Exit} (fin : (∀ i, i < N → b i = true) → Tr P none h.length (inner (inner (nthC m (bodyOf fn)))) (S N) (.exit id) sE)
    (rest : (∀ i, i < N → b i = true) → TrL P none h.length ((atoms (bodyOf fn)).drop (m + 1)) sE xE sE' ∧ (xE = .ret ∨ xE = .normal) ∧ resS P sE'.t sE'.h fn.results.toList = some (vE, true) ∧ sE'.h = h') :
    FnTr P f args h (oneOf (scanV b N vF vE)) h' := by
  unfold scanV
  cases hq : firstN b N with
  | some i =>
    obtain ⟨h1, h2, h3⟩ := find_range hq
    obtain ⟨g1, g2, g3⟩ := out i h1 h2 h3
    rw [← g3]
    refine FnTr.mk hf hb (x := .ret) (s := sF i) (head _ _ ?_) (.inl rfl) g2
    exact TrL.leave m hm (by simp) (Tr.loopRet id hl (TrR.for (by simp) S i (fun j hj => step j (by omega) (h3 j hj) fun a ha => h3 a (by omega)) g1))
  | none =>
    have ha := firstN_none hq
    obtain ⟨r1, r2, r3, r4⟩ := rest ha
    rw [← r4]
    refine FnTr.mk hf hb (x := xE) (s := sE') (head _ _ ?_) r2 r3
    exact TrL.item m hm (s1 := sE) (Tr.loop id hl S N (fun j hj => step j hj (ha j hj) fun a ha' => ha a (by omega)) (fin ha)) r1
theorem FnTr.leaveAt {f : FuncId} {fn : Func} (hf : P.funcs[f]? = some fn) (hb : fn.body.isSome = true) {args : List SV} {h : List Blk} (m id : Nat) (S : Nat → St) (i : Nat)
    (head : ∀ x s', TrL P none h.length ((atoms (bodyOf fn)).drop m) (S 0) x s' → TrL P none h.length (atoms (bodyOf fn)) ⟨slots0 fn.ntmps args, h, true⟩ x s')
    (hm : m < (atoms (bodyOf fn)).length) (hl : isLoop id (nthC m (bodyOf fn)) = true) (step : ∀ j, j < i → Tr P none h.length (inner (inner (nthC m (bodyOf fn)))) (S j) .normal (S (j + 1)))
    {sF : St} {vF : List SV} (out : Tr P none h.length (inner (inner (nthC m (bodyOf fn)))) (S i) .ret sF) (res : resS P sF.t sF.h fn.results.toList = some (vF, true)) : FnTr P f args h (oneOf vF) sF.h :=
  FnTr.mk hf hb (x := .ret) (s := sF) (head _ _ (TrL.leave m hm (by simp) (Tr.loopRet id hl (TrR.for (by simp) S i step out)))) (.inl rfl) res
theorem FnTr.toEnd {f : FuncId} {fn : Func} (hf : P.funcs[f]? = some fn) (hb : fn.body.isSome = true) {args : List SV} {h : List Blk} (m id : Nat) (S : Nat → St) (N : Nat)
    (head : ∀ x s', TrL P none h.length ((atoms (bodyOf fn)).drop m) (S 0) x s' → TrL P none h.length (atoms (bodyOf fn)) ⟨slots0 fn.ntmps args, h, true⟩ x s')
    (hm : m < (atoms (bodyOf fn)).length) (hl : isLoop id (nthC m (bodyOf fn)) = true) (step : ∀ j, j < N → Tr P none h.length (inner (inner (nthC m (bodyOf fn)))) (S j) .normal (S (j + 1)))
    {sE s' : St} {x : Exit} {v : List SV} (fin : Tr P none h.length (inner (inner (nthC m (bodyOf fn)))) (S N) (.exit id) sE)
    (rest : TrL P none h.length ((atoms (bodyOf fn)).drop (m + 1)) sE x s') (hx : x = .ret ∨ x = .normal) (res : resS P s'.t s'.h fn.results.toList = some (v, true)) : FnTr P f args h (oneOf v) s'.h :=
  FnTr.mk hf hb (x := x) (s := s') (head _ _ (TrL.item m hm (s1 := sE) (Tr.loop id hl S N step fin) rest)) hx res
end
end Go.Sy
end
section
namespace Go.Sy
open Go
variable {P : Program}
theorem FnTr.nilBlk {f : FuncId} {args : List SV} {h h1 : List Blk} (g : FnTr P f args h (.nl (.slice none 0 0)) h1) (K : IntKind) (ex wh : Bool) : FnTr P f args h (.sl h1.length 0 0 1 0 0 ex wh) (h1 ++ [.b [.ints K 0 []]]) :=
  g.post fun B e w t' _ hl R => ⟨e, rfl, ⟨hl.1, fun i v v' a c => by
    cases i with
    | zero =>
      simp only [List.getElem?_cons_zero, Option.some.injEq] at a
      subst a
      have h1 : v' = .slice none 0 0 := hl.2 0 _ v' rfl c
      exact .inl ⟨rfl, rfl, none, h1⟩
    | succ i => simp at a⟩, by
    have := R.nothing (j := h1.length) (ps := [.ints K 0 []]) (.inl rfl) rfl
    unfold placeH at this
    rw [if_pos rfl] at this
    exact this⟩
theorem VE.anyCap (b o i z len cap : Nat) (wh : Bool) : VE (.sl b o i z len cap true wh) (.sl b o i z len cap false wh) := fun e x h => by
  rcases h with h | ⟨p, c, a, h1, h2, h3, h4, _, h6, h7⟩
  · exact .inl h
  · exact .inr ⟨p, c, a, h1, h2, h3, h4, (by simp), h6, h7⟩
theorem Ent.slot {k : Nat} {t : List (Option SV)} {h : List Blk} {o o' : Bool} (i : Nat) {v v' : SV} (hv : t[i]? = some (some v)) (g : VE v v') : Ent k ⟨t, h, o⟩ ⟨t.set i (some v'), h, o'⟩ := by
  have hlt : i < t.length := (List.getElem?_eq_some_iff.1 hv).1
  refine Ent.mono (by simp) (fun j w hj => ?_) rfl (fun j qs hj => ⟨qs, hj, rfl, fun _ _ h => h⟩) (fun j q hj => hj)
  by_cases hij : i = j
  · subst hij
    have q : (t.set i (some v'))[i]? = some (some v') := List.getElem?_set_self hlt
    have e : some (some w) = some (some v') := hj.symm.trans q
    cases e
    exact ⟨v, hv, g⟩
  · have q : (t.set i (some v'))[j]? = t[j]? := List.getElem?_set_ne hij
    exact ⟨w, q.symm.trans hj, fun _ _ h => h⟩
end Go.Sy
end
