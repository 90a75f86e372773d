/- This file gives short ways to contracts of functions that are reckoned whole. Conditions: those of the interpreter's own tests. -/
import Derived.Test.YtailgcdcdhhpnaaSyS
namespace Go.Sy
open Go
theorem PE.lst (k : IntKind) (n : Nat) (l : List Int) : PE [.ints k n l] [.ints k n (lst n l)] := ⟨rfl, fun e xs ⟨zs, h1, h2⟩ => ⟨zs, h1, by rw [h2, lst_self]⟩⟩
theorem PE.unlst (k : IntKind) (n : Nat) (l : List Int) : PE [.ints k n (Sy.lst n l)] [.ints k n l] := ⟨rfl, fun e xs ⟨zs, h1, h2⟩ => ⟨zs, h1, by rw [h2, lst_self]⟩⟩
theorem VE.agg {ps qs : List SV} (h : PE ps qs) : VE (.agg ps) (.agg qs) := fun e x ⟨ys, h1, h2⟩ => ⟨ys, h.2 e ys h1, h2⟩
theorem VE.refl (v : SV) : VE v v := fun _ _ h => h
theorem PE.refl (ps : List SV) : PE ps ps := ⟨rfl, fun _ _ h => h⟩
/-- Values side by side. -/
def VEL : List SV → List SV → Prop
  | [], [] => True
  | x :: xs, y :: ys => VE x y ∧ VEL xs ys
  | _, _ => False
theorem VEL.get : ∀ {xs ys : List SV}, VEL xs ys → xs.length = ys.length ∧ ∀ (i : Nat) (y : SV), ys[i]? = some y → ∃ x, xs[i]? = some x ∧ VE x y
  | [], [], _ => ⟨rfl, fun i y h => by simp at h⟩
  | [], _ :: _, h => h.elim
  | _ :: _, [], h => h.elim
  | x :: xs, y :: ys, ⟨h1, h2⟩ => by
    obtain ⟨h3, h4⟩ := VEL.get h2
    refine ⟨by simp [h3], fun i z hi => ?_⟩
    cases i with
    | zero => simp at hi; subst hi; exact ⟨x, rfl, h1⟩
    | succ i => simp at hi; obtain ⟨u, h5, h6⟩ := h4 i z hi; exact ⟨u, by simpa using h5, h6⟩
/-- Blocks side by side. -/
def PEL : List Blk → List Blk → Prop
  | [], [] => True
  | .b ps :: xs, .b qs :: ys => PE ps qs ∧ PEL xs ys
  | .g a :: xs, .g b :: ys => a = b ∧ PEL xs ys
  | _, _ => False
theorem PEL.get : ∀ {xs ys : List Blk}, PEL xs ys → xs.length = ys.length ∧ (∀ (i : Nat) (qs : List SV), ys[i]? = some (.b qs) → ∃ ps, xs[i]? = some (.b ps) ∧ PE ps qs) ∧ (∀ (i : Nat) (g : Option Lp), ys[i]? = some (.g g) → xs[i]? = some (.g g))
  | [], [], _ => ⟨rfl, (fun i y h => by simp at h), fun i g h => by simp at h⟩
  | .b ps :: xs, .b qs :: ys, ⟨h1, h2⟩ => by
    obtain ⟨h3, h4, h5⟩ := PEL.get h2
    refine ⟨by simp [h3], fun i z hi => ?_, fun i g hi => ?_⟩
    · cases i with
      | zero => simp at hi; subst hi; exact ⟨ps, rfl, h1⟩
      | succ i => simp at hi; obtain ⟨u, h5, h6⟩ := h4 i z hi; exact ⟨u, by simpa using h5, h6⟩
    · cases i with
      | zero => simp at hi
      | succ i => simp at hi; simpa using h5 i g hi
  | .g a :: xs, .g b :: ys, ⟨h1, h2⟩ => by
    subst h1
    obtain ⟨h3, h4, h5⟩ := PEL.get (xs := xs) (ys := ys) h2
    refine ⟨by simp [h3], fun i z hi => ?_, fun i g hi => ?_⟩
    · cases i with
      | zero => simp at hi
      | succ i => simp at hi; obtain ⟨u, h5, h6⟩ := h4 i z hi; exact ⟨u, by simpa using h5, h6⟩
    · cases i with
      | zero => simp at hi ⊢; exact hi
      | succ i => simp at hi; simpa using h5 i g hi
  | [], _ :: _, h => by simp [PEL] at h
  | _ :: _, [], h => by simp [PEL] at h
  | .b _ :: _, .g _ :: _, h => by simp [PEL] at h
  | .g _ :: _, .b _ :: _, h => by simp [PEL] at h

theorem Ent.blks {k : Nat} {t : List (Option SV)} {h h' : List Blk} {o o' : Bool} (g : PEL h h') : Ent k ⟨t, h, o⟩ ⟨t, h', o'⟩ := by
  obtain ⟨h1, h2, h3⟩ := g.get
  exact Ent.mono rfl (fun i v' hi => ⟨v', hi, VE.refl _⟩) h1.symm h2 h3
theorem Ent.all {k : Nat} {as bs : List SV} {h h' : List Blk} {o o' : Bool} (ga : VEL as bs) (g : PEL h h') : Ent k ⟨as.map some, h, o⟩ ⟨bs.map some, h', o'⟩ := by
  obtain ⟨h1, h2, h3⟩ := g.get
  obtain ⟨g1, g2⟩ := ga.get
  refine Ent.mono (by simp [g1]) (fun i v' hi => ?_) h1.symm h2 h3
  rw [List.getElem?_map] at hi
  obtain ⟨y, hy, q⟩ := Option.map_eq_some_iff.1 hi
  cases q
  obtain ⟨x, hx, hv⟩ := g2 i v' hy
  exact ⟨x, by simp [hx], hv⟩
section
variable {P : Program}

/-- A function from values to values, reckoned whole. -/
theorem call0 {Γ : Ctr} (hΓ : CtrSound P Γ) (n : Nat) {f : FuncId} {fn : Func} (hf : P.funcs[f]? = some fn) {args : List SV} {v : SV} {p : Bool} (e : (callS P Γ n fn args []).map (fun x => (x.1, x.2.2)) = some (v, p)) (hp : p = true) (hr : refsIn [] v = true) : FnTr P f args [] v [] := by
  obtain ⟨⟨u, h1, q⟩, he, e⟩ := Option.map_eq_some_iff.1 e
  simp only [Prod.mk.injEq] at e
  obtain ⟨rfl, rfl⟩ := e
  subst hp
  have key : ∀ u : SV, ren (fun b => ([] : List Nat).idxOf b) u = u ∨ True := fun _ => .inr trivial
  refine (FnTr.of_callS hΓ hf he).post (Ent.trans (Ent.trunc (n := 0) (s' := ⟨[some u], [], true⟩) (Nat.le_refl _) ?_) (Ent.refl _ _))
  unfold St.trunc
  rw [if_pos]
  · rfl
  · simp only [List.range_zero, List.all_cons, List.all_nil, Bool.and_true, List.take_zero, hr]

/-- A function that reads and writes its caller's blocks, reckoned whole: the first m blocks behind it are kept. -/
theorem callM {Γ : Ctr} (hΓ : CtrSound P Γ) (n : Nat) {f : FuncId} {fn : Func} (hf : P.funcs[f]? = some fn) {args : List SV} {h h1 : List Blk} {v : SV} {p : Bool} (m : Nat) (hm : h.length ≤ m)
    (e : (callS P Γ n fn args h).map (fun x => (x.1, x.2.1.take m, x.2.2)) = some (v, h1, p)) (hp : p = true) (hr : refsIn (List.range m) v = true) (hb : h1.all (blkIn m) = true) : FnTr P f args h v h1 := by
  obtain ⟨⟨u, h2, q⟩, he, e⟩ := Option.map_eq_some_iff.1 e
  simp only [Prod.mk.injEq] at e
  obtain ⟨rfl, rfl, rfl⟩ := e
  subst hp
  refine (FnTr.of_callS hΓ hf he).post (Ent.trunc (n := m) hm ?_)
  unfold St.trunc
  rw [if_pos]
  simp only [List.all_cons, List.all_nil, Bool.and_true, hr, hb]
/-- A call, other ways to say what goes in and what comes out. -/
theorem FnTr.conv {f : FuncId} {as bs : List SV} {h h2 h1 h3 : List Blk} {v u : SV} (g : FnTr P f bs h2 v h1) (ga : VEL as bs) (gh : PEL h h2) (gv : VE v u) (gh' : PEL h1 h3) : FnTr P f as h u h3 := by
  have hlen := gh.get.1
  refine (FnTr.pre g hlen (Ent.all ga gh)).post ?_
  exact Ent.all (as := [v]) (bs := [u]) ⟨gv, trivial⟩ gh'

/-- A whole call whose last pieces are reckoned by the kernel; the first j blocks are kept. -/
theorem FnTr.restM {Γ : Ctr} (hΓ : CtrSound P Γ) (n m j : Nat) {f : FuncId} {fn : Func} (hf : P.funcs[f]? = some fn) {args : List SV} {h h' : List Blk} {s : St} {v : SV} {p : Bool} (hj : h.length ≤ j) (hb : fn.body.isSome = true)
    (ht : ∀ s' x, TrL P none h.length ((atoms (bodyOf fn)).drop m) s x s' → TrL P none h.length (atoms (bodyOf fn)) ⟨slots0 fn.ntmps args, h, true⟩ x s')
    (e : ((execA P Γ n h.length ((atoms (bodyOf fn)).drop m) s).bind fun r => match r.1 with
      | .ret | .normal => (resS P r.2.t r.2.h fn.results.toList).map fun q => (oneOf q.1, r.2.h.take j, andT r.2.ob q.2)
      | _ => none) = some (v, h', p)) (hp : p = true) (hr : refsIn (List.range j) v = true) (hbl : h'.all (blkIn j) = true) : FnTr P f args h v h' := by
  obtain ⟨⟨x, s'⟩, h1, e⟩ := Option.bind_eq_some_iff.1 e
  subst hp
  have key : ∀ (_ : x = .ret ∨ x = .normal), ((resS P s'.t s'.h fn.results.toList).map fun q => (oneOf q.1, s'.h.take j, andT s'.ob q.2)) = some (v, h', true) → FnTr P f args h v h' := fun hx e => by
    obtain ⟨⟨vs, q⟩, hres, e⟩ := Option.map_eq_some_iff.1 e
    simp only [Prod.mk.injEq, andT_iff] at e
    obtain ⟨rfl, rfl, hob, rfl⟩ := e
    refine (FnTr.mk hf hb (ht s' x (TrL.rest hΓ n h1 hob)) hx hres).post (Ent.trunc (n := j) hj ?_)
    unfold St.trunc
    rw [if_pos]
    simp only [List.all_cons, List.all_nil, Bool.and_true, hr, hbl]
  cases x <;> simp only at e <;> first | exact key (by simp) e | cases e
end
end Go.Sy
