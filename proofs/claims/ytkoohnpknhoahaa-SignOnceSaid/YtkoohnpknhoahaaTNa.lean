/- This file proves that a small functional interpreter of the model's code ('exec') is sound: what it computes over tracked blocks is what the machine does. Conditions: only those code forms that the interpreter takes. -/
import Derived.Calls
import Derived.LoopN
import Derived.KernelRfl
import Derived.Below
import Derived.Laws.CopyRow
import Derived.Orders
import Derived.Laws.StructEq
import Derived.WideShapes
set_option linter.all false
namespace Go.Lift
open Go
noncomputable def Lock {α : Type} (v : α) : α := Classical.choose (⟨v, rfl⟩ : ∃ z, z = v)
theorem Lock_eq {α : Type} (v : α) : Lock v = v := Classical.choose_spec (⟨v, rfl⟩ : ∃ z, z = v)
structure Pl where
  n : Nat
  base : Nat
  ro : Bool
mutual
def VR (r : Nat → Option Pl) : Value → Value → Prop
  | .pointer (some a), v' => ∃ p, r a.block = some p ∧ v' = .pointer (some ⟨p.n, p.base + a.off, a.spot⟩)
  | .slice (some a) l c, v' => ∃ p, r a.block = some p ∧ v' = .slice (some ⟨p.n, p.base + a.off, a.spot⟩) l c
  | .map (some m), v' => ∃ p, r m = some p ∧ v' = .map (some p.n)
  | .agg ⟨xs⟩, v' => ∃ ys, LR r xs ys ∧ v' = .agg ⟨ys⟩
  | .tuple ⟨xs⟩, v' => ∃ ys, LR r xs ys ∧ v' = .tuple ⟨ys⟩
  | .iface t x, v' => ∃ y, VR r x y ∧ v' = .iface t y
  | .func f ⟨xs⟩ ⟨zs⟩, v' => ∃ ys us, LR r xs ys ∧ LR r zs us ∧ v' = .func f ⟨ys⟩ ⟨us⟩
  | v, v' => v' = v
def LR (r : Nat → Option Pl) : List Value → List Value → Prop
  | [], ys => ys = []
  | x :: xs, ys => ∃ y zs, VR r x y ∧ LR r xs zs ∧ ys = y :: zs
end
mutual
theorem VR.mono {r s : Nat → Option Pl} (h : ∀ (i : Nat) (b : Pl), r i = some b → s i = some b) : ∀ v v', VR r v v' → VR s v v'
  | .pointer (some _), _, ⟨b, e, q⟩ => ⟨b, h _ _ e, q⟩
  | .slice (some _) _ _, _, ⟨b, e, q⟩ => ⟨b, h _ _ e, q⟩
  | .map (some _), _, ⟨b, e, q⟩ => ⟨b, h _ _ e, q⟩
  | .agg ⟨xs⟩, _, ⟨ys, e, q⟩ => ⟨ys, LR.mono h xs ys e, q⟩
  | .tuple ⟨xs⟩, _, ⟨ys, e, q⟩ => ⟨ys, LR.mono h xs ys e, q⟩
  | .iface _ x, _, ⟨y, e, q⟩ => ⟨y, VR.mono h x y e, q⟩
  | .func _ ⟨xs⟩ ⟨zs⟩, _, ⟨ys, us, e, e', q⟩ => ⟨ys, us, LR.mono h xs ys e, LR.mono h zs us e', q⟩
  | .bool _, _, e => e | .int _ _, _, e => e | .float _ _, _, e => e | .complex _ _ _, _, e => e | .string _, _, e => e
  | .pointer none, _, e => e | .slice none _ _, _, e => e | .map none, _, e => e | .chan _, _, e => e | .nilFunc, _, e => e | .nilIface, _, e => e
theorem LR.mono {r s : Nat → Option Pl} (h : ∀ (i : Nat) (b : Pl), r i = some b → s i = some b) : ∀ xs ys, LR r xs ys → LR s xs ys
  | [], _, e => e
  | x :: xs, _, ⟨y, zs, e, e', q⟩ => ⟨y, zs, VR.mono h x y e, LR.mono h xs zs e', q⟩
end
section
variable {r : Nat → Option Pl}
theorem LR.length : ∀ {xs ys : List Value}, LR r xs ys → ys.length = xs.length
  | [], _, e => by rw [LR] at e; subst e; rfl
  | _ :: xs, _, ⟨_, _, _, h, q⟩ => by subst q; simp [LR.length h]
theorem LR.get : ∀ {xs ys : List Value} {i : Nat} {x : Value}, LR r xs ys → xs[i]? = some x → ∃ y, ys[i]? = some y ∧ VR r x y
  | [], _, _, _, _, h => by simp at h
  | a :: xs, _, 0, x, ⟨y, zs, hy, _, q⟩, h => by subst q; simp at h; subst h; exact ⟨y, rfl, hy⟩
  | a :: xs, _, i + 1, x, ⟨y, zs, _, hz, q⟩, h => by subst q; simp at h; obtain ⟨u, hu, hv⟩ := LR.get hz h; exact ⟨u, by simpa using hu, hv⟩
theorem LR.append : ∀ {xs ys us vs : List Value}, LR r xs ys → LR r us vs → LR r (xs ++ us) (ys ++ vs)
  | [], _, _, _, e, h => by rw [LR] at e; subst e; exact h
  | _ :: xs, _, _, _, ⟨y, zs, hy, hz, q⟩, h => by subst q; exact ⟨y, _, hy, LR.append hz h, rfl⟩
theorem LR.set : ∀ {xs ys : List Value} {i : Nat} {x y : Value}, LR r xs ys → VR r x y → LR r (xs.set i x) (ys.set i y)
  | [], _, _, _, _, e, _ => by rw [LR] at e; subst e; exact rfl
  | a :: xs, _, 0, x, y', ⟨y, zs, _, hz, q⟩, h => by subst q; exact ⟨_, _, h, hz, rfl⟩
  | a :: xs, _, i + 1, x, y', ⟨y, zs, hy, hz, q⟩, h => by subst q; exact ⟨_, _, hy, LR.set hz h, rfl⟩
theorem LR.take : ∀ {xs ys : List Value} (n : Nat), LR r xs ys → LR r (xs.take n) (ys.take n)
  | _, _, 0, _ => by simp [LR]
  | [], _, n + 1, e => by rw [LR] at e; subst e; simp [LR]
  | a :: xs, _, n + 1, ⟨y, zs, hy, hz, q⟩ => by subst q; exact ⟨_, _, hy, LR.take n hz, rfl⟩
theorem LR.drop : ∀ {xs ys : List Value} (n : Nat), LR r xs ys → LR r (xs.drop n) (ys.drop n)
  | _, _, 0, h => by simpa using h
  | [], _, n + 1, e => by rw [LR] at e; subst e; simp [LR]
  | a :: xs, _, n + 1, ⟨y, zs, _, hz, q⟩ => by subst q; simpa using LR.drop n hz
theorem LR.nil : LR r [] [] := rfl
theorem LR.one {x y : Value} (h : VR r x y) : LR r [x] [y] := ⟨y, [], h, rfl, rfl⟩
end
mutual
def plain : Value → Bool
  | .pointer (some _) | .slice (some _) _ _ | .map (some _) => false
  | .agg ⟨xs⟩ => plainL xs
  | .tuple ⟨xs⟩ => plainL xs
  | .iface _ x => plain x
  | .func _ ⟨xs⟩ ⟨zs⟩ => plainL xs && plainL zs
  | _ => true
def plainL : List Value → Bool
  | [] => true
  | x :: xs => plain x && plainL xs
end
mutual
theorem VR.plain {r : Nat → Option Pl} : ∀ v, plain v = true → VR r v v
  | .pointer (some _), h => by simp [Lift.plain] at h
  | .slice (some _) _ _, h => by simp [Lift.plain] at h
  | .map (some _), h => by simp [Lift.plain] at h
  | .agg ⟨xs⟩, h => ⟨xs, LR.plain xs (by simpa [Lift.plain] using h), rfl⟩
  | .tuple ⟨xs⟩, h => ⟨xs, LR.plain xs (by simpa [Lift.plain] using h), rfl⟩
  | .iface _ x, h => ⟨x, VR.plain x (by simpa [Lift.plain] using h), rfl⟩
  | .func _ ⟨xs⟩ ⟨zs⟩, h => ⟨xs, zs, LR.plain xs (by simp [Lift.plain] at h; exact h.1), LR.plain zs (by simp [Lift.plain] at h; exact h.2), rfl⟩
  | .bool _, _ => rfl | .int _ _, _ => rfl | .float _ _, _ => rfl | .complex _ _ _, _ => rfl | .string _, _ => rfl
  | .pointer none, _ => rfl | .slice none _ _, _ => rfl | .map none, _ => rfl | .chan _, _ => rfl | .nilFunc, _ => rfl | .nilIface, _ => rfl
theorem LR.plain {r : Nat → Option Pl} : ∀ xs, plainL xs = true → LR r xs xs
  | [], _ => rfl
  | x :: xs, h => ⟨x, xs, VR.plain x (by simp [plainL] at h; exact h.1), LR.plain xs (by simp [plainL] at h; exact h.2), rfl⟩
end
mutual
theorem VR.eq_of_plain {r : Nat → Option Pl} : ∀ v v', Lift.plain v = true → VR r v v' → v' = v
  | .pointer (some _), _, h, _ => by simp [Lift.plain] at h
  | .slice (some _) _ _, _, h, _ => by simp [Lift.plain] at h
  | .map (some _), _, h, _ => by simp [Lift.plain] at h
  | .agg ⟨xs⟩, _, h, ⟨ys, e, q⟩ => by rw [q, LR.eq_of_plain xs ys (by simpa [Lift.plain] using h) e]
  | .tuple ⟨xs⟩, _, h, ⟨ys, e, q⟩ => by rw [q, LR.eq_of_plain xs ys (by simpa [Lift.plain] using h) e]
  | .iface _ x, _, h, ⟨y, e, q⟩ => by rw [q, VR.eq_of_plain x y (by simpa [Lift.plain] using h) e]
  | .func _ ⟨xs⟩ ⟨zs⟩, _, h, ⟨ys, us, e, e', q⟩ => by
    simp [Lift.plain] at h
    rw [q, LR.eq_of_plain xs ys h.1 e, LR.eq_of_plain zs us h.2 e']
  | .bool _, _, _, e => e | .int _ _, _, _, e => e | .float _ _, _, _, e => e | .complex _ _ _, _, _, e => e | .string _, _, _, e => e
  | .pointer none, _, _, e => e | .slice none _ _, _, _, e => e | .map none, _, _, e => e | .chan _, _, _, e => e | .nilFunc, _, _, e => e | .nilIface, _, _, e => e
theorem LR.eq_of_plain {r : Nat → Option Pl} : ∀ xs ys, plainL xs = true → LR r xs ys → ys = xs
  | [], _, _, e => e
  | x :: xs, _, h, ⟨y, zs, e, e', q⟩ => by
    simp [plainL] at h
    rw [q, VR.eq_of_plain x y h.1 e, LR.eq_of_plain xs zs h.2 e']
end
mutual
theorem VR.other {s r t : Nat → Option Pl} (h : ∀ (i : Nat) (c m : Pl), s i = some c → r i = some m → ∃ p, t c.n = some p ∧ p.n = m.n ∧ p.base + c.base = m.base) : ∀ v u w, VR s v u → VR r v w → VR t u w
  | .pointer (some _), _, _, ⟨c, e, q⟩, ⟨m, e', q'⟩ => by subst q q'; obtain ⟨p, h1, h2, h3⟩ := h _ _ _ e e'; exact ⟨p, h1, by rw [h2, ← h3, Nat.add_assoc]⟩
  | .slice (some _) _ _, _, _, ⟨c, e, q⟩, ⟨m, e', q'⟩ => by subst q q'; obtain ⟨p, h1, h2, h3⟩ := h _ _ _ e e'; exact ⟨p, h1, by rw [h2, ← h3, Nat.add_assoc]⟩
  | .map (some _), _, _, ⟨c, e, q⟩, ⟨m, e', q'⟩ => by subst q q'; obtain ⟨p, h1, h2, _⟩ := h _ _ _ e e'; exact ⟨p, h1, by rw [h2]⟩
  | .agg ⟨xs⟩, _, _, ⟨ys, e, q⟩, ⟨zs, e', q'⟩ => by subst q q'; exact ⟨zs, LR.other h xs ys zs e e', rfl⟩
  | .tuple ⟨xs⟩, _, _, ⟨ys, e, q⟩, ⟨zs, e', q'⟩ => by subst q q'; exact ⟨zs, LR.other h xs ys zs e e', rfl⟩
  | .iface _ x, _, _, ⟨y, e, q⟩, ⟨z, e', q'⟩ => by subst q q'; exact ⟨z, VR.other h x y z e e', rfl⟩
  | .func _ ⟨xs⟩ ⟨zs⟩, _, _, ⟨y1, y2, e, f, q⟩, ⟨z1, z2, e', f', q'⟩ => by subst q q'; exact ⟨z1, z2, LR.other h xs y1 z1 e e', LR.other h zs y2 z2 f f', rfl⟩
  | .bool _, _, _, e, e' => by cases e; cases e'; exact rfl
  | .int _ _, _, _, e, e' => by cases e; cases e'; exact rfl
  | .float _ _, _, _, e, e' => by cases e; cases e'; exact rfl
  | .complex _ _ _, _, _, e, e' => by cases e; cases e'; exact rfl
  | .string _, _, _, e, e' => by cases e; cases e'; exact rfl
  | .pointer none, _, _, e, e' => by cases e; cases e'; exact rfl
  | .slice none _ _, _, _, e, e' => by cases e; cases e'; exact rfl
  | .map none, _, _, e, e' => by cases e; cases e'; exact rfl
  | .chan _, _, _, e, e' => by cases e; cases e'; exact rfl
  | .nilFunc, _, _, e, e' => by cases e; cases e'; exact rfl
  | .nilIface, _, _, e, e' => by cases e; cases e'; exact rfl
theorem LR.other {s r t : Nat → Option Pl} (h : ∀ (i : Nat) (c m : Pl), s i = some c → r i = some m → ∃ p, t c.n = some p ∧ p.n = m.n ∧ p.base + c.base = m.base) : ∀ xs ys zs, LR s xs ys → LR r xs zs → LR t ys zs
  | [], _, _, e, e' => by rw [LR] at e e'; subst e e'; exact rfl
  | x :: xs, _, _, ⟨y, ys, e, f, q⟩, ⟨z, zs, e', f', q'⟩ => by subst q q'; exact ⟨z, zs, VR.other h x y z e e', LR.other h xs ys zs f f', rfl⟩
end
mutual
theorem VR.comp {s r t : Nat → Option Pl} (h : ∀ (i : Nat) (c m : Pl), s i = some c → r c.n = some m → ∃ p, t i = some p ∧ p.n = m.n ∧ p.base = m.base + c.base) : ∀ v u w, VR s v u → VR r u w → VR t v w
  | .pointer (some _), _, _, ⟨c, e, q⟩, g => by subst q; obtain ⟨m, e', q'⟩ := g; subst q'; obtain ⟨p, h1, h2, h3⟩ := h _ _ _ e e'; exact ⟨p, h1, by rw [h2, h3, Nat.add_assoc]⟩
  | .slice (some _) _ _, _, _, ⟨c, e, q⟩, g => by subst q; obtain ⟨m, e', q'⟩ := g; subst q'; obtain ⟨p, h1, h2, h3⟩ := h _ _ _ e e'; exact ⟨p, h1, by rw [h2, h3, Nat.add_assoc]⟩
  | .map (some _), _, _, ⟨c, e, q⟩, g => by subst q; obtain ⟨m, e', q'⟩ := g; subst q'; obtain ⟨p, h1, h2, _⟩ := h _ _ _ e e'; exact ⟨p, h1, by rw [h2]⟩
  | .agg ⟨xs⟩, _, _, ⟨ys, e, q⟩, g => by subst q; obtain ⟨zs, e', q'⟩ := g; subst q'; exact ⟨zs, LR.comp h xs ys zs e e', rfl⟩
  | .tuple ⟨xs⟩, _, _, ⟨ys, e, q⟩, g => by subst q; obtain ⟨zs, e', q'⟩ := g; subst q'; exact ⟨zs, LR.comp h xs ys zs e e', rfl⟩
  | .iface _ x, _, _, ⟨y, e, q⟩, g => by subst q; obtain ⟨z, e', q'⟩ := g; subst q'; exact ⟨z, VR.comp h x y z e e', rfl⟩
  | .func _ ⟨xs⟩ ⟨zs⟩, _, _, ⟨y1, y2, e, f, q⟩, g => by subst q; obtain ⟨z1, z2, e', f', q'⟩ := g; subst q'; exact ⟨z1, z2, LR.comp h xs y1 z1 e e', LR.comp h zs y2 z2 f f', rfl⟩
  | .bool _, _, _, e, e' => by cases e; cases e'; exact rfl
  | .int _ _, _, _, e, e' => by cases e; cases e'; exact rfl
  | .float _ _, _, _, e, e' => by cases e; cases e'; exact rfl
  | .complex _ _ _, _, _, e, e' => by cases e; cases e'; exact rfl
  | .string _, _, _, e, e' => by cases e; cases e'; exact rfl
  | .pointer none, _, _, e, e' => by cases e; cases e'; exact rfl
  | .slice none _ _, _, _, e, e' => by cases e; cases e'; exact rfl
  | .map none, _, _, e, e' => by cases e; cases e'; exact rfl
  | .chan _, _, _, e, e' => by cases e; cases e'; exact rfl
  | .nilFunc, _, _, e, e' => by cases e; cases e'; exact rfl
  | .nilIface, _, _, e, e' => by cases e; cases e'; exact rfl
theorem LR.comp {s r t : Nat → Option Pl} (h : ∀ (i : Nat) (c m : Pl), s i = some c → r c.n = some m → ∃ p, t i = some p ∧ p.n = m.n ∧ p.base = m.base + c.base) : ∀ xs ys zs, LR s xs ys → LR r ys zs → LR t xs zs
  | [], _, _, e, e' => by rw [LR] at e; subst e; rw [LR] at e'; subst e'; exact rfl
  | x :: xs, _, _, ⟨y, ys, e, f, q⟩, g => by subst q; obtain ⟨z, zs, e', f', q'⟩ := g; subst q'; exact ⟨z, zs, VR.comp h x y z e e', LR.comp h xs ys zs f f', rfl⟩
end
end Go.Lift
namespace Go.Lift
open Go
inductive Blk where
  | c (vs : List Value) (t : TypeId)
  | s (k : IntKind) (xs : List Int) (t : TypeId)
  | r (vs : List Value)
  | rs (k : IntKind) (xs : List Int)
def intsV (k : IntKind) (xs : List Int) : List Value := xs.map (Value.int k)
def Blk.vals : Blk → List Value
  | .c vs _ => vs
  | .s k xs _ => intsV k xs
  | .r vs => vs
  | .rs k xs => intsV k xs
def Blk.own : Blk → Option TypeId
  | .c _ t => some t
  | .s _ _ t => some t
  | _ => none
def ints (k : IntKind) : List Value → Option (List Int)
  | [] => some []
  | .int k' n :: vs => if k = k' then (match ints k vs with | some l => some (n :: l) | none => none) else none
  | _ => none
theorem ints_eq {k : IntKind} : ∀ {cs : List Value} {l : List Int}, ints k cs = some l → cs = intsV k l
  | [], l, e => by simp only [ints, Option.some.injEq] at e; subst e; rfl
  | .int k' n :: vs, l, e => by
    simp only [ints] at e
    split at e
    · rename_i hk
      subst hk
      split at e
      · rename_i l' hl
        cases e
        rw [ints_eq hl]; rfl
      · cases e
    · cases e
theorem ints_intsV {k : IntKind} : ∀ (l : List Int), ints k (intsV k l) = some l
  | [] => rfl
  | n :: l => by
    have := ints_intsV (k := k) l
    simp only [intsV, List.map_cons, ints, if_true] at this ⊢
    rw [this]
theorem plain_ints (k : IntKind) : ∀ l : List Int, plainL (intsV k l) = true
  | [] => rfl
  | _ :: l => by have := plain_ints k l; simpa [intsV, plainL, plain] using this
def aggI (k : IntKind) (xs : List Int) : Value := .agg ⟨intsV k xs⟩
theorem plain_aggI (k : IntKind) (l : List Int) : plain (aggI k l) = true := by simp [aggI, plain, plain_ints]
def lst (n : Nat) (l : List Int) : List Int := (List.range n).map fun i => l.getD i 0
theorem lst_eq {n : Nat} {l : List Int} (h : l.length = n) : lst n l = l := by
  apply List.ext_getElem?
  intro i
  unfold lst
  rw [List.getElem?_map]
  rcases Nat.lt_or_ge i n with hi | hi
  · rw [List.getElem?_range hi]
    simp [List.getD, List.getElem?_eq_getElem (show i < l.length by omega)]
  · rw [List.getElem?_eq_none (by simpa using hi), List.getElem?_eq_none (by omega)]; rfl
theorem lst_length (n : Nat) (l : List Int) : (lst n l).length = n := by simp [lst]
def intsN (k : IntKind) (n : Nat) (cs : List Value) : Option (List Int) :=
  match ints k cs with
  | some l => if l.length = n then some l else none
  | none => none
theorem intsN_eq {k : IntKind} {n : Nat} {cs : List Value} {l : List Int} (h : intsN k n cs = some l) : cs = intsV k (lst n l) ∧ l.length = n := by
  unfold intsN at h
  split at h
  · rename_i l' hl
    split at h
    · rename_i hn; cases h; exact ⟨by rw [lst_eq hn, ints_eq hl], hn⟩
    · cases h
  · cases h
abbrev lk (r : List Pl) : Nat → Option Pl := fun i => r[i]?
def BR (r : Nat → Option Pl) (p : Pl) (b : Blk) (o : Obj) : Prop :=
  (∀ t, b.own = some t → p.base = 0 ∧ p.ro = false ∧ ∃ ys, LR r b.vals ys ∧ o = .cells ⟨ys⟩ t (0, 0)) ∧
  (b.own = none → p.ro = true ∧ ∃ c t fr, o = .cells c t fr ∧ LR r b.vals ((c.toList.drop p.base).take b.vals.length))
theorem BR.mono {r s : Nat → Option Pl} (h : ∀ (i : Nat) (b : Pl), r i = some b → s i = some b) {p : Pl} {b : Blk} {o : Obj} (e : BR r p b o) : BR s p b o :=
  ⟨fun t ht => let ⟨h1, h2, ys, e, q⟩ := e.1 t ht; ⟨h1, h2, ys, LR.mono h _ ys e, q⟩,
   fun hn => let ⟨h1, c, t, fr, q, e⟩ := e.2 hn; ⟨h1, c, t, fr, q, LR.mono h _ _ e⟩⟩
structure Rel (k : Nat) (w0 : World) (r : List Pl) (h : List Blk) (w : World) : Prop where
  os : w.os = w0.os
  tape : w.tape = w0.tape
  output : w.output = w0.output
  size : w0.heap.size ≤ w.heap.size
  nodup : ∀ (i j : Nat) (p q : Pl), r[i]? = some p → r[j]? = some q → p.n = q.n → i = j ∨ (p.ro = true ∧ q.ro = true)
  len : r.length = h.length
  news : ∀ (i : Nat) (p : Pl), k ≤ i → r[i]? = some p → w0.heap.size ≤ p.n
  blk : ∀ (i : Nat) (b : Blk), h[i]? = some b → ∃ p o, r[i]? = some p ∧ w.heap[p.n]? = some o ∧ BR (lk r) p b o
  old : ∀ n : Nat, n < w0.heap.size → (∀ (i : Nat) (p : Pl), i < k → r[i]? = some p → p.n = n → p.ro = true) → w.heap[n]? = w0.heap[n]?
  kle : k ≤ h.length
structure St where
  t : List (Option Value)
  h : List Blk
  ob : Bool
def TR (r : Nat → Option Pl) (t : List (Option Value)) (t' : List Value) : Prop :=
  t.length = t'.length ∧ ∀ (i : Nat) (v v' : Value), t[i]? = some (some v) → t'[i]? = some v' → VR r v v'
structure Ctr where
  g : FuncId → List Value → List Blk → Option (Value × List Blk × Bool)
  pf : FuncId → Nat
  sym : Tmp → Option Bool
section
variable (P : Program)
def szOf (t : TypeId) : Option Nat := (P.info? t).map (·.size)
def zeroOf (t : TypeId) : Option Value := (P.info? t).bind (·.zero)
def aggB (t : TypeId) : Option Bool := (P.underlying t).map fun | .struct _ => true | .array _ _ => true | _ => false
def ev (t : List (Option Value)) : Operand → Option Value
  | .tmp i => match t[i]? with
    | some (some v) => some v
    | _ => none
  | .const v => if plain v then some v else none
  | .func f => some (.func (.func f) #[] #[])
  | .global _ => none
def evL (t : List (Option Value)) : List Operand → Option (List Value)
  | [] => some []
  | x :: xs => match ev t x, evL t xs with
    | some v, some vs => some (v :: vs)
    | _, _ => none
def evO (t : List (Option Value)) : Option Operand → Option (Option Value)
  | none => some none
  | some x => (ev t x).map some
def cellsL : Value → List Value
  | .agg ⟨cs⟩ => cs
  | v => [v]
def cellAt (o : Nat) : Blk → Option (Value × Bool)
  | .c vs _ => (vs[o]?).map fun v => (v, true)
  | .r vs => (vs[o]?).map fun v => (v, true)
  | .s k xs _ => some (.int k (xs.getD o 0), decide (o < xs.length))
  | .rs k xs => some (.int k (xs.getD o 0), decide (o < xs.length))
def intCells (k : IntKind) (xs : List Int) (n : Nat) : Nat → List Value × Bool
  | 0 => (intsV k xs, n == xs.length)
  | o => (intsV k ((xs.drop o).take n), decide (o + n ≤ xs.length))
def cellsAt (o n : Nat) : Blk → List Value × Bool
  | .c vs _ => ((vs.drop o).take n, decide (o + n ≤ vs.length))
  | .r vs => ((vs.drop o).take n, decide (o + n ≤ vs.length))
  | .s k xs _ => intCells k xs n o
  | .rs k xs => intCells k xs n o
def loadS (t : TypeId) (h : List Blk) : Value → Option (Value × Bool)
  | .pointer (some ⟨b, o, none⟩) => match h[b]? with
    | some bl => match aggB P t with
      | some true => match szOf P t with
        | some n => some (.agg ⟨(cellsAt o n bl).1⟩, (cellsAt o n bl).2)
        | none => none
      | some false => cellAt o bl
      | none => none
    | none => none
  | _ => none
def putL (vs : List Value) (o : Nat) : List Value → List Value
  | [x] => vs.set o x
  | xs => vs.take o ++ xs ++ vs.drop (o + xs.length)
def putB (o : Nat) (cs : List Value) : Blk → Option (Blk × Bool)
  | .c vs t => some (.c (putL vs o cs) t, decide (o + cs.length ≤ vs.length))
  | .s k xs t => match cs with
    | [.int k' n] => if k = k' then some (.s k (xs.set o n) t, decide (o < xs.length)) else none
    | cs => some (.c (putL (intsV k xs) o cs) t, decide (o + cs.length ≤ xs.length))
  | _ => none
def storeS (t : TypeId) (h : List Blk) (x : Value) : Value → Option (List Blk × Bool)
  | .pointer (some ⟨b, o, none⟩) => match h[b]? with
    | some bl => if szOf P t == some (cellsL x).length && (cellsL x).all Value.oneCell'
        then (putB o (cellsL x) bl).map fun (bl', p) => (h.set b bl', p) else none
    | none => none
  | _ => none
def bitsI (f : ∀ n, BitVec n → BitVec n → BitVec n) (k : IntKind) (a b : Int) : Int := k.wrap (f k.bits (BitVec.ofInt k.bits a) (BitVec.ofInt k.bits b)).toNat
def andI := bitsI fun _ a b => a &&& b
def orI := bitsI fun _ a b => a ||| b
def xorI := bitsI fun _ a b => a ^^^ b
def andNotI := bitsI fun _ a b => a &&& ~~~b
def shlI (k : IntKind) (a : Int) (n : Nat) : Int := k.wrap (a * 2 ^ (min n k.bits))
def shrI (k : IntKind) (a : Int) (n : Nat) : Int := a.fdiv (2 ^ (min n k.bits))
def binS (op : BinOp) : Value → Value → Option (Value × Bool)
  | .int k a, .int k' b => match op with
    | .shl => some (.int k (shlI k a b.toNat), decide (0 ≤ b))
    | .shr => some (.int k (shrI k a b.toNat), decide (0 ≤ b))
    | _ => if k ≠ k' then none else match op with
      | .add => some (.int k (k.wrap (a + b)), true)
      | .sub => some (.int k (k.wrap (a - b)), true)
      | .mul => some (.int k (k.wrap (a * b)), true)
      | .quo => some (.int k (k.wrap (a.tdiv b)), b != 0)
      | .rem => some (.int k (a.tmod b), b != 0)
      | .and => some (.int k (andI k a b), true)
      | .or => some (.int k (orI k a b), true)
      | .xor => some (.int k (xorI k a b), true)
      | .andNot => some (.int k (andNotI k a b), true)
      | .eql => some (.bool (a == b), true)
      | .neq => some (.bool (a != b), true)
      | .lss => some (.bool (decide (a < b)), true)
      | .leq => some (.bool (decide (a ≤ b)), true)
      | .gtr => some (.bool (decide (a > b)), true)
      | .geq => some (.bool (decide (a ≥ b)), true)
      | _ => none
  | _, _ => none
def flatFs (g : TypeId → Option (IntKind × Nat)) (k : IntKind) (at_ : Nat) : List Field → Option (IntKind × Nat)
  | [] => some (k, at_)
  | f :: rest => match g f.type with
    | some (k', m) => if k' = k ∧ f.name ≠ "_" ∧ f.offset = at_ ∧ szOf P f.type = some m then flatFs g k (at_ + m) rest else none
    | none => none
def flatK : Nat → TypeId → Option (IntKind × Nat)
  | 0, _ => none
  | d + 1, t => match P.underlying t with
    | some (.int k) => some (k, 1)
    | some (.array n e) => match flatK d e with
      | some (k, m) => if szOf P e = some m then some (k, n * m) else none
      | none => none
    | some (.struct fs) => if P.stoodInHeld t then none else match fs.toList with
      | [] => none
      | f :: rest => match flatK d f.type with
        | some (k, m) => if f.name ≠ "_" ∧ f.offset = 0 ∧ szOf P f.type = some m then flatFs P (fun t => flatK d t) k m rest else none
        | none => none
    | _ => none
def eqS (op : BinOp) (T : TypeId) : Value → Value → Option Value
  | .agg ⟨cs⟩, .agg ⟨ds⟩ => if P.eqGuardType P.depth T || aggB P T == some false then none else match flatK P 20 T with
    | some (k, n) => match intsN k n cs, intsN k n ds with
      | some l, some m => match op with
        | .eql => some (.bool (decide (l = m)))
        | .neq => some (.bool (!decide (l = m)))
        | _ => none
      | _, _ => none
    | none => none
  | .bool a, .bool b => match P.underlying T with
    | some .bool => match op with
      | .eql => some (.bool (a == b))
      | .neq => some (.bool (!(a == b)))
      | _ => none
    | _ => none
  | _, _ => none
def buildS (t : TypeId) (parts : List (Nat × Value)) : Option Value :=
  match zeroOf P t with
  | none => none
  | some z => if plain z then (P.built t parts).map fun cs => .agg ⟨cs.toList⟩ else none
def partS (t : TypeId) (cs : List Value) (o : Nat) : Option Value :=
  match aggB P t with
  | some true => match szOf P t with
    | some n => some (.agg ⟨(cs.drop o).take n⟩)
    | none => none
  | some false => cs[o]?
  | none => none
def fieldAddrS (t : TypeId) (i : Nat) : Value → Option Value
  | .pointer (some ⟨b, o, none⟩) => match P.underlying t with
    | some (.struct fs) => match fs.toList[i]? with
      | some f => match szOf P f.type with
        | some (_ + 1) => some (.pointer (some ⟨b, o + f.offset, none⟩))
        | _ => none
      | none => none
    | _ => none
  | _ => none
def fieldS (t : TypeId) (i : Nat) : Value → Option Value
  | .agg ⟨cs⟩ => match P.underlying t with
    | some (.struct fs) => match fs.toList[i]? with
      | some f => partS P f.type cs f.offset
      | none => none
    | _ => none
  | _ => none
def indexAddrS (t : TypeId) (x ix : Value) : Option (Value × Bool) :=
  match ix with
  | .int _ i => match P.underlying t, x with
    | some (.array len e), .pointer (some ⟨b, o, none⟩) => match szOf P e with
      | some n => some (.pointer (some ⟨b, o + i.toNat * n, none⟩), decide (0 ≤ i) && decide (i < len))
      | none => none
    | some (.slice e), .slice (some ⟨b, o, none⟩) len _ => match szOf P e with
      | some n => some (.pointer (some ⟨b, o + i.toNat * n, none⟩), decide (0 ≤ i) && decide (i < len))
      | none => none
    | _, _ => none
  | _ => none
def indexS (t : TypeId) (x ix : Value) : Option (Value × Bool) :=
  match ix, x with
  | .int _ i, .agg ⟨cs⟩ => match P.underlying t with
    | some (.array len e) => match szOf P e with
      | some n => (partS P e cs (i.toNat * n)).map fun v => (v, decide (0 ≤ i) && decide (i < len))
      | none => none
    | _ => none
  | _, _ => none
def convS (src dst : TypeId) : Value → Option Value
  | .int _ n => match P.underlying src, P.underlying dst with
    | some _, some (.int k) => some (.int k (k.wrap n))
    | _, _ => none
  | _ => none
def unS : UnOp → Value → Option Value
  | .neg, .int k n => some (.int k (k.wrap (0 - n)))
  | .xor, .int k n => some (.int k (xorI k (if k.signed then -1 else k.max) n))
  | .not, .bool b => some (.bool !b)
  | _, _ => none
def boundS (d y : Nat) : Option Value → Option (Nat × Bool)
  | none => some (d, true)
  | some (.int _ i) => some (i.toNat, decide (0 ≤ i) && decide (i ≤ y))
  | _ => none
def slOff (o l m n : Nat) : Nat := match l with
  | 0 => o
  | l => if m = l then o else o + l * n
def sliceS (t : TypeId) (x : Value) (lo hi mx : Option Value) : Option (Value × Bool) :=
  match mx with
  | some _ => none
  | none => match P.underlying t, x with
    | some (.array n e), .pointer (some ⟨b, o, none⟩) => match szOf P e, boundS n n hi with
      | some z, some (h, p) => match boundS 0 h lo with
        | some (l, q) => some (.slice (some ⟨b, slOff o l n z, none⟩) (h - l) (n - l), p && q)
        | none => none
      | _, _ => none
    | some (.slice e), .slice (some ⟨b, o, none⟩) len cap => match szOf P e, boundS len cap hi with
      | some z, some (h, p) => match boundS 0 h lo with
        | some (l, q) => some (.slice (some ⟨b, slOff o l cap z, none⟩) (h - l) (cap - l), p && q)
        | none => none
      | _, _ => none
    | _, _ => none
def lenS (t : TypeId) : Value → Option Value
  | .slice _ n _ => match P.underlying t with
    | some (.slice _) => some (.int .i64 n)
    | _ => none
  | .agg _ => match P.underlying t with
    | some (.array n _) => some (.int .i64 n)
    | _ => none
  | _ => none
def buildSliceS (t : TypeId) (len : Nat) (parts : List (Nat × Value)) : Option (List Value × TypeId) :=
  match P.underlying t with
  | some (.slice e) => match szOf P e, zeroOf P e with
    | some (n + 1), some z => if plain z && decide (len * (n + 1) ≤ 2 ^ 24) then
        (Instr.fill (fun i => some (i * (n + 1), n + 1)) ((Array.range (len * (n + 1))).map fun i => z.cells[i % z.cells.size]!) parts).map fun cs => (cs.toList, e) else none
    | _, _ => none
  | _ => none
def makeSliceS (t : TypeId) : Value → Value → Option (IntKind × TypeId × Nat × Nat × Bool)
  | .int _ l, .int _ c => match P.underlying t with
    | some (.slice e) => match P.underlying e, P.info? e with
      | some (.int k), some i => match i.zero with
        | some (.int k' z) => if i.size = 1 ∧ k' = k ∧ z = 0 then
          some (k, e, l.toNat, c.toNat, (IntKind.i64.wrap l == l && IntKind.i64.wrap c == c) && (decide (0 ≤ l) && decide (l ≤ c) && decide (i.bytes * c ≤ 2 ^ 48))) else none
        | _ => none
      | _, _ => none
    | _ => none
  | _, _ => none
def opS (Γ : Ctr) (t : List (Option Value)) (h : List Blk) : Op → Option (Value × List Blk × Bool)
  | .move x | .assign x => (ev t x).map fun v => (v, h, true)
  | .pick c a b => match ev t c with
    | some (.bool true) => (ev t a).map fun v => (v, h, true)
    | some (.bool false) => (ev t b).map fun v => (v, h, true)
    | _ => none
  | .alloc e => match zeroOf P e with
    | some z => if plain z then some (.pointer (some ⟨h.length, 0, none⟩), h ++ [.c (cellsL z) e], true) else none
    | none => none
  | .box e x => (ev t x).map fun v => (.pointer (some ⟨h.length, 0, none⟩), h ++ [.c (cellsL v) e], true)
  | .build ty ps => match evL t (ps.toList.map (·.2)) with
    | some vs => (buildS P ty ((ps.toList.map (·.1)).zip vs)).map fun v => (v, h, true)
    | none => none
  | .buildSlice ty len ps => match evL t (ps.toList.map (·.2)) with
    | some vs => (buildSliceS P ty len ((ps.toList.map (·.1)).zip vs)).map fun (cs, e) => (.slice (some ⟨h.length, 0, none⟩) len len, h ++ [.c cs e], true)
    | none => none
  | .makeSlice ty l c => match ev t l, ev t c with
    | some a, some b => (makeSliceS P ty a b).map fun (k, e, n, m, p) => (.slice (some ⟨h.length, 0, none⟩) n m, h ++ [.s k (List.replicate m 0) e], p)
    | _, _ => none
  | .load ty x => match ev t x with
    | some a => (loadS P ty h a).map fun (v, p) => (v, h, p)
    | none => none
  | .store ty x y => match ev t x, ev t y with
    | some a, some v => (storeS P ty h v a).map fun (h', p) => (undef, h', p)
    | _, _ => none
  | .nilCheck x => match ev t x with
    | some (.pointer (some a)) => some (.pointer (some a), h, true)
    | _ => none
  | .binOp op ty x y _ => match ev t x, ev t y with
    | some a, some b => match binS op a b with
      | some (v, p) => some (v, h, p)
      | none => (eqS P op ty a b).map fun v => (v, h, true)
    | _, _ => none
  | .unOp op _ x => match ev t x with
    | some a => (unS op a).map fun v => (v, h, true)
    | none => none
  | .convert src dst x => match ev t x with
    | some a => (convS P src dst a).map fun v => (v, h, true)
    | none => none
  | .fieldAddr ty x i => match ev t x with
    | some a => (fieldAddrS P ty i a).map fun v => (v, h, true)
    | none => none
  | .field ty x i => match ev t x with
    | some a => (fieldS P ty i a).map fun v => (v, h, true)
    | none => none
  | .indexAddr ty x i => match ev t x, ev t i with
    | some a, some b => (indexAddrS P ty a b).map fun (v, p) => (v, h, p)
    | _, _ => none
  | .index ty x i => match ev t x, ev t i with
    | some a, some b => (indexS P ty a b).map fun (v, p) => (v, h, p)
    | _, _ => none
  | .slice ty x lo hi mx => match ev t x, evO t lo, evO t hi, evO t mx with
    | some a, some l, some u, some m => (sliceS P ty a l u m).map fun (v, p) => (v, h, p)
    | _, _, _, _ => none
  | .extract x i => match ev t x with
    | some (.tuple ⟨vs⟩) => (vs[i]?).map fun v => (v, h, true)
    | _ => none
  | .call c => match c.callee with
    | .value (.func f) => match evL t c.args.toList with
      | some vs => Γ.g f vs h
      | none => none
    | .builtin .len => match c.argTypes.toList, evL t c.args.toList with
      | [ty], some [a] => (lenS P ty a).map fun v => (v, h, true)
      | _, _ => none
    | _ => none
  | _ => none
def putT (t : List (Option Value)) (d : Option Tmp) (v : Value) : List (Option Value) :=
  match d with
  | some i => t.set i (some v)
  | none => t
def takeS (Γ : Ctr) (d : Option Tmp) (v : Value) : Value × Bool :=
  match d with
  | none => (v, true)
  | some i => match Γ.sym i with
    | none => (v, true)
    | some b => match v with
      | .bool x => (.bool b, match b with | true => x | false => !x)
      | _ => (v, true)
def wantS (ops : Array Oper) (t : List (Option Value)) (o : Oper) : Option Bool :=
  match o.guard with
  | none => some true
  | some (j, want) => match (ops.toList[j]?).bind (·.dst) with
    | none => some false
    | some i => match t[i]? with
      | none => some false
      | some none => none
      | some (some (.bool b)) => some (b == want)
      | some (some _) => some false
def andT (a b : Bool) : Bool := match b with
  | true => a
  | false => false
theorem andT_iff {a b : Bool} : andT a b = true ↔ a = true ∧ b = true := by cases a <;> cases b <;> decide
def stepI (Γ : Ctr) (ops : Array Oper) (o : Oper) (s : St) : Option St :=
  match wantS ops s.t o with
  | some true => match opS P Γ s.t s.h o.op with
    | some (v, h, p) => some ⟨putT s.t o.dst (takeS Γ o.dst v).1, h, andT (andT s.ob p) (takeS Γ o.dst v).2⟩
    | none => none
  | some false => some ⟨putT s.t o.dst undef, s.h, s.ob⟩
  | none => none
def runOps (Γ : Ctr) (ops : Array Oper) : List Nat → St → Option St
  | [], s => some s
  | i :: is, s => match ops.toList[i]? with
    | none => runOps Γ ops is s
    | some o => match stepI P Γ ops o s with
      | some s' => runOps Γ ops is s'
      | none => none
def clsOf (pf : FuncId → Nat) : Op → Nat
  | .load .. => 1
  | .alloc _ | .box .. | .store .. | .buildSlice .. | .makeSlice .. => 2
  | .call c => match c.callee with
    | .value (.func f) => pf f
    | .builtin .len => 0
    | _ => 2
  | _ => 0
def commB (pf : FuncId → Nat) (ops : Array Oper) (x y : Oper) : Bool :=
  x.apart ops y && (clsOf pf x.op == 0 || clsOf pf y.op == 0 || (clsOf pf x.op == 1 && clsOf pf y.op == 1))
def maskOf (acc : List Nat) (o : Oper) : Nat :=
  o.after.toList.foldl (fun s e => if Region.binds .any e then s ||| 2 ^ e.on ||| acc.getD e.on 0 else s) 0
def masks : List Oper → List Nat → List Nat
  | [], acc => acc
  | o :: os, acc => masks os (acc ++ [maskOf acc o])
def drawOK (pf : FuncId → Nat) (ops : Array Oper) : Bool :=
  let m := masks ops.toList []
  ops.toList.zipIdx.all fun (y, j) => y.after.toList.all (fun e => !Region.binds .any e || decide (e.on < j)) &&
    (ops.toList.zipIdx.take j).all fun (x, i) => (m.getD j 0).testBit i || commB pf ops x y
def exec (Γ : Ctr) : Nat → Code → St → Option (Exit × St)
  | 0, _, _ => none
  | n + 1, c, s => match c with
    | .skip => some (.normal, s)
    | .label _ => some (.normal, s)
    | .seq a b => match exec Γ n a s with
      | some (.normal, s') => exec Γ n b s'
      | r => r
    | .cond c x y => match ev s.t c with
      | some (.bool true) => exec Γ n x s
      | some (.bool false) => exec Γ n y s
      | _ => none
    | .block id b => match exec Γ n b s with
      | some (.exit j, s') => if j = id then some (.normal, s') else some (.exit j, s')
      | r => r
    | .loop b => match exec Γ n b s with
      | some (.normal, s') => exec Γ n (.loop b) s'
      | r => r
    | .exit id => some (.exit id, s)
    | .ret => some (.ret, s)
    | .region _ ops draw => if !draw || (P.follows .mixedOrders && drawOK Γ.pf ops) then (runOps P Γ ops (List.range ops.size) s).map fun s' => (.normal, s') else none
    | _ => none
def resS (t : List (Option Value)) (h : List Blk) : List ResultVar → Option (List Value × Bool)
  | [] => some ([], true)
  | .tmp i :: rs => match ev t (.tmp i), resS t h rs with
    | some v, some (l, p) => some (v :: l, p)
    | _, _ => none
  | .cell a ty :: rs => match ev t (.tmp a) with
    | some x => match loadS P ty h x, resS t h rs with
      | some (v, q), some (l, p) => some (v :: l, andT p q)
      | _, _ => none
    | none => none
def oneOf : List Value → Value
  | [v] => v
  | vs => .tuple ⟨vs⟩
def slots0 (n : Nat) (args : List Value) : List (Option Value) := args.map some ++ List.replicate (n - args.length) none
def callS (Γ : Ctr) (n : Nat) (fn : Func) (args : List Value) (h : List Blk) : Option (Value × List Blk × Bool) :=
  match fn.body with
  | none => none
  | some c => match exec P Γ n c ⟨slots0 fn.ntmps args, h, true⟩ with
    | some (.ret, s) => (resS P s.t s.h fn.results.toList).map fun (vs, p) => (oneOf vs, s.h, andT s.ob p)
    | some (.normal, s) => (resS P s.t s.h fn.results.toList).map fun (vs, p) => (oneOf vs, s.h, andT s.ob p)
    | _ => none
end
end Go.Lift
namespace Go.Lift
open Go
section
variable {P : Program} {r : Nat → Option Pl}
theorem VR.undef : VR r undef undef := ⟨[], rfl, rfl⟩
theorem VR.int {k : IntKind} {n : Int} {v : Value} (h : VR r (.int k n) v) : v = .int k n := h
theorem VR.bool {b : Bool} {v : Value} (h : VR r (.bool b) v) : v = .bool b := h
theorem TR.get {t : List (Option Value)} {t' : List Value} (h : TR r t t') {i : Nat} {v : Value} (e : t[i]? = some (some v)) : ∃ v', t'[i]? = some v' ∧ VR r v v' := by
  have hi : i < t'.length := by rw [← h.1]; exact (List.getElem?_eq_some_iff.1 e).1
  exact ⟨t'[i], List.getElem?_eq_getElem hi, h.2 i v _ e (List.getElem?_eq_getElem hi)⟩
theorem TR.set {t : List (Option Value)} {t' : List Value} (h : TR r t t') {v v' : Value} (g : VR r v v') (i : Nat) : TR r (t.set i (some v)) (t'.set i v') := by
  refine ⟨by simp [h.1], fun j x x' hx hx' => ?_⟩
  by_cases hij : i = j
  · subst hij
    have h1 : i < t.length := by have := (List.getElem?_eq_some_iff.1 hx).1; simpa using this
    have h2 : i < t'.length := by rw [← h.1]; exact h1
    rw [List.getElem?_set_self h1] at hx
    rw [List.getElem?_set_self h2] at hx'
    cases hx; cases hx'
    exact g
  · rw [List.getElem?_set_ne hij] at hx hx'
    exact h.2 j x x' hx hx'
theorem TR.mono {s : Nat → Option Pl} (h : ∀ (i : Nat) (b : Pl), r i = some b → s i = some b) {t : List (Option Value)} {t' : List Value} (g : TR r t t') : TR s t t' :=
  ⟨g.1, fun i v v' e e' => VR.mono h v v' (g.2 i v v' e e')⟩
theorem ev_sound {t : List (Option Value)} {t' : List Value} {d : List Deferred} (h : TR r t t') {x : Operand} {v : Value} (e : ev t x = some v) : VR r v (Act.eval ⟨⟨t'⟩, d⟩ x) := by
  cases x with
  | tmp i =>
    simp only [ev] at e
    split at e
    · rename_i u hu
      cases e
      obtain ⟨v', hv', hv⟩ := h.get hu
      have : Act.eval ⟨⟨t'⟩, d⟩ (.tmp i) = v' := by
        show (⟨t'⟩ : Array Value).getD i undef = v'
        rw [Array.getD_eq_getD_getElem?]
        simp [hv']
      rw [this]
      exact hv
    · cases e
  | const c =>
    simp only [ev] at e
    split at e
    · cases e; rename_i hp; exact VR.plain _ hp
    · cases e
  | func f => simp only [ev, Option.some.injEq] at e; subst e; exact ⟨[], [], rfl, rfl, rfl⟩
  | global g => simp [ev] at e
theorem evL_sound {t : List (Option Value)} {t' : List Value} {d : List Deferred} (h : TR r t t') : ∀ {xs : List Operand} {vs : List Value}, evL t xs = some vs → LR r vs (xs.map (Act.eval ⟨⟨t'⟩, d⟩))
  | [], vs, e => by simp [evL] at e; subst e; rfl
  | x :: xs, vs, e => by
    simp only [evL] at e
    split at e
    · rename_i v vs' hx hxs; cases e
      exact ⟨_, _, ev_sound h hx, evL_sound h hxs, rfl⟩
    · cases e
def VO (r : Nat → Option Pl) : Option Value → Option Value → Prop
  | none, y => y = none
  | some x, y => ∃ z, y = some z ∧ VR r x z
theorem evO_sound {t : List (Option Value)} {t' : List Value} {d : List Deferred} (h : TR r t t') {x : Option Operand} {v : Option Value} (e : evO t x = some v) : VO r v (x.map (Act.eval ⟨⟨t'⟩, d⟩)) := by
  cases x with
  | none => simp only [evO, Option.some.injEq] at e; subst e; rfl
  | some x =>
    simp only [evO] at e
    obtain ⟨u, hu, rfl⟩ := Option.map_eq_some_iff.1 e
    exact ⟨_, rfl, ev_sound h hu⟩
theorem szOf_run {t : TypeId} {n : Nat} (h : szOf P t = some n) (w : World) : (sizeOf t).run P w = .ok n w := by
  cases hq : P.info? t with
  | none => simp [szOf, hq] at h
  | some i => simp [szOf, hq] at h; subst h; simp [sizeOf, typeInfo, hq]
theorem szOf_info {t : TypeId} {n : Nat} (h : szOf P t = some n) : ∃ i, P.info? t = some i ∧ i.size = n := by
  cases hq : P.info? t with
  | none => simp [szOf, hq] at h
  | some i => simp [szOf, hq] at h; exact ⟨i, rfl, h⟩
theorem zeroOf_run {t : TypeId} {z : Value} (h : zeroOf P t = some z) (w : World) : (zeroValue t).run P w = .ok z w := by
  cases hq : P.info? t with
  | none => simp [zeroOf, hq] at h
  | some i => simp [zeroOf, hq] at h; simp [zeroValue, typeInfo, hq, h]
theorem aggB_run {t : TypeId} {b : Bool} (h : aggB P t = some b) (w : World) : (isAgg t).run P w = .ok b w := by
  cases hq : P.underlying t with
  | none => simp [aggB, hq] at h
  | some d =>
    simp only [aggB, hq, Option.map_some, Option.some.injEq] at h
    unfold isAgg
    rw [Sem.run_bind, run_underlying hq w]
    cases d <;> simp_all
theorem VR.cells {v v' : Value} (h : VR r v v') : LR r (cellsL v) v'.cells.toList := by
  match v, h with
  | .agg ⟨xs⟩, ⟨ys, e, q⟩ => subst q; exact e
  | .tuple ⟨xs⟩, ⟨ys, e, q⟩ => subst q; exact LR.one ⟨ys, e, rfl⟩
  | .iface t x, ⟨y, e, q⟩ => subst q; exact LR.one ⟨y, e, rfl⟩
  | .func f ⟨xs⟩ ⟨zs⟩, ⟨ys, us, e, e', q⟩ => subst q; exact LR.one ⟨ys, us, e, e', rfl⟩
  | .pointer (some a), ⟨b, e, q⟩ => subst q; exact LR.one ⟨b, e, rfl⟩
  | .slice (some a) _ _, ⟨b, e, q⟩ => subst q; exact LR.one ⟨b, e, rfl⟩
  | .map (some m), ⟨b, e, q⟩ => subst q; exact LR.one ⟨b, e, rfl⟩
  | .bool _, h => cases h; exact LR.one rfl
  | .int _ _, h => cases h; exact LR.one rfl
  | .float _ _, h => cases h; exact LR.one rfl
  | .complex _ _ _, h => cases h; exact LR.one rfl
  | .string _, h => cases h; exact LR.one rfl
  | .pointer none, h => cases h; exact LR.one rfl
  | .slice none _ _, h => cases h; exact LR.one rfl
  | .map none, h => cases h; exact LR.one rfl
  | .chan _, h => cases h; exact LR.one rfl
  | .nilFunc, h => cases h; exact LR.one rfl
  | .nilIface, h => cases h; exact LR.one rfl
theorem VR.oneCell {v v' : Value} (h : VR r v v') (ho : v.oneCell' = true) : v'.oneCell' = true := by
  match v, h with
  | .agg _, _ => simp [Value.oneCell'] at ho
  | .tuple _, _ => simp [Value.oneCell'] at ho
  | .iface t x, ⟨y, e, q⟩ => subst q; rfl
  | .func f ⟨xs⟩ ⟨zs⟩, ⟨ys, us, e, e', q⟩ => subst q; rfl
  | .pointer (some a), ⟨b, e, q⟩ => subst q; rfl
  | .slice (some a) _ _, ⟨b, e, q⟩ => subst q; rfl
  | .map (some m), ⟨b, e, q⟩ => subst q; rfl
  | .bool _, h => cases h; rfl
  | .int _ _, h => cases h; rfl
  | .float _ _, h => cases h; rfl
  | .complex _ _ _, h => cases h; rfl
  | .string _, h => cases h; rfl
  | .pointer none, h => cases h; rfl
  | .slice none _ _, h => cases h; rfl
  | .map none, h => cases h; rfl
  | .chan _, h => cases h; rfl
  | .nilFunc, h => cases h; rfl
  | .nilIface, h => cases h; rfl
theorem LR.oneCell : ∀ {xs ys : List Value}, LR r xs ys → xs.all Value.oneCell' = true → ∀ v ∈ ys, v.oneCell' = true
  | [], _, e, _, v, hv => by rw [LR] at e; subst e; cases hv
  | x :: xs, _, ⟨y, zs, hy, hz, q⟩, ha, v, hv => by
    subst q; simp only [List.all_cons, Bool.and_eq_true] at ha
    rcases List.mem_cons.1 hv with rfl | hv
    · exact hy.oneCell ha.1
    · exact hz.oneCell ha.2 v hv
theorem putL_eq (vs : List Value) (o : Nat) (xs : List Value) (h : o + xs.length ≤ vs.length) : putL vs o xs = vs.take o ++ xs ++ vs.drop (o + xs.length) := by
  unfold putL
  split
  · rename_i x
    simp only [List.length_cons, List.length_nil] at h ⊢
    rw [List.set_eq_take_append_cons_drop]
    simp [show o < vs.length by omega]
  · rfl
theorem LR.putL {vs ys xs zs : List Value} {o : Nat} (h : LR r vs ys) (g : LR r xs zs) (hf : o + xs.length ≤ vs.length) :
    LR r (putL vs o xs) (ys.take o ++ zs ++ ys.drop (o + zs.length)) := by
  rw [putL_eq vs o xs hf, g.length]
  exact ((h.take o).append g).append (h.drop _)
end
section
variable {P : Program} {r : List Pl}
theorem Rel.lt {k : Nat} {w0 w : World} {h : List Blk} (R : Rel k w0 r h w) {i : Nat} {p : Pl} (hi : r[i]? = some p) : p.n < w.heap.size := by
  have hi' : i < h.length := by rw [← R.len]; exact (List.getElem?_eq_some_iff.1 hi).1
  obtain ⟨m, o, hn, ho, _⟩ := R.blk i _ (List.getElem?_eq_getElem hi')
  rw [hi] at hn; cases hn
  exact (Array.getElem?_eq_some_iff.1 ho).1
theorem Rel.block {k : Nat} {w0 w : World} {h : List Blk} (R : Rel k w0 r h w) {b : Nat} {bl : Blk} {e : TypeId} (hb : h[b]? = some bl) (he : bl.own = some e) :
    ∃ p ys, r[b]? = some p ∧ p.base = 0 ∧ p.ro = false ∧ w.heap[p.n]? = some (.cells ⟨ys⟩ e (0, 0)) ∧ LR (lk r) bl.vals ys := by
  obtain ⟨p, o, hn, ho, hbr, _⟩ := R.blk b _ hb
  obtain ⟨h1, h2, ys, hl, q⟩ := hbr e he
  subst q
  exact ⟨p, ys, hn, h1, h2, ho, hl⟩
theorem Rel.cells {k : Nat} {w0 w : World} {h : List Blk} (R : Rel k w0 r h w) {b : Nat} {bl : Blk} (hb : h[b]? = some bl) :
    ∃ p ys, r[b]? = some p ∧ LR (lk r) bl.vals ys ∧ ∀ j y, ys[j]? = some y → w.cell? ⟨p.n, p.base + j, none⟩ = some y := by
  obtain ⟨p, o, hn, ho, hbr1, hbr2⟩ := R.blk b _ hb
  cases hown : bl.own with
  | some t =>
    obtain ⟨h1, _, ys, hl, q⟩ := hbr1 t hown
    subst q
    refine ⟨p, ys, hn, hl, fun j y hy => ?_⟩
    rw [World.cell?, ho, h1]
    simpa using hy
  | none =>
    obtain ⟨_, c, t, fr, q, hl⟩ := hbr2 hown
    subst q
    refine ⟨p, _, hn, hl, fun j y hy => ?_⟩
    rw [World.cell?, ho]
    have hj : j < bl.vals.length := by
      have := (List.getElem?_eq_some_iff.1 hy).1
      simp only [List.length_take] at this; omega
    rw [List.getElem?_take_of_lt hj, List.getElem?_drop] at hy
    simpa using hy
theorem intsV_get {k : IntKind} {xs : List Int} {o : Nat} (h : o < xs.length) : (intsV k xs)[o]? = some (.int k (xs.getD o 0)) := by
  simp [intsV, List.getD, List.getElem?_eq_getElem h]
theorem intsV_length {k : IntKind} {xs : List Int} : (intsV k xs).length = xs.length := by simp [intsV]
theorem cellAt_sound {o : Nat} {b : Blk} {v : Value} (h : cellAt o b = some (v, true)) : b.vals[o]? = some v := by
  cases b <;> simp only [cellAt] at h
  case c vs t => obtain ⟨x, hx, q⟩ := Option.map_eq_some_iff.1 h; cases q; exact hx
  case r vs => obtain ⟨x, hx, q⟩ := Option.map_eq_some_iff.1 h; cases q; exact hx
  all_goals
    simp only [Option.some.injEq, Prod.mk.injEq, decide_eq_true_eq] at h
    rw [← h.1]; exact intsV_get h.2
theorem cellsAt_sound {o n : Nat} {b : Blk} (h : (cellsAt o n b).2 = true) : (cellsAt o n b).1 = (b.vals.drop o).take n ∧ o + n ≤ b.vals.length := by
  have key : ∀ (k : IntKind) (xs : List Int), (intCells k xs n o).2 = true → (intCells k xs n o).1 = ((intsV k xs).drop o).take n ∧ o + n ≤ (intsV k xs).length := fun k xs => by
    rw [intsV_length]
    unfold intCells
    split
    · intro h
      simp only [beq_iff_eq] at h
      subst h
      refine ⟨?_, by omega⟩
      rw [List.drop_zero, List.take_of_length_le (by rw [intsV_length]; exact Nat.le_refl _)]
    · intro h
      simp only [decide_eq_true_eq] at h
      exact ⟨by simp [intsV, List.map_take, List.map_drop], h⟩
  cases b with
  | c vs t => simp only [cellsAt, decide_eq_true_eq] at h ⊢; exact ⟨rfl, h⟩
  | r vs => simp only [cellsAt, decide_eq_true_eq] at h ⊢; exact ⟨rfl, h⟩
  | s k xs t => exact key k xs h
  | rs k xs => exact key k xs h
theorem putB_sound {o : Nat} {cs : List Value} {b b' : Blk} (h : putB o cs b = some (b', true)) : ∃ t, b.own = some t ∧ b'.own = some t ∧ o + cs.length ≤ b.vals.length ∧ b'.vals = putL b.vals o cs := by
  unfold putB at h
  split at h
  · rename_i vs t
    simp only [Option.some.injEq, Prod.mk.injEq, decide_eq_true_eq] at h
    obtain ⟨rfl, h⟩ := h
    exact ⟨t, rfl, rfl, h, rfl⟩
  · rename_i k xs t
    split at h
    · rename_i k' n
      split at h
      · rename_i hk
        subst hk
        simp only [Option.some.injEq, Prod.mk.injEq, decide_eq_true_eq] at h
        obtain ⟨rfl, h⟩ := h
        refine ⟨t, rfl, rfl, by simp [Blk.vals, intsV_length]; omega, ?_⟩
        simp [Blk.vals, putL, intsV, List.map_set]
      · cases h
    · simp only [Option.some.injEq, Prod.mk.injEq, decide_eq_true_eq] at h
      obtain ⟨rfl, h⟩ := h
      exact ⟨t, rfl, rfl, by simp [Blk.vals, intsV_length]; omega, rfl⟩
  · cases h
theorem addr_add (n o j : Nat) : (⟨n, o, none⟩ : Addr).add j = ⟨n, o + j, none⟩ := by unfold Addr.add; split <;> simp_all
theorem loadS_sound {k : Nat} {w0 w : World} {h : List Blk} (R : Rel k w0 r h w) {ty : TypeId} {a v a' : Value} (e : loadS P ty h a = some (v, true)) (ha : VR (lk r) a a') :
    ∃ n o v', a' = .pointer (some ⟨n, o, none⟩) ∧ (loadVar ty ⟨n, o, none⟩).run P w = .ok v' w ∧ VR (lk r) v v' := by
  unfold loadS at e
  split at e
  · rename_i b o
    obtain ⟨p, hn, q⟩ := ha
    subst q
    split at e
    · rename_i bl hb
      obtain ⟨p', ys, hn', hl, hcell⟩ := R.cells hb
      have hn2 : r[b]? = some p := hn
      rw [hn2] at hn'; cases hn'
      refine ⟨p.n, p.base + o, ?_⟩
      split at e
      · rename_i hagg
        split at e
        · rename_i m hm
          simp only [Option.some.injEq, Prod.mk.injEq] at e
          obtain ⟨rfl, e2⟩ := e
          obtain ⟨e1, hle⟩ := cellsAt_sound e2
          rw [e1]
          have hlen : ((ys.drop o).take m).length = m := by simp [List.length_take, List.length_drop, hl.length]; omega
          have hrun := run_loadCells_list (P := P) w ⟨p.n, p.base + o, none⟩ ((ys.drop o).take m) (fun j v hv => by
            rw [addr_add, Nat.add_assoc]
            apply hcell
            have hj : j < m := by
              have := (List.getElem?_eq_some_iff.1 hv).1
              omega
            rwa [List.getElem?_take_of_lt hj, List.getElem?_drop] at hv)
          rw [hlen] at hrun
          refine ⟨.agg ⟨(ys.drop o).take m⟩, rfl, ?_, _, (hl.drop o).take m, rfl⟩
          simp [loadVar, Sem.run_bind, aggB_run hagg, szOf_run hm, hrun]
        · cases e
      · rename_i hagg
        obtain ⟨y, hy, hv⟩ := hl.get (cellAt_sound e)
        refine ⟨y, rfl, ?_, hv⟩
        simp [loadVar, Sem.run_bind, aggB_run hagg, run_load, hcell o y hy]
      · cases e
    · cases e
  · cases e
theorem Rel.setRow {k : Nat} {w0 w : World} {h : List Blk} (R : Rel k w0 r h w) {b : Nat} {p : Pl} {bl : Blk} {ys : List Value} {e : TypeId} {old : Array Value} (hb : b < h.length) (hn : r[b]? = some p)
    (h0 : p.base = 0) (hro : p.ro = false) (hg : w.heap[p.n]? = some (.cells old e (0, 0))) (he : bl.own = some e) (hl : LR (lk r) bl.vals ys) : Rel k w0 r (h.set b bl) (w.setRow p.n ⟨ys⟩) where
  os := R.os
  tape := R.tape
  output := R.output
  size := by have := R.size; simpa [World.setRow] using this
  nodup := R.nodup
  len := by simpa using R.len
  news := R.news
  blk := fun i x hx => by
    by_cases hi : b = i
    · subst hi
      rw [List.getElem?_set_self hb] at hx
      cases hx
      refine ⟨p, _, hn, setRow_heap w p.n old ⟨ys⟩ e (0, 0) hg, fun t ht => ?_, fun hnone => ?_⟩
      · rw [he] at ht; cases ht; exact ⟨h0, hro, ys, hl, rfl⟩
      · rw [he] at hnone; cases hnone
    · rw [List.getElem?_set_ne hi] at hx
      obtain ⟨m, o, hm, ho, hr⟩ := R.blk i x hx
      refine ⟨m, o, hm, ?_, hr⟩
      rw [setRow_other w p.n m.n ⟨ys⟩ (fun q => ?_), ho]
      rcases R.nodup i b m p hm hn q with h1 | ⟨_, h1⟩
      · exact hi h1.symm
      · rw [hro] at h1; cases h1
  old := fun m hm hnot => by
    have : m ≠ p.n := fun q => by
      subst q
      rcases Nat.lt_or_ge b k with hk | hk
      · have := hnot b p hk hn rfl
        rw [hro] at this; cases this
      · have := R.news b p hk hn; omega
    rw [setRow_other w p.n m ⟨ys⟩ this]
    exact R.old m hm hnot
  kle := by simpa using R.kle
theorem storeS_sound {k : Nat} {w0 w : World} {h h' : List Blk} (R : Rel k w0 r h w) {ty : TypeId} {a x a' x' : Value} (e : storeS P ty h x a = some (h', true)) (ha : VR (lk r) a a') (hx : VR (lk r) x x') :
    ∃ n o w', a' = .pointer (some ⟨n, o, none⟩) ∧ (storeVar ty ⟨n, o, none⟩ x').run P w = .ok () w' ∧ Rel k w0 r h' w' := by
  unfold storeS at e
  split at e
  · rename_i b o
    obtain ⟨p, hn, q⟩ := ha
    subst q
    split at e
    · rename_i bl hb
      split at e
      · rename_i hc
        simp only [Bool.and_eq_true, beq_iff_eq] at hc
        obtain ⟨hs, hone⟩ := hc
        obtain ⟨⟨bl', q⟩, hput, e⟩ := Option.map_eq_some_iff.1 e
        simp only [Prod.mk.injEq] at e
        obtain ⟨rfl, rfl⟩ := e
        obtain ⟨et, hown, hown', hf, hvals⟩ := putB_sound hput
        obtain ⟨p', ys, hn', h0, hro, hg, hl⟩ := R.block hb hown
        have hn2 : r[b]? = some p := hn
        rw [hn2] at hn'; cases hn'
        have hcx := hx.cells
        have hlen : x'.cells.toList.length = (cellsL x).length := hcx.length
        have hst := run_storeCells_at P p.n o et x'.cells.toList 0 ⟨ys⟩ w hg (by simp only [Nat.add_zero]; rw [hlen]; simpa [hl.length] using hf) (hcx.oneCell hone)
        refine ⟨p.n, o, _, by rw [h0, Nat.zero_add], ?_, R.setRow (bl := bl') (List.getElem?_eq_some_iff.1 hb).1 hn2 h0 hro hg hown' (by rw [hvals]; exact hl.putL hcx hf)⟩
        have hsz : x'.cells.size = (cellsL x).length := by rw [← hlen]; simp
        simp only [Nat.add_zero] at hst
        unfold storeVar
        rw [Sem.run_bind, szOf_run hs w]
        simp only [Result.andThen, hsz, ne_eq, not_true, if_false]
        rw [hst]
      · cases e
    · cases e
  · cases e
theorem Rel.alloc {k : Nat} {w0 w : World} {h : List Blk} (R : Rel k w0 r h w) {bl : Blk} {ys : List Value} {e : TypeId} (ho : bl.own = some e) (hl : LR (lk r) bl.vals ys) :
    Rel k w0 (r ++ [⟨w.heap.size, 0, false⟩]) (h ++ [bl]) (w.alloc (.cells ⟨ys⟩ e)) := by
  have hmono : ∀ (i : Nat) (b : Pl), r[i]? = some b → (r ++ [⟨w.heap.size, 0, false⟩])[i]? = some b := fun i b hi => by
    rw [List.getElem?_append_left (List.getElem?_eq_some_iff.1 hi).1]; exact hi
  have hcase : ∀ (i : Nat) (b : Pl), (r ++ [⟨w.heap.size, 0, false⟩])[i]? = some b → (r[i]? = some b) ∨ (i = r.length ∧ b = ⟨w.heap.size, 0, false⟩) := fun i b hi => by
    rcases Nat.lt_or_ge i r.length with h1 | h1
    · left; rwa [List.getElem?_append_left h1] at hi
    · right
      rw [List.getElem?_append_right h1] at hi
      have h2 := (List.getElem?_eq_some_iff.1 hi).1
      simp at h2
      have : i = r.length := by omega
      subst this
      simp at hi
      exact ⟨rfl, hi.symm⟩
  exact {
    os := R.os
    tape := R.tape
    output := R.output
    size := by have := R.size; rw [World.size_alloc]; omega
    nodup := fun i j p q hi hj e => by
      rcases hcase i p hi with h1 | ⟨h1, h1'⟩ <;> rcases hcase j q hj with h2 | ⟨h2, h2'⟩
      · exact R.nodup i j p q h1 h2 e
      · have := R.lt h1; subst h2'; simp at e; omega
      · have := R.lt h2; subst h1'; simp at e; omega
      · left; omega
    len := by simp [R.len]
    news := fun i b hk hi => by
      rcases hcase i b hi with h1 | ⟨_, h1⟩
      · exact R.news i b hk h1
      · have := R.size; subst h1; exact this
    blk := fun i x hx => by
      rcases Nat.lt_or_ge i h.length with h1 | h1
      · rw [List.getElem?_append_left h1] at hx
        obtain ⟨n, o, hn, ho, hr⟩ := R.blk i x hx
        exact ⟨n, o, hmono i n hn, by rw [heap_alloc_old w _ n.n (R.lt hn)]; exact ho, BR.mono hmono hr⟩
      · rw [List.getElem?_append_right h1] at hx
        have h2 := (List.getElem?_eq_some_iff.1 hx).1
        simp at h2
        have : i = h.length := by omega
        subst this
        simp at hx
        subst hx
        exact ⟨⟨w.heap.size, 0, false⟩, _, by rw [← R.len]; simp, heap_alloc_new w _, fun t ht => by rw [ho] at ht; cases ht; exact ⟨rfl, rfl, ys, LR.mono hmono _ _ hl, rfl⟩, fun hnone => by rw [ho] at hnone; cases hnone⟩
    old := fun n hn hnot => by
      rw [heap_alloc_old w _ n (by have := R.size; omega)]
      exact R.old n hn fun i p hi hp => hnot i p hi (hmono i p hp)
    kle := by simp; have := R.kle; omega }
end
end Go.Lift
namespace Go.Lift
open Go
section
variable {P : Program} {r : Nat → Option Pl}
theorem bits_run (op : BinOp) (k : IntKind) (a b : Int) (w : World) (v : Value) (p : Bool) (T : TypeId) (x y : Operand) (h : binS op (.int k a) (.int k b) = some (v, p)) (hp : p = true) (ho : op ≠ .shl) (ho' : op ≠ .shr) :
    (do eqGuard op T x y (.int k a) (.int k b); binOp op T (.int k a) (.int k b) : Sem Value).run P w = .ok v w := by
  have hg : (eqGuard op T x y (.int k a) (.int k b)).run P w = .ok () w := by
    unfold eqGuard; split <;> simp
  rw [Sem.run_bind, hg]
  simp only [Result.andThen]
  cases op <;> simp [binS] at h <;> first | contradiction | skip
  all_goals (try (obtain ⟨rfl, rfl⟩ := h))
  all_goals (try simp at hp)
  all_goals (try simp [binOp, Op.intArith, Op.intBits, Op.intCmp, Op.intDiv, andI, orI, xorI, andNotI, bitsI, hp, -Sem.run_bind])
theorem binS_sound {op : BinOp} {a b a' b' v : Value} {p : Bool} (h : binS op a b = some (v, p)) (hp : p = true) (ha : VR r a a') (hb : VR r b b') (T : TypeId) (x y : Operand) (w : World) :
    (do eqGuard op T x y a' b'; binOp op T a' b' : Sem Value).run P w = .ok v w ∧ VR r v v := by
  have key : ∃ k n k' m, a = .int k n ∧ b = .int k' m := by
    unfold binS at h
    split at h
    · rename_i k n k' m; exact ⟨k, n, k', m, rfl, rfl⟩
    · cases h
  obtain ⟨k, n, k', m, rfl, rfl⟩ := key
  cases ha; cases hb
  by_cases h1 : op = .shl
  · subst h1
    simp only [binS, Option.some.injEq, Prod.mk.injEq] at h
    obtain ⟨rfl, rfl⟩ := h
    simp only [decide_eq_true_eq] at hp
    refine ⟨?_, rfl⟩
    have : ¬ m < 0 := by omega
    simp [eqGuard, binOp, Op.shift, this, shlI]
  by_cases h2 : op = .shr
  · subst h2
    simp only [binS, Option.some.injEq, Prod.mk.injEq] at h
    obtain ⟨rfl, rfl⟩ := h
    simp only [decide_eq_true_eq] at hp
    refine ⟨?_, rfl⟩
    have : ¬ m < 0 := by omega
    simp [eqGuard, binOp, Op.shift, this, shrI]
  have hk : k = k' := by
    by_cases hk : k = k'
    · exact hk
    · cases op <;> simp [binS, hk] at h <;> contradiction
  subst hk
  refine ⟨bits_run op k n m w v p T x y h hp h1 h2, ?_⟩
  cases op <;> simp [binS] at h <;> first | contradiction | (obtain ⟨rfl, _⟩ := h; rfl)
def flatV (P : Program) (t : TypeId) (k : IntKind) (l : List Int) : Value := match aggB P t with
  | some false => .int k (l.getD 0 0)
  | _ => aggI k l
theorem part_flat {e : TypeId} {k : IntKind} {m o : Nat} {l : List Int} (hs : szOf P e = some m) (hk : (P.underlying e).isSome = true) (hm : (aggB P e = some false → m = 1)) (h : o + m ≤ l.length) (w : World) :
    (part e ⟨intsV k l⟩ o).run P w = .ok (flatV P e k ((l.drop o).take m)) w := by
  cases hb : aggB P e with
  | none => simp [aggB] at hb; simp [hb] at hk
  | some b =>
    cases b with
    | true => simp [part, aggB_run hb, szOf_run hs, flatV, hb, aggI, intsV, List.extract_eq_take_drop, List.map_take, List.map_drop]
    | false =>
      have := hm hb
      subst this
      have ho : o < l.length := by omega
      simp [part, aggB_run hb, flatV, hb, intsV, List.getElem?_eq_getElem ho, List.getD]
def eqParts (d : Nat) (e : TypeId) (n : Nat) (xs ys : Array Value) : Nat → Nat → Sem Bool
  | 0, _ => pure true
  | c + 1, i => do
    let a ← part e xs (i * n)
    let b ← part e ys (i * n)
    let r ← Op.equalIn d e a b
    if (!r) = true then pure false else eqParts d e n xs ys c (i + 1)
theorem run_equalIn_array (w : World) (d : Nat) (t e : TypeId) (len n : Nat) (xs ys : Array Value) (ht : P.underlying t = some (.array len e)) (hs : szOf P e = some n) :
    (Op.equalIn (d + 1) t (.agg xs) (.agg ys)).run P w = (eqParts d e n xs ys len 0).run P w := by
  simp only [Op.equalIn, Sem.run_bind, run_underlying ht, Result.andThen_ok, szOf_run hs, Std.Legacy.Range.forIn_eq_forIn_range']
  have hz : Std.Legacy.Range.size [:len] = len := by simp [Std.Legacy.Range.size]
  rw [hz]
  clear ht hz
  generalize 0 = i
  induction len generalizing w i with
  | zero => simp [eqParts]
  | succ len ih =>
    simp only [List.range'_succ, List.forIn_cons, eqParts, Sem.run_bind, Sem.run_ite]
    generalize (part e xs (i * n)).run P w = r1
    cases r1 with
    | ok a w1 =>
      simp only [Result.andThen_ok]
      generalize (part e ys (i * n)).run P w1 = r2
      cases r2 with
      | ok b w2 =>
        simp only [Result.andThen_ok]
        generalize (Op.equalIn d e a b).run P w2 = r3
        cases r3 with
        | ok r w3 =>
          cases r
          · simp only [Result.andThen_ok, Bool.not_false, if_true, Sem.run_pure]
          · simp only [Result.andThen_ok, Bool.not_true, Bool.false_eq_true, if_false, Sem.run_pure]
            exact ih w3 (i + 1)
        | halt x w3 => simp [Result.andThen]
      | halt x w2 => simp [Result.andThen]
    | halt x w1 => simp [Result.andThen]
theorem flatK_agg : ∀ {d : Nat} {t : TypeId} {k : IntKind} {n : Nat}, flatK P d t = some (k, n) → (P.underlying t).isSome = true ∧ (aggB P t = some false → n = 1)
  | 0, t, k, n, h => by simp [flatK] at h
  | d + 1, t, k, n, h => by
    unfold flatK at h
    split at h
    · rename_i k' hu; cases h; exact ⟨by simp [hu], fun _ => rfl⟩
    · rename_i hu; exact ⟨by simp [hu], fun hq => by simp [aggB, hu] at hq⟩
    · rename_i hu; exact ⟨by simp [hu], fun hq => by simp [aggB, hu] at hq⟩
    · cases h
theorem decide_split (l m : List Int) (n : Nat) : decide (l = m) = (decide (l.take n = m.take n) && decide (l.drop n = m.drop n)) := by
  rw [Bool.eq_iff_iff]
  simp only [Bool.and_eq_true, decide_eq_true_eq]
  constructor
  · rintro rfl; exact ⟨rfl, rfl⟩
  · rintro ⟨h1, h2⟩; rw [← List.take_append_drop n l, ← List.take_append_drop n m, h1, h2]
def EqAt (P : Program) (d : Nat) (t : TypeId) (k : IntKind) (n : Nat) : Prop :=
  ∀ (d' : Nat), d ≤ d' → ∀ (l m : List Int), l.length = n → m.length = n → ∀ w : World, (Op.equalIn d' t (flatV P t k l) (flatV P t k m)).run P w = .ok (decide (l = m)) w
theorem eqParts_flat {d d' : Nat} {e : TypeId} {k : IntKind} {z : Nat} (hd : d ≤ d') (hs : szOf P e = some z) (hf : flatK P d e = some (k, z)) (ih : EqAt P d e k z) {l m : List Int} (hlm : l.length = m.length) (w : World) : ∀ (c i : Nat), (i + c) * z = l.length →
    (eqParts d' e z ⟨intsV k l⟩ ⟨intsV k m⟩ c i).run P w = .ok (decide (l.drop (i * z) = m.drop (i * z))) w
  | 0, i, h => by
    have h1 : l.drop (i * z) = [] := List.drop_eq_nil_of_le (by simp at h; omega)
    have h2 : m.drop (i * z) = [] := List.drop_eq_nil_of_le (by simp at h; omega)
    simp [eqParts, h1, h2]
  | c + 1, i, h => by
    obtain ⟨hk, hone⟩ := flatK_agg hf
    have hfit : i * z + z ≤ l.length := by
      rw [← h, Nat.add_mul, Nat.add_mul]; omega
    have hsucc : (i + 1) * z = i * z + z := by rw [Nat.add_mul]; omega
    have p1 := part_flat (k := k) hs hk hone hfit w
    have p2 := part_flat (k := k) hs hk hone (l := m) (o := i * z) (by omega) w
    have q := ih d' hd ((l.drop (i * z)).take z) ((m.drop (i * z)).take z) (by simp; omega) (by simp; omega) w
    have hrec := eqParts_flat hd hs hf ih hlm w c (i + 1) (by rw [← h]; congr 1; omega)
    simp only [eqParts, Sem.run_bind, p1, p2, q, Result.andThen_ok, Sem.run_ite, hrec, hsucc]
    rw [decide_split (l.drop (i * z)) (m.drop (i * z)) z, List.drop_drop, List.drop_drop]
    cases decide ((l.drop (i * z)).take z = (m.drop (i * z)).take z) <;> simp
theorem eqFields_flat {d d' : Nat} {k : IntKind} (hd : d ≤ d') (ih : ∀ (t : TypeId) (n : Nat), flatK P d t = some (k, n) → EqAt P d t k n) {l m : List Int} (hlm : l.length = m.length) (w : World) : ∀ (fs : List Field) (a : Nat) (k' : IntKind), flatFs P (fun t => flatK P d t) k a fs = some (k', l.length) →
    k' = k ∧ a ≤ l.length ∧ (Op.eqFields d' ⟨intsV k l⟩ ⟨intsV k m⟩ fs).run P w = .ok (decide (l.drop a = m.drop a)) w
  | [], a, k', h => by
    simp only [flatFs, Option.some.injEq, Prod.mk.injEq] at h
    obtain ⟨rfl, rfl⟩ := h
    refine ⟨rfl, Nat.le_refl _, ?_⟩
    have h1 : l.drop l.length = [] := List.drop_eq_nil_of_le (Nat.le_refl _)
    have h2 : m.drop l.length = [] := List.drop_eq_nil_of_le (by omega)
    simp [Op.eqFields, h1, h2]
  | f :: fs, a, k', h => by
    simp only [flatFs] at h
    split at h
    · rename_i k2 z hf
      split at h
      · rename_i hc
        obtain ⟨rfl, hname, hoff, hs⟩ := hc
        obtain ⟨hkk, hle, hrec⟩ := eqFields_flat hd ih hlm w fs (a + z) k' h
        obtain ⟨hk, hone⟩ := flatK_agg hf
        have p1 := part_flat hs hk hone (l := l) (o := a) (k := k2) (by omega) w
        have p2 := part_flat hs hk hone (l := m) (o := a) (k := k2) (by omega) w
        have q := ih f.type z hf d' hd ((l.drop a).take z) ((m.drop a).take z) (by simp; omega) (by simp; omega) w
        refine ⟨hkk, by omega, ?_⟩
        simp only [Op.eqFields, hname, ne_eq, not_false_eq_true, if_true, hoff, Sem.run_bind, p1, p2, q, Result.andThen_ok, Sem.run_ite, hrec]
        rw [decide_split (l.drop a) (m.drop a) z, List.drop_drop, List.drop_drop]
        cases decide ((l.drop a).take z = (m.drop a).take z) <;> simp
      · cases h
    · cases h
theorem equal_flat : ∀ (d : Nat) (t : TypeId) (k : IntKind) (n : Nat), flatK P d t = some (k, n) → EqAt P d t k n
  | 0, t, k, n, h => by simp [flatK] at h
  | d + 1, t, k, n, h => by
    intro d' hd l m hl hm w
    obtain ⟨d', rfl⟩ : ∃ e, d' = e + 1 := ⟨d' - 1, by omega⟩
    unfold flatK at h
    split at h
    · rename_i k' hu
      cases h
      have hb : aggB P t = some false := by simp [aggB, hu]
      match l, hl, m, hm with
      | [a], _, [b], _ =>
        simp only [flatV, hb, List.getD_cons_zero]
        rw [run_equalIn_int w d' t k k a b hu]
        by_cases hab : a = b <;> simp [hab]
    · rename_i len e hu
      have hb : aggB P t = some true := by simp [aggB, hu]
      split at h
      · rename_i k2 z hf
        split at h
        · rename_i hs
          simp only [Option.some.injEq, Prod.mk.injEq] at h
          obtain ⟨rfl, rfl⟩ := h
          simp only [flatV, hb, aggI]
          rw [run_equalIn_array w d' t e len z _ _ hu hs]
          have := eqParts_flat (d := d) (d' := d') (by omega) hs hf (equal_flat d e k2 z hf) (l := l) (m := m) (by omega) w len 0 (by simp [hl])
          simpa using this
        · cases h
      · cases h
    · rename_i fs hu
      have hb : aggB P t = some true := by simp [aggB, hu]
      split at h
      · cases h
      · rename_i hst
        split at h
        · cases h
        · rename_i f rest hfs
          split at h
          · rename_i k2 z hf
            split at h
            · rename_i hc
              obtain ⟨hname, hoff, hs⟩ := hc
              have hfields : P.fieldsOf t = fs := by simp [Program.fieldsOf, hu]
              have h' : flatFs P (fun t => flatK P d t) k2 0 (f :: rest) = some (k, l.length) := by
                simp only [flatFs, hf, hoff, hs, hname, ne_eq, not_false_eq_true, and_self, if_true, Nat.zero_add]
                rw [h, hl]
              obtain ⟨hk, _, hrun⟩ := eqFields_flat (d := d) (d' := d') (by omega) (fun t n ht => equal_flat d t k2 n ht) (l := l) (m := m) (by omega) w (f :: rest) 0 k h'
              subst hk
              simp only [flatV, hb, aggI]
              rw [run_equalIn_struct w d' t _ _ (by rw [hfields]; exact hu) (by simpa using hst), hfields, hfs, hrun]
              simp
            · cases h
          · cases h
    · cases h
theorem eqS_sound {op : BinOp} {T : TypeId} {a b a' b' v : Value} (h : eqS P op T a b = some v) (ha : VR r a a') (hb : VR r b b') (x y : Operand) (w : World) :
    (do eqGuard op T x y a' b'; binOp op T a' b' : Sem Value).run P w = .ok v w ∧ VR r v v := by
  unfold eqS at h
  split at h
  · rename_i cs ds
    split at h
    · cases h
    · rename_i hg
      split at h
      · rename_i k n hf
        split at h
        · rename_i l m hl hm
          obtain ⟨hcs, hln⟩ := intsN_eq hl
          obtain ⟨hds, hmn⟩ := intsN_eq hm
          rw [lst_eq hln] at hcs
          rw [lst_eq hmn] at hds
          subst hcs hds
          have ea := VR.eq_of_plain _ _ (by simp [plain, plain_ints]) ha
          have eb := VR.eq_of_plain _ _ (by simp [plain, plain_ints]) hb
          subst ea eb
          simp only [Bool.or_eq_true, beq_iff_eq, not_or, Bool.not_eq_true] at hg
          have hguard := run_eqGuard_agg (P := P) w op T x y ⟨intsV k l⟩ ⟨intsV k m⟩ hg.1
          have hq : aggB P T ≠ some false → (Op.equalIn 10000 T (aggI k l) (aggI k m)).run P w = .ok (decide (l = m)) w := fun hne => by
            have := equal_flat 20 T k n hf 10000 (by omega) l m hln hmn w
            have hv : ∀ z : List Int, flatV P T k z = aggI k z := fun z => by
              unfold flatV
              split
              · rename_i h1; exact absurd h1 hne
              · rfl
            rwa [hv, hv] at this
          have hrun := hq hg.2
          simp only [aggI] at hrun
          split at h
          · cases h
            refine ⟨?_, rfl⟩
            rw [Sem.run_bind, hguard, Result.andThen_ok, run_eql_struct, hrun]
            rfl
          · cases h
            refine ⟨?_, rfl⟩
            rw [Sem.run_bind, hguard, Result.andThen_ok, run_neq_struct, hrun]
            rfl
          · cases h
        · cases h
      · cases h
  · rename_i a b
    cases ha; cases hb
    split at h
    · rename_i hu
      have hguard : (eqGuard op T x y (.bool a) (.bool b)).run P w = .ok () w := by unfold eqGuard; split <;> simp
      split at h
      · cases h
        refine ⟨?_, rfl⟩
        rw [Sem.run_bind, hguard, Result.andThen_ok]
        simp [binOp, Op.equal, Op.maxDepth, run_equalIn_bool' w 9999 T a b hu]
      · cases h
        refine ⟨?_, rfl⟩
        rw [Sem.run_bind, hguard, Result.andThen_ok]
        simp [binOp, Op.equal, Op.maxDepth, run_equalIn_bool' w 9999 T a b hu]
      · cases h
    · cases h
  · cases h
theorem foldl_set_LR (o : Nat) : ∀ (l l' : List Value) (i : Nat) (cs cs' : Array Value), LR r l l' → LR r cs.toList cs'.toList →
    LR r ((l.zipIdx i).foldl (fun cs (c, j) => cs.setIfInBounds (o + j) c) cs).toList ((l'.zipIdx i).foldl (fun cs (c, j) => cs.setIfInBounds (o + j) c) cs').toList
  | [], l', i, cs, cs', e, h => by rw [LR] at e; subst e; simpa using h
  | x :: l, _, i, cs, cs', ⟨y, zs, hy, hz, q⟩, h => by
    subst q
    simp only [List.zipIdx_cons, List.foldl_cons]
    exact foldl_set_LR o l zs (i + 1) _ _ hz (by simp only [Array.toList_setIfInBounds]; exact h.set hy)
theorem VR.cellsSize {v v' : Value} (h : VR r v v') : v'.cells.size = v.cells.size := by
  match v, h with
  | .agg ⟨xs⟩, ⟨ys, e, q⟩ => subst q; simpa [Value.cells] using e.length
  | .tuple ⟨xs⟩, ⟨ys, e, q⟩ => subst q; rfl
  | .iface t x, ⟨y, e, q⟩ => subst q; rfl
  | .func f ⟨xs⟩ ⟨zs⟩, ⟨ys, us, e, e', q⟩ => subst q; rfl
  | .pointer (some a), ⟨b, e, q⟩ => subst q; rfl
  | .slice (some a) _ _, ⟨b, e, q⟩ => subst q; rfl
  | .map (some m), ⟨b, e, q⟩ => subst q; rfl
  | .bool _, h => cases h; rfl
  | .int _ _, h => cases h; rfl
  | .float _ _, h => cases h; rfl
  | .complex _ _ _, h => cases h; rfl
  | .string _, h => cases h; rfl
  | .pointer none, h => cases h; rfl
  | .slice none _ _, h => cases h; rfl
  | .map none, h => cases h; rfl
  | .chan _, h => cases h; rfl
  | .nilFunc, h => cases h; rfl
  | .nilIface, h => cases h; rfl
theorem VR.cells2 {v v' : Value} (h : VR r v v') : LR r v.cells.toList v'.cells.toList := by
  have := h.cells
  have e : v.cells.toList = cellsL v := by cases v <;> rfl
  rwa [e]
def PR (r : Nat → Option Pl) : List (Nat × Value) → List (Nat × Value) → Prop
  | [], ys => ys = []
  | (i, x) :: xs, ys => ∃ y zs, VR r x y ∧ PR r xs zs ∧ ys = (i, y) :: zs
theorem fill_sound (place : Nat → Option (Nat × Nat)) : ∀ (ps ps' : List (Nat × Value)) (cs cs' out : Array Value), PR r ps ps' → LR r cs.toList cs'.toList → Instr.fill place cs ps = some out →
    ∃ out', Instr.fill place cs' ps' = some out' ∧ LR r out.toList out'.toList
  | [], _, cs, cs', out, e, h, q => by
    rw [PR] at e; subst e; simp only [Instr.fill, Option.some.injEq] at q ⊢; subst q; exact ⟨cs', rfl, h⟩
  | (i, x) :: ps, _, cs, cs', out, ⟨y, zs, hy, hz, e⟩, h, q => by
    subst e
    simp only [Instr.fill] at q ⊢
    split at q
    · cases q
    · rename_i o n hpl
      have hsz := hy.cellsSize
      have hcs : cs'.size = cs.size := by have := h.length; simpa using this
      simp only [hsz, hcs]
      split at q
      · cases q
      · rename_i hc
        rw [if_neg hc]
        refine fill_sound place ps zs _ _ out hz ?_ q
        have := foldl_set_LR (r := r) o x.cells.toList y.cells.toList 0 cs cs' hy.cells2 h
        have e : ∀ a c : Array Value, a.zipIdx.foldl (fun cs (x : Value × Nat) => cs.setIfInBounds (o + x.2) x.1) c = (a.toList.zipIdx 0).foldl (fun cs (x : Value × Nat) => cs.setIfInBounds (o + x.2) x.1) c := fun a c => by
          rw [← Array.foldl_toList, Array.toList_zipIdx]
        rw [e, e]
        exact this
theorem buildS_sound {t : TypeId} {ps ps' : List (Nat × Value)} {v : Value} (h : buildS P t ps = some v) (hp : PR r ps ps') (w : World) :
    ∃ v', (Instr.build t ps'.toArray).run P w = .ok v' w ∧ VR r v v' := by
  unfold buildS at h
  split at h
  · cases h
  · rename_i z hz
    split at h
    · rename_i hpl
      cases hb : P.built t ps with
      | none => simp [hb] at h
      | some cells =>
        simp only [hb, Option.map_some, Option.some.injEq] at h
        subst h
        have hzero : ∀ it : TypeInfo, P.info? t = some it → ∀ z', it.zero = some z' → LR r z'.cells.toList z'.cells.toList := fun it hit z' hz' => by
          have : z' = z := by simp [zeroOf, hit, hz'] at hz; exact hz
          subst this
          exact (VR.plain _ hpl).cells2
        have : ∃ cells', P.built t ps' = some cells' ∧ LR r cells.toList cells'.toList := by
          unfold Program.built at hb ⊢
          cases hit : P.info? t with
          | none => simp [hit] at hb
          | some it =>
            cases hu : P.underlying t with
            | none => simp [hit, hu] at hb
            | some d =>
              cases hz' : it.zero with
              | none => cases d <;> simp [hit, hu, hz'] at hb
              | some z' =>
                have hzz := hzero it hit z' hz'
                cases d <;> try (simp [hit, hu] at hb; done)
                case array n e =>
                  cases hie : P.info? e with
                  | none => simp [hit, hu, hz', hie] at hb
                  | some ie =>
                    simp only [hit, hu, hz', hie] at hb ⊢
                    exact fill_sound _ ps ps' _ _ _ hp hzz hb
                case struct fields =>
                  cases hpp : fields.toList.mapM (fun f => (P.info? f.type).map fun i => (f.offset, i.size)) with
                  | none => simp [hit, hu, hz', hpp] at hb
                  | some places =>
                    simp only [hit, hu, hz', hpp] at hb ⊢
                    exact fill_sound _ ps ps' _ _ _ hp hzz hb
        obtain ⟨cells', hc, hl⟩ := this
        exact ⟨.agg cells', run_build w t ps'.toArray cells' (by simpa using hc), cells'.toList, hl, rfl⟩
    · cases h
theorem partS_sound {t : TypeId} {cs ys : List Value} {o : Nat} {v : Value} (h : partS P t cs o = some v) (hl : LR r cs ys) (w : World) :
    ∃ v', (part t ⟨ys⟩ o).run P w = .ok v' w ∧ VR r v v' := by
  unfold partS at h
  split at h
  · rename_i ha
    split at h
    · rename_i n hn
      cases h
      refine ⟨.agg ⟨(ys.drop o).take n⟩, ?_, _, (hl.drop o).take n, rfl⟩
      simp [part, aggB_run ha, szOf_run hn, List.extract_eq_take_drop]
    · cases h
  · rename_i ha
    obtain ⟨y, hy, hv⟩ := hl.get h
    exact ⟨y, by simp [part, aggB_run ha, hy], hv⟩
  · cases h
theorem fieldAddrS_sound {t : TypeId} {i : Nat} {a a' v : Value} (h : fieldAddrS P t i a = some v) (ha : VR r a a') (w : World) :
    ∃ v', (Instr.fieldAt t a' i).run P w = .ok v' w ∧ VR r v v' := by
  unfold fieldAddrS at h
  split at h
  · rename_i b o
    obtain ⟨n, hn, q⟩ := ha
    subst q
    split at h
    · rename_i fs hu
      split at h
      · rename_i f hf
        split at h
        · rename_i m hm
          cases h
          have hf' : fs[i]? = some f := by simpa using hf
          refine ⟨.pointer (some ⟨n.n, n.base + (o + f.offset), none⟩), ?_, n, hn, rfl⟩
          simp [Instr.fieldAt, run_underlying hu, hf', Instr.sureAddr, fieldPlace, szOf_run hm, addr_add, Nat.add_assoc]
        · cases h
      · cases h
    · cases h
  · cases h
theorem fieldS_sound {t : TypeId} {i : Nat} {a a' v : Value} (h : fieldS P t i a = some v) (ha : VR r a a') (w : World) :
    ∃ v', (Instr.field t a' i).run P w = .ok v' w ∧ VR r v v' := by
  unfold fieldS at h
  split at h
  · rename_i cs
    obtain ⟨ys, hl, q⟩ := ha
    subst q
    split at h
    · rename_i fs hu
      split at h
      · rename_i f hf
        have hf' : fs[i]? = some f := by simpa using hf
        obtain ⟨v', hr, hv⟩ := partS_sound h hl w
        exact ⟨v', by simp [Instr.field, run_underlying hu, hf', asAgg, hr], hv⟩
      · cases h
    · cases h
  · cases h
theorem indexAddrS_sound {t : TypeId} {a ix a' ix' v : Value} {p : Bool} (h : indexAddrS P t a ix = some (v, p)) (hp : p = true) (ha : VR r a a') (hi : VR r ix ix') (w : World) :
    ∃ v', (Instr.indexAt t a' ix').run P w = .ok v' w ∧ VR r v v' := by
  unfold indexAddrS at h
  split at h
  · rename_i k i
    cases hi
    split at h
    · rename_i len e b o hu
      obtain ⟨n, hn, q⟩ := ha
      subst q
      split at h
      · rename_i m hm
        simp only [Option.some.injEq, Prod.mk.injEq] at h
        obtain ⟨rfl, rfl⟩ := h
        simp only [Bool.and_eq_true, decide_eq_true_eq] at hp
        refine ⟨.pointer (some ⟨n.n, n.base + (o + i.toNat * m), none⟩), ?_, n, hn, rfl⟩
        simp [Instr.indexAt, asIntOf, run_underlying hu, Instr.sureAddr, szOf_run hm, hp, addr_add, Nat.add_assoc]
      · cases h
    · rename_i e b o len cap hu
      obtain ⟨n, hn, q⟩ := ha
      subst q
      split at h
      · rename_i m hm
        simp only [Option.some.injEq, Prod.mk.injEq] at h
        obtain ⟨rfl, rfl⟩ := h
        simp only [Bool.and_eq_true, decide_eq_true_eq] at hp
        refine ⟨.pointer (some ⟨n.n, n.base + (o + i.toNat * m), none⟩), ?_, n, hn, rfl⟩
        simp [Instr.indexAt, asIntOf, run_underlying hu, szOf_run hm, hp, addr_add, Nat.add_assoc]
      · cases h
    · cases h
  · cases h
theorem indexS_sound {t : TypeId} {a ix a' ix' v : Value} {p : Bool} (h : indexS P t a ix = some (v, p)) (hp : p = true) (ha : VR r a a') (hi : VR r ix ix') (w : World) :
    ∃ v', (Instr.index t a' ix').run P w = .ok v' w ∧ VR r v v' := by
  unfold indexS at h
  split at h
  · rename_i k i cs
    cases hi
    obtain ⟨ys, hl, q⟩ := ha
    subst q
    split at h
    · rename_i len e hu
      split at h
      · rename_i m hm
        cases hpt : partS P e cs (i.toNat * m) with
        | none => simp [hpt] at h
        | some u =>
          simp only [hpt, Option.map_some, Option.some.injEq, Prod.mk.injEq] at h
          obtain ⟨rfl, rfl⟩ := h
          simp only [Bool.and_eq_true, decide_eq_true_eq] at hp
          obtain ⟨v', hr, hv⟩ := partS_sound hpt hl w
          exact ⟨v', by simp [Instr.index, asIntOf, run_underlying hu, szOf_run hm, hp, hr], hv⟩
      · cases h
    · cases h
  · cases h
theorem convS_sound {src dst : TypeId} {a a' v : Value} (h : convS P src dst a = some v) (ha : VR r a a') (w : World) :
    ∃ v', (convert src dst a').run P w = .ok v' w ∧ VR r v v' := by
  unfold convS at h
  split at h
  · rename_i k0 n
    cases ha
    split at h
    · rename_i ds k hs hu
      cases h
      exact ⟨_, by simp [convert, run_underlying hs, run_underlying hu, Conv.intToInt], rfl⟩
    · cases h
  · cases h
theorem unS_sound {op : UnOp} {a a' v : Value} (h : unS op a = some v) (ha : VR r a a') (w : World) :
    ∃ v', (Op.unary op a').run P w = .ok v' w ∧ VR r v v' := by
  unfold unS at h
  split at h
  · cases h; cases ha; exact ⟨_, by simp [Op.unary, Op.intArith], rfl⟩
  · cases h; cases ha; exact ⟨_, by simp [Op.unary, Op.intBits, xorI, bitsI], rfl⟩
  · cases h; cases ha; exact ⟨_, by simp [Op.unary], rfl⟩
  · cases h
theorem bound_sound {d y : Nat} {v : Option Value} {v' : Option Value} {n : Nat} {p : Bool} (h : boundS d y v = some (n, p)) (hp : p = true) (hv : VO r v v') (code : BoundsCode) (w : World) :
    (match v' with | some x => Instr.sliceBound x y code | none => pure d : Sem Nat).run P w = .ok n w := by
  unfold boundS at h
  split at h
  · cases h; cases hv; rfl
  · rename_i k i
    obtain ⟨z, rfl, hz⟩ := hv
    cases hz
    simp only [Option.some.injEq, Prod.mk.injEq] at h
    obtain ⟨rfl, rfl⟩ := h
    simp only [Bool.and_eq_true, decide_eq_true_eq] at hp
    simp [Instr.sliceBound, asIntOf, hp]
  · cases h
theorem bounds_sound {b : Bool} {len cap : Nat} {lo hi lo' hi' : Option Value} {u l : Nat} {p q : Bool} (h1 : boundS len cap hi = some (u, p)) (h2 : boundS 0 u lo = some (l, q)) (hp : (p && q) = true) (hl : VO r lo lo') (hh : VO r hi hi') (w : World) :
    (Instr.sliceBounds b len cap lo' hi' none).run P w = .ok (l, u, cap) w := by
  simp only [Bool.and_eq_true] at hp
  have a1 := bound_sound (P := P) h1 hp.1 hh (if b then .sliceAcap else .sliceAlen) w
  have a2 := bound_sound (P := P) h2 hp.2 hl .sliceB w
  unfold Instr.sliceBounds
  cases hi' <;> cases lo' <;> simp_all [Sem.run_bind]
theorem slOff_add (n b o l m z : Nat) : (if m = l then (⟨n, b + o, none⟩ : Addr) else (⟨n, b + o, none⟩ : Addr).add (l * z)) = ⟨n, b + slOff o l m z, none⟩ := by
  cases l with
  | zero =>
    simp only [slOff, Nat.zero_mul]
    split
    · rfl
    · rw [addr_add, Nat.add_zero]
  | succ l =>
    simp only [slOff]
    split
    · rfl
    · rw [addr_add, Nat.add_assoc]
theorem sliceS_sound {t : TypeId} {x x' v : Value} {lo hi mx lo' hi' mx' : Option Value} {p : Bool} (h : sliceS P t x lo hi mx = some (v, p)) (hp : p = true) (hx : VR r x x') (hl : VO r lo lo') (hh : VO r hi hi') (hm : VO r mx mx') (w : World) :
    ∃ v', (Instr.sliceAt t x' lo' hi' mx').run P w = .ok v' w ∧ VR r v v' := by
  unfold sliceS at h
  split at h
  · cases h
  · cases hm
    split at h
    · rename_i n e b o hu
      obtain ⟨pl, hpl, q⟩ := hx
      subst q
      split at h
      · rename_i z u pu hz hbu
        split at h
        · rename_i l ql hbl
          simp only [Option.some.injEq, Prod.mk.injEq] at h
          obtain ⟨rfl, rfl⟩ := h
          refine ⟨.slice (some ⟨pl.n, pl.base + slOff o l n z, none⟩) (u - l) (n - l), ?_, pl, hpl, rfl⟩
          simp only [Instr.sliceAt, Sem.run_bind, run_underlying hu, Result.andThen_ok, Instr.sureAddr, Sem.run_pure, bounds_sound (P := P) hbu hbl hp hl hh, szOf_run hz]
          rw [← slOff_add]
        · cases h
      · cases h
    · rename_i e b o len cap hu
      obtain ⟨pl, hpl, q⟩ := hx
      subst q
      split at h
      · rename_i z u pu hz hbu
        split at h
        · rename_i l ql hbl
          simp only [Option.some.injEq, Prod.mk.injEq] at h
          obtain ⟨rfl, rfl⟩ := h
          refine ⟨.slice (some ⟨pl.n, pl.base + slOff o l cap z, none⟩) (u - l) (cap - l), ?_, pl, hpl, rfl⟩
          simp only [Instr.sliceAt, Instr.slice, Sem.run_bind, run_underlying hu, Result.andThen_ok, Sem.run_pure, bounds_sound (P := P) hbu hbl hp hl hh, szOf_run hz]
          rw [← slOff_add]
          congr 1
          congr 1
          split <;> rfl
        · cases h
      · cases h
    · cases h
theorem lenS_sound {t ty : TypeId} {x x' v : Value} (h : lenS P t x = some v) (hx : VR r x x') (w : World) : ∃ v', (Builtin.len_ #[t] ty #[x']).run P w = .ok v' w ∧ VR r v v' := by
  unfold lenS at h
  split at h
  · rename_i a n c
    have : ∃ a', x' = .slice a' n c := by
      cases a with
      | none => cases hx; exact ⟨_, rfl⟩
      | some a => obtain ⟨pl, _, q⟩ := hx; exact ⟨_, q⟩
    obtain ⟨a', rfl⟩ := this
    split at h
    · rename_i e hu
      cases h
      exact ⟨_, by simp [Builtin.len_, run_underlying hu, goInt], rfl⟩
    · cases h
  · rename_i cs
    split at h
    · rename_i n e hu
      cases h
      refine ⟨.int .i64 n, ?_, rfl⟩
      cases cs with
      | mk cs =>
        obtain ⟨ys, _, q⟩ := hx
        subst q
        simp [Builtin.len_, run_underlying hu, goInt]
    · cases h
  · cases h
theorem buildSliceS_sound {t : TypeId} {len : Nat} {ps ps' : List (Nat × Value)} {cs : List Value} {e : TypeId} (h : buildSliceS P t len ps = some (cs, e)) (hp : PR r ps ps') (w : World) :
    ∃ ys, (Instr.buildSlice t len ps'.toArray).run P w = .ok (.slice (some ⟨w.heap.size, 0, none⟩) len len) (w.alloc (.cells ⟨ys⟩ e)) ∧ LR r cs ys := by
  unfold buildSliceS at h
  split at h
  · rename_i e' hu
    split at h
    · rename_i n z hs hz
      split at h
      · rename_i hc
        simp only [Bool.and_eq_true, decide_eq_true_eq] at hc
        obtain ⟨cells, hf, q⟩ := Option.map_eq_some_iff.1 h
        simp only [Prod.mk.injEq] at q
        obtain ⟨rfl, rfl⟩ := q
        have hplain : ∀ v ∈ z.cells.toList, plain v = true := fun v hv => by
          have h1 := (VR.plain (r := r) z hc.1).cells2
          have hz1 : plainL z.cells.toList = true := by
            cases z <;> simp_all [plain, Value.cells, plainL]
          clear h1
          generalize z.cells.toList = l at hv hz1
          induction l with
          | nil => cases hv
          | cons a l ih =>
            simp only [plainL, Bool.and_eq_true] at hz1
            rcases List.mem_cons.1 hv with rfl | hv
            · exact hz1.1
            · exact ih hv hz1.2
        have hpl : ∀ (l : List Nat), plainL (l.map fun i => z.cells[i % z.cells.size]!) = true := fun l => by
          induction l with
          | nil => rfl
          | cons a l ih =>
            simp only [List.map_cons, plainL, Bool.and_eq_true]
            refine ⟨?_, ih⟩
            by_cases h0 : z.cells.size = 0
            · have : z.cells = #[] := by simpa using h0
              simp [this, default, plain, instInhabitedValue.default]
            · have hlt : a % z.cells.size < z.cells.size := Nat.mod_lt _ (by omega)
              rw [getElem!_pos z.cells (a % z.cells.size) hlt]
              exact hplain _ (by simp)
        have hLR : LR r ((Array.range (len * (n + 1))).map fun i => z.cells[i % z.cells.size]!).toList ((Array.range (len * (n + 1))).map fun i => z.cells[i % z.cells.size]!).toList := by
          rw [Array.toList_map]; exact LR.plain _ (hpl _)
        obtain ⟨out, ho, hl⟩ := fill_sound _ ps ps' _ _ _ hp hLR hf
        refine ⟨out.toList, ?_, hl⟩
        have hle : ¬ len * (n + 1) > 2 ^ 24 := by omega
        unfold Instr.buildSlice
        simp only [Sem.run_bind, run_underlying hu, Result.andThen_ok, szOf_run hs, Sem.run_ite, if_neg hle, Sem.run_pure]
        by_cases h0 : len * (n + 1) = 0
        · rw [if_pos h0]
          have : ((Array.range (len * (n + 1))).map fun i => z.cells[i % z.cells.size]!) = ((Array.range (len * (n + 1))).map fun i => (#[] : Array Value)[i % (#[] : Array Value).size]!) := by rw [h0]; simp
          rw [this] at ho
          simp only [ho, newRow, newObj, Sem.run_bind, Sem.run_pure]
          rfl
        · rw [if_neg h0]
          simp only [zeroOf_run hz, Result.andThen_ok, ho, newRow, newObj, Sem.run_bind, Sem.run_pure]
          rfl
      · cases h
    · cases h
  · cases h
theorem makeSliceS_sound {t : TypeId} {a b a' b' : Value} {k : IntKind} {e : TypeId} {n m : Nat} (h : makeSliceS P t a b = some (k, e, n, m, true)) (ha : VR r a a') (hb : VR r b b') (w : World) :
    (Instr.makeSlice t a' b').run P w = .ok (.slice (some ⟨w.heap.size, 0, none⟩) n m) (w.alloc (.cells ⟨intsV k (List.replicate m 0)⟩ e)) := by
  unfold makeSliceS at h
  split at h
  · rename_i k1 l k2 c
    cases ha; cases hb
    split at h
    · rename_i e' hu
      split at h
      · rename_i k' i hu' hi
        split at h
        · rename_i k3 z hz
          split at h
          · rename_i hc
            obtain ⟨hs, rfl, rfl⟩ := hc
            simp only [Option.some.injEq, Prod.mk.injEq, Bool.and_eq_true, beq_iff_eq, decide_eq_true_eq] at h
            obtain ⟨rfl, rfl, rfl, rfl, ⟨hl, hcc⟩, ⟨h0, hlc⟩, hbig⟩ := h
            have t1 : (decide (c < 0) || decide ((i.bytes : Int) * c > 2 ^ 48)) = false := by
              rw [Bool.or_eq_false_iff]; exact ⟨decide_eq_false (by omega), decide_eq_false (by omega)⟩
            have hsz : (sizeOf e').run P w = .ok 1 w := by simp [sizeOf, typeInfo, hi, hs]
            have hzero : ∀ w : World, (zeroValue e').run P w = .ok (.int k3 0) w := fun w => by simp [zeroValue, typeInfo, hi, hz]
            have hrow : ∀ N : Nat, ((Array.range (N * 1)).map fun i => (#[Value.int k3 0] : Array Value)[i % (#[Value.int k3 0] : Array Value).size]!) = ⟨intsV k3 (List.replicate N 0)⟩ := fun N => by
              apply Array.ext'
              rw [Array.toList_map, Nat.mul_one]
              apply List.ext_getElem?
              intro j
              simp only [intsV, List.map_replicate, List.getElem?_replicate, List.getElem?_map, Array.toList_range]
              by_cases hj : j < N
              · rw [List.getElem?_range hj, if_pos hj]
                simp [Nat.mod_one]
              · rw [if_neg hj, List.getElem?_eq_none (by simpa using hj)]; rfl
            unfold Instr.makeSlice
            have hnn : ¬ l > c := by omega
            have hn0 : ¬ l < 0 := by omega
            simp only [Sem.run_bind, run_underlying hu, Result.andThen_ok, asInt, asIntOf, Sem.run_pure, typeInfo, run_program, hi, hl, hcc, t1, hn0, hnn, decide_false, Bool.or_self, Bool.false_eq_true, if_false]
            have hroom : ∀ w : World, (askRoom (c.toNat * i.bytes)).run P w = .ok () w := fun w => by unfold askRoom; split <;> simp [mark, Sem.run]
            rw [hroom]
            simp only [Result.andThen_ok, hsz, Nat.mul_one]
            by_cases hc0 : c.toNat = 0
            · rw [if_pos hc0]
              have hr0 : Array.range 0 = #[] := by simp
              simp [newRow, newObj, Sem.run, hc0, intsV, hr0]
            · rw [if_neg hc0]
              simp only [Sem.run_bind, hzero, Sem.run_pure, Result.andThen_ok, newRow, newObj]
              have := hrow c.toNat
              rw [Nat.mul_one] at this
              simp only [Value.cells, this]
              rfl
          · cases h
        · cases h
      · cases h
    · cases h
  · cases h
end
end Go.Lift
namespace Go.Lift
open Go
def Ext (r s : List Pl) : Prop := ∀ (i : Nat) (b : Pl), r[i]? = some b → s[i]? = some b
theorem Ext.refl (r : List Pl) : Ext r r := fun _ _ h => h
theorem Ext.trans {r s t : List Pl} (h : Ext r s) (g : Ext s t) : Ext r t := fun i b e => g i b (h i b e)
theorem Ext.append (r s : List Pl) : Ext r (r ++ s) := fun i b e => by
  rw [List.getElem?_append_left (List.getElem?_eq_some_iff.1 e).1]; exact e
theorem Ext.lk {r s : List Pl} (h : Ext r s) : ∀ (i : Nat) (b : Pl), lk r i = some b → lk s i = some b := h
def CallOK (P : Program) (f : FuncId) (args : Array Value) (w : World) (R : Value → World → Prop) : Prop :=
  (∃ v w', (callFunc f args).run P w = .ok (.value v) w' ∧ R v w') ∨
  ((callFunc f args).run P w = .ok (.enter f args) w ∧ Calls P f args w fun e w' => ∃ v, e = .returned v ∧ R v w')
def PureG (g : List Value → List Blk → Option (Value × List Blk × Bool)) : Prop :=
  ∀ vs h v h' p, g vs h = some (v, h', p) → h' = h ∧ ∀ h2, g vs h2 = some (v, h2, p)
def ReadG (g : List Value → List Blk → Option (Value × List Blk × Bool)) : Prop :=
  ∀ vs h v h' p, g vs h = some (v, h', p) → h' = h
def PureC (Γ : Ctr) : Prop := (∀ f, Γ.pf f = 0 → PureG (Γ.g f)) ∧ (∀ f, Γ.pf f = 1 → ReadG (Γ.g f))
structure CtrSound (P : Program) (Γ : Ctr) : Prop where
  calls : ∀ f vs h v h', Γ.g f vs h = some (v, h', true) → ∀ (r : List Pl) (w : World) (args : List Value), LR (lk r) vs args → Rel h.length w r h w →
    CallOK P f ⟨args⟩ w fun v' w' => ∃ r', Ext r r' ∧ VR (lk r') v v' ∧ Rel h.length w r' h' w'
  pure : PureC Γ
section
variable {P : Program}
theorem Rel.self {k : Nat} {w0 w : World} {r : List Pl} {h : List Blk} (R : Rel k w0 r h w) : Rel h.length w r h w where
  os := rfl
  tape := rfl
  output := rfl
  size := Nat.le_refl _
  nodup := R.nodup
  len := R.len
  news := fun i b hk hi => by have := (List.getElem?_eq_some_iff.1 hi).1; have := R.len; omega
  blk := R.blk
  old := fun _ _ _ => rfl
  kle := Nat.le_refl _
theorem Rel.trans {k : Nat} {w0 w w' : World} {r r' : List Pl} {h h' : List Blk} (R : Rel k w0 r h w) (S : Rel h.length w r' h' w') (e : Ext r r') : Rel k w0 r' h' w' where
  os := S.os.trans R.os
  tape := S.tape.trans R.tape
  output := S.output.trans R.output
  size := Nat.le_trans R.size S.size
  nodup := S.nodup
  len := S.len
  news := fun i b hk hi => by
    rcases Nat.lt_or_ge i h.length with h1 | h1
    · rw [← R.len] at h1
      have h2 := e i _ (List.getElem?_eq_getElem h1)
      rw [hi] at h2
      injection h2 with h2
      exact R.news i b hk (by rw [h2]; exact List.getElem?_eq_getElem h1)
    · have := S.news i b h1 hi
      have := R.size
      omega
  blk := S.blk
  old := fun n hn hnot => by
    rw [S.old n (by have := R.size; omega), R.old n hn]
    · exact fun i p hi hp => hnot i p hi (e i p hp)
    · intro i p hi hp hpn
      rcases Nat.lt_or_ge i k with hk | hk
      · exact hnot i p hk hp hpn
      · rw [← R.len] at hi
        have h2 := e i _ (List.getElem?_eq_getElem hi)
        rw [hp] at h2
        injection h2 with h2
        have := R.news i p hk (by rw [h2]; exact List.getElem?_eq_getElem hi)
        omega
  kle := Nat.le_trans R.kle S.kle
theorem parts_sound {r : Nat → Option Pl} {t : List (Option Value)} {t' : List Value} {d : List Deferred} (h : TR r t t') : ∀ (ps : List (Nat × Operand)) (vs : List Value), evL t (ps.map (·.2)) = some vs →
    PR r ((ps.map (·.1)).zip vs) (ps.map fun (i, x) => (i, Act.eval ⟨⟨t'⟩, d⟩ x))
  | [], vs, _ => by simp [PR]
  | (i, x) :: ps, vs, e => by
    simp only [List.map_cons, evL] at e
    split at e
    · rename_i v vs' hx hxs
      cases e
      exact ⟨_, _, ev_sound h hx, parts_sound h ps vs' hxs, rfl⟩
    · cases e
def OpOK (r : List Pl) (k : Nat) (w0 : World) (v : Value) (h' : List Blk) (res : Result Next) : Prop :=
  ∃ nx w' r' v', res = .ok nx w' ∧ (nx = .value v' ∨ (nx = .skip ∧ v' = undef)) ∧ Ext r r' ∧ VR (lk r') v v' ∧ Rel k w0 r' h' w'
theorem OpOK.value {r : List Pl} {k : Nat} {w0 w : World} {v v' : Value} {h : List Blk} {s : Sem Value} (e : s.run P w = .ok v' w) (hv : VR (lk r) v v') (R : Rel k w0 r h w) :
    OpOK r k w0 v h ((do pure (.value (← s)) : Sem Next).run P w) :=
  ⟨.value v', w, r, v', by simp [e], .inl rfl, Ext.refl r, hv, R⟩
theorem OpOK.newSlice {r : List Pl} {k : Nat} {w0 w : World} {h : List Blk} {bl : Blk} {ys : List Value} {e : TypeId} {n m : Nat} {s : Sem Value} (R : Rel k w0 r h w) (ho : bl.own = some e) (hl : LR (lk r) bl.vals ys)
    (q : s.run P w = .ok (.slice (some ⟨w.heap.size, 0, none⟩) n m) (w.alloc (.cells ⟨ys⟩ e))) :
    OpOK r k w0 (.slice (some ⟨h.length, 0, none⟩) n m) (h ++ [bl]) ((do pure (.value (← s)) : Sem Next).run P w) :=
  ⟨.value (.slice (some ⟨w.heap.size, 0, none⟩) n m), w.alloc (.cells ⟨ys⟩ e), r ++ [⟨w.heap.size, 0, false⟩], _, by simp [q], .inl rfl, Ext.append r _, ⟨⟨w.heap.size, 0, false⟩, by simp [lk, ← R.len], by simp⟩, R.alloc ho hl⟩
theorem alloc_sound {r : List Pl} {k : Nat} {w0 w : World} {h : List Blk} {e : TypeId} {v v' : Value} (R : Rel k w0 r h w) (hl : LR (lk r) (cellsL v) v'.cells.toList) :
    OpOK r k w0 (.pointer (some ⟨h.length, 0, none⟩)) (h ++ [.c (cellsL v) e]) ((do pure (.value (← (do pure (.pointer (some (← newVar e v'))) : Sem Value))) : Sem Next).run P w) := by
  refine ⟨.value (.pointer (some ⟨w.heap.size, 0, none⟩)), w.alloc (.cells v'.cells e), r ++ [⟨w.heap.size, 0, false⟩], _, ?_, .inl rfl, Ext.append r _, ?_, R.alloc (bl := .c (cellsL v) e) (ys := v'.cells.toList) rfl hl⟩
  · simp [newVar, newRow, newObj, Sem.run]
  · exact ⟨⟨w.heap.size, 0, false⟩, by simp [lk, ← R.len], by simp⟩
set_option maxHeartbeats 1000000 in
theorem opS_sound {Γ : Ctr} {t : List (Option Value)} {t' : List Value} {h h' : List Blk} {v : Value} {p : Bool} {o : Oper} (e : opS P Γ t h o.op = some (v, h', p)) (hp : p = true) (hc : ∀ c f, o.op = .call c → c.callee ≠ .value (.func f))
    {r : List Pl} {k : Nat} {w0 w : World} {d : List Deferred} (hl : TR (lk r) t t') (R : Rel k w0 r h w) :
    OpOK r k w0 v h' ((execOp (Act.eval ⟨⟨t'⟩, d⟩) o).run P w) := by
  unfold execOp
  generalize o.op = op at e hc ⊢
  have pureOK : ∀ {x : Operand} {u : Value}, ev t x = some u → OpOK r k w0 u h ((pure (.value (Act.eval ⟨⟨t'⟩, d⟩ x)) : Sem Next).run P w) := fun hx =>
    ⟨_, w, r, _, rfl, .inl rfl, Ext.refl r, ev_sound hl hx, R⟩
  cases op <;> simp only [opS] at e
  case move x =>
    cases hx : ev t x <;> simp [hx] at e
    obtain ⟨rfl, rfl, rfl⟩ := e
    exact pureOK hx
  case assign x =>
    cases hx : ev t x <;> simp [hx] at e
    obtain ⟨rfl, rfl, rfl⟩ := e
    exact pureOK hx
  case pick c a b =>
    split at e
    · rename_i hcv
      cases hx : ev t a <;> simp [hx] at e
      obtain ⟨rfl, rfl, rfl⟩ := e
      have hb := (ev_sound (d := d) hl hcv).bool
      refine ⟨_, w, r, _, ?_, .inl rfl, Ext.refl r, ev_sound (d := d) hl hx, R⟩
      simp [hb, asBool]
    · rename_i hcv
      cases hx : ev t b <;> simp [hx] at e
      obtain ⟨rfl, rfl, rfl⟩ := e
      have hb := (ev_sound (d := d) hl hcv).bool
      refine ⟨_, w, r, _, ?_, .inl rfl, Ext.refl r, ev_sound (d := d) hl hx, R⟩
      simp [hb, asBool]
    · cases e
  case alloc el =>
    split at e
    · rename_i z hz
      split at e
      · rename_i hpl
        cases e
        have := alloc_sound (P := P) (e := el) (v := z) (v' := z) R (VR.plain z hpl).cells
        simpa [Instr.alloc, zeroOf_run hz] using this
      · cases e
    · cases e
  case box el x =>
    cases hx : ev t x <;> simp [hx] at e
    obtain ⟨rfl, rfl, rfl⟩ := e
    have := alloc_sound (P := P) (e := el) R (ev_sound (d := d) hl hx).cells
    simpa [Instr.box] using this
  case build ty ps =>
    split at e
    · rename_i vs hvs
      cases hb : buildS P ty ((ps.toList.map (·.1)).zip vs) <;> simp [hb] at e
      obtain ⟨rfl, rfl, rfl⟩ := e
      obtain ⟨v', hr, hv⟩ := buildS_sound hb (parts_sound (d := d) hl ps.toList vs hvs) w
      refine OpOK.value ?_ hv R
      rw [← hr]
      congr 2
      apply Array.ext'
      simp
    · cases e
  case load ty x =>
    split at e
    · rename_i a hx
      cases hb : loadS P ty h a <;> simp [hb] at e
      rename_i u
      obtain ⟨u1, u2⟩ := u
      obtain ⟨rfl, rfl, rfl⟩ := e
      simp only at hp; subst hp
      obtain ⟨n, o', v', ha, hr, hv⟩ := loadS_sound R hb (ev_sound (d := d) hl hx)
      refine OpOK.value ?_ hv R
      simp [Instr.loadAt, ha, Instr.sureAddr, hr]
    · cases e
  case store ty x y =>
    split at e
    · rename_i a u hx hy
      cases hb : storeS P ty h u a <;> simp [hb] at e
      rename_i u'
      obtain ⟨u1, u2⟩ := u'
      obtain ⟨rfl, rfl, rfl⟩ := e
      simp only at hp; subst hp
      obtain ⟨n, o', w', ha, hr, R'⟩ := storeS_sound R hb (ev_sound (d := d) hl hx) (ev_sound (d := d) hl hy)
      refine ⟨.skip, w', r, undef, ?_, .inr ⟨rfl, rfl⟩, Ext.refl r, VR.undef, R'⟩
      simp [Instr.storeAt, ha, Instr.sureAddr, hr]
    · cases e
  case nilCheck x =>
    split at e
    · rename_i a hx
      cases e
      obtain ⟨b, hb, q⟩ := ev_sound (d := d) hl hx
      refine ⟨.value (.pointer (some ⟨b.n, b.base + a.off, a.spot⟩)), w, r, _, ?_, .inl rfl, Ext.refl r, ⟨b, hb, rfl⟩, R⟩
      simp [q]
    · cases e
  case binOp op T x y T' =>
    split at e
    · rename_i a b hx hy
      split at e
      · rename_i u1 u2 hb
        simp only [Option.some.injEq, Prod.mk.injEq] at e
        obtain ⟨rfl, rfl, rfl⟩ := e
        have := binS_sound hb hp (ev_sound (d := d) hl hx) (ev_sound (d := d) hl hy) T x y w (P := P)
        exact OpOK.value this.1 this.2 R
      · cases hb : eqS P op T a b <;> simp [hb] at e
        obtain ⟨rfl, rfl, rfl⟩ := e
        have := eqS_sound hb (ev_sound (d := d) hl hx) (ev_sound (d := d) hl hy) x y w
        exact OpOK.value this.1 this.2 R
    · cases e
  case buildSlice ty len ps =>
    split at e
    · rename_i vs hvs
      cases hb : buildSliceS P ty len ((ps.toList.map (·.1)).zip vs) <;> simp [hb] at e
      rename_i u
      obtain ⟨cs, et⟩ := u
      obtain ⟨rfl, rfl, rfl⟩ := e
      obtain ⟨ys, hr, hlr⟩ := buildSliceS_sound (r := lk r) hb (parts_sound (d := d) hl ps.toList vs hvs) w
      refine OpOK.newSlice R (bl := .c cs et) rfl hlr ?_
      rw [← hr]
      congr 2
      apply Array.ext'
      simp
    · cases e
  case makeSlice ty l c =>
    split at e
    · rename_i a b ha hb
      cases hm : makeSliceS P ty a b <;> simp [hm] at e
      rename_i u
      obtain ⟨k1, e1, n1, m1, p1⟩ := u
      obtain ⟨rfl, rfl, rfl⟩ := e
      simp only at hp; subst hp
      have hr := makeSliceS_sound hm (ev_sound (d := d) hl ha) (ev_sound (d := d) hl hb) w
      exact OpOK.newSlice R (bl := .s k1 (List.replicate m1 0) e1) rfl (LR.plain _ (plain_ints _ _)) hr
    · cases e
  case unOp op T x =>
    split at e
    · rename_i a hx
      cases hb : unS op a <;> simp [hb] at e
      obtain ⟨rfl, rfl, rfl⟩ := e
      obtain ⟨v', hr, hv⟩ := unS_sound (P := P) hb (ev_sound (d := d) hl hx) w
      exact OpOK.value hr hv R
    · cases e
  case convert src dst x =>
    split at e
    · rename_i a hx
      cases hb : convS P src dst a <;> simp [hb] at e
      obtain ⟨rfl, rfl, rfl⟩ := e
      obtain ⟨v', hr, hv⟩ := convS_sound hb (ev_sound (d := d) hl hx) w
      exact OpOK.value hr hv R
    · cases e
  case fieldAddr ty x i =>
    split at e
    · rename_i a hx
      cases hb : fieldAddrS P ty i a <;> simp [hb] at e
      obtain ⟨rfl, rfl, rfl⟩ := e
      obtain ⟨v', hr, hv⟩ := fieldAddrS_sound hb (ev_sound (d := d) hl hx) w
      exact OpOK.value hr hv R
    · cases e
  case field ty x i =>
    split at e
    · rename_i a hx
      cases hb : fieldS P ty i a <;> simp [hb] at e
      obtain ⟨rfl, rfl, rfl⟩ := e
      obtain ⟨v', hr, hv⟩ := fieldS_sound hb (ev_sound (d := d) hl hx) w
      exact OpOK.value hr hv R
    · cases e
  case indexAddr ty x i =>
    split at e
    · rename_i a b hx hy
      cases hb : indexAddrS P ty a b <;> simp [hb] at e
      obtain ⟨rfl, rfl, rfl⟩ := e
      obtain ⟨v', hr, hv⟩ := indexAddrS_sound hb hp (ev_sound (d := d) hl hx) (ev_sound (d := d) hl hy) w
      exact OpOK.value hr hv R
    · cases e
  case index ty x i =>
    split at e
    · rename_i a b hx hy
      cases hb : indexS P ty a b <;> simp [hb] at e
      obtain ⟨rfl, rfl, rfl⟩ := e
      obtain ⟨v', hr, hv⟩ := indexS_sound hb hp (ev_sound (d := d) hl hx) (ev_sound (d := d) hl hy) w
      exact OpOK.value hr hv R
    · cases e
  case extract x i =>
    split at e
    · rename_i vs hx
      cases hb : vs[i]? <;> simp [hb] at e
      obtain ⟨rfl, rfl, rfl⟩ := e
      obtain ⟨ys, hys, q⟩ := ev_sound (d := d) hl hx
      obtain ⟨y, hy, hv⟩ := hys.get hb
      refine OpOK.value (v' := y) ?_ hv R
      simp [q, Instr.extract, hy]
    · cases e
  case slice ty x lo hi mx =>
    split at e
    · rename_i a l u m hx hlo hhi hmx
      cases hb : sliceS P ty a l u m <;> simp [hb] at e
      obtain ⟨rfl, rfl, rfl⟩ := e
      obtain ⟨v', hr, hv⟩ := sliceS_sound hb hp (ev_sound (d := d) hl hx) (evO_sound (d := d) hl hlo) (evO_sound (d := d) hl hhi) (evO_sound (d := d) hl hmx) w
      exact OpOK.value hr hv R
    · cases e
  case call c =>
    have hcc := fun f => hc c f rfl
    split at e
    · rename_i f hf; exact absurd hf (hcc f)
    · rename_i hlen
      split at e
      · rename_i ty a hty ha
        cases hb : lenS P ty a <;> simp [hb] at e
        obtain ⟨rfl, rfl, rfl⟩ := e
        obtain ⟨y, zs, hy, hz, q⟩ := evL_sound (d := d) hl ha
        rw [LR] at hz; subst hz
        obtain ⟨v', hr, hv⟩ := lenS_sound (ty := o.type) hb hy w
        have h1 : c.argTypes = #[ty] := Array.ext' hty
        have h2 : c.args.map (Act.eval ⟨⟨t'⟩, d⟩) = #[y] := by apply Array.ext'; simpa using q
        refine OpOK.value (s := Builtin.len_ #[ty] o.type #[y]) hr hv R |> fun this => ?_
        simpa [resolve, hlen, invoke, builtin, h1, h2] using this
      · cases e
    · cases e
  all_goals cases e
theorem oper_sound {Γ : Ctr} (hΓ : CtrSound P Γ) {t : List (Option Value)} {t' : List Value} {h h' : List Blk} {v : Value} {o : Oper} (e : opS P Γ t h o.op = some (v, h', true))
    {r : List Pl} {k : Nat} {w0 w : World} {d : List Deferred} (hl : TR (lk r) t t') (R : Rel k w0 r h w) {next : Act → World → Prop} {Q : Exit → Act → World → Prop}
    (hn : ∀ r' v' w', Ext r r' → VR (lk r') v v' → Rel k w0 r' h' w' → next (Act.put ⟨⟨t'⟩, d⟩ o.dst v') w') : o.wp P ⟨⟨t'⟩, d⟩ w next Q := by
  by_cases hc : ∃ c f, o.op = .call c ∧ c.callee = .value (.func f)
  · obtain ⟨c, f, hc, hcal⟩ := hc
    rw [hc] at e
    simp only [opS, hcal] at e
    · split at e
      · rename_i vs hvs
        have hargs := evL_sound (d := d) hl hvs
        have hk := hΓ.calls f vs h v h' e r w _ hargs R.self
        have hexec : (execOp (Act.eval ⟨⟨t'⟩, d⟩) o).run P w = (callFunc f ⟨c.args.toList.map (Act.eval ⟨⟨t'⟩, d⟩)⟩).run P w := by
          unfold execOp
          rw [hc]
          simp only [resolve, hcal, Act.eval, Deferred.ofValue, invoke, Sem.run_bind, Sem.run_pure, Result.andThen_ok]
          congr 2
          apply Array.ext'
          simp
        unfold Oper.wp
        rw [hexec]
        rcases hk with ⟨v', w', hr, r', he, hv, R'⟩ | ⟨hr, hcalls⟩
        · rw [hr]
          exact hn r' v' w' he hv (R.trans R' he)
        · rw [hr]
          show Calls P f _ w _
          intro cs
          obtain ⟨e, w', fr, ⟨v', rfl, r', he, hv, R'⟩, rest⟩ := hcalls cs
          exact ⟨.returned v', w', fr, hn r' v' w' he hv (R.trans R' he), rest⟩
      · cases e
  · obtain ⟨nx, w', r', v', hr, hnx, he, hv, R'⟩ := opS_sound (Γ := Γ) (d := d) e rfl (fun c f q q' => hc ⟨c, f, q, q'⟩) hl R
    unfold Oper.wp
    rw [hr]
    rcases hnx with rfl | ⟨rfl, rfl⟩
    · exact hn r' v' w' he hv R'
    · exact hn r' undef w' he hv R'
theorem VR.bool' {r : Nat → Option Pl} {x : Value} {b : Bool} (h : VR r x (.bool b)) : x = .bool b := by
  match x, h with
  | .agg ⟨xs⟩, ⟨ys, e, q⟩ => cases q
  | .tuple ⟨xs⟩, ⟨ys, e, q⟩ => cases q
  | .iface t x, ⟨y, e, q⟩ => cases q
  | .func f ⟨xs⟩ ⟨zs⟩, ⟨ys, us, e, e', q⟩ => cases q
  | .pointer (some a), ⟨b, e, q⟩ => cases q
  | .slice (some a) _ _, ⟨b, e, q⟩ => cases q
  | .map (some m), ⟨b, e, q⟩ => cases q
  | .bool _, h => cases h; rfl
  | .int _ _, h => cases h
  | .float _ _, h => cases h
  | .complex _ _ _, h => cases h
  | .string _, h => cases h
  | .pointer none, h => cases h
  | .slice none _ _, h => cases h
  | .map none, h => cases h
  | .chan _, h => cases h
  | .nilFunc, h => cases h
  | .nilIface, h => cases h
theorem wantS_sound {r : Nat → Option Pl} {t : List (Option Value)} {t' : List Value} (h : TR r t t') {ops : Array Oper} {o : Oper} {b : Bool} (e : wantS ops t o = some b) : Region.wanted o (yielded ops ⟨t'⟩) = b := by
  unfold wantS at e
  unfold Region.wanted
  split at e
  · rename_i hg; rw [hg]; cases e; rfl
  · rename_i j want hg
    rw [hg]
    simp only []
    unfold yielded
    have hj : ops[j]? = ops.toList[j]? := by simp
    rw [hj]
    split at e
    · rename_i hd; rw [hd]; cases e; rfl
    · rename_i i hd
      rw [hd]
      simp only [Option.bind_some]
      have e2 : (⟨t'⟩ : Array Value)[i]? = t'[i]? := by simp
      rw [e2]
      split at e
      · rename_i hn
        cases e
        have : t'[i]? = none := by rw [List.getElem?_eq_none_iff] at hn ⊢; rw [← h.1]; exact hn
        rw [this]
        rfl
      · cases e
      · rename_i x hx
        cases e
        obtain ⟨v', hv', hv⟩ := h.get hx
        rw [hv', hv.bool]
        cases x <;> cases want <;> rfl
      · rename_i v hnb hx
        cases e
        obtain ⟨v', hv', hv⟩ := h.get hx
        rw [hv']
        by_cases hb : ∃ b, v' = .bool b
        · obtain ⟨b, rfl⟩ := hb
          exact absurd hv.bool' (hnb b)
        · have n1 : (match some v' with | some (.bool b) => some b | _ => none : Option Bool) = none := by
            cases v' <;> first | rfl | exact absurd ⟨_, rfl⟩ hb
          exact (congrArg (fun z : Option Bool => z == some want) n1).trans rfl
theorem TR.put {r : Nat → Option Pl} {t : List (Option Value)} {t' : List Value} {d : List Deferred} {o : Option Tmp} {v v' : Value} (h : TR r t t') (g : VR r v v') : ∃ t'', Act.put ⟨⟨t'⟩, d⟩ o v' = ⟨⟨t''⟩, d⟩ ∧ TR r (putT t o v) t'' := by
  cases o with
  | none => exact ⟨t', rfl, h⟩
  | some i => exact ⟨t'.set i v', by simp [Act.put], h.set g i⟩
theorem takeS_eq {Γ : Ctr} {d : Option Tmp} {v : Value} (h : (takeS Γ d v).2 = true) : (takeS Γ d v).1 = v := by
  unfold takeS at h ⊢
  split
  · rfl
  · split
    · rfl
    · rename_i b hb
      simp only [hb] at h
      split
      · cases b <;> simp at h <;> rw [h]
      · rfl
theorem stepI_ob {Γ : Ctr} {ops : Array Oper} {o : Oper} {s s' : St} (e : stepI P Γ ops o s = some s') (h : s'.ob = true) : s.ob = true := by
  unfold stepI at e
  split at e
  · split at e
    · cases e; simp only [andT_iff] at h; exact h.1.1
    · cases e
  · cases e; exact h
  · cases e
theorem runOps_ob {Γ : Ctr} {ops : Array Oper} : ∀ (is : List Nat) (s s' : St), runOps P Γ ops is s = some s' → s'.ob = true → s.ob = true
  | [], s, s', e, h => by simp only [runOps, Option.some.injEq] at e; subst e; exact h
  | i :: is, s, s', e, h => by
    simp only [runOps] at e
    split at e
    · exact runOps_ob is s s' e h
    · split at e
      · rename_i s1 h1; exact stepI_ob h1 (runOps_ob is s1 s' e h)
      · cases e
theorem wpOp_sound {Γ : Ctr} (hΓ : CtrSound P Γ) {ops : Array Oper} {o : Oper} {i : Nat} (hi : ops[i]? = some o) {s s' : St} (e : stepI P Γ ops o s = some s') (hob : s'.ob = true)
    {r : List Pl} {k : Nat} {w0 w : World} {t' : List Value} {d : List Deferred} {Q : Exit → Act → World → Prop} {K : Act → World → Prop} (hl : TR (lk r) s.t t') (R : Rel k w0 r s.h w)
    (hK : ∀ r' w' t'', Ext r r' → TR (lk r') s'.t t'' → Rel k w0 r' s'.h w' → K ⟨⟨t''⟩, d⟩ w') : wpOp P ops Q i K ⟨⟨t'⟩, d⟩ w := by
  unfold stepI at e
  unfold wpOp
  rw [hi]
  simp only []
  split at e
  · rename_i hw
    rw [if_pos (wantS_sound hl hw)]
    refine .inl ?_
    split at e
    · rename_i v h p hop
      cases e
      simp only [andT_iff] at hob
      rw [hob.1.2] at hop
      refine oper_sound hΓ hop hl R fun r' v' w' he hv R' => ?_
      rw [takeS_eq hob.2] at hK
      obtain ⟨t'', q, hl'⟩ := TR.put (d := d) (o := o.dst) (TR.mono he.lk hl) hv
      rw [q]
      exact hK r' w' t'' he hl' R'
    · cases e
  · rename_i hw
    cases e
    rw [if_neg (by rw [wantS_sound hl hw]; simp)]
    obtain ⟨t'', q, hl'⟩ := TR.put (d := d) (o := o.dst) hl (VR.undef (r := lk r))
    rw [q]
    exact hK r w t'' (Ext.refl r) hl' R
  · cases e
theorem runOps_sound {Γ : Ctr} (hΓ : CtrSound P Γ) {ops : Array Oper} : ∀ (is : List Nat) (s s' : St), runOps P Γ ops is s = some s' → s'.ob = true →
    ∀ {r : List Pl} {k : Nat} {w0 w : World} {t' : List Value} {d : List Deferred} {Q : Exit → Act → World → Prop}, TR (lk r) s.t t' → Rel k w0 r s.h w →
    (∀ r' w' t'', Ext r r' → TR (lk r') s'.t t'' → Rel k w0 r' s'.h w' → Q .normal ⟨⟨t''⟩, d⟩ w') → wpOps P ops Q is ⟨⟨t'⟩, d⟩ w
  | [], s, s', e, _, r, k, w0, w, t', d, Q, hl, R, hQ => by
    simp only [runOps, Option.some.injEq] at e; subst e
    exact hQ r w t' (Ext.refl r) hl R
  | i :: is, s, s', e, hob, r, k, w0, w, t', d, Q, hl, R, hQ => by
    simp only [runOps] at e
    have hi : ops[i]? = ops.toList[i]? := by simp
    rw [wpOps_cons]
    split at e
    · rename_i hn
      rw [← hi] at hn
      simp only [wpOp, hn]
      exact runOps_sound hΓ is s s' e hob hl R hQ
    · rename_i o ho
      rw [← hi] at ho
      split at e
      · rename_i s1 h1
        refine wpOp_sound hΓ ho h1 (runOps_ob is s1 s' e hob) hl R fun r' w' t'' he hl' R' => ?_
        exact runOps_sound hΓ is s1 s' e hob hl' R' fun r2 w2 t2 he2 hl2 R2 => hQ r2 w2 t2 (he.trans he2) hl2 R2
      · cases e
theorem evL_congr {t t' : List (Option Value)} : ∀ {xs : List Operand}, (∀ x ∈ xs, ev t x = ev t' x) → evL t xs = evL t' xs
  | [], _ => rfl
  | x :: xs, h => by simp only [evL, h x (by simp), evL_congr (xs := xs) fun y hy => h y (by simp [hy])]
theorem opS_congr {Γ : Ctr} {t t' : List (Option Value)} {h : List Blk} (o : Op) (e : ∀ x ∈ o.operands, ev t x = ev t' x) : opS P Γ t h o = opS P Γ t' h o := by
  cases o <;> simp only [Op.operands] at e <;> simp only [opS]
  case build ty ps =>
    rw [evL_congr (t := t) (t' := t') (xs := ps.toList.map (·.2)) fun x hx => e x (by simpa using hx)]
  case buildSlice ty len ps =>
    rw [evL_congr (t := t) (t' := t') (xs := ps.toList.map (·.2)) fun x hx => e x (by simpa using hx)]
  case makeSlice ty l c => rw [e l (by simp), e c (by simp)]
  case slice ty x lo hi mx =>
    have eO : ∀ y : Option Operand, (∀ z, y = some z → ev t z = ev t' z) → evO t y = evO t' y := fun y hy => by
      cases y with
      | none => rfl
      | some z => simp only [evO, hy z rfl]
    rw [e x (by simp), eO lo (fun z hz => e z (by subst hz; simp)), eO hi (fun z hz => e z (by subst hz; simp)), eO mx (fun z hz => e z (by subst hz; simp))]
  case call c =>
    rw [evL_congr (t := t) (t' := t') (xs := c.args.toList) fun x hx => e x (by simp [Call.operands, Array.mem_toList_iff.1 hx])]
  case pick c a b => rw [e c (by simp), e a (by simp), e b (by simp)]
  case store ty a v => rw [e a (by simp), e v (by simp)]
  case binOp op T x y T' => rw [e x (by simp), e y (by simp)]
  case indexAddr T x i => rw [e x (by simp), e i (by simp)]
  case index T x i => rw [e x (by simp), e i (by simp)]
  all_goals first
    | rfl
    | (rw [e _ (by simp)])
theorem opS_pure {Γ : Ctr} (hΓ : PureC Γ) {t : List (Option Value)} {h h' : List Blk} {v : Value} {p : Bool} {o : Op} (hc : clsOf Γ.pf o = 0) (e : opS P Γ t h o = some (v, h', p)) :
    h' = h ∧ ∀ h2, opS P Γ t h2 o = some (v, h2, p) := by
  cases o <;> simp only [clsOf] at hc <;> simp only [opS] at e ⊢
  case call c =>
    split at hc
    · rename_i f hf
      try simp only [hf] at e ⊢
      cases hv : evL t c.args.toList with
      | none => rw [hv] at e; cases e
      | some vs =>
        rw [hv] at e
        exact hΓ.1 f hc vs h v h' p e
    · rename_i hlen
      try simp only [hlen] at e ⊢
      split at e
      · obtain ⟨x, hx, q⟩ := Option.map_eq_some_iff.1 e; cases q; exact ⟨rfl, fun _ => by simp only [hx, Option.map_some]⟩
      · cases e
    · cases hc
  case load => cases hc
  case alloc => cases hc
  case box => cases hc
  case store => cases hc
  case buildSlice => cases hc
  case makeSlice => cases hc
  case binOp op T x y T' =>
    split at e
    · split at e
      · cases e; exact ⟨rfl, fun _ => rfl⟩
      · obtain ⟨x, hx, q⟩ := Option.map_eq_some_iff.1 e
        cases q
        exact ⟨rfl, fun _ => by simp only [hx, Option.map_some]⟩
    · cases e
  all_goals first
    | (cases e; done)
    | (split at e <;> first
        | (cases e; done)
        | (cases e; exact ⟨rfl, fun _ => rfl⟩)
        | (obtain ⟨x, hx, q⟩ := Option.map_eq_some_iff.1 e; cases q; exact ⟨rfl, fun _ => by simp only [hx, Option.map_some]⟩))
    | (obtain ⟨x, hx, q⟩ := Option.map_eq_some_iff.1 e; cases q; exact ⟨rfl, fun _ => by simp only [hx, Option.map_some]⟩)
theorem opS_read {Γ : Ctr} (hΓ : PureC Γ) {t : List (Option Value)} {h h' : List Blk} {v : Value} {p : Bool} {o : Op} (hc : clsOf Γ.pf o = 1) (e : opS P Γ t h o = some (v, h', p)) : h' = h := by
  cases o <;> simp only [clsOf] at hc
  case load =>
    simp only [opS] at e
    split at e
    · obtain ⟨x, hx, q⟩ := Option.map_eq_some_iff.1 e; cases q; rfl
    · cases e
  case call c =>
    split at hc
    · rename_i f hf
      simp only [opS] at e
      try simp only [hf] at e
      cases hv : evL t c.args.toList with
      | none => rw [hv] at e; cases e
      | some vs =>
        rw [hv] at e
        exact hΓ.2 f hc vs h v h' p e
    · cases hc
    · cases hc
  all_goals cases hc
theorem ev_put {t : List (Option Value)} {d : Option Tmp} {v : Value} {x : Operand} (h : ∀ i, d = some i → x ≠ .tmp i) : ev (putT t d v) x = ev t x := by
  cases d with
  | none => rfl
  | some i =>
    cases x with
    | tmp j =>
      have : i ≠ j := fun q => h i rfl (by rw [q])
      simp [ev, putT, List.getElem?_set_ne this]
    | _ => rfl
theorem wantS_put {ops : Array Oper} {o : Oper} {t : List (Option Value)} {d : Option Tmp} {v : Value} (h : ∀ i, d = some i → i ∉ o.looksAt ops) : wantS ops (putT t d v) o = wantS ops t o := by
  unfold wantS
  cases hg : o.guard with
  | none => rfl
  | some g =>
    obtain ⟨j, b⟩ := g
    simp only []
    cases hd : (ops.toList[j]?).bind (·.dst) with
    | none => rfl
    | some k =>
      simp only []
      cases d with
      | none => rfl
      | some i =>
        have hj : ops[j]? = ops.toList[j]? := by simp
        have : i ≠ k := fun q => h i rfl (by simp only [Oper.looksAt, hg, List.mem_append]; right; rw [hj, hd, q]; simp)
        simp [putT, List.getElem?_set_ne this]
theorem opS_put {Γ : Ctr} {ops : Array Oper} {o : Oper} {t : List (Option Value)} {h : List Blk} {d : Option Tmp} {v : Value} (hn : ∀ i, d = some i → i ∉ o.looksAt ops) : opS P Γ (putT t d v) h o.op = opS P Γ t h o.op := by
  apply opS_congr
  intro x hx
  apply ev_put
  intro i hi q
  subst q
  exact hn i hi (by simp only [Oper.looksAt, List.mem_append, List.mem_filterMap]; exact .inl ⟨_, Array.mem_toList_iff.2 hx, rfl⟩)
theorem putT_comm {t : List (Option Value)} {a b : Option Tmp} (u v : Value) (h : ∀ d, a = some d → b ≠ some d) : putT (putT t a u) b v = putT (putT t b v) a u := by
  cases a with
  | none => rfl
  | some i =>
    cases b with
    | none => rfl
    | some j =>
      have : i ≠ j := fun q => h i rfl (by rw [q])
      exact List.set_comm _ _ this
theorem stepI_comm {Γ : Ctr} (hΓ : PureC Γ) {ops : Array Oper} {x y : Oper} (hc : commB Γ.pf ops x y = true) {s s1 s2 : St} (e1 : stepI P Γ ops x s = some s1) (e2 : stepI P Γ ops y s1 = some s2) :
    ∃ s', stepI P Γ ops y s = some s' ∧ stepI P Γ ops x s' = some s2 := by
  unfold commB at hc
  simp only [Bool.and_eq_true] at hc
  obtain ⟨hap, hcl⟩ := hc
  obtain ⟨h1, h2, h3⟩ : (∀ d, x.dst = some d → d ∉ y.looksAt ops) ∧ (∀ d, x.dst = some d → y.dst ≠ some d) ∧ (∀ d, y.dst = some d → d ∉ x.looksAt ops) := by
    unfold Oper.apart at hap
    simp only [Bool.and_eq_true] at hap
    obtain ⟨ha, hb⟩ := hap
    refine ⟨fun d hd => ?_, fun d hd => ?_, fun d hd => ?_⟩
    · rw [hd] at ha; simp at ha; exact ha.1
    · rw [hd] at ha; simp at ha; exact ha.2
    · rw [hd] at hb; simpa using hb
  unfold stepI at e1 e2 ⊢
  split at e1
  · rename_i wx
    split at e1
    · rename_i vx hx px hox
      cases e1
      simp only [wantS_put h1, opS_put h1] at e2
      split at e2
      · rename_i wy
        try rw [wy]
        split at e2
        · rename_i vy hy py hoy
          cases e2
          have key : opS P Γ s.t s.h y.op = some (vy, (if clsOf Γ.pf y.op = 0 then s.h else hy), py) ∧
              opS P Γ s.t (if clsOf Γ.pf y.op = 0 then s.h else hy) x.op = some (vx, hy, px) := by
            by_cases cy : clsOf Γ.pf y.op = 0
            · rw [if_pos cy]
              obtain ⟨q, hall⟩ := opS_pure hΓ cy hoy
              exact ⟨hall s.h, by rw [q]; exact hox⟩
            · rw [if_neg cy]
              by_cases cx : clsOf Γ.pf x.op = 0
              · obtain ⟨q, hall⟩ := opS_pure hΓ cx hox
                rw [q] at hoy
                exact ⟨hoy, hall hy⟩
              · simp only [Bool.or_eq_true, beq_iff_eq, Bool.and_eq_true] at hcl
                obtain ⟨c1, c2⟩ : clsOf Γ.pf x.op = 1 ∧ clsOf Γ.pf y.op = 1 := by
                  rcases hcl with (h | h) | h
                  · exact absurd h cx
                  · exact absurd h cy
                  · exact h
                have q1 := opS_read hΓ c1 hox
                rw [q1] at hoy
                have q2 := opS_read hΓ c2 hoy
                rw [q2]
                rw [q2] at hoy
                exact ⟨hoy, by rw [← q1]; rw [q1] at hox ⊢; exact hox⟩
          try simp only [key.1]
          refine ⟨_, rfl, ?_⟩
          simp only [wantS_put h3, opS_put h3, wx, key.2]
          have hb3 : ∀ a b c b' c' : Bool, andT (andT (andT (andT a b) b') c) c' = andT (andT (andT (andT a c) c') b) b' := by decide
          rw [putT_comm _ _ h2, hb3 s.ob]
        · cases e2
      · rename_i wy
        try rw [wy]
        cases e2
        refine ⟨_, rfl, ?_⟩
        simp only [wantS_put h3, opS_put h3, wx, hox]
        rw [putT_comm _ undef h2]
      · cases e2
    · cases e1
  · rename_i wx
    cases e1
    simp only [wantS_put h1, opS_put h1] at e2
    split at e2
    · rename_i wy
      try rw [wy]
      split at e2
      · rename_i vy hy py hoy
        cases e2
        try simp only [hoy]
        refine ⟨_, rfl, ?_⟩
        simp only [wantS_put h3, wx]
        rw [putT_comm undef _ h2]
      · cases e2
    · rename_i wy
      try rw [wy]
      cases e2
      refine ⟨_, rfl, ?_⟩
      simp only [wantS_put h3, wx]
      rw [putT_comm undef undef h2]
    · cases e2
  · cases e1
theorem runOps_first {Γ : Ctr} (hΓ : PureC Γ) {ops : Array Oper} {i : Nat} {y : Oper} (hi : ops.toList[i]? = some y) : ∀ (pre post : List Nat) (s s' : St),
    (∀ j ∈ pre, ∀ x, ops.toList[j]? = some x → commB Γ.pf ops x y = true) → runOps P Γ ops (pre ++ i :: post) s = some s' → ∃ s1, stepI P Γ ops y s = some s1 ∧ runOps P Γ ops (pre ++ post) s1 = some s'
  | [], post, s, s', _, e => by
    simp only [List.nil_append, runOps, hi] at e
    split at e
    · rename_i s1 h1; exact ⟨s1, h1, e⟩
    · cases e
  | j :: pre, post, s, s', hc, e => by
    simp only [List.cons_append, runOps] at e
    split at e
    · rename_i hn
      obtain ⟨s1, h1, h2⟩ := runOps_first hΓ hi pre post s s' (fun k hk => hc k (by simp [hk])) e
      exact ⟨s1, h1, by simp only [List.cons_append, runOps, hn]; exact h2⟩
    · rename_i x hx
      split at e
      · rename_i s0 h0
        obtain ⟨s1, h1, h2⟩ := runOps_first hΓ hi pre post s0 s' (fun k hk => hc k (by simp [hk])) e
        obtain ⟨s2, h3, h4⟩ := stepI_comm hΓ (hc j (by simp) x hx) h0 h1
        exact ⟨s2, h3, by simp only [List.cons_append, runOps, hx, h4]; exact h2⟩
      · cases e
theorem mask_bit (acc : List Nat) (j : Nat) : ∀ (es : List Edge) (s : Nat), (es.foldl (fun s e => if Region.binds .any e then s ||| 2 ^ e.on ||| acc.getD e.on 0 else s) s).testBit j = true →
    s.testBit j = true ∨ ∃ e ∈ es, Region.binds .any e = true ∧ (j = e.on ∨ (acc.getD e.on 0).testBit j = true)
  | [], s, h => .inl h
  | e :: es, s, h => by
    simp only [List.foldl_cons] at h
    rcases mask_bit acc j es _ h with h1 | ⟨e', he', hb, h1⟩
    · split at h1
      · rename_i hb
        simp only [Nat.testBit_or, Bool.or_eq_true, Nat.testBit_two_pow, decide_eq_true_eq] at h1
        rcases h1 with (h1 | h1) | h1
        · exact .inl h1
        · exact .inr ⟨e, by simp, hb, .inl h1.symm⟩
        · exact .inr ⟨e, by simp, hb, .inr h1⟩
      · exact .inl h1
    · exact .inr ⟨e', by simp [he'], hb, h1⟩
theorem getD_app {l m : List Nat} {i : Nat} (h : i < l.length) : (l ++ m).getD i 0 = l.getD i 0 := by
  rw [List.getD_eq_getElem?_getD, List.getElem?_append_left h, List.getD_eq_getElem?_getD]
def MaskOK (ops : List Oper) (m : List Nat) : Prop :=
  ∀ (i : Nat) (o : Oper), i < m.length → ops[i]? = some o → ∀ j : Nat, (m.getD i 0).testBit j = true → ∃ e ∈ o.after.toList, Region.binds .any e = true ∧ (j = e.on ∨ (e.on < i ∧ (m.getD e.on 0).testBit j = true))
theorem masks_ok : ∀ (rest done : List Oper) (acc : List Nat), acc.length = done.length → MaskOK (done ++ rest) acc → MaskOK (done ++ rest) (masks rest acc)
  | [], _, acc, _, h => h
  | o :: rest, done, acc, hl, h => by
    have : done ++ o :: rest = (done ++ [o]) ++ rest := by simp
    rw [this]
    apply masks_ok rest (done ++ [o]) (acc ++ [maskOf acc o]) (by simp [hl])
    rw [← this]
    intro i x hi hx j hj
    rcases Nat.lt_or_ge i acc.length with h1 | h1
    · rw [getD_app h1] at hj
      obtain ⟨e, he, hb, h2⟩ := h i x h1 hx j hj
      refine ⟨e, he, hb, h2.imp id fun h3 => ⟨h3.1, ?_⟩⟩
      rw [getD_app (by omega)]; exact h3.2
    · simp at hi
      have hi' : i = acc.length := by omega
      subst hi'
      rw [hl, List.getElem?_append_right (Nat.le_refl _)] at hx
      simp at hx
      subst hx
      simp only [List.getD_eq_getElem?_getD, List.getElem?_append_right (Nat.le_refl _), Nat.sub_self, List.getElem?_cons_zero, Option.getD_some] at hj
      rcases mask_bit acc j _ 0 hj with h2 | ⟨e, he, hb, h2⟩
      · simp at h2
      · refine ⟨e, he, hb, h2.imp id fun h3 => ?_⟩
        have : e.on < acc.length := by
          rcases Nat.lt_or_ge e.on acc.length with h4 | h4
          · exact h4
          · rw [List.getD_eq_getElem?_getD, List.getElem?_eq_none h4] at h3; simp at h3
        exact ⟨this, by rw [getD_app this]; exact h3⟩
def Closed (ops : List Oper) (listed : Array Bool) : Prop :=
  ∀ (j : Nat) (o : Oper), ops[j]? = some o → listed.getD j false = true → ∀ e ∈ o.after.toList, Region.binds .any e = true → listed.getD e.on false = true
theorem closed_mask {ops : List Oper} {m : List Nat} (hm : MaskOK ops m) (hlen : m.length = ops.length) {listed : Array Bool} (hc : Closed ops listed) : ∀ (n i : Nat) (o : Oper), i ≤ n → ops[i]? = some o →
    (∀ e ∈ o.after.toList, Region.binds .any e = true → listed.getD e.on false = true) → ∀ j : Nat, (m.getD i 0).testBit j = true → listed.getD j false = true := by
  intro n
  induction n with
  | zero =>
    intro i o hi ho hp j hj
    obtain ⟨e, he, hb, h1⟩ := hm i o (by rw [hlen]; exact (List.getElem?_eq_some_iff.1 ho).1) ho j hj
    rcases h1 with rfl | ⟨h1, _⟩
    · exact hp e he hb
    · omega
  | succ n ih =>
    intro i o hi ho hp j hj
    obtain ⟨e, he, hb, h1⟩ := hm i o (by rw [hlen]; exact (List.getElem?_eq_some_iff.1 ho).1) ho j hj
    rcases h1 with rfl | ⟨h1, h2⟩
    · exact hp e he hb
    · have hlt : e.on < ops.length := by have := (List.getElem?_eq_some_iff.1 ho).1; omega
      have heo := List.getElem?_eq_getElem hlt
      exact ih e.on _ (by omega) heo (hc e.on _ heo (hp e he hb)) j h2
theorem masks_length : ∀ (rest : List Oper) (acc : List Nat), (masks rest acc).length = acc.length + rest.length
  | [], acc => by simp [masks]
  | o :: rest, acc => by rw [masks, masks_length rest]; simp; omega
theorem wpAny_ops {Γ : Ctr} (hΓ : CtrSound P Γ) {ops : Array Oper} (hd : drawOK Γ.pf ops = true) : ∀ (fuel : Nat) (listed : Array Bool) (s s' : St), listed.size = ops.size → Closed ops.toList listed →
    ((List.range ops.size).filter fun i => !listed.getD i true).length = fuel →
    runOps P Γ ops ((List.range ops.size).filter fun i => !listed.getD i true) s = some s' → s'.ob = true →
    ∀ {r : List Pl} {k : Nat} {w0 w : World} {t' : List Value} {d : List Deferred} {Q : Exit → Act → World → Prop}, TR (lk r) s.t t' → Rel k w0 r s.h w →
    (∀ r' w' t'', Ext r r' → TR (lk r') s'.t t'' → Rel k w0 r' s'.h w' → Q .normal ⟨⟨t''⟩, d⟩ w') → wpAny P .any ops Q fuel listed ⟨⟨t'⟩, d⟩ w := by
  have hd' : ∀ (j : Nat) (y : Oper), ops.toList[j]? = some y → (∀ e ∈ y.after.toList, Region.binds .any e = true → e.on < j) ∧
      ∀ (i : Nat) (x : Oper), i < j → ops.toList[i]? = some x → ((masks ops.toList []).getD j 0).testBit i = true ∨ commB Γ.pf ops x y = true := by
    intro j y hy
    unfold drawOK at hd
    rw [List.all_eq_true] at hd
    have hmem : (y, j) ∈ ops.toList.zipIdx := by
      rw [List.mk_mem_zipIdx_iff_getElem?]; exact hy
    have h1 := hd _ hmem
    simp only [Bool.and_eq_true, List.all_eq_true, Bool.or_eq_true, Bool.not_eq_true', decide_eq_true_eq] at h1
    refine ⟨fun e he hb => (h1.1 e he).resolve_left (by simp [hb]), fun i x hij hx => ?_⟩
    have h2 : (x, i) ∈ ops.toList.zipIdx.take j := by
      rw [List.mem_iff_getElem?]
      refine ⟨i, ?_⟩
      rw [List.getElem?_take_of_lt hij, List.getElem?_zipIdx, hx]
      simp
    exact h1.2 _ h2
  have hready : ∀ (listed : Array Bool) (i : Nat), i ∈ Region.ready .any ops listed → i ∈ (List.range ops.size).filter fun i => !listed.getD i true := fun listed i hi => by
    obtain ⟨h1, o, ho, _⟩ := mem_ready.1 hi
    rw [List.mem_filter, List.mem_range]
    exact ⟨(Array.getElem?_eq_some_iff.1 ho).1, by simp only [h1, Bool.not_false]⟩
  intro fuel
  induction fuel with
  | zero =>
    intro listed s s' _ _ hlen hr hob r k w0 w t' d Q hl R hQ
    have hnil := List.length_eq_zero_iff.1 hlen
    rw [hnil] at hr
    simp only [runOps, Option.some.injEq] at hr
    subst hr
    refine ⟨?_, hQ r w t' (Ext.refl r) hl R⟩
    cases hrd : Region.ready .any ops listed with
    | nil => rfl
    | cons i l =>
      have := hready listed i (by rw [hrd]; simp)
      rw [hnil] at this
      cases this
  | succ fuel ih =>
    intro listed s s' hsz hcl hlen hr hob r k w0 w t' d Q hl R hQ
    refine ⟨fun hnil => ?_, fun i hi => ?_⟩
    · -- the first that is not listed is ready
      exfalso
      cases hL : (List.range ops.size).filter fun i => !listed.getD i true with
      | nil => rw [hL] at hlen; cases hlen
      | cons i0 l =>
        have hi0 : i0 ∈ (List.range ops.size).filter fun i => !listed.getD i true := by rw [hL]; simp
        rw [List.mem_filter, List.mem_range] at hi0
        have hsorted : ((List.range ops.size).filter fun i => !listed.getD i true).Pairwise (· < ·) := List.Pairwise.filter _ List.pairwise_lt_range
        have hmin : ∀ j, j < i0 → listed.getD j false = true := fun j hj => by
          cases hq : listed.getD j true with
          | true =>
            have hjs : j < listed.size := by rw [hsz]; omega
            simp [hjs] at hq ⊢; exact hq
          | false =>
            have hm : j ∈ (List.range ops.size).filter fun i => !listed.getD i true := by
              rw [List.mem_filter, List.mem_range]; exact ⟨by omega, by simp only [hq, Bool.not_false]⟩
            rw [hL] at hm hsorted
            rcases List.mem_cons.1 hm with rfl | hm
            · omega
            · have := (List.pairwise_cons.1 hsorted).1 j hm; omega
        have ho := Array.getElem?_eq_getElem (xs := ops) hi0.1
        have : i0 ∈ Region.ready .any ops listed := by
          refine mem_ready.2 ⟨by simpa using hi0.2, _, ho, fun e he hb => hmin e.on ?_⟩
          exact (hd' i0 _ (by rw [Array.getElem?_toList]; exact ho)).1 e (by simpa using he) hb
        rw [hnil] at this
        cases this
    · obtain ⟨hun, o, ho, hpre⟩ := mem_ready.1 hi
      have hil := hready listed i hi
      obtain ⟨pre, post, hsplit⟩ := List.append_of_mem hil
      have hsorted : ((List.range ops.size).filter fun i => !listed.getD i true).Pairwise (· < ·) := List.Pairwise.filter _ List.pairwise_lt_range
      rw [hsplit] at hr hsorted
      have hprelt : ∀ j ∈ pre, j < i := fun j hj => (List.pairwise_append.1 hsorted).2.2 j hj i (by simp)
      have hpostgt : ∀ j ∈ post, i < j := fun j hj => (List.pairwise_cons.1 (List.pairwise_append.1 hsorted).2.1).1 j hj
      have hol : ops.toList[i]? = some o := by simpa using ho
      have hmk := masks_ok ops.toList [] [] rfl (fun i o hi => by simp at hi)
      have hml : (masks ops.toList []).length = ops.toList.length := by rw [masks_length]; simp
      have hcomm : ∀ j ∈ pre, ∀ x, ops.toList[j]? = some x → commB Γ.pf ops x o = true := fun j hj x hx => by
        rcases (hd' i o hol).2 j x (hprelt j hj) hx with h1 | h1
        · have h2 := closed_mask (by simpa using hmk) hml hcl i i o (Nat.le_refl _) hol (fun e he hb => hpre e (by simpa using he) hb) j h1
          have hjm : j ∈ (List.range ops.size).filter fun i => !listed.getD i true := by rw [hsplit]; simp [hj]
          rw [List.mem_filter] at hjm
          have hjs : j < listed.size := by rw [hsz]; exact List.mem_range.1 hjm.1
          have h3 := hjm.2
          simp [hjs] at h2 h3
          rw [h2] at h3
          cases h3
        · exact h1
      obtain ⟨s1, h1, h2⟩ := runOps_first (P := P) hΓ.pure hol pre post s s' hcomm hr
      refine wpOp_sound hΓ ho h1 (runOps_ob _ _ _ h2 hob) hl R fun r' w' t'' he hl' R' => ?_
      have hfil : (List.range ops.size).filter (fun j => !(listed.setIfInBounds i true).getD j true) = pre ++ post := by
        have e1 : ∀ j, (listed.setIfInBounds i true).getD j true = (listed.getD j true || decide (j = i)) := fun j => by
          by_cases hij : i = j
          · subst hij
            have his : i < listed.size := by rw [hsz]; exact (Array.getElem?_eq_some_iff.1 ho).1
            simp [his]
          · rw [getD_set_ne true hij]
            have : ¬ j = i := fun q => hij q.symm
            simp [this]
        have e2 : (List.range ops.size).filter (fun j => !(listed.setIfInBounds i true).getD j true) = ((List.range ops.size).filter fun j => !listed.getD j true).filter fun j => decide (j ≠ i) := by
          rw [List.filter_filter]
          apply List.filter_congr
          intro j _
          rw [e1 j]
          by_cases hji : j = i <;> simp [hji]
        rw [e2, hsplit, List.filter_append, List.filter_cons]
        have e3 : pre.filter (fun j => decide (j ≠ i)) = pre := List.filter_eq_self.2 fun j hj => by have := hprelt j hj; simp; omega
        have e4 : post.filter (fun j => decide (j ≠ i)) = post := List.filter_eq_self.2 fun j hj => by have := hpostgt j hj; simp; omega
        rw [e3, e4]
        simp
      refine ih (listed.setIfInBounds i true) s1 s' (by simp [hsz]) ?_ ?_ (by rw [hfil]; exact h2) hob hl' R' fun r2 w2 t2 he2 hl2 R2 => hQ r2 w2 t2 (he.trans he2) hl2 R2
      · intro j x hx hlj e hes hb
        by_cases hij : i = j
        · subst hij
          rw [hol] at hx; cases hx
          exact getD_set_true (hpre e (by simpa using hes) hb)
        · rw [getD_set_ne false hij] at hlj
          exact getD_set_true (hcl j x hx hlj e hes hb)
      · rw [hfil]
        rw [hsplit] at hlen
        simp at hlen ⊢
        omega
theorem region_draw_sound {Γ : Ctr} (hΓ : CtrSound P Γ) {ops : Array Oper} (hm : P.follows .mixedOrders = true) (hd : drawOK Γ.pf ops = true) {s s' : St} (hr : runOps P Γ ops (List.range ops.size) s = some s') (hob : s'.ob = true)
    {r : List Pl} {k : Nat} {w0 w : World} {t' : List Value} {d : List Deferred} {Q : Exit → Act → World → Prop} (hl : TR (lk r) s.t t') (R : Rel k w0 r s.h w)
    (hQ : ∀ r' w' t'', Ext r r' → TR (lk r') s'.t t'' → Rel k w0 r' s'.h w' → Q .normal ⟨⟨t''⟩, d⟩ w') (id : Nat) : (Code.region id ops true).wp P Q ⟨⟨t'⟩, d⟩ w := by
  refine wp_region_any hm ?_
  have hall : (List.range ops.size).filter (fun i => !(Array.replicate ops.size false).getD i true) = List.range ops.size := List.filter_eq_self.2 fun i hi => by
    rw [List.mem_range] at hi; simp [hi]
  have R' : Rel k w0 r s.h { w with drawn := w.drawn + 1 } := { os := R.os, tape := R.tape, output := R.output, size := R.size, nodup := R.nodup, len := R.len, news := R.news, blk := R.blk, old := R.old, kle := R.kle }
  refine wpAny_ops hΓ hd ops.size _ s s' (by simp) ?_ (by rw [hall]; simp) (by rw [hall]; exact hr) hob hl R' hQ
  intro j o ho hlj
  rw [show (Array.replicate ops.size false).getD j false = false from by rw [Array.getD_eq_getD_getElem?, Array.getElem?_replicate]; split <;> rfl] at hlj
  cases hlj
theorem exec_ob {Γ : Ctr} : ∀ (n : Nat) (c : Code) (s s' : St) (x : Exit), exec P Γ n c s = some (x, s') → s'.ob = true → s.ob = true
  | 0, _, _, _, _, e, _ => by simp [exec] at e
  | n + 1, c, s, s', x, e, h => by
    cases c <;> simp only [exec] at e
    case skip => cases e; exact h
    case label => cases e; exact h
    case exit => cases e; exact h
    case ret => cases e; exact h
    case seq a b =>
      split at e
      · rename_i s1 h1; exact exec_ob n a s s1 _ h1 (exec_ob n b s1 s' x e h)
      · exact exec_ob n a s s' x e h
    case cond c a b =>
      split at e
      · exact exec_ob n a s s' x e h
      · exact exec_ob n b s s' x e h
      · cases e
    case block id b =>
      split at e
      · rename_i j s1 h1
        split at e <;> (cases e; exact exec_ob n b s _ _ h1 h)
      · exact exec_ob n b s s' x e h
    case loop b =>
      split at e
      · rename_i s1 h1; exact exec_ob n b s s1 _ h1 (exec_ob n _ s1 s' x e h)
      · exact exec_ob n b s s' x e h
    case region id ops draw =>
      split at e
      · cases hr : runOps P Γ ops (List.range ops.size) s <;> simp [hr] at e
        obtain ⟨rfl, rfl⟩ := e
        exact runOps_ob _ _ _ hr h
      · cases e
    all_goals cases e
theorem exec_sound {Γ : Ctr} (hΓ : CtrSound P Γ) : ∀ (n : Nat),
    (∀ (c : Code) (s s' : St) (x : Exit), exec P Γ n c s = some (x, s') → s'.ob = true →
      ∀ {r : List Pl} {k : Nat} {w0 w : World} {t' : List Value} {d : List Deferred} {Q : Exit → Act → World → Prop}, TR (lk r) s.t t' → Rel k w0 r s.h w →
      (∀ r' w' t'', Ext r r' → TR (lk r') s'.t t'' → Rel k w0 r' s'.h w' → Q x ⟨⟨t''⟩, d⟩ w') → c.wp P Q ⟨⟨t'⟩, d⟩ w) ∧
    (∀ (c : Code) (s s' : St) (x : Exit), exec P Γ n (.loop c) s = some (x, s') → s'.ob = true →
      ∀ {r : List Pl} {k : Nat} {w0 w : World} {t' : List Value} {d : List Deferred} {Q : Exit → Act → World → Prop}, TR (lk r) s.t t' → Rel k w0 r s.h w →
      (∀ r' w' t'', Ext r r' → TR (lk r') s'.t t'' → Rel k w0 r' s'.h w' → Q x ⟨⟨t''⟩, d⟩ w') → Code.rounds P c Q n ⟨⟨t'⟩, d⟩ w) := by
  intro n
  induction n with
  | zero => exact ⟨fun _ _ _ _ e => by simp [exec] at e, fun _ _ _ _ e => by simp [exec] at e⟩
  | succ n ih =>
    obtain ⟨ihA, ihB⟩ := ih
    have hB : ∀ (c : Code) (s s' : St) (x : Exit), exec P Γ (n + 1) (.loop c) s = some (x, s') → s'.ob = true →
      ∀ {r : List Pl} {k : Nat} {w0 w : World} {t' : List Value} {d : List Deferred} {Q : Exit → Act → World → Prop}, TR (lk r) s.t t' → Rel k w0 r s.h w →
      (∀ r' w' t'', Ext r r' → TR (lk r') s'.t t'' → Rel k w0 r' s'.h w' → Q x ⟨⟨t''⟩, d⟩ w') → Code.rounds P c Q (n + 1) ⟨⟨t'⟩, d⟩ w := by
      intro c s s' x e hob r k w0 w t' d Q hl R hQ
      rw [rounds_succ]
      simp only [exec] at e
      split at e
      · rename_i s1 h1
        refine ihA c s s1 .normal h1 (exec_ob n _ s1 s' x e hob) hl R fun r1 w1 t1 he1 hl1 R1 => ?_
        exact ihB c s1 s' x e hob hl1 R1 fun r2 w2 t2 he2 hl2 R2 => hQ r2 w2 t2 (he1.trans he2) hl2 R2
      · rename_i hne
        refine ihA c s s' x e hob hl R fun r1 w1 t1 he1 hl1 R1 => ?_
        have := hQ r1 w1 t1 he1 hl1 R1
        cases x
        case normal => exact absurd e (hne s')
        all_goals exact this
    refine ⟨?_, hB⟩
    intro c s s' x e hob r k w0 w t' d Q hl R hQ
    cases c
    case loop b => exact wp_loop_rounds (n + 1) (hB b s s' x e hob hl R hQ)
    all_goals simp only [exec] at e
    case skip => cases e; exact wp_skip (hQ r w t' (Ext.refl r) hl R)
    case label => cases e; exact wp_label (hQ r w t' (Ext.refl r) hl R)
    case exit => cases e; exact wp_exit (hQ r w t' (Ext.refl r) hl R)
    case ret => cases e; exact wp_ret (hQ r w t' (Ext.refl r) hl R)
    case seq a b =>
      refine wp_seq ?_
      split at e
      · rename_i s1 h1
        refine ihA a s s1 .normal h1 (exec_ob n _ s1 s' x e hob) hl R fun r1 w1 t1 he1 hl1 R1 => ?_
        exact ihA b s1 s' x e hob hl1 R1 fun r2 w2 t2 he2 hl2 R2 => hQ r2 w2 t2 (he1.trans he2) hl2 R2
      · rename_i hne
        refine ihA a s s' x e hob hl R fun r1 w1 t1 he1 hl1 R1 => ?_
        have := hQ r1 w1 t1 he1 hl1 R1
        cases x
        case normal => exact absurd e (hne s')
        all_goals exact this
    case cond c a b =>
      split at e
      · rename_i hcv
        exact wp_cond_true (ev_sound (d := d) hl hcv).bool (ihA a s s' x e hob hl R hQ)
      · rename_i hcv
        exact wp_cond_false (ev_sound (d := d) hl hcv).bool (ihA b s s' x e hob hl R hQ)
      · cases e
    case block id b =>
      refine wp_block ?_
      split at e
      · rename_i j s1 h1
        split at e
        · rename_i hj
          cases e
          refine ihA b s s' _ h1 hob hl R fun r1 w1 t1 he1 hl1 R1 => ?_
          simp only [Exit.inBlock, hj, if_true]
          exact hQ r1 w1 t1 he1 hl1 R1
        · rename_i hj
          cases e
          refine ihA b s s' _ h1 hob hl R fun r1 w1 t1 he1 hl1 R1 => ?_
          simp only [Exit.inBlock, hj, if_false]
          exact hQ r1 w1 t1 he1 hl1 R1
      · rename_i hne
        refine ihA b s s' x e hob hl R fun r1 w1 t1 he1 hl1 R1 => ?_
        have := hQ r1 w1 t1 he1 hl1 R1
        cases x
        case exit j => exact absurd e (hne j s')
        all_goals exact this
    case region id ops draw =>
      split at e
      · rename_i hdr
        cases hr : runOps P Γ ops (List.range ops.size) s <;> simp [hr] at e
        obtain ⟨rfl, rfl⟩ := e
        cases draw
        · exact wp_region (runOps_sound hΓ _ _ _ hr hob hl R hQ)
        · simp at hdr
          exact region_draw_sound hΓ hdr.1 hdr.2 hr hob hl R hQ id
      · cases e
    all_goals cases e
end
end Go.Lift
namespace Go.Lift
open Go
section
variable {P : Program}
def resOne (t' : List Value) : ResultVar → Sem Value
  | .tmp i => pure ((⟨t'⟩ : Array Value).getD i undef)
  | .cell a ty => do loadVar ty (← asAddr ((⟨t'⟩ : Array Value).getD a undef))
theorem resS_sound {k : Nat} {w0 w : World} {r : List Pl} {h : List Blk} {t : List (Option Value)} {t' : List Value} (hl : TR (lk r) t t') (R : Rel k w0 r h w) : ∀ (l : List ResultVar) (vs : List Value), resS P t h l = some (vs, true) →
    ∃ vs', (l.mapM (resOne t')).run P w = .ok vs' w ∧ LR (lk r) vs vs'
  | [], vs, e => by simp [resS] at e; subst e; exact ⟨[], by simp, rfl⟩
  | .tmp i :: l, vs, e => by
    simp only [resS] at e
    split at e
    · rename_i v us p hv hr
      simp only [Option.some.injEq, Prod.mk.injEq] at e
      obtain ⟨rfl, rfl⟩ := e
      obtain ⟨vs', hvs, hl'⟩ := resS_sound hl R l us hr
      refine ⟨_, ?_, _, _, ev_sound (d := []) hl hv, hl', rfl⟩
      simp only [List.mapM_cons, resOne, Sem.run_bind, hvs, Sem.run_pure, Result.andThen_ok, Act.eval]
    · cases e
  | .cell a ty :: l, vs, e => by
    simp only [resS] at e
    split at e
    · rename_i x hx
      split at e
      · rename_i v q us p hv hus
        simp only [Option.some.injEq, Prod.mk.injEq, andT_iff] at e
        obtain ⟨rfl, rfl, rfl⟩ := e
        obtain ⟨vs', hv', hl'⟩ := resS_sound hl R l us hus
        obtain ⟨n, o, v', ha, hr, hvr⟩ := loadS_sound R hv (ev_sound (d := []) hl hx)
        have ha' : (⟨t'⟩ : Array Value).getD a undef = .pointer (some ⟨n, o, none⟩) := ha
        refine ⟨_, ?_, _, _, hvr, hl', rfl⟩
        simp only [List.mapM_cons, resOne, Sem.run_bind, ha', asAddr, Sem.run_pure, Result.andThen_ok, hr, hv']
      · cases e
    · cases e
theorem oneOf_VR {r : Nat → Option Pl} {vs vs' : List Value} (h : LR r vs vs') : VR r (oneOf vs) (if g : (⟨vs'⟩ : Array Value).size = 1 then (⟨vs'⟩ : Array Value)[0] else .tuple ⟨vs'⟩) := by
  match vs, h with
  | [], e => rw [LR] at e; subst e; exact ⟨[], rfl, rfl⟩
  | [x], ⟨y, zs, hy, hz, q⟩ => rw [LR] at hz; subst hz; subst q; simpa [oneOf] using hy
  | x :: x' :: xs, ⟨y, zs, hy, hz, q⟩ =>
    subst q
    have hlen := hz.length
    have : ¬ (⟨y :: zs⟩ : Array Value).size = 1 := by simp [List.size_toArray] at *; intro e; subst e; simp at hlen
    rw [dif_neg this]
    exact ⟨_, ⟨y, zs, hy, hz, rfl⟩, rfl⟩
theorem results_sound {k : Nat} {w0 w : World} {r : List Pl} {h : List Blk} {t : List (Option Value)} {t' : List Value} (hl : TR (lk r) t t') (R : Rel k w0 r h w) {fn : Func} {vs : List Value} (e : resS P t h fn.results.toList = some (vs, true)) :
    ∃ v', (results fn ⟨t'⟩).run P w = .ok v' w ∧ VR (lk r) (oneOf vs) v' := by
  obtain ⟨vs', hv, hl'⟩ := resS_sound hl R fn.results.toList vs e
  refine ⟨_, ?_, oneOf_VR hl'⟩
  have hfun : results fn ⟨t'⟩ = (do let vs ← fn.results.mapM (resOne t'); pure (if h : vs.size = 1 then vs[0] else .tuple vs)) := by
    unfold results
    have : ∀ g : ResultVar → Sem Value, (∀ x, g x = resOne t' x) → g = resOne t' := fun g h => funext h
    rw [this (fun x => _) (fun x => by cases x <;> rfl)]
  rw [hfun, Array.mapM_eq_mapM_toList]
  simp only [Sem.run_bind, Sem.run_map, hv, Result.andThen_ok]
  rfl
theorem TR.slots0 {r : Nat → Option Pl} {args args' : List Value} (h : LR r args args') (n : Nat) : TR r (slots0 n args) (args' ++ List.replicate (n - args.length) undef) := by
  refine ⟨by simp [Lift.slots0, h.length], fun i v v' e e' => ?_⟩
  unfold Lift.slots0 at e
  rcases Nat.lt_or_ge i args.length with h1 | h1
  · rw [List.getElem?_append_left (by simpa using h1), List.getElem?_map] at e
    rw [List.getElem?_append_left (by rw [h.length]; exact h1)] at e'
    obtain ⟨x, hx, q⟩ := Option.map_eq_some_iff.1 e
    cases q
    obtain ⟨y, hy, hv⟩ := h.get hx
    rw [e'] at hy; cases hy
    exact hv
  · rw [List.getElem?_append_right (by simpa using h1), List.getElem?_replicate] at e
    split at e <;> cases e
def Tr (P : Program) (c : Code) (s : St) (x : Exit) (s' : St) : Prop :=
  ∀ (r : List Pl) (k : Nat) (w0 w : World) (t' : List Value) (d : List Deferred) (Q : Exit → Act → World → Prop), TR (lk r) s.t t' → Rel k w0 r s.h w →
    (∀ r' w' t'', Ext r r' → TR (lk r') s'.t t'' → Rel k w0 r' s'.h w' → Q x ⟨⟨t''⟩, d⟩ w') → c.wp P Q ⟨⟨t'⟩, d⟩ w
theorem Tr.exec {Γ : Ctr} (hΓ : CtrSound P Γ) {n : Nat} {c : Code} {s s' : St} {x : Exit} (e : exec P Γ n c s = some (x, s')) (hob : s'.ob = true) : Tr P c s x s' :=
  fun _ _ _ _ _ _ _ hl R hQ => (exec_sound hΓ n).1 c s s' x e hob hl R hQ
theorem Tr.seq {a b : Code} {s s1 s' : St} {x : Exit} (h1 : Tr P a s .normal s1) (h2 : Tr P b s1 x s') : Tr P (.seq a b) s x s' :=
  fun r k w0 w t' d Q hl R hQ => wp_seq (h1 r k w0 w t' d _ hl R fun r1 w1 t1 he hl1 R1 => h2 r1 k w0 w1 t1 d Q hl1 R1 fun r2 w2 t2 he2 hl2 R2 => hQ r2 w2 t2 (he.trans he2) hl2 R2)
theorem Tr.seq_leave {a b : Code} {s s' : St} {x : Exit} (h1 : Tr P a s x s') (hx : x ≠ .normal) : Tr P (.seq a b) s x s' :=
  fun r k w0 w t' d Q hl R hQ => wp_seq (h1 r k w0 w t' d _ hl R fun r1 w1 t1 he hl1 R1 => by
    have := hQ r1 w1 t1 he hl1 R1
    cases x <;> first | exact absurd rfl hx | exact this)
theorem Tr.block {id : Nat} {b : Code} {s s' : St} (h : Tr P b s (.exit id) s') : Tr P (.block id b) s .normal s' :=
  fun r k w0 w t' d Q hl R hQ => wp_block (h r k w0 w t' d _ hl R fun r1 w1 t1 he hl1 R1 => by
    show (if id = id then Q .normal _ _ else _)
    rw [if_pos rfl]; exact hQ r1 w1 t1 he hl1 R1)
theorem Tr.block_pass {id : Nat} {b : Code} {s s' : St} {x : Exit} (h : Tr P b s x s') (hx : ∀ j, x ≠ .exit j) : Tr P (.block id b) s x s' :=
  fun r k w0 w t' d Q hl R hQ => wp_block (h r k w0 w t' d _ hl R fun r1 w1 t1 he hl1 R1 => by
    have := hQ r1 w1 t1 he hl1 R1
    cases x <;> first | exact absurd rfl (hx _) | exact this)
theorem Tr.block_out {id j : Nat} {b : Code} {s s' : St} (h : Tr P b s (.exit j) s') (hj : j ≠ id) : Tr P (.block id b) s (.exit j) s' :=
  fun r k w0 w t' d Q hl R hQ => wp_block (h r k w0 w t' d _ hl R fun r1 w1 t1 he hl1 R1 => by
    show (if j = id then Q .normal _ _ else _)
    rw [if_neg hj]; exact hQ r1 w1 t1 he hl1 R1)
structure Sub (s s' : St) : Prop where
  tl : s'.t.length = s.t.length
  t : ∀ (i : Nat) (v : Value), s'.t[i]? = some (some v) → s.t[i]? = some (some v)
  hl : s'.h.length = s.h.length
  h : ∀ (i : Nat) (b b' : Blk), s.h[i]? = some b → s'.h[i]? = some b' → b'.own = b.own ∧ b'.vals = b.vals
theorem Sub.TR {s s' : St} (h : Sub s s') {r : Nat → Option Pl} {t' : List Value} (g : Lift.TR r s.t t') : Lift.TR r s'.t t' :=
  ⟨by rw [h.tl, g.1], fun i v v' e e' => g.2 i v v' (h.t i v e) e'⟩
theorem BR.same {r : Nat → Option Pl} {p : Pl} {b b' : Blk} {o : Obj} (h1 : b'.own = b.own) (h2 : b'.vals = b.vals) (g : BR r p b o) : BR r p b' o := by
  unfold BR at g ⊢
  rw [h1, h2]; exact g
theorem Sub.Rel {s s' : St} (h : Sub s s') {k : Nat} {w0 w : World} {r : List Pl} (R : Lift.Rel k w0 r s.h w) : Lift.Rel k w0 r s'.h w where
  os := R.os
  tape := R.tape
  output := R.output
  size := R.size
  nodup := R.nodup
  len := by rw [h.hl, R.len]
  news := R.news
  blk := fun i b' hb' => by
    have hi : i < s.h.length := by rw [← h.hl]; exact (List.getElem?_eq_some_iff.1 hb').1
    obtain ⟨p, o, hp, ho, hbr⟩ := R.blk i _ (List.getElem?_eq_getElem hi)
    obtain ⟨h1, h2⟩ := h.h i _ b' (List.getElem?_eq_getElem hi) hb'
    exact ⟨p, o, hp, ho, BR.same h1 h2 hbr⟩
  old := R.old
  kle := by rw [h.hl]; exact R.kle
theorem Tr.pre {c : Code} {s s1 s' : St} {x : Exit} (h : Tr P c s1 x s') (g : Sub s s1) : Tr P c s x s' :=
  fun r k w0 w t' d Q hl R hQ => h r k w0 w t' d Q (g.TR hl) (g.Rel R) hQ
theorem Tr.post {c : Code} {s s1 s' : St} {x : Exit} (h : Tr P c s x s1) (g : Sub s1 s') : Tr P c s x s' :=
  fun r k w0 w t' d Q hl R hQ => h r k w0 w t' d Q hl R fun r1 w1 t1 he hl1 R1 => hQ r1 w1 t1 he (g.TR hl1) (g.Rel R1)
theorem Tr.for {b : Code} {x : Exit} {s' : St} (hx : x ≠ .normal) (f : Nat → St) : ∀ (N : Nat), (∀ i, i < N → Tr P b (f i) .normal (f (i + 1))) → Tr P b (f N) x s' → Tr P (.loop b) (f 0) x s' := by
  have key : ∀ (m i N : Nat), N = i + m → (∀ j, j < N → Tr P b (f j) .normal (f (j + 1))) → Tr P b (f N) x s' →
      ∀ (r : List Pl) (k : Nat) (w0 w : World) (t' : List Value) (d : List Deferred) (Q : Exit → Act → World → Prop), TR (lk r) (f i).t t' → Rel k w0 r (f i).h w →
      (∀ r' w' t'', Ext r r' → TR (lk r') s'.t t'' → Rel k w0 r' s'.h w' → Q x ⟨⟨t''⟩, d⟩ w') → Code.rounds P b Q (m + 1) ⟨⟨t'⟩, d⟩ w := by
    intro m
    induction m with
    | zero =>
      intro i N hN _ hlast r k w0 w t' d Q hl R hQ
      obtain rfl : N = i := by omega
      rw [rounds_succ]
      refine hlast r k w0 w t' d _ hl R fun r1 w1 t1 he hl1 R1 => ?_
      have := hQ r1 w1 t1 he hl1 R1
      cases x <;> first | exact absurd rfl hx | exact this
    | succ m ih =>
      intro i N hN hb hlast r k w0 w t' d Q hl R hQ
      rw [rounds_succ]
      refine hb i (by omega) r k w0 w t' d _ hl R fun r1 w1 t1 he hl1 R1 => ?_
      exact ih (i + 1) N (by omega) hb hlast r1 k w0 w1 t1 d Q hl1 R1 fun r2 w2 t2 he2 hl2 R2 => hQ r2 w2 t2 (he.trans he2) hl2 R2
  intro N hb hlast r k w0 w t' d Q hl R hQ
  exact wp_loop_rounds (N + 1) (key N 0 N (by omega) hb hlast r k w0 w t' d Q hl R hQ)
def TrR (P : Program) (b : Code) (s : St) (x : Exit) (s' : St) : Prop :=
  ∃ m : Nat, ∀ (r : List Pl) (k : Nat) (w0 w : World) (t' : List Value) (d : List Deferred) (Q : Exit → Act → World → Prop), TR (lk r) s.t t' → Rel k w0 r s.h w →
    (∀ r' w' t'', Ext r r' → TR (lk r') s'.t t'' → Rel k w0 r' s'.h w' → Q x ⟨⟨t''⟩, d⟩ w') → Code.rounds P b Q m ⟨⟨t'⟩, d⟩ w
theorem TrR.leave {b : Code} {s s' : St} {x : Exit} (h : Tr P b s x s') (hx : x ≠ .normal) : TrR P b s x s' :=
  ⟨1, fun r k w0 w t' d Q hl R hQ => by
    rw [rounds_succ]
    refine h r k w0 w t' d _ hl R fun r1 w1 t1 he hl1 R1 => ?_
    have := hQ r1 w1 t1 he hl1 R1
    cases x <;> first | exact absurd rfl hx | exact this⟩
theorem TrR.step {b : Code} {s s1 s' : St} {x : Exit} (h : Tr P b s .normal s1) (g : TrR P b s1 x s') : TrR P b s x s' := by
  obtain ⟨m, hm⟩ := g
  refine ⟨m + 1, fun r k w0 w t' d Q hl R hQ => ?_⟩
  rw [rounds_succ]
  exact h r k w0 w t' d _ hl R fun r1 w1 t1 he hl1 R1 => hm r1 k w0 w1 t1 d Q hl1 R1 fun r2 w2 t2 he2 hl2 R2 => hQ r2 w2 t2 (he.trans he2) hl2 R2
theorem TrR.loop {b : Code} {s s' : St} {x : Exit} (h : TrR P b s x s') : Tr P (.loop b) s x s' := by
  obtain ⟨m, hm⟩ := h
  exact fun r k w0 w t' d Q hl R hQ => wp_loop_rounds m (hm r k w0 w t' d Q hl R hQ)
theorem TrR.pre {b : Code} {s s1 s' : St} {x : Exit} (h : TrR P b s1 x s') (g : Sub s s1) : TrR P b s x s' := by
  obtain ⟨m, hm⟩ := h
  exact ⟨m, fun r k w0 w t' d Q hl R hQ => hm r k w0 w t' d Q (g.TR hl) (g.Rel R) hQ⟩
def FnTr (P : Program) (fn : Func) (args : List Value) (h : List Blk) (v : Value) (h' : List Blk) : Prop :=
  ∃ c x s vs, fn.body = some c ∧ (x = .ret ∨ x = .normal) ∧ Tr P c ⟨slots0 fn.ntmps args, h, true⟩ x s ∧ resS P s.t s.h fn.results.toList = some (vs, true) ∧ v = oneOf vs ∧ h' = s.h
theorem FnTr.of_callS {Γ : Ctr} (hΓ : CtrSound P Γ) {fn : Func} {n : Nat} {args : List Value} {h h' : List Blk} {v : Value} (e : callS P Γ n fn args h = some (v, h', true)) : FnTr P fn args h v h' := by
  unfold callS at e
  split at e
  · cases e
  · rename_i c hb
    split at e
    all_goals (try (cases e; done))
    all_goals
      rename_i s hs
      obtain ⟨⟨vs, p⟩, hr, q⟩ := Option.map_eq_some_iff.1 e
      simp only [Prod.mk.injEq, andT_iff] at q
      obtain ⟨rfl, rfl, hob, rfl⟩ := q
      exact ⟨c, _, s, vs, hb, by simp, Tr.exec hΓ hs hob, hr, rfl, rfl⟩
theorem FnTr.calls {f : FuncId} {fn : Func} (hf : P.funcs[f]? = some fn) {args : List Value} {h h' : List Blk} {v : Value} (e : FnTr P fn args h v h')
    {r : List Pl} {k : Nat} {w0 w : World} {args' : List Value} (hl : LR (lk r) args args') (R : Rel k w0 r h w) :
    Calls P f ⟨args'⟩ w fun e w' => ∃ v', e = .returned v' ∧ ∃ r', Ext r r' ∧ VR (lk r') v v' ∧ Rel k w0 r' h' w' := by
  obtain ⟨c, x, s, vs, hb, hx, htr, hr, rfl, rfl⟩ := e
  refine calls_of_wp hf hb ?_
  have hlen := hl.length
  have hinit := TR.slots0 hl fn.ntmps
  have htm : ((⟨args'⟩ : Array Value) ++ Array.replicate (fn.ntmps - (⟨args'⟩ : Array Value).size) undef) = ⟨args' ++ List.replicate (fn.ntmps - args.length) undef⟩ := by
    apply Array.ext'
    simp [hlen]
  rw [htm]
  refine htr r k w0 w _ _ _ hinit R fun r' w' t'' he hl' R' => ?_
  obtain ⟨v', hv, hvr⟩ := results_sound hl' R' hr
  rcases hx with rfl | rfl
  · exact ⟨rfl, v', hv, v', rfl, r', he, hvr, R'⟩
  · exact ⟨rfl, v', hv, v', rfl, r', he, hvr, R'⟩
def CtrAt (P : Program) (f : FuncId) (vs : List Value) (h : List Blk) (v : Value) (h' : List Blk) : Prop :=
  ∀ (r : List Pl) (w : World) (args : List Value), LR (lk r) vs args → Rel h.length w r h w →
    CallOK P f ⟨args⟩ w fun v' w' => ∃ r', Ext r r' ∧ VR (lk r') v v' ∧ Rel h.length w r' h' w'
def BK (s : Nat → Option Pl) (c : Pl) (b0 b : Blk) : Prop :=
  (∀ t, b0.own = some t → c.base = 0 ∧ c.ro = false ∧ b.own = some t ∧ LR s b0.vals b.vals) ∧
  (b0.own = none → c.ro = true ∧ LR s b0.vals ((b.vals.drop c.base).take b0.vals.length))
theorem BR.cells {r : Nat → Option Pl} {m : Pl} {b : Blk} {o : Obj} (g : BR r m b o) : ∃ c t fr, o = .cells c t fr ∧ LR r b.vals ((c.toList.drop m.base).take b.vals.length) := by
  cases hq : b.own with
  | some ty =>
    obtain ⟨h0, _, ys, hy, rfl⟩ := g.1 ty hq
    refine ⟨⟨ys⟩, ty, (0, 0), rfl, ?_⟩
    have : (ys.drop m.base).take b.vals.length = ys := by rw [h0]; simp [← hy.length]
    rw [this]; exact hy
  | none => obtain ⟨_, c, t, fr, e, h⟩ := g.2 hq; exact ⟨c, t, fr, e, h⟩
theorem take_drop_take {l : List Value} {a b n m : Nat} (h : b + n ≤ m) : (((l.drop a).take m).drop b).take n = (l.drop (a + b)).take n := by
  rw [List.drop_take, List.take_take, List.drop_drop]
  congr 1
  omega
theorem BR.comp {s r t : Nat → Option Pl} (h : ∀ (i : Nat) (c m : Pl), s i = some c → r c.n = some m → ∃ p, t i = some p ∧ p.n = m.n ∧ p.base = m.base + c.base) {c m p : Pl} {b0 b : Blk} {o : Obj}
    (e : BK s c b0 b) (g : BR r m b o) (hp : p.base = m.base + c.base) (hro : p.ro = c.ro) : BR t p b0 o := by
  refine ⟨fun ty hty => ?_, fun hnone => ?_⟩
  · obtain ⟨h1, h2, hown, hu⟩ := e.1 ty hty
    obtain ⟨h3, _, ys, hy, rfl⟩ := g.1 ty hown
    exact ⟨by rw [hp, h1, h3], by rw [hro, h2], ys, LR.comp h _ _ ys hu hy, rfl⟩
  · obtain ⟨h1, hu⟩ := e.2 hnone
    obtain ⟨cs, ty, fr, rfl, hy⟩ := BR.cells g
    refine ⟨by rw [hro, h1], cs, ty, fr, rfl, ?_⟩
    generalize b0.vals = vs at hu ⊢
    have hfit : c.base + vs.length ≤ b.vals.length ∨ vs = [] := by
      have := hu.length
      simp only [List.length_take, List.length_drop] at this
      rcases vs with _ | ⟨v, vs⟩
      · exact .inr rfl
      · left; simp at this ⊢; omega
    rcases hfit with hfit | rfl
    · have h4 := LR.comp h vs _ _ hu ((hy.drop c.base).take vs.length)
      rwa [take_drop_take hfit, ← hp] at h4
    · simp [LR]
theorem BR.other {s r t : Nat → Option Pl} (h : ∀ (i : Nat) (c m : Pl), s i = some c → r i = some m → ∃ p, t c.n = some p ∧ p.n = m.n ∧ p.base + c.base = m.base) {c m p : Pl} {b1 b2 : Blk} {ty : TypeId} {o : Obj}
    (e : LR s b1.vals b2.vals) (h1 : b1.own = some ty) (h2 : b2.own = some ty) (g : BR r m b1 o) (hp : p.base + c.base = m.base) (hro : p.ro = m.ro) : BR t p b2 o := by
  obtain ⟨h3, h4, ys, hy, rfl⟩ := g.1 ty h1
  refine ⟨fun t' ht => ?_, fun hn => by rw [h2] at hn; cases hn⟩
  rw [h2] at ht; cases ht
  exact ⟨by omega, by rw [hro, h4], ys, LR.other h _ _ ys e hy, rfl⟩
theorem ctr_of_call {f : FuncId} {fn : Func} (hf : P.funcs[f]? = some fn) (hn : fn.name ≠ "runtime.NumGoroutine") {args : List Value} {h0 h1 : List Blk} {v : Value}
    (e : FnTr P fn args h0 v h1) (s : List Pl) (ex : List Nat) {vs : List Value} {h h' : List Blk} {u : Value} (ha : LR (lk s) args vs)
    (hs : s.length = h0.length) (hsn : ∀ (i j : Nat) (c d : Pl), s[i]? = some c → s[j]? = some d → c.n = d.n → i = j ∨ (c.ro = true ∧ d.ro = true))
    (hb : ∀ (i : Nat) (b : Blk), h0[i]? = some b → ∃ c b', s[i]? = some c ∧ h[c.n]? = some b' ∧ BK (lk s) c b b')
    (t : Nat → Option Pl) (ht : ∀ (i : Nat) (c : Pl), t i = some c ↔ s[i]? = some c ∨ ∃ j : Nat, ex[j]? = some i ∧ c = ⟨h.length + j, 0, false⟩)
    (hex : ∀ j i : Nat, ex[j]? = some i → h0.length ≤ i ∧ i < h1.length) (hexn : ∀ i j c : Nat, ex[i]? = some c → ex[j]? = some c → i = j)
    (hu : VR t v u) (hlen : h'.length = h.length + ex.length)
    (hb' : ∀ (i : Nat) (c : Pl), t i = some c → c.ro = false → ∃ b b' ty, h1[i]? = some b ∧ h'[c.n]? = some b' ∧ b.own = some ty ∧ b'.own = some ty ∧ LR t b.vals b'.vals)
    (hkeep : ∀ c : Nat, c < h.length → (∀ p ∈ s, p.n = c → p.ro = true) → h'[c]? = h[c]?) : CtrAt P f vs h u h' := by
  intro r w argsm hl R
  have hbody : fn.body ≠ none := by
    obtain ⟨c, _, _, _, hc, _⟩ := e; rw [hc]; simp
  right
  refine ⟨by cases hq : fn.body with | none => exact absurd hq hbody | some c => simp [callFunc, hf, hn, hq], ?_⟩
  -- the callee's own list
  let mv : Pl → Pl := fun c => ⟨(r.getD c.n ⟨0, 0, false⟩).n, (r.getD c.n ⟨0, 0, false⟩).base + c.base, c.ro⟩
  let rc : List Pl := s.map mv
  have hmv : ∀ (c m : Pl), r[c.n]? = some m → mv c = ⟨m.n, m.base + c.base, c.ro⟩ := fun c m hm => by simp [mv, List.getD, hm]
  have hsr : ∀ (i : Nat) (c : Pl), s[i]? = some c → ∃ m, r[c.n]? = some m := fun i c hi => by
    have hi' : i < h0.length := by rw [← hs]; exact (List.getElem?_eq_some_iff.1 hi).1
    obtain ⟨c', b', hc', hb'', _⟩ := hb i _ (List.getElem?_eq_getElem hi')
    rw [hi] at hc'; cases hc'
    obtain ⟨m, _, hm, _, _⟩ := R.blk c.n b' hb''
    exact ⟨m, hm⟩
  have hrc : ∀ (i : Nat) (c m : Pl), s[i]? = some c → r[c.n]? = some m → rc[i]? = some ⟨m.n, m.base + c.base, c.ro⟩ := fun i c m hi hm => by
    simp [rc, hi, hmv c m hm]
  have hrc' : ∀ (i : Nat) (m : Pl), rc[i]? = some m → ∃ c m', s[i]? = some c ∧ r[c.n]? = some m' ∧ m = ⟨m'.n, m'.base + c.base, c.ro⟩ := fun i m hi => by
    simp only [rc, List.getElem?_map] at hi
    cases hsi : s[i]? with
    | none => simp [hsi] at hi
    | some c =>
      obtain ⟨m', hm'⟩ := hsr i c hsi
      simp only [hsi, Option.map_some, hmv c m' hm', Option.some.injEq] at hi
      exact ⟨c, m', rfl, hm', hi.symm⟩
  have hcomp : ∀ (i : Nat) (c m : Pl), lk s i = some c → lk r c.n = some m → ∃ p, lk rc i = some p ∧ p.n = m.n ∧ p.base = m.base + c.base := fun i c m h1 h2 => ⟨_, hrc i c m h1 h2, rfl, rfl⟩
  -- the kind of the caller's block at an owned place
  have hown : ∀ (i : Nat) (c m : Pl), s[i]? = some c → c.ro = false → r[c.n]? = some m → m.ro = false := fun i c m hi hc hm => by
    have hi' : i < h0.length := by rw [← hs]; exact (List.getElem?_eq_some_iff.1 hi).1
    obtain ⟨c', b', hc', hb'', hk⟩ := hb i _ (List.getElem?_eq_getElem hi')
    rw [hi] at hc'; cases hc'
    obtain ⟨m', o, hm', ho, hbr⟩ := R.blk c.n b' hb''
    rw [hm] at hm'; cases hm'
    cases hq : (h0[i]).own with
    | some ty => obtain ⟨_, _, hown, _⟩ := hk.1 ty hq; exact (hbr.1 ty hown).2.1
    | none => rw [(hk.2 hq).1] at hc; cases hc
  have Rc : Rel h0.length w rc h0 w := {
    os := rfl, tape := rfl, output := rfl, size := Nat.le_refl _
    nodup := fun i j p q hi hj e => by
      obtain ⟨c, m, hc, hm, rfl⟩ := hrc' i p hi
      obtain ⟨d, m', hd, hm', rfl⟩ := hrc' j q hj
      simp only at e ⊢
      by_cases hcd : c.n = d.n
      · exact hsn i j c d hc hd hcd
      · rcases R.nodup c.n d.n m m' hm hm' e with h1 | ⟨h1, h2⟩
        · exact absurd h1 hcd
        · right
          constructor
          · cases hq : c.ro with
            | true => rfl
            | false => have := hown i c m hc hq hm; rw [h1] at this; cases this
          · cases hq : d.ro with
            | true => rfl
            | false => have := hown j d m' hd hq hm'; rw [h2] at this; cases this
    len := by simp [rc, hs]
    news := fun i b hk hi => by
      have := (List.getElem?_eq_some_iff.1 hi).1
      simp [rc, hs] at this; omega
    blk := fun i b hi => by
      obtain ⟨c, b', hc, hcb, hk⟩ := hb i b hi
      obtain ⟨m, o, hm, ho, hbr⟩ := R.blk c.n b' hcb
      exact ⟨_, o, hrc i c m hc hm, ho, BR.comp (s := lk s) (r := lk r) hcomp hk hbr rfl rfl⟩
    old := fun _ _ _ => rfl
    kle := Nat.le_refl _ }
  have hac : LR (lk rc) args argsm := LR.comp (s := lk s) (r := lk r) hcomp _ _ _ ha hl
  intro cs
  obtain ⟨en, w', fr, ⟨v', rfl, rc2, hee, hvv, R2⟩, rest⟩ := FnTr.calls hf e hac Rc cs
  refine ⟨.returned v', w', fr, ⟨v', rfl, ?_⟩, rest⟩
  let r2 : List Pl := r ++ ex.map fun i => rc2.getD i ⟨0, 0, false⟩
  -- new blocks are owned and begin at their beginning
  have hfresh : ∀ (j i : Nat) (m : Pl), ex[j]? = some i → rc2[i]? = some m → m.base = 0 ∧ m.ro = false ∧ w.heap.size ≤ m.n := fun j i m hj hm => by
    obtain ⟨b, b', ty, h3, _, hown, _, _⟩ := hb' i ⟨h.length + j, 0, false⟩ ((ht i _).2 (.inr ⟨j, hj, rfl⟩)) rfl
    obtain ⟨m', o, hm', ho, hbr⟩ := R2.blk i _ h3
    rw [hm] at hm'; cases hm'
    exact ⟨(hbr.1 ty hown).1, (hbr.1 ty hown).2.1, R2.news i m (hex j i hj).1 hm⟩
  have hr2 : ∀ (i : Nat) (c m : Pl), t i = some c → rc2[i]? = some m → ∃ p, r2[c.n]? = some p ∧ p.n = m.n ∧ p.base + c.base = m.base ∧ (c.ro = false → p.ro = m.ro) := fun i c m hi hm => by
    rcases (ht i c).1 hi with h3 | ⟨j, hj, rfl⟩
    · obtain ⟨m', hm'⟩ := hsr i c h3
      have h4 := hee i _ (hrc i c m' h3 hm')
      rw [hm] at h4; cases h4
      exact ⟨m', Ext.append r _ c.n m' hm', rfl, rfl, fun hc => by rw [hown i c m' h3 hc hm']; exact hc.symm⟩
    · refine ⟨m, ?_, rfl, rfl, fun _ => rfl⟩
      simp only [← R.len]
      show (r ++ ex.map fun i => rc2.getD i ⟨0, 0, false⟩)[r.length + j]? = some m
      rw [List.getElem?_append_right (Nat.le_add_right _ _)]
      simp [hj, List.getD, hm]
  have hr2' : ∀ (i : Nat) (c m : Pl), t i = some c → lk rc2 i = some m → ∃ p, lk r2 c.n = some p ∧ p.n = m.n ∧ p.base + c.base = m.base := fun i c m h1 h2 => by
    obtain ⟨p, h3, h4, h5, _⟩ := hr2 i c m h1 h2
    exact ⟨p, h3, h4, h5⟩
  have hexr : ∀ (j : Nat) (m : Pl), (ex.map fun i => rc2.getD i ⟨0, 0, false⟩)[j]? = some m → ∃ i, ex[j]? = some i ∧ rc2[i]? = some m := fun j m hj => by
    simp only [List.getElem?_map] at hj
    cases hej : ex[j]? with
    | none => simp [hej] at hj
    | some i =>
      have hi := (hex j i hej).2
      rw [← R2.len] at hi
      simp only [hej, Option.map_some, List.getD, List.getElem?_eq_getElem hi, Option.getD_some, Option.some.injEq] at hj
      exact ⟨i, rfl, by rw [List.getElem?_eq_getElem hi, hj]⟩
  have hcase : ∀ (c : Nat) (m : Pl), r2[c]? = some m → r[c]? = some m ∨ ∃ j i, c = h.length + j ∧ ex[j]? = some i ∧ rc2[i]? = some m := fun c m hc => by
    rcases Nat.lt_or_ge c r.length with h3 | h3
    · left; simpa [r2, List.getElem?_append_left h3] using hc
    · right
      simp only [r2] at hc
      rw [List.getElem?_append_right h3] at hc
      obtain ⟨i, hi, hm⟩ := hexr _ _ hc
      exact ⟨c - r.length, i, by rw [← R.len]; omega, hi, hm⟩
  -- a block of the machine that no owned place of the callee's names is as it was
  have hsame : ∀ m : Nat, m < w.heap.size → (∀ (c q : Pl), c ∈ s → c.ro = false → r[c.n]? = some q → q.n ≠ m) → w'.heap[m]? = w.heap[m]? := fun m hm hno => by
    apply R2.old m hm
    intro i p hi hp hpn
    have hik : i < rc.length := by simp [rc, hs]; exact hi
    have h5 := hee i _ (List.getElem?_eq_getElem hik)
    rw [hp] at h5
    injection h5 with h5
    obtain ⟨c, q, hc, hq, h6⟩ := hrc' i p (by rw [h5]; exact List.getElem?_eq_getElem hik)
    subst h6
    simp only at hpn ⊢
    cases hcr : c.ro with
    | true => rfl
    | false => exact absurd hpn (hno c q (List.mem_iff_getElem?.2 ⟨i, hc⟩) hcr hq)
  refine ⟨r2, Ext.append r _, VR.other (s := t) (r := lk rc2) hr2' _ _ _ hu hvv, ?_⟩
  exact {
    os := R2.os, tape := R2.tape, output := R2.output, size := R2.size
    nodup := fun c d m m' hc hd e => by
      rcases hcase c m hc with h3 | ⟨j, i, rfl, hj, hm⟩ <;> rcases hcase d m' hd with h4 | ⟨j', i', rfl, hj', hm'⟩
      · exact R.nodup c d m m' h3 h4 e
      · have := R.lt h3; have := (hfresh _ _ _ hj' hm').2.2; omega
      · have := R.lt h4; have := (hfresh _ _ _ hj hm).2.2; omega
      · rcases R2.nodup i i' m m' hm hm' e with h5 | ⟨h5, _⟩
        · subst h5; left; rw [hexn j j' i hj hj']
        · rw [(hfresh _ _ _ hj hm).2.1] at h5; cases h5
    len := by simp [r2, R.len, hlen]
    news := fun c m hc hm => by
      rcases hcase c m hm with h3 | ⟨j, i, rfl, hj, hm⟩
      · have := (List.getElem?_eq_some_iff.1 h3).1; have := R.len; omega
      · exact (hfresh _ _ _ hj hm).2.2
    blk := fun c b hc => by
      rcases Nat.lt_or_ge c h.length with h3 | h3
      · by_cases hin : ∃ p ∈ s, p.n = c ∧ p.ro = false
        · obtain ⟨p, hp, rfl, hpr⟩ := hin
          obtain ⟨i, hi⟩ := List.mem_iff_getElem?.1 hp
          have hti := (ht i p).2 (.inl hi)
          obtain ⟨b1, b2, ty, hb1, hb2, o1, o2, hk⟩ := hb' i p hti hpr
          rw [hc] at hb2; cases hb2
          obtain ⟨m, o, hm, ho, hbr⟩ := R2.blk i _ hb1
          obtain ⟨q, h4, h5, h6, h7⟩ := hr2 i p m hti hm
          exact ⟨q, o, h4, by rw [h5]; exact ho, BR.other (s := t) (r := lk rc2) (c := p) (m := m) hr2' hk o1 o2 hbr h6 (h7 hpr)⟩
        · have hro : ∀ p ∈ s, p.n = c → p.ro = true := fun p hp hpc => by
            cases hq : p.ro with
            | true => rfl
            | false => exact absurd ⟨p, hp, hpc, hq⟩ hin
          rw [hkeep c h3 hro] at hc
          obtain ⟨m, o, hm, ho, hbr⟩ := R.blk c b hc
          refine ⟨m, o, Ext.append r _ c m hm, ?_, BR.mono (Ext.lk (Ext.append r _)) hbr⟩
          rw [hsame m.n (R.lt hm)]
          · exact ho
          · intro d q hd hdr hq hqn
            obtain ⟨i, hi⟩ := List.mem_iff_getElem?.1 hd
            rcases R.nodup d.n c q m hq hm hqn with h4 | ⟨h4, _⟩
            · have := hro d hd h4; rw [hdr] at this; cases this
            · rw [hown i d q hi hdr hq] at h4; cases h4
      · have hcl := (List.getElem?_eq_some_iff.1 hc).1
        rw [hlen] at hcl
        have hj : c - h.length < ex.length := by omega
        have hej := List.getElem?_eq_getElem hj
        have hcc : h.length + (c - h.length) = c := by omega
        have hti := (ht (ex[c - h.length]) ⟨c, 0, false⟩).2 (.inr ⟨c - h.length, hej, by rw [hcc]⟩)
        obtain ⟨b1, b2, ty, hb1, hb2, o1, o2, hk⟩ := hb' _ _ hti rfl
        simp only at hb2
        rw [hc] at hb2; cases hb2
        obtain ⟨m, o, hm, ho, hbr⟩ := R2.blk _ _ hb1
        obtain ⟨q, h4, h5, h6, h7⟩ := hr2 _ _ m hti hm
        exact ⟨q, o, h4, by rw [h5]; exact ho, BR.other (s := t) (r := lk rc2) (c := ⟨c, 0, false⟩) (m := m) hr2' hk o1 o2 hbr h6 (h7 rfl)⟩
    old := fun m hm hnot => by
      apply hsame m hm
      intro d q hd hdr hq hqn
      obtain ⟨i, hi⟩ := List.mem_iff_getElem?.1 hd
      have hdl : d.n < h.length := by rw [← R.len]; exact (List.getElem?_eq_some_iff.1 hq).1
      have := hnot d.n q hdl (Ext.append r _ d.n q hq) hqn
      rw [hown i d q hi hdr hq] at this; cases this
    kle := by rw [hlen]; omega }
theorem ctr_pure {f : FuncId} {fn : Func} (hf : P.funcs[f]? = some fn) (hn : fn.name ≠ "runtime.NumGoroutine") {vs : List Value} {h1 : List Blk} {v : Value}
    (e : FnTr P fn vs [] v h1) (hvs : plainL vs = true) (hv : plain v = true) (h : List Blk) : CtrAt P f vs h v h :=
  ctr_of_call hf hn e [] [] (LR.plain vs hvs) rfl (by simp) (by simp) (fun _ => none) (by simp) (by simp) (by simp) (VR.plain v hv) (by simp) (by simp) (fun _ _ _ => rfl)
theorem ctr_val {f : FuncId} {fn : Func} (hf : P.funcs[f]? = some fn) (hn : fn.name ≠ "runtime.NumGoroutine") {Γ : Ctr} (hΓ : CtrSound P Γ) (n : Nat) {vs : List Value} {v : Value} {p : Bool}
    (e : (callS P Γ n fn vs []).map (fun x => (x.1, x.2.2)) = some (v, p)) (hp : p = true) (hvs : plainL vs = true) (hv : plain v = true) (h : List Blk) : CtrAt P f vs h v h := by
  obtain ⟨⟨u, h1, q⟩, he, e⟩ := Option.map_eq_some_iff.1 e
  simp only [Prod.mk.injEq] at e
  obtain ⟨rfl, rfl⟩ := e
  subst hp
  exact ctr_pure hf hn (FnTr.of_callS hΓ he) hvs hv h
theorem ctr_extern {f : FuncId} {vs : List Value} {v : Value} (h : List Blk) (hvs : plainL vs = true) (hv : plain v = true) (e : ∀ w : World, (callFunc f ⟨vs⟩).run P w = .ok (.value v) w) : CtrAt P f vs h v h := by
  intro r w args hl R
  have := LR.eq_of_plain vs args hvs hl
  subst this
  exact .inl ⟨v, w, e w, r, Ext.refl r, VR.plain v hv, R⟩
structure Entry (P : Program) where
  f : FuncId
  g : List Value → List Blk → Option (Value × List Blk × Bool)
  pu : Bool
  ok : ∀ vs h v h', g vs h = some (v, h', true) → CtrAt P f vs h v h'
  pok : pu = true → PureG g
  rd : Bool := false
  rok : rd = true → ReadG g := by intro h; cases h
def Entry.val (f : FuncId) (g : List Value → Option (Value × Bool)) (ok : ∀ vs v, g vs = some (v, true) → ∀ h, CtrAt P f vs h v h) : Entry P where
  f := f
  g := fun vs h => match g vs with
    | some (v, p) => some (v, h, p)
    | none => none
  pu := true
  ok := fun vs h v h' e => by
    cases q : g vs with
    | none => simp [q] at e
    | some x =>
      obtain ⟨u, p⟩ := x
      simp only [q, Option.some.injEq, Prod.mk.injEq] at e
      obtain ⟨rfl, rfl, rfl⟩ := e
      exact ok vs u q h
  pok := fun _ vs h v h' p e => by
    cases q : g vs with
    | none => simp [q] at e
    | some x =>
      obtain ⟨u, p⟩ := x
      simp only [q, Option.some.injEq, Prod.mk.injEq] at e
      obtain ⟨rfl, rfl, rfl⟩ := e
      exact ⟨rfl, fun h2 => by simp only [q]⟩
def mk (es : List (Entry P)) (sym : Tmp → Option Bool := fun _ => none) : Ctr where
  sym := sym
  g := fun f vs h => match es.find? (fun e => e.f == f) with
    | some e => e.g vs h
    | none => none
  pf := fun f => match es.find? (fun e => e.f == f) with
    | some e => if e.pu then 0 else if e.rd then 1 else 2
    | none => 2
theorem mk_sound (es : List (Entry P)) (sym : Tmp → Option Bool) : CtrSound P (mk es sym) where
  calls := by
    intro f vs h v h' e
    simp only [mk] at e
    split at e
    · rename_i x hx
      have := List.find?_some hx
      simp only [beq_iff_eq] at this
      subst this
      exact x.ok vs h v h' e
    · cases e
  pure := by
    constructor <;> intro f hf <;> simp only [mk] at hf ⊢ <;> cases hx : es.find? (fun e => e.f == f) with
    | none => simp [hx] at hf
    | some x =>
      simp only [hx] at hf
      cases hp : x.pu <;> cases hr : x.rd <;> simp [hp, hr] at hf
      all_goals first | exact x.pok hp | exact x.rok hr
end
end Go.Lift
namespace Go.Lift
open Go
def slotsOf (n : Nat) (l : List (Nat × Value)) : List (Option Value) := (List.range n).map fun i => (l.find? fun p => p.1 == i).map (·.2)
def keepT (live : List Nat) (t : List (Option Value)) : List (Option Value) := t.zipIdx.map fun (v, i) => if live.contains i then v else none
def St.keep (live : List Nat) (s : St) : St := ⟨keepT live s.t, s.h, s.ob⟩
theorem keep_sub (live : List Nat) (s : St) : Sub s (s.keep live) where
  tl := by simp [St.keep, keepT]
  t := fun i v e => by
    simp only [St.keep, keepT, List.getElem?_map, List.getElem?_zipIdx] at e
    cases h : s.t[i]? with
    | none => simp [h] at e
    | some x =>
      simp only [h, Option.map_some, Option.some.injEq] at e
      split at e
      · rw [e]
      · cases e
  hl := rfl
  h := fun i b b' e e' => by simp only [St.keep] at e'; rw [e] at e'; cases e'; exact ⟨rfl, rfl⟩
section
variable {P : Program}
theorem Tr.keep {Γ : Ctr} (hΓ : CtrSound P Γ) (n : Nat) (live : List Nat) {c : Code} {s s' : St} {x : Exit} (e : (Lift.exec P Γ n c s).map (fun r => (r.1, r.2.keep live)) = some (x, s')) (hob : s'.ob = true) : Tr P c s x s' := by
  obtain ⟨⟨y, s1⟩, h1, q⟩ := Option.map_eq_some_iff.1 e
  simp only [Prod.mk.injEq] at q
  obtain ⟨rfl, rfl⟩ := q
  exact (Tr.exec hΓ h1 hob).post (keep_sub live s1)
def bodyOf (fn : Func) : Code := fn.body.getD .skip
def atoms : Code → List Code
  | .seq a b => atoms a ++ atoms b
  | c => [c]
def nthC (n : Nat) (c : Code) : Code := (atoms c).getD n .skip
def inner : Code → Code
  | .block _ b => b
  | .loop b => b
  | c => c
def isLoop (id : Nat) : Code → Bool
  | .block j (.loop _) => j == id
  | _ => false
def TrL (P : Program) : List Code → St → Exit → St → Prop
  | [], s, x, s' => x = .normal ∧ s' = s
  | a :: l, s, x, s' => (∃ s1, Tr P a s .normal s1 ∧ TrL P l s1 x s') ∨ (x ≠ .normal ∧ Tr P a s x s')
theorem TrL.append : ∀ (l1 : List Code) {l2 : List Code} {s s' : St} {x : Exit}, TrL P (l1 ++ l2) s x s' → (∃ s1, TrL P l1 s .normal s1 ∧ TrL P l2 s1 x s') ∨ (x ≠ .normal ∧ TrL P l1 s x s')
  | [], _, s, _, _, h => .inl ⟨s, ⟨rfl, rfl⟩, h⟩
  | a :: l1, l2, s, s', x, h => by
    rcases h with ⟨s1, h1, h2⟩ | ⟨hx, h1⟩
    · rcases TrL.append l1 h2 with ⟨s2, h3, h4⟩ | ⟨hx, h3⟩
      · exact .inl ⟨s2, .inl ⟨s1, h1, h3⟩, h4⟩
      · exact .inr ⟨hx, .inl ⟨s1, h1, h3⟩⟩
    · exact .inr ⟨hx, .inr ⟨hx, h1⟩⟩
theorem TrL.single {c : Code} {s s' : St} {x : Exit} (h : TrL P [c] s x s') : Tr P c s x s' := by
  rcases h with ⟨s1, h1, rfl, rfl⟩ | ⟨_, h1⟩
  · exact h1
  · exact h1
theorem Tr.of_atoms : ∀ {c : Code} {s s' : St} {x : Exit}, TrL P (atoms c) s x s' → Tr P c s x s' := by
  intro c
  induction c with
  | seq a b iha ihb =>
    intro s s' x h
    rcases TrL.append (atoms a) h with ⟨s1, h1, h2⟩ | ⟨hx, h1⟩
    · exact Tr.seq (iha h1) (ihb h2)
    · exact Tr.seq_leave (iha h1) hx
  | _ => intro s s' x h; exact TrL.single h
def execL (P : Program) (Γ : Ctr) (n : Nat) : Nat → List Code → St → Option St
  | 0, _, s => some s
  | m + 1, a :: l, s => match exec P Γ n a s with
    | some (.normal, s') => execL P Γ n m l s'
    | _ => none
  | _ + 1, [], _ => none
def execA (P : Program) (Γ : Ctr) (n : Nat) : List Code → St → Option (Exit × St)
  | [], s => some (.normal, s)
  | a :: l, s => match exec P Γ n a s with
    | some (.normal, s') => execA P Γ n l s'
    | r => r
theorem execL_sound {Γ : Ctr} (hΓ : CtrSound P Γ) (n : Nat) : ∀ (m : Nat) {l : List Code} {s s1 s' : St} {x : Exit}, execL P Γ n m l s = some s1 → s1.ob = true → TrL P (l.drop m) s1 x s' → TrL P l s x s' ∧ s.ob = true
  | 0, l, s, s1, s', x, e, hob, h => by simp only [execL, Option.some.injEq] at e; subst e; exact ⟨by simpa using h, hob⟩
  | m + 1, [], s, s1, s', x, e, _, _ => by simp [execL] at e
  | m + 1, a :: l, s, s1, s', x, e, hob, h => by
    simp only [execL] at e
    split at e
    · rename_i s2 h2
      obtain ⟨h3, h4⟩ := execL_sound hΓ n m e hob (by simpa only [List.drop_succ_cons] using h)
      exact ⟨.inl ⟨s2, Tr.exec hΓ h2 h4, h3⟩, exec_ob n a s s2 _ h2 h4⟩
    · cases e
theorem execA_sound {Γ : Ctr} (hΓ : CtrSound P Γ) (n : Nat) : ∀ {l : List Code} {s s' : St} {x : Exit}, execA P Γ n l s = some (x, s') → s'.ob = true → TrL P l s x s' ∧ s.ob = true
  | [], s, s', x, e, hob => by simp only [execA, Option.some.injEq, Prod.mk.injEq] at e; obtain ⟨rfl, rfl⟩ := e; exact ⟨⟨rfl, rfl⟩, hob⟩
  | a :: l, s, s', x, e, hob => by
    simp only [execA] at e
    split at e
    · rename_i s2 h2
      obtain ⟨h3, h4⟩ := execA_sound hΓ n e hob
      exact ⟨.inl ⟨s2, Tr.exec hΓ h2 h4, h3⟩, exec_ob n a s s2 _ h2 h4⟩
    · rename_i hne
      have hx : x ≠ .normal := fun q => by subst q; exact hne s' e
      exact ⟨.inr ⟨hx, Tr.exec hΓ e hob⟩, exec_ob n a s s' x e hob⟩
theorem TrL.pre : ∀ {l : List Code} {s s1 s' : St} {x : Exit}, TrL P l s1 x s' → Sub s s1 → l ≠ [] → TrL P l s x s'
  | [], _, _, _, _, _, _, h => absurd rfl h
  | _ :: _, _, _, _, _, .inl ⟨s2, h1, h2⟩, g, _ => .inl ⟨s2, h1.pre g, h2⟩
  | _ :: _, _, _, _, _, .inr ⟨hx, h1⟩, g, _ => .inr ⟨hx, h1.pre g⟩
theorem TrL.items {Γ : Ctr} (hΓ : CtrSound P Γ) (n m : Nat) (live : List Nat) {l : List Code} {s s1 s' : St} {x : Exit} (e : (execL P Γ n m l s).map (St.keep live) = some s1) (hob : s1.ob = true) (hl : m < l.length) (h : TrL P (l.drop m) s1 x s') : TrL P l s x s' := by
  obtain ⟨s2, h2, rfl⟩ := Option.map_eq_some_iff.1 e
  exact (execL_sound hΓ n m h2 hob (h.pre (keep_sub live s2) (by intro q; have := congrArg List.length q; simp at this; omega))).1
theorem TrL.item (m : Nat) {c : Code} {s s1 s' : St} {x : Exit} (hm : m < (atoms c).length) (h1 : Tr P (nthC m c) s .normal s1) (h2 : TrL P ((atoms c).drop (m + 1)) s1 x s') : TrL P ((atoms c).drop m) s x s' := by
  rw [List.drop_eq_getElem_cons hm]
  refine .inl ⟨s1, ?_, h2⟩
  have : nthC m c = (atoms c)[m] := by simp [nthC, List.getD, List.getElem?_eq_getElem hm]
  rwa [this] at h1
theorem TrL.rest {Γ : Ctr} (hΓ : CtrSound P Γ) (n : Nat) {l : List Code} {s s' : St} {x : Exit} (e : execA P Γ n l s = some (x, s')) (hob : s'.ob = true) : TrL P l s x s' := (execA_sound hΓ n e hob).1
theorem Tr.loop (id : Nat) {c : Code} {s' : St} (hc : isLoop id c = true) (f : Nat → St) (N : Nat) (hb : ∀ i, i < N → Tr P (inner (inner c)) (f i) .normal (f (i + 1))) (hl : Tr P (inner (inner c)) (f N) (.exit id) s') : Tr P c (f 0) .normal s' := by
  cases c <;> simp [isLoop] at hc
  rename_i j b
  cases b <;> simp at hc
  subst hc
  exact Tr.block (Tr.for (by simp) f N hb hl)
theorem Tr.loopR (id : Nat) {c : Code} {s s' : St} (hc : isLoop id c = true) (h : TrR P (inner (inner c)) s (.exit id) s') : Tr P c s .normal s' := by
  cases c <;> simp [isLoop] at hc
  rename_i j b
  cases b <;> simp at hc
  subst hc
  exact Tr.block (TrR.loop h)
theorem Tr.loopRet (id : Nat) {c : Code} {s s' : St} (hc : isLoop id c = true) (h : TrR P (inner (inner c)) s .ret s') : Tr P c s .ret s' := by
  cases c <;> simp [isLoop] at hc
  rename_i j b
  cases b <;> simp at hc
  subst hc
  exact Tr.block_pass (TrR.loop h) (by simp)
theorem TrL.leave (m : Nat) {c : Code} {s s' : St} {x : Exit} (hm : m < (atoms c).length) (hx : x ≠ .normal) (h1 : Tr P (nthC m c) s x s') : TrL P ((atoms c).drop m) s x s' := by
  rw [List.drop_eq_getElem_cons hm]
  refine .inr ⟨hx, ?_⟩
  have : nthC m c = (atoms c)[m] := by simp [nthC, List.getD, List.getElem?_eq_getElem hm]
  rwa [this] at h1
theorem Sub.ob (s : St) (o : Bool) : Sub ⟨s.t, s.h, o⟩ s := ⟨rfl, fun _ _ h => h, rfl, fun i b b' h h' => by rw [h] at h'; cases h'; exact ⟨rfl, rfl⟩⟩
theorem FnTr.mk {fn : Func} {args : List Value} {h : List Blk} {x : Exit} {s : St} {vs : List Value} (hb : fn.body.isSome = true) (ht : TrL P (atoms (bodyOf fn)) ⟨slots0 fn.ntmps args, h, true⟩ x s) (hx : x = .ret ∨ x = .normal)
    (hr : resS P s.t s.h fn.results.toList = some (vs, true)) : FnTr P fn args h (oneOf vs) s.h := by
  obtain ⟨c, hc⟩ := Option.isSome_iff_exists.1 hb
  exact ⟨c, x, s, vs, hc, hx, Tr.of_atoms (by simpa [bodyOf, hc] using ht), hr, rfl, rfl⟩
theorem FnTr.rest {Γ : Ctr} (hΓ : CtrSound P Γ) (n m : Nat) {fn : Func} {args : List Value} {h h' : List Blk} {s : St} {v : Value} {p : Bool} (hb : fn.body.isSome = true)
    (ht : ∀ s' x, TrL P ((atoms (bodyOf fn)).drop m) s x s' → TrL P (atoms (bodyOf fn)) ⟨slots0 fn.ntmps args, h, true⟩ x s')
    (e : ((execA P Γ n ((atoms (bodyOf fn)).drop m) s).bind fun r => match r.1 with
      | .ret | .normal => (resS P r.2.t r.2.h fn.results.toList).map fun q => (oneOf q.1, r.2.h, andT r.2.ob q.2)
      | _ => none) = some (v, h', p)) (hp : p = true) : FnTr P fn args h v h' := by
  obtain ⟨⟨x, s'⟩, h1, e⟩ := Option.bind_eq_some_iff.1 e
  subst hp
  have key : ∀ (_ : x = .ret ∨ x = .normal), ((resS P s'.t s'.h fn.results.toList).map fun q => (oneOf q.1, s'.h, andT s'.ob q.2)) = some (v, h', true) → FnTr P fn args h v h' := fun hx e => by
    obtain ⟨⟨vs, q⟩, hr, e⟩ := Option.map_eq_some_iff.1 e
    simp only [Prod.mk.injEq, andT_iff] at e
    obtain ⟨rfl, rfl, hob, rfl⟩ := e
    exact FnTr.mk hb (ht s' x (TrL.rest hΓ n h1 hob)) hx hr
  cases x <;> simp only at e <;> first | exact key (by simp) e | cases e
theorem FnTr.of_take1 {Γ : Ctr} (hΓ : CtrSound P Γ) {fn : Func} {n : Nat} {args : List Value} {h : List Blk} {v : Value} {b : Blk} {p : Bool}
    (e : (callS P Γ n fn args h).map (fun x => (x.1, x.2.1.take 1, x.2.2)) = some (v, [b], p)) (hp : p = true) : ∃ g, FnTr P fn args h v (b :: g) := by
  obtain ⟨⟨u, h1, q⟩, he, e⟩ := Option.map_eq_some_iff.1 e
  simp only [Prod.mk.injEq] at e
  obtain ⟨rfl, h2, rfl⟩ := e
  subst hp
  cases h1 with
  | nil => simp at h2
  | cons c g => simp at h2; subst h2; exact ⟨g, FnTr.of_callS hΓ he⟩
theorem ctr_ptr1 {f : FuncId} {fn : Func} (hf : P.funcs[f]? = some fn) (hn : fn.name ≠ "runtime.NumGoroutine") {args : List Value} {b0 b1 b b' : Blk} {g : List Blk} {v : Value} {t : TypeId}
    (e : FnTr P fn (.pointer (some ⟨0, 0, none⟩) :: args) [b0] v (b1 :: g)) (ha : plainL args = true) (hv : plain v = true) (h0 : plainL b0.vals = true) (h1 : plainL b1.vals = true)
    (ho : b0.own = some t) (ho1 : b1.own = some t) {h : List Blk} {i : Nat} (hi : h[i]? = some b) (hb : b.own = some t) (hbv : b.vals = b0.vals) (hb' : b'.own = some t) (hbv' : b'.vals = b1.vals) :
    CtrAt P f (.pointer (some ⟨i, 0, none⟩) :: args) h v (h.set i b') := by
  have hil : i < h.length := (List.getElem?_eq_some_iff.1 hi).1
  refine ctr_of_call hf hn e [⟨i, 0, false⟩] [] ⟨_, _, ⟨⟨i, 0, false⟩, rfl, rfl⟩, LR.plain args ha, rfl⟩ rfl ?_ ?_ (lk [⟨i, 0, false⟩]) (by simp [lk]) (by simp) (by simp) (VR.plain v hv) (by simp) ?_ ?_
  · intro a c p q hp hq _
    have h1 := (List.getElem?_eq_some_iff.1 hp).1
    have h2 := (List.getElem?_eq_some_iff.1 hq).1
    simp at h1 h2
    left; omega
  · intro a bb hbb
    have h1' := (List.getElem?_eq_some_iff.1 hbb).1
    simp at h1'
    subst h1'
    simp at hbb
    subst hbb
    refine ⟨⟨i, 0, false⟩, b, rfl, hi, fun ty hty => ⟨rfl, rfl, ?_, ?_⟩, fun hno => ?_⟩
    · rw [ho] at hty; cases hty; exact hb
    · rw [hbv]; exact LR.plain _ h0
    · rw [ho] at hno; cases hno
  · intro a c hac _
    have h1' := (List.getElem?_eq_some_iff.1 hac).1
    simp at h1'
    subst h1'
    simp [lk] at hac
    subst hac
    exact ⟨b1, b', t, rfl, by simp [hil], ho1, hb', by rw [hbv']; exact LR.plain _ h1⟩
  · intro c _ hno
    have : i ≠ c := fun q => by have := hno ⟨i, 0, false⟩ (by simp) q; cases this
    exact List.getElem?_set_ne this
def winX (xs : List Int) (n : Nat) : Nat → List Int × Bool
  | 0 => (xs, n == xs.length)
  | o => ((xs.drop o).take n, decide (o + n ≤ xs.length))
def winI (k : IntKind) (o n : Nat) : Blk → Option (List Int × Bool)
  | .c vs _ => (ints k ((vs.drop o).take n)).map fun l => (l, decide (o + n ≤ vs.length))
  | .r vs => (ints k ((vs.drop o).take n)).map fun l => (l, decide (o + n ≤ vs.length))
  | .s k' xs _ => if k' = k then some (winX xs n o) else none
  | .rs k' xs => if k' = k then some (winX xs n o) else none
theorem winI_sound {k : IntKind} {o n : Nat} {b : Blk} {l : List Int} (h : winI k o n b = some (l, true)) : intsV k l = (b.vals.drop o).take n ∧ l.length = n := by
  have lit : ∀ vs : List Value, (ints k ((vs.drop o).take n)).map (fun l => (l, decide (o + n ≤ vs.length))) = some (l, true) → intsV k l = (vs.drop o).take n ∧ l.length = n := fun vs e => by
    obtain ⟨l', hl, q⟩ := Option.map_eq_some_iff.1 e
    simp only [Prod.mk.injEq, decide_eq_true_eq] at q
    obtain ⟨rfl, hle⟩ := q
    have := ints_eq hl
    refine ⟨this.symm, ?_⟩
    have h2 := congrArg List.length this
    simp only [List.length_take, List.length_drop, intsV_length] at h2
    omega
  have sy : ∀ (k' : IntKind) (xs : List Int), (if k' = k then some (winX xs n o) else none) = some (l, true) → intsV k l = ((intsV k' xs).drop o).take n ∧ l.length = n := fun k' xs e => by
    split at e
    · rename_i hk
      subst hk
      unfold winX at e
      split at e
      · simp only [Option.some.injEq, Prod.mk.injEq, beq_iff_eq] at e
        obtain ⟨rfl, rfl⟩ := e
        exact ⟨by rw [List.drop_zero, List.take_of_length_le (by rw [intsV_length]; exact Nat.le_refl _)], rfl⟩
      · simp only [Option.some.injEq, Prod.mk.injEq, decide_eq_true_eq] at e
        obtain ⟨rfl, hle⟩ := e
        exact ⟨by simp [intsV, List.map_take, List.map_drop], by simp; omega⟩
    · cases e
  cases b with
  | c vs t => exact lit vs h
  | r vs => exact lit vs h
  | s k' xs t => exact sy k' xs h
  | rs k' xs => exact sy k' xs h
def RoOver (h0 : List Blk) (s : List Pl) (h : List Blk) : Prop :=
  s.length = h0.length ∧ ∀ (i : Nat) (b : Blk), h0[i]? = some b → b.own = none ∧ plainL b.vals = true ∧ ∃ c b', s[i]? = some c ∧ c.ro = true ∧ h[c.n]? = some b' ∧ b.vals = (b'.vals.drop c.base).take b.vals.length
theorem RoOver.ro {h0 : List Blk} {s : List Pl} {h : List Blk} (g : RoOver h0 s h) {p : Pl} (hp : p ∈ s) : p.ro = true := by
  obtain ⟨i, hi⟩ := List.mem_iff_getElem?.1 hp
  have hi' : i < h0.length := by rw [← g.1]; exact (List.getElem?_eq_some_iff.1 hi).1
  obtain ⟨_, _, c, _, hc, hr, _⟩ := g.2 i _ (List.getElem?_eq_getElem hi')
  rw [hi] at hc; cases hc; exact hr
theorem ctr_ro {f : FuncId} {fn : Func} (hf : P.funcs[f]? = some fn) (hn : fn.name ≠ "runtime.NumGoroutine") {args vs : List Value} {h0 h1 h : List Blk} {v : Value} (e : FnTr P fn args h0 v h1) (s : List Pl) (g : RoOver h0 s h)
    (ha : LR (lk s) args vs) (hv : plain v = true) : CtrAt P f vs h v h := by
  refine ctr_of_call hf hn e s [] ha g.1 ?_ ?_ (lk s) (by simp [lk]) (by simp) (by simp) (VR.plain v hv) (by simp) ?_ (fun _ _ _ => rfl)
  · intro i j c d hi hj _
    exact .inr ⟨g.ro (List.mem_iff_getElem?.2 ⟨i, hi⟩), g.ro (List.mem_iff_getElem?.2 ⟨j, hj⟩)⟩
  · intro i b hb
    obtain ⟨hno, hp, c, b', hc, hr, hb', hval⟩ := g.2 i b hb
    refine ⟨c, b', hc, hb', fun t ht => ?_, fun _ => ⟨hr, ?_⟩⟩
    · rw [hno] at ht; cases ht
    · rw [← hval]; exact LR.plain _ hp
  · intro i c hc hro
    rw [g.ro (List.mem_iff_getElem?.2 ⟨i, hc⟩)] at hro; cases hro
theorem ctr_ro_new {f : FuncId} {fn : Func} (hf : P.funcs[f]? = some fn) (hn : fn.name ≠ "runtime.NumGoroutine") {args vs : List Value} {h0 h1 h : List Blk} {i n m : Nat} (e : FnTr P fn args h0 (.slice (some ⟨i, 0, none⟩) n m) h1) (s : List Pl) (g : RoOver h0 s h)
    (ha : LR (lk s) args vs) {b b' : Blk} {t : TypeId} (hi : h0.length ≤ i) (hb : h1[i]? = some b) (ho : b.own = some t) (ho' : b'.own = some t) (hval : b'.vals = b.vals) (hp : plainL b.vals = true) :
    CtrAt P f vs h (.slice (some ⟨h.length, 0, none⟩) n m) (h ++ [b']) := by
  have hil := (List.getElem?_eq_some_iff.1 hb).1
  have hs0 : s[i]? = none := by rw [List.getElem?_eq_none_iff, g.1]; exact hi
  refine ctr_of_call hf hn e s [i] ha g.1 ?_ ?_ (fun j => if j = i then some ⟨h.length, 0, false⟩ else s[j]?) ?_ ?_ ?_ ?_ (by simp) ?_ ?_
  · intro i j c d hi hj _
    exact .inr ⟨g.ro (List.mem_iff_getElem?.2 ⟨i, hi⟩), g.ro (List.mem_iff_getElem?.2 ⟨j, hj⟩)⟩
  · intro i b hb
    obtain ⟨hno, hp, c, b', hc, hr, hb', hval⟩ := g.2 i b hb
    refine ⟨c, b', hc, hb', fun t ht => ?_, fun _ => ⟨hr, ?_⟩⟩
    · rw [hno] at ht; cases ht
    · rw [← hval]; exact LR.plain _ hp
  · intro j c
    by_cases hj : j = i
    · subst hj
      rw [if_pos rfl, hs0]
      constructor
      · intro q; cases q; exact .inr ⟨0, rfl, rfl⟩
      · rintro (q | ⟨a, ha, rfl⟩)
        · cases q
        · have := (List.getElem?_eq_some_iff.1 ha).1
          simp at this; subst this; rfl
    · rw [if_neg hj]
      constructor
      · exact .inl
      · rintro (q | ⟨a, ha, rfl⟩)
        · exact q
        · have h2 := (List.getElem?_eq_some_iff.1 ha).1
          simp at h2; subst h2; simp at ha; exact absurd ha.symm hj
  · intro a j ha
    have h2 := (List.getElem?_eq_some_iff.1 ha).1
    simp at h2; subst h2; simp at ha; subst ha
    exact ⟨hi, hil⟩
  · intro a c d ha hc
    have h2 := (List.getElem?_eq_some_iff.1 ha).1
    have h3 := (List.getElem?_eq_some_iff.1 hc).1
    simp at h2 h3; omega
  · exact ⟨⟨h.length, 0, false⟩, by simp, by simp⟩
  · intro j c hc hro
    by_cases hj : j = i
    · subst hj
      rw [if_pos rfl] at hc; cases hc
      exact ⟨b, b', t, hb, by simp, ho, ho', by rw [hval]; exact LR.plain _ hp⟩
    · rw [if_neg hj] at hc
      rw [g.ro (List.mem_iff_getElem?.2 ⟨j, hc⟩)] at hro; cases hro
  · intro c hc _
    exact List.getElem?_append_left hc
end
end Go.Lift
namespace Go.Lift
open Go
section
variable {P : Program}
theorem win_of_cells {w : World} {a : Addr} {c : Array Value} {t : TypeId} {fr : Nat × Nat} {k : IntKind} {zs : List Int} (hb : w.heap[a.block]? = some (.cells c t fr)) (hs : a.spot = none)
    (hc : ∀ i, i < zs.length → w.cell? (a.add i) = some (.int k (zs.getD i 0))) : intsV k zs = (c.toList.drop a.off).take zs.length := by
  have key : ∀ i, i < zs.length → c.toList[a.off + i]? = some (.int k (zs.getD i 0)) := fun i hi => by
    have h := hc i hi
    unfold World.cell? Addr.add at h
    split at h
    · rename_i c' t' fr' hb'
      split at hb'
      · rename_i h0
        subst h0
        rw [hb] at hb'
        cases hb'
        simp only [if_true, hs] at h
        simpa using h
      · simp only [hb, Option.some.injEq, Obj.cells.injEq] at hb'
        obtain ⟨rfl, rfl, rfl⟩ := hb'
        rename_i hi0
        rw [if_neg hi0] at h
        simpa using h
    · cases h
  apply List.ext_getElem?
  intro i
  simp only [intsV, List.getElem?_map, List.getElem?_take, List.getElem?_drop]
  by_cases hi : i < zs.length
  · rw [if_pos hi, key i hi]
    simp [List.getD, List.getElem?_eq_getElem hi]
  · rw [if_neg hi, List.getElem?_eq_none (by omega)]; rfl
theorem block_of_wide {w : World} {r : Reach} {base : Nat} {t e : TypeId} {a : Addr} {len cap : Nat} (ht : P.underlying t = some (.slice e)) (h : Value.okWide P w r base t (.slice (some a) len cap)) :
    a.spot = none ∧ ∃ c t' fr, w.heap[a.block]? = some (.cells c t' fr) := by
  simp only [Value.okWide, ht, Cell.okWide, Cell.ok, World.has] at h
  obtain ⟨_, _, _, hs, row, cells, hsh, _⟩ := h
  refine ⟨hs, ?_⟩
  unfold World.shape? at hsh
  split at hsh
  · rename_i c el fr hb
    exact ⟨c, el, fr, hb⟩
  · simp at hsh
theorem FnTr.below {f : FuncId} {fn : Func} (hf : P.funcs[f]? = some fn) {args args' : List Value} {h h' : List Blk} {b : Bool} (e : FnTr P fn args h (.bool b) h') {r : List Pl} {w : World} (hl : LR (lk r) args args') (R : Rel h.length w r h w)
    (hro : ∀ (i : Nat) (p : Pl), r[i]? = some p → p.ro = true) : Calls P f ⟨args'⟩ w fun e w' => e = .returned (.bool b) ∧ Go.RowKit.Below w.heap.size w w' := by
  refine (FnTr.calls hf e hl R).mono ?_
  rintro x w' ⟨v', rfl, r', he, hv, R'⟩
  simp only [VR] at hv
  subst hv
  refine ⟨rfl, R'.os, R'.tape, R'.output, R'.size, fun n hn => R'.old n hn fun i p hi hp _ => ?_⟩
  have hi' : i < r.length := by rw [R.len]; exact hi
  have h0 := he i r[i] (List.getElem?_eq_getElem hi')
  rw [hp] at h0
  cases h0
  exact hro i r[i] (List.getElem?_eq_getElem hi')
theorem Rel.none (w : World) : Rel 0 w [] [] w :=
  ⟨rfl, rfl, rfl, Nat.le_refl _, fun i j p q hp => by simp at hp, rfl, fun i p _ hp => by simp at hp, fun i b hb => by simp at hb, fun _ _ _ => rfl, Nat.le_refl _⟩
theorem Rel.one {w : World} {a : Addr} {c : Array Value} {t : TypeId} {fr : Nat × Nat} {k : IntKind} {l : List Int} (hb : w.heap[a.block]? = some (.cells c t fr)) (hl : intsV k l = (c.toList.drop a.off).take l.length) :
    Rel 1 w [⟨a.block, a.off, true⟩] [.rs k l] w where
  os := rfl
  tape := rfl
  output := rfl
  size := Nat.le_refl _
  nodup := fun i j p q hp hq _ => by
    have h1 := (List.getElem?_eq_some_iff.1 hp).1
    have h2 := (List.getElem?_eq_some_iff.1 hq).1
    simp at h1 h2
    left; omega
  len := rfl
  news := fun i p hk hp => by
    have h1 := (List.getElem?_eq_some_iff.1 hp).1
    simp at h1
    omega
  blk := fun i b hb' => by
    have h1 := (List.getElem?_eq_some_iff.1 hb').1
    simp at h1
    subst h1
    simp at hb'
    subst hb'
    refine ⟨_, _, rfl, hb, fun ty hty => (by simp [Blk.own] at hty), fun _ => ⟨rfl, c, t, fr, rfl, ?_⟩⟩
    simp only [Blk.vals, intsV_length]
    rw [← hl]
    exact LR.plain _ (plain_ints _ _)
  old := fun _ _ _ => rfl
  kle := Nat.le_refl _
end
end Go.Lift
