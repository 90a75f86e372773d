/- This file proves that a small functional interpreter of the model's code ('exec') is sound: what it computes over tracked blocks is what the machine does. Conditions: only those code forms that the interpreter takes. -/
import Derived.Calls
import Derived.LoopN
import Derived.KernelRfl
import Derived.Below
namespace Go.Lift
open Go

/-! ## Values over tracked blocks: a block number is an index into the list of tracked blocks. -/
/-- v, which the kernel does not look into. -/
noncomputable def Lock {α : Type} (v : α) : α := Classical.choose (⟨v, rfl⟩ : ∃ z, z = v)
theorem Lock_eq {α : Type} (v : α) : Lock v = v := Classical.choose_spec (⟨v, rfl⟩ : ∃ z, z = v)

/-- Where a tracked block lies: the machine's block, the place in it at which it begins, whether it is only read. -/
structure Pl where
  n : Nat
  base : Nat
  ro : Bool

mutual
/-- 'v', its block numbers read by 'r', is 'v''. -/
def VR (r : Nat → Option Pl) : Value → Value → Prop
  | .pointer (some a), v' => ∃ p, r a.block = some p ∧ v' = .pointer (some ⟨p.n, p.base + a.off, a.spot⟩)
  | .slice (some a) l c, v' => ∃ p, r a.block = some p ∧ v' = .slice (some ⟨p.n, p.base + a.off, a.spot⟩) l c
  | .map (some m), v' => ∃ p, r m = some p ∧ v' = .map (some p.n)
  | .agg ⟨xs⟩, v' => ∃ ys, LR r xs ys ∧ v' = .agg ⟨ys⟩
  | .tuple ⟨xs⟩, v' => ∃ ys, LR r xs ys ∧ v' = .tuple ⟨ys⟩
  | .iface t x, v' => ∃ y, VR r x y ∧ v' = .iface t y
  | .func f ⟨xs⟩ ⟨zs⟩, v' => ∃ ys us, LR r xs ys ∧ LR r zs us ∧ v' = .func f ⟨ys⟩ ⟨us⟩
  | v, v' => v' = v
def LR (r : Nat → Option Pl) : List Value → List Value → Prop
  | [], ys => ys = []
  | x :: xs, ys => ∃ y zs, VR r x y ∧ LR r xs zs ∧ ys = y :: zs
end

mutual
theorem VR.mono {r s : Nat → Option Pl} (h : ∀ (i : Nat) (b : Pl), r i = some b → s i = some b) : ∀ v v', VR r v v' → VR s v v'
  | .pointer (some _), _, ⟨b, e, q⟩ => ⟨b, h _ _ e, q⟩
  | .slice (some _) _ _, _, ⟨b, e, q⟩ => ⟨b, h _ _ e, q⟩
  | .map (some _), _, ⟨b, e, q⟩ => ⟨b, h _ _ e, q⟩
  | .agg ⟨xs⟩, _, ⟨ys, e, q⟩ => ⟨ys, LR.mono h xs ys e, q⟩
  | .tuple ⟨xs⟩, _, ⟨ys, e, q⟩ => ⟨ys, LR.mono h xs ys e, q⟩
  | .iface _ x, _, ⟨y, e, q⟩ => ⟨y, VR.mono h x y e, q⟩
  | .func _ ⟨xs⟩ ⟨zs⟩, _, ⟨ys, us, e, e', q⟩ => ⟨ys, us, LR.mono h xs ys e, LR.mono h zs us e', q⟩
  | .bool _, _, e => e | .int _ _, _, e => e | .float _ _, _, e => e | .complex _ _ _, _, e => e | .string _, _, e => e
  | .pointer none, _, e => e | .slice none _ _, _, e => e | .map none, _, e => e | .chan _, _, e => e | .nilFunc, _, e => e | .nilIface, _, e => e
theorem LR.mono {r s : Nat → Option Pl} (h : ∀ (i : Nat) (b : Pl), r i = some b → s i = some b) : ∀ xs ys, LR r xs ys → LR s xs ys
  | [], _, e => e
  | x :: xs, _, ⟨y, zs, e, e', q⟩ => ⟨y, zs, VR.mono h x y e, LR.mono h xs zs e', q⟩
end

section
variable {r : Nat → Option Pl}
theorem LR.length : ∀ {xs ys : List Value}, LR r xs ys → ys.length = xs.length
  | [], _, e => by rw [LR] at e; subst e; rfl
  | _ :: xs, _, ⟨_, _, _, h, q⟩ => by subst q; simp [LR.length h]
theorem LR.get : ∀ {xs ys : List Value} {i : Nat} {x : Value}, LR r xs ys → xs[i]? = some x → ∃ y, ys[i]? = some y ∧ VR r x y
  | [], _, _, _, _, h => by simp at h
  | a :: xs, _, 0, x, ⟨y, zs, hy, _, q⟩, h => by subst q; simp at h; subst h; exact ⟨y, rfl, hy⟩
  | a :: xs, _, i + 1, x, ⟨y, zs, _, hz, q⟩, h => by subst q; simp at h; obtain ⟨u, hu, hv⟩ := LR.get hz h; exact ⟨u, by simpa using hu, hv⟩
theorem LR.get' : ∀ {xs ys : List Value} {i : Nat} {y : Value}, LR r xs ys → ys[i]? = some y → ∃ x, xs[i]? = some x ∧ VR r x y
  | [], _, _, _, e, h => by rw [LR] at e; subst e; simp at h
  | a :: xs, _, 0, x, ⟨y, zs, hy, _, q⟩, h => by subst q; simp at h; subst h; exact ⟨a, rfl, hy⟩
  | a :: xs, _, i + 1, x, ⟨y, zs, _, hz, q⟩, h => by subst q; simp at h; obtain ⟨u, hu, hv⟩ := LR.get' hz h; exact ⟨u, by simpa using hu, hv⟩
theorem LR.append : ∀ {xs ys us vs : List Value}, LR r xs ys → LR r us vs → LR r (xs ++ us) (ys ++ vs)
  | [], _, _, _, e, h => by rw [LR] at e; subst e; exact h
  | _ :: xs, _, _, _, ⟨y, zs, hy, hz, q⟩, h => by subst q; exact ⟨y, _, hy, LR.append hz h, rfl⟩
theorem LR.set : ∀ {xs ys : List Value} {i : Nat} {x y : Value}, LR r xs ys → VR r x y → LR r (xs.set i x) (ys.set i y)
  | [], _, _, _, _, e, _ => by rw [LR] at e; subst e; exact rfl
  | a :: xs, _, 0, x, y', ⟨y, zs, _, hz, q⟩, h => by subst q; exact ⟨_, _, h, hz, rfl⟩
  | a :: xs, _, i + 1, x, y', ⟨y, zs, hy, hz, q⟩, h => by subst q; exact ⟨_, _, hy, LR.set hz h, rfl⟩
theorem LR.take : ∀ {xs ys : List Value} (n : Nat), LR r xs ys → LR r (xs.take n) (ys.take n)
  | _, _, 0, _ => by simp [LR]
  | [], _, n + 1, e => by rw [LR] at e; subst e; simp [LR]
  | a :: xs, _, n + 1, ⟨y, zs, hy, hz, q⟩ => by subst q; exact ⟨_, _, hy, LR.take n hz, rfl⟩
theorem LR.drop : ∀ {xs ys : List Value} (n : Nat), LR r xs ys → LR r (xs.drop n) (ys.drop n)
  | _, _, 0, h => by simpa using h
  | [], _, n + 1, e => by rw [LR] at e; subst e; simp [LR]
  | a :: xs, _, n + 1, ⟨y, zs, _, hz, q⟩ => by subst q; simpa using LR.drop n hz
theorem LR.nil : LR r [] [] := rfl
theorem LR.one {x y : Value} (h : VR r x y) : LR r [x] [y] := ⟨y, [], h, rfl, rfl⟩
end

mutual
/-- No block number in it. -/
def plain : Value → Bool
  | .pointer (some _) | .slice (some _) _ _ | .map (some _) => false
  | .agg ⟨xs⟩ => plainL xs
  | .tuple ⟨xs⟩ => plainL xs
  | .iface _ x => plain x
  | .func _ ⟨xs⟩ ⟨zs⟩ => plainL xs && plainL zs
  | _ => true
def plainL : List Value → Bool
  | [] => true
  | x :: xs => plain x && plainL xs
end
mutual
theorem VR.plain {r : Nat → Option Pl} : ∀ v, plain v = true → VR r v v
  | .pointer (some _), h => by simp [Lift.plain] at h
  | .slice (some _) _ _, h => by simp [Lift.plain] at h
  | .map (some _), h => by simp [Lift.plain] at h
  | .agg ⟨xs⟩, h => ⟨xs, LR.plain xs (by simpa [Lift.plain] using h), rfl⟩
  | .tuple ⟨xs⟩, h => ⟨xs, LR.plain xs (by simpa [Lift.plain] using h), rfl⟩
  | .iface _ x, h => ⟨x, VR.plain x (by simpa [Lift.plain] using h), rfl⟩
  | .func _ ⟨xs⟩ ⟨zs⟩, h => ⟨xs, zs, LR.plain xs (by simp [Lift.plain] at h; exact h.1), LR.plain zs (by simp [Lift.plain] at h; exact h.2), rfl⟩
  | .bool _, _ => rfl | .int _ _, _ => rfl | .float _ _, _ => rfl | .complex _ _ _, _ => rfl | .string _, _ => rfl
  | .pointer none, _ => rfl | .slice none _ _, _ => rfl | .map none, _ => rfl | .chan _, _ => rfl | .nilFunc, _ => rfl | .nilIface, _ => rfl
theorem LR.plain {r : Nat → Option Pl} : ∀ xs, plainL xs = true → LR r xs xs
  | [], _ => rfl
  | x :: xs, h => ⟨x, xs, VR.plain x (by simp [plainL] at h; exact h.1), LR.plain xs (by simp [plainL] at h; exact h.2), rfl⟩
end
mutual
theorem VR.eq_of_plain {r : Nat → Option Pl} : ∀ v v', Lift.plain v = true → VR r v v' → v' = v
  | .pointer (some _), _, h, _ => by simp [Lift.plain] at h
  | .slice (some _) _ _, _, h, _ => by simp [Lift.plain] at h
  | .map (some _), _, h, _ => by simp [Lift.plain] at h
  | .agg ⟨xs⟩, _, h, ⟨ys, e, q⟩ => by rw [q, LR.eq_of_plain xs ys (by simpa [Lift.plain] using h) e]
  | .tuple ⟨xs⟩, _, h, ⟨ys, e, q⟩ => by rw [q, LR.eq_of_plain xs ys (by simpa [Lift.plain] using h) e]
  | .iface _ x, _, h, ⟨y, e, q⟩ => by rw [q, VR.eq_of_plain x y (by simpa [Lift.plain] using h) e]
  | .func _ ⟨xs⟩ ⟨zs⟩, _, h, ⟨ys, us, e, e', q⟩ => by
    simp [Lift.plain] at h
    rw [q, LR.eq_of_plain xs ys h.1 e, LR.eq_of_plain zs us h.2 e']
  | .bool _, _, _, e => e | .int _ _, _, _, e => e | .float _ _, _, _, e => e | .complex _ _ _, _, _, e => e | .string _, _, _, e => e
  | .pointer none, _, _, e => e | .slice none _ _, _, _, e => e | .map none, _, _, e => e | .chan _, _, _, e => e | .nilFunc, _, _, e => e | .nilIface, _, _, e => e
theorem LR.eq_of_plain {r : Nat → Option Pl} : ∀ xs ys, plainL xs = true → LR r xs ys → ys = xs
  | [], _, _, e => e
  | x :: xs, _, h, ⟨y, zs, e, e', q⟩ => by
    simp [plainL] at h
    rw [q, VR.eq_of_plain x y h.1 e, LR.eq_of_plain xs zs h.2 e']
end

mutual
/-- Two readings of one value: the second of them out of the first. -/
theorem VR.other {s r t : Nat → Option Pl} (h : ∀ (i : Nat) (c m : Pl), s i = some c → r i = some m → ∃ p, t c.n = some p ∧ p.n = m.n ∧ p.base + c.base = m.base) : ∀ v u w, VR s v u → VR r v w → VR t u w
  | .pointer (some _), _, _, ⟨c, e, q⟩, ⟨m, e', q'⟩ => by subst q q'; obtain ⟨p, h1, h2, h3⟩ := h _ _ _ e e'; exact ⟨p, h1, by rw [h2, ← h3, Nat.add_assoc]⟩
  | .slice (some _) _ _, _, _, ⟨c, e, q⟩, ⟨m, e', q'⟩ => by subst q q'; obtain ⟨p, h1, h2, h3⟩ := h _ _ _ e e'; exact ⟨p, h1, by rw [h2, ← h3, Nat.add_assoc]⟩
  | .map (some _), _, _, ⟨c, e, q⟩, ⟨m, e', q'⟩ => by subst q q'; obtain ⟨p, h1, h2, _⟩ := h _ _ _ e e'; exact ⟨p, h1, by rw [h2]⟩
  | .agg ⟨xs⟩, _, _, ⟨ys, e, q⟩, ⟨zs, e', q'⟩ => by subst q q'; exact ⟨zs, LR.other h xs ys zs e e', rfl⟩
  | .tuple ⟨xs⟩, _, _, ⟨ys, e, q⟩, ⟨zs, e', q'⟩ => by subst q q'; exact ⟨zs, LR.other h xs ys zs e e', rfl⟩
  | .iface _ x, _, _, ⟨y, e, q⟩, ⟨z, e', q'⟩ => by subst q q'; exact ⟨z, VR.other h x y z e e', rfl⟩
  | .func _ ⟨xs⟩ ⟨zs⟩, _, _, ⟨y1, y2, e, f, q⟩, ⟨z1, z2, e', f', q'⟩ => by subst q q'; exact ⟨z1, z2, LR.other h xs y1 z1 e e', LR.other h zs y2 z2 f f', rfl⟩
  | .bool _, _, _, e, e' => by cases e; cases e'; exact rfl
  | .int _ _, _, _, e, e' => by cases e; cases e'; exact rfl
  | .float _ _, _, _, e, e' => by cases e; cases e'; exact rfl
  | .complex _ _ _, _, _, e, e' => by cases e; cases e'; exact rfl
  | .string _, _, _, e, e' => by cases e; cases e'; exact rfl
  | .pointer none, _, _, e, e' => by cases e; cases e'; exact rfl
  | .slice none _ _, _, _, e, e' => by cases e; cases e'; exact rfl
  | .map none, _, _, e, e' => by cases e; cases e'; exact rfl
  | .chan _, _, _, e, e' => by cases e; cases e'; exact rfl
  | .nilFunc, _, _, e, e' => by cases e; cases e'; exact rfl
  | .nilIface, _, _, e, e' => by cases e; cases e'; exact rfl
theorem LR.other {s r t : Nat → Option Pl} (h : ∀ (i : Nat) (c m : Pl), s i = some c → r i = some m → ∃ p, t c.n = some p ∧ p.n = m.n ∧ p.base + c.base = m.base) : ∀ xs ys zs, LR s xs ys → LR r xs zs → LR t ys zs
  | [], _, _, e, e' => by rw [LR] at e e'; subst e e'; exact rfl
  | x :: xs, _, _, ⟨y, ys, e, f, q⟩, ⟨z, zs, e', f', q'⟩ => by subst q q'; exact ⟨z, zs, VR.other h x y z e e', LR.other h xs ys zs f f', rfl⟩
end
mutual
/-- One reading behind another. -/
theorem VR.comp {s r t : Nat → Option Pl} (h : ∀ (i : Nat) (c m : Pl), s i = some c → r c.n = some m → ∃ p, t i = some p ∧ p.n = m.n ∧ p.base = m.base + c.base) : ∀ v u w, VR s v u → VR r u w → VR t v w
  | .pointer (some _), _, _, ⟨c, e, q⟩, g => by subst q; obtain ⟨m, e', q'⟩ := g; subst q'; obtain ⟨p, h1, h2, h3⟩ := h _ _ _ e e'; exact ⟨p, h1, by rw [h2, h3, Nat.add_assoc]⟩
  | .slice (some _) _ _, _, _, ⟨c, e, q⟩, g => by subst q; obtain ⟨m, e', q'⟩ := g; subst q'; obtain ⟨p, h1, h2, h3⟩ := h _ _ _ e e'; exact ⟨p, h1, by rw [h2, h3, Nat.add_assoc]⟩
  | .map (some _), _, _, ⟨c, e, q⟩, g => by subst q; obtain ⟨m, e', q'⟩ := g; subst q'; obtain ⟨p, h1, h2, _⟩ := h _ _ _ e e'; exact ⟨p, h1, by rw [h2]⟩
  | .agg ⟨xs⟩, _, _, ⟨ys, e, q⟩, g => by subst q; obtain ⟨zs, e', q'⟩ := g; subst q'; exact ⟨zs, LR.comp h xs ys zs e e', rfl⟩
  | .tuple ⟨xs⟩, _, _, ⟨ys, e, q⟩, g => by subst q; obtain ⟨zs, e', q'⟩ := g; subst q'; exact ⟨zs, LR.comp h xs ys zs e e', rfl⟩
  | .iface _ x, _, _, ⟨y, e, q⟩, g => by subst q; obtain ⟨z, e', q'⟩ := g; subst q'; exact ⟨z, VR.comp h x y z e e', rfl⟩
  | .func _ ⟨xs⟩ ⟨zs⟩, _, _, ⟨y1, y2, e, f, q⟩, g => by subst q; obtain ⟨z1, z2, e', f', q'⟩ := g; subst q'; exact ⟨z1, z2, LR.comp h xs y1 z1 e e', LR.comp h zs y2 z2 f f', rfl⟩
  | .bool _, _, _, e, e' => by cases e; cases e'; exact rfl
  | .int _ _, _, _, e, e' => by cases e; cases e'; exact rfl
  | .float _ _, _, _, e, e' => by cases e; cases e'; exact rfl
  | .complex _ _ _, _, _, e, e' => by cases e; cases e'; exact rfl
  | .string _, _, _, e, e' => by cases e; cases e'; exact rfl
  | .pointer none, _, _, e, e' => by cases e; cases e'; exact rfl
  | .slice none _ _, _, _, e, e' => by cases e; cases e'; exact rfl
  | .map none, _, _, e, e' => by cases e; cases e'; exact rfl
  | .chan _, _, _, e, e' => by cases e; cases e'; exact rfl
  | .nilFunc, _, _, e, e' => by cases e; cases e'; exact rfl
  | .nilIface, _, _, e, e' => by cases e; cases e'; exact rfl
theorem LR.comp {s r t : Nat → Option Pl} (h : ∀ (i : Nat) (c m : Pl), s i = some c → r c.n = some m → ∃ p, t i = some p ∧ p.n = m.n ∧ p.base = m.base + c.base) : ∀ xs ys zs, LR s xs ys → LR r ys zs → LR t xs zs
  | [], _, _, e, e' => by rw [LR] at e; subst e; rw [LR] at e'; subst e'; exact rfl
  | x :: xs, _, _, ⟨y, ys, e, f, q⟩, g => by subst q; obtain ⟨z, zs, e', f', q'⟩ := g; subst q'; exact ⟨z, zs, VR.comp h x y z e e', LR.comp h xs ys zs f f', rfl⟩
end
end Go.Lift
