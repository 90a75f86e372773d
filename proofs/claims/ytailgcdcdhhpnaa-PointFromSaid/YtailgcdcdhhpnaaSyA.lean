/- This file defines symbolic values ('SV') and what they say of the machine's values. No conditions: definitions and their plain laws. -/
import Derived.Calls
import Derived.LoopN
import Derived.KernelRfl
import Derived.Below
import Derived.OrdersIn
import Derived.Laws.CopyRow
import Derived.Laws.StructEq
import Derived.RangeFuncLeaves
import Derived.LoopNIn
namespace Go.Sy
open Go

/-- v, which the kernel does not look into. -/
noncomputable def Lock {α : Type} (v : α) : α := Classical.choose (⟨v, rfl⟩ : ∃ z, z = v)
theorem Lock_eq {α : Type} (v : α) : Lock v = v := Classical.choose_spec (⟨v, rfl⟩ : ∃ z, z = v)

/-- Where a tracked block lies: the machine's block, the first of its cells, how many. -/
structure Pl where
  n : Nat
  base : Nat
  size : Nat

/-- Symbolic values. 'ints k n xs' are n cells of an aggregate; 'ptr b o i', 'sl b o i ..' lie in the tracked block b; 'ro', 'rob', 'rol' are slices that nobody writes (the flag: made since the function began), 'rpi', 'rpb', 'rpl' addresses in such. -/
inductive SV where
  | bool (b : Bool)
  | int (k : IntKind) (n : Int)
  | str (s : List Int)
  | nl (v : Value)
  | ints (k : IntKind) (n : Nat) (xs : List Int)
  | ptr (b o i : Nat)
  | sl (b o i z len cap : Nat) (ex wh : Bool)
  | ro (f : Bool) (k : IntKind) (xs : List Int)
  | rob (f : Bool) (xss : List (List Int))
  | rol (f : Bool) (z len : Nat) (g : Nat → List SV)
  | rpi (k : IntKind) (xs : List Int) (i : Nat)
  | rpb (f : Bool) (xss : List (List Int)) (i : Nat)
  | rpl (f : Bool) (z len : Nat) (g : Nat → List SV) (e o i : Nat)
  | agg (ps : List SV)
  | tup (vs : List SV)
  | iface (t : TypeId) (v : SV)
  | fn (f : Fn) (a b : List SV)

/-- What symbolic values are read by: the places of tracked blocks; blocks that nobody writes; from which block on a block is new; marks; which loops' records lie behind the numbers. -/
structure Env where
  r : Nat → Option Pl
  z : Nat → Option (Array Value × TypeId × (Nat × Nat))
  n0 : Nat
  m : List Nat
  y : Nat → Option Nat

def intsV (k : IntKind) (xs : List Int) : List Value := xs.map (Value.int k)
/-- n cells, whatever the list. -/
def lst (n : Nat) (l : List Int) : List Int := (List.range n).map fun i => l.getD i 0
def strL (s : ByteArray) : List Int := s.data.toList.map fun b => (b.toNat : Int)

/-- A slice of integers that nobody writes. -/
def RoI (e : Env) (f : Bool) (k : IntKind) (xs : List Int) (v : Value) : Prop :=
  (xs = [] ∧ ∃ a cap, v = .slice a 0 cap ∧ (a = none → cap = 0)) ∨
  ∃ n o cap c t fr, v = .slice (some ⟨n, o, none⟩) xs.length cap ∧ e.z n = some (c, t, fr) ∧ (f = true → e.n0 ≤ n) ∧
    intsV k xs = (c.toList.drop o).take xs.length ∧ xs.length ≤ cap ∧ o + cap ≤ c.size
/-- A slice of slices of bytes that nobody writes. -/
def RoB (e : Env) (f : Bool) (xss : List (List Int)) (v : Value) : Prop :=
  (xss = [] ∧ ∃ a cap, v = .slice a 0 cap ∧ (a = none → cap = 0)) ∨
  ∃ n o cap c t fr, v = .slice (some ⟨n, o, none⟩) xss.length cap ∧ e.z n = some (c, t, fr) ∧ (f = true → e.n0 ≤ n) ∧
    (∀ (i : Nat) (xs : List Int), xss[i]? = some xs → ∃ y, c.toList[o + i]? = some y ∧ RoI e f .u8 xs y) ∧ xss.length ≤ cap ∧ o + cap ≤ c.size

mutual
/-- The symbolic value says of the machine's value what it is. -/
def VR : Env → SV → Value → Prop
  | _, .bool b, v' => v' = .bool b
  | _, .int k n, v' => v' = .int k n
  | _, .str xs, v' => ∃ s, v' = .string s ∧ xs = strL s
  | _, .nl v, v' => v' = v
  | _, .ints _ _ _, _ => False
  | e, .ptr b o i, v' => ∃ p, e.r b = some p ∧ v' = .pointer (some ⟨p.n, p.base + (o + i), none⟩)
  | e, .sl b o i z len cap ex _, v' =>
    (len = 0 ∧ cap = 0 ∧ ∃ a, v' = .slice a 0 0) ∨
    ∃ p cap' a, e.r b = some p ∧ v' = .slice (some ⟨p.n, a, none⟩) len cap' ∧ (cap' ≠ 0 → a = p.base + (o + i * z)) ∧ cap ≤ cap' ∧ (ex = true → cap' = cap) ∧ len ≤ cap' ∧ (cap' ≠ 0 → o + i * z + cap' * z ≤ p.size)
  | e, .ro f k xs, v' => RoI e f k xs v'
  | e, .rob f xss, v' => RoB e f xss v'
  | e, .rol f z len g, v' =>
    (len = 0 ∧ ∃ a cap, v' = .slice a 0 cap ∧ (a = none → cap = 0)) ∨
    ∃ n o cap c t fr, v' = .slice (some ⟨n, o, none⟩) len cap ∧ e.z n = some (c, t, fr) ∧ (f = true → e.n0 ≤ n) ∧
      (∀ i, i < len → PR ⟨fun _ => none, e.z, e.n0, [], fun _ => none⟩ (g i) ((c.toList.drop (o + i * z)).take z)) ∧ len ≤ cap ∧ o + cap * z ≤ c.size
  | e, .rpi k xs i, v' => ∃ n o c t fr, v' = .pointer (some ⟨n, o + i, none⟩) ∧ e.z n = some (c, t, fr) ∧ intsV k xs = (c.toList.drop o).take xs.length
  | e, .rpb f xss i, v' => ∃ n o c t fr, v' = .pointer (some ⟨n, o + i, none⟩) ∧ e.z n = some (c, t, fr) ∧
      (∀ (i : Nat) (xs : List Int), xss[i]? = some xs → ∃ y, c.toList[o + i]? = some y ∧ RoI e f .u8 xs y)
  | e, .rpl _ z len g el o i, v' => ∃ n o0 c t fr, v' = .pointer (some ⟨n, o0 + el * z + (o + i), none⟩) ∧ e.z n = some (c, t, fr) ∧
      (∀ i, i < len → PR ⟨fun _ => none, e.z, e.n0, [], fun _ => none⟩ (g i) ((c.toList.drop (o0 + i * z)).take z)) ∧ o0 + len * z ≤ c.size
  | e, .agg ps, v' => ∃ ys, PR e ps ys ∧ v' = .agg ⟨ys⟩
  | e, .tup vs, v' => ∃ ys, LR e vs ys ∧ v' = .tuple ⟨ys⟩
  | e, .iface t x, v' => ∃ y, VR e x y ∧ v' = .iface t y
  | e, .fn f a b, v' => ∃ ys us, LR e a ys ∧ LR e b us ∧ v' = .func f ⟨ys⟩ ⟨us⟩
/-- Value by value. -/
def LR : Env → List SV → List Value → Prop
  | _, [], ys => ys = []
  | e, x :: xs, ys => ∃ y zs, VR e x y ∧ LR e xs zs ∧ ys = y :: zs
/-- The cells of an aggregate, part by part. -/
def PR : Env → List SV → List Value → Prop
  | _, [], ys => ys = []
  | e, x :: xs, ys => match x with
    | .ints k n l => ∃ zs, PR e xs zs ∧ ys = intsV k (lst n l) ++ zs
    | x => ∃ y zs, VR e x y ∧ PR e xs zs ∧ ys = y :: zs
end

/-! ### Lists of integers of a given length -/
theorem lst_eq {n : Nat} {l : List Int} (h : l.length = n) : lst n l = l := by
  apply List.ext_getElem?
  intro i
  unfold lst
  rw [List.getElem?_map]
  rcases Nat.lt_or_ge i n with hi | hi
  · rw [List.getElem?_range hi]
    simp [List.getD, List.getElem?_eq_getElem (show i < l.length by omega)]
  · rw [List.getElem?_eq_none (by simpa using hi), List.getElem?_eq_none (by omega)]; rfl
theorem lst_length (n : Nat) (l : List Int) : (lst n l).length = n := by simp [lst]
theorem lst_get {n i : Nat} (l : List Int) (h : i < n) : (lst n l)[i]? = some (l.getD i 0) := by
  unfold lst; rw [List.getElem?_map, List.getElem?_range h]; rfl
theorem lst_drop (n o : Nat) (l : List Int) : lst (n - o) (l.drop o) = (lst n l).drop o := by
  apply List.ext_getElem?
  intro i
  rw [List.getElem?_drop]
  rcases Nat.lt_or_ge i (n - o) with hi | hi
  · rw [lst_get _ hi, lst_get _ (by omega)]
    simp [List.getD, List.getElem?_drop]
  · rw [List.getElem?_eq_none (by rw [lst_length]; exact hi), List.getElem?_eq_none (by rw [lst_length]; omega)]
theorem lst_take {n m : Nat} (h : m ≤ n) (l : List Int) : lst m (l.take m) = (lst n l).take m := by
  apply List.ext_getElem?
  intro i
  rw [List.getElem?_take]
  rcases Nat.lt_or_ge i m with hi | hi
  · rw [lst_get _ hi, if_pos hi, lst_get _ (by omega)]
    simp [List.getD, hi]
  · rw [List.getElem?_eq_none (by rw [lst_length]; exact hi), if_neg (by omega)]
theorem lst_self (n : Nat) (l : List Int) : lst n (lst n l) = lst n l := lst_eq (lst_length n l)
theorem intsV_length {k : IntKind} {xs : List Int} : (intsV k xs).length = xs.length := by simp [intsV]
theorem intsV_get {k : IntKind} {xs : List Int} {o : Nat} (h : o < xs.length) : (intsV k xs)[o]? = some (.int k (xs.getD o 0)) := by
  simp [intsV, List.getD, List.getElem?_eq_getElem h]
theorem intsV_append (k : IntKind) (a b : List Int) : intsV k (a ++ b) = intsV k a ++ intsV k b := by simp [intsV]
theorem intsV_take (k : IntKind) (n : Nat) (a : List Int) : intsV k (a.take n) = (intsV k a).take n := by simp [intsV, List.map_take]
theorem intsV_drop (k : IntKind) (n : Nat) (a : List Int) : intsV k (a.drop n) = (intsV k a).drop n := by simp [intsV, List.map_drop]

/-! ### Renumbering -/
mutual
def ren (s : Nat → Nat) : SV → SV
  | .ptr b o i => .ptr (s b) o i
  | .sl b o i z len cap ex wh => .sl (s b) o i z len cap ex wh
  | .agg ps => .agg (renL s ps)
  | .tup vs => .tup (renL s vs)
  | .iface t x => .iface t (ren s x)
  | .fn f a b => .fn f (renL s a) (renL s b)
  | v => v
def renL (s : Nat → Nat) : List SV → List SV
  | [] => []
  | x :: xs => ren s x :: renL s xs
end
mutual
/-- Does the value lead to the tracked block j? -/
def uses (j : Nat) : SV → Bool
  | .ptr b _ _ => b == j
  | .sl b _ _ _ _ _ _ _ => b == j
  | .agg ps => usesL j ps
  | .tup vs => usesL j vs
  | .iface _ x => uses j x
  | .fn _ a b => usesL j a || usesL j b
  | _ => false
def usesL (j : Nat) : List SV → Bool
  | [] => false
  | x :: xs => uses j x || usesL j xs
end

theorem RoI.mono {e e' : Env} (hz : ∀ n o, e.z n = some o → e'.z n = some o) (hn : e'.n0 ≤ e.n0) {f : Bool} {k : IntKind} {xs : List Int} {v : Value} (h : RoI e f k xs v) : RoI e' f k xs v := by
  rcases h with h | ⟨n, o, cap, c, t, fr, h1, h2, h3, h4, h5, h6⟩
  · exact .inl h
  · exact .inr ⟨n, o, cap, c, t, fr, h1, hz _ _ h2, fun q => Nat.le_trans hn (h3 q), h4, h5, h6⟩
theorem RoB.mono {e e' : Env} (hz : ∀ n o, e.z n = some o → e'.z n = some o) (hn : e'.n0 ≤ e.n0) {f : Bool} {xss : List (List Int)} {v : Value} (h : RoB e f xss v) : RoB e' f xss v := by
  rcases h with h | ⟨n, o, cap, c, t, fr, h1, h2, h3, h4, h5, h6⟩
  · exact .inl h
  · exact .inr ⟨n, o, cap, c, t, fr, h1, hz _ _ h2, fun q => Nat.le_trans hn (h3 q), fun i xs hi => (h4 i xs hi).imp fun y ⟨a, b⟩ => ⟨a, b.mono hz hn⟩, h5, h6⟩

mutual
theorem VR.mono' {e e' : Env} (hz : ∀ n o, e.z n = some o → e'.z n = some o) (hn : e'.n0 ≤ e.n0) : ∀ (v : SV) (v' : Value), (∀ j p, uses j v = true → e.r j = some p → e'.r j = some p) → VR e v v' → VR e' v v'
  | .bool _, _, _, h => h
  | .int _ _, _, _, h => h
  | .str _, _, _, h => h
  | .nl _, _, _, h => h
  | .ints _ _ _, _, _, h => h
  | .ptr b _ _, _, g, ⟨p, h1, h2⟩ => ⟨p, g b p (by simp [uses]) h1, h2⟩
  | .sl b _ _ _ _ _ _ _, _, g, h => by
    rcases h with h | ⟨p, c, a, h1, h2⟩
    · exact .inl h
    · exact .inr ⟨p, c, a, g b p (by simp [uses]) h1, h2⟩
  | .ro _ _ _, _, _, h => RoI.mono hz hn h
  | .rob _ _, _, _, h => RoB.mono hz hn h
  | .rol f z len g, _, _, h => by
    rcases h with h | ⟨n, o, cap, c, t, fr, h1, h2, h3, h4, h5, h6⟩
    · exact .inl h
    · exact .inr ⟨n, o, cap, c, t, fr, h1, hz _ _ h2, fun q => Nat.le_trans hn (h3 q), fun i hi => PR.mono' (e := ⟨fun _ => none, e.z, e.n0, [], fun _ => none⟩) (e' := ⟨fun _ => none, e'.z, e'.n0, [], fun _ => none⟩) hz hn (g i) _ (fun _ _ _ q => by cases q) (h4 i hi), h5, h6⟩
  | .rpi _ _ _, _, _, ⟨n, o, c, t, fr, h1, h2, h3⟩ => ⟨n, o, c, t, fr, h1, hz _ _ h2, h3⟩
  | .rpb _ _ _, _, _, ⟨n, o, c, t, fr, h1, h2, h3⟩ => ⟨n, o, c, t, fr, h1, hz _ _ h2, fun i xs hi => (h3 i xs hi).imp fun y ⟨a, b⟩ => ⟨a, b.mono hz hn⟩⟩
  | .rpl _ z len g el o i, _, _, ⟨n, o0, c, t, fr, h1, h2, h3, h4⟩ =>
    ⟨n, o0, c, t, fr, h1, hz _ _ h2, fun i hi => PR.mono' (e := ⟨fun _ => none, e.z, e.n0, [], fun _ => none⟩) (e' := ⟨fun _ => none, e'.z, e'.n0, [], fun _ => none⟩) hz hn (g i) _ (fun _ _ _ q => by cases q) (h3 i hi), h4⟩
  | .agg ps, _, g, ⟨ys, h1, h2⟩ => ⟨ys, PR.mono' hz hn ps ys (fun j p q => g j p (by simpa [uses] using q)) h1, h2⟩
  | .tup vs, _, g, ⟨ys, h1, h2⟩ => ⟨ys, LR.mono' hz hn vs ys (fun j p q => g j p (by simpa [uses] using q)) h1, h2⟩
  | .iface _ x, _, g, ⟨y, h1, h2⟩ => ⟨y, VR.mono' hz hn x y (fun j p q => g j p (by simpa [uses] using q)) h1, h2⟩
  | .fn _ a b, _, g, ⟨ys, us, h1, h2, h3⟩ =>
    ⟨ys, us, LR.mono' hz hn a ys (fun j p q => g j p (by simp [uses, q])) h1, LR.mono' hz hn b us (fun j p q => g j p (by simp [uses, q])) h2, h3⟩
theorem LR.mono' {e e' : Env} (hz : ∀ n o, e.z n = some o → e'.z n = some o) (hn : e'.n0 ≤ e.n0) : ∀ (vs : List SV) (ys : List Value), (∀ j p, usesL j vs = true → e.r j = some p → e'.r j = some p) → LR e vs ys → LR e' vs ys
  | [], _, _, h => h
  | x :: xs, _, g, ⟨y, zs, h1, h2, h3⟩ => ⟨y, zs, VR.mono' hz hn x y (fun j p q => g j p (by simp [usesL, q])) h1, LR.mono' hz hn xs zs (fun j p q => g j p (by simp [usesL, q])) h2, h3⟩
theorem PR.mono' {e e' : Env} (hz : ∀ n o, e.z n = some o → e'.z n = some o) (hn : e'.n0 ≤ e.n0) : ∀ (vs : List SV) (ys : List Value), (∀ j p, usesL j vs = true → e.r j = some p → e'.r j = some p) → PR e vs ys → PR e' vs ys
  | [], _, _, h => h
  | x :: xs, ys, g, h => by
    have ih := fun zs => PR.mono' hz hn xs zs (fun j p q => g j p (by simp [usesL, q]))
    have iv := fun y => VR.mono' hz hn x y (fun j p q => g j p (by simp [usesL, q]))
    cases x <;> first
      | (obtain ⟨zs, h1, h2⟩ := h; exact ⟨zs, ih zs h1, h2⟩)
      | (obtain ⟨y, zs, h1, h2, h3⟩ := h; exact ⟨y, zs, iv y h1, ih zs h2, h3⟩)
end

mutual
theorem VR.ren {s : Nat → Nat} {e e' : Env} (hz : ∀ n o, e.z n = some o → e'.z n = some o) (hn : e'.n0 ≤ e.n0) : ∀ (v : SV) (v' : Value), (∀ j p, uses j v = true → e.r j = some p → e'.r (s j) = some p) → VR e v v' → VR e' (Sy.ren s v) v'
  | .bool _, _, _, h => h
  | .int _ _, _, _, h => h
  | .str _, _, _, h => h
  | .nl _, _, _, h => h
  | .ints _ _ _, _, _, h => h
  | .ptr b _ _, _, g, ⟨p, h1, h2⟩ => ⟨p, g b p (by simp [uses]) h1, h2⟩
  | .sl b _ _ _ _ _ _ _, _, g, h => by
    rcases h with h | ⟨p, c, a, h1, h2⟩
    · exact .inl h
    · exact .inr ⟨p, c, a, g b p (by simp [uses]) h1, h2⟩
  | .ro f k xs, v', _, h => VR.mono' hz hn (.ro f k xs) v' (fun _ _ q => by cases q) h
  | .rob f xss, v', _, h => VR.mono' hz hn (.rob f xss) v' (fun _ _ q => by cases q) h
  | .rol f z len g, v', _, h => VR.mono' hz hn (.rol f z len g) v' (fun _ _ q => by cases q) h
  | .rpi k xs i, v', _, h => VR.mono' hz hn (.rpi k xs i) v' (fun _ _ q => by cases q) h
  | .rpb f xss i, v', _, h => VR.mono' hz hn (.rpb f xss i) v' (fun _ _ q => by cases q) h
  | .rpl f z len g a b c, v', _, h => VR.mono' hz hn (.rpl f z len g a b c) v' (fun _ _ q => by cases q) h
  | .agg ps, _, g, ⟨ys, h1, h2⟩ => ⟨ys, PR.ren hz hn ps ys (fun j p q => g j p (by simpa [uses] using q)) h1, h2⟩
  | .tup vs, _, g, ⟨ys, h1, h2⟩ => ⟨ys, LR.ren hz hn vs ys (fun j p q => g j p (by simpa [uses] using q)) h1, h2⟩
  | .iface _ x, _, g, ⟨y, h1, h2⟩ => ⟨y, VR.ren hz hn x y (fun j p q => g j p (by simpa [uses] using q)) h1, h2⟩
  | .fn _ a b, _, g, ⟨ys, us, h1, h2, h3⟩ =>
    ⟨ys, us, LR.ren hz hn a ys (fun j p q => g j p (by simp [uses, q])) h1, LR.ren hz hn b us (fun j p q => g j p (by simp [uses, q])) h2, h3⟩
theorem LR.ren {s : Nat → Nat} {e e' : Env} (hz : ∀ n o, e.z n = some o → e'.z n = some o) (hn : e'.n0 ≤ e.n0) : ∀ (vs : List SV) (ys : List Value), (∀ j p, usesL j vs = true → e.r j = some p → e'.r (s j) = some p) → LR e vs ys → LR e' (renL s vs) ys
  | [], _, _, h => h
  | x :: xs, _, g, ⟨y, zs, h1, h2, h3⟩ => ⟨y, zs, VR.ren hz hn x y (fun j p q => g j p (by simp [usesL, q])) h1, LR.ren hz hn xs zs (fun j p q => g j p (by simp [usesL, q])) h2, h3⟩
theorem PR.ren {s : Nat → Nat} {e e' : Env} (hz : ∀ n o, e.z n = some o → e'.z n = some o) (hn : e'.n0 ≤ e.n0) : ∀ (vs : List SV) (ys : List Value), (∀ j p, usesL j vs = true → e.r j = some p → e'.r (s j) = some p) → PR e vs ys → PR e' (renL s vs) ys
  | [], _, _, h => h
  | x :: xs, ys, g, h => by
    have ih := fun zs => PR.ren hz hn xs zs (fun j p q => g j p (by simp [usesL, q]))
    have iv := fun y => VR.ren hz hn x y (fun j p q => g j p (by simp [usesL, q]))
    cases x <;> first
      | (obtain ⟨zs, h1, h2⟩ := h; exact ⟨zs, ih zs h1, h2⟩)
      | (obtain ⟨y, zs, h1, h2, h3⟩ := h; exact ⟨y, zs, iv y h1, ih zs h2, h3⟩)
end

/-- An environment that says more. -/
structure Env.Le (e e' : Env) : Prop where
  r : ∀ j p, e.r j = some p → e'.r j = some p
  z : ∀ n o, e.z n = some o → e'.z n = some o
  n0 : e'.n0 ≤ e.n0
theorem Env.Le.refl (e : Env) : Env.Le e e := ⟨fun _ _ h => h, fun _ _ h => h, Nat.le_refl _⟩
theorem Env.Le.trans {a b c : Env} (h : Env.Le a b) (g : Env.Le b c) : Env.Le a c := ⟨fun j p q => g.r j p (h.r j p q), fun n o q => g.z n o (h.z n o q), Nat.le_trans g.n0 h.n0⟩
theorem VR.mono {e e' : Env} (h : Env.Le e e') {v : SV} {v' : Value} (g : VR e v v') : VR e' v v' := VR.mono' h.z h.n0 v v' (fun j p _ q => h.r j p q) g
theorem LR.mono {e e' : Env} (h : Env.Le e e') {v : List SV} {v' : List Value} (g : LR e v v') : LR e' v v' := LR.mono' h.z h.n0 v v' (fun j p _ q => h.r j p q) g
theorem PR.mono {e e' : Env} (h : Env.Le e e') {v : List SV} {v' : List Value} (g : PR e v v') : PR e' v v' := PR.mono' h.z h.n0 v v' (fun j p _ q => h.r j p q) g

section
variable {e : Env}
theorem LR.length : ∀ {xs : List SV} {ys : List Value}, LR e xs ys → ys.length = xs.length
  | [], _, h => by rw [LR] at h; subst h; rfl
  | _ :: xs, _, ⟨_, _, _, h, q⟩ => by subst q; simp [LR.length h]
theorem LR.get : ∀ {xs : List SV} {ys : List Value} {i : Nat} {x : SV}, LR e xs ys → xs[i]? = some x → ∃ y, ys[i]? = some y ∧ VR e x y
  | [], _, _, _, _, h => by simp at h
  | a :: xs, _, 0, x, ⟨y, zs, hy, _, q⟩, h => by subst q; simp at h; subst h; exact ⟨y, rfl, hy⟩
  | a :: xs, _, i + 1, x, ⟨y, zs, _, hz, q⟩, h => by subst q; simp at h; obtain ⟨u, hu, hv⟩ := LR.get hz h; exact ⟨u, by simpa using hu, hv⟩
theorem LR.append : ∀ {xs us : List SV} {ys vs : List Value}, LR e xs ys → LR e us vs → LR e (xs ++ us) (ys ++ vs)
  | [], _, _, _, h, g => by rw [LR] at h; subst h; exact g
  | _ :: xs, _, _, _, ⟨y, zs, hy, hz, q⟩, h => by subst q; exact ⟨y, _, hy, LR.append hz h, rfl⟩
theorem LR.one {x : SV} {y : Value} (h : VR e x y) : LR e [x] [y] := ⟨y, [], h, rfl, rfl⟩

/-! ### Parts -/
def psz : SV → Nat
  | .ints _ n _ => n
  | _ => 1
def psize : List SV → Nat
  | [] => 0
  | p :: ps => psz p + psize ps
def notInts : SV → Bool
  | .ints _ _ _ => false
  | _ => true
theorem PR.cons {x : SV} {xs : List SV} {ys : List Value} (hx : notInts x = true) : PR e (x :: xs) ys ↔ ∃ y zs, VR e x y ∧ PR e xs zs ∧ ys = y :: zs := by
  cases x <;> first | rfl | cases hx
theorem PR.consInts {k : IntKind} {n : Nat} {l : List Int} {xs : List SV} {ys : List Value} : PR e (.ints k n l :: xs) ys ↔ ∃ zs, PR e xs zs ∧ ys = intsV k (lst n l) ++ zs := Iff.rfl
theorem psz_one {x : SV} (hx : notInts x = true) : psz x = 1 := by cases x <;> first | rfl | cases hx

theorem PR.length : ∀ {ps : List SV} {ys : List Value}, PR e ps ys → ys.length = psize ps
  | [], _, h => by rw [PR] at h; subst h; rfl
  | x :: xs, ys, h => by
    by_cases hx : notInts x = true
    · rw [PR.cons hx] at h
      obtain ⟨y, zs, _, h2, rfl⟩ := h
      simp [psize, psz_one hx, PR.length h2]; omega
    · cases x <;> simp [notInts] at hx
      obtain ⟨zs, h2, rfl⟩ := h
      simp [psize, psz, PR.length h2, intsV_length, lst_length]
theorem PR.append : ∀ {ps qs : List SV} {ys zs : List Value}, PR e ps ys → PR e qs zs → PR e (ps ++ qs) (ys ++ zs)
  | [], _, _, _, h, g => by rw [PR] at h; subst h; exact g
  | x :: xs, qs, ys, zs, h, g => by
    rw [List.cons_append]
    by_cases hx : notInts x = true
    · rw [PR.cons hx] at h ⊢
      obtain ⟨y, us, h1, h2, rfl⟩ := h
      exact ⟨y, _, h1, PR.append h2 g, rfl⟩
    · cases x <;> simp [notInts] at hx
      obtain ⟨us, h2, rfl⟩ := h
      exact ⟨_, PR.append h2 g, by rw [List.append_assoc]⟩

/-- The parts from cell o on. -/
def dropP : List SV → Nat → Option (List SV)
  | ps, 0 => some ps
  | [], _ + 1 => none
  | p :: ps, o + 1 => match p with
    | .ints k n xs => match Nat.ble n (o + 1) with
      | true => dropP ps (o + 1 - n)
      | false => some (.ints k (n - (o + 1)) (xs.drop (o + 1)) :: ps)
    | _ => dropP ps o
/-- The parts of the first n cells. -/
def takeP : List SV → Nat → Option (List SV)
  | _, 0 => some []
  | [], _ + 1 => none
  | p :: ps, n + 1 => match p with
    | .ints k m xs => match Nat.ble m (n + 1) with
      | true => (takeP ps (n + 1 - m)).map (p :: ·)
      | false => some [.ints k (n + 1) (xs.take (n + 1))]
    | _ => (takeP ps n).map (p :: ·)
/-- The cell o + i. -/
def cellP : List SV → Nat → Nat → Option (SV × Bool)
  | [], _, _ => none
  | p :: ps, o, i => match p with
    | .ints k n xs => match o with
      | 0 => some (.int k (xs.getD i 0), decide (i < n))
      | o + 1 => match Nat.ble n (o + 1) with
        | true => cellP ps (o + 1 - n) i
        | false => some (.int k (xs.getD (o + 1 + i) 0), decide (o + 1 + i < n))
    | p => match o with
      | 0 => match i with
        | 0 => some (p, true)
        | i + 1 => cellP ps 0 i
      | o + 1 => cellP ps o i
def nilC : Value → Option Nat
  | .pointer none => some 0
  | .slice none 0 0 => some 1
  | .map none => some 2
  | .chan none => some 3
  | .nilFunc => some 4
  | .nilIface => some 5
  | _ => none
def one : SV → Bool
  | .ints _ _ _ | .agg _ | .tup _ => false
  | .nl v => (nilC v).isSome
  | _ => true
def setI (k : IntKind) (n : Nat) (xs : List Int) (j : Nat) (ps : List SV) : SV → Option (List SV × Bool)
  | .int k' m => if k = k' then some (.ints k n (xs.set j m) :: ps, decide (j < n) && decide (xs.length = n)) else none
  | _ => none
/-- v at the cell o + i. -/
def setP : List SV → Nat → Nat → SV → Option (List SV × Bool)
  | [], _, _, _ => none
  | p :: ps, o, i, v => match p with
    | .ints k n xs => match o with
      | 0 => setI k n xs i ps v
      | o + 1 => match Nat.ble n (o + 1) with
        | true => (setP ps (o + 1 - n) i v).map fun q => (p :: q.1, q.2)
        | false => setI k n xs (o + 1 + i) ps v
    | _ => match o with
      | 0 => match i with
        | 0 => if one v then some (v :: ps, true) else none
        | i + 1 => (setP ps 0 i v).map fun q => (p :: q.1, q.2)
      | o + 1 => (setP ps o i v).map fun q => (p :: q.1, q.2)

theorem dropP_sound : ∀ {ps qs : List SV} {o : Nat} {ys : List Value}, dropP ps o = some qs → PR e ps ys → PR e qs (ys.drop o) ∧ o ≤ ys.length
  | ps, qs, 0, ys, h, g => by
    have : dropP ps 0 = some ps := by cases ps <;> rfl
    rw [this] at h; cases h; exact ⟨by simpa using g, Nat.zero_le _⟩
  | [], qs, o + 1, ys, h, g => by simp [dropP] at h
  | x :: xs, qs, o + 1, ys, h, g => by
    by_cases hx : notInts x = true
    · have h' : dropP xs o = some qs := by cases x <;> first | exact h | cases hx
      rw [PR.cons hx] at g
      obtain ⟨y, zs, _, h2, rfl⟩ := g
      obtain ⟨h3, h4⟩ := dropP_sound h' h2
      exact ⟨by simpa using h3, by simp; omega⟩
    · cases x <;> simp [notInts] at hx
      rename_i k n l
      obtain ⟨zs, h2, rfl⟩ := g
      simp only [dropP] at h
      split at h
      · rename_i hb
        have hle := Nat.le_of_ble_eq_true hb
        obtain ⟨h3, h4⟩ := dropP_sound h h2
        refine ⟨?_, by simp [intsV_length, lst_length]; omega⟩
        rw [List.drop_append]
        rw [List.drop_eq_nil_of_le (by rw [intsV_length, lst_length]; exact hle), intsV_length, lst_length]
        exact h3
      · rename_i hb
        cases h
        have hlt : o + 1 < n := by
          rcases Nat.lt_or_ge (o + 1) n with q | q
          · exact q
          · rw [Nat.ble_eq_true_of_le q] at hb; cases hb
        refine ⟨⟨zs, h2, ?_⟩, by simp [intsV_length, lst_length]; omega⟩
        rw [List.drop_append_of_le_length (by rw [intsV_length, lst_length]; omega), lst_drop, intsV_drop]

theorem takeP_sound : ∀ {ps qs : List SV} {n : Nat} {ys : List Value}, takeP ps n = some qs → PR e ps ys → PR e qs (ys.take n) ∧ n ≤ ys.length
  | ps, qs, 0, ys, h, g => by
    have : takeP ps 0 = some [] := by cases ps <;> rfl
    rw [this] at h; cases h; exact ⟨by simp [PR], Nat.zero_le _⟩
  | [], qs, n + 1, ys, h, g => by simp [takeP] at h
  | x :: xs, qs, n + 1, ys, h, g => by
    by_cases hx : notInts x = true
    · have h' : (takeP xs n).map (x :: ·) = some qs := by cases x <;> first | exact h | cases hx
      obtain ⟨qs', h1, rfl⟩ := Option.map_eq_some_iff.1 h'
      rw [PR.cons hx] at g
      obtain ⟨y, zs, h0, h2, rfl⟩ := g
      obtain ⟨h3, h4⟩ := takeP_sound h1 h2
      exact ⟨by rw [PR.cons hx]; exact ⟨y, _, h0, h3, by simp⟩, by simp; omega⟩
    · cases x <;> simp [notInts] at hx
      rename_i k m l
      obtain ⟨zs, h2, rfl⟩ := g
      simp only [takeP] at h
      split at h
      · rename_i hb
        have hle := Nat.le_of_ble_eq_true hb
        obtain ⟨qs', h1, rfl⟩ := Option.map_eq_some_iff.1 h
        obtain ⟨h3, h4⟩ := takeP_sound h1 h2
        refine ⟨⟨_, h3, ?_⟩, by simp [intsV_length, lst_length]; omega⟩
        rw [List.take_append, List.take_of_length_le (by rw [intsV_length, lst_length]; exact hle), intsV_length, lst_length]
      · rename_i hb
        cases h
        have hlt : n + 1 < m := by
          rcases Nat.lt_or_ge (n + 1) m with q | q
          · exact q
          · rw [Nat.ble_eq_true_of_le q] at hb; cases hb
        refine ⟨⟨[], rfl, ?_⟩, by simp [intsV_length, lst_length]; omega⟩
        rw [List.take_append_of_le_length (by rw [intsV_length, lst_length]; omega), lst_take (Nat.le_of_lt hlt), intsV_take, List.append_nil]

theorem PR.getInts {k : IntKind} {n j : Nat} {l : List Int} {zs : List Value} (h : j < n) : (intsV k (lst n l) ++ zs)[j]? = some (.int k (l.getD j 0)) := by
  rw [List.getElem?_append_left (by rw [intsV_length, lst_length]; exact h)]
  simp [intsV, lst_get l h]

theorem cellP_sound : ∀ {ps : List SV} {o i : Nat} {ys : List Value} {v : SV}, cellP ps o i = some (v, true) → PR e ps ys → ∃ y, ys[o + i]? = some y ∧ VR e v y
  | [], o, i, ys, v, h, g => by simp [cellP] at h
  | x :: xs, o, i, ys, v, h, g => by
    by_cases hx : notInts x = true
    · rw [PR.cons hx] at g
      obtain ⟨y, zs, h0, h2, rfl⟩ := g
      cases o with
      | zero =>
        cases i with
        | zero =>
          have : v = x := by cases x <;> simp [cellP, notInts] at h hx <;> exact h.symm
          subst this
          exact ⟨y, by simp, h0⟩
        | succ i =>
          have h' : cellP xs 0 i = some (v, true) := by cases x <;> first | exact h | cases hx
          obtain ⟨u, hu, hv⟩ := cellP_sound h' h2
          exact ⟨u, by simpa [Nat.add_comm, Nat.add_left_comm] using hu, hv⟩
      | succ o =>
        have h' : cellP xs o i = some (v, true) := by cases x <;> first | exact h | cases hx
        obtain ⟨u, hu, hv⟩ := cellP_sound h' h2
        exact ⟨u, by rw [show o + 1 + i = o + i + 1 by omega]; simpa using hu, hv⟩
    · cases x <;> simp [notInts] at hx
      rename_i k n l
      obtain ⟨zs, h2, rfl⟩ := g
      simp only [cellP] at h
      split at h
      · simp only [Option.some.injEq, Prod.mk.injEq, decide_eq_true_eq] at h
        obtain ⟨rfl, h⟩ := h
        exact ⟨_, by rw [Nat.zero_add, PR.getInts h], rfl⟩
      · rename_i o
        split at h
        · rename_i hb
          have hle := Nat.le_of_ble_eq_true hb
          obtain ⟨u, hu, hv⟩ := cellP_sound h h2
          refine ⟨u, ?_, hv⟩
          rw [List.getElem?_append_right (by rw [intsV_length, lst_length]; omega), intsV_length, lst_length]
          rw [← hu]; congr 1; omega
        · simp only [Option.some.injEq, Prod.mk.injEq, decide_eq_true_eq] at h
          obtain ⟨rfl, h⟩ := h
          exact ⟨_, by rw [PR.getInts h], rfl⟩

theorem nilC_one {v : Value} (h : (nilC v).isSome = true) : v.oneCell' = true := by
  cases v <;> first | rfl | (simp [nilC] at h)
theorem VR.oneCell {v : SV} {v' : Value} (h : VR e v v') (ho : one v = true) : v'.oneCell' = true := by
  cases v with
  | nl x => rw [VR] at h; subst h; exact nilC_one ho
  | ints => cases ho
  | agg => cases ho
  | tup => cases ho
  | bool => rw [VR] at h; subst h; rfl
  | int => rw [VR] at h; subst h; rfl
  | str => obtain ⟨s, rfl, _⟩ := h; rfl
  | ptr => obtain ⟨p, _, rfl⟩ := h; rfl
  | sl =>
    rcases h with ⟨_, _, a, rfl⟩ | ⟨p, c, a, _, rfl, _⟩ <;> rfl
  | ro =>
    rcases h with ⟨_, a, c, rfl, _⟩ | ⟨n, o, cap, c, t, fr, rfl, _⟩ <;> rfl
  | rob =>
    rcases h with ⟨_, a, c, rfl, _⟩ | ⟨n, o, cap, c, t, fr, rfl, _⟩ <;> rfl
  | rol =>
    rcases h with ⟨_, a, c, rfl, _⟩ | ⟨n, o, cap, c, t, fr, rfl, _⟩ <;> rfl
  | rpi => obtain ⟨n, o, c, t, fr, rfl, _⟩ := h; rfl
  | rpb => obtain ⟨n, o, c, t, fr, rfl, _⟩ := h; rfl
  | rpl => obtain ⟨n, o, c, t, fr, rfl, _⟩ := h; rfl
  | iface => obtain ⟨y, _, rfl⟩ := h; rfl
  | fn => obtain ⟨ys, us, _, _, rfl⟩ := h; rfl

theorem setI_sound {k : IntKind} {n j : Nat} {l : List Int} {ps qs : List SV} {v : SV} {y : Value} {zs : List Value} (h : setI k n l j ps v = some (qs, true)) (g : PR e ps zs) (hv : VR e v y) :
    PR e qs ((intsV k (lst n l) ++ zs).set j y) ∧ j < n := by
  unfold setI at h
  split at h
  · rename_i k' m
    split at h
    · rename_i hk
      subst hk
      simp only [Option.some.injEq, Prod.mk.injEq, Bool.and_eq_true, decide_eq_true_eq] at h
      obtain ⟨rfl, h1, h2⟩ := h
      rw [VR] at hv
      subst hv
      refine ⟨⟨zs, g, ?_⟩, h1⟩
      rw [List.set_append_left _ _ (by rw [intsV_length, lst_length]; exact h1), lst_eq h2, lst_eq (by simp [h2])]
      simp [intsV, List.map_set]
    · cases h
  · cases h

theorem setP_sound : ∀ {ps qs : List SV} {o i : Nat} {ys : List Value} {v : SV} {y : Value}, setP ps o i v = some (qs, true) → PR e ps ys → VR e v y → PR e qs (ys.set (o + i) y) ∧ o + i < ys.length
  | [], qs, o, i, ys, v, y, h, g, hv => by simp [setP] at h
  | x :: xs, qs, o, i, ys, v, y, h, g, hv => by
    by_cases hx : notInts x = true
    · rw [PR.cons hx] at g
      obtain ⟨u, zs, h0, h2, rfl⟩ := g
      have hrec : ∀ {o i : Nat}, ((setP xs o i v).map fun q => (x :: q.1, q.2)) = some (qs, true) → PR e qs (u :: zs.set (o + i) y) ∧ o + i < zs.length := fun h => by
        obtain ⟨⟨q1, q2⟩, h1, h'⟩ := Option.map_eq_some_iff.1 h
        simp only [Prod.mk.injEq] at h'
        obtain ⟨rfl, rfl⟩ := h'
        obtain ⟨h3, h4⟩ := setP_sound h1 h2 hv
        exact ⟨by rw [PR.cons hx]; exact ⟨u, _, h0, h3, rfl⟩, h4⟩
      cases o with
      | zero =>
        cases i with
        | zero =>
          have h' : (if one v then some (v :: xs, true) else none) = some (qs, true) := by cases x <;> first | exact h | cases hx
          split at h'
          · rename_i ho
            cases h'
            have hv2 : notInts v = true := by cases v <;> first | rfl | cases ho
            exact ⟨by rw [PR.cons hv2]; exact ⟨y, zs, hv, h2, by simp⟩, by simp⟩
          · cases h'
        | succ i =>
          have h' : ((setP xs 0 i v).map fun q => (x :: q.1, q.2)) = some (qs, true) := by cases x <;> first | exact h | cases hx
          obtain ⟨h3, h4⟩ := hrec h'
          exact ⟨by rw [Nat.zero_add] at h3 ⊢; simpa using h3, by simp; omega⟩
      | succ o =>
        have h' : ((setP xs o i v).map fun q => (x :: q.1, q.2)) = some (qs, true) := by cases x <;> first | exact h | cases hx
        obtain ⟨h3, h4⟩ := hrec h'
        exact ⟨by rw [show o + 1 + i = o + i + 1 by omega]; simpa using h3, by simp; omega⟩
    · cases x <;> simp [notInts] at hx
      rename_i k n l
      obtain ⟨zs, h2, rfl⟩ := g
      simp only [setP] at h
      split at h
      · obtain ⟨h3, h4⟩ := setI_sound h h2 hv
        exact ⟨by rw [Nat.zero_add]; exact h3, by simp [intsV_length, lst_length]; omega⟩
      · rename_i o
        split at h
        · rename_i hb
          have hle := Nat.le_of_ble_eq_true hb
          obtain ⟨⟨q1, q2⟩, h1, h'⟩ := Option.map_eq_some_iff.1 h
          simp only [Prod.mk.injEq] at h'
          obtain ⟨rfl, rfl⟩ := h'
          obtain ⟨h3, h4⟩ := setP_sound h1 h2 hv
          refine ⟨⟨_, h3, ?_⟩, by simp [intsV_length, lst_length]; omega⟩
          rw [List.set_append_right _ _ (by rw [intsV_length, lst_length]; omega), intsV_length, lst_length]
          congr 2; omega
        · obtain ⟨h3, h4⟩ := setI_sound h h2 hv
          exact ⟨h3, by simp [intsV_length, lst_length]; omega⟩

/-- The parts of n cells from o on. -/
def subP (ps : List SV) (o n : Nat) : Option (List SV) := (dropP ps o).bind fun q => takeP q n
theorem subP_sound {ps qs : List SV} {o n : Nat} {ys : List Value} (h : subP ps o n = some qs) (g : PR e ps ys) : PR e qs ((ys.drop o).take n) ∧ o + n ≤ ys.length := by
  obtain ⟨q, h1, h2⟩ := Option.bind_eq_some_iff.1 h
  obtain ⟨h3, h4⟩ := dropP_sound h1 g
  obtain ⟨h5, h6⟩ := takeP_sound h2 h3
  refine ⟨h5, ?_⟩
  rw [List.length_drop] at h6; omega
/-- n cells from o on, other parts in their place. -/
def putP (ps : List SV) (o n : Nat) (new : List SV) : Option (List SV) := match takeP ps o, dropP ps (o + n) with
  | some a, some b => some (a ++ new ++ b)
  | _, _ => none
theorem putP_sound {ps qs new : List SV} {o n : Nat} {ys zs : List Value} (h : putP ps o n new = some qs) (g : PR e ps ys) (g' : PR e new zs) : PR e qs (ys.take o ++ zs ++ ys.drop (o + n)) ∧ o + n ≤ ys.length := by
  unfold putP at h
  split at h
  · rename_i a b ha hb
    cases h
    obtain ⟨h1, _⟩ := takeP_sound ha g
    obtain ⟨h2, h3⟩ := dropP_sound hb g
    exact ⟨(h1.append g').append h2, h3⟩
  · cases h
end

end Go.Sy
