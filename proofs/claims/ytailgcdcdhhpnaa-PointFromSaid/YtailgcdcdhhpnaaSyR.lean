/- This file gives the contracts of functions that read and write their caller's tracked blocks ('Entry.mut'). Conditions: the calls that they are made of. -/
import Derived.Test.YtailgcdcdhhpnaaSyQ
namespace Go.Sy
open Go

mutual
/-- Does the value hold no slice that nobody writes? -/
def noRo : SV → Bool
  | .ro _ _ _ => false
  | .rob _ _ => false
  | .rol _ _ _ _ => false
  | .rpi _ _ _ => false
  | .rpb _ _ _ => false
  | .rpl _ _ _ _ _ _ _ => false
  | .agg ps => noRoL ps
  | .tup vs => noRoL vs
  | .iface _ x => noRo x
  | .fn _ a b => noRoL a && noRoL b
  | _ => true
def noRoL : List SV → Bool
  | [] => true
  | x :: xs => noRo x && noRoL xs
end

section
variable {e e' : Env} {s : Nat → Nat}
mutual
theorem VR.renNo : ∀ {v : SV} {v' : Value}, noRo v = true → (∀ j p, uses j v = true → e.r j = some p → e'.r (s j) = some p) → VR e v v' → VR e' (ren s v) v'
  | .bool _, _, _, _, h => h
  | .int _ _, _, _, _, h => h
  | .str _, _, _, _, h => h
  | .nl _, _, _, _, h => h
  | .ints _ _ _, _, _, _, h => h
  | .ptr b _ _, _, _, g, ⟨p, h1, h2⟩ => ⟨p, g b p (by simp [uses]) h1, h2⟩
  | .sl b _ _ _ _ _ _ _, _, _, g, h => by
    rcases h with h | ⟨p, c, a, h1, h2⟩
    · exact .inl h
    · exact .inr ⟨p, c, a, g b p (by simp [uses]) h1, h2⟩
  | .ro _ _ _, _, n, _, _ => by simp [noRo] at n
  | .rob _ _, _, n, _, _ => by simp [noRo] at n
  | .rol _ _ _ _, _, n, _, _ => by simp [noRo] at n
  | .rpi _ _ _, _, n, _, _ => by simp [noRo] at n
  | .rpb _ _ _, _, n, _, _ => by simp [noRo] at n
  | .rpl _ _ _ _ _ _ _, _, n, _, _ => by simp [noRo] at n
  | .agg ps, _, n, g, ⟨ys, h1, h2⟩ => ⟨ys, PR.renNo (by simpa [noRo] using n) (fun j p q => g j p (by simpa [uses] using q)) h1, h2⟩
  | .tup vs, _, n, g, ⟨ys, h1, h2⟩ => ⟨ys, LR.renNo (by simpa [noRo] using n) (fun j p q => g j p (by simpa [uses] using q)) h1, h2⟩
  | .iface _ x, _, n, g, ⟨y, h1, h2⟩ => ⟨y, VR.renNo (v := x) (by simpa [noRo] using n) (fun j p q => g j p (by simpa [uses] using q)) h1, h2⟩
  | .fn _ a b, _, n, g, ⟨ys, us, h1, h2, h3⟩ => by
    simp only [noRo, Bool.and_eq_true] at n
    exact ⟨ys, us, LR.renNo n.1 (fun j p q => g j p (by simp [uses, q])) h1, LR.renNo n.2 (fun j p q => g j p (by simp [uses, q])) h2, h3⟩
theorem LR.renNo : ∀ {vs : List SV} {ys : List Value}, noRoL vs = true → (∀ j p, usesL j vs = true → e.r j = some p → e'.r (s j) = some p) → LR e vs ys → LR e' (renL s vs) ys
  | [], _, _, _, h => h
  | x :: xs, _, n, g, ⟨y, zs, h1, h2, h3⟩ => by
    simp only [noRoL, Bool.and_eq_true] at n
    exact ⟨y, zs, VR.renNo n.1 (fun j p q => g j p (by simp [usesL, q])) h1, LR.renNo n.2 (fun j p q => g j p (by simp [usesL, q])) h2, h3⟩
theorem PR.renNo : ∀ {vs : List SV} {ys : List Value}, noRoL vs = true → (∀ j p, usesL j vs = true → e.r j = some p → e'.r (s j) = some p) → PR e vs ys → PR e' (renL s vs) ys
  | [], _, _, _, h => h
  | x :: xs, ys, n, g, h => by
    simp only [noRoL, Bool.and_eq_true] at n
    have ih := fun zs => PR.renNo (vs := xs) (ys := zs) n.2 (fun j p q => g j p (by simp [usesL, q]))
    have iv := fun y => VR.renNo (v := x) (v' := y) n.1 (fun j p q => g j p (by simp [usesL, q]))
    cases x <;> first
      | (obtain ⟨zs, h1, h2⟩ := h; exact ⟨zs, ih zs h1, h2⟩)
      | (obtain ⟨y, zs, h1, h2, h3⟩ := h; exact ⟨y, zs, iv y h1, ih zs h2, h3⟩)
end
end

/-- The blocks, nothing said of these. -/
def hide (is : List Nat) (h : List Blk) : List Blk := h.zipIdx.map fun (b, i) => match is.contains i, b with
  | true, .b _ => .b []
  | _, b => b

mutual
/-- A value as the callee sees it: the blocks 'is' by their places there; other slices read. hg: the other blocks. -/
def absS (is : List Nat) (hg : List Blk) : SV → Option (SV × Bool × Bool)
  | .ptr b o i => if is.contains b then some (.ptr (is.idxOf b) o i, true, false) else none
  | .sl b o i z len cap ex wh => if is.contains b then some (.sl (is.idxOf b) o i z len cap ex wh, true, false) else frzS hg (.sl b o i z len cap ex wh)
  | .fn f a b => match absL is hg a, absL is hg b with
    | some (x, p, s), some (y, q, t) => some (.fn f x y, andT p q, s || t)
    | _, _ => none
  | .agg ps => match absL is hg ps with
    | some (l, p, t) => some (.agg l, p, t)
    | none => none
  | .iface ty x => match absS is hg x with
    | some (y, p, t) => some (.iface ty y, p, t)
    | none => none
  | .bool b => frzS hg (.bool b)
  | .int k n => frzS hg (.int k n)
  | .str s => frzS hg (.str s)
  | .nl v => frzS hg (.nl v)
  | .ints k n xs => frzS hg (.ints k n xs)
  | .ro f k xs => frzS hg (.ro f k xs)
  | .rob f xss => frzS hg (.rob f xss)
  | _ => none
def absL (is : List Nat) (hg : List Blk) : List SV → Option (List SV × Bool × Bool)
  | [] => some ([], true, false)
  | x :: xs => match absS is hg x, absL is hg xs with
    | some (y, p, a), some (l, q, b) => some (y :: l, andT p q, a || b)
    | _, _ => none
end
theorem abs_notInts {is : List Nat} {hg : List Blk} {v u : SV} {p t : Bool} (g : absS is hg v = some (u, p, t)) (hn : notInts v = true) : notInts u = true := by
  cases v <;> simp only [absS] at g
  case ptr => split at g <;> cases g; rfl
  case sl =>
    split at g
    · cases g; rfl
    · exact frz_notInts g rfl
  case fn => split at g <;> cases g; rfl
  case agg => split at g <;> cases g; rfl
  case iface => split at g <;> cases g; rfl
  case ints => cases hn
  all_goals first | exact frz_notInts g rfl | cases g

/-- Blocks put back at their places. -/
def setAll (h : List Blk) : List Nat → List Blk → List Blk
  | i :: is, b :: bs => setAll (h.set i b) is bs
  | _, _ => h
def renB (s : Nat → Nat) : Blk → Blk
  | .b ps => .b (renL s ps)
  | .g _ => .gap
def isB : Blk → Bool
  | .b _ => true
  | .g _ => false

theorem setAll_length : ∀ {h : List Blk} {is : List Nat} {bs : List Blk}, (setAll h is bs).length = h.length
  | _, [], _ => by simp [setAll]
  | _, _ :: _, [] => by simp [setAll]
  | h, i :: is, b :: bs => by simp only [setAll]; rw [setAll_length, List.length_set]
theorem setAll_ne : ∀ {h : List Blk} {is : List Nat} {bs : List Blk} {i : Nat}, i ∉ is → (setAll h is bs)[i]? = h[i]?
  | _, [], _, _, _ => by simp [setAll]
  | _, _ :: _, [], _, _ => by simp [setAll]
  | h, a :: is, b :: bs, i, hi => by
    simp only [List.mem_cons, not_or] at hi
    simp only [setAll]
    rw [setAll_ne hi.2, List.getElem?_set_ne (fun q => hi.1 q.symm)]
theorem setAll_get : ∀ {h : List Blk} {is : List Nat} {bs : List Blk} {q i : Nat}, is.Nodup → is[q]? = some i → i < h.length → q < bs.length → (setAll h is bs)[i]? = bs[q]?
  | _, [], _, _, _, _, hq, _, _ => by simp at hq
  | _, _ :: _, [], _, _, _, _, _, hb => by simp at hb
  | h, a :: is, b :: bs, 0, i, hn, hq, hl, _ => by
    simp at hq; subst hq
    simp only [setAll]
    rw [setAll_ne (List.nodup_cons.1 hn).1]
    simp [hl]
  | h, a :: is, b :: bs, q + 1, i, hn, hq, hl, hb => by
    simp only [setAll]
    have := setAll_get (h := h.set a b) (is := is) (bs := bs) (q := q) (i := i) (List.nodup_cons.1 hn).2 (by simpa using hq) (by simpa using hl) (by simpa using hb)
    simpa using this

theorem hide_length {is : List Nat} {h : List Blk} : (hide is h).length = h.length := by simp [hide]
theorem hide_get {is : List Nat} {h : List Blk} {i : Nat} : (hide is h)[i]? = (h[i]?).map fun b => match is.contains i, b with
    | true, .b _ => .b []
    | _, b => b := by
  unfold hide
  rw [List.getElem?_map, List.getElem?_zipIdx]
  cases h[i]? <;> simp

section
variable {P : Program} {B : Base} {e : Env} {h : List Blk} {w : World}

theorem Rel.hide (R : Rel B e h w) (is : List Nat) : Rel B e (hide is h) w := { R with
  dom := fun i p hi => by rw [hide_length]; exact R.dom i p hi
  blk := fun i ps hi => by
    rw [hide_get] at hi
    cases hq : h[i]? with
    | none => simp [hq] at hi
    | some b =>
      simp only [hq, Option.map_some, Option.some.injEq] at hi
      cases hc : is.contains i with
      | false =>
        rw [hc] at hi
        simp only at hi
        subst hi
        exact R.blk i ps hq
      | true =>
        rw [hc] at hi
        cases b with
        | g _ => cases hi
        | b qs =>
          simp only [Blk.b.injEq] at hi
          subst hi
          rcases R.blk i qs hq with ⟨g1, g2⟩ | ⟨p, o, g1, g2, c, t, rfl, g3, g4, g5⟩
          · exact .inl ⟨rfl, g2⟩
          · exact .inr ⟨p, _, g1, g2, c, t, rfl, g3, Nat.zero_le _, by simp [psize, PR]⟩
  gap := fun i g hi => by
    rw [hide_get] at hi
    cases hq : h[i]? with
    | none => simp [hq] at hi
    | some b =>
      cases b with
      | g g' =>
        simp only [hq, Option.map_some, Option.some.injEq] at hi
        have : g' = g := by cases hc : is.contains i <;> rw [hc] at hi <;> cases hi <;> rfl
        subst this
        exact R.gap i _ hq
      | b ps =>
        simp only [hq, Option.map_some, Option.some.injEq] at hi
        cases hc : is.contains i <;> rw [hc] at hi <;> cases hi
  kle := by rw [hide_length]; exact R.kle }
end

/-- The environment of a callee that sees the blocks 'is'. -/
def envC (e : Env) (is : List Nat) (z : Nat → Option (Array Value × TypeId × (Nat × Nat))) (n : Nat) : Env := ⟨fun q => (is[q]?).bind e.r, z, n, [], fun _ => none⟩
/-- Does the block lie among those? -/
def lies (e : Env) (is : List Nat) (n : Nat) : Bool := is.any fun i => match e.r i with
  | some p => p.n == n
  | none => false
def n0C (e : Env) (w : World) (t : Bool) : Nat := match t with
  | true => w.heap.size
  | false => e.n0
def zC (e : Env) (w : World) (is : List Nat) (t : Bool) : Nat → Option (Array Value × TypeId × (Nat × Nat)) := fun n => match t with
  | true => match lies e is n with
    | true => none
    | false => allZ w n
  | false => e.z n

section
variable {P : Program} {B : Base} {e : Env} {h : List Blk} {w : World}

theorem lies_iff {is : List Nat} {n : Nat} : lies e is n = true ↔ ∃ i p, i ∈ is ∧ e.r i = some p ∧ p.n = n := by
  unfold lies
  rw [List.any_eq_true]
  constructor
  · rintro ⟨i, hi, hq⟩
    cases hp : e.r i with
    | none => simp [hp] at hq
    | some p => simp [hp] at hq; exact ⟨i, p, hi, hp, hq⟩
  · rintro ⟨i, p, hi, hp, hn⟩
    exact ⟨i, hi, by simp [hp, hn]⟩

theorem idx_get {is : List Nat} {b : Nat} (hb : is.contains b = true) : is[is.idxOf b]? = some b := by
  have hm : b ∈ is := by simpa using hb
  rw [List.getElem?_eq_getElem (List.idxOf_lt_length_of_mem hm)]
  simp

theorem abs_frz (R : Rel B e h w) {is : List Nat} {T : Bool} (m : Nat) {v u : SV} {t : Bool} {v' : Value} (g : frzS (Sy.hide is h) v = some (u, true, t)) (ht : t = true → T = true) (hv : VR e v v') : VR (envC e is (zC e w is T) m) u v' := by
  have hzz : ∀ n x, e.z n = some x → zC e w is T n = some x := fun n x hx => by
    cases T with
    | false => exact hx
    | true =>
      have hl : lies e is n = false := by
        cases hl : lies e is n with
        | false => rfl
        | true =>
          obtain ⟨i, p, _, hp, rfl⟩ := lies_iff.1 hl
          rw [R.sep i p hp] at hx; cases hx
      simp only [zC, hl]
      obtain ⟨c, ty, fr⟩ := x
      exact allZ_eq (R.zok n c ty fr hx)
  have := frzS_sound (R.hide is) (zz := zC e w is T) hzz (T := T) (fun hT i p c ty hne hp hc => by
    subst hT
    have hl : lies e is p.n = false := by
      cases hl : lies e is p.n with
      | false => rfl
      | true =>
        exfalso
        obtain ⟨i', p', hi', hp', hn⟩ := lies_iff.1 hl
        have := R.inj i' i p' p hp' hp hn
        subst this
        have hil := R.dom i' p hp
        refine hne ?_
        rw [hide_get, List.getElem?_eq_getElem hil, Option.map_some, show is.contains i' = true by simpa using hi']
        cases hb : h[i'] with
        | b ps => rfl
        | g _ =>
          have := (R.gap i' _ (by rw [List.getElem?_eq_getElem hil, hb])).1
          rw [hp] at this; cases this
    show zC e w is true p.n = _
    simp only [zC, hl]
    exact allZ_eq hc) m g ht hv
  exact VR.mono (e := env0 (zC e w is T) m) (e' := envC e is (zC e w is T) m) ⟨(fun _ _ h => by cases h), fun _ _ h => h, Nat.le_refl _⟩ this
theorem abs_rb {is : List Nat} {z : Nat → Option (Array Value × TypeId × (Nat × Nat))} {m : Nat} : ∀ b p, is.contains b = true → e.r b = some p → (envC e is z m).r (is.idxOf b) = some p := fun b p hb hp => by
  show (is[is.idxOf b]?).bind e.r = some p
  rw [idx_get hb]; exact hp

mutual
theorem absS_sound (R : Rel B e h w) {is : List Nat} {T : Bool} (m : Nat) : ∀ {v u : SV} {t : Bool} {v' : Value}, absS is (hide is h) v = some (u, true, t) → (t = true → T = true) → VR e v v' → VR (envC e is (zC e w is T) m) u v'
  | .ptr b o i, u, t, v', g, ht, hv => by
    simp only [absS] at g
    split at g
    · rename_i hb
      cases g
      obtain ⟨p, h1, h2⟩ := hv
      exact ⟨p, abs_rb b p hb h1, h2⟩
    · cases g
  | .sl b o i z len cap ex wh, u, t, v', g, ht, hv => by
    simp only [absS] at g
    split at g
    · rename_i hb
      cases g
      rcases hv with hv | ⟨p, c, a, h1, h2⟩
      · exact .inl hv
      · exact .inr ⟨p, c, a, abs_rb b p hb h1, h2⟩
    · exact abs_frz R m g ht hv
  | .fn f a b, u, t, v', g, ht, hv => by
    simp only [absS] at g
    split at g
    · rename_i x p s y q t' ha hb
      simp only [Option.some.injEq, Prod.mk.injEq, andT_iff] at g
      obtain ⟨rfl, ⟨rfl, rfl⟩, rfl⟩ := g
      obtain ⟨ys, us, h1, h2, rfl⟩ := hv
      exact ⟨ys, us, absL_sound R m ha (fun h => ht (by rw [h]; rfl)) h1, absL_sound R m hb (fun h => ht (by rw [h]; exact Bool.or_true _)) h2, rfl⟩
    · cases g
  | .agg ps, u, t, v', g, ht, hv => by
    simp only [absS] at g
    split at g
    · rename_i l p t' hl
      simp only [Option.some.injEq, Prod.mk.injEq] at g
      obtain ⟨rfl, rfl, rfl⟩ := g
      obtain ⟨ys, h1, rfl⟩ := hv
      exact ⟨ys, absP_sound R m hl ht h1, rfl⟩
    · cases g
  | .iface ty x, u, t, v', g, ht, hv => by
    simp only [absS] at g
    split at g
    · rename_i y p t' hl
      simp only [Option.some.injEq, Prod.mk.injEq] at g
      obtain ⟨rfl, rfl, rfl⟩ := g
      obtain ⟨y', h1, rfl⟩ := hv
      exact ⟨y', absS_sound R m hl ht h1, rfl⟩
    · cases g
  | .bool b, u, t, v', g, ht, hv => by simp only [absS] at g; exact abs_frz R m g ht hv
  | .int k n, u, t, v', g, ht, hv => by simp only [absS] at g; exact abs_frz R m g ht hv
  | .str k, u, t, v', g, ht, hv => by simp only [absS] at g; exact abs_frz R m g ht hv
  | .nl k, u, t, v', g, ht, hv => by simp only [absS] at g; exact abs_frz R m g ht hv
  | .ints k n xs, u, t, v', g, ht, hv => by simp only [absS] at g; exact abs_frz R m g ht hv
  | .ro f k xs, u, t, v', g, ht, hv => by simp only [absS] at g; exact abs_frz R m g ht hv
  | .rob f xs, u, t, v', g, ht, hv => by simp only [absS] at g; exact abs_frz R m g ht hv
  | .rol _ _ _ _, u, t, v', g, _, _ => by simp [absS] at g
  | .rpi _ _ _, u, t, v', g, _, _ => by simp [absS] at g
  | .rpb _ _ _, u, t, v', g, _, _ => by simp [absS] at g
  | .rpl _ _ _ _ _ _ _, u, t, v', g, _, _ => by simp [absS] at g
  | .tup _, u, t, v', g, _, _ => by simp [absS] at g
theorem absL_sound (R : Rel B e h w) {is : List Nat} {T : Bool} (m : Nat) : ∀ {vs us : List SV} {t : Bool} {ys : List Value}, absL is (hide is h) vs = some (us, true, t) → (t = true → T = true) → LR e vs ys → LR (envC e is (zC e w is T) m) us ys
  | [], us, t, ys, g, _, hv => by simp only [absL, Option.some.injEq, Prod.mk.injEq] at g; obtain ⟨rfl, _⟩ := g; exact hv
  | x :: xs, us, t, ys, g, ht, hv => by
    simp only [absL] at g
    split at g
    · rename_i y p a l q b hx hl
      simp only [Option.some.injEq, Prod.mk.injEq, andT_iff] at g
      obtain ⟨rfl, ⟨rfl, rfl⟩, rfl⟩ := g
      obtain ⟨y', zs, h1, h2, rfl⟩ := hv
      exact ⟨y', zs, absS_sound R m hx (fun h => ht (by rw [h]; rfl)) h1, absL_sound R m hl (fun h => ht (by rw [h]; exact Bool.or_true _)) h2, rfl⟩
    · cases g
theorem absP_sound (R : Rel B e h w) {is : List Nat} {T : Bool} (m : Nat) : ∀ {vs us : List SV} {t : Bool} {ys : List Value}, absL is (hide is h) vs = some (us, true, t) → (t = true → T = true) → PR e vs ys → PR (envC e is (zC e w is T) m) us ys
  | [], us, t, ys, g, _, hv => by simp only [absL, Option.some.injEq, Prod.mk.injEq] at g; obtain ⟨rfl, _⟩ := g; exact hv
  | x :: xs, us, t, ys, g, ht, hv => by
    simp only [absL] at g
    split at g
    · rename_i y p a l q b hx hl
      simp only [Option.some.injEq, Prod.mk.injEq, andT_iff] at g
      obtain ⟨rfl, ⟨rfl, rfl⟩, rfl⟩ := g
      have ha : a = true → T = true := fun h => ht (by rw [h]; rfl)
      have hb : b = true → T = true := fun h => ht (by rw [h]; exact Bool.or_true _)
      by_cases hn : notInts x = true
      · obtain ⟨y', zs, h1, h2, rfl⟩ := (PR.cons hn).1 hv
        exact (PR.cons (abs_notInts hx hn)).2 ⟨y', zs, absS_sound R m hx ha h1, absP_sound R m hl hb h2, rfl⟩
      · cases x <;> simp [notInts] at hn
        simp only [absS, frzS, Option.some.injEq, Prod.mk.injEq] at hx
        obtain ⟨rfl, _⟩ := hx
        obtain ⟨zs, h2, rfl⟩ := hv
        exact ⟨zs, absP_sound R m hl hb h2, rfl⟩
    · cases g
end

/-- What the callee's numbers are to the caller. -/
def backN (is : List Nat) (j : Nat) (q : Nat) : Nat := match is[q]? with
  | some i => i
  | none => j + (q - is.length)

theorem mut_start (R : Rel B e h w) {is : List Nat} {l : List (List SV)} (hnd : is.Nodup) (hl : pickH h is = some l) (href : ∀ ps ∈ l, refsInL is ps = true) {t : Bool} (hnr : t = true → ∀ ps ∈ l, noRoL ps = true) :
    Rel ⟨w, envC e is (zC e w is t) (n0C e w t), is.length, []⟩ (envC e is (zC e w is t) (n0C e w t)) (l.map fun ps => .b (renL (fun b => is.idxOf b) ps)) w := by
  obtain ⟨hlen, hget⟩ := pickH_get hl
  have hr : ∀ q p, (envC e is (zC e w is t) (n0C e w t)).r q = some p → ∃ i, is[q]? = some i ∧ e.r i = some p := fun q p hq => Option.bind_eq_some_iff.1 hq
  have hen : e.n0 ≤ w.heap.size := by have := R.n0; have := R.n0le; have := R.size; omega
  exact {
    os := rfl, tape := rfl, output := rfl, size := Nat.le_refl _
    inj := fun i j p q hi hj hpq => by
      obtain ⟨a, h1, h2⟩ := hr i p hi
      obtain ⟨b, h3, h4⟩ := hr j q hj
      have := R.inj a b p q h2 h4 hpq
      subst this
      exact (List.getElem?_inj (List.getElem?_eq_some_iff.1 h1).1 hnd).1 (h1.trans h3.symm)
    dom := fun i p hi => by
      obtain ⟨a, h1, _⟩ := hr i p hi
      have := (List.getElem?_eq_some_iff.1 h1).1
      simpa [hlen] using this
    sep := fun i p hi => by
      obtain ⟨a, h1, h2⟩ := hr i p hi
      show zC e w is t p.n = none
      cases t with
      | false => exact R.sep a p h2
      | true => simp only [zC, lies_iff.2 ⟨a, p, List.mem_of_getElem? h1, h2, rfl⟩]
    zok := fun n c ty fr hx => by
      have hx' : zC e w is t n = some (c, ty, fr) := hx
      cases t with
      | false => exact R.zok n c ty fr hx'
      | true =>
        simp only [zC] at hx'
        split at hx'
        · cases hx'
        · exact allZ_heap hx'
    zfresh := fun _ _ hx => .inl hx, news := fun _ _ hi => .inl hi, keepr := fun _ _ hi => hi, keepz := fun _ _ hx => hx, n0 := rfl
    n0le := by show n0C e w t ≤ w.heap.size; cases t <;> simp [n0C, hen]
    blk := fun q ps hq => by
      rw [List.getElem?_map] at hq
      obtain ⟨ps0, h1, h2⟩ := Option.map_eq_some_iff.1 hq
      cases h2
      have hqi : q < is.length := by have := (List.getElem?_eq_some_iff.1 h1).1; omega
      obtain ⟨ps1, h3, h4⟩ := hget q _ (List.getElem?_eq_getElem hqi)
      rw [h1] at h3; cases h3
      have hre : (envC e is (zC e w is t) (n0C e w t)).r q = e.r is[q] := by
        show (is[q]?).bind e.r = _; rw [List.getElem?_eq_getElem hqi]; rfl
      have hmem := List.mem_of_getElem? h1
      rcases R.blk _ ps0 h4 with ⟨g1, g2⟩ | ⟨p, o, g1, g2, c, ty, rfl, g3, g4, g5⟩
      · exact .inl ⟨by rw [psize_renL]; exact g1, by rw [hre]; exact g2⟩
      · refine .inr ⟨p, _, by rw [hre]; exact g1, g2, c, ty, rfl, g3, by rw [psize_renL]; exact g4, ?_⟩
        rw [psize_renL]
        have up : ∀ b p, usesL b ps0 = true → e.r b = some p → (envC e is (zC e w is t) (n0C e w t)).r (is.idxOf b) = some p := fun b p hu hp => by
          show (is[is.idxOf b]?).bind e.r = some p
          rw [idx_get (by simpa using refsInL_uses (href ps0 hmem) hu)]; exact hp
        cases t with
        | false => exact PR.ren (e := e) (e' := envC e is (zC e w is false) (n0C e w false)) (fun _ _ h => h) (Nat.le_refl _) ps0 _ up g5
        | true => exact PR.renNo (e := e) (e' := envC e is (zC e w is true) (n0C e w true)) (hnr rfl ps0 hmem) up g5
    gap := fun q g hq => by
      rw [List.getElem?_map] at hq
      obtain ⟨_, _, h2⟩ := Option.map_eq_some_iff.1 hq
      cases h2
    yi := (fun i j n hi => by cases hi), yb := (fun i n hi => by cases hi)
    old := fun _ _ _ _ => rfl
    win := fun i p hi => by
      obtain ⟨a, h1, h2⟩ := hr i p hi
      obtain ⟨c, ty, h1, _⟩ := R.isCells h2
      exact ⟨_, _, h1, h1, c, c, ty, (0, 0), rfl, rfl, rfl, fun _ _ => rfl⟩
    kr := fun i p hi => by
      obtain ⟨a, h1, _⟩ := hr i p hi
      exact (List.getElem?_eq_some_iff.1 h1).1
    kle := by simp [hlen]
    mks := fun r hr => by cases hr
    mnd := List.nodup_nil }

theorem backN_lt {is : List Nat} {j q i : Nat} (h : is[q]? = some i) : backN is j q = i := by unfold backN; rw [h]
theorem backN_ge {is : List Nat} {j q : Nat} (h : is.length ≤ q) : backN is j q = j + (q - is.length) := by unfold backN; rw [List.getElem?_eq_none h]

end
end Go.Sy
