/- This file turns computed calls into contracts for callers ('Entry', 'mk'). Conditions: the contracts that they use are sound. -/
import Derived.Test.YtailgcdcdhhpnaaSyM
namespace Go.Sy
open Go

/-- What a call of f comes to. -/
def FnTr (P : Program) (f : FuncId) (args : List SV) (h : List Blk) (v : SV) (h' : List Blk) : Prop :=
  ∀ (B : Base) (e : Env) (w : World) (args' : List Value), B.k ≤ h.length → LR e args args' → Rel B e h w →
    Calls P f ⟨args'⟩ w fun en w' => ∃ v', en = .returned v' ∧ ∃ e', e'.m = e.m ∧ VR e' v v' ∧ Rel B e' h' w'

section
variable {P : Program}

theorem FnTr.of_Tr {f : FuncId} {fn : Func} (hf : P.funcs[f]? = some fn) {c : Code} (hb : fn.body = some c) {args : List SV} {h : List Blk} {x : Exit} {s : St} {vs : List SV} (hx : x = .ret ∨ x = .normal)
    (ht : Tr P none h.length c ⟨slots0 fn.ntmps args, h, true⟩ x s) (hr : resS P s.t s.h fn.results.toList = some (vs, true)) : FnTr P f args h (oneOf vs) s.h :=
  fun _ _ _ _ _ hl R => calls_of_Tr hf hb hx ht hr (Nat.le_refl _) hl R

theorem FnTr.of_callS {Γ : Ctr} (hΓ : CtrSound P Γ) {f : FuncId} {fn : Func} (hf : P.funcs[f]? = some fn) {n : Nat} {args : List SV} {h h' : List Blk} {v : SV} (g : callS P Γ n fn args h = some (v, h', true)) : FnTr P f args h v h' := by
  unfold callS callW at g
  cases hb : fn.body with
  | none => rw [hb] at g; cases g
  | some c =>
    rw [hb] at g
    simp only at g
    split at g
    all_goals (try (cases g; done))
    all_goals
      rename_i s hs
      obtain ⟨⟨vs, p⟩, hr, q⟩ := Option.map_eq_some_iff.1 g
      simp only [Prod.mk.injEq, andT_iff] at q
      obtain ⟨rfl, rfl, hob, rfl⟩ := q
      exact FnTr.of_Tr hf hb (by simp) (Tr.exec hΓ hs hob) hr

/-! ### Blocks chosen -/
mutual
/-- All that the value leads to is among these. -/
def refsIn (l : List Nat) : SV → Bool
  | .ptr b _ _ => l.contains b
  | .sl b _ _ _ _ _ _ _ => l.contains b
  | .agg ps => refsInL l ps
  | .tup vs => refsInL l vs
  | .iface _ x => refsIn l x
  | .fn _ a b => refsInL l a && refsInL l b
  | _ => true
def refsInL (l : List Nat) : List SV → Bool
  | [] => true
  | x :: xs => refsIn l x && refsInL l xs
end
mutual
theorem refsIn_uses {l : List Nat} : ∀ {v : SV} {j : Nat}, refsIn l v = true → uses j v = true → j ∈ l
  | .ptr b _ _, j, h, g => by simp [refsIn] at h; simp [uses] at g; subst g; exact h
  | .sl b _ _ _ _ _ _ _, j, h, g => by simp [refsIn] at h; simp [uses] at g; subst g; exact h
  | .agg ps, j, h, g => refsInL_uses (by simpa [refsIn] using h) (by simpa [uses] using g)
  | .tup ps, j, h, g => refsInL_uses (by simpa [refsIn] using h) (by simpa [uses] using g)
  | .iface _ x, j, h, g => refsIn_uses (v := x) (by simpa [refsIn] using h) (by simpa [uses] using g)
  | .fn _ a b, j, h, g => by
    simp only [refsIn, Bool.and_eq_true] at h
    simp only [uses, Bool.or_eq_true] at g
    rcases g with g | g
    · exact refsInL_uses h.1 g
    · exact refsInL_uses h.2 g
  | .bool _, _, _, g => by simp [uses] at g
  | .int _ _, _, _, g => by simp [uses] at g
  | .str _, _, _, g => by simp [uses] at g
  | .nl _, _, _, g => by simp [uses] at g
  | .ints _ _ _, _, _, g => by simp [uses] at g
  | .ro _ _ _, _, _, g => by simp [uses] at g
  | .rob _ _, _, _, g => by simp [uses] at g
  | .rol _ _ _ _, _, _, g => by simp [uses] at g
  | .rpi _ _ _, _, _, g => by simp [uses] at g
  | .rpb _ _ _, _, _, g => by simp [uses] at g
  | .rpl _ _ _ _ _ _ _, _, _, g => by simp [uses] at g
theorem refsInL_uses {l : List Nat} : ∀ {vs : List SV} {j : Nat}, refsInL l vs = true → usesL j vs = true → j ∈ l
  | [], _, _, g => by simp [usesL] at g
  | x :: xs, j, h, g => by
    simp only [refsInL, Bool.and_eq_true] at h
    simp only [usesL, Bool.or_eq_true] at g
    rcases g with g | g
    · exact refsIn_uses h.1 g
    · exact refsInL_uses h.2 g
end
/-- The parts of the blocks with these numbers. -/
def pickH (h : List Blk) : List Nat → Option (List (List SV))
  | [] => some []
  | i :: is => match h[i]?, pickH h is with
    | some (.b ps), some l => some (ps :: l)
    | _, _ => none
theorem pickH_get {h : List Blk} : ∀ {is : List Nat} {l : List (List SV)}, pickH h is = some l → l.length = is.length ∧ ∀ (j i : Nat), is[j]? = some i → ∃ ps, l[j]? = some ps ∧ h[i]? = some (.b ps)
  | [], l, g => by simp only [pickH, Option.some.injEq] at g; subst g; exact ⟨rfl, fun j i hj => by simp at hj⟩
  | i :: is, l, g => by
    simp only [pickH] at g
    split at g
    · rename_i ps l' h1 h2
      cases g
      obtain ⟨h3, h4⟩ := pickH_get h2
      refine ⟨by simp [h3], fun j a hj => ?_⟩
      cases j with
      | zero => simp at hj; subst hj; exact ⟨ps, rfl, h1⟩
      | succ j => simp at hj; obtain ⟨qs, h5, h6⟩ := h4 j a hj; exact ⟨qs, by simpa using h5, h6⟩
    · cases g

/-- Of the blocks behind a call only those with the numbers 'is' are kept, numbered anew. -/
def selS (is : List Nat) (v : SV) (h : List Blk) : Option (SV × List Blk) := match pickH h is with
  | some l => if refsIn is v && l.all (refsInL is) && decide is.Nodup then some (ren (fun b => is.idxOf b) v, l.map fun ps => .b (renL (fun b => is.idxOf b) ps)) else none
  | none => none

theorem psize_renL (s : Nat → Nat) : ∀ ps : List SV, psize (renL s ps) = psize ps
  | [] => rfl
  | x :: xs => by
    simp only [renL, psize, psize_renL s xs]
    cases x <;> rfl

theorem FnTr.sel {f : FuncId} {args : List SV} {v u : SV} {h1 new : List Blk} (is : List Nat) (g : FnTr P f args [] v h1) (hs : selS is v h1 = some (u, new)) : FnTr P f args [] u new := by
  unfold selS at hs
  split at hs
  · rename_i l hl
    split at hs
    · rename_i hc
      simp only [Bool.and_eq_true, decide_eq_true_eq, List.all_eq_true] at hc
      obtain ⟨⟨hv, hall⟩, hnd⟩ := hc
      cases hs
      obtain ⟨hlen, hget⟩ := pickH_get hl
      intro B e w args' hB hl' R
      refine (g B e w args' hB hl' R).mono ?_
      rintro en w' ⟨v', rfl, e', hm, hvr, S⟩
      have hr0 : ∀ i p, B.e.r i ≠ some p := fun i p hi => by have := S.kr i p hi; simp at hB; omega
      let e2 : Env := { e' with r := fun j => (is[j]?).bind e'.r }
      have hidx : ∀ i, i ∈ is → is[is.idxOf i]? = some i := fun i hi => by
        rw [List.getElem?_eq_getElem (List.idxOf_lt_length_of_mem hi)]
        simp
      have map : ∀ i p, i ∈ is → e'.r i = some p → e2.r (is.idxOf i) = some p := fun i p hi hp => by
        show (is[is.idxOf i]?).bind e'.r = some p
        rw [hidx i hi]; exact hp
      have hr2 : ∀ j p, e2.r j = some p → ∃ i, is[j]? = some i ∧ e'.r i = some p := fun j p hj => Option.bind_eq_some_iff.1 hj
      refine ⟨v', rfl, e2, hm, VR.ren (e := e') (e' := e2) (fun _ _ h => h) (Nat.le_refl _) v v' (fun j p hu hp => map j p (refsIn_uses hv hu) hp) hvr, ?_⟩
      exact {
        os := S.os, tape := S.tape, output := S.output, size := S.size
        inj := fun i j p q hi hj hpq => by
          obtain ⟨a, h1, h2⟩ := hr2 i p hi
          obtain ⟨b, h3, h4⟩ := hr2 j q hj
          have := S.inj a b p q h2 h4 hpq
          subst this
          exact (List.getElem?_inj (List.getElem?_eq_some_iff.1 h1).1 hnd).1 (h1.trans h3.symm)
        dom := fun i p hi => by
          obtain ⟨a, h1, _⟩ := hr2 i p hi
          have := (List.getElem?_eq_some_iff.1 h1).1
          simpa [hlen] using this
        sep := fun i p hi => by obtain ⟨a, _, h2⟩ := hr2 i p hi; exact S.sep a p h2
        zok := S.zok, zfresh := S.zfresh
        news := fun i p hi => by
          obtain ⟨a, _, h2⟩ := hr2 i p hi
          rcases S.news a p h2 with h | h
          · exact absurd h (hr0 a p)
          · exact .inr h
        keepr := fun i p hi => absurd hi (hr0 i p)
        keepz := S.keepz, n0 := S.n0, n0le := S.n0le
        blk := fun j ps hj => by
          simp only [List.getElem?_map] at hj
          cases hq : l[j]? with
          | none => simp [hq] at hj
          | some qs =>
            simp only [hq, Option.map_some, Option.some.injEq, Blk.b.injEq] at hj
            subst hj
            have hjl : j < is.length := by have := (List.getElem?_eq_some_iff.1 hq).1; omega
            obtain ⟨qs', h1, h2⟩ := hget j _ (List.getElem?_eq_getElem hjl)
            rw [hq] at h1; cases h1
            have hre : e2.r j = e'.r is[j] := by show (is[j]?).bind e'.r = _; rw [List.getElem?_eq_getElem hjl]; rfl
            rcases S.blk _ qs h2 with ⟨g1, g2⟩ | ⟨p, o, g1, g2, c, t, rfl, g3, g4, g5⟩
            · exact .inl ⟨by rw [psize_renL]; exact g1, by rw [hre]; exact g2⟩
            · refine .inr ⟨p, _, by rw [hre]; exact g1, g2, c, t, rfl, g3, by rw [psize_renL]; exact g4, ?_⟩
              rw [psize_renL]
              exact PR.ren (e := e') (e' := e2) (fun _ _ h => h) (Nat.le_refl _) qs _ (fun b p hu hp => map b p (refsInL_uses (hall qs (List.mem_of_getElem? hq)) hu) hp) g5
        gap := fun j g hj => by
          simp only [List.getElem?_map] at hj
          cases hq : l[j]? with
          | none => simp [hq] at hj
          | some qs => simp [hq] at hj
        yi := S.yi, yb := S.yb, old := S.old
        win := fun i p hi => absurd hi (hr0 i p)
        kr := fun i p hi => absurd hi (hr0 i p)
        kle := by simp at hB; omega
        mks := S.mks, mnd := S.mnd }
    · cases hs
  · cases hs

/-! ### What is handed to a function that looks at no tracked block -/
/-- All cells of a world. -/
def allZ (w : World) : Nat → Option (Array Value × TypeId × (Nat × Nat)) := fun n => match w.heap[n]? with
  | some (.cells c t fr) => some (c, t, fr)
  | _ => none

/-- Slices of bytes, side by side. -/
def robOf (h : List Blk) : List SV → Option (List (List Int) × Bool)
  | [] => some ([], true)
  | p :: ps => match p, robOf h ps with
    | .ro _ .u8 xs, some (l, b) => some (xs :: l, b)
    | .sl c o i 1 len cap ex wh, some (l, b) => match contS h (.sl c o i 1 len cap ex wh) with
      | some ([.ints .u8 n xs], q) => some (xs :: l, andT (andT b q) (decide (xs.length = n)))
      | _ => none
    | .nl (.slice none 0 0), some (l, b) => some ([] :: l, b)
    | _, _ => none

mutual
/-- A value with its tracked slices read; what must hold; whether there were any. -/
def frzS (h : List Blk) : SV → Option (SV × Bool × Bool)
  | .bool b => some (.bool b, true, false)
  | .int k n => some (.int k n, true, false)
  | .str s => some (.str s, true, false)
  | .nl v => some (.nl v, true, false)
  | .ints k n xs => some (.ints k n xs, true, false)
  | .ro _ k xs => some (.ro false k xs, true, false)
  | .rob _ xss => some (.rob false xss, true, false)
  | .sl b o i 1 len cap ex wh => match contS h (.sl b o i 1 len cap ex wh) with
    | some ([.ints k n xs], p) => some (.ro false k xs, andT p (decide (xs.length = n)), true)
    | some (ps, p) => (robOf h ps).map fun q => (.rob false q.1, andT p q.2, true)
    | none => none
  | .agg ps => match frzL h ps with
    | some (l, p, t) => some (.agg l, p, t)
    | none => none
  | .iface t x => match frzS h x with
    | some (y, p, b) => some (.iface t y, p, b)
    | none => none
  | _ => none
def frzL (h : List Blk) : List SV → Option (List SV × Bool × Bool)
  | [] => some ([], true, false)
  | x :: xs => match frzS h x, frzL h xs with
    | some (y, p, a), some (l, q, b) => some (y :: l, andT p q, a || b)
    | _, _ => none
end

theorem contS_le {h h2 : List Blk} (hle : BLe h h2) {v : SV} {q : List SV × Bool} (g : contS h v = some q) : contS h2 v = some q := by
  cases v
  case sl b o i z len cap ex wh =>
   simp only [contS] at g ⊢
   cases hb : h[b]? with
   | none => rw [hb] at g; cases g
   | some bl =>
    cases bl with
    | g _ => rw [hb] at g; cases g
    | b ps => rw [hb] at g; rw [hle b ps hb]; exact g
  all_goals first | exact g | (unfold contS at g ⊢; split at g <;> first | (cases g; done) | (rename_i q1; cases q1; done) | (rename_i q1; cases q1; exact g))
theorem robOf_le {h h2 : List Blk} (hle : BLe h h2) : ∀ {ps : List SV} {q : List (List Int) × Bool}, robOf h ps = some q → robOf h2 ps = some q
  | [], q, g => g
  | p :: ps, q, g => by
    unfold robOf at g ⊢
    split at g
    · rename_i f xs l b hr; rw [robOf_le hle hr]; exact g
    · rename_i c o i len cap ex wh l b hr
      rw [robOf_le hle hr]
      split at g
      · rename_i n xs q' hc; simp only [contS_le hle hc]; exact g
      · cases g
    · rename_i l b hr; rw [robOf_le hle hr]; exact g
    · cases g
mutual
theorem frzS_le {h h2 : List Blk} (hle : BLe h h2) : ∀ {v : SV} {q : SV × Bool × Bool}, frzS h v = some q → frzS h2 v = some q
  | .bool _, q, g => by simp only [frzS] at g ⊢; exact g
  | .int _ _, q, g => by simp only [frzS] at g ⊢; exact g
  | .str _, q, g => by simp only [frzS] at g ⊢; exact g
  | .nl _, q, g => by simp only [frzS] at g ⊢; exact g
  | .ints _ _ _, q, g => by simp only [frzS] at g ⊢; exact g
  | .ro _ _ _, q, g => by simp only [frzS] at g ⊢; exact g
  | .rob _ _, q, g => by simp only [frzS] at g ⊢; exact g
  | .sl b o i z len cap ex wh, q, g => by
    by_cases hz : z = 1
    · subst hz
      simp only [frzS] at g ⊢
      split at g
      · rename_i k n xs p hc; simp only [contS_le hle hc]; exact g
      · rename_i ps p hno hc
        rw [contS_le hle hc]
        obtain ⟨x, hx, hq⟩ := Option.map_eq_some_iff.1 g
        split
        · rename_i k n xs p' hc'
          cases hc'
          exact absurd rfl (hno _ _ _)
        · rename_i hc'
          cases hc'
          rw [robOf_le hle hx]
          exact congrArg some hq
        · rename_i hc'; cases hc'
      · cases g
    · exfalso
      unfold frzS at g
      split at g <;> first | (rename_i h1; cases h1; done) | skip
      all_goals first | (rename_i h1; cases h1; exact hz rfl) | (cases g)
  | .agg ps, q, g => by
    simp only [frzS] at g ⊢
    split at g
    · rename_i l p t hl; rw [frzL_le hle hl]; exact g
    · cases g
  | .iface _ x, q, g => by
    simp only [frzS] at g ⊢
    split at g
    · rename_i y p t hl; rw [frzS_le hle hl]; exact g
    · cases g
  | .ptr _ _ _, q, g => by simp [frzS] at g
  | .rol _ _ _ _, q, g => by simp [frzS] at g
  | .rpi _ _ _, q, g => by simp [frzS] at g
  | .rpb _ _ _, q, g => by simp [frzS] at g
  | .rpl _ _ _ _ _ _ _, q, g => by simp [frzS] at g
  | .tup _, q, g => by simp [frzS] at g
  | .fn _ _ _, q, g => by simp [frzS] at g
theorem frzL_le {h h2 : List Blk} (hle : BLe h h2) : ∀ {v : List SV} {q : List SV × Bool × Bool}, frzL h v = some q → frzL h2 v = some q
  | [], q, g => by simp only [frzL] at g ⊢; exact g
  | x :: xs, q, g => by
    simp only [frzL] at g ⊢
    split at g
    · rename_i y p a l q' b hx hl
      rw [frzS_le hle hx, frzL_le hle hl]; exact g
    · cases g
end

theorem allZ_eq {w : World} {n : Nat} {c : Array Value} {t : TypeId} {fr : Nat × Nat} (h : w.heap[n]? = some (.cells c t fr)) : allZ w n = some (c, t, fr) := by unfold allZ; rw [h]
theorem allZ_heap {w : World} {n : Nat} {c : Array Value} {t : TypeId} {fr : Nat × Nat} (h : allZ w n = some (c, t, fr)) : w.heap[n]? = some (.cells c t fr) := by
  unfold allZ at h
  split at h
  · rename_i c' t' fr' hq; cases h; exact hq
  · cases h

/-- An environment of no tracked block. -/
def env0 (z : Nat → Option (Array Value × TypeId × (Nat × Nat))) (n : Nat) : Env := ⟨fun _ => none, z, n, [], fun _ => none⟩

section
variable {e : Env} {B : Base} {h : List Blk} {w : World}

theorem RoI.any {e' : Env} (hz : ∀ n o, e.z n = some o → e'.z n = some o) {f : Bool} {k : IntKind} {xs : List Int} {v : Value} (g : RoI e f k xs v) : RoI e' false k xs v := by
  rcases g with h | ⟨n, o, cap, c, t, fr, h1, h2, h3, h4, h5, h6⟩
  · exact .inl h
  · exact .inr ⟨n, o, cap, c, t, fr, h1, hz _ _ h2, (fun q => by cases q), h4, h5, h6⟩

theorem contS_some {b o i len cap : Nat} {ex wh : Bool} {q : List SV × Bool} (hc : contS h (.sl b o i 1 len cap ex wh) = some q) (h0 : len ≠ 0) : h[b]? ≠ some (.b []) := fun hb => by
  have key : ∀ a n : Nat, n ≠ 0 → subP [] a n = none := fun a n hn => by
    cases a with
    | zero => cases n with
      | zero => exact absurd rfl hn
      | succ n => rfl
    | succ a => rfl
  simp only [contS, hb] at hc
  cases o with
  | succ o => simp [dropP] at hc
  | zero =>
    simp only [dropP] at hc
    rw [key _ _ (by simpa using h0)] at hc
    cases hc
theorem sl_RoI (R : Rel B e h w) {zz : Nat → Option (Array Value × TypeId × (Nat × Nat))} (hZ : ∀ (i : Nat) (p : Pl) (c : Array Value) (t : TypeId), h[i]? ≠ some (.b []) → e.r i = some p → w.heap[p.n]? = some (.cells c t (0, 0)) → zz p.n = some (c, t, (0, 0))) {b o i len cap n : Nat} {ex wh : Bool} {k : IntKind} {xs : List Int} {v' : Value} (hc : contS h (.sl b o i 1 len cap ex wh) = some ([.ints k n xs], true)) (hn : xs.length = n) (hv : VR e (.sl b o i 1 len cap ex wh) v') (m : Nat) :
    RoI (env0 zz m) false k xs v' := by
  obtain ⟨ys, hys, hyl, _, hf⟩ := contS_sound (P := default) (z := 1) R hc (n := len) rfl hv rfl
  obtain ⟨us, hus, hyeq⟩ := hys
  rw [PR] at hus; subst hus
  rw [List.append_nil, lst_eq hn] at hyeq
  rw [Nat.mul_one] at hyl
  have hxl : xs.length = len := by rw [← hyl, hyeq, intsV_length]
  have nil : len = 0 → xs = [] := fun h0 => List.length_eq_zero_iff.1 (by omega)
  rcases hv with ⟨h0, _, a, rfl⟩ | ⟨p, cap', a, hp, rfl, ha, _, _, hlc, hft⟩
  · exact .inl ⟨nil h0, a, 0, rfl, fun _ => rfl⟩
  · by_cases h0 : len = 0
    · exact .inl ⟨nil h0, _, cap', by rw [h0], fun q => by cases q⟩
    · have hc0 : cap' ≠ 0 := by omega
      obtain ⟨c, t, hcell, hsz⟩ := R.isCells hp
      have ha2 := ha hc0
      have hft2 := hft hc0
      have hr := hf len (Nat.le_refl _)
      rw [run_first hcell (by omega), Nat.mul_one, List.take_of_length_le (l := ys) (by omega)] at hr
      have hcells : (c.toList.drop a).take len = ys := congrArg Array.toList (Result.ok.inj hr).1
      exact .inr ⟨p.n, a, cap', c, t, (0, 0), by rw [hxl], hZ _ p c t (contS_some hc h0) hp hcell, (fun q => by cases q), by rw [← hyeq, ← hcells, hxl], by omega, by omega⟩

theorem robOf_sound (R : Rel B e h w) {zz : Nat → Option (Array Value × TypeId × (Nat × Nat))} (hZ : ∀ (i : Nat) (p : Pl) (c : Array Value) (t : TypeId), h[i]? ≠ some (.b []) → e.r i = some p → w.heap[p.n]? = some (.cells c t (0, 0)) → zz p.n = some (c, t, (0, 0))) (hzz : ∀ n x, e.z n = some x → zz n = some x) (m : Nat) : ∀ {ps : List SV} {l : List (List Int)} {ys : List Value}, robOf h ps = some (l, true) → PR e ps ys →
    ys.length = l.length ∧ ∀ (i : Nat) (xs : List Int), l[i]? = some xs → ∃ y, ys[i]? = some y ∧ RoI (env0 zz m) false .u8 xs y
  | [], l, ys, g, hp => by
    simp only [robOf, Option.some.injEq, Prod.mk.injEq, and_true] at g
    subst g
    rw [PR] at hp; subst hp
    exact ⟨rfl, fun i xs hi => by simp at hi⟩
  | p :: ps, l, ys, g, hp => by
    have fin : ∀ {xs : List Int} {l' : List (List Int)}, notInts p = true → robOf h ps = some (l', true) → l = xs :: l' → (∀ y, VR e p y → RoI (env0 zz m) false .u8 xs y) →
        ys.length = l.length ∧ ∀ (i : Nat) (xs : List Int), l[i]? = some xs → ∃ y, ys[i]? = some y ∧ RoI (env0 zz m) false .u8 xs y := fun {xs l'} hn hr hl hy => by
      subst hl
      obtain ⟨y, zs, h1, h2, rfl⟩ := (PR.cons hn).1 hp
      obtain ⟨h3, h4⟩ := robOf_sound R hZ hzz m hr h2
      refine ⟨by simp [h3], fun i us hi => ?_⟩
      cases i with
      | zero => simp at hi; subst hi; exact ⟨y, rfl, hy y h1⟩
      | succ i => simp at hi; obtain ⟨u, hu, hv⟩ := h4 i us hi; exact ⟨u, by simpa using hu, hv⟩
    unfold robOf at g
    split at g
    · rename_i f xs l' b hr
      simp only [Option.some.injEq, Prod.mk.injEq] at g
      obtain ⟨rfl, rfl⟩ := g
      exact fin rfl hr rfl fun y hy => RoI.any (e := e) hzz hy
    · rename_i c o i len cap ex wh l' b hr
      split at g
      · rename_i n xs q hc
        simp only [Option.some.injEq, Prod.mk.injEq, andT_iff, decide_eq_true_eq] at g
        obtain ⟨rfl, ⟨rfl, rfl⟩, hn⟩ := g
        exact fin rfl hr rfl fun y hy => sl_RoI R hZ hc hn hy m
      · cases g
    · rename_i l' b hr
      simp only [Option.some.injEq, Prod.mk.injEq] at g
      obtain ⟨rfl, rfl⟩ := g
      exact fin rfl hr rfl fun y hy => by rw [VR] at hy; subst hy; exact .inl ⟨rfl, none, 0, rfl, fun _ => rfl⟩
    · cases g

theorem frz_sl (R : Rel B e h w) {zz : Nat → Option (Array Value × TypeId × (Nat × Nat))} (hZ : ∀ (i : Nat) (p : Pl) (c : Array Value) (t : TypeId), h[i]? ≠ some (.b []) → e.r i = some p → w.heap[p.n]? = some (.cells c t (0, 0)) → zz p.n = some (c, t, (0, 0))) (hzz : ∀ n x, e.z n = some x → zz n = some x) {b o i len cap : Nat} {ex wh : Bool} {u : SV} {t : Bool} {v' : Value} (g : frzS h (.sl b o i 1 len cap ex wh) = some (u, true, t)) (hv : VR e (.sl b o i 1 len cap ex wh) v') (m : Nat) : t = true ∧ VR (env0 zz m) u v' := by
  simp only [frzS] at g
  split at g
  · rename_i k n xs p hc
    simp only [Option.some.injEq, Prod.mk.injEq, andT_iff, decide_eq_true_eq] at g
    obtain ⟨rfl, ⟨rfl, hn⟩, rfl⟩ := g
    exact ⟨rfl, sl_RoI R hZ hc hn hv m⟩
  · rename_i ps p _ hc
    obtain ⟨⟨l, q⟩, hr, h2⟩ := Option.map_eq_some_iff.1 g
    simp only [Prod.mk.injEq, andT_iff] at h2
    obtain ⟨rfl, ⟨rfl, rfl⟩, rfl⟩ := h2
    refine ⟨rfl, ?_⟩
    obtain ⟨ys, hys, hyl, _, hf⟩ := contS_sound (P := default) (z := 1) R hc (n := len) rfl hv rfl
    rw [Nat.mul_one] at hyl
    obtain ⟨h3, h4⟩ := robOf_sound R hZ hzz m hr hys
    have hll : l.length = len := by omega
    have nil : len = 0 → l = [] := fun h0 => List.length_eq_zero_iff.1 (by omega)
    show RoB _ _ _ _
    rcases hv with ⟨h0, _, a, rfl⟩ | ⟨p, cap', a, hp, rfl, ha, _, _, hlc, hft⟩
    · exact .inl ⟨nil h0, a, 0, rfl, fun _ => rfl⟩
    · by_cases h0 : len = 0
      · exact .inl ⟨nil h0, _, cap', by rw [h0], fun q => by cases q⟩
      · have hc0 : cap' ≠ 0 := by omega
        obtain ⟨c, t, hcell, hsz⟩ := R.isCells hp
        have ha2 := ha hc0
        have hft2 := hft hc0
        have hr := hf len (Nat.le_refl _)
        rw [run_first hcell (by omega), Nat.mul_one, List.take_of_length_le (l := ys) (by omega)] at hr
        have hcells : (c.toList.drop a).take len = ys := congrArg Array.toList (Result.ok.inj hr).1
        refine .inr ⟨p.n, a, cap', c, t, (0, 0), by rw [hll], hZ _ p c t (contS_some hc h0) hp hcell, (fun q => by cases q), fun i xs hi => ?_, by omega, by omega⟩
        obtain ⟨y, hy, hro⟩ := h4 i xs hi
        rw [← hcells] at hy
        have hil : i < len := by rw [← hll]; exact (List.getElem?_eq_some_iff.1 hi).1
        rw [List.getElem?_take_of_lt hil, List.getElem?_drop] at hy
        exact ⟨y, hy, hro⟩
  · cases g

theorem frz_notInts {v u : SV} {p t : Bool} (g : frzS h v = some (u, p, t)) (hn : notInts v = true) : notInts u = true := by
  unfold frzS at g
  split at g
  case h_5 => cases hn
  case h_8 =>
    split at g
    · cases g; rfl
    · obtain ⟨q, _, h2⟩ := Option.map_eq_some_iff.1 g; cases h2; rfl
    · cases g
  all_goals first
    | (cases g; done)
    | (cases g; rfl)
    | (split at g <;> first | (cases g; rfl) | (cases g; done))

mutual
theorem frzS_sound (R : Rel B e h w) {zz : Nat → Option (Array Value × TypeId × (Nat × Nat))} (hzz : ∀ n x, e.z n = some x → zz n = some x) {T : Bool} (hT : T = true → ∀ (i : Nat) (p : Pl) (c : Array Value) (t : TypeId), h[i]? ≠ some (.b []) → e.r i = some p → w.heap[p.n]? = some (.cells c t (0, 0)) → zz p.n = some (c, t, (0, 0))) (m : Nat) : ∀ {v u : SV} {t : Bool} {v' : Value}, frzS h v = some (u, true, t) → (t = true → T = true) → VR e v v' → VR (env0 zz m) u v'
  | .bool _, u, t, v', g, _, hv => by simp only [frzS, Option.some.injEq, Prod.mk.injEq] at g; obtain ⟨rfl, _⟩ := g; exact hv
  | .int _ _, u, t, v', g, _, hv => by simp only [frzS, Option.some.injEq, Prod.mk.injEq] at g; obtain ⟨rfl, _⟩ := g; exact hv
  | .str _, u, t, v', g, _, hv => by simp only [frzS, Option.some.injEq, Prod.mk.injEq] at g; obtain ⟨rfl, _⟩ := g; exact hv
  | .nl _, u, t, v', g, _, hv => by simp only [frzS, Option.some.injEq, Prod.mk.injEq] at g; obtain ⟨rfl, _⟩ := g; exact hv
  | .ints _ _ _, u, t, v', _, _, hv => hv.elim
  | .ptr _ _ _, u, t, v', g, _, _ => by simp [frzS] at g
  | .sl b o i z len cap ex wh, u, t, v', g, ht, hv => by
    by_cases hz : z = 1
    · subst hz
      have h1 : t = true := by
        simp only [frzS] at g
        split at g
        · simp only [Option.some.injEq, Prod.mk.injEq] at g; exact g.2.2.symm
        · obtain ⟨q, _, h2⟩ := Option.map_eq_some_iff.1 g; simp only [Prod.mk.injEq] at h2; exact h2.2.2.symm
        · cases g
      exact (frz_sl R (hT (ht h1)) hzz g hv m).2
    · exfalso
      unfold frzS at g
      split at g <;> first | (rename_i h1; cases h1; done) | skip
      all_goals first | (rename_i h1; cases h1; exact hz rfl) | (cases g)
  | .ro f k xs, u, t, v', g, _, hv => by
    simp only [frzS, Option.some.injEq, Prod.mk.injEq] at g
    obtain ⟨rfl, _⟩ := g
    exact RoI.any (e := e) hzz hv
  | .rob f xss, u, t, v', g, _, hv => by
    simp only [frzS, Option.some.injEq, Prod.mk.injEq] at g
    obtain ⟨rfl, _⟩ := g
    rcases hv with h | ⟨n, o, cap, c, t, fr, h1, h2, h3, h4, h5, h6⟩
    · exact .inl h
    · exact .inr ⟨n, o, cap, c, t, fr, h1, hzz _ _ h2, (fun q => by cases q), (fun i xs hi => (h4 i xs hi).imp fun y ⟨a, b⟩ => ⟨a, RoI.any (e := e) hzz b⟩), h5, h6⟩
  | .rol _ _ _ _, u, t, v', g, _, _ => by simp [frzS] at g
  | .rpi _ _ _, u, t, v', g, _, _ => by simp [frzS] at g
  | .rpb _ _ _, u, t, v', g, _, _ => by simp [frzS] at g
  | .rpl _ _ _ _ _ _ _, u, t, v', g, _, _ => by simp [frzS] at g
  | .agg ps, u, t, v', g, ht, hv => by
    simp only [frzS] at g
    split at g
    · rename_i l p t' hl
      simp only [Option.some.injEq, Prod.mk.injEq] at g
      obtain ⟨rfl, rfl, rfl⟩ := g
      obtain ⟨ys, hys, rfl⟩ := hv
      exact ⟨ys, frzP_sound R hzz hT m hl ht hys, rfl⟩
    · cases g
  | .tup _, u, t, v', g, _, _ => by simp [frzS] at g
  | .iface ty x, u, t, v', g, ht, hv => by
    simp only [frzS] at g
    split at g
    · rename_i y p t' hl
      simp only [Option.some.injEq, Prod.mk.injEq] at g
      obtain ⟨rfl, rfl, rfl⟩ := g
      obtain ⟨y', hy, rfl⟩ := hv
      exact ⟨y', frzS_sound R hzz hT m hl ht hy, rfl⟩
    · cases g
  | .fn _ _ _, u, t, v', g, _, _ => by simp [frzS] at g
theorem frzP_sound (R : Rel B e h w) {zz : Nat → Option (Array Value × TypeId × (Nat × Nat))} (hzz : ∀ n x, e.z n = some x → zz n = some x) {T : Bool} (hT : T = true → ∀ (i : Nat) (p : Pl) (c : Array Value) (t : TypeId), h[i]? ≠ some (.b []) → e.r i = some p → w.heap[p.n]? = some (.cells c t (0, 0)) → zz p.n = some (c, t, (0, 0))) (m : Nat) : ∀ {vs us : List SV} {t : Bool} {ys : List Value}, frzL h vs = some (us, true, t) → (t = true → T = true) → PR e vs ys → PR (env0 zz m) us ys
  | [], us, t, ys, g, _, hv => by simp only [frzL, Option.some.injEq, Prod.mk.injEq] at g; obtain ⟨rfl, _⟩ := g; exact hv
  | x :: xs, us, t, ys, g, ht, hv => by
    simp only [frzL] at g
    split at g
    · rename_i y p a l q b hx hl
      simp only [Option.some.injEq, Prod.mk.injEq, andT_iff] at g
      obtain ⟨rfl, ⟨rfl, rfl⟩, rfl⟩ := g
      have ha : a = true → T = true := fun h => ht (by rw [h]; rfl)
      have hb : b = true → T = true := fun h => ht (by rw [h]; exact Bool.or_true _)
      by_cases hn : notInts x = true
      · obtain ⟨y', zs, h1, h2, rfl⟩ := (PR.cons hn).1 hv
        exact (PR.cons (frz_notInts hx hn)).2 ⟨y', zs, frzS_sound R hzz hT m hx ha h1, frzP_sound R hzz hT m hl hb h2, rfl⟩
      · cases x <;> simp [notInts] at hn
        simp only [frzS, Option.some.injEq, Prod.mk.injEq] at hx
        obtain ⟨rfl, _⟩ := hx
        obtain ⟨zs, h2, rfl⟩ := hv
        exact ⟨zs, frzP_sound R hzz hT m hl hb h2, rfl⟩
    · cases g
end
theorem frzL_sound (R : Rel B e h w) {zz : Nat → Option (Array Value × TypeId × (Nat × Nat))} (hzz : ∀ n x, e.z n = some x → zz n = some x) {T : Bool} (hT : T = true → ∀ (i : Nat) (p : Pl) (c : Array Value) (t : TypeId), h[i]? ≠ some (.b []) → e.r i = some p → w.heap[p.n]? = some (.cells c t (0, 0)) → zz p.n = some (c, t, (0, 0))) (m : Nat) : ∀ {vs us : List SV} {t : Bool} {ys : List Value}, frzL h vs = some (us, true, t) → (t = true → T = true) → LR e vs ys → LR (env0 zz m) us ys
  | [], us, t, ys, g, _, hv => by simp only [frzL, Option.some.injEq, Prod.mk.injEq] at g; obtain ⟨rfl, _⟩ := g; exact hv
  | x :: xs, us, t, ys, g, ht, hv => by
    simp only [frzL] at g
    split at g
    · rename_i y p a l q b hx hl
      simp only [Option.some.injEq, Prod.mk.injEq, andT_iff] at g
      obtain ⟨rfl, ⟨rfl, rfl⟩, rfl⟩ := g
      obtain ⟨y', zs, h1, h2, rfl⟩ := hv
      exact ⟨y', zs, frzS_sound R hzz hT m hx (fun h => ht (by rw [h]; rfl)) h1, frzL_sound R hzz hT m hl (fun h => ht (by rw [h]; exact Bool.or_true _)) h2, rfl⟩
    · cases g
end
end
end Go.Sy
