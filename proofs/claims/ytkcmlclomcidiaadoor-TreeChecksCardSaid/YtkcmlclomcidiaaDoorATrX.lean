/- This file proves that a new block of structs may be given as a slice that nobody writes. No conditions. -/
import Derived.Test.YtkcmlclomcidiaaDoorATrV
set_option linter.all false
namespace Go.Sy
open Go
section
variable {P : Program}
theorem take_mid {α : Type} (L : List α) {n z i : Nat} (hi : i < n) : ((L.take (n * z)).drop (i * z)).take z = (L.drop (i * z)).take z := by
  have : i * z + z ≤ n * z := by
    have := Nat.mul_le_mul_right z (show i + 1 ≤ n by omega)
    rw [Nat.add_mul, Nat.one_mul] at this
    exact this
  rw [List.drop_take, List.take_take, Nat.min_eq_left (by omega)]
theorem FnTr.frozenN {f : FuncId} {args : List SV} {v u : SV} {z n len cap : Nat} {ex : Bool} {g : Nat → List SV} (hlen : len ≤ n)
    (hu : ∀ (e e' : Env) (x : Value), (∀ m o, e.z m = some o → e'.z m = some o) → e'.n0 = e.n0 → (∀ y, VR e (.rsl 0 z len cap ex) y → VR e' (.rol true z len g) y) → VR e v x → VR e' u x) (k : FnTr P f args [] v [.b [.rows z n g]]) : FnTr P f args [] u [] := by
  intro B e w args' hB hl R
  refine (k B e w args' hB hl R).mono ?_
  rintro en w' ⟨v', rfl, e1, hm, hv, S⟩
  have hk0 : B.k = 0 := by simpa using hB
  have hBr : ∀ i p, B.e.r i ≠ some p := fun i p hi => by have := S.kr i p hi; omega
  have h1r : ∀ i, i ≠ 0 → e1.r i = none := fun i hi => by
    cases hq : e1.r i with
    | none => rfl
    | some p => have := S.dom i p hq; simp at this; omega
  have fin : ∀ (zz : Nat → Option (Array Value × TypeId × (Nat × Nat))), (∀ m o, e1.z m = some o → zz m = some o) → (∀ m c t fr, zz m = some (c, t, fr) → w'.heap[m]? = some (.cells c t fr)) → (∀ m x, zz m = some x → B.e.z m = some x ∨ B.w.heap.size ≤ m) → Rel B { e1 with r := fun _ => none, z := zz } [] w' := fun zz z1 z2 z3 => {
    os := S.os, tape := S.tape, output := S.output, size := S.size
    inj := fun i j p q hi => by cases hi
    dom := fun i p hi => by cases hi
    sep := fun i p hi => by cases hi
    zok := z2, zfresh := z3
    glb := fun gg K xs hg => (S.glb gg K xs hg).imp fun c ⟨t, fr, q1, q2⟩ => ⟨t, fr, z1 _ _ q1, q2⟩
    news := fun i p hi => by cases hi
    keepr := fun i p hi => absurd hi (hBr i p)
    keepz := fun m x hm => z1 m x (S.keepz m x hm)
    n0 := S.n0, n0le := S.n0le
    blk := fun i ps hi => by simp at hi
    gap := fun i g hi => by simp at hi
    yi := S.yi, yb := S.yb, old := S.old
    win := fun i p hi => absurd hi (hBr i p)
    kr := S.kr, kle := by rw [hk0]; exact Nat.zero_le _
    mks := S.mks, mnd := S.mnd }
  rcases S.blk 0 _ rfl with ⟨g1, g2⟩ | ⟨p, o, g1, g2, c, ty, rfl, g3, g4, g5⟩
  · refine ⟨v', rfl, { e1 with r := fun _ => none }, hm, hu e1 _ v' (fun _ _ h => h) rfl (fun y hy => ?_) hv, fin e1.z (fun _ _ h => h) S.zok (fun m x hx => ?_)⟩
    · rcases hy with ⟨q1, _, a, rfl⟩ | ⟨p, _, _, q1, _⟩
      · exact .inl ⟨q1, a, 0, rfl, fun _ => rfl⟩
      · rw [g2] at q1; cases q1
    · exact S.zfresh m x hx
  · have hpz : e1.z p.n = none := S.sep 0 p g1
    have hnew : B.w.heap.size ≤ p.n := (S.news 0 p g1).resolve_left (hBr 0 p)
    have hz1 : ∀ m o, e1.z m = some o → (if m = p.n then some (c, ty, (0, 0)) else e1.z m) = some o := fun m o h => by
      rw [if_neg (fun q => by rw [q, hpz] at h; cases h)]; exact h
    obtain ⟨us, zs, q1, q2, q3, q4⟩ := PR.consRows.1 g5
    rw [PR] at q3
    subst q3
    rw [List.append_nil] at q4
    have hps : psize [SV.rows z n g] = n * z := by simp [psize, psz]
    rw [hps] at q4 g4
    refine ⟨v', rfl, { e1 with r := fun _ => none, z := fun m => if m = p.n then some (c, ty, (0, 0)) else e1.z m }, hm, hu e1 _ v' hz1 rfl (fun y hy => ?_) hv, fin _ hz1 (fun m c' t' fr hx => ?_) (fun m x hx => ?_)⟩
    · rcases hy with ⟨h1, _, a, rfl⟩ | ⟨p', cap', a, h1, rfl, h3, h4, h5, h6, h7⟩
      · exact .inl ⟨h1, a, 0, rfl, fun _ => rfl⟩
      · rw [g1] at h1
        cases h1
        by_cases hc : cap' = 0
        · subst hc
          exact .inl ⟨by omega, some ⟨p.n, a, none⟩, 0, by rw [show len = 0 by omega], fun _ => rfl⟩
        · have ha := h3 hc
          have hcs := h7 hc
          refine .inr ⟨p.n, a, cap', c, ty, (0, 0), rfl, if_pos rfl, fun _ => ?_, fun i hi => ?_, h6, by omega⟩
          · show e1.n0 ≤ p.n
            rw [S.n0]
            exact Nat.le_trans S.n0le hnew
          · have := q2 i (by omega)
            rw [← q4, take_mid _ (show i < n by omega), List.drop_drop] at this
            rw [ha]
            exact PR.mono' (e := ⟨fun _ => none, e1.z, e1.n0, [], fun _ => none⟩) (e' := ⟨fun _ => none, fun m => if m = p.n then some (c, ty, (0, 0)) else e1.z m, e1.n0, [], fun _ => none⟩) hz1 (Nat.le_refl _) _ _ (fun j q _ h => by cases h) this
    · have hx' : (if m = p.n then some (c, ty, (0, 0)) else e1.z m) = some (c', t', fr) := hx
      split at hx'
      · rename_i q; cases hx'; rw [q]; exact g2
      · exact S.zok m c' t' fr hx'
    · have hx' : (if m = p.n then some (c, ty, (0, 0)) else e1.z m) = some x := hx
      split at hx'
      · rename_i q; right; omega
      · exact S.zfresh m x hx'
end
end Go.Sy
