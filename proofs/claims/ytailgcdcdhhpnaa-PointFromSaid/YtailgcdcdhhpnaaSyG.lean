/- This file proves assertions, appends, copies and what strings come to sound. Conditions: those of the interpreter's own tests. -/
import Derived.Test.YtailgcdcdhhpnaaSyF
import Derived.Laws.BytesString
import Derived.Laws.BytesArg
namespace Go.Sy
open Go

section
variable {P : Program} {e : Env} {B : Base} {h : List Blk} {w : World}

theorem assertS_sound {asserted xT : TypeId} {ok : Bool} {x v : SV} {x' : Value} (hs : assertS P asserted ok x = some v) (hx : VR e x x') : ∃ v', (Instr.typeAssert x' xT asserted ok).run P w = .ok v' w ∧ VR e v v' := by
  unfold assertS at hs
  split at hs
  · rename_i t y
    obtain ⟨y', hy, rfl⟩ := hx
    split at hs
    · cases hs
    · rename_i d hni hu
      split at hs
      · rename_i ht
        subst ht
        cases hs
        refine ⟨match ok with | true => .tuple ⟨[y', .bool true]⟩ | false => y', ?_, ?_⟩
        · unfold Instr.typeAssert
          rw [Sem.run_bind, run_underlying hu, Result.andThen_ok]
          cases d <;> first | exact (hni _ rfl).elim | (simp only [if_true]; cases ok <;> rfl)
        · cases ok
          · exact hy
          · exact ⟨_, ⟨y', _, hy, ⟨.bool true, [], rfl, rfl, rfl⟩, rfl⟩, rfl⟩
      · rename_i ht
        split at hs
        · rename_i z hz
          cases hs
          obtain ⟨zv, h1, h2⟩ := Option.bind_eq_some_iff.1 hz
          refine ⟨.tuple ⟨[zv, .bool false]⟩, ?_, _, ⟨zv, _, ofV_sound h2, ⟨.bool false, [], rfl, rfl, rfl⟩, rfl⟩, rfl⟩
          unfold Instr.typeAssert
          rw [Sem.run_bind, run_underlying hu, Result.andThen_ok]
          cases d <;> first | exact (hni _ rfl).elim | (simp only [if_neg ht, if_true, Sem.run_bind, zeroOf_run h1, Result.andThen_ok, Sem.run_pure])
        · cases hs
    · cases hs
  · rw [VR] at hx; subst hx
    split at hs
    · cases hs
    · rename_i d z hni hu hz
      cases hs
      obtain ⟨zv, h1, h2⟩ := Option.bind_eq_some_iff.1 hz
      refine ⟨.tuple ⟨[zv, .bool false]⟩, ?_, _, ⟨zv, _, ofV_sound h2, ⟨.bool false, [], rfl, rfl, rfl⟩, rfl⟩, rfl⟩
      unfold Instr.typeAssert
      rw [Sem.run_bind, run_underlying hu, Result.andThen_ok]
      cases d <;> first | exact (hni _ rfl).elim | (simp only [if_true, Sem.run_bind, zeroOf_run h1, Result.andThen_ok, Sem.run_pure])
    · cases hs
  · cases hs

/-! ### What a slice holds -/
theorem run_first {n a m z len cap : Nat} {c : Array Value} {t : TypeId} {fr : Nat × Nat} (hb : w.heap[n]? = some (.cells c t fr)) (hl : a + m * z ≤ c.size) :
    (Builtin.firstCells z m (.slice (some ⟨n, a, none⟩) len cap)).run P w = .ok ((c.toList.drop a).take (m * z)).toArray w := by
  have hlen : ((c.toList.drop a).take (m * z)).length = m * z := by simp; omega
  refine run_firstCells_some w z m ⟨n, a, none⟩ len cap _ hlen fun j v hv => ?_
  rw [addr_add]
  apply cell_of hb
  have hj : j < m * z := by
    have := (List.getElem?_eq_some_iff.1 hv).1
    omega
  rwa [List.getElem?_take_of_lt hj, List.getElem?_drop] at hv

theorem run_first0 {z : Nat} {a : Option Addr} {len cap : Nat} : (Builtin.firstCells z 0 (.slice a len cap)).run P w = .ok #[] w := by
  cases a with
  | none => simp [Builtin.firstCells]
  | some a => exact run_firstCells_some w z 0 a len cap [] (by simp) (by simp)

theorem take_take_le {l : List Value} {a b : Nat} (h : a ≤ b) : (l.take b).take a = l.take a := by rw [List.take_take, Nat.min_eq_left h]

theorem contS_sound (R : Rel B e h w) {y : SV} {y' : Value} {cy : List SV} {n z : Nat} (hc : contS h y = some (cy, true)) (hn : lenV y = some n) (hy : VR e y y') (hrow : isRowOK z y = true) :
    ∃ ys, PR e cy ys ∧ ys.length = n * z ∧ (Builtin.lenOf y').run P w = .ok n w ∧ ∀ m, m ≤ n → (Builtin.firstCells z m y').run P w = .ok (ys.take (m * z)).toArray w := by
  have nilcase : ∀ {a : Option Addr} {cap : Nat}, n = 0 → y' = .slice a 0 cap → PR e cy [] → ∃ ys, PR e cy ys ∧ ys.length = n * z ∧ (Builtin.lenOf y').run P w = .ok n w ∧ ∀ m, m ≤ n → (Builtin.firstCells z m y').run P w = .ok (ys.take (m * z)).toArray w := fun {a cap} h0 hy' hp => by
    subst h0 hy'
    refine ⟨[], hp, by simp, rfl, fun m hm => ?_⟩
    obtain rfl : m = 0 := by omega
    rw [run_first0]; simp
  unfold contS at hc
  split at hc
  · -- ro
    rename_i f k xs
    simp only [Option.some.injEq, Prod.mk.injEq, and_true] at hc
    subst hc
    simp only [lenV, Option.some.injEq] at hn; subst hn
    obtain rfl : z = 1 := Nat.eq_of_beq_eq_true hrow
    rcases hy with ⟨rfl, a, cap, hv, _⟩ | ⟨n, o, cap, c, t, fr, rfl, hz, _, hq, hcap, hfit⟩
    · exact nilcase rfl hv ⟨[], rfl, rfl⟩
    · have hb := R.zok _ _ _ _ hz
      refine ⟨intsV k xs, ⟨[], rfl, by rw [lst_eq rfl, List.append_nil]⟩, by simp [intsV_length], rfl, fun m hm => ?_⟩
      rw [run_first hb (by omega), hq, take_take_le (by omega)]
  · -- str
    rename_i xs
    simp only [Option.some.injEq, Prod.mk.injEq, and_true] at hc
    subst hc
    simp only [lenV, Option.some.injEq] at hn; subst hn
    obtain rfl : z = 1 := Nat.eq_of_beq_eq_true hrow
    obtain ⟨s, rfl, rfl⟩ := hy
    refine ⟨intsV .u8 (strL s), ⟨[], rfl, by rw [lst_eq rfl, List.append_nil]⟩, by simp [intsV_length], by rw [strL_length]; rfl, fun m hm => ?_⟩
    rw [strL_length] at hm
    show Result.ok _ w = _
    congr 1
    apply Array.ext'
    simp [intsV, strL, List.extract_eq_take_drop]
    rfl
  · -- nil
    simp only [Option.some.injEq, Prod.mk.injEq, and_true] at hc
    subst hc
    simp only [lenV, Option.some.injEq] at hn; subst hn
    rw [VR] at hy
    exact nilcase rfl hy rfl
  · -- a tracked block
    rename_i b o i z0 len cap ex wh
    simp only [lenV, Option.some.injEq] at hn; subst hn
    have hzz : z0 = z := Nat.eq_of_beq_eq_true hrow
    subst hzz
    split at hc
    · rename_i ps hb
      rcases hy with ⟨rfl, rfl, a, hv⟩ | ⟨p, cap', a, hp, rfl, ha, _, _, hlen, hfit⟩
      · refine nilcase rfl hv ?_
        split at hc
        · split at hc <;> (simp only [Option.some.injEq, Prod.mk.injEq] at hc; obtain ⟨rfl, _⟩ := hc; exact ⟨[], rfl, by simp [lst, intsV]⟩)
        · rename_i ps' hd hz1
          rw [Nat.zero_mul] at hc
          obtain ⟨q, h1, h2⟩ := Option.map_eq_some_iff.1 hc
          simp only [Prod.mk.injEq, and_true] at h2; subst h2
          unfold subP at h1
          obtain ⟨q', _, h3⟩ := Option.bind_eq_some_iff.1 h1
          have : takeP q' 0 = some [] := by cases q' <;> rfl
          rw [this] at h3; cases h3
          exact rfl
        · cases hc
      · obtain ⟨c, t, hcell, hsz, hpsz, hpr⟩ := R.block hp hb
        have fin : (∀ m, m ≤ len → len ≠ 0 → a = p.base + (o + i * z0) ∧ a + m * z0 ≤ c.size) → PR e cy (((c.toList.drop p.base).drop (o + i * z0)).take (len * z0)) → ((c.toList.drop p.base).drop (o + i * z0)).length ≥ len * z0 →
            ∃ ys, PR e cy ys ∧ ys.length = len * z0 ∧ (Builtin.lenOf (.slice (some ⟨p.n, a, none⟩) len cap')).run P w = .ok len w ∧ ∀ m, m ≤ len → (Builtin.firstCells z0 m (.slice (some ⟨p.n, a, none⟩) len cap')).run P w = .ok (ys.take (m * z0)).toArray w := fun hin hpc hge => by
          refine ⟨_, hpc, by rw [List.length_take]; omega, rfl, fun m hm => ?_⟩
          by_cases h0 : len = 0
          · subst h0
            obtain rfl : m = 0 := by omega
            rw [run_first0]; simp
          · obtain ⟨h1, h2⟩ := hin m hm h0
            rw [run_first hcell h2, h1, List.drop_drop, take_take_le (Nat.mul_le_mul_right z0 hm)]
        have addrs : ∀ m, m ≤ len → len ≠ 0 → a = p.base + (o + i * z0) ∧ a + m * z0 ≤ c.size := fun m hm h0 => by
          have h1 := ha (by omega)
          have h2 := hfit (by omega)
          have h3 : m * z0 ≤ cap' * z0 := Nat.mul_le_mul_right z0 (by omega)
          omega
        have hdl : (c.toList.drop p.base).length = c.size - p.base := by simp
        split at hc
        · rename_i k nn xs rest hd
          obtain ⟨hd1, hd2⟩ := dropP_sound hd hpr
          obtain ⟨zs, hzs, hcells⟩ := hd1
          have hcl : ((c.toList.drop p.base).take (psize ps)).length = psize ps := by simp; omega
          have hlens : psize ps - o = nn + zs.length := by
            have := congrArg List.length hcells
            simp only [List.length_drop, hcl, List.length_append, intsV_length, lst_length] at this
            omega
          rw [hcl] at hd2
          have hwin : ∀ a b : Nat, a + b ≤ nn → ((c.toList.drop p.base).drop (o + a)).take b = ((intsV k (lst nn xs)).drop a).take b := fun a b hab => by
            have h1 : (((c.toList.drop p.base).take (psize ps)).drop o).drop a = ((c.toList.drop p.base).drop (o + a)).take (psize ps - (o + a)) := by rw [List.drop_drop, List.drop_take]
            rw [hcells, List.drop_append_of_le_length (by rw [intsV_length, lst_length]; omega)] at h1
            have h2 := congrArg (List.take b) h1
            rw [take_take_le (by omega), List.take_append_of_le_length (by rw [List.length_drop, intsV_length, lst_length]; omega)] at h2
            exact h2.symm
          split at hc
          · simp only [Option.some.injEq, Prod.mk.injEq, Bool.and_eq_true, decide_eq_true_eq] at hc
            obtain ⟨rfl, hxl, hle, rfl⟩ := hc
            refine fin addrs ?_ (by simp; omega)
            have := hwin 0 len (by omega)
            simp only [Nat.mul_one, Nat.add_zero, List.drop_zero] at this ⊢
            rw [this]
            exact ⟨[], rfl, by rw [List.append_nil, ← intsV_take, lst_eq hxl, ← lst_take hle, List.take_of_length_le (by omega), lst_eq hxl]⟩
          · simp only [Option.some.injEq, Prod.mk.injEq, Bool.and_eq_true, decide_eq_true_eq] at hc
            obtain ⟨rfl, hle, hxl⟩ := hc
            refine fin addrs ?_ (by simp; omega)
            have := hwin i len hle
            simp only [Nat.mul_one] at this ⊢
            rw [this]
            refine ⟨[], rfl, ?_⟩
            rw [List.append_nil, ← intsV_drop, ← intsV_take, ← lst_drop, ← lst_take (by omega)]
        · rename_i ps' hd hz1
          obtain ⟨q, h1, h2⟩ := Option.map_eq_some_iff.1 hc
          simp only [Prod.mk.injEq, and_true] at h2; subst h2
          obtain ⟨hd1, hd2⟩ := dropP_sound hd hpr
          have hcl : ((c.toList.drop p.base).take (psize ps)).length = psize ps := by simp; omega
          obtain ⟨h3, h4⟩ := subP_sound h1 hd1
          rw [List.length_drop, hcl] at h4
          rw [hcl] at hd2
          refine fin addrs ?_ (by simp; omega)
          rw [List.drop_drop, List.drop_take, take_take_le (by omega)] at h3
          exact h3
        · cases hc
    · cases hc
  · cases hc
end
end Go.Sy
