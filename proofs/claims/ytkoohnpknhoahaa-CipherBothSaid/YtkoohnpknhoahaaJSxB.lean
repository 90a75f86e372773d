/- This file gives calls of yield whose round's body is not reckoned by the kernel, but proved piece by piece. Conditions: the pieces. -/
import Derived.Test.YtkoohnpknhoahaaJSxA
set_option linter.all false
namespace Go.Sy
open Go
section
variable {P : Program}
theorem YTr.mk {l i : Nat} {L L1 L2 : Lp} {vs : List SV} {h : List Blk} {s1 s2 : St} {x : Exit} {q : Option Code} (hL : readyL h 0 = some (i, L)) (hl : L.l = l) (hps : L.ps.size = vs.length)
    (hasg : Tr P (some l) h.length L.asg ⟨setTs L.t L.ps.toList vs, h, true⟩ .normal s1) (hL1 : lpAt s1.h i = some L1) (hl1 : L1.l = l) (hst1 : L1.st = .ready)
    (hbody : Tr P (some l) h.length L.body ⟨s1.t, s1.h.set i (.g (some { L1 with st := .busy })), true⟩ x s2) (hq : jumpOf x = some q) (hL2 : lpAt s2.h i = some L2) (hl2 : L2.l = l) (hlen : s2.h.length = h.length) :
    YTr P l vs h (.bool q.isNone) (s2.h.set i (.g (some { L2 with st := if q.isNone then .ready else .done, pend := q }))) := by
  intro B e w args hargsV R
  obtain ⟨_, hLi, hst⟩ := readyL_get hL
  rw [Nat.sub_zero] at hLi
  have hL1 := lpAt_eq hL1
  have hL2 := lpAt_eq hL2
  have S0 := R.self
  obtain ⟨_, _, r, hr, hp, ha, hbd, _, _, hTR⟩ := S0.gap i _ hLi
  rw [hl] at hr
  have hargs : (⟨args⟩ : Array Value).size = r.params.size := by rw [hp, hps]; exact hargsV.length
  refine ⟨r.fn, _, r.assign, r.body, run_yield hr hargs, fun ro nn => ?_⟩
  refine roundIn_of_wpIn (F := wF ro) trivial ?_
  have htm : ((r.params.zip ⟨args⟩).foldl (fun tmps (t, a) => tmps.setIfInBounds t a) r.tmps) = ⟨((L.ps.toList.zip args).foldl (fun (tm : Array Value) (q : Tmp × Value) => tm.setIfInBounds q.1 q.2) ⟨r.tmps.toList⟩).toList⟩ := by
    rw [hp]
    apply Array.ext'
    rw [← Array.foldl_toList]
    simp
  rw [htm, ha, hbd]
  have hTR' := setTs_sound L.ps.toList vs L.t r.tmps.toList args hTR (hargsV.mono (bare_le e h)) (by simpa using hps)
  refine hasg (baseOf e h w) (e.bare h) w _ [] _ nn (Nat.le_refl _) hTR' S0 fun e1 w1 t1 hl1' S1 => ?_
  obtain ⟨_, hy1, r1, hr1, hp1, ha1, hbd1, hst1', _, hTR1⟩ := S1.gap i _ hL1
  rw [hl1] at hr1
  refine ⟨_, run_beginRound hr1 (by rw [hst1', hst1]), ?_⟩
  have hpend : r1.pending = L1.pend := by obtain ⟨_, _, r1', hr1', _, _, _, _, h9, _⟩ := S1.gap i _ hL1; rw [hl1, hr1] at hr1'; cases hr1'; exact h9
  have S1' : Rel (baseOf e h w) e1 (s1.h.set i (.g (some { L1 with st := .busy }))) (w1.putObj l (.loop { r1 with state := .busy })) := by
    have := S1.setLoop hL1 (r := r1) (by rw [hl1]; exact hr1) .busy L1.pend
    rw [← hpend] at this
    rw [hl1] at this
    have hset : ({ L1 with st := .busy } : Lp) = { l := l, t := L1.t, ps := L1.ps, asg := L1.asg, body := L1.body, st := .busy, pend := r1.pending } := by rw [hpend, ← hl1]
    rw [hset]; exact this
  refine hbody (baseOf e h w) e1 _ t1 [] _ nn (Nat.le_refl _) hl1' S1' fun e2 w2 t2 hl2' S2 => ?_
  obtain ⟨_, hy2, r2, hr2, _, _, _, _, _, _⟩ := S2.gap i _ hL2
  rw [hl2] at hr2
  have S3 := S2.setLoop hL2 (r := r2) (by rw [hl2]; exact hr2) (if q.isNone then .ready else .done) q
  have fin : ∃ v w4, (Instr.endRound l q).run P w2 = .ok v w4 ∧ ∃ v', Ending.returned v = .returned v' ∧ ∃ e', VR e' (.bool q.isNone) v' ∧ Rel B e' (s2.h.set i (.g (some { L2 with st := if q.isNone then .ready else .done, pend := q }))) w4 ∧ EStep e e' none := by
    refine ⟨_, _, run_endRound q hr2, _, rfl, ?_⟩
    rw [hl2] at S3
    have S3' : Rel (baseOf e h w) e2 (s2.h.set i (.g (some { L2 with st := if q.isNone then .ready else .done, pend := q }))) (w2.putObj l (.loop { r2 with state := if q.isNone then .ready else .done, pending := q })) := by
      have hset : ({ L2 with st := if q.isNone then .ready else .done, pend := q } : Lp) = { l := l, t := L2.t, ps := L2.ps, asg := L2.asg, body := L2.body, st := if q.isNone then .ready else .done, pend := q } := by rw [← hl2]
      rw [hset]; exact S3
    have hh : (s2.h.set i (.g (some { L2 with st := if q.isNone then .ready else .done, pend := q }))).length = h.length := by simp [hlen]
    have key := back_sound R S3' (u := .bool q.isNone) (v' := .bool q.isNone) (j := h.length) rfl (by rw [hh]; simp)
    rw [List.take_of_length_le (by omega), List.drop_of_length_le (by omega), placeH_nil] at key
    exact key
  cases x <;> simp only [jumpOf, Option.some.injEq, reduceCtorEq] at hq <;> subst hq <;> exact fin
def Ctr.withY (Γ : Ctr) (y : Nat → List SV → List Blk → Option (SV × List Blk × Bool)) : Ctr := { Γ with yc := y }
theorem Ctr.withY_ok {Γ : Ctr} {y : Nat → List SV → List Blk → Option (SV × List Blk × Bool)} (h : CtrSound P Γ) (hy : ∀ l vs b v b', y l vs b = some (v, b', true) → YTr P l vs b v b') : CtrSound P (Γ.withY y) where
  yields := hy
  calls := h.calls
  pure := h.pure
  inl := h.inl
end
end Go.Sy
