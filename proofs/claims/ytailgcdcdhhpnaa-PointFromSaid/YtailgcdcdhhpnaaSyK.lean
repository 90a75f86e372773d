/- This file proves regions of the interpreter sound: those whose order is the text's, those whose order is drawn. Conditions: those of the interpreter's own tests; the calls are sound. -/
import Derived.Test.YtailgcdcdhhpnaaSyJ
namespace Go.Sy
open Go

section
variable {P : Program}

/-- An operation, taken as the walk takes it. -/
theorem oper_sound {G : CallFn} (hG : GSound P G) {inp : Tmp → Bool} {k j n : Nat} {ro : Option Nat} {t : List (Option SV)} {t' : List Value} {h : List Blk} {r : Res} {o : Oper} (g : opS P G inp k t h j o = some r) (hp : r.p = true)
    {B : Base} {e : Env} {w : World} {d : List Deferred} (hj : Free h j r.new.length) (hk : ∀ i p, B.e.r i = some p → i < k) (hl : TR e t t') (R : Rel B e h w) {next : Act → World → Prop} {Q : Exit → Act → World → Prop}
    (hn : ∀ e' v' w', VR e' r.v v' → Rel B e' (placeH r.h j r.new) w' → EStep e e' r.kill → next (Act.put ⟨⟨t'⟩, d⟩ o.dst v') w') : o.wpIn (wF ro) n P ⟨⟨t'⟩, d⟩ w next Q := by
  have hnd : ∀ c, o.op ≠ .defer c := fun c hc => by unfold opS at g; rw [hc] at g; cases g
  refine ⟨fun _ _ => trivial, ?_⟩
  rw [Oper.semAt_eq _ _ _ hnd]
  by_cases hc : ∃ c f, o.op = .call c ∧ c.callee = .value f
  · obtain ⟨c, f, hc, hcal⟩ := hc
    unfold opS at g
    rw [hc] at g
    simp only [hcal] at g
    split at g
    · rename_i f' first capt vs hf hvs
      split at g
      case h_2 => cases g
      rename_i hyo
      obtain ⟨⟨v, h', new, q⟩, hg, rfl⟩ := Option.map_eq_some_iff.1 g
      simp only at hp; subst hp
      obtain ⟨ys, us, h1, h2, hfv⟩ := ev_sound (d := d) hl hf
      have hargs := (h1.append (evL_sound (d := d) hl hvs)).append h2
      have hk := hG f' _ h j v h' new hg B e w _ hargs R hj
      cases f' with
      | func f' =>
        have hexec : (execOp (Act.eval ⟨⟨t'⟩, d⟩) o).run P w = (callFunc f' ⟨ys ++ c.args.toList.map (Act.eval ⟨⟨t'⟩, d⟩) ++ us⟩).run P w := by
          unfold execOp
          rw [hc]
          simp only [resolve, hcal, hfv, Deferred.ofValue, invoke, Sem.run_bind, Sem.run_pure, Result.andThen_ok]
          congr 2
          apply Array.ext'
          simp
        rw [hexec]
        rcases hk with ⟨v', w', hr, e', hv, R', hst⟩ | ⟨hr, hcalls⟩
        · rw [hr]
          exact hn e' v' w' hv R' hst
        · rw [hr]
          refine ⟨fun h => by simp [wF, Fence.wide] at h, callsIn_wF.2 ?_⟩
          intro cs
          obtain ⟨x, w', fr, ⟨v', rfl, e', hv, R', hst⟩, rest⟩ := hcalls cs
          exact ⟨.returned v', w', fr, hn e' v' w' hv R' hst, rest⟩
      | yield l =>
        obtain ⟨fn, tmps, asg, body, hy, hround⟩ := hk
        have hus : us = [] := by
          simp only [yOK, List.isEmpty_iff] at hyo
          subst hyo; exact h2
        subst hus
        rw [List.append_nil] at hy
        have hexec : (execOp (Act.eval ⟨⟨t'⟩, d⟩) o).run P w = (Instr.yield l ⟨ys ++ c.args.toList.map (Act.eval ⟨⟨t'⟩, d⟩)⟩).run P w := by
          unfold execOp
          rw [hc]
          simp only [resolve, hcal, hfv, Deferred.ofValue, invoke, Sem.run_bind, Sem.run_pure, Result.andThen_ok]
          congr 2
          apply Array.ext'
          simp
        rw [hexec, hy, Oper.uponIn_round]
        exact ⟨fun h => by simp [wF, Fence.wide] at h, RoundIn.mono (hround ro _) fun x w' ⟨v', q, e', hv, R', hst⟩ => by subst q; exact hn e' v' w' hv R' hst⟩
      | _ => exact hk.elim
    · cases g
  · obtain ⟨nx, w', e', v', hr, hnx, hv, R', hst⟩ := opS_sound (d := d) g hp (fun c f q q' => hc ⟨c, f, q, q'⟩) hj hk hl R
    rw [hr]
    rcases hnx with rfl | ⟨rfl, rfl⟩
    · exact hn e' v' w' hv R' hst
    · exact hn e' undef w' hv R' hst

theorem VR.bool' {e : Env} {x : SV} {b : Bool} (h : VR e x (.bool b)) : x = .bool b ∨ x = .nl (.bool b) := by
  cases x with
  | bool c => rw [VR] at h; cases h; exact .inl rfl
  | nl v => rw [VR] at h; subst h; exact .inr rfl
  | int => cases h
  | str => obtain ⟨_, q, _⟩ := h; cases q
  | ints => exact h.elim
  | ptr => obtain ⟨_, _, q⟩ := h; cases q
  | sl => rcases h with ⟨_, _, _, q⟩ | ⟨_, _, _, _, q, _⟩ <;> cases q
  | ro => rcases h with ⟨_, _, _, q, _⟩ | ⟨_, _, _, _, _, _, q, _⟩ <;> cases q
  | rob => rcases h with ⟨_, _, _, q, _⟩ | ⟨_, _, _, _, _, _, q, _⟩ <;> cases q
  | rol => rcases h with ⟨_, _, _, q, _⟩ | ⟨_, _, _, _, _, _, q, _⟩ <;> cases q
  | rpi => obtain ⟨_, _, _, _, _, q, _⟩ := h; cases q
  | rpb => obtain ⟨_, _, _, _, _, q, _⟩ := h; cases q
  | rpl => obtain ⟨_, _, _, _, _, q, _⟩ := h; cases q
  | agg => obtain ⟨_, _, q⟩ := h; cases q
  | tup => obtain ⟨_, _, q⟩ := h; cases q
  | iface => obtain ⟨_, _, q⟩ := h; cases q
  | fn => obtain ⟨_, _, _, _, q⟩ := h; cases q

theorem wantS_sound {e : Env} {t : List (Option SV)} {t' : List Value} (h : TR e t t') {ops : Array Oper} {o : Oper} {b : Bool} (g : wantS ops t o = some b) : Region.wanted o (yielded ops ⟨t'⟩) = b := by
  unfold wantS at g
  unfold Region.wanted
  split at g
  · rename_i hg; rw [hg]; cases g; rfl
  · rename_i j want hg
    rw [hg]
    simp only []
    unfold yielded
    have hj : ops[j]? = ops.toList[j]? := by simp
    rw [hj]
    split at g
    · rename_i hd; rw [hd]; cases g; rfl
    · rename_i i hd
      rw [hd]
      simp only [Option.bind_some]
      have e2 : (⟨t'⟩ : Array Value)[i]? = t'[i]? := by simp
      rw [e2]
      split at g
      · rename_i hn
        cases g
        have : t'[i]? = none := by rw [List.getElem?_eq_none_iff] at hn ⊢; rw [← h.1]; exact hn
        rw [this]
        rfl
      · cases g
      · rename_i x hx
        cases g
        obtain ⟨v', hv', hv⟩ := h.get hx
        rw [VR] at hv; subst hv
        rw [hv']
        cases x <;> cases want <;> rfl
      · cases g
      · rename_i v hnb hnl hx
        cases g
        obtain ⟨v', hv', hv⟩ := h.get hx
        rw [hv']
        by_cases hb : ∃ b, v' = .bool b
        · obtain ⟨b, rfl⟩ := hb
          rcases hv.bool' with q | q
          · exact absurd q (hnb b)
          · exact absurd q (hnl _)
        · have n1 : (match some v' with | some (.bool b) => some b | _ => none : Option Bool) = none := by
            cases v' <;> first | rfl | exact absurd ⟨_, rfl⟩ hb
          exact (congrArg (fun z : Option Bool => z == some want) n1).trans rfl

theorem TR.put {e : Env} {t : List (Option SV)} {t' : List Value} {d : List Deferred} {o : Option Tmp} {v : SV} {v' : Value} (h : TR e t t') (g : VR e v v') : ∃ t'', Act.put ⟨⟨t'⟩, d⟩ o v' = ⟨⟨t''⟩, d⟩ ∧ TR e (putT t o v) t'' := by
  cases o with
  | none => exact ⟨t', rfl, h⟩
  | some i => exact ⟨t'.set i v', by simp [Act.put], h.set g i⟩

theorem takeS_eq {sym : Tmp → Option Bool} {d : Option Tmp} {v : SV} (h : (takeS sym d v).2 = true) : (takeS sym d v).1 = v := by
  unfold takeS at h ⊢
  split
  · rfl
  · split
    · rfl
    · rename_i b hb
      simp only [hb] at h
      split
      · cases b <;> simp at h <;> rw [h]
      · rfl

theorem placeH_self (h new : List Blk) : placeH h h.length new = h ++ new := by unfold placeH; rw [if_pos rfl]
theorem fillH_length (h : List Blk) : ∀ (new : List Blk) (j : Nat), (fillH h j new).length = h.length := by
  intro new
  induction new generalizing h with
  | nil => intro j; rfl
  | cons b bs ih => intro j; rw [fillH, ih]; simp
theorem fillH_get : ∀ (new : List Blk) (h : List Blk) (j i : Nat), (fillH h j new)[i]? = if j ≤ i ∧ i < j + new.length ∧ i < h.length then new[i - j]? else h[i]?
  | [], h, j, i => by simp only [fillH, List.length_nil, Nat.add_zero]; rw [if_neg (by omega)]
  | b :: bs, h, j, i => by
    rw [fillH, fillH_get bs (h.set j b) (j + 1) i]
    simp only [List.length_set, List.length_cons]
    by_cases h1 : j + 1 ≤ i ∧ i < j + 1 + bs.length ∧ i < h.length
    · rw [if_pos h1, if_pos (by omega), show i - j = (i - (j + 1)) + 1 by omega, List.getElem?_cons_succ]
    · rw [if_neg h1]
      by_cases h2 : i = j
      · subst h2
        by_cases h3 : i < h.length
        · rw [List.getElem?_set_self h3, if_pos (by omega), Nat.sub_self]; rfl
        · rw [if_neg (by omega), List.getElem?_eq_none (by simp; omega), List.getElem?_eq_none (by omega)]
      · rw [List.getElem?_set_ne (Ne.symm h2), if_neg (by omega)]

theorem stepI_ob {G : CallFn} {sym : Tmp → Option Bool} {inp : Tmp → Bool} {k : Nat} {ops : Array Oper} {o : Oper} {s s' : St} (e : stepI P G sym inp k ops o s = some s') (h : s'.ob = true) : s.ob = true := by
  unfold stepI at e
  split at e
  · split at e
    · cases e; simp only [andT_iff] at h; exact h.1.1
    · cases e
  · cases e; exact h
  · cases e
theorem runOps_ob {G : CallFn} {sym : Tmp → Option Bool} {inp : Tmp → Bool} {k : Nat} {ops : Array Oper} : ∀ (is : List Nat) (s s' : St), runOps P G sym inp k ops is s = some s' → s'.ob = true → s.ob = true
  | [], s, s', e, h => by simp only [runOps, Option.some.injEq] at e; subst e; exact h
  | i :: is, s, s', e, h => by
    simp only [runOps] at e
    split at e
    · exact runOps_ob is s s' e h
    · split at e
      · rename_i s1 h1; exact stepI_ob h1 (runOps_ob is s1 s' e h)
      · cases e

/-- From state to state, whatever the world: what follows of the interpreter's step. -/
theorem wpOp_sound {G : CallFn} (hG : GSound P G) {sym : Tmp → Option Bool} {inp : Tmp → Bool} {k n : Nat} {ro : Option Nat} {ops : Array Oper} {o : Oper} {i : Nat} (hi : ops[i]? = some o) {s s' : St} (g : stepI P G sym inp k ops o s = some s') (hob : s'.ob = true)
    {B : Base} {e : Env} {w : World} {t' : List Value} {d : List Deferred} {Q : Exit → Act → World → Prop} {K : Act → World → Prop} (hk : ∀ i p, B.e.r i = some p → i < k) (hl : TR e s.t t') (R : Rel B e s.h w)
    (hK : ∀ e' w' t'', e'.m = e.m → TR e' s'.t t'' → Rel B e' s'.h w' → K ⟨⟨t''⟩, d⟩ w') : wpOpIn (wF ro) n P ops Q i K ⟨⟨t'⟩, d⟩ w := by
  unfold stepI at g
  unfold wpOpIn
  rw [hi]
  simp only []
  split at g
  · rename_i hw
    rw [if_pos (wantS_sound hl hw)]
    split at g
    · rename_i r hop
      cases g
      simp only [andT_iff] at hob
      refine oper_sound hG hop hob.1.2 (.inl rfl) hk hl R fun e' v' w' hv R' hst => ?_
      rw [takeS_eq hob.2] at hK
      obtain ⟨t'', q, hl'⟩ := TR.put (d := d) (o := o.dst) (hst.slots hl) hv
      rw [q]
      exact hK e' w' t'' hst.m hl' R'
    · cases g
  · rename_i hw
    cases g
    rw [if_neg (by rw [wantS_sound hl hw]; simp)]
    obtain ⟨t'', q, hl'⟩ := TR.put (d := d) (o := o.dst) hl (VR.empty (e := e))
    rw [q]
    exact ⟨fun _ _ => trivial, hK e w t'' rfl hl' R⟩
  · cases g
end
end Go.Sy
