/- This file proves the contracts of the reference's Inv, Root. Conditions: numbers below p. -/
import Derived.Test.YtailgcdcdhhpnaaReH
namespace Go.Proofs.Ytailgcdcdhhpnaa.Re
open Go Go.Sy Fe

theorem ctrInv : CtrSound Try.prog (mk [primeE, minusE, powE] []) := mk_sound _ InlOK.nil _ _
def two16 : List Int := 2 :: List.replicate 15 0
theorem exp2 : vR (mnF prL two16) = Pm - 2 ∧ okP (mnF prL two16) = true := by
  rw [mnF_eq]
  refine ⟨?_, refN_ok _⟩
  rw [show vR prL - vR two16 = Pm - 2 by decide]
  exact vR_refN (by decide) (by decide)
set_option maxRecDepth 100000 in
theorem invR_fn {a : List Int} (ha : okN a = true) : FnTr Try.prog 48 [.agg [.ints .i64 16 a]] [] (.agg [.ints .i64 16 (refN (pwm (vR a) (Pm - 2).toNat))]) [] := by
  have key : FnTr Try.prog 48 [.agg [.ints .i64 16 a]] [] (.agg [.ints .i64 16 (refN (pwm (vR a) (vR (mnF prL two16)).toNat))]) [] :=
    call0 ctrInv 60 Try.func48 (p := andT (andT true (andT true (okP prL && okP two16 && decide (vR two16 ≤ vR prL)))) (andT true (okN a && okP (mnF prL two16)))) (by kernel_rfl)
      (by rw [ha, exp2.2]; decide) rfl
  rw [exp2.1] at key
  exact key
noncomputable def invEF : List SV → Option (SV × List Blk × Bool)
  | [.agg [.ints .i64 16 a]] => some (.agg [.ints .i64 16 (refN (pwm (vR a) (Pm - 2).toNat))], [], okN a)
  | _ => none
noncomputable def invE : Entry Try.prog := .val 48 _ Try.func48 (by decide) rfl false 0 invEF fun vs v new e => by
  unfold invEF at e
  split at e
  · simp only [Option.some.injEq, Prod.mk.injEq] at e
    obtain ⟨rfl, rfl, h1⟩ := e
    exact invR_fn h1
  · cases e

/-! ### Root -/
noncomputable def roC (x y z : Bool) : Ctr := mk (P := Try.prog) [mulE, primeE, minusE] [] fun i => if i = 27 then some x else if i = 34 then some y else if i = 38 then some z else none
theorem roC_ok (x y z : Bool) : CtrSound Try.prog (roC x y z) := mk_sound _ InlOK.nil _ _
noncomputable def roC0 : Ctr := mk (P := Try.prog) [mulE, primeE, minusE, powE, halfE] []
theorem roC0_ok : CtrSound Try.prog roC0 := mk_sound _ InlOK.nil _ _
noncomputable def roB : Code := inner (inner (nthC 6 (bodyOf Try.f46)))
noncomputable def roH (a o r m : List Int) : List Blk := [.b [.ints .i64 16 a], .b [.ints .i64 16 o], .b [.ints .i64 16 r], .b [.ints .i64 16 m]]
def roL : List Nat := [1, 2, 3, 5, 6, 7]
noncomputable def roS (a r m : List Int) (i : Int) : St := ⟨slotsOf 47 [(1, .ptr 0 0 0), (2, .ptr 1 0 0), (3, .bool false), (5, .ptr 3 0 0), (6, .ptr 4 0 0), (7, .int .i64 i)], [.b [.ints .i64 16 a], .b [.ints .i64 16 z16], .b [.ints .i64 16 []], .b [.ints .i64 16 r], .b [.ints .i64 16 m]], true⟩
noncomputable def roE (a o q r m : List Int) : St := ⟨slotsOf 47 [(2, .ptr 1 0 0), (3, .bool true)], [.b [.ints .i64 16 a], .b [.ints .i64 16 o], .b [.ints .i64 16 q], .b [.ints .i64 16 r], .b [.ints .i64 16 m]], true⟩
noncomputable def roO (a r : List Int) (i : Int) : Bool := andT (andT (andT true (decide (i < 2))) (andT true (okP r && okP r))) (andT (decide ((sqR r).length = 16)) (decide (a.length = 16)))
section
variable (a q r m : List Int) (i : Int)
noncomputable def roQ (a q r m : List Int) (i : Int) : St := ⟨(roS a r m i).t, [.b [.ints .i64 16 a], .b [.ints .i64 16 z16], .b [.ints .i64 16 q], .b [.ints .i64 16 r], .b [.ints .i64 16 m]], true⟩
set_option maxRecDepth 100000 in
theorem ro_odd : (exec Try.prog (roC true true true) 60 0 roB (roQ a q r m i)).bind (fun r => (r.2.cut [2, 3] 5).map fun q => (r.1, q)) =
    some (.ret, ⟨(roE a [] [] [] []).t, (roE a (mnF prL r) q (mnF prL r) m).h, andT (andT (andT (roO a r i) (decide (sqR r = a))) ((r.getD 0 0).tmod 2 == 1)) (andT true (okP prL && okP r && decide (vR r ≤ vR prL)))⟩) := by kernel_rfl
set_option maxRecDepth 100000 in
theorem ro_even : (exec Try.prog (roC true true false) 60 0 roB (roQ a q r m i)).bind (fun r => (r.2.cut [2, 3] 5).map fun q => (r.1, q)) =
    some (.ret, ⟨(roE a [] [] [] []).t, (roE a r q r m).h, andT (andT (roO a r i) (decide (sqR r = a))) (!((r.getD 0 0).tmod 2 == 1))⟩) := by kernel_rfl
set_option maxRecDepth 100000 in
theorem ro_next : (exec Try.prog (roC true false false) 60 0 roB (roQ a q r m i)).bind (fun r => (r.2.cut roL 5).map fun q => (r.1, q)) =
    some (.normal, ⟨(roS a [] [] (iw (i + 1))).t, (roQ a q (refN (vR r * vR m % Pm)) m 0).h, andT (andT (roO a r i) (!decide (sqR r = a))) (andT true (okP r && okP m))⟩) := by kernel_rfl
set_option maxRecDepth 100000 in
theorem ro_end : (exec Try.prog (roC false false false) 60 0 roB (roQ a q r m i)).bind (fun r => (r.2.cut roL 5).map fun q => (r.1, q)) =
    some (.exit 0, ⟨(roS a [] [] i).t, (roQ a q r m 0).h, andT true (!decide (i < 2))⟩) := by kernel_rfl
end

def e3 : List Int := [65520, 65535, 65535, 65535, 65535, 65535, 65535, 65535, 65535, 65535, 65535, 65535, 65535, 65535, 65535, 32767]
noncomputable def hvR (l : List Int) : List Int := refN (vR l / 2)
theorem hvR_val {l : List Int} (h : okP l = true) : vR (hvR l) = vR l / 2 := by
  have r := vR_range h
  unfold hvR
  rw [refN_eq]
  exact vR_digR (by omega) (by omega)
theorem hvR_ok (l : List Int) : okP (hvR l) = true := refN_ok _
noncomputable def xA : List Int := hvR (hvR (hvR e3))
noncomputable def xM : List Int := hvR (hvR (mnF prL one16))
theorem xA_val : vR xA = (Pm + 3) / 8 := by
  unfold xA
  rw [hvR_val (hvR_ok _), hvR_val (hvR_ok _), hvR_val (by decide), show vR e3 = Pm + 3 by decide]
  decide
theorem xM_val : vR xM = (Pm - 1) / 4 := by
  have h1 : vR (mnF prL one16) = Pm - 1 := by
    rw [mnF_eq, show vR prL - vR one16 = Pm - 1 by decide]
    exact vR_refN (by decide) (by decide)
  have h2 : okP (mnF prL one16) = true := by rw [mnF_eq]; exact refN_ok _
  unfold xM
  rw [hvR_val (hvR_ok _), hvR_val h2, h1]
  decide
theorem mn1_ok : okP (mnF prL one16) = true := by rw [mnF_eq]; exact refN_ok _
set_option maxRecDepth 100000 in
theorem ro_head (a : List Int) : (execL Try.prog roC0 60 0 6 (atoms (bodyOf Try.f46)) ⟨slots0 Try.f46.ntmps [.agg [.ints .i64 16 a]], [], true⟩).bind (St.cut roL 5) =
    some ⟨(roS a [] [] 0).t, (roQ a e3 (refN (pwm (vR a) (vR xA).toNat)) (refN (pwm (vR two16) (vR xM).toNat)) 0).h, andT (andT (andT (andT (andT (andT true (andT true (okP (hvR e3)))) (andT true (okP (hvR (hvR e3))))) (andT true (okN a && okP xA))) (andT true (okP (mnF prL one16)))) (andT true (okP (hvR (mnF prL one16))))) (andT true (okN two16 && okP xM))⟩ := by kernel_rfl
/-- The root's parts. -/
noncomputable def rootL (x : Int) : List Int := match rootV x with
  | some r => refN r
  | none => z16
theorem odd_part {r : List Int} (h : okP r = true) : (r.getD 0 0).tmod 2 = vR r % 2 := by
  have hd : r.getD 0 0 = vR r / 65536 ^ 0 % 65536 := sB_digit 16 0 (by omega) (okP_iff.1 h).2
  rw [hd, Int.pow_zero, Int.ediv_one, Int.tmod_eq_emod_of_nonneg (by omega)]
  omega
/-- The even one of r and -r. -/
noncomputable def evR (x : Int) : List Int := refN (if x % 2 = 1 then (0 - x) % Pm else x)
theorem ro_found {a q m : List Int} {x : Int} {i : Int} (ha : okN a = true) (hx0 : 0 ≤ x) (hx1 : x < Pm) (hi : i < 2) (h : x * x % Pm = vR a) :
    ∃ q', Tr Try.prog none 0 roB (roQ a q (refN x) m i) .ret (roE a (evR x) q q' m) := by
  have hv := vR_refN hx0 hx1
  have hsq : sqR (refN x) = a := by
    unfold sqR
    rw [hv, h, refN_eq, digR_vR (okN_iff.1 ha).1]
  have hO : roO a (refN x) i = true := by
    unfold roO
    rw [hsq, refN_ok, decide_eq_true hi, decide_eq_true (okP_iff.1 (okN_iff.1 ha).1).1]; rfl
  have hodd : ((refN x).getD 0 0).tmod 2 = x % 2 := by rw [odd_part (refN_ok _), hv]
  by_cases h2 : x % 2 = 1
  · have k := ro_odd a q (refN x) m i
    have hm : mnF prL (refN x) = evR x := by
      have e : Pm - x = (0 - x) % Pm := by rw [Pm_eq] at *; omega
      rw [mnF_eq, prL_val, hv, evR, if_pos h2, e]
    rw [hm] at k
    refine ⟨_, Tr.post (Tr.cut (roC_ok true true true) 60 _ 5 (by omega) k ?_) (Ent.same rfl rfl)⟩
    rw [hO, hsq, decide_eq_true rfl, hodd, h2, prL_ok, refN_ok, prL_val, hv, decide_eq_true (by omega)]; rfl
  · have k := ro_even a q (refN x) m i
    have hm : refN x = evR x := by rw [evR, if_neg h2]
    refine ⟨refN x, Tr.post (Tr.cut (roC_ok true true false) 60 _ 5 (by omega) k ?_) (Ent.same rfl ?_)⟩
    · rw [hO, hsq, decide_eq_true rfl, hodd]
      have : (x % 2 == 1) = false := by simpa using h2
      rw [this]; rfl
    · show [Blk.b _, Blk.b _, Blk.b _, Blk.b _, Blk.b _] = [Blk.b _, Blk.b _, Blk.b _, Blk.b _, Blk.b _]
      rw [← hm]
theorem ro_not {a q m : List Int} {x : Int} {i : Nat} (ha : okN a = true) (hm : okP m = true) (hx0 : 0 ≤ x) (hx1 : x < Pm) (hi : i < 2) (h : ¬ x * x % Pm = vR a) :
    Tr Try.prog none 0 roB (roQ a q (refN x) m i) .normal (roQ a q (refN (x * vR m % Pm)) m ((i + 1 : Nat) : Int)) := by
  have hv := vR_refN hx0 hx1
  have hsq : ¬ sqR (refN x) = a := fun e => h (by
    have := congrArg vR e
    unfold sqR at this
    rw [hv, vR_refM] at this
    exact this)
  have hl : (sqR (refN x)).length = 16 := (okP_iff.1 (refN_ok _)).1
  have hO : roO a (refN x) i = true := by
    unfold roO
    rw [refN_ok, hl, decide_eq_true (by omega), decide_eq_true (okP_iff.1 (okN_iff.1 ha).1).1]; rfl
  have k := ro_next a q (refN x) m i
  rw [hv, iw, wrap_i64 _ (by omega) (by omega), show (i : Int) + 1 = ((i + 1 : Nat) : Int) by omega] at k
  refine Tr.post (Tr.cut (roC_ok true false false) 60 _ 5 (by omega) k ?_) (Ent.same rfl rfl)
  rw [hO, decide_eq_false hsq, refN_ok, hm]; rfl
theorem rootR_fn {a : List Int} (ha : okN a = true) : FnTr Try.prog 46 [.agg [.ints .i64 16 a]] [] (.tup [.agg [.ints .i64 16 (rootL (vR a))], .bool (rootV (vR a)).isSome]) [] := by
  have ra := okN_range ha
  generalize hm : refN (pwm (vR two16) (vR xM).toNat) = m
  have hmv : vR m = pwm 2 ((Pm - 1) / 4).toNat := by rw [← hm, vR_refN (pwm_range _ _).1 (pwm_range _ _).2, xM_val, show vR two16 = 2 by decide]
  have hmo : okP m = true := by rw [← hm]; exact refN_ok _
  have hr0 : refN (pwm (vR a) (vR xA).toNat) = refN (rA (vR a)) := by
    unfold rA
    conv => rhs; arg 1; arg 1; arg 2; rw [← pwm_one ra.1 ra.2]
    rw [pwm_mul, xA_val]
    have : ((Pm - 5) / 8).toNat + 1 = ((Pm + 3) / 8).toNat := by decide
    rw [this]
  have kh := ro_head a
  rw [hm, hr0] at kh
  have hob : (andT (andT (andT (andT (andT (andT true (andT true (okP (hvR e3)))) (andT true (okP (hvR (hvR e3))))) (andT true (okN a && okP xA))) (andT true (okP (mnF prL one16)))) (andT true (okP (hvR (mnF prL one16))))) (andT true (okN two16 && okP xM))) = true := by
    rw [hvR_ok, hvR_ok, hvR_ok, ha, mn1_ok, show okP xA = true from hvR_ok _, show okP xM = true from hvR_ok _, show okN two16 = true by decide]; rfl
  have rr : 0 ≤ rA (vR a) ∧ rA (vR a) < Pm := ⟨Int.emod_nonneg _ (by have := Pm_pos; omega), Int.emod_lt_of_pos _ Pm_pos⟩
  -- a round that finds it ends the function
  have found : ∀ {x : Int} {q' : List Int}, TrR Try.prog none 0 roB (roQ a e3 (refN (rA (vR a))) m 0) .ret (roE a (evR x) e3 q' m) → FnTr Try.prog 46 [.agg [.ints .i64 16 a]] [] (.tup [.agg [.ints .i64 16 (evR x)], .bool true]) [] := fun {x q'} hl => by
    refine (FnTr.mk (vs := [.agg [.ints .i64 16 (evR x)], .bool true]) (h := []) Try.func46 rfl (x := .ret) (s := roE a (evR x) e3 q' m) ?_ (.inl rfl) (by kernel_rfl)).post (Ent.trunc (n := 0) (by simp) (by rfl))
    refine TrL.items roC0_ok 60 6 _ 5 (by simp) kh hob (by decide) ?_
    exact TrL.leave 6 (by decide) (by simp) (Tr.loopRet 0 (by kernel_rfl) (hl.pre (Ent.same rfl rfl)))
  by_cases h1 : rA (vR a) * rA (vR a) % Pm = vR a
  · obtain ⟨q', ht⟩ := ro_found (q := e3) (m := m) (i := 0) ha rr.1 rr.2 (by omega) h1
    have hB : rB (vR a) = rA (vR a) := by unfold rB; rw [if_pos h1]
    have hV : rootV (vR a) = some (if rA (vR a) % 2 = 1 then (0 - rA (vR a)) % Pm else rA (vR a)) := by unfold rootV; rw [hB, if_pos h1]
    have e1 : rootL (vR a) = evR (rA (vR a)) := by unfold rootL; rw [hV]; rfl
    rw [e1, hV]
    exact found (TrR.leave ht (by simp))
  · have s1 := ro_not (q := e3) (m := m) (i := 0) ha hmo rr.1 rr.2 (by omega) h1
    have hB : rB (vR a) = rA (vR a) * vR m % Pm := by unfold rB; rw [if_neg h1, hmv]
    rw [← hB] at s1
    have rb : 0 ≤ rB (vR a) ∧ rB (vR a) < Pm := by rw [hB]; exact ⟨Int.emod_nonneg _ (by have := Pm_pos; omega), Int.emod_lt_of_pos _ Pm_pos⟩
    by_cases h2 : rB (vR a) * rB (vR a) % Pm = vR a
    · obtain ⟨q', ht⟩ := ro_found (q := e3) (m := m) (i := 1) ha rb.1 rb.2 (by omega) h2
      have hV : rootV (vR a) = some (if rB (vR a) % 2 = 1 then (0 - rB (vR a)) % Pm else rB (vR a)) := by unfold rootV; rw [if_pos h2]
      have e1 : rootL (vR a) = evR (rB (vR a)) := by unfold rootL; rw [hV]; rfl
      rw [e1, hV]
      exact found (TrR.step s1 (TrR.leave ht (by simp)))
    · have s2 := ro_not (q := e3) (m := m) (i := 1) ha hmo rb.1 rb.2 (by omega) h2
      have hV : rootV (vR a) = none := by unfold rootV; rw [if_neg h2]
      have e1 : rootL (vR a) = z16 := by unfold rootL; rw [hV]
      rw [e1, hV]
      generalize refN (rB (vR a) * vR m % Pm) = r2 at s2
      have k3 := ro_end a e3 r2 m 2
      have hend : Tr Try.prog none 0 roB (roQ a e3 r2 m 2) (.exit 0) (roQ a e3 r2 m 2) := Tr.post (Tr.cut (roC_ok false false false) 60 _ 5 (by omega) k3 rfl) (Ent.same rfl rfl)
      have hl : Tr Try.prog none 0 (nthC 6 (bodyOf Try.f46)) (roQ a e3 (refN (rA (vR a))) m 0) .normal (roQ a e3 r2 m 2) :=
        Tr.loopR 0 (by kernel_rfl) (TrR.step s1 (TrR.step s2 (TrR.leave hend (by simp))))
      refine FnTr.restM roC0_ok 60 7 0 Try.func46 (by simp) rfl (fun s' x h => ?_) (s := roQ a e3 r2 m 2) (p := true) (by kernel_rfl) rfl rfl rfl
      refine TrL.items roC0_ok 60 6 _ 5 (by simp) kh hob (by decide) ?_
      exact TrL.item 6 (by decide) (hl.pre (Ent.same rfl rfl)) h
noncomputable def rootEF : List SV → Option (SV × List Blk × Bool)
  | [.agg [.ints .i64 16 a]] => some (.tup [.agg [.ints .i64 16 (rootL (vR a))], .bool (rootV (vR a)).isSome], [], okN a)
  | _ => none
noncomputable def rootE : Entry Try.prog := .val 46 _ Try.func46 (by decide) rfl false 0 rootEF fun vs v new e => by
  unfold rootEF at e
  split at e
  · simp only [Option.some.injEq, Prod.mk.injEq] at e
    obtain ⟨rfl, rfl, h1⟩ := e
    exact rootR_fn h1
  · cases e
end Go.Proofs.Ytailgcdcdhhpnaa.Re
