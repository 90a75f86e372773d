/- This file proves the contract of the reference's Times, and that both Times are the curve's multiples. Conditions: points that stand for one; bytes within their kind. -/
import Derived.Test.YtkoohnpknhoahaaTPoR
set_option linter.all false
namespace Go.Proofs.Ytkoohnpknhoahaa.Po
open Go Go.Sy Re Fe
abbrev cQ (q : QP) : List SV := [.ints .i64 16 q.1, .ints .i64 16 q.2.1, .ints .i64 16 q.2.2]
def rtBit (e : List Int) (i : Int) : Int := (shrI .u8 (e.getD (0 + (IntKind.i64.wrap (i.tdiv 8)).toNat) 0) (IntKind.u64.wrap (i.tmod 8)).toNat).tmod 2
def rtO (o : QP) (i : Int) : Bool := andT (andT (andT (andT (andT true (decide (i ≥ 0))) (andT true (okQ o && okQ o))) (inB (IntKind.i64.wrap (i.tdiv 8)) 32)) (decide (0 + (IntKind.i64.wrap (i.tdiv 8)).toNat < 32))) (decide (0 ≤ IntKind.u64.wrap (i.tmod 8)))
noncomputable def rtN (q : QP) (e : List Int) : Nat → QP
  | 0 => nothQ
  | j + 1 => bif (rtBit e (255 - j) == 1) then addQ (addQ (rtN q e j) (rtN q e j)) q else addQ (rtN q e j) (rtN q e j)
noncomputable def rtC (x y : Bool) : Ctr := mk (P := Try.prog) [nothingRE, addRE] [] fun i => if i = 9 then some x else if i = 24 then some y else none
theorem rtC_ok (x y : Bool) : CtrSound Try.prog (rtC x y) := mk_sound _ InlOK.nil _ _
noncomputable def rtB : Code := inner (inner (nthC 3 (bodyOf Try.f52)))
noncomputable def rtH (e : List Int) (q o : QP) : List Blk := [.b (cQ q), .b [.ints .u8 32 e], .b (cQ (z16, z16, z16)), .b (cQ o)]
noncomputable def rtS (e : List Int) (q o : QP) (i : Int) : St := ⟨slotsOf 29 [(2, .ptr 0 0 0), (3, .ptr 1 0 0), (4, .ptr 2 0 0), (5, .ptr 3 0 0), (6, .int .i64 i)], rtH e q o, true⟩
section
variable (e : List Int) (q o : QP) (i : Int)
set_option maxRecDepth 100000 in
theorem rt_one : (exec Try.prog (rtC true true) 60 0 rtB (rtS e q o i)).bind (fun r => (r.2.cut [2, 3, 4, 5, 6] 4).map fun z => (r.1, z)) =
    some (.normal, ⟨(rtS e q o (iw (i - 1))).t, rtH e q (addQ (addQ o o) q), andT (andT (rtO o i) (rtBit e i == 1)) (andT true (okQ (addQ o o) && okQ q))⟩) := by kernel_rfl
set_option maxRecDepth 100000 in
theorem rt_zero : (exec Try.prog (rtC true false) 60 0 rtB (rtS e q o i)).bind (fun r => (r.2.cut [2, 3, 4, 5, 6] 4).map fun z => (r.1, z)) =
    some (.normal, ⟨(rtS e q o (iw (i - 1))).t, rtH e q (addQ o o), andT (rtO o i) (!(rtBit e i == 1))⟩) := by kernel_rfl
set_option maxRecDepth 100000 in
theorem rt_end : (exec Try.prog (rtC false false) 60 0 rtB (rtS e q o i)).bind (fun r => (r.2.cut [2, 3, 4, 5, 6] 4).map fun z => (r.1, z)) =
    some (.exit 0, ⟨(rtS e q o i).t, rtH e q o, andT true (!decide (i ≥ 0))⟩) := by kernel_rfl
set_option maxRecDepth 100000 in
theorem rt_head : (execL Try.prog (rtC true true) 60 0 3 (atoms (bodyOf Try.f52)) ⟨slots0 Try.f52.ntmps [svQ q, .agg [.ints .u8 32 e]], [], true⟩).bind (St.cut [2, 3, 4, 5, 6] 4) = some (rtS e q nothQ 255) := by kernel_rfl
end
theorem addQ_ok (p q : QP) : okQ (addQ p q) = true := by
  rw [addQ, Lock_eq]
  exact okQ_iff.2 ⟨refM_okN _, refM_okN _, refM_okN _⟩
theorem rtN_ok (q : QP) (e : List Int) : ∀ j, okQ (rtN q e j) = true
  | 0 => nothQ_val.ok
  | j + 1 => by
    rw [rtN]
    cases (rtBit e (255 - j) == 1) with
    | true => exact addQ_ok _ _
    | false => exact addQ_ok _ _
theorem rtO_iff {o : QP} {i : Nat} (ho : okQ o = true) (h1 : i < 256) : rtO o i = true := by
  have e1 : (i : Int).tdiv 8 = ((i / 8 : Nat) : Int) := by rw [Int.tdiv_eq_ediv_of_nonneg (by omega)]; omega
  have e2 : (i : Int).tmod 8 = ((i % 8 : Nat) : Int) := by rw [Int.tmod_eq_emod_of_nonneg (by omega)]; omega
  have w1 : IntKind.i64.wrap ((i / 8 : Nat) : Int) = ((i / 8 : Nat) : Int) := wrap_i64 _ (by omega) (by omega)
  have w2 : IntKind.u64.wrap ((i % 8 : Nat) : Int) = ((i % 8 : Nat) : Int) := by rw [wrap_u64]; omega
  have b : inB ((i / 8 : Nat) : Int) 32 = true := by unfold inB; rw [decide_eq_true (by omega), decide_eq_true (by omega)]; rfl
  unfold rtO
  rw [e1, e2, w1, w2, ho, b, decide_eq_true (by omega), decide_eq_true (by omega), decide_eq_true (by omega)]; rfl
theorem rt_step {q : QP} (hq : okQ q = true) (e : List Int) {j : Nat} (hj : j < 256) : Tr Try.prog none 0 rtB (rtS e q (rtN q e j) (255 - j)) .normal (rtS e q (rtN q e (j + 1)) (255 - ((j + 1 : Nat) : Int))) := by
  have hi : (255 : Int) - j = ((255 - j : Nat) : Int) := by omega
  have hw : iw (255 - (j : Int) - 1) = 255 - ((j + 1 : Nat) : Int) := by rw [iw, wrap_i64 _ (by omega) (by omega)]; omega
  have ho := rtO_iff (o := rtN q e j) (i := 255 - j) (rtN_ok q e j) (by omega)
  rw [← hi] at ho
  cases hc : (rtBit e (255 - (j : Int)) == 1) with
  | true =>
    have k := rt_one e q (rtN q e j) (255 - j)
    rw [hw] at k
    refine Tr.post (Tr.cut (rtC_ok true true) 60 _ 4 (by omega) k ?_) (Ent.same rfl ?_)
    · rw [ho, hc, addQ_ok, hq]; rfl
    · show rtH _ _ _ = rtH _ _ _
      rw [rtN, hc]; rfl
  | false =>
    have k := rt_zero e q (rtN q e j) (255 - j)
    rw [hw] at k
    refine Tr.post (Tr.cut (rtC_ok true false) 60 _ 4 (by omega) k ?_) (Ent.same rfl ?_)
    · rw [ho, hc]; rfl
    · show rtH _ _ _ = rtH _ _ _
      rw [rtN, hc]; rfl
noncomputable def timesQ (q : QP) (e : List Int) : QP := Lock (rtN q e 256)
theorem timesR_fn {q : QP} (e : List Int) (hq : okQ q = true) : FnTr Try.prog 52 [svQ q, .agg [.ints .u8 32 e]] [] (svQ (timesQ q e)) [] := by
  rw [timesQ, Lock_eq]
  have hloop : Tr Try.prog none 0 (nthC 3 (bodyOf Try.f52)) (rtS e q nothQ 255) .normal (rtS e q (rtN q e 256) (-1)) := by
    have key := Tr.loop (P := Try.prog) (ro := none) (k := 0) 0 (c := nthC 3 (bodyOf Try.f52)) (by kernel_rfl) (fun j : Nat => rtS e q (rtN q e j) (255 - j)) 256 (s' := rtS e q (rtN q e 256) (-1)) (fun j hj => ?_) ?_
    · exact key
    · exact rt_step hq e hj
    · have k := rt_end e q (rtN q e 256) (-1)
      exact Tr.post (Tr.cut (rtC_ok false false) 60 _ 4 (by omega) k rfl) (Ent.same rfl rfl)
  refine FnTr.restM (rtC_ok true true) 60 4 0 Try.func52 (by simp) rfl (fun s' x h => ?_) (s := rtS e q (rtN q e 256) (-1)) (p := true) (by kernel_rfl) rfl rfl rfl
  refine TrL.items (rtC_ok true true) 60 3 _ 4 (by simp) (rt_head e q) rfl (by decide) ?_
  exact TrL.item 3 (by decide) hloop h
noncomputable def timesREF : List SV → Option (SV × List Blk × Bool)
  | [.agg [.ints .i64 16 x, .ints .i64 16 y, .ints .i64 16 z], .agg [.ints .u8 32 e]] => some (svQ (timesQ (x, y, z) e), [], okQ (x, y, z))
  | _ => none
noncomputable def timesRE : Entry Try.prog := .val 52 _ Try.func52 (by decide) rfl false 0 timesREF fun vs v new e => by
  unfold timesREF at e
  split at e
  · simp only [Option.some.injEq, Prod.mk.injEq] at e
    obtain ⟨rfl, rfl, h1⟩ := e
    exact timesR_fn _ h1
  · cases e
theorem rtBit_val {e : List Int} (he : keyOK e = true) {i : Nat} (h1 : i < 256) : rtBit e i = val256 e / 2 ^ i % 2 := by
  obtain ⟨hn, he⟩ := keyOK_iff.1 he
  have hd := digN_val e he
  rw [hn] at hd
  generalize val256 e = v at *
  have e1 : (i : Int).tdiv 8 = ((i / 8 : Nat) : Int) := by rw [Int.tdiv_eq_ediv_of_nonneg (by omega)]; omega
  have e2 : (i : Int).tmod 8 = ((i % 8 : Nat) : Int) := by rw [Int.tmod_eq_emod_of_nonneg (by omega)]; omega
  have w1 : IntKind.i64.wrap ((i / 8 : Nat) : Int) = ((i / 8 : Nat) : Int) := wrap_i64 _ (by omega) (by omega)
  have w2 : IntKind.u64.wrap ((i % 8 : Nat) : Int) = ((i % 8 : Nat) : Int) := by rw [wrap_u64]; omega
  unfold rtBit
  rw [e1, e2, w1, w2, Int.toNat_natCast, Int.toNat_natCast, Nat.zero_add, hd, digN_getD _ _ _ (by omega)]
  rw [shr_eq _ _ _ (by show i % 8 ≤ 8; omega)]
  have hs : v / 256 ^ (i / 8) / 2 ^ (i % 8) = v / 2 ^ i := by
    rw [Int.ediv_ediv_of_nonneg (Int.pow_nonneg (by omega)), show (256 : Int) = 2 ^ 8 from rfl, ← Int.pow_mul, ← Int.pow_add]
    congr 2
    omega
  rw [← hs]
  generalize v / 256 ^ (i / 8) = Y
  have hr : i % 8 = 0 ∨ i % 8 = 1 ∨ i % 8 = 2 ∨ i % 8 = 3 ∨ i % 8 = 4 ∨ i % 8 = 5 ∨ i % 8 = 6 ∨ i % 8 = 7 := by omega
  rcases hr with h | h | h | h | h | h | h | h <;> rw [h] <;> simp only [Int.reducePow] <;> rw [Int.tmod_eq_emod_of_nonneg (by omega)] <;> omega
def numB (e : List Int) : Nat := (val256 e).toNat
theorem numB_lt {e : List Int} (he : keyOK e = true) : numB e < 2 ^ 256 := by
  obtain ⟨hn, he⟩ := keyOK_iff.1 he
  have h0 := val256_nonneg he
  have h1 := val256_lt he
  rw [hn, show (256 : Int) ^ 32 = 115792089237316195423570985008687907853269984665640564039457584007913129639936 by decide] at h1
  unfold numB
  rw [show (2 : Nat) ^ 256 = 115792089237316195423570985008687907853269984665640564039457584007913129639936 by decide]
  omega
theorem numB_bit {e : List Int} (he : keyOK e = true) (i : Nat) : val256 e / 2 ^ i % 2 = ((numB e / 2 ^ i % 2 : Nat) : Int) := by
  have h0 := val256_nonneg (keyOK_iff.1 he).2
  unfold numB
  rw [Int.natCast_emod, Int.natCast_ediv, Int.toNat_of_nonneg h0, Int.natCast_pow]
  rfl
theorem dbl_mul {A : Pt} (hA : On A) (n : Nat) {j : Nat} (hj : j < 256) :
    mulA A (n / 2 ^ (256 - (j + 1))) = if n / 2 ^ (255 - j) % 2 = 1 then addA (addA (mulA A (n / 2 ^ (256 - j))) (mulA A (n / 2 ^ (256 - j)))) A else addA (mulA A (n / 2 ^ (256 - j))) (mulA A (n / 2 ^ (256 - j))) := by
  have hE : n / 2 ^ (256 - (j + 1)) = (n / 2 ^ (256 - j) + n / 2 ^ (256 - j)) + n / 2 ^ (255 - j) % 2 := by
    have h1 : n / 2 ^ (256 - j) = n / 2 ^ (255 - j) / 2 := by
      rw [Nat.div_div_eq_div_mul, show 256 - j = (255 - j) + 1 by omega, Nat.pow_succ]
    rw [h1, show 256 - (j + 1) = 255 - j by omega]
    omega
  rw [hE]
  by_cases h : n / 2 ^ (255 - j) % 2 = 1
  · rw [if_pos h, h, mulA_succ, mul_addA hA]
  · rw [if_neg h, show n / 2 ^ (255 - j) % 2 = 0 by omega, Nat.add_zero, mul_addA hA]
theorem sum_RP {p q : PP} {a b : V4} {A B : Pt} (hp : VP p a) (ha : RV a A) (hq : VP q b) (hb : RV b B) : ∃ c, VP (sumP (Lock dF) p q) c ∧ RV c (addA A B) := by
  have := sum_val dF_val.1 hp hq
  rw [dF_val.2] at this
  exact ⟨_, this, sum_RV ha hb⟩
theorem tiN_val {p : PP} {a : V4} {A : Pt} {e : List Int} (he : keyOK e = true) (hp : VP p a) (ha : RV a A) : ∀ j, j ≤ 256 → ∃ c, VP (tiN p e j) c ∧ RV c (mulA A (numB e / 2 ^ (256 - j)))
  | 0, _ => by
    rw [Nat.sub_zero, Nat.div_eq_of_lt (numB_lt he), mulA_zero]
    obtain ⟨v, h1, h2⟩ := zero_RP
    exact ⟨v, h1.w, h2⟩
  | j + 1, hj => by
    obtain ⟨c, c1, c2⟩ := tiN_val he hp ha j (by omega)
    obtain ⟨c', c3, c4⟩ := sum_RP c1 c2 c1 c2
    have hb : bitI e (255 - (j : Int)) = ((numB e / 2 ^ (255 - j) % 2 : Nat) : Int) := by
      have hi : (255 : Int) - j = ((255 - j : Nat) : Int) := by omega
      rw [hi, bit_val (keyOK_iff.1 he).2 (keyOK_iff.1 he).1 (by omega), numB_bit he]
    rw [dbl_mul ha.on _ (by omega), tiN, hb]
    by_cases h : numB e / 2 ^ (255 - j) % 2 = 1
    · rw [if_pos h, h]
      exact sum_RP c3 c4 hp ha
    · rw [if_neg h, show numB e / 2 ^ (255 - j) % 2 = 0 by omega]
      exact ⟨c', c3, c4⟩
theorem RP.times {p : PP} {A : Pt} {e : List Int} (he : keyOK e = true) (hp : RP p A) : RP (timesP p e) (mulA A (numB e)) := by
  obtain ⟨v, v1, v2⟩ := hp
  obtain ⟨c, c1, c2⟩ := tiN_val he v1.w v2 256 (Nat.le_refl _)
  rw [Nat.sub_self, Nat.pow_zero, Nat.div_one] at c2
  rw [timesP, Lock_eq]
  exact c1.rp c2
theorem rtN_val {q : QP} {A : Pt} {e : List Int} (he : keyOK e = true) (hq : RQ q A) : ∀ j, j ≤ 256 → RQ (rtN q e j) (mulA A (numB e / 2 ^ (256 - j)))
  | 0, _ => by
    rw [Nat.sub_zero, Nat.div_eq_of_lt (numB_lt he), mulA_zero]
    exact noth_RQ
  | j + 1, hj => by
    have ih := rtN_val he hq j (by omega)
    have hb : rtBit e (255 - (j : Int)) = ((numB e / 2 ^ (255 - j) % 2 : Nat) : Int) := by
      have hi : (255 : Int) - j = ((255 - j : Nat) : Int) := by omega
      rw [hi, rtBit_val he (by omega), numB_bit he]
    rw [dbl_mul hq.on _ (by omega), rtN, hb]
    by_cases h : numB e / 2 ^ (255 - j) % 2 = 1
    · rw [if_pos h, h]
      exact (ih.add ih).add hq
    · rw [if_neg h, show numB e / 2 ^ (255 - j) % 2 = 0 by omega]
      exact ih.add ih
theorem RQ.times {q : QP} {A : Pt} {e : List Int} (he : keyOK e = true) (hq : RQ q A) : RQ (timesQ q e) (mulA A (numB e)) := by
  have := rtN_val he hq 256 (Nat.le_refl _)
  rw [Nat.sub_self, Nat.pow_zero, Nat.div_one] at this
  rw [timesQ, Lock_eq]
  exact this
end Go.Proofs.Ytkoohnpknhoahaa.Po
