/- This file proves the contracts of the reference's From, Bytes, half, Power. Conditions: numbers below p. -/
import Derived.Test.YtailgcdcdhhpnaaReG
namespace Go.Proofs.Ytailgcdcdhhpnaa.Re
open Go Go.Sy Fe

/-! ### From -/
abbrev uw (n : Int) : Int := IntKind.u8.wrap n
def frI (l : List Int) (i : Nat) : Int := iw (iw (l.getD (2 * i) 0) + iw (256 * iw (l.getD (2 * i + 1) 0)))
def frL (l : List Int) : List Int := (List.range 15).map (frI l) ++ [(frI l 15).tmod 32768] ++ List.replicate 16 0
theorem pair_eq {v : Int} (i : Nat) (hi : i < 16) : frI (digN 32 v) i = v / 65536 ^ i % 65536 := by
  unfold frI
  rw [digN_getD _ _ _ (by omega), digN_getD _ _ _ (by omega)]
  have h1 : v / 256 ^ (2 * i) = v / 65536 ^ i := by rw [Int.pow_mul]; rfl
  have h2 : v / 256 ^ (2 * i + 1) = v / 65536 ^ i / 256 := by
    rw [Int.pow_succ, ← Int.ediv_ediv_of_nonneg (Int.pow_nonneg (by omega)), h1]
  rw [h1, h2]
  generalize v / 65536 ^ i = Y
  rw [iw, iw, iw, iw, wrap_i64 (Y % 256) (by omega) (by omega), wrap_i64 (Y / 256 % 256) (by omega) (by omega), wrap_i64 (256 * _) (by omega) (by omega), wrap_i64 _ (by omega) (by omega)]
  omega
theorem frL_get {v : Int} (i : Nat) (hi : i < 32) : gD (frL (digN 32 v)) i = if i < 15 then v / 65536 ^ i % 65536 else if i = 15 then v / 65536 ^ 15 % 65536 % 32768 else 0 := by
  unfold gD frL
  rw [List.getD_eq_getElem?_getD, List.append_assoc]
  by_cases h : i < 15
  · rw [List.getElem?_append_left (by simpa using h), List.getElem?_map, List.getElem?_range h, if_pos h]
    show frI _ i = _
    exact pair_eq i (by omega)
  · rw [List.getElem?_append_right (by simp; omega), if_neg h]
    simp only [List.length_map, List.length_range]
    by_cases h2 : i = 15
    · subst h2
      rw [if_pos rfl]
      show (frI _ 15).tmod 32768 = _
      rw [pair_eq 15 (by omega), Int.tmod_eq_emod_of_nonneg (by omega)]
    · rw [if_neg h2, show i - 15 = (i - 16) + 1 by omega, List.singleton_append, List.getElem?_cons_succ, List.getElem?_replicate, if_pos (by omega)]; rfl
theorem frL_val {l : List Int} (hl : l.all u8 = true) (hn : l.length = 32) : okS (frL l) = true ∧ sB (gD (frL l)) 32 = val256 l % 57896044618658097711785492504343953926634992332820282019728792003956564819968 := by
  have hd := digN_val l hl
  rw [hn] at hd
  have v0 := val256_nonneg hl
  generalize val256 l = v at *
  subst hd
  have g := frL_get (v := v)
  have p15 : (65536 : Int) ^ 15 = 1766847064778384329583297500742918515827483896875618958121606201292619776 := by decide
  have e : sB (gD (frL (digN 32 v))) 32 = v % 57896044618658097711785492504343953926634992332820282019728792003956564819968 := by
    rw [sB32 (fun i h1 h2 => by rw [g i h2, if_neg (by omega), if_neg (by omega)])]
    have s1 : sB (gD (frL (digN 32 v))) 16 = sB (gD (frL (digN 32 v))) 15 + gD (frL (digN 32 v)) 15 * 65536 ^ 15 := rfl
    rw [s1, g 15 (by omega), if_neg (by omega), if_pos rfl, sB_congr (g := fun i => v / 65536 ^ i % 65536) 15 fun i hi => by rw [g i (by omega), if_pos hi], sB_dig v 15 v0, p15]
    omega
  refine ⟨okS_iff.2 ⟨⟨by simp [frL], fun i hi => ?_⟩, ?_⟩, e⟩
  · rw [g i hi]
    split
    · omega
    · split <;> omega
  · rw [e]
    show _ < (115792089237316195423570985008687907853269984665640564039457584007913129639936 : Int) * 115792089237316195423570985008687907853269984665640564039457584007913129639936
    omega
set_option maxRecDepth 100000 in
theorem fromR_fn {l : List Int} (hl : l.all u8 = true) (hn : l.length = 32) : FnTr Try.prog 40 [.agg [.ints .u8 32 l]] [] (.agg [.ints .i64 16 (refN (val256 l % 57896044618658097711785492504343953926634992332820282019728792003956564819968 % Pm))]) [] := by
  obtain ⟨h1, h2⟩ := frL_val hl hn
  have key : FnTr Try.prog 40 [.agg [.ints .u8 32 l]] [] (.agg [.ints .i64 16 (smF (frL l))]) [] :=
    call0 ctrSm 80 Try.func40 (p := andT true (andT true (okS (frL l)))) (by kernel_rfl) (by rw [h1]; rfl) rfl
  rw [smF, h2] at key
  exact key
def keyOK (l : List Int) : Bool := decide (l.length = 32) && l.all u8
theorem keyOK_iff {l : List Int} : keyOK l = true ↔ l.length = 32 ∧ l.all u8 = true := by simp [keyOK]
noncomputable def fromEF : List SV → Option (SV × List Blk × Bool)
  | [.agg [.ints .u8 32 l]] => some (.agg [.ints .i64 16 (refN (val256 l % 57896044618658097711785492504343953926634992332820282019728792003956564819968 % Pm))], [], keyOK l)
  | _ => none
noncomputable def fromE : Entry Try.prog := .val 40 _ Try.func40 (by decide) rfl false 0 fromEF fun vs v new e => by
  unfold fromEF at e
  split at e
  · simp only [Option.some.injEq, Prod.mk.injEq, keyOK_iff] at e
    obtain ⟨rfl, rfl, h1, h2⟩ := e
    exact fromR_fn h2 h1
  · cases e

/-! ### Bytes -/
def byL (a : List Int) : List Int := (List.range 32).map fun k => if k % 2 = 0 then uw ((a.getD (k / 2) 0).tmod 256) else uw (iw ((a.getD (k / 2) 0).tdiv 256))
theorem byL_val {a : List Int} (ha : okP a = true) : byL a = digN 32 (vR a) := by
  unfold byL
  rw [← dig_range]
  apply List.map_congr_left
  intro k hk
  rw [List.mem_range] at hk
  have h16 := (okP_iff.1 ha).2 (k / 2) (by omega)
  have hd : a.getD (k / 2) 0 = vR a / 65536 ^ (k / 2) % 65536 := sB_digit 16 (k / 2) (by omega) (okP_iff.1 ha).2
  rw [Int.tmod_eq_emod_of_nonneg h16.1, Int.tdiv_eq_ediv_of_nonneg h16.1, iw, wrap_i64 _ (by omega) (by omega), uw, uw, wrap_u8, wrap_u8, hd]
  by_cases he : k % 2 = 0
  · rw [if_pos he, show (256 : Int) ^ k = 65536 ^ (k / 2) by rw [show (65536 : Int) = 256 ^ 2 from rfl, ← Int.pow_mul]; congr 1; omega]
    generalize vR a / 65536 ^ (k / 2) = Y
    omega
  · rw [if_neg he, show (256 : Int) ^ k = 65536 ^ (k / 2) * 256 by rw [show (65536 : Int) = 256 ^ 2 from rfl, ← Int.pow_mul, ← Int.pow_succ]; congr 1; omega, ← Int.ediv_ediv_of_nonneg (Int.pow_nonneg (by omega))]
    generalize vR a / 65536 ^ (k / 2) = Y
    omega
set_option maxRecDepth 100000 in
theorem bytesR_fn {a : List Int} (ha : okP a = true) : FnTr Try.prog 41 [.agg [.ints .i64 16 a]] [] (.agg [.ints .u8 32 (Lock (digN 32 (vR a)))]) [] := by
  rw [Lock_eq, ← byL_val ha]
  exact call0 ctrSm 80 Try.func41 (p := true) (by kernel_rfl) rfl rfl
noncomputable def bytesEF : List SV → Option (SV × List Blk × Bool)
  | [.agg [.ints .i64 16 a]] => some (.agg [.ints .u8 32 (Lock (digN 32 (vR a)))], [], okP a)
  | _ => none
noncomputable def bytesE : Entry Try.prog := .val 41 _ Try.func41 (by decide) rfl false 0 bytesEF fun vs v new e => by
  unfold bytesEF at e
  split at e
  · simp only [Option.some.injEq, Prod.mk.injEq] at e
    obtain ⟨rfl, rfl, h1⟩ := e
    exact bytesR_fn h1
  · cases e

/-! ### half -/
def haL (a : List Int) : List Int := (List.range 16).map fun i => if i = 15 then iw ((a.getD i 0).tdiv 2) else iw (iw ((a.getD i 0).tdiv 2) + iw ((a.getD (i + 1) 0).tmod 2 * 32768))
theorem haL_val {a : List Int} (ha : okP a = true) : haL a = digR (vR a / 2) := by
  unfold haL digR
  apply List.map_congr_left
  intro i hi
  rw [List.mem_range] at hi
  have hd : ∀ j, j < 16 → a.getD j 0 = vR a / 65536 ^ j % 65536 := fun j hj => sB_digit 16 j hj (okP_iff.1 ha).2
  have r := vR_range ha
  have hsw : vR a / 2 / 65536 ^ i = vR a / 65536 ^ i / 2 := by
    rw [Int.ediv_ediv_of_nonneg (by omega), Int.mul_comm, ← Int.ediv_ediv_of_nonneg (Int.pow_nonneg (by omega))]
  rw [hsw, hd i hi]
  by_cases h15 : i = 15
  · subst h15
    rw [if_pos rfl]
    have hY : vR a / 65536 ^ 15 < 65536 := by rw [show (65536 : Int) ^ 15 = 1766847064778384329583297500742918515827483896875618958121606201292619776 by decide]; omega
    have hY0 : 0 ≤ vR a / 65536 ^ 15 := Int.ediv_nonneg r.1 (Int.pow_nonneg (by omega))
    generalize vR a / 65536 ^ 15 = Y at *
    rw [Int.tdiv_eq_ediv_of_nonneg (by omega), iw, wrap_i64 _ (by omega) (by omega)]
    omega
  · rw [if_neg h15, hd (i + 1) (by omega), Int.pow_succ, ← Int.ediv_ediv_of_nonneg (Int.pow_nonneg (by omega))]
    generalize vR a / 65536 ^ i = Y
    rw [Int.tdiv_eq_ediv_of_nonneg (by omega), Int.tmod_eq_emod_of_nonneg (by omega), iw, iw, iw, wrap_i64 (Y % 65536 / 2) (by omega) (by omega), wrap_i64 (_ * 32768) (by omega) (by omega), wrap_i64 _ (by omega) (by omega)]
    omega
set_option maxRecDepth 100000 in
theorem half_fn {a : List Int} (ha : okP a = true) : FnTr Try.prog 69 [.agg [.ints .i64 16 a]] [] (.agg [.ints .i64 16 (refN (vR a / 2))]) [] := by
  refine FnTr.conv (bs := [.agg [.ints .i64 16 (lst 16 a)]]) (h2 := []) (h1 := []) (v := .agg [.ints .i64 16 (refN (vR a / 2))]) ?_ ⟨VE.lst _ _ _, trivial⟩ trivial (VE.refl _) trivial
  rw [refN_eq, ← haL_val ha]
  exact call0 ctrSm 80 Try.func69 (p := true) (by kernel_rfl) rfl rfl
noncomputable def halfEF : List SV → Option (SV × List Blk × Bool)
  | [.agg [.ints .i64 16 a]] => some (.agg [.ints .i64 16 (refN (vR a / 2))], [], okP a)
  | _ => none
noncomputable def halfE : Entry Try.prog := .val 69 _ Try.func69 (by decide) rfl false 0 halfEF fun vs v new e => by
  unfold halfEF at e
  split at e
  · simp only [Option.some.injEq, Prod.mk.injEq] at e
    obtain ⟨rfl, rfl, h1⟩ := e
    exact half_fn h1
  · cases e

/-! ### Power -/
noncomputable def poC (x y : Bool) : Ctr := mk (P := Try.prog) [mulE] [] fun i => if i = 9 then some x else if i = 24 then some y else none
theorem poC_ok (x y : Bool) : CtrSound Try.prog (poC x y) := mk_sound _ InlOK.nil _ _
noncomputable def poB : Code := inner (inner (nthC 3 (bodyOf Try.f68)))
noncomputable def poH (a e o : List Int) : List Blk := [.b [.ints .i64 16 a], .b [.ints .i64 16 e], .b [.ints .i64 16 z16], .b [.ints .i64 16 o]]
noncomputable def poS (a e o : List Int) (i : Int) : St := ⟨slotsOf 29 [(2, .ptr 0 0 0), (3, .ptr 1 0 0), (4, .ptr 2 0 0), (5, .ptr 3 0 0), (6, .int .i64 i)], poH a e o, true⟩
def poBit (e : List Int) (i : Int) : Int := (shrI .i64 (e.getD (0 + (iw (i.tdiv 16)).toNat) 0) (IntKind.u64.wrap (i.tmod 16)).toNat).tmod 2
def poO (o : List Int) (i : Int) : Bool := andT (andT (andT (andT (andT true (decide (i ≥ 0))) (andT true (okP o && okP o))) (inB (iw (i.tdiv 16)) 16)) (decide (0 + (iw (i.tdiv 16)).toNat < 16))) (decide (0 ≤ IntKind.u64.wrap (i.tmod 16)))
noncomputable def sqR (o : List Int) : List Int := refN (vR o * vR o % Pm)
section
variable (a e o : List Int) (i : Int)
set_option maxRecDepth 100000 in
theorem po_one : (exec Try.prog (poC true true) 60 0 poB (poS a e o i)).bind (fun r => (r.2.cut [2, 3, 4, 5, 6] 4).map fun q => (r.1, q)) =
    some (.normal, ⟨(poS a e o (iw (i - 1))).t, poH a e (refN (vR (sqR o) * vR a % Pm)), andT (andT (poO o i) (poBit e i == 1)) (andT true (okP (sqR o) && okP a))⟩) := by kernel_rfl
set_option maxRecDepth 100000 in
theorem po_zero : (exec Try.prog (poC true false) 60 0 poB (poS a e o i)).bind (fun r => (r.2.cut [2, 3, 4, 5, 6] 4).map fun q => (r.1, q)) =
    some (.normal, ⟨(poS a e o (iw (i - 1))).t, poH a e (sqR o), andT (poO o i) (!(poBit e i == 1))⟩) := by kernel_rfl
set_option maxRecDepth 100000 in
theorem po_end : (exec Try.prog (poC false false) 60 0 poB (poS a e o i)).bind (fun r => (r.2.cut [2, 3, 4, 5, 6] 4).map fun q => (r.1, q)) =
    some (.exit 0, ⟨(poS a e o i).t, poH a e o, andT true (!decide (i ≥ 0))⟩) := by kernel_rfl
def one16 : List Int := 1 :: List.replicate 15 0
set_option maxRecDepth 100000 in
theorem po_head : (execL Try.prog (poC true true) 60 0 3 (atoms (bodyOf Try.f68)) ⟨slots0 Try.f68.ntmps [.agg [.ints .i64 16 a], .agg [.ints .i64 16 e]], [], true⟩).bind (St.cut [2, 3, 4, 5, 6] 4) = some (poS a e one16 255) := by kernel_rfl
end
theorem poBit_val {e : List Int} (he : okP e = true) {i : Nat} (h1 : i < 256) : poBit e i = vR e / 2 ^ i % 2 := by
  have e1 : (i : Int).tdiv 16 = ((i / 16 : Nat) : Int) := by rw [Int.tdiv_eq_ediv_of_nonneg (by omega)]; omega
  have e2 : (i : Int).tmod 16 = ((i % 16 : Nat) : Int) := by rw [Int.tmod_eq_emod_of_nonneg (by omega)]; omega
  have w1 : iw ((i / 16 : Nat) : Int) = ((i / 16 : Nat) : Int) := wrap_i64 _ (by omega) (by omega)
  have w2 : IntKind.u64.wrap ((i % 16 : Nat) : Int) = ((i % 16 : Nat) : Int) := by rw [wrap_u64]; omega
  have hd : e.getD (i / 16) 0 = vR e / 65536 ^ (i / 16) % 65536 := sB_digit 16 (i / 16) (by omega) (okP_iff.1 he).2
  unfold poBit
  rw [e1, e2, w1, w2, Int.toNat_natCast, Int.toNat_natCast, Nat.zero_add, hd, shr_eq _ _ _ (by show i % 16 ≤ 64; omega)]
  have hs : vR e / 65536 ^ (i / 16) / 2 ^ (i % 16) = vR e / 2 ^ i := by
    rw [Int.ediv_ediv_of_nonneg (Int.pow_nonneg (by omega)), show (65536 : Int) = 2 ^ 16 from rfl, ← Int.pow_mul, ← Int.pow_add]
    congr 2
    omega
  rw [← hs]
  generalize vR e / 65536 ^ (i / 16) = Y
  have hr : i % 16 = 0 ∨ i % 16 = 1 ∨ i % 16 = 2 ∨ i % 16 = 3 ∨ i % 16 = 4 ∨ i % 16 = 5 ∨ i % 16 = 6 ∨ i % 16 = 7 ∨ i % 16 = 8 ∨ i % 16 = 9 ∨ i % 16 = 10 ∨ i % 16 = 11 ∨ i % 16 = 12 ∨ i % 16 = 13 ∨ i % 16 = 14 ∨ i % 16 = 15 := by omega
  rcases hr with h | h | h | h | h | h | h | h | h | h | h | h | h | h | h | h <;> rw [h] <;> simp only [Int.reducePow] <;> rw [Int.tmod_eq_emod_of_nonneg (by omega)] <;> omega
theorem poO_iff {o : List Int} {i : Nat} (ho : okP o = true) (h1 : i < 256) : poO o i = true := by
  have e1 : (i : Int).tdiv 16 = ((i / 16 : Nat) : Int) := by rw [Int.tdiv_eq_ediv_of_nonneg (by omega)]; omega
  have e2 : (i : Int).tmod 16 = ((i % 16 : Nat) : Int) := by rw [Int.tmod_eq_emod_of_nonneg (by omega)]; omega
  have w1 : iw ((i / 16 : Nat) : Int) = ((i / 16 : Nat) : Int) := wrap_i64 _ (by omega) (by omega)
  have w2 : IntKind.u64.wrap ((i % 16 : Nat) : Int) = ((i % 16 : Nat) : Int) := by rw [wrap_u64]; omega
  have b : inB ((i / 16 : Nat) : Int) 16 = true := by unfold inB; rw [decide_eq_true (by omega), decide_eq_true (by omega)]; rfl
  unfold poO
  rw [e1, e2, w1, w2, ho, b, decide_eq_true (by omega), decide_eq_true (by omega), decide_eq_true (by omega)]; rfl
/-- The number behind the j highest bits. -/
noncomputable def poN (a e : List Int) (j : Nat) : List Int := refN (pwm (vR a) (vR e / 2 ^ (256 - j)).toNat)
theorem pwm_range (x : Int) (n : Nat) : 0 ≤ pwm x n ∧ pwm x n < Pm := ⟨Int.emod_nonneg _ (by have := Pm_pos; omega), Int.emod_lt_of_pos _ Pm_pos⟩
theorem vR_poN (a e : List Int) (j : Nat) : vR (poN a e j) = pwm (vR a) (vR e / 2 ^ (256 - j)).toNat := vR_refN (pwm_range _ _).1 (pwm_range _ _).2
theorem pwm_mul (x : Int) (m n : Nat) : pwm x m * pwm x n % Pm = pwm x (m + n) := pow_mod_mul x m n
theorem pwm_one {x : Int} (h0 : 0 ≤ x) (h1 : x < Pm) : pwm x 1 = x := by unfold pwm; rw [Int.pow_one, Int.emod_eq_of_lt h0 h1]
theorem po_step {a e : List Int} (ha : okN a = true) (he : okP e = true) {j : Nat} (hj : j < 256) : Tr Try.prog none 0 poB (poS a e (poN a e j) (255 - j)) .normal (poS a e (poN a e (j + 1)) (255 - ((j + 1 : Nat) : Int))) := by
  have hi : (255 : Int) - j = ((255 - j : Nat) : Int) := by omega
  have hw : iw (255 - (j : Int) - 1) = 255 - ((j + 1 : Nat) : Int) := by rw [iw, wrap_i64 _ (by omega) (by omega)]; omega
  have ho := poO_iff (o := poN a e j) (i := 255 - j) (refN_ok _) (by omega)
  have hb := poBit_val he (i := 255 - j) (by omega)
  have r := vR_range he
  have ra := okN_range ha
  have hE : vR e / 2 ^ (256 - (j + 1)) = 2 * (vR e / 2 ^ (256 - j)) + vR e / 2 ^ (255 - j) % 2 := by
    have h1 : vR e / 2 ^ (256 - j) = vR e / 2 ^ (255 - j) / 2 := by
      rw [Int.ediv_ediv_of_nonneg (Int.pow_nonneg (by omega)), show 256 - j = (255 - j) + 1 by omega, Int.pow_succ]
    rw [h1, show 256 - (j + 1) = 255 - j by omega]
    omega
  have hnn : 0 ≤ vR e / 2 ^ (256 - j) := Int.ediv_nonneg r.1 (Int.pow_nonneg (by omega))
  have hsq : sqR (poN a e j) = refN (pwm (vR a) (2 * (vR e / 2 ^ (256 - j))).toNat) := by
    unfold sqR
    rw [vR_poN, pwm_mul]
    congr 2
    omega
  cases hc : (poBit e ((255 - j : Nat) : Int) == 1) with
  | true =>
    have k := po_one a e (poN a e j) (255 - j)
    rw [hw, hi] at k
    rw [hi]
    have h1 : vR e / 2 ^ (255 - j) % 2 = 1 := by rw [beq_iff_eq, hb] at hc; exact hc
    refine Tr.post (Tr.cut (poC_ok true true) 60 _ 4 (by omega) k ?_) (Ent.same rfl ?_)
    · rw [ho, hc, hsq, refN_ok, (okN_iff.1 ha).1]; rfl
    · show poH _ _ _ = poH _ _ _
      rw [hsq, vR_refN (pwm_range _ _).1 (pwm_range _ _).2]
      conv => lhs; arg 3; arg 1; arg 1; arg 2; rw [← pwm_one ra.1 ra.2]
      rw [pwm_mul, poN, hE, h1, show (2 * (vR e / 2 ^ (256 - j)) + 1).toNat = (2 * (vR e / 2 ^ (256 - j))).toNat + 1 by omega]
  | false =>
    have k := po_zero a e (poN a e j) (255 - j)
    rw [hw, hi] at k
    rw [hi]
    have h1 : vR e / 2 ^ (255 - j) % 2 = 0 := by rw [beq_eq_false_iff_ne, hb] at hc; omega
    refine Tr.post (Tr.cut (poC_ok true false) 60 _ 4 (by omega) k ?_) (Ent.same rfl ?_)
    · rw [ho, hc]; rfl
    · show poH _ _ _ = poH _ _ _
      rw [hsq, poN, hE, h1, Int.add_zero]
theorem powR_fn {a e : List Int} (ha : okN a = true) (he : okP e = true) : FnTr Try.prog 68 [.agg [.ints .i64 16 a], .agg [.ints .i64 16 e]] [] (.agg [.ints .i64 16 (refN (pwm (vR a) (vR e).toNat))]) [] := by
  have h0 : poN a e 0 = one16 := by
    have r := vR_range he
    rw [poN, Nat.sub_zero, show vR e / 2 ^ 256 = 0 by rw [show (2 : Int) ^ 256 = 115792089237316195423570985008687907853269984665640564039457584007913129639936 by decide]; omega, refN_eq]
    rw [show pwm (vR a) (Int.toNat 0) = 1 by simp only [pwm, Int.toNat_zero, Int.pow_zero]; decide]
    decide
  have hloop : Tr Try.prog none 0 (nthC 3 (bodyOf Try.f68)) (poS a e one16 255) .normal (poS a e (poN a e 256) (-1)) := by
    have key := Tr.loop (P := Try.prog) (ro := none) (k := 0) 0 (c := nthC 3 (bodyOf Try.f68)) (by kernel_rfl) (fun j : Nat => poS a e (poN a e j) (255 - j)) 256 (s' := poS a e (poN a e 256) (-1)) (fun j hj => ?_) ?_
    · rw [← h0]; exact key
    · exact po_step ha he hj
    · have k := po_end a e (poN a e 256) (-1)
      exact Tr.post (Tr.cut (poC_ok false false) 60 _ 4 (by omega) k rfl) (Ent.same rfl rfl)
  have e256 : refN (pwm (vR a) (vR e).toNat) = poN a e 256 := by rw [poN, Nat.sub_self, Int.pow_zero, Int.ediv_one]
  rw [e256]
  refine FnTr.restM (poC_ok true true) 60 4 0 Try.func68 (by simp) rfl (fun s' x h => ?_) (s := poS a e (poN a e 256) (-1)) (p := true) (by kernel_rfl) rfl rfl rfl
  refine TrL.items (poC_ok true true) 60 3 _ 4 (by simp) (po_head a e) rfl (by decide) ?_
  exact TrL.item 3 (by decide) hloop h
noncomputable def powEF : List SV → Option (SV × List Blk × Bool)
  | [.agg [.ints .i64 16 a], .agg [.ints .i64 16 e]] => some (.agg [.ints .i64 16 (refN (pwm (vR a) (vR e).toNat))], [], okN a && okP e)
  | _ => none
noncomputable def powE : Entry Try.prog := .val 68 _ Try.func68 (by decide) rfl false 0 powEF fun vs v new e => by
  unfold powEF at e
  split at e
  · simp only [Option.some.injEq, Prod.mk.injEq, Bool.and_eq_true] at e
    obtain ⟨rfl, rfl, h1, h2⟩ := e
    exact powR_fn h1 h2
  · cases e
end Go.Proofs.Ytailgcdcdhhpnaa.Re
