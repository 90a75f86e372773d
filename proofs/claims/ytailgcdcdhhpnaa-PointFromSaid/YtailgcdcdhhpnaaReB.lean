/- This file proves the contracts of the reference's prime, atLeast, minus. Conditions: parts within 16 bits. -/
import Derived.Test.YtailgcdcdhhpnaaReA
namespace Go.Proofs.Ytailgcdcdhhpnaa.Re
open Go Go.Sy Fe

/-! ### prime -/
def prL : List Int := [65517, 65535, 65535, 65535, 65535, 65535, 65535, 65535, 65535, 65535, 65535, 65535, 65535, 65535, 65535, 32767]
theorem prL_ok : okP prL = true := by decide
theorem prL_val : vR prL = Pm := by decide
def primeEF : List SV → Option (SV × List Blk × Bool)
  | [] => some (.agg [.ints .i64 16 prL], [], true)
  | _ => none
set_option maxRecDepth 100000 in
noncomputable def primeE : Entry Try.prog := .val 67 _ Try.func67 (by decide) rfl false 0 primeEF fun vs v new e => by
  unfold primeEF at e
  split at e
  · cases e
    exact call0 ctr0 20 Try.func67 (p := true) (by kernel_rfl) rfl rfl
  · cases e

/-! ### atLeast -/
def ixO (i : Int) (o : Bool) : Bool := andT (andT o (inB i 16)) (decide (0 + i.toNat < 16))
theorem ixO_iff {i : Int} {o : Bool} (h0 : 0 ≤ i) (h1 : i < 16) (ho : o = true) : ixO i o = true := by
  subst ho; unfold ixO inB
  rw [decide_eq_true h0, decide_eq_true (show i < (16 : Nat) by omega), decide_eq_true (show 0 + i.toNat < 16 by omega)]; rfl
noncomputable def alC (x y : Bool) : Ctr := mk (P := Try.prog) [] [] fun i => if i = 7 then some x else if i = 16 then some y else none
theorem alC_ok (x y : Bool) : CtrSound Try.prog (alC x y) := mk_sound _ InlOK.nil _ _
noncomputable def alB : Code := inner (inner (nthC 2 (bodyOf Try.f76)))
noncomputable def alH (a b : List Int) : List Blk := [.b [.ints .i64 16 a], .b [.ints .i64 16 b]]
noncomputable def alS (a b : List Int) (i : Int) : St := ⟨slotsOf 24 [(2, .ptr 0 0 0), (3, .ptr 1 0 0), (5, .int .i64 i)], alH a b, true⟩
section
variable (a b : List Int) (i : Int)
set_option maxRecDepth 100000 in
theorem al_ne : (exec Try.prog (alC true true) 40 0 alB (alS a b i)).bind (fun r => (r.2.cut [4] 2).map fun q => (r.1, q)) =
    some (.ret, ⟨slotsOf 24 [(4, .bool (decide (a.getD (0 + i.toNat) 0 > b.getD (0 + i.toNat) 0)))], alH a b, ixO i (ixO i (andT (ixO i (ixO i (andT true (decide (i ≥ 0))))) (a.getD (0 + i.toNat) 0 != b.getD (0 + i.toNat) 0)))⟩) := by kernel_rfl
set_option maxRecDepth 100000 in
theorem al_eq : (exec Try.prog (alC true false) 40 0 alB (alS a b i)).bind (fun r => (r.2.cut [2, 3, 5] 2).map fun q => (r.1, q)) =
    some (.normal, ⟨(alS a b (IntKind.i64.wrap (i - 1))).t, alH a b, andT (ixO i (ixO i (andT true (decide (i ≥ 0))))) (!(a.getD (0 + i.toNat) 0 != b.getD (0 + i.toNat) 0))⟩) := by kernel_rfl
set_option maxRecDepth 100000 in
theorem al_end : (exec Try.prog (alC false false) 40 0 alB (alS a b i)).bind (fun r => (r.2.cut [2, 3, 5] 2).map fun q => (r.1, q)) =
    some (.exit 0, ⟨(alS a b i).t, alH a b, andT true (!decide (i ≥ 0))⟩) := by kernel_rfl
set_option maxRecDepth 100000 in
theorem al_head : (execL Try.prog (alC true true) 40 0 2 (atoms (bodyOf Try.f76)) ⟨slots0 Try.f76.ntmps [.agg [.ints .i64 16 a], .agg [.ints .i64 16 b]], [], true⟩).bind (St.cut [2, 3, 5] 2) = some (alS a b 15) := by kernel_rfl
end
theorem top_diff (f g : Nat → Int) : ∀ n : Nat, (∀ i, i < n → f i = g i) ∨ ∃ m, m < n ∧ f m ≠ g m ∧ ∀ i, m < i → i < n → f i = g i
  | 0 => .inl fun i hi => by omega
  | n + 1 => by
    by_cases h : f n = g n
    · rcases top_diff f g n with q | ⟨m, h1, h2, h3⟩
      · exact .inl fun i hi => by
          by_cases hn : i = n
          · subst hn; exact h
          · exact q i (by omega)
      · exact .inr ⟨m, by omega, h2, fun i h4 h5 => by
          by_cases hn : i = n
          · subst hn; exact h
          · exact h3 i h4 (by omega)⟩
    · exact .inr ⟨n, by omega, h, fun i h4 h5 => by omega⟩
theorem al_step {a b : List Int} {j : Nat} (hj : j < 16) (h : a.getD (15 - j) 0 = b.getD (15 - j) 0) : Tr Try.prog none 0 alB (alS a b (15 - j)) .normal (alS a b (15 - ((j + 1 : Nat) : Int))) := by
  have k := al_eq a b (15 - j)
  have e1 : IntKind.i64.wrap (15 - (j : Int) - 1) = 15 - ((j + 1 : Nat) : Int) := by rw [wrap_i64 _ (by omega) (by omega)]; omega
  have e2 : 0 + (15 - (j : Int)).toNat = 15 - j := by omega
  rw [e1, e2] at k
  refine Tr.post (Tr.cut (alC_ok true false) 40 _ 2 (by omega) k ?_) (Ent.same rfl rfl)
  rw [andT_iff]
  refine ⟨ixO_iff (by omega) (by omega) (ixO_iff (by omega) (by omega) (by rw [decide_eq_true (by omega)]; rfl)), ?_⟩
  rw [h]; simp
theorem al_fn {a b : List Int} (ha : okP a = true) (hb : okP b = true) : FnTr Try.prog 76 [.agg [.ints .i64 16 a], .agg [.ints .i64 16 b]] [] (.bool (decide (vR b ≤ vR a))) [] := by
  have ha' := (okP_iff.1 ha).2
  have hb' := (okP_iff.1 hb).2
  rcases top_diff (gD a) (gD b) 16 with hall | ⟨m, hm, hne, hab⟩
  · have hv : vR a = vR b := sB_congr 16 hall
    rw [decide_eq_true (show vR b ≤ vR a by omega)]
    have hloop : Tr Try.prog none 0 (nthC 2 (bodyOf Try.f76)) (alS a b 15) .normal (alS a b (-1)) := by
      have key := Tr.loop (P := Try.prog) (ro := none) (k := 0) 0 (c := nthC 2 (bodyOf Try.f76)) (by kernel_rfl) (fun j : Nat => alS a b (15 - j)) 16 (s' := alS a b (-1)) (fun j hj => ?_) ?_
      · exact key
      · have q := hall (15 - j) (by omega)
        exact al_step hj q
      · have k := al_end a b (-1)
        exact Tr.post (Tr.cut (alC_ok false false) 40 _ 2 (by omega) k rfl) (Ent.same rfl rfl)
    refine FnTr.restM (alC_ok true true) 40 3 0 Try.func76 (by simp) rfl (fun s' x h => ?_) (s := alS a b (-1)) (p := true) (by kernel_rfl) rfl rfl rfl
    refine TrL.items (alC_ok true true) 40 2 _ 2 (by simp) (al_head a b) rfl (by decide) ?_
    exact TrL.item 2 (by decide) hloop h
  · have hv : decide (vR b ≤ vR a) = decide (a.getD m 0 > b.getD m 0) := by
      rcases Int.lt_or_gt_of_ne hne with h | h
      · have h1 : vR a < vR b := sB_lt (f := gD a) (g := gD b) hm ha' hb' hab h
        have h' : a.getD m 0 < b.getD m 0 := h
        rw [decide_eq_false (by omega), decide_eq_false (by omega)]
      · have h1 : vR b < vR a := sB_lt (f := gD b) (g := gD a) hm hb' ha' (fun i h1 h2 => (hab i h1 h2).symm) h
        have h' : b.getD m 0 < a.getD m 0 := h
        rw [decide_eq_true (by omega), decide_eq_true (by omega)]
    rw [hv]
    have hlast : Tr Try.prog none 0 alB (alS a b (15 - ((15 - m : Nat) : Int))) .ret ⟨slotsOf 24 [(4, .bool (decide (a.getD m 0 > b.getD m 0)))], alH a b, true⟩ := by
      have k := al_ne a b (15 - ((15 - m : Nat) : Int))
      have e2 : 0 + ((15 : Int) - ((15 - m : Nat) : Int)).toNat = m := by omega
      rw [e2] at k
      refine Tr.post (Tr.cut (alC_ok true true) 40 _ 2 (by omega) k ?_) (Ent.same rfl rfl)
      refine ixO_iff (by omega) (by omega) (ixO_iff (by omega) (by omega) ?_)
      rw [andT_iff]
      refine ⟨ixO_iff (by omega) (by omega) (ixO_iff (by omega) (by omega) (by rw [decide_eq_true (by omega)]; rfl)), ?_⟩
      exact bne_iff_ne.2 hne
    have hloop : TrR Try.prog none 0 alB (alS a b 15) .ret ⟨slotsOf 24 [(4, .bool (decide (a.getD m 0 > b.getD m 0)))], alH a b, true⟩ :=
      by
        refine TrR.for (by simp) (fun j : Nat => alS a b (15 - j)) (15 - m) (fun j hj => ?_) hlast
        have q := hab (15 - j) (by omega) (by omega)
        exact al_step (by omega) q
    refine (FnTr.mk (vs := [.bool (decide (a.getD m 0 > b.getD m 0))]) (h := []) Try.func76 rfl (x := .ret) (s := ⟨slotsOf 24 [(4, .bool (decide (a.getD m 0 > b.getD m 0)))], alH a b, true⟩) ?_ (.inl rfl) (by kernel_rfl)).post (Ent.trunc (n := 0) (by simp) (by rfl))
    refine TrL.items (alC_ok true true) 40 2 _ 2 (by simp) (al_head a b) rfl (by decide) ?_
    exact TrL.leave 2 (by decide) (by simp) (Tr.loopRet 0 (by kernel_rfl) hloop)
noncomputable def alEF : List SV → Option (SV × List Blk × Bool)
  | [.agg [.ints .i64 16 a], .agg [.ints .i64 16 b]] => some (.bool (decide (vR b ≤ vR a)), [], okP a && okP b)
  | _ => none
noncomputable def atLeastE : Entry Try.prog := .val 76 _ Try.func76 (by decide) rfl false 0 alEF fun vs v new e => by
  unfold alEF at e
  split at e
  · simp only [Option.some.injEq, Prod.mk.injEq, Bool.and_eq_true] at e
    obtain ⟨rfl, rfl, ha, hb⟩ := e
    exact al_fn ha hb
  · cases e

/-! ### minus -/
/-- What is borrowed ahead of the j-th part. -/
def bw (a b : List Int) : Nat → Int
  | 0 => 0
  | j + 1 => if a.getD j 0 - b.getD j 0 - bw a b j < 0 then 1 else 0
def mnD (a b : List Int) (j : Nat) : Int := a.getD j 0 - b.getD j 0 - bw a b j + 65536 * bw a b (j + 1)
/-- The parts behind j steps. -/
def mnL (a b : List Int) : Nat → List Int
  | 0 => a
  | j + 1 => (mnL a b j).set j (mnD a b j)
theorem mnL_length (a b : List Int) : ∀ j, (mnL a b j).length = a.length
  | 0 => rfl
  | j + 1 => by rw [mnL, List.length_set, mnL_length a b j]
theorem mnL_get (a b : List Int) : ∀ (j i : Nat), i < a.length → (mnL a b j).getD i 0 = if i < j then mnD a b i else a.getD i 0
  | 0, i, _ => rfl
  | j + 1, i, h => by
    rw [mnL, List.getD_eq_getElem?_getD]
    by_cases hij : j = i
    · subst hij
      rw [List.getElem?_set_self (by rw [mnL_length]; exact h), if_pos (by omega)]; rfl
    · rw [List.getElem?_set_ne hij, ← List.getD_eq_getElem?_getD, mnL_get a b j i h]
      by_cases h2 : i < j
      · rw [if_pos h2, if_pos (by omega)]
      · rw [if_neg h2, if_neg (by omega)]
theorem bw_bit (a b : List Int) : ∀ j, bw a b j = 0 ∨ bw a b j = 1
  | 0 => .inl rfl
  | j + 1 => by rw [bw]; split
                · exact .inr rfl
                · exact .inl rfl
theorem mnD_part {a b : List Int} (ha : okP a = true) (hb : okP b = true) {j : Nat} (hj : j < 16) : 0 ≤ mnD a b j ∧ mnD a b j < 65536 := by
  have h1 := (okP_iff.1 ha).2 j hj
  have h2 := (okP_iff.1 hb).2 j hj
  have h3 := bw_bit a b j
  unfold mnD
  rw [bw]
  split <;> omega
theorem mnD_sum (a b : List Int) : ∀ n, sB (mnD a b) n = sB (gD a) n - sB (gD b) n + 65536 ^ n * bw a b n
  | 0 => by simp [sB, bw]
  | n + 1 => by
    rw [sB, sB, sB, mnD_sum a b n]
    have e : mnD a b n = gD a n - gD b n - bw a b n + 65536 * bw a b (n + 1) := rfl
    rw [e, Int.pow_succ]
    generalize gD a n = x
    generalize gD b n = y
    generalize bw a b n = u
    generalize bw a b (n + 1) = v
    generalize (65536 : Int) ^ n = P
    grind
theorem mn_val {a b : List Int} (ha : okP a = true) (hb : okP b = true) (hle : vR b ≤ vR a) : mnL a b 16 = digR (vR a - vR b) := by
  have hl : (mnL a b 16).length = 16 := by rw [mnL_length, (okP_iff.1 ha).1]
  have hla := (okP_iff.1 ha).1
  have hok : okP (mnL a b 16) = true := okP_iff.2 ⟨hl, fun i hi => by rw [mnL_get a b 16 i (by omega), if_pos hi]; exact mnD_part ha hb hi⟩
  have hs := mnD_sum a b 16
  have hv : vR (mnL a b 16) = sB (mnD a b) 16 := sB_congr 16 fun i hi => by show (mnL a b 16).getD i 0 = _; rw [mnL_get a b 16 i (by omega), if_pos hi]
  have r := vR_range hok
  have r1 := vR_range ha
  have r2 := vR_range hb
  have hbw := bw_bit a b 16
  have hp : (65536 : Int) ^ 16 = 115792089237316195423570985008687907853269984665640564039457584007913129639936 := by decide
  rw [hp] at hs
  have hs' : vR (mnL a b 16) = vR a - vR b + 115792089237316195423570985008687907853269984665640564039457584007913129639936 * bw a b 16 := by rw [hv]; exact hs
  have h0 : vR (mnL a b 16) = vR a - vR b := by rcases hbw with h | h <;> rw [h] at hs' <;> omega
  rw [← h0, digR_vR hok]
noncomputable def mnC (x y : Bool) : Ctr := mk (P := Try.prog) [] [] fun i => if i = 9 then some x else if i = 22 then some y else none
theorem mnC_ok (x y : Bool) : CtrSound Try.prog (mnC x y) := mk_sound _ InlOK.nil _ _
noncomputable def mnB : Code := inner (inner (nthC 3 (bodyOf Try.f70)))
def z16 : List Int := List.replicate 16 0
noncomputable def mnH (a b : List Int) : List Blk := [.b [.ints .i64 16 a], .b [.ints .i64 16 b], .b [.ints .i64 16 z16]]
noncomputable def mnS (a b : List Int) (c : Int) (i : Int) : St := ⟨slotsOf 29 [(2, .ptr 0 0 0), (3, .ptr 1 0 0), (4, .ptr 2 0 0), (5, .int .i64 c), (6, .int .i64 i)], mnH a b, true⟩
def mnT (a b : List Int) (c i : Int) : Int := IntKind.i64.wrap (IntKind.i64.wrap (a.getD (0 + i.toNat) 0 - b.getD (0 + i.toNat) 0) - c)
section
variable (a b : List Int) (c i : Int)
set_option maxRecDepth 100000 in
theorem mn_neg : (exec Try.prog (mnC true true) 40 0 mnB (mnS a b c i)).bind (fun r => (r.2.cut [2, 3, 4, 5, 6] 3).map fun q => (r.1, q)) =
    some (.normal, ⟨(mnS a b 1 (IntKind.i64.wrap (i + 1))).t, mnH (a.set (0 + i.toNat) (IntKind.i64.wrap (mnT a b c i + 65536))) b,
      andT (andT (andT (ixO i (ixO i (andT true (decide (i < 16))))) (decide (mnT a b c i < 0))) (inB i 16)) (decide (0 + i.toNat < 16) && decide (a.length = 16))⟩) := by kernel_rfl
set_option maxRecDepth 100000 in
theorem mn_pos : (exec Try.prog (mnC true false) 40 0 mnB (mnS a b c i)).bind (fun r => (r.2.cut [2, 3, 4, 5, 6] 3).map fun q => (r.1, q)) =
    some (.normal, ⟨(mnS a b 0 (IntKind.i64.wrap (i + 1))).t, mnH (a.set (0 + i.toNat) (mnT a b c i)) b,
      andT (andT (andT (ixO i (ixO i (andT true (decide (i < 16))))) (!decide (mnT a b c i < 0))) (inB i 16)) (decide (0 + i.toNat < 16) && decide (a.length = 16))⟩) := by kernel_rfl
set_option maxRecDepth 100000 in
theorem mn_end : (exec Try.prog (mnC false false) 40 0 mnB (mnS a b c i)).bind (fun r => (r.2.cut [2, 3, 4, 5, 6] 3).map fun q => (r.1, q)) =
    some (.exit 0, ⟨(mnS a b c i).t, mnH a b, andT true (!decide (i < 16))⟩) := by kernel_rfl
set_option maxRecDepth 100000 in
theorem mn_head : (execL Try.prog (mnC true true) 40 0 3 (atoms (bodyOf Try.f70)) ⟨slots0 Try.f70.ntmps [.agg [.ints .i64 16 a], .agg [.ints .i64 16 b]], [], true⟩).bind (St.cut [2, 3, 4, 5, 6] 3) = some (mnS a b 0 0) := by kernel_rfl
end
noncomputable def mnF (a b : List Int) : List Int := Lock (digR (vR a - vR b))
theorem mn_step {a b : List Int} (ha : okP a = true) (hb : okP b = true) {j : Nat} (hj : j < 16) : Tr Try.prog none 0 mnB (mnS (mnL a b j) b (bw a b j) j) .normal (mnS (mnL a b (j + 1)) b (bw a b (j + 1)) ((j + 1 : Nat) : Int)) := by
  have hla := (okP_iff.1 ha).1
  have p1 := (okP_iff.1 ha).2 j hj
  have p2 := (okP_iff.1 hb).2 j hj
  have p3 := bw_bit a b j
  have hT : mnT (mnL a b j) b (bw a b j) j = a.getD j 0 - b.getD j 0 - bw a b j := by
    unfold mnT
    rw [show 0 + (j : Int).toNat = j by omega, mnL_get a b j j (by omega), if_neg (by omega), wrap_i64 (a.getD j 0 - b.getD j 0) (by omega) (by omega), wrap_i64 _ (by omega) (by omega)]
  have e1 : IntKind.i64.wrap ((j : Int) + 1) = ((j + 1 : Nat) : Int) := by rw [wrap_i64 _ (by omega) (by omega)]; omega
  have e2 : 0 + (j : Int).toNat = j := by omega
  have hlen : (mnL a b j).length = 16 := by rw [mnL_length, hla]
  have o1 : ixO j (ixO j (andT true (decide ((j : Int) < 16)))) = true := ixO_iff (by omega) (by omega) (ixO_iff (by omega) (by omega) (by rw [decide_eq_true (by omega)]; rfl))
  have o2 : inB (j : Int) 16 = true := by unfold inB; rw [decide_eq_true (by omega), decide_eq_true (by omega)]; rfl
  by_cases hneg : a.getD j 0 - b.getD j 0 - bw a b j < 0
  · have k := mn_neg (mnL a b j) b (bw a b j) j
    rw [hT, e1, e2] at k
    refine Tr.post (Tr.cut (mnC_ok true true) 40 _ 3 (by omega) k ?_) (Ent.same ?_ ?_)
    · rw [o1, o2, hlen, decide_eq_true hneg, decide_eq_true (show j < 16 from hj)]; rfl
    · rw [show bw a b (j + 1) = 1 by rw [bw, if_pos hneg]]; rfl
    · show mnH _ _ = mnH _ _
      rw [mnL, mnD, bw, if_pos hneg, wrap_i64 _ (by omega) (by omega)]
      rfl
  · have k := mn_pos (mnL a b j) b (bw a b j) j
    rw [hT, e1, e2] at k
    refine Tr.post (Tr.cut (mnC_ok true false) 40 _ 3 (by omega) k ?_) (Ent.same ?_ ?_)
    · rw [o1, o2, hlen, decide_eq_false hneg, decide_eq_true (show j < 16 from hj)]; rfl
    · rw [show bw a b (j + 1) = 0 by rw [bw, if_neg hneg]]; rfl
    · show mnH _ _ = mnH _ _
      rw [mnL, mnD, bw, if_neg hneg]
      rw [Int.mul_zero, Int.add_zero]
theorem mn_fn {a b : List Int} (ha : okP a = true) (hb : okP b = true) (hle : vR b ≤ vR a) : FnTr Try.prog 70 [.agg [.ints .i64 16 a], .agg [.ints .i64 16 b]] [] (.agg [.ints .i64 16 (mnF a b)]) [] := by
  rw [mnF, Lock_eq, ← mn_val ha hb hle]
  have hloop : Tr Try.prog none 0 (nthC 3 (bodyOf Try.f70)) (mnS a b 0 0) .normal (mnS (mnL a b 16) b (bw a b 16) 16) := by
    have key := Tr.loop (P := Try.prog) (ro := none) (k := 0) 0 (c := nthC 3 (bodyOf Try.f70)) (by kernel_rfl) (fun j : Nat => mnS (mnL a b j) b (bw a b j) j) 16 (s' := mnS (mnL a b 16) b (bw a b 16) 16) (fun j hj => ?_) ?_
    · exact key
    · exact mn_step ha hb hj
    · have k := mn_end (mnL a b 16) b (bw a b 16) 16
      exact Tr.post (Tr.cut (mnC_ok false false) 40 _ 3 (by omega) k rfl) (Ent.same rfl rfl)
  refine FnTr.restM (mnC_ok true true) 40 4 0 Try.func70 (by simp) rfl (fun s' x h => ?_) (s := mnS (mnL a b 16) b (bw a b 16) 16) (p := true) (by kernel_rfl) rfl rfl rfl
  refine TrL.items (mnC_ok true true) 40 3 _ 3 (by simp) (mn_head a b) rfl (by decide) ?_
  exact TrL.item 3 (by decide) hloop h
noncomputable def mnEF : List SV → Option (SV × List Blk × Bool)
  | [.agg [.ints .i64 16 a], .agg [.ints .i64 16 b]] => some (.agg [.ints .i64 16 (mnF a b)], [], okP a && okP b && decide (vR b ≤ vR a))
  | _ => none
noncomputable def minusE : Entry Try.prog := .val 70 _ Try.func70 (by decide) rfl false 0 mnEF fun vs v new e => by
  unfold mnEF at e
  split at e
  · simp only [Option.some.injEq, Prod.mk.injEq, Bool.and_eq_true, decide_eq_true_eq] at e
    obtain ⟨rfl, rfl, ⟨ha, hb⟩, hc⟩ := e
    exact mn_fn ha hb hc
  · cases e
end Go.Proofs.Ytailgcdcdhhpnaa.Re
