/- This file proves the contract of point.MulAdd. Conditions: bytes within their kind. -/
import Derived.Test.YtailgcdcdhhpnaaSpC
namespace Go.Proofs.Ytailgcdcdhhpnaa.Sp
open Go Go.Sy
theorem wds_w (v : Int) : AllW (wds v) := fun t => by
  rw [wd_eq]
  have : t = 0 ∨ t = 1 ∨ t = 2 ∨ t = 3 ∨ 4 ≤ t := by omega
  unfold W64
  rcases this with rfl | rfl | rfl | rfl | h
  · simp only [List.getD_cons_zero]; omega
  · simp only [List.getD_cons_zero, List.getD_cons_succ]; omega
  · simp only [List.getD_cons_zero, List.getD_cons_succ]; omega
  · simp only [List.getD_cons_zero, List.getD_cons_succ]; omega
  · rw [List.getD_eq_getElem?_getD, List.getElem?_eq_none (by simp; omega)]; simp
theorem vW_wds {v : Int} (h0 : 0 ≤ v) (h1 : v < 115792089237316195423570985008687907853269984665640564039457584007913129639936) : vW (wds v) 4 = v := by
  have := val4_wds h0 h1
  rw [wd_eq]
  simp only [vW, List.getD_cons_zero, List.getD_cons_succ, Int.reducePow]
  unfold val4 at this
  omega
theorem numF_val {a : List Int} (ha : a.all u8 = true) (la : a.length = 32) : numF a = wds (val256 a) := by
  have := digN_val a ha
  rw [la] at this
  conv => lhs; rw [this]
  rw [numF_dig]
theorem idxO_iff {n : Nat} {i : Int} {o : Bool} (h0 : 0 ≤ i) (h1 : i < n) (ho : o = true) : idxO n i o = true := by
  subst ho; unfold idxO inB; rw [decide_eq_true (by omega), decide_eq_true (by omega), decide_eq_true (by omega)]; rfl

set_option maxRecDepth 100000 in
theorem pm_fn {a b c : List Int} (ha : a.all u8 = true) (hb : b.all u8 = true) (hc : c.all u8 = true) (la : a.length = 32) (lb : b.length = 32) (lc : c.length = 32) :
    FnTr Try.prog 13 [.agg [.ints .u8 32 a], .agg [.ints .u8 32 b], .agg [.ints .u8 32 c]] [] (.agg [.ints .u8 32 (maF a b c)]) [] := by
  have hL := ordL_pos
  have va := val_bound ha la
  have vb := val_bound hb lb
  have vc := val_bound hc lc
  have nX := numF_val ha la
  have nY := numF_val hb lb
  have nZ := numF_val hc lc
  have wX : AllW (numF a) := by rw [nX]; exact wds_w _
  have wY : AllW (numF b) := by rw [nY]; exact wds_w _
  have wZ : AllW (numF c) := by rw [nZ]; exact wds_w _
  generalize hM : rowsM (numF a) (numF b) 4 = M
  have wM : AllW M := by rw [← hM]; exact rowsM_w wX wY 4
  have vM : vW M 9 = val256 a * val256 b := by rw [← hM, rowsM_val wX wY 4 (by omega), nX, nY, vW_wds va.1 va.2, vW_wds vb.1 vb.2]
  have l9 : ∀ i X Y W, (rowM i X Y W).length = 9 := fun i X Y W => by simp [rowM]
  have lR : ∀ i, (rowsM (numF a) (numF b) i).length = 9 := fun i => by cases i with
    | zero => rfl
    | succ i => exact l9 _ _ _ _
  have lX : lst 4 (numF a) = numF a := lst_eq (numF_length a)
  have lY : lst 4 (numF b) = numF b := lst_eq (numF_length b)
  have lZ : lst 4 (numF c) = numF c := lst_eq (numF_length c)
  have lM : lst 9 M = M := lst_eq (by rw [← hM]; exact lR 4)
  have hrows : Tr Try.prog none 0 (nthC 4 (bodyOf Try.f13)) (pmS a b c (numF a) (numF b) 0 (List.replicate 9 0)) .normal ⟨slotsOf 115 pmT, pmH a b c (numF a) (numF b) M, true⟩ := by
    refine Tr.loop 0 (by kernel_rfl) (fun i : Nat => pmS a b c (numF a) (numF b) i (rowsM (numF a) (numF b) i)) 4 (fun i hi => ?_) ?_
    · have hi4 : i = 0 ∨ i = 1 ∨ i = 2 ∨ i = 3 := by omega
      rcases hi4 with rfl | rfl | rfl | rfl
      · have k := pm_r0 a b c (numF a) (numF b) (rowsM (numF a) (numF b) 0)
        rw [lX, lY, lst_eq (lR 0)] at k
        exact Tr.cut ctrRow 60 _ 7 (by omega) k rfl
      · have k := pm_r1 a b c (numF a) (numF b) (rowsM (numF a) (numF b) 1)
        rw [lX, lY, lst_eq (lR 1)] at k
        exact Tr.cut ctrRow 60 _ 7 (by omega) k rfl
      · have k := pm_r2 a b c (numF a) (numF b) (rowsM (numF a) (numF b) 2)
        rw [lX, lY, lst_eq (lR 2)] at k
        exact Tr.cut ctrRow 60 _ 7 (by omega) k rfl
      · have k := pm_r3 a b c (numF a) (numF b) (rowsM (numF a) (numF b) 3)
        rw [lX, lY, lst_eq (lR 3)] at k
        exact Tr.cut ctrRow 60 _ 7 (by omega) k rfl
    · have k := pm_rend a b c (numF a) (numF b) M
      rw [← hM] at k ⊢
      exact Tr.cut ctrRow 60 _ 7 (by omega) k rfl
  have ks := pm_sum a b c (numF a) (numF b) M
  rw [lM, lZ] at ks
  generalize hS : sumW M (numF c) = S at ks
  have wS : AllW S := by rw [← hS]; exact sumW_w wM wZ
  have lS : S.length = 9 := by rw [← hS]; simp [sumW]
  have vZ9 : vW (numF c) 9 = val256 c := by
    have z : ∀ t, 4 ≤ t → (numF c).getD t 0 = 0 := fun t ht => by
      rw [List.getD_eq_getElem?_getD, List.getElem?_eq_none (by rw [numF_length]; exact ht)]; rfl
    have e4 := vW_wds vc.1 vc.2
    rw [← nZ] at e4
    rw [← e4]
    simp only [vW, z 4 (by omega), z 5 (by omega), z 6 (by omega), z 7 (by omega), z 8 (by omega)]
    omega
  have hprod : val256 a * val256 b ≤ 115792089237316195423570985008687907853269984665640564039457584007913129639935 * 115792089237316195423570985008687907853269984665640564039457584007913129639935 := Int.mul_le_mul (by omega) (by omega) vb.1 (by omega)
  have vS : vW S 9 = val256 a * val256 b + val256 c := by
    have e := sumW_val wM wZ 9 (by omega)
    rw [hS, vM, vZ9] at e
    have hb := addCy_b wM wZ 9
    have hlow := (vW_bound wS 9).1
    simp only [Int.reducePow] at e
    omega
  have hobs : (List.range 8).foldl (fun o i => andT o (carry1 (addCy M (numF c) (i + 1)))) true = true := by
    have h1 : ∀ i, carry1 (addCy M (numF c) i) = true := fun i => by
      have := addCy_b wM wZ i
      unfold carry1
      rw [decide_eq_true (by omega)]
    simp only [h1]
    rfl
  rw [hobs] at ks
  have hbits : Tr Try.prog none 0 (nthC 11 (bodyOf Try.f13)) (pmQ a b c (numF a) (numF b) S (numF c) [0, 0, 0, 0] 8) .normal (pmQ a b c (numF a) (numF b) S (numF c) (redwW S 9) (-1)) := by
    have lq : ∀ j, (redwW S j).length = 4 := fun j => by rw [redwW_eq wS]; rfl
    have key := Tr.loop (P := Try.prog) (ro := none) (k := 0) 6 (c := nthC 11 (bodyOf Try.f13)) (by kernel_rfl) (fun j : Nat => pmQ a b c (numF a) (numF b) S (numF c) (redwW S j) (8 - j)) 9 (s' := pmQ a b c (numF a) (numF b) S (numF c) (redwW S 9) (-1)) (fun j hj => ?_) ?_
    · exact key
    · have k := pm_word a b c (numF a) (numF b) S (numF c) (redwW S j) (8 - j)
      rw [IntWalk.i64_in _ (by omega), show 0 + ((8 : Int) - j).toNat = 8 - j by omega] at k
      have e1 : (8 : Int) - j - 1 = 8 - ((j + 1 : Nat) : Int) := by omega
      rw [e1] at k
      refine Tr.post (Tr.cut (ctrWord true) 200 _ 9 (by omega) k ?_) (Ent.same rfl ?_)
      · have hi : ∀ o, o = true → idxO 9 (8 - (j : Int)) o = true := fun o ho => idxO_iff (by omega) (by omega) ho
        have hf : ∀ (l : List Unit) (o : Bool), o = true → l.foldl (fun o _ => idxO 9 (8 - (j : Int)) o) o = true := by
          intro l
          induction l with
          | nil => exact fun o ho => ho
          | cons u l ih => exact fun o ho => ih _ (hi o ho)
        exact hf _ _ (by rw [decide_eq_true (by omega)]; rfl)
      · show pmI _ _ _ _ _ _ _ _ = pmI _ _ _ _ _ _ _ _
        rw [redwW, Lift.lst_eq (lq j)]
    · have k := pm_bend a b c (numF a) (numF b) S (numF c) (redwW S 9) (-1)
      exact Tr.post (Tr.cut (ctrWord false) 200 _ 9 (by omega) k rfl) (Ent.same rfl rfl)
  have hres : keyF (redwW S 9) = maF a b c := by
    have l4 : Lift.lst 4 (redwW S 9) = redwW S 9 := Lift.lst_eq (by rw [redwW_eq wS]; rfl)
    rw [← l4, redwW_eq wS, topW_nine, vS, key_wds (Int.emod_nonneg _ (by omega)) (by have := Int.emod_lt_of_pos (val256 a * val256 b + val256 c) hL.1; omega), maF, Lift.Lock_eq, dig32_digN]
  rw [← hres]
  refine FnTr.restM ctrKey 60 12 0 Try.func13 (by simp) rfl (fun s' x h => ?_) (s := pmQ a b c (numF a) (numF b) S (numF c) (redwW S 9) (-1)) (p := true) (by kernel_rfl) rfl rfl rfl
  refine TrL.items ctrNum 60 4 _ 7 (by simp) (pm_head a b c) rfl (by decide) ?_
  refine TrL.item 4 (by decide) hrows ?_
  refine TrL.items ctrSum 60 6 _ 9 (by simp) ks rfl (by decide) ?_
  rw [List.drop_drop]
  exact TrL.item 11 (by decide) (Tr.pre hbits (Ent.same rfl rfl)) h

noncomputable def maPF : List SV → Option (SV × List Blk × Bool)
  | [.agg [.ints .u8 32 a], .agg [.ints .u8 32 b], .agg [.ints .u8 32 c]] => some (.agg [.ints .u8 32 (maF a b c)], [], keyOK a && keyOK b && keyOK c)
  | _ => none
noncomputable def mulAddE : Entry Try.prog := .val 13 _ Try.func13 (by decide) rfl false 0 maPF fun vs v new e => by
  unfold maPF at e
  split at e
  · rename_i a b c
    simp only [Option.some.injEq, Prod.mk.injEq, Bool.and_eq_true, keyOK_iff] at e
    obtain ⟨rfl, rfl, ⟨ha, hb⟩, hc⟩ := e
    exact pm_fn ha.2 hb.2 hc.2 ha.1 hb.1 hc.1
  · cases e
end Go.Proofs.Ytailgcdcdhhpnaa.Sp
