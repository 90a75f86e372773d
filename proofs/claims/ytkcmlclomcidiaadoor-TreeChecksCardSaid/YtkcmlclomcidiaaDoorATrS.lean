/- This file proves the contract of tree's Add from its runs. Conditions: a tree of 32 leaves at most whose path above the new leaf isn't used. -/
import Derived.Test.YtkcmlclomcidiaaDoorATrR
set_option linter.all false
namespace Go.Sy
open Go
section
variable {P : Program} {ro : Option Nat} {k : Nat}
theorem TrL.itemsD {Γ : Ctr} (hΓ : CtrSound P Γ) (n a m : Nat) (live : List Nat) (j : Nat) (hj : k ≤ j) {c : Code} {s s1 s' : St} {x : Exit} (ob : Bool) (e : resX (cutR live j ((execL P Γ n k m ((atoms c).drop a) s).map fun s => (Exit.normal, s))) = some (.normal, s1.t, s1.h))
    (hob : obX (cutR live j ((execL P Γ n k m ((atoms c).drop a) s).map fun s => (Exit.normal, s))) = ob) (h : ob = true) (hl : a + m < (atoms c).length) (hs : s1.ob = true) (g : TrL P ro k ((atoms c).drop (a + m)) s1 x s') : TrL P ro k ((atoms c).drop a) s x s' :=
  TrL.itemsX hΓ n m live j hj ob e hob h (by rw [List.length_drop]; omega) hs (by rw [List.drop_drop]; exact g)
end
end Go.Sy
namespace Go.Proofs.YtkcmlclomcidiaaDoor.Tr
open Go Go.Sy
def updT (t : Nat → Nod) (x : Nat) (n : Nod) : Nat → Nod := fun i => if i = x then n else t i
def extT (N : Nat) (t : Nat → Nod) : Nat → Nod := fun i => if i < N then t i else zeroN
theorem bleN (i N : Nat) : Nat.ble (i + 1) N = decide (i < N) := by
  cases h : Nat.ble (i + 1) N with
  | true => exact (decide_eq_true (Nat.le_of_ble_eq_true h)).symm
  | false => exact (decide_eq_false fun g => by rw [Nat.ble_eq_true_of_le g] at h; cases h).symm
theorem ad_merge (N : Nat) (t : Nat → Nod) : (fun i => mergeP (Nat.ble (i + 1) N) (tng t i) [.bool false, .int .i64 0, .ints .u8 32 (List.replicate 32 0), .ints .u8 32 (List.replicate 32 0), .ints .u8 32 (List.replicate 32 0), .nl (.slice none 0 0)]) = tng (extT N t) := by
  funext i
  rw [bleN]
  unfold tng extT
  by_cases h : i < N
  · rw [decide_eq_true h, if_pos h]; rfl
  · rw [decide_eq_false h, if_neg h]; rfl
theorem s1_merge (t : Nat → Nod) (x : Nat) (n : Nod) : (fun j => mergeP (Nat.beq j x) n.cells (tng t j)) = tng (updT t x n) := by
  funext j
  rw [beqN]
  unfold tng updT
  by_cases h : j = x
  · rw [decide_eq_true h, if_pos h]; rfl
  · rw [decide_eq_false h, if_neg h]; rfl
theorem s2_merge (t : Nat → Nod) (x : Nat) (n : Nod) : (fun j => mergeP (Nat.beq j x) [.bool (updT t x n x).used, .int .i64 (updT t x n x).name, .ints .u8 32 (updT t x n x).key, .ints .u8 32 (updT t x n x).sign, .ints .u8 32 (updT t x n x).par, .nl (.slice none 0 0)] (tng (updT t x n) j)) = tng (updT t x { n with un := [] }) := by
  have hx : updT t x n x = n := if_pos rfl
  rw [hx]
  funext j
  rw [beqN]
  unfold tng updT
  by_cases h : j = x
  · rw [decide_eq_true h, if_pos h, if_pos h]; rfl
  · rw [decide_eq_false h, if_neg h, if_neg h]; rfl
section
variable {N M : Nat} {t u : Nat → Nod} {n : Nod} {j m : Nat}
theorem ap_all (hm : m ∈ sizes) (hj : j < m) (hM : M = 2 * m - 1) (hup : ∀ k, k < lgN m → (u (upV m (2 * (j : Int)) k).toNat).used = false) (l : Nat) :
    FnTr Tryd.prog 65 [.fn (.yield l) [] [], .ptr 4 0 0, .ptr 5 0 0] (apG M u n ((2 * j : Nat) : Int) m l) (.tup []) (apG M u n ((2 * j : Nat) : Int) m l) := by
  have h2 : ((2 * j : Nat) : Int) = 2 * (j : Int) := by omega
  obtain ⟨u1, u2, u3⟩ := up_ok hm hj
  rw [h2] at u1 u2 u3
  rw [h2]
  refine FnTr.toEnd (h := apG M u n (2 * (j : Int)) m l) Tryd.func65 rfl 1 0 (fun k => apS M u n (2 * (j : Int)) m l (upV m (2 * (j : Int)) k)) (lgN m)
    (fun y s' g => TrL.itemsX (adC_ok []) 60 1 _ 7 (Nat.le_refl 7) _ (ap_head M u n (2 * (j : Int)) m l) (ap_head' M u n (2 * (j : Int)) m l) (by rw [u3]; rfl) (by decide) rfl g) (by decide) (by kernel_rfl)
    (fun k hk => ?_) (sE := apS M u n (2 * (j : Int)) m l (upV m (2 * (j : Int)) (lgN m))) (s' := apS M u n (2 * (j : Int)) m l (upV m (2 * (j : Int)) (lgN m))) (x := .normal) (v := []) ?_ ⟨rfl, rfl⟩ (.inr rfl) rfl
  · obtain ⟨g1, g2⟩ := u1 k hk
    obtain ⟨g3, g4⟩ := nodeB_lt g1
    have hlt : (upV m (2 * (j : Int)) k).toNat < M := by omega
    exact Tr.cutX (adC_ok [(9, true), (72, false)]) 60 _ 7 (Nat.le_refl _) (s' := apS M u n (2 * (j : Int)) m l (upV m (2 * (j : Int)) (k + 1))) _ (ap_go M u n (2 * (j : Int)) m l _) (ap_go' M u n (2 * (j : Int)) m l _) (by
      rw [decide_eq_true (show upV m (2 * (j : Int)) k ≥ 0 from g2), inBt g3 (by omega), decide_eq_true hlt, show (u (upV m (2 * (j : Int)) k).toNat).1 = false from hup k hk, g1, decide_eq_true (show (rfL (nthC 12 adB) (adP M u n (2 * (j : Int)) m).t l).l = l from rfl), decide_eq_true rfl]; rfl)
  · exact Tr.cutX (adC_ok [(9, false)]) 60 _ 7 (Nat.le_refl _) _ (ap_end M u n (2 * (j : Int)) m l _) (ap_end' M u n (2 * (j : Int)) m l _) (by rw [u2]; rfl)
theorem add_fn (hT : TOK N t) (hc : checkB N t = true) (hl : lfB n.used n.name n.un = true) (hf : findV N t n.name < 0) (hused : ∀ k, k < j → 2 * k < N ∧ (t (2 * k)).used = true) (hfree : 2 * j < N → (t (2 * j)).used = false) (hj31 : j ≤ 31)
    (hE : (2 * j < N ∧ M = N ∧ u = t) ∨ (N ≤ 2 * j ∧ M = 2 * N + 1 ∧ u = extT N t)) (hm : m ∈ sizes) (hv : leavesV M = m) (hM : M = 2 * m - 1) (hj : j < m)
    (hup : ∀ k, k < lgN m → (updT u (2 * j) { n with un := [] } (upV m (2 * (j : Int)) k).toNat).used = false) :
    FnTr Tryd.prog 18 [.rol false 99 N (tng t), .agg n.cells] [] (.tup [.rsl 0 99 M M false, .int .i64 j, .nl .nilIface]) [.b [.rows 99 M (tng (updT u (2 * j) { n with un := [] }))]] := by
  have hok : okT N (fun i => coolL (tng t i)) = true := okT_tng hT
  have hle := hT.le
  have hs := sizes_le hm
  have hx : 2 * j < M := by omega
  have hdiv : IntKind.i64.wrap (((2 * j : Nat) : Int).tdiv 2) = (j : Int) := by
    have : ((2 * j : Nat) : Int).tdiv 2 = ((2 * j / 2 : Nat) : Int) := rfl
    rw [this, wrapI (by omega) (by omega)]; omega
  refine FnTr.sel (v := .tup [.rsl 1 99 M M false, .int .i64 j, .nl .nilIface]) (h1 := (adP M (updT u (2 * j) { n with un := [] }) n ((2 * j : Nat) : Int) m).h ++ [.gap]) [1] ?_ rfl
  refine FnTr.rest (adC_ok []) 60 13 Tryd.func18 rfl (fun s' y h => ?_) (s := ⟨(adP M (updT u (2 * j) { n with un := [] }) n ((2 * j : Nat) : Int) m).t, (adP M (updT u (2 * j) { n with un := [] }) n ((2 * j : Nat) : Int) m).h ++ [.gap], true⟩) (p := true) ?_ rfl
  · refine TrL.itemsX (adC_ok [(25, false)]) 60 4 _ 4 (Nat.zero_le _) (s1 := adS N t n ((2 * 0 : Nat) : Int)) _ (ad_head N t n) (ad_head' N t n) ?_ (by decide) rfl ?_
    · rw [hok, decide_eq_true hle, show checkB N (treeOf fun i => coolL (tng t i)) = true from hc, show findV N (treeOf fun i => coolL (tng t i)) n.name = findV N t n.name from rfl, hl]
      show andT (andT (andT (andT (andT true (andT true true)) (andT true true)) (andT true true)) (!decide (findV N t n.name ≥ 0))) (andT true true) = true
      rw [decide_eq_false (by omega)]; rfl
    refine TrL.item 4 (by decide) (s1 := adS N t n ((2 * j : Nat) : Int)) (Tr.loop 1 (by kernel_rfl) (fun k => adS N t n ((2 * k : Nat) : Int)) j (fun k hk => ?_) ?_) ?_
    · obtain ⟨q1, q2⟩ := hused k hk
      have e := ad_go N t n ((2 * k : Nat) : Int)
      rw [show IntKind.i64.wrap (((2 * k : Nat) : Int) + 2) = ((2 * (k + 1) : Nat) : Int) by rw [wrapI (by omega) (by omega)]; omega] at e
      exact Tr.cutX (adC_ok [(32, true), (38, true)]) 60 _ 4 (Nat.zero_le _) (s' := adS N t n ((2 * (k + 1) : Nat) : Int)) _ e (ad_go' N t n _) (by
        rw [Int.toNat_natCast, ltN q1, inBN q1, decide_eq_true q1, show (t (2 * k)).1 = true from q2]; rfl)
    · by_cases q1 : 2 * j < N
      · exact Tr.cutX (adC_ok [(32, true), (38, false)]) 60 _ 4 (Nat.zero_le _) (s' := adS N t n ((2 * j : Nat) : Int)) _ (ad_e2 N t n _) (ad_e2' N t n _) (by
          rw [Int.toNat_natCast, ltN q1, inBN q1, decide_eq_true q1, show (t (2 * j)).1 = false from hfree q1]; rfl)
      · exact Tr.cutX (adC_ok [(32, false)]) 60 _ 4 (Nat.zero_le _) (s' := adS N t n ((2 * j : Nat) : Int)) _ (ad_e1 N t n _) (ad_e1' N t n _) (by rw [nltN (by omega)]; rfl)
    have h62 : decide (((2 * j : Nat) : Int) > 62) = false := decide_eq_false (by omega)
    have mid : TrL Tryd.prog none 0 ((atoms (bodyOf Tryd.f18)).drop 9) (adS M u n ((2 * j : Nat) : Int)) y s' → TrL Tryd.prog none 0 ((atoms (bodyOf Tryd.f18)).drop 5) (adS N t n ((2 * j : Nat) : Int)) y s' := by
      intro g
      rcases hE with ⟨q1, rfl, rfl⟩ | ⟨q1, rfl, rfl⟩
      · exact TrL.itemsD (adC_ok [(43, false), (48, false)]) 60 5 4 _ 4 (Nat.zero_le _) (s1 := adS M u n ((2 * j : Nat) : Int)) _ (ad_n M u n _) (ad_n' M u n _) (by
          rw [h62, decide_eq_false (show ¬ ((2 * j : Nat) : Int) ≥ ((M : Nat) : Int) by omega)]; rfl) (by decide) rfl g
      · have hw : IntKind.i64.wrap ((N : Int) + 1) = ((N + 1 : Nat) : Int) := wrapS (by omega)
        have hw2 : N + (IntKind.i64.wrap ((N : Int) + 1)).toNat = 2 * N + 1 := by rw [hw, Int.toNat_natCast]; omega
        refine TrL.itemsD (adC_ok [(43, false), (48, true)]) 60 5 3 _ 4 (Nat.zero_le _) (s1 := ⟨slotsOf 95 [(3, .ptr 0 0 0), (7, .ptr 2 0 0), (8, .ptr 3 0 0), (48, .bool true)], adH N t n ((2 * j : Nat) : Int), true⟩) _ (ad_m1 N t n _) (ad_m1' N t n _) (by
          rw [h62, decide_eq_true (show ((2 * j : Nat) : Int) ≥ ((N : Nat) : Int) by omega)]; rfl) (by decide) rfl ?_
        refine TrL.item 8 (by decide) (s1 := adS (2 * N + 1) (extT N t) n ((2 * j : Nat) : Int)) ?_ g
        have hcode : nthC 8 (bodyOf Tryd.f18) = .cond (.tmp 48) (.region 12 (opsOf (cdA (nthC 8 adB))) false) .skip := by kernel_rfl
        rw [hcode]
        refine TrX.to (H := HT) (H' := HT) (TrX.cond_true (by kernel_rfl) (TrX.region 12 ?_)) fun _ _ _ => trivial
        rw [show List.range (opsOf (cdA (nthC 8 adB))).size = [0, 1, 2, 3] ++ [4, 5] by kernel_rfl]
        refine OX.append (OX.run0 (adC_ok []) 60 _ 4 (Nat.zero_le _) (s' := ⟨slotsOf 95 [(3, .ptr 0 0 0), (7, .ptr 2 0 0), (8, .ptr 3 0 0), (49, .rsl 1 99 N N false), (52, .int .i64 (IntKind.i64.wrap (N + 1)))], adH N t n ((2 * j : Nat) : Int), true⟩) _ (ad_m2 N t n _) (ad_m2' N t n _) rfl) ?_
        refine OX.veil 2 (.rsl 1 99 N N false) rfl rfl rfl fun v0 => ?_
        have e := ad_m3 N t n ((2 * j : Nat) : Int) v0
        have e' := ad_m3' N t n ((2 * j : Nat) : Int) v0
        rw [hw2, ad_merge] at e
        refine OX.run0 (adC_ok []) 60 _ 4 (Nat.zero_le _) (s' := adS (2 * N + 1) (extT N t) n ((2 * j : Nat) : Int)) _ e e' ?_
        rw [hw2, hw, decide_eq_true (Nat.le_refl _), decide_eq_true (show (0 : Int) ≤ ((N + 1 : Nat) : Int) by omega), decide_eq_true (show 2 * N + 1 ≤ 2 ^ 38 by omega)]
        rfl
    refine mid ?_
    have e1 := ad_s1 M u n ((2 * j : Nat) : Int)
    rw [Int.toNat_natCast, s1_merge] at e1
    refine TrL.itemsD (adC_ok []) 60 9 1 _ 4 (Nat.zero_le _) (s1 := adS M (updT u (2 * j) n) n ((2 * j : Nat) : Int)) _ e1 (ad_s1' M u n _) (by rw [Int.toNat_natCast, inBN hx, decide_eq_true hx]; rfl) (by decide) rfl ?_
    have e2 := ad_s2 M (updT u (2 * j) n) n ((2 * j : Nat) : Int)
    rw [Int.toNat_natCast, s2_merge] at e2
    refine TrL.itemsD (adC_ok []) 60 10 1 _ 4 (Nat.zero_le _) (s1 := adS M (updT u (2 * j) { n with un := [] }) n ((2 * j : Nat) : Int)) _ e2 (ad_s2' M (updT u (2 * j) n) n _) (by rw [Int.toNat_natCast, inBN hx, decide_eq_true hx]; rfl) (by decide) rfl ?_
    have e3 := ad_p M (updT u (2 * j) { n with un := [] }) n ((2 * j : Nat) : Int)
    rw [hv] at e3
    refine TrL.itemsD (adC_ok []) 60 11 1 _ 6 (Nat.zero_le _) (s1 := adP M (updT u (2 * j) { n with un := [] }) n ((2 * j : Nat) : Int) m) _ e3 (ad_p' M (updT u (2 * j) { n with un := [] }) n _) rfl (by decide) rfl ?_
    refine TrL.item 12 (by decide) ?_ h
    exact Tr.rangeB 3 (by kernel_rfl) (f := 65) (first := []) (capt := [.ptr 4 0 0, .ptr 5 0 0]) true Tryd.func65 (by decide) rfl (by kernel_rfl) (fun l => ap_all hm hj hM hup l)
      (fun l => ⟨_, rfl, rfl, by simp [rfL], rfl⟩) (fun l => rfl)
  · rw [← hdiv]
    kernel_rfl
end
end Go.Proofs.YtkcmlclomcidiaaDoor.Tr
