/- This file proves the law TreeResolves. Conditions: those of its data. -/
import Derived.Test.YtkcmlclomcidiaaDoorBTtB
set_option linter.all false
set_option maxRecDepth 100000
namespace Go.Proofs.YtkcmlclomcidiaaDoor.Tr
open Go Go.Sy
noncomputable def rxC (b : Bool) (l : List (Nat × Bool)) : Ctr := mk (P := Tryd.prog) [aliveE, largeE, goodE b, resolutionE, rresE 8 (rResolve_fn 8), intsE] [] (uT l)
theorem rxC_ok (b : Bool) (l : List (Nat × Bool)) : CtrSound Tryd.prog (rxC b l) := mk_sound _ InlOK.nil _ _
theorem rx_a (N : Nat) (t : Nat → Nod) (x : Int) : (callS Tryd.prog (rxC true [(9, true)]) 60 Tryd.f7 [.rol false 99 N (tng t), .int .i64 x] []).map (fun x => (x.1, x.2.2)) = some (.bool true, andT (andT true (andT true (okT0 N fun i => coolL (tng t i)))) (largeB N (treeOf fun i => coolL (tng t i)))) := by kernel_rfl
theorem rx_b (N : Nat) (t : Nat → Nod) (x : Int) : (callS Tryd.prog (rxC false [(9, false)]) 60 Tryd.f7 [.rol false 99 N (tng t), .int .i64 x] []).map (fun x => (x.1, x.2.2)) = some (.bool (((rsnV N t x).length : Int) == 0), andT (andT (andT (andT true (andT true (okT0 N fun i => coolL (tng t i)))) !largeB N (treeOf fun i => coolL (tng t i))) (andT true ((okT N fun i => coolL (tng t i)) && decide (N ≤ 71)))) (andT true ((okT N fun i => coolL (tng t i)) && decide (N ≤ 71) && goodQ N (treeOf fun i => coolL (tng t i)) == false))) := by kernel_rfl
theorem rx_c (N : Nat) (t : Nat → Nod) (x : Int) : (callS Tryd.prog (rxC true [(9, false), (18, true)]) 60 Tryd.f7 [.rol false 99 N (tng t), .int .i64 x] []).map (fun x => (x.1, x.2.2)) = some (.bool (((rsnV N t x).length : Int) == 0), andT (andT (andT (andT (andT true (andT true (okT0 N fun i => coolL (tng t i)))) !largeB N (treeOf fun i => coolL (tng t i))) (andT true ((okT N fun i => coolL (tng t i)) && decide (N ≤ 71)))) (andT true ((okT N fun i => coolL (tng t i)) && decide (N ≤ 71) && goodQ N (treeOf fun i => coolL (tng t i)) == true))) (decide (x < 0))) := by kernel_rfl
theorem rx_d (N : Nat) (t : Nat → Nod) (x : Int) : (callS Tryd.prog (rxC true [(9, false), (18, false), (24, true)]) 60 Tryd.f7 [.rol false 99 N (tng t), .int .i64 x] []).map (fun x => (x.1, x.2.2)) = some (.bool (((rsnV N t x).length : Int) == 0), andT (andT (andT (andT (andT (andT true (andT true (okT0 N fun i => coolL (tng t i)))) !largeB N (treeOf fun i => coolL (tng t i))) (andT true ((okT N fun i => coolL (tng t i)) && decide (N ≤ 71)))) (andT true ((okT N fun i => coolL (tng t i)) && decide (N ≤ 71) && goodQ N (treeOf fun i => coolL (tng t i)) == true))) !decide (x < 0)) (decide (x ≥ ((N : Nat) : Int)))) := by kernel_rfl
theorem rx_e (N : Nat) (t : Nat → Nod) (x : Int) : (callS Tryd.prog (rxC true [(9, false), (18, false), (24, false)]) 60 Tryd.f7 [.rol false 99 N (tng t), .int .i64 x] []).map (fun x => (x.1, x.2.2)) = some (.bool (decide (rsnV N t x = resV t x)), andT (andT (andT (andT (andT (andT (andT (andT true (andT true (okT0 N fun i => coolL (tng t i)))) !largeB N (treeOf fun i => coolL (tng t i))) (andT true ((okT N fun i => coolL (tng t i)) && decide (N ≤ 71)))) (andT true ((okT N fun i => coolL (tng t i)) && decide (N ≤ 71) && goodQ N (treeOf fun i => coolL (tng t i)) == true))) !decide (x < 0)) !decide (x ≥ ((N : Nat) : Int))) (andT true ((okT N fun i => coolL (tng t i)) && decide (N ≤ 71) && resOK N (treeOf fun i => coolL (tng t i)) x 8))) (andT (andT true (andT (decide ((resV (treeOf fun i => coolL (tng t i)) x).length = (resV (treeOf fun i => coolL (tng t i)) x).length) && (decide ((resV (treeOf fun i => coolL (tng t i)) x).length ≤ (resV (treeOf fun i => coolL (tng t i)) x).length) && true)) (decide ((resV (treeOf fun i => coolL (tng t i)) x).length = (resV (treeOf fun i => coolL (tng t i)) x).length)))) (decide ((rsnV N (treeOf fun i => coolL (tng t i)) x).length ≤ 274877906944)))) := by kernel_rfl
section
variable {N : Nat} {t : Nat → Nod} {x : Int}
theorem rsn_bad (h : checkB N t = false) : rsnV N t x = [] := by unfold rsnV; rw [h, Bool.and_false]; rfl
theorem rsn_out (h : ¬ (0 ≤ x ∧ x < N)) : rsnV N t x = [] := by
  unfold rsnV
  by_cases h0 : 0 ≤ x
  · rw [decide_eq_false (show ¬ x < (N : Int) by omega), Bool.and_false]; rfl
  · rw [decide_eq_false h0]; rfl
theorem rsn_in (hc : checkB N t = true) (h0 : 0 ≤ x) (h1 : x < N) : rsnV N t x = resV t x := by
  unfold rsnV; rw [hc, decide_eq_true h0, decide_eq_true h1]; rfl
theorem resV_len (hT : TOK N t) (hc : checkB N t = true) (h0 : 0 ≤ x) (h1 : x < N) : (resV t x).length ≤ 8320 := by
  obtain ⟨hu, ht⟩ := check_un hT hc
  obtain ⟨n, hn, hN⟩ := treeN_iff ht
  obtain ⟨y, rfl⟩ := Int.eq_ofNat_of_zero_le h0
  have l := resL_len hu hn hN (lvN 7 y) y (by omega) rfl
  have hj : 2 ^ lvN 7 y ≤ 2 ^ 7 := Nat.pow_le_pow_right (by decide) (lvN_le 7 y)
  unfold resV
  rw [Int.toNat_natCast]
  omega
theorem treeResolves_law (hT0 : okT0 N (tng t) = true) : FnTr Tryd.prog 7 [.rol false 99 N (tng t), .int .i64 x] [] (.bool true) [] := by
  have z1 : okT0 N (fun i => coolL (tng t i)) = true := hT0
  cases g1 : largeB N t with
  | true => exact call0 (rxC_ok _ _) 60 Tryd.func7 (rx_a N t x) (by rw [z1, show largeB N (treeOf fun i => coolL (tng t i)) = true from g1]; rfl) rfl
  | false =>
  have a1 : largeB N (treeOf fun i => coolL (tng t i)) = false := g1
  have hT := okT0_up hT0 (large_un g1)
  have h1 : okT N (fun i => coolL (tng t i)) = true := hT
  have e1 := large_le g1
  have d3 : decide (N ≤ 71) = true := decide_eq_true e1
  have hg : checkB N t = goodQ N t := check_good (t := t) e1
  have hTOK := TOK.of hT e1
  cases hc : checkB N t with
  | false =>
    have q := rx_b N t x
    rw [rsn_bad hc] at q
    refine call0 (rxC_ok _ _) 60 Tryd.func7 (q.trans ?_) rfl rfl
    rw [z1, a1, h1, d3, show goodQ N (treeOf fun i => coolL (tng t i)) = false from hg ▸ hc]
    rfl
  | true =>
    have hq : goodQ N (treeOf fun i => coolL (tng t i)) = true := hg ▸ hc
    by_cases h0 : x < 0
    · have q := rx_c N t x
      rw [rsn_out (by omega)] at q
      refine call0 (rxC_ok _ _) 60 Tryd.func7 (q.trans ?_) rfl rfl
      rw [z1, a1, h1, d3, hq, decide_eq_true h0]
      rfl
    · by_cases h2 : x ≥ N
      · have q := rx_d N t x
        rw [rsn_out (by omega)] at q
        refine call0 (rxC_ok _ _) 60 Tryd.func7 (q.trans ?_) rfl rfl
        rw [z1, a1, h1, d3, hq, decide_eq_false h0, decide_eq_true h2]
        rfl
      · have q := rx_e N t x
        have hr : resOK N (treeOf fun i => coolL (tng t i)) x 8 = true := rn_resOK (t := t) hTOK hc (by omega) (by omega)
        have hl := resV_len (x := x) hTOK hc (by omega) (by omega)
        have hl' : (resV t x).length ≤ 8320 := hl
        have r1 : rsnV N (treeOf fun i => coolL (tng t i)) x = resV t x := rsn_in (t := t) hc (by omega) (by omega)
        have r2 : resV (treeOf fun i => coolL (tng t i)) x = resV t x := rfl
        rw [r1, r2, rsn_in hc (by omega) (by omega), decide_eq_true rfl] at q
        refine call0 (rxC_ok _ _) 60 Tryd.func7 (q.trans ?_) rfl rfl
        rw [z1, a1, h1, d3, hq, hr, decide_eq_false h0, decide_eq_false h2, decide_eq_true (Nat.le_refl _), decide_eq_true (Eq.refl (resV t x).length), decide_eq_true (show (resV t x).length ≤ 274877906944 by omega)]
        rfl
end
end Go.Proofs.YtkcmlclomcidiaaDoor.Tr
