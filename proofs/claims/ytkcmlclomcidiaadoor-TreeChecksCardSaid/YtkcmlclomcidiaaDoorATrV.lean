/- This file proves the contract of tree's Remove from its runs. Conditions: a tree of 32 leaves at most; such a leaf is there, and another one. -/
import Derived.Test.YtkcmlclomcidiaaDoorATrU
set_option linter.all false
namespace Go.Proofs.YtkcmlclomcidiaaDoor.Tr
open Go Go.Sy
theorem TOK.le' {N n : Nat} {t : Nat → Nod} (h : TOK N t) (hn : n ≤ N) : TOK n t :=
  ⟨Nat.le_trans hn h.le, fun i hi => h.un i (by omega), fun i hi => h.key i (by omega), fun i hi => h.sign i (by omega), fun i hi => h.par i (by omega)⟩
theorem TOK.upd {N x : Nat} {t : Nat → Nod} {n : Nod} (h : TOK N t) (h1 : n.un.length ≤ 274877906944) (h2 : n.key.length = 32) (h3 : n.sign.length = 32) (h4 : n.par.length = 32) : TOK N (updT t x n) := by
  refine ⟨h.le, fun i hi => ?_, fun i hi => ?_, fun i hi => ?_, fun i hi => ?_⟩ <;> unfold updT <;> by_cases hx : i = x
  · rw [if_pos hx]; exact h1
  · rw [if_neg hx]; exact h.un i hi
  · rw [if_pos hx]; exact h2
  · rw [if_neg hx]; exact h.key i hi
  · rw [if_pos hx]; exact h3
  · rw [if_neg hx]; exact h.sign i hi
  · rw [if_pos hx]; exact h4
  · rw [if_neg hx]; exact h.par i hi
theorem TOK.zero {N x : Nat} {t : Nat → Nod} (h : TOK N t) : TOK N (updT t x zeroN) := h.upd (by simp [zeroN]) (by simp [zeroN]) (by simp [zeroN]) (by simp [zeroN])
theorem TOK.blank {N : Nat} {t : Nat → Nod} (h : TOK N t) (m : Nat) (x : Int) : ∀ k, TOK N (blankK t m x k)
  | 0 => h
  | k + 1 => (TOK.blank h m x k).zero
def cntK (t : Nat → Nod) : Nat → Nat
  | 0 => 0
  | j + 1 => cntK t j + (bif (t (2 * j)).used then 1 else 0)
theorem cntK_le (t : Nat → Nod) : ∀ j, cntK t j ≤ j
  | 0 => Nat.le_refl _
  | j + 1 => by
    have := cntK_le t j
    unfold cntK
    cases (t (2 * j)).used <;> simp <;> omega
def halfK (N : Nat) : Nat → Nat
  | 0 => N
  | k + 1 => halfK N k / 2
def exK : Nat → Bool
  | 0 => false
  | _ + 1 => true
theorem halfK_le (N : Nat) : ∀ k, halfK N k ≤ N
  | 0 => Nat.le_refl _
  | k + 1 => by have := halfK_le N k; unfold halfK; omega
def halfB (n : Nat) (t : Nat → Nod) : Bool := emptyB n t (IntKind.i64.wrap ((leavesV n).tdiv 2)).toNat
theorem leaves_half0 : ((List.range 72).all fun n => decide (0 ≤ IntKind.i64.wrap ((leavesV (n : Nat)).tdiv 2)) && decide (IntKind.i64.wrap ((leavesV (n : Nat)).tdiv 2) ≤ 71)) = true := by decide +kernel
theorem leaves_half {n : Nat} (hn : n ≤ 71) : decide (0 ≤ IntKind.i64.wrap ((leavesV (n : Nat)).tdiv 2)) = true ∧ decide (IntKind.i64.wrap ((leavesV (n : Nat)).tdiv 2) ≤ 71) = true := by
  have := List.all_eq_true.1 leaves_half0 n (List.mem_range.2 (by omega))
  exact Bool.and_eq_true_iff.1 this
section
variable {N : Nat} {t : Nat → Nod} {i : Int}
theorem ri_all (hle : N ≤ 71) (l : Nat) :
    FnTr Tryd.prog 60 [.fn (.yield l) [] [], .ptr 2 0 0] (rmG N t i 0 l) (.tup []) (rmG N t i (cntK t ((N + 1) / 2)) l) := by
  refine FnTr.toEnd (h := rmG N t i 0 l) Tryd.func60 rfl 1 0 (fun j => riS N t i (cntK t j) l ((2 * j : Nat) : Int)) ((N + 1) / 2)
    (fun y s' g => TrL.itemsX (rmC_ok true []) 60 1 _ 4 (Nat.le_refl 4) (s1 := riS N t i 0 l 0) _ (ri_head N t i l) (ri_head' N t i l) rfl (by decide) rfl g) (by decide) (by kernel_rfl)
    (fun j hj => ?_) (sE := riS N t i (cntK t ((N + 1) / 2)) l ((2 * ((N + 1) / 2) : Nat) : Int)) (s' := riS N t i (cntK t ((N + 1) / 2)) l ((2 * ((N + 1) / 2) : Nat) : Int)) (x := .normal) (v := []) ?_ ⟨rfl, rfl⟩ (.inr rfl) rfl
  · have hlt : 2 * j < N := by omega
    have hc := cntK_le t j
    have hw : IntKind.i64.wrap (((2 * j : Nat) : Int) + 2) = ((2 * (j + 1) : Nat) : Int) := by rw [wrapI (by omega) (by omega)]; omega
    cases hu : (t (2 * j)).used with
    | false =>
      have e := ri_un N t i (cntK t j) l ((2 * j : Nat) : Int)
      rw [hw] at e
      have : cntK t (j + 1) = cntK t j := by simp [cntK, hu]
      rw [this]
      exact Tr.cutX (rmC_ok true [(8, true), (17, false)]) 60 _ 4 (Nat.le_refl _) (s' := riS N t i (cntK t j) l ((2 * (j + 1) : Nat) : Int)) _ e (ri_un' N t i _ l _) (by
        rw [Int.toNat_natCast, ltN hlt, inBN hlt, decide_eq_true hlt, show (t (2 * j)).1 = false from hu]; rfl)
    | true =>
      have e := ri_is N t i (cntK t j) l ((2 * j : Nat) : Int)
      rw [hw, wrapS (by omega)] at e
      have : cntK t (j + 1) = cntK t j + 1 := by simp [cntK, hu]
      rw [this]
      exact Tr.cutX (rmC_ok true [(8, true), (17, true)]) 60 _ 4 (Nat.le_refl _) (s' := riS N t i ((cntK t j + 1 : Nat) : Int) l ((2 * (j + 1) : Nat) : Int)) _ e (ri_is' N t i _ l _) (by
        rw [Int.toNat_natCast, ltN hlt, inBN hlt, decide_eq_true hlt, show (t (2 * j)).1 = true from hu, decide_eq_true (show (rfL (nthC 5 rmB) (rmS N t i).t l).l = l from rfl), decide_eq_true rfl]; rfl)
  · exact Tr.cutX (rmC_ok true [(8, false)]) 60 _ 4 (Nat.le_refl _) _ (ri_end N t i _ l _) (ri_end' N t i _ l _) (by rw [nltN (by omega)]; rfl)
theorem remove_fn {a m K : Nat} (hT : TOK N t) (hc : checkB N t = true) (hu : usedB N t a = true) (hcnt : ((cntK t ((N + 1) / 2) : Int) == 1) = false) (hm : m ∈ sizes) (hv : leavesV N = m) (hN : N = 2 * m - 1) (ha : a < m)
    (hK : ∀ k, k < K → halfB (halfK N k) (blankK (updT t (2 * a) zeroN) m (2 * (a : Int)) (lgN m)) = true) (hE : halfB (halfK N K) (blankK (updT t (2 * a) zeroN) m (2 * (a : Int)) (lgN m)) = false) :
    FnTr Tryd.prog 20 [.rol false 99 N (tng t), .int .i64 a] [] (.tup [.rsl 0 99 (halfK N K) (halfK N K) (exK K), .nl .nilIface]) [.b [.rows 99 N (tng (blankK (updT t (2 * a) zeroN) m (2 * (a : Int)) (lgN m)))]] := by
  have hok : okT N (fun i => coolL (tng t i)) = true := okT_tng hT
  have hle := hT.le
  have hs := sizes_le hm
  generalize hU : blankK (updT t (2 * a) zeroN) m (2 * (a : Int)) (lgN m) = U at *
  have hUT : TOK N U := by rw [← hU]; exact hT.zero.blank _ _ _
  have hw : IntKind.i64.wrap (2 * (a : Int)) = ((2 * a : Nat) : Int) := by rw [wrapI (by omega) (by omega)]; omega
  have hlt : 2 * a < N := by omega
  generalize hcn : (cntK t ((N + 1) / 2) : Int) = c at *
  refine FnTr.sel (v := .tup [.rsl 4 99 (halfK N K) (halfK N K) (exK K), .nl .nilIface]) (h1 := (rlS N t U c (halfK N K) (exK K)).h) [4] ?_ rfl
  refine FnTr.rest (rmC_ok true []) 60 12 Tryd.func20 rfl (fun s' y h => ?_) (s := rlS N t U c (halfK N K) (exK K)) (p := true) (by kernel_rfl) rfl
  refine TrL.itemsX (rmC_ok true []) 60 5 _ 3 (Nat.zero_le _) (s1 := rmS N t a) _ (rm_head N t a) (rm_head' N t a) (by rw [hok, decide_eq_true hle, show checkB N (treeOf fun i => coolL (tng t i)) = true from hc]; rfl) (by decide) rfl ?_
  refine TrL.item 5 (by decide) (s1 := ⟨(rmS N t a).t, rmH N t c ++ [.gap], true⟩) ?_ ?_
  · exact Tr.rangeB 0 (by kernel_rfl) (f := 60) (first := []) (capt := [.ptr 2 0 0]) true Tryd.func60 (by decide) rfl (by kernel_rfl) (fun l => by have := ri_all (t := t) (i := (a : Int)) hle l; rw [hcn] at this; exact this)
      (fun l => ⟨_, rfl, rfl, by simp [rfL], rfl⟩) (fun l => rfl)
  refine TrL.itemsD (rmC_ok true [(24, false)]) 60 6 3 _ 5 (Nat.zero_le _) (s1 := rnS N t t a c) _ (rn_head N t a c) (rn_head' N t a c) (by rw [hok, decide_eq_true hle, show usedB N (treeOf fun i => coolL (tng t i)) a = true from hu, hcnt]; rfl) (by decide) rfl ?_
  have e1 := rn_z N t t a c
  rw [hw, Int.toNat_natCast, z_merge] at e1
  refine TrL.itemsD (rmC_ok true []) 60 9 1 _ 5 (Nat.zero_le _) (s1 := rnS N t (updT t (2 * a) zeroN) a c) _ e1 (rn_z' N t t a c) (by rw [hw, Int.toNat_natCast, inBN hlt, decide_eq_true hlt]; rfl) (by decide) rfl ?_
  have e2 := rm_b N t (updT t (2 * a) zeroN) a c
  rw [hv, Int.toNat_natCast, show treeOf (tng (updT t (2 * a) zeroN)) = updT t (2 * a) zeroN from rfl, hU] at e2
  refine TrL.itemsD (rmC_ok true []) 60 10 1 _ 5 (Nat.zero_le _) (s1 := rlS N t U c (halfK N 0) (exK 0)) _ e2 (rm_b' N t (updT t (2 * a) zeroN) a c) (by
    rw [okT_tng hT.zero, show blankOK N (a : Int) = true from List.any_eq_true.2 ⟨m, hm, by
      rw [hv, decide_eq_true hN, beq_self_eq_true, decide_eq_true (show (0 : Int) ≤ (a : Int) by omega), decide_eq_true (show (a : Int) < (m : Int) by omega)]; rfl⟩, decide_eq_true rfl]; rfl) (by decide) rfl ?_
  refine TrL.item 11 (by decide) (s1 := rlS N t U c (halfK N K) (exK K)) (Tr.loop 2 (by kernel_rfl) (fun k => rlS N t U c (halfK N k) (exK k)) K (fun k hk => ?_) ?_) h
  · have hk71 := halfK_le N k
    have e3 := rl_go N t U c (halfK N k) (exK k)
    have hdiv : IntKind.i64.wrap ((halfK N k : Int).tdiv 2) = ((halfK N (k + 1) : Nat) : Int) := by
      have : (halfK N k : Int).tdiv 2 = ((halfK N k / 2 : Nat) : Int) := rfl
      rw [this, wrapI (by omega) (by omega)]; rfl
    have hl1 : halfK N (k + 1) ≤ halfK N k := by show halfK N k / 2 ≤ _; omega
    rw [hdiv, Int.toNat_natCast, Bool.or_true] at e3
    obtain ⟨g1, g2⟩ := leaves_half (n := halfK N k) (by omega)
    refine Tr.cutX (rmC_ok true [(42, true)]) 60 _ 5 (Nat.zero_le _) (s' := rlS N t U c (halfK N (k + 1)) (exK (k + 1))) _ e3 (rl_go' N t U c (halfK N k) (exK k)) ?_
    rw [hdiv, Int.toNat_natCast, decide_eq_true hk71, show okT (halfK N k) (fun i => coolL (tng U i)) = true from okT_tng (hUT.le' hk71), decide_eq_true (show halfK N k ≤ 71 by omega), g1, g2, show emptyB (halfK N k) (treeOf fun i => coolL (tng U i)) (IntKind.i64.wrap ((leavesV ((halfK N k : Nat) : Int)).tdiv 2)).toNat = true from hK k hk,
      decide_eq_true (show (0 : Int) ≤ ((halfK N (k + 1) : Nat) : Int) by omega), decide_eq_true (show ((halfK N (k + 1) : Nat) : Int) ≤ ((halfK N k : Nat) : Int) by omega), decide_eq_true (show ((halfK N (k + 1) : Nat) : Int) ≤ ((halfK N (k + 1) : Nat) : Int) by omega)]
    rfl
  · have hk71 := halfK_le N K
    obtain ⟨g1, g2⟩ := leaves_half (n := halfK N K) (by omega)
    refine Tr.cutX (rmC_ok true [(42, false)]) 60 _ 5 (Nat.zero_le _) _ (rl_end N t U c (halfK N K) (exK K)) (rl_end' N t U c (halfK N K) (exK K)) ?_
    rw [decide_eq_true hk71, show okT (halfK N K) (fun i => coolL (tng U i)) = true from okT_tng (hUT.le' hk71), decide_eq_true (show halfK N K ≤ 71 by omega), g1, g2, show emptyB (halfK N K) (treeOf fun i => coolL (tng U i)) (IntKind.i64.wrap ((leavesV ((halfK N K : Nat) : Int)).tdiv 2)).toNat = false from hE]
    rfl
end
end Go.Proofs.YtkcmlclomcidiaaDoor.Tr
