/- This file proves the contracts of large, of tree's Same and of the reference's SameNode, Find, from their runs. Conditions: lengths that memory bears. -/
import Derived.Test.YtkcmlclomcidiaaDoorATrY
set_option linter.all false
namespace Go.Proofs.YtkcmlclomcidiaaDoor.Tr
open Go Go.Sy
section
variable {N M : Nat} {t u : Nat → Nod}
def lgJ (t : Nat → Nod) (i : Nat) : Bool := !decide ((i : Int) > 70) && !decide (((t i).un.length : Int) > 50)
def largeB (N : Nat) (t : Nat → Nod) : Bool := scanV (lgJ t) N (fun _ => true) false
theorem large_fn : FnTr Tryd.prog 10 [.rol false 99 N (tng t)] [] (.bool (largeB N t)) [] := by
  have key := FnTr.scan (P := Tryd.prog) (args := [.rol false 99 N (tng t)]) (h := []) (h' := []) Tryd.func10 rfl 2 0 (fun j : Nat => lgS N t ((j : Nat) : Int)) (lgJ t) N
    (fun x s' g => TrL.itemsX (usC_ok []) 60 2 _ 0 (by simp) (s1 := lgS N t ((0 : Nat) : Int)) _ (lg_head N t) (lg_head' N t) rfl (by decide) rfl g) (by decide) (by kernel_rfl)
    (fun j hj hb _ => ?_) (fun i => bS 21 2 true) (fun i => [.bool true]) (fun j hj hb _ => ⟨?_, rfl, rfl⟩) (sE := ⟨slotsOf 21 [], [], true⟩) (sE' := bS 21 2 false) (vE := [.bool false]) (xE := .ret) (fun _ => ?_) (fun _ => ⟨?_, .inl rfl, rfl, rfl⟩)
  · rw [oneOf_scan (g := SV.bool) (vF := fun _ : Nat => true) (vE := false)] at key
    exact key
  · unfold lgJ at hb
    obtain ⟨h1, h2⟩ := Bool.and_eq_true_iff.1 hb
    have h70 : ¬ ((j : Int) > 70) := by
      intro q
      rw [decide_eq_true q] at h1
      cases h1
    have e := lg_go N t j
    rw [wrapS (by omega)] at e
    exact Tr.cutX (usC_ok [(8, true), (13, false), (18, false)]) 60 _ 0 (Nat.le_refl _) (s' := lgS N t ((j + 1 : Nat) : Int)) _ e (lg_go' N t j) (by
      rw [Int.toNat_natCast, ltN hj, inBN hj, decide_eq_true hj, h1, h2]; rfl)
  · cases h1 : decide ((j : Int) > 70) with
    | true => exact Tr.cutX (usC_ok [(8, true), (13, true)]) 60 _ 0 (Nat.le_refl _) (s' := bS 21 2 true) _ (lg_a N t j) (lg_a' N t j) (by rw [Int.toNat_natCast, ltN hj, inBN hj, decide_eq_true hj, h1]; rfl)
    | false =>
      unfold lgJ at hb
      rw [h1] at hb
      have h2 : decide (((t j).un.length : Int) > 50) = true := by simpa using hb
      exact Tr.cutX (usC_ok [(8, true), (13, false), (18, true)]) 60 _ 0 (Nat.le_refl _) (s' := bS 21 2 true) _ (lg_b N t j) (lg_b' N t j) (by rw [Int.toNat_natCast, ltN hj, inBN hj, decide_eq_true hj, h1, h2]; rfl)
  · exact Tr.cutX (usC_ok [(8, false)]) 60 _ 0 (Nat.le_refl _) (s' := ⟨slotsOf 21 [], [], true⟩) _ (lg_end N t _) (lg_end' N t _) (by rw [nltN (Nat.le_refl _)]; rfl)
  · exact TrL.rest (usC_ok []) 60 (by kernel_rfl) rfl
def PARTS (N : Nat) (t : Nat → Nod) : Prop := ∀ i, i < N → lensB (t i).key (t i).sign (t i).par (t i).un = true
def nsB (a b : Nod) : Bool := sameB a.used b.used a.name b.name a.key a.sign a.par a.un b.key b.sign b.par b.un
def treeB (N M : Nat) (t u : Nat → Nod) : Bool := !((N : Int) != (M : Int)) && scanV (fun i => nsB (t i) (u i)) N (fun _ => false) true
theorem equalF_fn (h : N ≤ 274877906944) (hT : PARTS N t) (hU : PARTS M u) : FnTr Tryd.prog efF (efA N M t u) [] (.bool (treeB N M t u)) [] := by
  unfold treeB
  cases h0 : ((N : Int) != (M : Int)) with
  | true => exact call0 (efC_ok [(14, true)]) 60 Tryd.func52 (ef_n N M t u) (by rw [h0]; rfl) rfl
  | false =>
    have hNM : N = M := by
      have : ((N : Int) == (M : Int)) = true := by simpa [bne] using h0
      have := eq_of_beq this
      omega
    subst hNM
    have key := FnTr.scan (P := Tryd.prog) (args := efA N N t u) (h := []) (h' := []) Tryd.func52 rfl 4 0 (fun j : Nat => efS N N t u ((j : Nat) : Int)) (fun i => nsB (t i) (u i)) N
      (fun x s' g => TrL.itemsX (efC_ok [(14, false)]) 60 4 _ 0 (by simp) (s1 := efS N N t u ((0 : Nat) : Int)) _ (ef_head N N t u) (ef_head' N N t u) (by rw [h0]; rfl) (by decide) rfl g) (by decide) (by kernel_rfl)
      (fun j hj hb _ => ?_) (fun i => bS 32 6 false) (fun i => [.bool false]) (fun j hj hb _ => ⟨?_, rfl, rfl⟩) (sE := ⟨slotsOf 32 [], [], true⟩) (sE' := bS 32 6 true) (vE := [.bool true]) (xE := .ret) (fun _ => ?_) (fun _ => ⟨?_, .inl rfl, rfl, rfl⟩)
    · rw [oneOf_scan (g := SV.bool) (vF := fun _ : Nat => false) (vE := true)] at key
      exact key
    · have e := ef_go N N t u j
      rw [wrapS (by omega)] at e
      exact Tr.cutX (efC_ok [(18, true), (30, false)]) 60 _ 0 (Nat.le_refl _) (s' := efS N N t u ((j + 1 : Nat) : Int)) _ e (ef_go' N N t u j) (by
        rw [Int.toNat_natCast, ltN hj, inBN hj, decide_eq_true hj, hT j hj, hU j hj, show sameB (t j).used (u j).used (t j).name (u j).name (t j).key (t j).sign (t j).par (t j).un (u j).key (u j).sign (u j).par (u j).un = true from hb]; rfl)
    · exact Tr.cutX (efC_ok [(18, true), (30, true)]) 60 _ 0 (Nat.le_refl _) (s' := bS 32 6 false) _ (ef_no N N t u j) (ef_no' N N t u j) (by
        rw [Int.toNat_natCast, ltN hj, inBN hj, decide_eq_true hj, hT j hj, hU j hj, show sameB (t j).used (u j).used (t j).name (u j).name (t j).key (t j).sign (t j).par (t j).un (u j).key (u j).sign (u j).par (u j).un = false from hb]; rfl)
    · exact Tr.cutX (efC_ok [(18, false)]) 60 _ 0 (Nat.le_refl _) (s' := ⟨slotsOf 32 [], [], true⟩) _ (ef_end N N t u _) (ef_end' N N t u _) (by rw [nltN (Nat.le_refl _)]; rfl)
    · exact TrL.rest (efC_ok []) 60 (by kernel_rfl) rfl
end
section
variable {a b : Nod}
def unJ (a b : List Int) (i : Nat) : Bool := !(a.getD i 0 != b.getD i 0)
theorem unJ_all : ∀ {a b : List Int}, a.length = b.length → scanV (unJ a b) a.length (fun _ => false) true = decide (a = b) := by
  intro a b h
  unfold scanV
  cases hq : firstN (unJ a b) a.length with
  | none =>
    have ha := firstN_none hq
    refine (decide_eq_true ?_).symm
    apply List.ext_getElem h
    intro i h1 h2
    have := ha i h1
    unfold unJ at this
    simpa [List.getD, List.getElem?_eq_getElem h1, List.getElem?_eq_getElem h2] using this
  | some j =>
    obtain ⟨h1, h2, _⟩ := find_range hq
    refine (decide_eq_false fun q => ?_).symm
    subst q
    unfold unJ at h2
    simp at h2
theorem sameNode_fn (ha : lensB a.key a.sign a.par a.un = true) (hb : lensB b.key b.sign b.par b.un = true) : FnTr Tryd.prog 13 [.agg a.cells, .agg b.cells] [] (.bool (nsB a b)) [] := by
  obtain ⟨k1, k2, k3, k4⟩ := lensB_iff.1 ha
  obtain ⟨m1, m2, m3, m4⟩ := lensB_iff.1 hb
  unfold nsB sameB
  cases h1 : (a.used == b.used) with
  | false => exact call0 (usC_ok _) 60 Tryd.func13 (sn_0 a b) (by rw [h1]; rfl) rfl
  | true =>
  cases h2 : (a.name == b.name) with
  | false => exact call0 (usC_ok _) 60 Tryd.func13 (sn_1 a b) (by rw [h1, bne, h2]; rfl) rfl
  | true =>
  cases h3 : decide (a.key = b.key) with
  | false => exact call0 (usC_ok _) 60 Tryd.func13 (sn_2 a b) (by rw [h1, bne, h2, h3, decide_eq_true k1, decide_eq_true m1]; rfl) rfl
  | true =>
  cases h4 : decide (a.sign = b.sign) with
  | false => exact call0 (usC_ok _) 60 Tryd.func13 (sn_3 a b) (by rw [h1, bne, h2, h3, h4, decide_eq_true k1, decide_eq_true m1, decide_eq_true k2, decide_eq_true m2]; rfl) rfl
  | true =>
  cases h5 : decide (a.par = b.par) with
  | false => exact call0 (usC_ok _) 60 Tryd.func13 (sn_4 a b) (by rw [h1, bne, h2, h3, h4, h5, decide_eq_true k1, decide_eq_true m1, decide_eq_true k2, decide_eq_true m2, decide_eq_true k3, decide_eq_true m3]; rfl) rfl
  | true =>
  cases h6 : ((a.un.length : Int) != (b.un.length : Int)) with
  | true =>
    have : decide (a.un = b.un) = false := decide_eq_false fun q => by rw [q] at h6; simp at h6
    rw [this]
    exact call0 (usC_ok _) 60 Tryd.func13 (sn_5 a b) (by rw [h1, bne, h2, h3, h4, h5, h6, decide_eq_true k1, decide_eq_true m1, decide_eq_true k2, decide_eq_true m2, decide_eq_true k3, decide_eq_true m3]; rfl) rfl
  | false =>
    have hl : a.un.length = b.un.length := by
      have : ((a.un.length : Int) == (b.un.length : Int)) = true := by simpa [bne] using h6
      have := eq_of_beq this
      omega
    have key := FnTr.scan (P := Tryd.prog) (args := [.agg a.cells, .agg b.cells]) (h := []) (h' := []) Tryd.func13 rfl 4 0 (fun j : Nat => snS a b ((j : Nat) : Int)) (unJ a.un b.un) a.un.length
      (fun x s' g => TrL.itemsX (usC_ok [(10, false), (16, false), (23, false), (30, false), (37, false), (46, false)]) 60 4 _ 2 (by simp) (s1 := snS a b ((0 : Nat) : Int)) _ (sn_head a b) (sn_head' a b) (by rw [h1, bne, h2, h3, h4, h5, h6, decide_eq_true k1, decide_eq_true m1, decide_eq_true k2, decide_eq_true m2, decide_eq_true k3, decide_eq_true m3]; rfl) (by decide) rfl g) (by decide) (by kernel_rfl)
      (fun j hj hb _ => ?_) (fun i => bS 66 4 false) (fun i => [.bool false]) (fun j hj hb _ => ⟨?_, rfl, rfl⟩) (sE := ⟨slotsOf 66 [], [], true⟩) (sE' := bS 66 4 true) (vE := [.bool true]) (xE := .ret) (fun _ => ?_) (fun _ => ⟨?_, .inl rfl, rfl, rfl⟩)
    · rw [oneOf_scan (g := SV.bool) (vF := fun _ : Nat => false) (vE := true), unJ_all hl] at key
      exact key
    · have e := sn_go a b j
      rw [wrapS (by omega)] at e
      exact Tr.cutX (usC_ok [(52, true), (65, false)]) 60 _ 2 (Nat.zero_le _) (s' := snS a b ((j + 1 : Nat) : Int)) _ e (sn_go' a b j) (by
        have hj2 : j < b.un.length := by omega
        rw [Int.toNat_natCast, ltN hj, inBN hj, decide_eq_true hj, inBN hj2, decide_eq_true hj2, show (!(a.un.getD j 0 != b.un.getD j 0)) = true from hb]; rfl)
    · have hj2 : j < b.un.length := by omega
      have hb' : (a.un.getD j 0 != b.un.getD j 0) = true := by
        unfold unJ at hb
        simpa using hb
      exact Tr.cutX (usC_ok [(52, true), (65, true)]) 60 _ 0 (Nat.zero_le _) (s' := bS 66 4 false) _ (sn_no a b j) (sn_no' a b j) (by
        rw [Int.toNat_natCast, ltN hj, inBN hj, decide_eq_true hj, inBN hj2, decide_eq_true hj2, hb']; rfl)
    · exact Tr.cutX (usC_ok [(52, false)]) 60 _ 0 (Nat.le_refl _) (s' := ⟨slotsOf 66 [], [], true⟩) _ (sn_end a b _) (sn_end' a b _) (by rw [nltN (Nat.le_refl _)]; rfl)
    · exact TrL.rest (usC_ok []) 60 (by kernel_rfl) rfl
end
section
variable {N : Nat} {t : Nat → Nod} {nm : Int}
theorem refFind_fn (h : N ≤ 71) : FnTr Tryd.prog 23 [.rol false 99 N (tng t), .int .i64 nm] [] (.int .i64 (findV N t nm)) [] := by
  have key := FnTr.scan (P := Tryd.prog) (args := [.rol false 99 N (tng t), .int .i64 nm]) (h := []) (h' := []) Tryd.func23 rfl 2 0 (fun j : Nat => rfS N t nm ((2 * j : Nat) : Int)) (fdJ t nm) ((N + 1) / 2)
    (fun x s' g => TrL.itemsX (usC_ok []) 60 2 _ 0 (by simp) (s1 := rfS N t nm ((2 * 0 : Nat) : Int)) _ (rf_head N t nm) (rf_head' N t nm) rfl (by decide) rfl g) (by decide) (by kernel_rfl)
    (fun j hj hb _ => ?_) (fun i => iS 28 4 ((i : Nat) : Int)) (fun i => [.int .i64 ((i : Nat) : Int)]) (fun j hj hb _ => ⟨?_, rfl, rfl⟩) (sE := ⟨slotsOf 28 [], [], true⟩) (sE' := iS 28 4 (-1)) (vE := [.int .i64 (-1)]) (xE := .ret) (fun _ => ?_) (fun _ => ⟨?_, .inl rfl, rfl, rfl⟩)
  · rw [oneOf_scan (g := SV.int .i64) (vF := fun i : Nat => ((i : Nat) : Int)) (vE := -1)] at key
    exact key
  · have hlt : 2 * j < N := by omega
    have hw : IntKind.i64.wrap (((2 * j : Nat) : Int) + 2) = ((2 * (j + 1) : Nat) : Int) := by rw [wrapI (by omega) (by omega)]; omega
    unfold fdJ at hb
    cases hu : (t (2 * j)).used with
    | false =>
      have e := rf_u N t nm ((2 * j : Nat) : Int)
      rw [hw] at e
      exact Tr.cutX (usC_ok [(9, true), (16, false)]) 60 _ 0 (Nat.le_refl _) (s' := rfS N t nm ((2 * (j + 1) : Nat) : Int)) _ e (rf_u' N t nm _) (by
        rw [Int.toNat_natCast, ltN hlt, inBN hlt, decide_eq_true hlt, show (t (2 * j)).1 = false from hu]; rfl)
    | true =>
      rw [hu, Bool.true_and] at hb
      have e := rf_n N t nm ((2 * j : Nat) : Int)
      rw [hw] at e
      exact Tr.cutX (usC_ok [(9, true), (16, true), (24, false)]) 60 _ 0 (Nat.le_refl _) (s' := rfS N t nm ((2 * (j + 1) : Nat) : Int)) _ e (rf_n' N t nm _) (by
        rw [Int.toNat_natCast, ltN hlt, inBN hlt, decide_eq_true hlt, show (t (2 * j)).1 = true from hu, hb]; rfl)
  · have hlt : 2 * j < N := by omega
    unfold fdJ at hb
    have hb' : (t (2 * j)).used = true ∧ ((t (2 * j)).name == nm) = true := by simpa using hb
    have hw : IntKind.i64.wrap (((2 * j : Nat) : Int).tdiv 2) = (j : Int) := by
      have : ((2 * j : Nat) : Int).tdiv 2 = ((2 * j / 2 : Nat) : Int) := rfl
      rw [this, wrapI (by omega) (by omega)]; omega
    have e := rf_is N t nm ((2 * j : Nat) : Int)
    rw [hw] at e
    exact Tr.cutX (usC_ok [(9, true), (16, true), (24, true)]) 60 _ 0 (Nat.le_refl _) (s' := iS 28 4 ((j : Nat) : Int)) _ e (rf_is' N t nm _) (by
      rw [Int.toNat_natCast, ltN hlt, inBN hlt, decide_eq_true hlt, show (t (2 * j)).1 = true from hb'.1, hb'.2]; rfl)
  · exact Tr.cutX (usC_ok [(9, false)]) 60 _ 0 (Nat.le_refl _) (s' := ⟨slotsOf 28 [], [], true⟩) _ (rf_end N t nm _) (rf_end' N t nm _) (by rw [nltN (by omega)]; rfl)
  · exact TrL.rest (usC_ok []) 60 (by kernel_rfl) rfl
end
end Go.Proofs.YtkcmlclomcidiaaDoor.Tr
