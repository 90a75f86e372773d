/- This file proves the law CipherBoth from its runs. Conditions: texts of bytes. -/
import Derived.Test.YtkoohnpknhoahaaJCpF
set_option linter.all false
namespace Go.Proofs.Ytkoohnpknhoahaa.Cp
open Go Go.Sy Sh
structure CS where
  key : List Int
  ch : List Int
  ha : List Int
  h : Bool
  m : Int
noncomputable def cstep (s : CS) (kd : Int) (x : List Int) : CS :=
  if kd = 0 then { s with ha := S2.shortW (s.ha ++ x) } else if kd = 1 then ⟨tw2 (Kd.tagW s.ch x), tw1 (Kd.tagW s.ch x), s.ha, true, 0⟩
  else match s.h with
    | true => ⟨s.key, s.ch, S2.shortW (s.ha ++ hiW s.key s.ha s.m x), true, s.m + 1⟩
    | false => ⟨s.key, s.ch, S2.shortW (s.ha ++ x), false, s.m⟩
noncomputable def cst (k : Nat → Int) (t : Nat → List Int) (nm : List Int) : Nat → CS
  | 0 => ⟨z32, S2.shortW nm, S2.shortW nm, false, 0⟩
  | j + 1 => cstep (cst k t nm j) (k j) (t j)
def CS.OK (s : CS) (j : Nat) : Prop := s.ha.length = 32 ∧ s.ch.length = 32 ∧ 0 ≤ s.m ∧ s.m ≤ j
theorem cst_ok (k : Nat → Int) (t : Nat → List Int) (nm : List Int) : ∀ j, (cst k t nm j).OK j
  | 0 => ⟨S2.shortW_len _, S2.shortW_len _, Int.le_refl 0, Int.le_refl 0⟩
  | j + 1 => by
    obtain ⟨h1, h2, h3, h4⟩ := cst_ok k t nm j
    show (cstep (cst k t nm j) (k j) (t j)).OK (j + 1)
    generalize cst k t nm j = s at *
    unfold cstep
    split
    · exact ⟨S2.shortW_len _, h2, h3, by show s.m ≤ _; omega⟩
    · split
      · exact ⟨h1, (tw_len _).1, Int.le_refl 0, by show (0 : Int) ≤ _; omega⟩
      · split
        · exact ⟨S2.shortW_len _, h2, by show 0 ≤ s.m + 1; omega, by show s.m + 1 ≤ _; omega⟩
        · exact ⟨S2.shortW_len _, h2, h3, by show s.m ≤ _; omega⟩
theorem oH_true {ob : Bool} {H : List Int} {m : Int} (h1 : ob = true) (h2 : H.length = 32) : oH ob H m = true := by
  unfold oH
  simp [andT_iff, h1, h2]
theorem u8R_true {x : List Int} (h : ∀ z ∈ x, 0 ≤ z ∧ z < 256) : u8R x = true := by
  unfold u8R
  rw [List.all_eq_true]
  intro z hz
  simp [h z hz]
theorem oS_true {ob : Bool} {x H : List Int} {m : Int} (h1 : ob = true) (hx : ∀ z ∈ x, 0 ≤ z ∧ z < 256) (h2 : H.length = 32) : oS ob x x H m = true := by
  unfold oS
  refine oH_true ?_ h2
  simp [andT_iff, h1, u8R_true hx]
section
variable {k n : Nat → Int} {t : Nat → List Int} {N : Nat}
theorem bo_body {key ch ha : List Int} {h : Bool} {m : Int} {j : Nat} (hj : j < N) (hN : N ≤ 61) (f : Nat → Option Bool) {s' : St}
    (e0 : (execA Try.prog (boC k n t N f) 60 0 ((atoms boR).drop 2) (boT k n t N key ch ha h m j 0 1 (k j) (n j) (t j))).bind (fun r => (r.2.cut [4, 5, 31, 32, 33] 3).map fun q => (r.1, q)) = some (.normal, s'))
    (e1 : (execA Try.prog (boC k n t N f) 60 0 ((atoms boR).drop 2) (boT k n t N key ch ha h m j 1 0 (k j) (n j) (t j))).bind (fun r => (r.2.cut [4, 5, 31, 32, 33] 3).map fun q => (r.1, q)) = some (.normal, s')) (hob : s'.ob = true) :
    Tr Try.prog none 0 boR (boS k n t N key ch ha h m j) .normal s' := by
  have p := bo_pre k n t N key ch ha h m j (by omega)
  rw [inB_true (by omega) (by omega), decide_eq_true hj] at p
  by_cases q : j % 2 = 0
  · rw [if_pos q, if_pos q] at p
    exact TrL.cutA (boC_ok _ _ _ _ _) 60 2 _ 3 (by omega) (fun s2 h => TrL.items (boC_ok _ _ _ _ _) 60 2 _ 4 (by omega) p rfl (by decide) h) e0 hob
  · rw [if_neg q, if_neg q] at p
    exact TrL.cutA (boC_ok _ _ _ _ _) 60 2 _ 3 (by omega) (fun s2 h => TrL.items (boC_ok _ _ _ _ _) 60 2 _ 4 (by omega) p rfl (by decide) h) e1 hob
noncomputable def bS (k n : Nat → Int) (t : Nat → List Int) (N : Nat) (s : CS) (i : Int) : St := boS k n t N s.key s.ch s.ha s.h s.m i
theorem bo_round {s : CS} {j : Nat} (hj : j < N) (hN : N ≤ 61) (ok : s.OK j) (ht : (t j).length ≤ 500) (hb : ∀ z ∈ t j, 0 ≤ z ∧ z < 256) : Tr Try.prog none 0 boL (bS k n t N s j) .normal (bS k n t N (cstep s (k j) (t j)) ((j + 1 : Nat) : Int)) := by
  obtain ⟨key, ch, ha, h, m⟩ := s
  obtain ⟨h1, h2, h3, h4⟩ := ok
  simp only at h1 h2 h3 h4
  have body : Tr Try.prog none 0 boR (bS k n t N ⟨key, ch, ha, h, m⟩ j) .normal (bS k n t N (cstep ⟨key, ch, ha, h, m⟩ (k j) (t j)) j) := by
    unfold cstep
    by_cases c0 : k j = 0
    · rw [if_pos c0]
      have hx := hiX_true (ha := ha) (x := t j) h1 (by omega)
      have e0 := bo_00 k n t N key ch ha h m j (k j) (n j) (t j)
      have e1 := bo_01 k n t N key ch ha h m j (k j) (n j) (t j)
      rw [flat2] at e0 e1
      exact Tr.post (bo_body hj hN f0 e0 e1 (oH_true (by rw [hx, c0]; rfl) (S2.shortW_len _))) (Ent.same rfl rfl)
    · rw [if_neg c0]
      by_cases c1 : k j = 1
      · rw [if_pos c1]
        have e0 := bo_10 k n t N key ch ha h m j (k j) (n j) (t j)
        have e1 := bo_11 k n t N key ch ha h m j (k j) (n j) (t j)
        refine Tr.post (bo_body hj hN f1 e0 e1 ?_) (Ent.same rfl rfl)
        show o1 ch ha (t j) (k j) = true
        unfold o1
        rw [c1]
        simp [andT_iff, h1, h2]
        omega
      · rw [if_neg c1]
        have k0 : (!(k j == 0)) = true := by simpa using c0
        have k1 : (!(k j == 1)) = true := by simpa using c1
        cases h
        · have e0 := bo_30 k n t N key ch ha m j (k j) (n j) (t j)
          have e1 := bo_31 k n t N key ch ha m j (k j) (n j) (t j)
          refine Tr.post (bo_body hj hN f2 e0 e1 ?_) (Ent.same rfl rfl)
          refine oS_true ?_ hb (S2.shortW_len _)
          rw [k0, k1]
          simp [andT_iff, h1]
          omega
        · have e0 := bo_20 k n t N key ch ha m j (k j) (n j) (t j)
          have e1 := bo_21 k n t N key ch ha m j (k j) (n j) (t j)
          refine Tr.post (bo_body hj hN f2 e0 e1 ?_) (Ent.same rfl rfl)
          show o2 key ha (t j) (k j) m = true
          unfold o2 hiW
          rw [Ae.open_seal hb]
          refine oS_true ?_ hb (S2.shortW_len _)
          rw [k0, k1, Ae.seal_opens, Ae.sealW_len]
          simp [andT_iff, h1]
          omega
  have a := bo_a k n t N key ch ha h m j
  rw [decide_eq_true (show (j : Int) < N by omega)] at a
  generalize hs : cstep ⟨key, ch, ha, h, m⟩ (k j) (t j) = s' at *
  have z := bo_z k n t N s'.key s'.ch s'.ha s'.h s'.m j
  rw [wrap_i64 _ (by omega) (by omega)] at z
  have hblk : nthC 2 boL = .block 1 boR := by kernel_rfl
  refine Tr.of_atoms (TrL.items (boC_ok _ _ _ _ _) 60 2 _ 3 (by omega) a rfl (by decide) ?_)
  refine TrL.item 2 (by decide) (s1 := bS k n t N s' j) ?_ (TrL.item 3 (by decide) (s1 := bS k n t N s' ((j + 1 : Nat) : Int)) (Tr.cut (boC_ok _ _ _ _ _) 60 _ 3 (by omega) z rfl) ⟨rfl, rfl⟩)
  rw [hblk]
  exact Tr.block_pass body (by simp)
theorem both_law {nm : List Int} (hb : ∀ i, i < N → ∀ z ∈ t i, 0 ≤ z ∧ z < 256) : FnTr Try.prog 9 [.str nm, .rol false 3 N (opg k n t)] [] (.bool true) [] := by
  cases hL : lgW N t with
  | true => exact call0 (boC_ok k n t N (fun i => if i = 21 then some true else none)) 60 Try.func9 (p := andT (andT true (andT true (lgD k n t N))) (lgW N t)) (by kernel_rfl) (by rw [lgD_true, hL]; rfl) rfl
  | false =>
    by_cases hn : (nm.length : Int) > 1000
    · exact call0 (boC_ok k n t N (fun i => if i = 21 then some false else if i = 25 then some true else none)) 60 Try.func9 (p := andT (andT (andT true (andT true (lgD k n t N))) (!lgW N t)) (decide ((nm.length : Int) > 1000))) (by kernel_rfl) (by rw [lgD_true, hL, decide_eq_true hn]; rfl) rfl
    have hbad : ¬ ∃ i, i < N ∧ badP t i := by
      unfold lgW at hL
      exact @of_decide_eq_false _ (Classical.propDecidable _) hL
    have hN : N ≤ 61 := by
      apply Classical.byContradiction
      intro q
      exact hbad ⟨61, by omega, .inl (by decide)⟩
    have htx : ∀ j, j < N → (t j).length ≤ 500 := fun j hj => by
      apply Classical.byContradiction
      intro q
      exact hbad ⟨j, hj, .inr (by omega)⟩
    have hloop : Tr Try.prog none 0 (nthC 7 boB) (bS k n t N (cst k t nm 0) 0) .normal (bS k n t N (cst k t nm N) N) := by
      refine Tr.loop (P := Try.prog) (ro := none) (k := 0) 0 (c := nthC 7 boB) (by kernel_rfl) (fun j : Nat => bS k n t N (cst k t nm j) j) N (s' := bS k n t N (cst k t nm N) N) (fun j hj => bo_round hj hN (cst_ok k t nm j) (htx j hj) (hb j hj)) ?_
      have e := bo_end k n t N (cst k t nm N).key (cst k t nm N).ch (cst k t nm N).ha (cst k t nm N).h (cst k t nm N).m N
      rw [decide_eq_false (show ¬ ((N : Int) < N) by omega)] at e
      exact Tr.cut (boC_ok _ _ _ _ _) 60 _ 3 (by omega) e rfl
    obtain ⟨_, hc, _, _⟩ := cst_ok k t nm N
    generalize cst k t nm N = s at hloop hc
    obtain ⟨key, ch, ha, h, m⟩ := s
    simp only at hc
    have key : FnTr Try.prog 9 [.str nm, .rol false 3 N (opg k n t)] [] (.bool (decide (tw2 ch = tw2 ch))) [] := by
      refine FnTr.restM (boC_ok k n t N (fun i => if i = 123 then some true else none)) 60 8 0 Try.func9 (by simp) rfl (fun s' x h => ?_) (s := boS k n t N key ch ha h m N)
        (p := andT (andT (andT (andT (andT (andT true (andT true (andT true (decide (ch.length = 32))))) (andT true (andT true (decide (ch.length = 32))))) (andT (decide ((tw1 ch).length = 32)) (decide ((tw1 ch).length = 32)))) (decide (tw1 ch = tw1 ch))) (andT (decide ((tw2 ch).length = 32)) (decide ((tw2 ch).length = 32)))) true) (by kernel_rfl) ?_ rfl rfl
      · have e := bo_head k n t N nm
        have ho : hdO k n t N nm = true := by
          unfold hdO
          rw [lgD_true, hL, decide_eq_false hn, decide_eq_true (show nm.length < 274877900000 by omega)]; rfl
        rw [ho] at e
        exact TrL.items (boC_ok _ _ _ _ _) 60 7 _ 3 (by simp) e rfl (by decide) (TrL.item 7 (by decide) hloop h)
      · rw [hc, (tw_len ch).1, (tw_len ch).2, decide_eq_true (rfl : tw1 ch = tw1 ch)]; rfl
    rw [decide_eq_true (rfl : tw2 ch = tw2 ch)] at key
    exact key
theorem both_row {nm : List Int} (_ : True) (hb : ∀ i, i < N → ∀ z ∈ t i, 0 ≤ z ∧ z < 256) : FnTr Try.prog 9 [.str nm, .rol false 3 N (opg k n t)] [] (.bool true) [] := both_law hb
end
end Go.Proofs.Ytkoohnpknhoahaa.Cp
