/- This file proves the law CipherHides from its runs. Conditions: texts of bytes; keys of 32 bytes. -/
import Derived.Test.YtkoohnpknhoahaaKChC
set_option linter.all false
namespace Go.Proofs.Ytkoohnpknhoahaa.Ch
open Go Go.Sy Sh R4
open Cp (opg lgW large_fn)
theorem Yx_eq (x : List Int) : Yx x = x := by unfold Yx; rw [List.drop_zero, List.take_left' rfl]
theorem oC_true (c : Int) : oC c = true := rfl
theorem Cx_dg (c : Int) : Dg (Cx c) := Dg.cons.2 ⟨by rw [Fe.wrap_u8]; omega, Dg.nil⟩
theorem oP_true {j N : Nat} {x : List Int} {c : Int} {kd P1 P2 : Bool} (hj : j < N) (hx : x.length ≤ 500) (h1 : kd = true) (h2 : P1 = true) (h3 : P2 = true) : oP j N x c kd P1 P2 = true := by
  unfold oP
  rw [inB_true (by omega) (by omega), Int.toNat_natCast, decide_eq_true hj, decide_eq_true (show x.length < 1000000 by omega), Yx_eq, oC_true, h1, h2, h3, decide_eq_true (show 0 + x.length ≤ x.length + 2 by omega), decide_eq_true (show 0 + x.length ≤ (x ++ [(165 : Int), 90]).length by simp), decide_eq_true (rfl : x.length = x.length)]
  rfl
theorem oS_true {ob : Bool} {L : Nat} {out : List Int} (h : ob = true) (hl : out.length = L) (d : Dg out) : oS ob L out out = true := by
  subst hl
  unfold oS
  rw [List.drop_zero, List.take_of_length_le (Nat.le_refl _), h, show u8R out = true from dgB_iff.2 d, decide_eq_true (rfl : out = out), decide_eq_true (show 0 + out.length ≤ out.length by omega), decide_eq_true (rfl : out.length = out.length)]
  rfl
theorem oT_true {ob : Bool} {m : Int} {x : List Int} {Q : Bool} (h : ob = true) (hx : x.length ≤ 500) (d : Dg x) (hQ : Q = true) : oT ob m x Q = true := by
  unfold oT
  rw [h, hQ, Bn.bne_self', show u8R x = true from dgB_iff.2 d, decide_eq_true (show x.length < 1000000 by omega), decide_eq_true (rfl : x.length = x.length), decide_eq_true (rfl : x.length + 2 = x.length + 2), decide_eq_true (rfl : x ++ [165, 90] = x ++ [165, 90]), decide_eq_true (show (x ++ [(165 : Int), 90]).length = x.length + 2 by simp)]
  rfl
theorem oQ_true {x : List Int} {L : Nat} {out : List Int} (hx : x.length ≤ 500) (hl : out.length = L) (hL : L < 1000000) : oQ x L out = true := by
  unfold oQ
  rw [hl, decide_eq_true (rfl : L = L), decide_eq_true hL, decide_eq_true (show x.length < 1000000 by omega), decide_eq_true (rfl : x.length + 2 = x.length + 2), decide_eq_true (show (x ++ [(165 : Int), 90]).length = x.length + 2 by simp)]
  rfl
theorem oQ0_true {x : List Int} (hx : x.length ≤ 500) : oQ0 x = true := by
  unfold oQ0
  rw [decide_eq_true (show x.length < 1000000 by omega), decide_eq_true (rfl : x.length + 2 = x.length + 2), decide_eq_true (show (x ++ [(165 : Int), 90]).length = x.length + 2 by simp)]
  rfl
noncomputable def mstep (key : List Int) (kd : Int) (x : List Int) (c m : Int) : Int :=
  if m < 4294967295 then (if kd = 2 then m + 1 else if Ae.openB key (Ae.nonceW m) (Cx c) x = true then m + 1 else m) else m
noncomputable def mst (key : List Int) (k n : Nat → Int) (t : Nat → List Int) (m0 : Int) : Nat → Int
  | 0 => m0
  | j + 1 => mstep key (k j) (t j) (n j) (mst key k n t m0 j)
theorem mst_in {key : List Int} {k n : Nat → Int} {t : Nat → List Int} {m0 : Int} (h : 0 ≤ m0 ∧ m0 ≤ 4294967295) : ∀ j, 0 ≤ mst key k n t m0 j ∧ mst key k n t m0 j ≤ 4294967295
  | 0 => h
  | j + 1 => by
    have ih := mst_in (key := key) (k := k) (n := n) (t := t) h j
    rw [mst]
    unfold mstep
    split
    · split
      · omega
      · split <;> omega
    · exact ih
section
variable {k n : Nat → Int} {t : Nat → List Int} {N : Nat} {key : List Int}
theorem rd_body (hk : key.length = 32) (dk : Dg key) {j : Nat} (hj : j < N) (hx : (t j).length ≤ 500) (dx : Dg (t j)) {m : Int} (hm : 0 ≤ m ∧ m ≤ 4294967295) :
    Tr Try.prog none 0 hdR (hdS k n t N key m j) .normal (hdS k n t N key (mstep key (k j) (t j) (n j) m) j) := by
  have hc1 : (Cx (n j)).length = 1 := rfl
  have hdk := dgB_iff.2 dk
  have hdc := dgB_iff.2 (Cx_dg (n j))
  have hdx := dgB_iff.2 dx
  unfold mstep
  by_cases hu : m < 4294967295
  · rw [if_pos hu]
    by_cases hk2 : k j = 2
    · rw [if_pos hk2]
      have e := rd_hide k n t N key m j
      rw [Int.toNat_natCast] at e
      refine Tr.post (Tr.cut (rdC_ok _ _ _) 60 _ 3 (by omega) e ?_) (Ent.same rfl rfl)
      show oHide j N (t j) (n j) (k j == 2) key m = true
      unfold oHide
      rw [Yx_eq]
      refine oT_true (oS_true (oP_true hj hx (by rw [hk2]; rfl) ?_ ?_) (Ae.sealW_len _ _ _ _) ?_) hx dx (oQ_true hx (Ae.sealW_len _ _ _ _) (by omega))
      · rw [hc1, decide_eq_true hm.1, decide_eq_true hu, decide_eq_true (show (t j).length ≤ 1048576 by omega)]; rfl
      · rw [hc1, hk, hdk, hdc, decide_eq_true hm.1, decide_eq_true hu, decide_eq_true (show (t j).length ≤ 1048576 by omega)]; rfl
      · exact (mix_dg 1).app (mkW_dg _ _ _ _)
    · rw [if_neg hk2]
      have hkd : (!(k j == 2)) = true := by simpa using hk2
      cases hop : Ae.openB key (Ae.nonceW m) (Cx (n j)) (t j) with
      | true =>
        rw [if_pos rfl]
        have e := rd_show k n t N key m j
        rw [Int.toNat_natCast] at e
        refine Tr.post (Tr.cut (rdC_ok _ _ _) 60 _ 3 (by omega) e ?_) (Ent.same rfl rfl)
        show oShow j N (t j) (n j) (!(k j == 2)) key m = true
        unfold oShow
        rw [Yx_eq, hop]
        have hw : (Ae.openW key (Ae.nonceW m) (t j)).length = (t j).length - 16 := by unfold Ae.openW; rw [Ae.mixW_len, List.length_take]; omega
        refine oT_true (oS_true (oP_true hj hx hkd ?_ ?_) hw ?_) hx dx (oQ_true hx hw (by omega))
        · rw [hc1, decide_eq_true hm.1, decide_eq_true hu, decide_eq_true (show (t j).length ≤ 1048592 by omega)]; rfl
        · rw [hc1, hk, hdk, hdc, hdx, decide_eq_true hm.1, decide_eq_true hu, decide_eq_true (show (t j).length ≤ 1048592 by omega)]; rfl
        · exact mix_dg 1
      | false =>
        rw [if_neg (by simp)]
        have e := rd_bad k n t N key m j
        rw [Int.toNat_natCast] at e
        refine Tr.post (Tr.cut (rdC_ok _ _ _) 60 _ 3 (by omega) e ?_) (Ent.same rfl rfl)
        show oBad j N (t j) (n j) (!(k j == 2)) key m = true
        unfold oBad
        rw [Yx_eq, hop]
        refine oT_true (oP_true hj hx hkd ?_ ?_) hx dx (oQ0_true hx)
        · rw [hc1, decide_eq_true hu, decide_eq_true (show (t j).length ≤ 1048592 by omega)]; rfl
        · rw [hc1, hk, hdk, hdc, hdx, decide_eq_true hu, decide_eq_true (show (t j).length ≤ 1048592 by omega)]; rfl
  · rw [if_neg hu]
    have hm2 : decide (4294967295 ≤ m) = true := decide_eq_true (by omega)
    by_cases hk2 : k j = 2
    · have e := rd_hused k n t N key m j
      rw [Int.toNat_natCast] at e
      refine Tr.post (Tr.cut (rdC_ok _ _ _) 60 _ 3 (by omega) e ?_) (Ent.same rfl rfl)
      show oUsed j N (t j) (n j) (k j == 2) m = true
      unfold oUsed
      exact oT_true (oP_true hj hx (by rw [hk2]; rfl) hm2 hm2) hx dx (oQ0_true hx)
    · have e := rd_sused k n t N key m j
      rw [Int.toNat_natCast] at e
      refine Tr.post (Tr.cut (rdC_ok _ _ _) 60 _ 3 (by omega) e ?_) (Ent.same rfl rfl)
      show oUsed j N (t j) (n j) (!(k j == 2)) m = true
      unfold oUsed
      exact oT_true (oP_true hj hx (by simpa using hk2) hm2 hm2) hx dx (oQ0_true hx)
theorem rd_round (hk : key.length = 32) (dk : Dg key) {j : Nat} (hj : j < N) (hx : (t j).length ≤ 500) (dx : Dg (t j)) (hN : N ≤ 61) {m : Int} (hm : 0 ≤ m ∧ m ≤ 4294967295) :
    Tr Try.prog none 0 hdL (hdS k n t N key m j) .normal (hdS k n t N key (mstep key (k j) (t j) (n j) m) ((j + 1 : Nat) : Int)) := by
  have body := rd_body (k := k) (n := n) hk dk hj hx dx hm
  generalize mstep key (k j) (t j) (n j) m = m' at *
  have a := rd_a k n t N key m j
  rw [decide_eq_true (show (j : Int) < N by omega)] at a
  have z := rd_z k n t N key m' j
  rw [J_eq (by omega) (by omega)] at z
  have hblk : nthC 2 hdL = .block 1 hdR := by kernel_rfl
  refine Tr.of_atoms (TrL.items (rdC_ok _ _ _) 60 2 _ 3 (by omega) a rfl (by decide) ?_)
  refine TrL.item 2 (by decide) (s1 := hdS k n t N key m' j) ?_ (TrL.item 3 (by decide) (s1 := hdS k n t N key m' ((j + 1 : Nat) : Int)) (Tr.cut (rdC_ok _ _ _) 60 _ 3 (by omega) z rfl) ⟨rfl, rfl⟩)
  rw [hblk]
  exact Tr.block_pass body (by simp)
theorem hides_law {num : Int} (hk : key.length = 32) (dk : Dg key) (hb : ∀ i, i < N → ∀ z ∈ t i, 0 ≤ z ∧ z < 256) : FnTr Try.prog 8 [.agg [.ints .u8 32 key], .int .i64 num, .rol false 3 N (opg k n t)] [] (.bool true) [] := by
  cases hL : lgW N t with
  | true => exact call0 (hdC_ok true k n t N (fun i => if i = 20 then some true else none)) 60 Try.func8 (p := andT (andT true (andT true (lgD k n t N))) (lgW N t)) (by kernel_rfl) (by rw [lgD_true, hL]; rfl) rfl
  | false =>
    have hbad : ¬ ∃ i, i < N ∧ Cp.badP t i := by
      unfold lgW at hL
      exact @of_decide_eq_false _ (Classical.propDecidable _) hL
    have hN : N ≤ 61 := by
      apply Classical.byContradiction
      intro q
      exact hbad ⟨61, by omega, .inl (by decide)⟩
    have htx : ∀ j, j < N → (t j).length ≤ 500 := fun j hj => by
      apply Classical.byContradiction
      intro q
      exact hbad ⟨j, hj, .inr (by omega)⟩
    have hloop : ∀ m0 : Int, (0 ≤ m0 ∧ m0 ≤ 4294967295) → Tr Try.prog none 0 (nthC 11 hdB) (hdS k n t N key m0 0) .normal (hdS k n t N key (mst key k n t m0 N) N) := fun m0 h0 => by
      refine Tr.loop (P := Try.prog) (ro := none) (k := 0) 0 (c := nthC 11 hdB) (by kernel_rfl) (fun j : Nat => hdS k n t N key (mst key k n t m0 j) j) N (s' := hdS k n t N key (mst key k n t m0 N) N) (fun j hj => rd_round hk dk hj (htx j hj) (hb j hj) hN (mst_in h0 j)) ?_
      have e := rd_end k n t N key (mst key k n t m0 N) N
      rw [decide_eq_false (show ¬ ((N : Int) < N) by omega)] at e
      exact Tr.cut (rdC_ok _ _ _) 60 _ 3 (by omega) e rfl
    have fin : ∀ (m0 : Int), (∀ s' x, TrL Try.prog none 0 ((atoms hdB).drop 11) (hdS k n t N key m0 0) x s' → TrL Try.prog none 0 (atoms hdB) ⟨slots0 Try.f8.ntmps [.agg [.ints .u8 32 key], .int .i64 num, .rol false 3 N (opg k n t)], [], true⟩ x s') → (0 ≤ m0 ∧ m0 ≤ 4294967295) →
        FnTr Try.prog 8 [.agg [.ints .u8 32 key], .int .i64 num, .rol false 3 N (opg k n t)] [] (.bool true) [] := fun m0 hh h0 => by
      have hl := hloop m0 h0
      generalize mst key k n t m0 N = m at hl
      exact FnTr.restM (hdC_ok true k n t N fA) 60 12 0 Try.func8 (by simp) rfl (fun s' x h => hh s' x (TrL.item 11 (by decide) hl h)) (s := hdS k n t N key m N) (p := true) (by kernel_rfl) rfl rfl rfl
    have hH : ∀ j, j = true → oH k n t N j = true := fun j hj => by
      unfold oH
      rw [lgD_true, hL, hj]; rfl
    by_cases h0 : 0 ≤ num
    · by_cases h1 : num ≤ 4294967295
      · refine fin num (fun s' x h => ?_) ⟨h0, h1⟩
        have e := hd_a k n t N key num
        rw [hH _ (by unfold inR; rw [decide_eq_true h0, decide_eq_true h1]; rfl), decide_eq_true (show num ≥ 0 from h0), decide_eq_true h1] at e
        exact TrL.items (hdC_ok _ _ _ _ _ _) 60 11 _ 3 (by simp) e rfl (by decide) h
      · refine fin 0 (fun s' x h => ?_) ⟨by decide, by decide⟩
        have e := hd_c k n t N key num
        rw [hH _ (by unfold inR; rw [decide_eq_false h1, Bool.and_false]; rfl), decide_eq_true (show num ≥ 0 from h0), decide_eq_false h1] at e
        exact TrL.items (hdC_ok _ _ _ _ _ _) 60 11 _ 3 (by simp) e rfl (by decide) h
    · refine fin 0 (fun s' x h => ?_) ⟨by decide, by decide⟩
      have e := hd_b k n t N key num
      rw [hH _ (by unfold inR; rw [decide_eq_false h0]; rfl), decide_eq_false (show ¬ num ≥ 0 from h0)] at e
      exact TrL.items (hdC_ok _ _ _ _ _ _) 60 11 _ 3 (by simp) e rfl (by decide) h
theorem hides_row {num : Int} (hk : key.length = 32 ∧ Dg key) (_ : IntKind.i64.has num) (hb : ∀ i, i < N → ∀ z ∈ t i, 0 ≤ z ∧ z < 256) : FnTr Try.prog 8 [.agg [.ints .u8 32 key], .int .i64 num, .rol false 3 N (opg k n t)] [] (.bool true) [] := hides_law hk.1 hk.2 hb
end
end Go.Proofs.Ytkoohnpknhoahaa.Ch
