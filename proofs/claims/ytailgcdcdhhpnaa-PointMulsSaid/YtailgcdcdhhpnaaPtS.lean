/- This file proves the contract of the reference's Reduce (burrowref07): digits of a number modulo the order. Conditions: digits of a byte, slices of at most 2^40 integers. -/
import Derived.Test.YtailgcdcdhhpnaaPtR
namespace Go.Proofs.Ytailgcdcdhhpnaa
open Go Go.Lift

theorem Sub.same {s s' : St} (h1 : s.t = s'.t) (h2 : s.h = s'.h) : Lift.Sub s s' := by
  obtain ⟨t, h, o⟩ := s
  obtain ⟨t', h', o'⟩ := s'
  cases h1; cases h2
  exact Sub.ob ⟨t, h, o'⟩ o

theorem idxN_iff {n : Nat} {l : List Int} {c : Int} {o : Bool} (h0 : 0 ≤ c) (h1 : c < n) (h2 : c < l.length) (ho : o = true) : idxN n l c o = true := by
  subst ho; unfold idxN; rw [decide_eq_true (by omega), decide_eq_true (by omega), decide_eq_true (by omega)]; rfl

/-- A round of the subtraction. -/
theorem rd_q (l R : List Int) (cap : Nat) (c : Int) (hR : R.all u8 = true) (hn : R.length = 34) (j : Nat) (hj : j < 34) :
    Tr Try.prog rdQ (rdK l cap c (subR R j).1 (subR R j).2 j) .normal (rdK l cap c (subR R (j + 1)).1 (subR R (j + 1)).2 ((j + 1 : Nat) : Int)) := by
  have hl := subR_length R j
  have hb := subR_b R j
  have hg := subR_rest R j j (Nat.le_refl _)
  have hr := getD_u8 hR j
  have hm := getD_u8 ordB_u8 j
  have e : 0 + (j : Int).toNat * 1 = j := by omega
  have ew : IntKind.i64.wrap ((j : Int) + 1) = ((j + 1 : Nat) : Int) := by rw [IntWalk.i64_in _ (by omega)]; omega
  have w1 : IntKind.i64.wrap (R.getD j 0 - (subR R j).2) = R.getD j 0 - (subR R j).2 := IntWalk.i64_in _ (by omega)
  have w2 : IntKind.i64.wrap (R.getD j 0 - (subR R j).2 - ordB.getD j 0) = R.getD j 0 - (subR R j).2 - ordB.getD j 0 := IntWalk.i64_in _ (by omega)
  have w3 : IntKind.i64.wrap (R.getD j 0 - (subR R j).2 - ordB.getD j 0 + 256) = R.getD j 0 - (subR R j).2 - ordB.getD j 0 + 256 := IntWalk.i64_in _ (by omega)
  have d0 : decide ((j : Int) < 34) = true := decide_eq_true (by omega)
  have hout : ¬ j < 32 → ordB.getD j 0 = 0 := fun h => by
    have : ordB.length = 32 := rfl
    simp [List.getD, List.getElem?_eq_none (show ordB.length ≤ j by omega)]
  have ol : ordB.length = 32 := rfl
  rw [subR]
  by_cases hk : j < 32
  · have d1 : decide ((j : Int) < 32) = true := decide_eq_true (by omega)
    by_cases hq : R.getD j 0 - (subR R j).2 - ordB.getD j 0 < 0
    · rw [if_pos hq]
      have k := rd_tt l (subR R j).1 cap c (subR R j).2 j
      rw [e, hg, w1, w2, w3, ew] at k
      refine Tr.post (Tr.keep (mk_sound _ _) 60 _ k ?_) (Sub.same rfl rfl)
      rw [d0, d1, decide_eq_true hq]
      exact idxN_iff (by omega) (by omega) (by omega) (andT_iff.2 ⟨idxN_iff (by omega) (by omega) (by omega) (andT_iff.2 ⟨idxN_iff (by omega) (by omega) (by omega) rfl, rfl⟩), rfl⟩)
    · rw [if_neg hq]
      have k := rd_tf l (subR R j).1 cap c (subR R j).2 j
      rw [e, hg, w1, w2, ew] at k
      refine Tr.post (Tr.keep (mk_sound _ _) 60 _ k ?_) (Sub.same rfl rfl)
      rw [d0, d1, decide_eq_false hq]
      exact idxN_iff (by omega) (by omega) (by omega) (andT_iff.2 ⟨idxN_iff (by omega) (by omega) (by omega) (andT_iff.2 ⟨idxN_iff (by omega) (by omega) (by omega) rfl, rfl⟩), rfl⟩)
  · have d1 : decide ((j : Int) < 32) = false := decide_eq_false (by omega)
    have ho := hout hk
    rw [ho, Int.sub_zero] at w3 ⊢
    by_cases hq : R.getD j 0 - (subR R j).2 < 0
    · rw [if_pos hq]
      have k := rd_ft l (subR R j).1 cap c (subR R j).2 j
      rw [e, hg, w1, w3, ew] at k
      refine Tr.post (Tr.keep (mk_sound _ _) 60 _ k ?_) (Sub.same rfl rfl)
      rw [d0, d1, decide_eq_true hq]
      exact idxN_iff (by omega) (by omega) (by omega) (andT_iff.2 ⟨andT_iff.2 ⟨idxN_iff (by omega) (by omega) (by omega) rfl, rfl⟩, rfl⟩)
    · rw [if_neg hq]
      have k := rd_ff l (subR R j).1 cap c (subR R j).2 j
      rw [e, hg, w1, ew] at k
      refine Tr.post (Tr.keep (mk_sound _ _) 60 _ k ?_) (Sub.same rfl rfl)
      rw [d0, d1, decide_eq_false hq]
      exact idxN_iff (by omega) (by omega) (by omega) (andT_iff.2 ⟨andT_iff.2 ⟨idxN_iff (by omega) (by omega) (by omega) rfl, rfl⟩, rfl⟩)

theorem lst_dig (v : Int) : lst 34 (digN 34 v) = digN 34 v := lst_eq (digN_length 34 v)

theorem atoms_rdW : (atoms rdW).length = 3 := by kernel_rfl
theorem blk_rdW : nthC 2 rdW = .block 5 (inner (nthC 2 rdW)) := by kernel_rfl
theorem atoms_rdW2 : (atoms (inner (nthC 2 rdW))).length = 3 := by kernel_rfl
theorem loop_rdQ : isLoop 6 (nthC 2 (inner (nthC 2 rdW))) = true := by kernel_rfl

/-- One subtraction of the order. -/
theorem rd_w (l : List Int) (cap : Nat) (c v : Int) (h0 : ordL ≤ v) (h1 : v < 256 ^ 34) : Tr Try.prog rdW (rdS l cap c (digN 34 v)) .normal (rdS l cap c (digN 34 (v - ordL))) := by
  have hL := ordL_pos
  have k1 := rd_wyes l (digN 34 v) cap c
  have k2 := rd_sub0 l (digN 34 v) cap c
  rw [lst_dig] at k1 k2
  rw [geF_ord (by omega) h1, decide_eq_true h0] at k1
  have hloop : Tr Try.prog (nthC 2 (inner (nthC 2 rdW))) (rdK l cap c (digN 34 v) 0 0) .normal (rdS l cap c (digN 34 (v - ordL))) := by
    refine Tr.loop 6 loop_rdQ (fun j => rdK l cap c (subR (digN 34 v) j).1 (subR (digN 34 v) j).2 j) 34 (fun j hj => rd_q l _ cap c (digN_u8 34 v) (digN_length 34 v) j hj) ?_
    have k := rd_qend l (subR (digN 34 v) 34).1 cap c (subR (digN 34 v) 34).2 (34 : Nat)
    rw [sub_done h0 h1] at k
    rw [sub_done h0 h1]
    exact Tr.post (Tr.keep (mk_sound _ _) 60 _ k rfl) (Sub.same rfl rfl)
  have hin : Tr Try.prog (nthC 2 rdW) (rdS l cap c (digN 34 v)) .normal (rdS l cap c (digN 34 (v - ordL))) := by
    rw [blk_rdW]
    refine Tr.block_pass (Tr.of_atoms ?_) (by simp)
    refine TrL.items (mk_sound _ _) 60 2 _ k2 rfl (by rw [atoms_rdW2]; omega) (TrL.item 2 (by rw [atoms_rdW2]; omega) hloop ?_)
    rw [List.drop_of_length_le (by rw [atoms_rdW2]; omega)]
    exact ⟨rfl, rfl⟩
  refine Tr.of_atoms (TrL.items (mk_sound _ _) 60 2 _ k1 rfl (by rw [atoms_rdW]; omega) (TrL.item 2 (by rw [atoms_rdW]; omega) (Tr.pre hin (Sub.same rfl rfl)) ?_))
  rw [List.drop_of_length_le (by rw [atoms_rdW]; omega)]
  exact ⟨rfl, rfl⟩

theorem rd_ws (l : List Int) (cap : Nat) (c : Int) : ∀ (q : Nat) (v : Int), 0 ≤ v → v < 256 ^ 34 → v / ordL = q → TrR Try.prog rdW (rdS l cap c (digN 34 v)) (.exit 4) (rdS l cap c (digN 34 (v % ordL)))
  | 0, v, h0, h1, hq => by
    have hL := ordL_pos
    have hlt : v < ordL := by
      rcases Int.lt_or_le v ordL with h | h
      · exact h
      · have := Int.ediv_le_ediv hL.1 h
        rw [Int.ediv_self (by omega)] at this
        omega
    have k := rd_wno l (digN 34 v) cap c
    rw [lst_dig, geF_ord h0 h1, decide_eq_false (by omega)] at k
    rw [Int.emod_eq_of_lt h0 hlt]
    exact TrR.leave (Tr.post (Tr.keep (mk_sound _ _) 60 _ k rfl) (Sub.same rfl rfl)) (by simp)
  | q + 1, v, h0, h1, hq => by
    have hL := ordL_pos
    have hge : ordL ≤ v := by
      rcases Int.lt_or_le v ordL with h | h
      · rw [Int.ediv_eq_zero_of_lt h0 h] at hq; omega
      · exact h
    have e1 : (v - ordL) / ordL = v / ordL - 1 := by
      have := Int.add_mul_ediv_right v (-1) (c := ordL) (by omega)
      rw [show v - ordL = v + -1 * ordL by omega, this]; omega
    have e2 : (v - ordL) % ordL = v % ordL := Int.sub_emod_right _ _
    rw [← e2]
    exact TrR.step (rd_w l cap c v hge h1) (rd_ws l cap c q (v - ordL) (by omega) (by omega) (by omega))

theorem atoms_rdB : (atoms rdB).length = 4 := by kernel_rfl
theorem blk_rdB : nthC 2 rdB = .block 1 (inner (nthC 2 rdB)) := by kernel_rfl
theorem atoms_rdB2 : (atoms (inner (nthC 2 rdB))).length = 4 := by kernel_rfl
theorem loop_rdW : isLoop 4 (nthC 3 (inner (nthC 2 rdB))) = true := by kernel_rfl

/-- A digit more. -/
theorem rd_b (l : List Int) (cap i : Nat) (v : Int) (hl : l.all u8 = true) (hi : i < l.length) (hn : l.length ≤ 1099511627776) (h0 : 0 ≤ v) (h1 : v < ordL) :
    Tr Try.prog rdB (rdS l cap i (digN 34 v)) .normal (rdS l cap ((i : Int) - 1) (digN 34 ((256 * v + l.getD i 0) % ordL))) := by
  have hL := ordL_pos
  have hx := getD_u8 hl i
  have e : 0 + (i : Int).toNat * 1 = i := by omega
  have k1 := rd_bhead l (digN 34 v) cap i
  have k2 := rd_shift l (digN 34 v) cap i
  have k3 := rd_bstep l (digN 34 ((256 * v + l.getD i 0) % ordL)) cap i
  rw [lst_dig] at k1 k2 k3
  rw [e, shift_done hx.1 hx.2] at k2
  rw [IntWalk.i64_in _ (by omega)] at k3
  have hb : 256 * v + l.getD i 0 < 256 ^ 34 := by rw [p34]; omega
  have hq : (256 * v + l.getD i 0) / ordL = ((256 * v + l.getD i 0) / ordL).toNat := by
    have := Int.ediv_nonneg (a := 256 * v + l.getD i 0) (b := ordL) (by omega) (by omega)
    omega
  have hloop : Tr Try.prog (nthC 3 (inner (nthC 2 rdB))) (rdS l cap i (digN 34 (256 * v + l.getD i 0))) .normal (rdS l cap i (digN 34 ((256 * v + l.getD i 0) % ordL))) :=
    Tr.loopR 4 loop_rdW (rd_ws l cap i _ _ (by omega) hb hq)
  have hin : Tr Try.prog (nthC 2 rdB) (rdS l cap i (digN 34 v)) .normal (rdS l cap i (digN 34 ((256 * v + l.getD i 0) % ordL))) := by
    rw [blk_rdB]
    refine Tr.block_pass (Tr.of_atoms ?_) (by simp)
    refine TrL.items (mk_sound _ _) 60 3 _ k2 (idxN_iff (by omega) (by omega) (by omega) rfl) (by rw [atoms_rdB2]; omega) (TrL.item 3 (by rw [atoms_rdB2]; omega) (Tr.pre hloop (Sub.same rfl rfl)) ?_)
    rw [List.drop_of_length_le (by rw [atoms_rdB2]; omega)]
    exact ⟨rfl, rfl⟩
  refine Tr.of_atoms (TrL.items (mk_sound _ _) 60 2 _ k1 ?_ (by rw [atoms_rdB]; omega) (TrL.item 2 (by rw [atoms_rdB]; omega) (Tr.pre hin (Sub.same rfl rfl)) (TrL.item 3 (by rw [atoms_rdB]; omega) (Tr.keep (mk_sound _ _) 60 _ k3 rfl) ?_)))
  · change andT true (decide ((i : Int) ≥ 0)) = true
    rw [decide_eq_true (by omega)]; rfl
  · rw [List.drop_of_length_le (by rw [atoms_rdB]; omega)]
    exact ⟨rfl, rfl⟩
noncomputable def redF (l : List Int) : List Int := Lock (digN 32 (val256 l % ordL))
set_option maxRecDepth 100000 in
theorem rd_fn (l : List Int) (cap : Nat) (hl : l.all u8 = true) (hn : l.length ≤ 1099511627776) :
    ∃ g, FnTr Try.prog Try.f31 [sliceArg 0 l.length cap] [.rs .i64 l] (aggI .u8 (digN 32 (val256 l % ordL))) (.rs .i64 l :: g) := by
  have hL := ordL_pos
  have k0 : (execL Try.prog (mk (P := Try.prog) [refOrderE, intsE]) 60 5 (atoms (bodyOf Try.f31)) ⟨slots0 Try.f31.ntmps [sliceArg 0 l.length cap], [.rs .i64 l], true⟩).map (St.keep [0, 2, 4, 5, 6]) =
    some (rdS l cap (IntKind.i64.wrap (((l.length : Nat) : Int) - 1)) (digN 34 (0 % ordL))) := by kernel_rfl
  have k2 : ∀ R c, ((execA Try.prog (mk (P := Try.prog) []) 60 ((atoms (bodyOf Try.f31)).drop 6) (rdS l cap c (lst 34 R))).bind fun r => match r.1 with
      | .ret | .normal => (resS Try.prog r.2.t r.2.h Try.f31.results.toList).map fun q => (oneOf q.1, r.2.h, andT r.2.ob q.2)
      | _ => none) = some (aggI .u8 (((lst 34 R).take 32).map IntKind.u8.wrap), [.rs .i64 l, .c (intsV .u8 (((lst 34 R).take 32).map IntKind.u8.wrap)) 24, .c (intsV .u8 ordB) 24, .s .i64 ordB 3, .s .i64 (lst 34 R) 3, .c (intsV .u8 (((lst 34 R).take 32).map IntKind.u8.wrap)) 24], true) := fun R c => by kernel_rfl
  rw [IntWalk.i64_in _ (by omega)] at k0
  have r : ∀ x : Int, 0 ≤ x % ordL ∧ x % ordL < ordL := fun x => ⟨Int.emod_nonneg _ (by omega), Int.emod_lt_of_pos _ hL.1⟩
  have hloop : Tr Try.prog (nthC 5 (bodyOf Try.f31)) (rdS l cap ((l.length : Int) - 1) (digN 34 (0 % ordL))) .normal (rdS l cap (-1) (digN 34 (val256 l % ordL))) := by
    have key := Tr.loop (P := Try.prog) 0 (c := nthC 5 (bodyOf Try.f31)) (by kernel_rfl) (fun j : Nat => rdS l cap ((l.length : Int) - 1 - j) (digN 34 (val256 (l.drop (l.length - j)) % ordL))) l.length (s' := rdS l cap (-1) (digN 34 (val256 l % ordL))) (fun j hj => ?_) ?_
    · simp only [Nat.sub_zero, List.drop_length, val256] at key
      have e : (l.length : Int) - 1 - ((0 : Nat) : Int) = l.length - 1 := by omega
      rw [e] at key
      exact key
    · have hi : l.length - 1 - j < l.length := by omega
      have h := rd_b l cap (l.length - 1 - j) (val256 (l.drop (l.length - j)) % ordL) hl hi hn (r _).1 (r _).2
      have e1 : ((l.length - 1 - j : Nat) : Int) = (l.length : Int) - 1 - j := by omega
      have e2 : (l.length : Int) - 1 - ((j + 1 : Nat) : Int) = (l.length : Int) - 1 - j - 1 := by omega
      have e3 : val256 (l.drop (l.length - (j + 1))) % ordL = (256 * (val256 (l.drop (l.length - j)) % ordL) + l.getD (l.length - 1 - j) 0) % ordL := by
        have hd : l.drop (l.length - (j + 1)) = l.getD (l.length - 1 - j) 0 :: l.drop (l.length - j) := by
          rw [show l.length - (j + 1) = l.length - 1 - j by omega, List.drop_eq_getElem_cons hi]
          congr 1
          · simp [List.getD, List.getElem?_eq_getElem hi]
          · congr 1; omega
        rw [hd, val256, Int.add_comm]
        rw [Int.add_emod, Int.mul_emod, Int.add_emod (256 * (val256 (l.drop (l.length - j)) % ordL)), Int.mul_emod 256 (val256 (l.drop (l.length - j)) % ordL), Int.emod_emod]
      rw [e1] at h
      show Tr _ _ _ _ (rdS l cap ((l.length : Int) - 1 - ((j + 1 : Nat) : Int)) _)
      rw [e2, e3]
      exact h
    · have e : (l.length : Int) - 1 - (l.length : Int) = -1 := by omega
      show Tr _ _ (rdS l cap ((l.length : Int) - 1 - (l.length : Int)) (digN 34 (val256 (l.drop (l.length - l.length)) % ordL))) _ _
      rw [e, Nat.sub_self, List.drop_zero]
      have k := rd_bend l (digN 34 (val256 l % ordL)) cap (-1)
      rw [lst_dig] at k
      exact Tr.post (Tr.keep (mk_sound _ _) 60 _ k rfl) (Sub.same rfl rfl)
  have k3 := k2 (digN 34 (val256 l % ordL)) (-1)
  rw [lst_dig] at k3
  have hw : ((digN 34 (val256 l % ordL)).take 32).map IntKind.u8.wrap = digN 32 (val256 l % ordL) := by
    rw [digN_take 32 34 _ (by omega)]
    have hu := digN_u8 32 (val256 l % ordL)
    rw [List.all_eq_true] at hu
    conv => rhs; rw [← List.map_id (digN 32 (val256 l % ordL))]
    apply List.map_congr_left
    intro x hx
    have := hu x hx
    rw [u8_iff] at this
    rw [IntKind.wrap_u8, id]; omega
  rw [hw] at k3
  exact ⟨_, FnTr.rest (mk_sound _ _) 60 6 (by decide) (fun s' x h => TrL.items (mk_sound _ _) 60 5 _ k0 rfl (by decide) (TrL.item 5 (by decide) hloop h)) k3 rfl⟩

theorem redF_length (l : List Int) : (redF l).length = 32 := by rw [redF, Lock_eq, digN_length]
noncomputable def redG : List Value → List Blk → Option (Value × List Blk × Bool)
  | [.slice (some ⟨i, o, none⟩) n _], h => match h[i]? with
    | some b => match winI .i64 o n b with
      | some (l, p) => some (aggI .u8 (lst 32 (redF l)), h, p && l.all u8 && decide (n ≤ 1099511627776))
      | none => none
    | none => none
  | _, _ => none

noncomputable def refReduceE : Entry Try.prog where
  f := 31
  g := redG
  pu := false
  ok := by
    intro vs h v h' e
    unfold redG at e
    split at e
    · rename_i i o n ca
      split at e
      · rename_i b hb
        split at e
        · rename_i l p hw
          simp only [Option.some.injEq, Prod.mk.injEq, Bool.and_eq_true, decide_eq_true_eq] at e
          obtain ⟨rfl, rfl, ⟨rfl, hl⟩, hn⟩ := e
          obtain ⟨hv, hlen⟩ := winI_sound hw
          obtain ⟨g, hg⟩ := rd_fn l ca hl (by omega)
          rw [lst_eq (redF_length l), redF, Lock_eq]
          rw [hlen] at hg
          refine ctr_ro Try.func31 (by decide) hg [⟨i, o, true⟩] ⟨rfl, fun a bb hbb => ?_⟩ ⟨_, [], ⟨⟨i, o, true⟩, rfl, rfl⟩, rfl, rfl⟩ (plain_aggI _ _)
          have h1' := (List.getElem?_eq_some_iff.1 hbb).1
          simp at h1'
          subst h1'
          simp at hbb
          subst hbb
          refine ⟨rfl, plain_ints _ _, ⟨i, o, true⟩, b, rfl, rfl, hb, ?_⟩
          simp only [Blk.vals, intsV_length, hlen]
          exact hv
        · cases e
      · cases e
    · cases e
  pok := fun h => by cases h
end Go.Proofs.Ytailgcdcdhhpnaa
