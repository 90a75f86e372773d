/- This file holds the texts MkC, MkD, a section each. No conditions beyond those in the theorems. -/
import Derived.Test.YthlnlcijnoadcaaGreatDoorAMkB
import Derived.Test.YthlnlcijnoadcaaGreatDoorATtB
set_option linter.all false
set_option maxRecDepth 100000
section
namespace Go.Proofs.YthlnlcijnoadcaaGreatDoor.Mk
open Go Go.Sy Tr Wi S2
def dgQ (N : Nat) (t : Nat → Nod) (x : Int) : Bool := decide (0 ≤ x) && decide (x < N) && checkB N t
noncomputable def dgL (N : Nat) (t : Nat → Nod) (wo : List Int) (x : Int) : List Int := bif dgQ N t x then digV t wo x else z32
theorem kept_sub {un wo : List Int} : (keptB un wo).Sublist un := List.filter_sublist
theorem rise_pair {un : List Int} (h : un.Pairwise (· < ·)) : riseB un = true := List.all_eq_true.2 fun i hi => by
  have hi := List.mem_range.1 hi
  rw [Bool.not_eq_true']
  by_cases h0 : i > 0
  · rw [decide_eq_true h0, Bool.true_and]
    have := List.pairwise_iff_getElem.1 h (i - 1) i (by omega) hi (by omega)
    rw [getD_get hi, getD_get (by omega : i - 1 < un.length)]
    exact decide_eq_false (by omega)
  · rw [decide_eq_false h0, Bool.false_and]
theorem pair_of {un : List Int} (h : ∀ j, j + 1 < un.length → un.getD j 0 < un.getD (j + 1) 0) : un.Pairwise (· < ·) := by
  have key : ∀ d i, i + d + 1 < un.length → un.getD i 0 < un.getD (i + d + 1) 0 := by
    intro d
    induction d with
    | zero => intro i hi; exact h i hi
    | succ d ih =>
      intro i hi
      have a := ih i (by omega)
      have b := h (i + d + 1) (by omega)
      rw [show i + (d + 1) + 1 = i + d + 1 + 1 by omega]
      omega
  refine List.pairwise_iff_getElem.2 fun i j hi hj hij => ?_
  have := key (j - i - 1) i (by omega)
  rw [show i + (j - i - 1) + 1 = j by omega, getD_get hi, getD_get hj] at this
  exact this
section
variable {N n : Nat} {t : Nat → Nod}
theorem good_nod (hT : TOK N t) (hn : n ∈ sizes) (hN : N = 2 * n - 1) {x : Nat} (hx : x < N) (g : goodJ t n x = true) {un : List Int} (hs : un.Sublist (t x).un) : nodB (t x) un = true := by
  have hz := sizes_le hn
  have hk := hT.key x hx
  have hg := hT.sign x hx
  have hp := hT.par x hx
  unfold goodJ at g
  have fin : ∀ (nm : Int), (t x).name = nm → 0 ≤ nm → nm ≤ 255 → (t x).un.Pairwise (· < ·) → (∀ u ∈ (t x).un, 0 ≤ u ∧ u < 32) → (t x).un.length ≤ 32 → ((t x).used || zeroB (t x).name (t x).key (t x).sign (t x).par un) = true → nodB (t x) un = true := by
    intro nm h1 h2 h3 h4 h5 h6 h7
    unfold nodB Wi.nodeB
    have a1 : unOK un = true := List.all_eq_true.2 fun u hu => by
      have := h5 u (hs.subset hu)
      rw [decide_eq_true this.1, decide_eq_true (show u ≤ 31 by omega)]; rfl
    have a2 : riseB un = true := rise_pair (h4.sublist hs)
    have a3 := hs.length_le
    rw [decide_eq_true hk, decide_eq_true hg, decide_eq_true hp, h1, decide_eq_true h2, decide_eq_true h3, a1, a2, decide_eq_true (show un.length ≤ 32 by omega), ← h1, h7]; rfl
  cases hu : (t x).used with
  | false =>
    rw [hu] at g
    unfold blankB sameB at g
    simp only [Bool.not_false, _root_.cond_true, Bool.and_eq_true, decide_eq_true_eq, beq_iff_eq] at g
    have hun := g.2
    have hun' : un = [] := List.sublist_nil.1 (hun ▸ hs)
    refine fin 0 (by simpa using g.1.1.1.1.2) (by omega) (by omega) (by rw [hun]; exact List.Pairwise.nil) (by rw [hun]; intro u h; cases h) (by rw [hun]; simp) ?_
    rw [hu]
    unfold zeroB
    rw [hun']
    simp [g]
  | true =>
    rw [hu] at g
    cases hq : (x % 2 == 0) with
    | true =>
      rw [hq] at g
      unfold lfB at g
      simp only [Bool.not_true, _root_.cond_false, _root_.cond_true, Bool.and_eq_true, beq_iff_eq, decide_eq_true_eq] at g
      obtain ⟨⟨⟨⟨_, l1⟩, l2⟩, l3⟩, _⟩ := g
      have hun : (t x).un = [] := List.length_eq_zero_iff.1 (by omega)
      exact fin _ rfl (by omega) l2 (by rw [hun]; exact List.Pairwise.nil) (by rw [hun]; intro u h; cases h) (by rw [hun]; simp) (by rw [hu]; rfl)
    | false =>
      rw [hq] at g
      obtain ⟨q1, q2⟩ := upper_un hn (hN ▸ hx) g
      simp only [Bool.not_true, _root_.cond_false] at g
      unfold upperB at g
      simp only [Bool.and_eq_true, Int.toNat_natCast] at g
      refine fin 0 (by simpa using g.1.1.1) (by omega) (by omega) (pair_of fun j hj => ?_) (fun u h => by have := q1 u h; omega) (by omega) (by rw [hu]; rfl)
      exact (upJ_at (List.all_eq_true.1 g.2 (j + 1) (List.mem_range.2 hj))).1
theorem check_dig (hT : TOK N t) (h : checkB N t = true) {wo : List Int} (hw : wo.length ≤ 274877906944) {x : Int} (h0 : 0 ≤ x) (h1 : x < N) : digOK N t wo x 8 = true := by
  obtain ⟨n, hn, _, hN, hg⟩ := check_parts hT h
  obtain ⟨y, rfl⟩ := Int.eq_ofNat_of_zero_le h0
  refine digOK_mk (List.all_eq_true.2 fun i hi => ?_) (check_un hT h).2 hw (by omega) (by have := lvN_le 7 y; omega)
  have hi := List.mem_range.1 hi
  rw [good_nod hT hn hN hi (hg i hi) (List.Sublist.refl _), good_nod hT hn hN hi (hg i hi) kept_sub]; rfl
end
noncomputable def dtC (b : Bool) (l : List (Nat × Bool)) : Ctr := mk (P := Tryz.prog) [checkE b, digE 8 (digest_fn 8)] [] (uT l)
theorem dtC_ok (b : Bool) (l : List (Nat × Bool)) : CtrSound Tryz.prog (dtC b l) := mk_sound _ InlOK.nil _ _
theorem dt_a (N : Nat) (t : Nat → Nod) (x : Int) (wo : List Int) : (callS Tryz.prog (dtC true [(9, true)]) 60 Tryz.f33 [.rol false 99 N (tng t), .int .i64 x, .ro false .i64 wo] []).map (fun x => (x.1, x.2.2)) = some (.tup [.agg [.ints .u8 32 z32], .bool false], andT true (decide (x < 0))) := by kernel_rfl
theorem dt_b (N : Nat) (t : Nat → Nod) (x : Int) (wo : List Int) : (callS Tryz.prog (dtC true [(9, false), (14, true)]) 60 Tryz.f33 [.rol false 99 N (tng t), .int .i64 x, .ro false .i64 wo] []).map (fun x => (x.1, x.2.2)) = some (.tup [.agg [.ints .u8 32 z32], .bool false], andT (andT true !decide (x < 0)) (decide (x ≥ ((N : Nat) : Int)))) := by kernel_rfl
theorem dt_c (N : Nat) (t : Nat → Nod) (x : Int) (wo : List Int) : (callS Tryz.prog (dtC false [(9, false), (14, false)]) 60 Tryz.f33 [.rol false 99 N (tng t), .int .i64 x, .ro false .i64 wo] []).map (fun x => (x.1, x.2.2)) = some (.tup [.agg [.ints .u8 32 z32], .bool false], andT (andT (andT true !decide (x < 0)) !decide (x ≥ ((N : Nat) : Int))) (andT true ((okT N fun i => coolL (tng t i)) && decide (N ≤ 71) && checkB N (treeOf fun i => coolL (tng t i)) == false))) := by kernel_rfl
theorem dt_d (N : Nat) (t : Nat → Nod) (x : Int) (wo : List Int) : (callS Tryz.prog (dtC true [(9, false), (14, false)]) 60 Tryz.f33 [.rol false 99 N (tng t), .int .i64 x, .ro false .i64 wo] []).map (fun x => (x.1, x.2.2)) = some (.tup [.agg [.ints .u8 32 (digV t wo x)], .bool true], andT (andT (andT (andT true !decide (x < 0)) !decide (x ≥ ((N : Nat) : Int))) (andT true ((okT N fun i => coolL (tng t i)) && decide (N ≤ 71) && checkB N (treeOf fun i => coolL (tng t i)) == true))) (andT true ((okT N fun i => coolL (tng t i)) && decide (N ≤ 71) && digOK N (treeOf fun i => coolL (tng t i)) wo x 8))) := by kernel_rfl
section
variable {N : Nat} {t : Nat → Nod} {wo : List Int} {x : Int}
theorem mDigest_fn (hT : TOK N t) (hw : wo.length ≤ 274877906944) : FnTr Tryz.prog 33 [.rol false 99 N (tng t), .int .i64 x, .ro false .i64 wo] [] (.tup [.agg [.ints .u8 32 (dgL N t wo x)], .bool (dgQ N t x)]) [] := by
  have hok : okT N (fun i => coolL (tng t i)) = true := okT_tng hT
  unfold dgL dgQ
  by_cases h0 : x < 0
  · rw [decide_eq_false (show ¬ 0 ≤ x by omega)]
    exact call0 (dtC_ok _ _) 60 Tryz.func33 (dt_a N t x wo) (by rw [decide_eq_true h0]; rfl) rfl
  · by_cases h1 : x ≥ N
    · rw [decide_eq_false (show ¬ x < (N : Int) by omega), Bool.and_false, Bool.false_and]
      exact call0 (dtC_ok _ _) 60 Tryz.func33 (dt_b N t x wo) (by rw [decide_eq_false h0, decide_eq_true h1]; rfl) rfl
    · rw [decide_eq_true (show 0 ≤ x by omega), decide_eq_true (show x < (N : Int) by omega)]
      cases hc : checkB N t with
      | false => exact call0 (dtC_ok _ _) 60 Tryz.func33 (dt_c N t x wo) (by rw [decide_eq_false h0, decide_eq_false h1, hok, decide_eq_true hT.le, show checkB N (treeOf fun i => coolL (tng t i)) = false from hc]; rfl) rfl
      | true =>
        have hr : digOK N (treeOf fun i => coolL (tng t i)) wo x 8 = true := check_dig (t := t) hT hc hw (by omega) (by omega)
        exact call0 (dtC_ok _ _) 60 Tryz.func33 (dt_d N t x wo) (by rw [decide_eq_false h0, decide_eq_false h1, hok, decide_eq_true hT.le, show checkB N (treeOf fun i => coolL (tng t i)) = true from hc, hr]; rfl) rfl
end
noncomputable def mDigest0E : Entry Tryz.prog := .val 33 _ Tryz.func33 (by decide) rfl true 0 (fun vs => match vs with
  | [.rol false 99 N g, .int .i64 x, .nl (.slice none 0 0)] => some (.tup [.agg [.ints .u8 32 (dgL N (treeOf g) [] x)], .bool (dgQ N (treeOf g) x)], [], okT N g && decide (N ≤ 71))
  | _ => none) fun vs v new e => by
  split at e
  · simp only [Option.some.injEq, Prod.mk.injEq, Bool.and_eq_true, decide_eq_true_eq] at e
    obtain ⟨rfl, rfl, h1, h2⟩ := e
    exact FnTr.conv (mDigest_fn (wo := []) (TOK.of h1 h2) (by simp)) ⟨VE.tree h1, VE.refl _, VE.nilRo false .i64, trivial⟩ trivial (VE.refl _) trivial
  · cases e
noncomputable def mDigestE : Entry Tryz.prog := .val 33 _ Tryz.func33 (by decide) rfl true 0 (fun vs => match vs with
  | [.rol false 99 N g, .int .i64 x, .ro false .i64 wo] => some (.tup [.agg [.ints .u8 32 (dgL N (treeOf g) wo x)], .bool (dgQ N (treeOf g) x)], [], okT N g && decide (N ≤ 71) && decide (wo.length ≤ 274877906944))
  | _ => none) fun vs v new e => by
  split at e
  · simp only [Option.some.injEq, Prod.mk.injEq, Bool.and_eq_true, decide_eq_true_eq] at e
    obtain ⟨rfl, rfl, ⟨h1, h2⟩, h3⟩ := e
    exact FnTr.conv (mDigest_fn (TOK.of h1 h2) h3) ⟨VE.tree h1, VE.refl _, VE.refl _, trivial⟩ trivial (VE.refl _) trivial
  · cases e
noncomputable def mtC (l : List (Nat × Bool)) : Ctr := mk (P := Tryz.prog) [mDigest0E] [] (uT l)
theorem mtC_ok (l : List (Nat × Bool)) : CtrSound Tryz.prog (mtC l) := mk_sound _ InlOK.nil _ _
theorem mt_a (N : Nat) (t : Nat → Nod) : (callS Tryz.prog (mtC []) 60 Tryz.f34 [.rol false 99 N (tng t)] []).map (fun x => (x.1, x.2.2)) = some (.tup [.agg [.ints .u8 32 (dgL N t [] (IntKind.i64.wrap ((N : Int).tdiv 2)))], .bool (dgQ N t (IntKind.i64.wrap ((N : Int).tdiv 2)))], andT true (andT true ((okT N fun i => coolL (tng t i)) && decide (N ≤ 71)))) := by kernel_rfl
theorem halfN {N : Nat} (h : N ≤ 71) : IntKind.i64.wrap ((N : Int).tdiv 2) = ((N / 2 : Nat) : Int) := by
  have q : ((List.range 72).all fun x => IntKind.i64.wrap ((x : Int).tdiv 2) == ((x / 2 : Nat) : Int)) = true := by decide +kernel
  exact eq_of_beq (List.all_eq_true.1 q N (List.mem_range.2 (by omega)))
theorem mTree_fn {N : Nat} {t : Nat → Nod} (hT : TOK N t) : FnTr Tryz.prog 34 [.rol false 99 N (tng t)] [] (.tup [.agg [.ints .u8 32 (dgL N t [] ((N / 2 : Nat) : Int))], .bool (dgQ N t ((N / 2 : Nat) : Int))]) [] := by
  have hok : okT N (fun i => coolL (tng t i)) = true := okT_tng hT
  have e := mt_a N t
  rw [halfN hT.le] at e
  exact call0 (mtC_ok _) 60 Tryz.func34 e (by rw [hok, decide_eq_true hT.le]; rfl) rfl
noncomputable def mTreeE : Entry Tryz.prog := .val 34 _ Tryz.func34 (by decide) rfl true 0 (fun vs => match vs with
  | [.rol false 99 N g] => some (.tup [.agg [.ints .u8 32 (dgL N (treeOf g) [] ((N / 2 : Nat) : Int))], .bool (dgQ N (treeOf g) ((N / 2 : Nat) : Int))], [], okT N g && decide (N ≤ 71))
  | _ => none) fun vs v new e => by
  split at e
  · simp only [Option.some.injEq, Prod.mk.injEq, Bool.and_eq_true, decide_eq_true_eq] at e
    obtain ⟨rfl, rfl, h1, h2⟩ := e
    exact FnTr.conv (mTree_fn (TOK.of h1 h2)) ⟨VE.tree h1, trivial⟩ trivial (VE.refl _) trivial
  · cases e
end Go.Proofs.YthlnlcijnoadcaaGreatDoor.Mk
end
section
namespace Go.Proofs.YthlnlcijnoadcaaGreatDoor.Mk
open Go Go.Sy Tr Wi S2
noncomputable def rnC (l : List (Nat × Bool)) : Ctr := mk (P := Tryz.prog) [] [] (uT l)
theorem rnC_ok (l : List (Nat × Bool)) : CtrSound Tryz.prog (rnC l) := mk_sound _ InlOK.nil _ _
noncomputable def rnB : Code := bodyOf Tryz.f126
abbrev rnP (c nm : Int) (k s p un : List Int) : List Int := ([c, IntKind.u8.wrap nm] ++ k ++ s ++ p) ++ [IntKind.u8.wrap (un.length : Int)]
def refN (u : Bool) (nm : Int) (k s p un : List Int) : List Int := rnP (bif u then 1 else 0) nm k s p un ++ un.map IntKind.u8.wrap
noncomputable def rnS (u : Bool) (nm : Int) (k s p un : List Int) (n : Nat) (xs : List Int) (i : Int) : St := ⟨slotsOf 47 [(1, .ptr 0 0 0), (3, .sl 1 0 0 1 n n false true), (4, .int .i64 i)], [.b [.bool u, .int .i64 nm, .ints .u8 32 k, .ints .u8 32 s, .ints .u8 32 p, .ro false .i64 un], .b [.ints .u8 n xs]], true⟩
theorem rn_h1 (u : Bool) (nm : Int) (k s p un : List Int) : resX (cutR [1, 3, 4] 2 ((execL Tryz.prog (rnC [(10, true), (16, true), (19, true), (22, true)]) 60 0 7 (atoms rnB) ⟨slots0 Tryz.f126.ntmps [nod u nm k s p un], [], true⟩).map fun s => (Exit.normal, s))) = some (.normal, (rnS u nm k s p un 99 (rnP 1 nm k s p un) 0).t, (rnS u nm k s p un 99 (rnP 1 nm k s p un) 0).h) := by kernel_rfl
theorem rn_h1' (u : Bool) (nm : Int) (k s p un : List Int) : obX (cutR [1, 3, 4] 2 ((execL Tryz.prog (rnC [(10, true), (16, true), (19, true), (22, true)]) 60 0 7 (atoms rnB) ⟨slots0 Tryz.f126.ntmps [nod u nm k s p un], [], true⟩).map fun s => (Exit.normal, s))) = (andT (andT (andT (andT (andT (andT true u) (true && decide ((((List.replicate 2 0).set 0 0).set (0 + 1 + 0) (IntKind.u8.wrap nm)).length = 2))) (andT (andT (decide (k.length = 32) && true) (decide (((((List.replicate 2 0).set 0 0).set (0 + 1 + 0) (IntKind.u8.wrap nm)).set (0 + Int.toNat 0) 1).length = 2) && true)) (decide (((((List.replicate 2 0).set 0 0).set (0 + 1 + 0) (IntKind.u8.wrap nm)).set (0 + Int.toNat 0) 1).length = 2)))) (andT (andT (decide (s.length = 32) && true) (decide (((((List.replicate 2 0).set 0 0).set (0 + 1 + 0) (IntKind.u8.wrap nm)).set (0 + Int.toNat 0) 1 ++ k).length = 2 + 32) && true)) (decide (((((List.replicate 2 0).set 0 0).set (0 + 1 + 0) (IntKind.u8.wrap nm)).set (0 + Int.toNat 0) 1 ++ k).length = 2 + 32)))) (andT (andT (decide (p.length = 32) && true) (decide (((((List.replicate 2 0).set 0 0).set (0 + 1 + 0) (IntKind.u8.wrap nm)).set (0 + Int.toNat 0) 1 ++ k ++ s).length = (2 + 32) + 32) && true)) (decide (((((List.replicate 2 0).set 0 0).set (0 + 1 + 0) (IntKind.u8.wrap nm)).set (0 + Int.toNat 0) 1 ++ k ++ s).length = (2 + 32) + 32)))) (andT (andT (andT (decide (((List.replicate 1 0).set 0 (IntKind.u8.wrap ((un.length : Nat) : Int))).length = 1) && true) (decide (((((List.replicate 2 0).set 0 0).set (0 + 1 + 0) (IntKind.u8.wrap nm)).set (0 + Int.toNat 0) 1 ++ k ++ s ++ p).length = ((2 + 32) + 32) + 32) && true)) (decide (((((List.replicate 2 0).set 0 0).set (0 + 1 + 0) (IntKind.u8.wrap nm)).set (0 + Int.toNat 0) 1 ++ k ++ s ++ p).length = ((2 + 32) + 32) + 32))) true)) := by kernel_rfl
theorem rn_h0 (u : Bool) (nm : Int) (k s p un : List Int) : resX (cutR [1, 3, 4] 2 ((execL Tryz.prog (rnC [(10, false), (16, true), (19, true), (22, true)]) 60 0 7 (atoms rnB) ⟨slots0 Tryz.f126.ntmps [nod u nm k s p un], [], true⟩).map fun s => (Exit.normal, s))) = some (.normal, (rnS u nm k s p un 99 (rnP 0 nm k s p un) 0).t, (rnS u nm k s p un 99 (rnP 0 nm k s p un) 0).h) := by kernel_rfl
theorem rn_h0' (u : Bool) (nm : Int) (k s p un : List Int) : obX (cutR [1, 3, 4] 2 ((execL Tryz.prog (rnC [(10, false), (16, true), (19, true), (22, true)]) 60 0 7 (atoms rnB) ⟨slots0 Tryz.f126.ntmps [nod u nm k s p un], [], true⟩).map fun s => (Exit.normal, s))) = (andT (andT (andT (andT (andT true !u) (andT (andT (decide (k.length = 32) && true) (decide ((((List.replicate 2 0).set 0 0).set (0 + 1 + 0) (IntKind.u8.wrap nm)).length = 2) && true)) (decide ((((List.replicate 2 0).set 0 0).set (0 + 1 + 0) (IntKind.u8.wrap nm)).length = 2)))) (andT (andT (decide (s.length = 32) && true) (decide ((((List.replicate 2 0).set 0 0).set (0 + 1 + 0) (IntKind.u8.wrap nm) ++ k).length = 2 + 32) && true)) (decide ((((List.replicate 2 0).set 0 0).set (0 + 1 + 0) (IntKind.u8.wrap nm) ++ k).length = 2 + 32)))) (andT (andT (decide (p.length = 32) && true) (decide ((((List.replicate 2 0).set 0 0).set (0 + 1 + 0) (IntKind.u8.wrap nm) ++ k ++ s).length = (2 + 32) + 32) && true)) (decide ((((List.replicate 2 0).set 0 0).set (0 + 1 + 0) (IntKind.u8.wrap nm) ++ k ++ s).length = (2 + 32) + 32)))) (andT (andT (andT (decide (((List.replicate 1 0).set 0 (IntKind.u8.wrap ((un.length : Nat) : Int))).length = 1) && true) (decide ((((List.replicate 2 0).set 0 0).set (0 + 1 + 0) (IntKind.u8.wrap nm) ++ k ++ s ++ p).length = ((2 + 32) + 32) + 32) && true)) (decide ((((List.replicate 2 0).set 0 0).set (0 + 1 + 0) (IntKind.u8.wrap nm) ++ k ++ s ++ p).length = ((2 + 32) + 32) + 32))) true)) := by kernel_rfl
theorem rn_one (u : Bool) (nm : Int) (k s p un : List Int) (n : Nat) (xs : List Int) (i : Int) : resX (cutR [1, 3, 4] 2 (exec Tryz.prog (rnC [(34, true)]) 60 0 (inner (inner (nthC 7 rnB))) (rnS u nm k s p un n xs i))) = some (.normal, (rnS u nm k s p un (n + 1) (xs ++ [IntKind.u8.wrap (un.getD i.toNat 0)]) (IntKind.i64.wrap (i + 1))).t, (rnS u nm k s p un (n + 1) (xs ++ [IntKind.u8.wrap (un.getD i.toNat 0)]) (IntKind.i64.wrap (i + 1))).h) := by kernel_rfl
theorem rn_one' (u : Bool) (nm : Int) (k s p un : List Int) (n : Nat) (xs : List Int) (i : Int) : obX (cutR [1, 3, 4] 2 (exec Tryz.prog (rnC [(34, true)]) 60 0 (inner (inner (nthC 7 rnB))) (rnS u nm k s p un n xs i))) = (andT (andT (andT (andT true (decide (i < ((un.length : Nat) : Int)))) (inB i un.length)) (decide (i.toNat < un.length))) (andT (andT (andT (andT (decide (((List.replicate 1 0).set 0 (IntKind.u8.wrap (un.getD i.toNat 0))).length = 1) && true) (decide (xs.length = n) && (decide (n ≤ n) && true))) (decide (xs.length = n))) true) (decide (n + 1 ≤ 2 ^ 38)))) := by kernel_rfl
theorem rn_end (u : Bool) (nm : Int) (k s p un : List Int) (n : Nat) (xs : List Int) (i : Int) : resX (cutR [3] 2 (exec Tryz.prog (rnC [(34, false)]) 60 0 (inner (inner (nthC 7 rnB))) (rnS u nm k s p un n xs i))) = some (.exit 0, slotsOf 47 [(3, .sl 1 0 0 1 n n false true)], (rnS u nm k s p un n xs i).h) := by kernel_rfl
theorem rn_end' (u : Bool) (nm : Int) (k s p un : List Int) (n : Nat) (xs : List Int) (i : Int) : obX (cutR [3] 2 (exec Tryz.prog (rnC [(34, false)]) 60 0 (inner (inner (nthC 7 rnB))) (rnS u nm k s p un n xs i))) = (andT true !decide (i < ((un.length : Nat) : Int))) := by kernel_rfl
theorem rn_fin (u : Bool) (nm : Int) (k s p un : List Int) (n : Nat) (xs : List Int) (i : Int) : resX (cutR [2] 2 (execA Tryz.prog (rnC []) 60 0 ((atoms rnB).drop 8) ⟨slotsOf 47 [(3, .sl 1 0 0 1 n n false true)], (rnS u nm k s p un n xs i).h, true⟩)) = some (.ret, slotsOf 47 [(2, .sl 1 0 0 1 n n false true)], (rnS u nm k s p un n xs i).h) := by kernel_rfl
theorem rn_fin' (u : Bool) (nm : Int) (k s p un : List Int) (n : Nat) (xs : List Int) (i : Int) : obX (cutR [2] 2 (execA Tryz.prog (rnC []) 60 0 ((atoms rnB).drop 8) ⟨slotsOf 47 [(3, .sl 1 0 0 1 n n false true)], (rnS u nm k s p un n xs i).h, true⟩)) = (true) := by kernel_rfl
section
variable {u : Bool} {nm : Int} {k s p un : List Int}
theorem take_map {f : Int → Int} {l : List Int} {i : Nat} (h : i < l.length) : (l.take i).map f ++ [f (l.getD i 0)] = (l.take (i + 1)).map f := by
  rw [List.take_add_one, List.getElem?_eq_getElem h, List.map_append, getD_get h]; rfl
theorem refNode_fn (hk : k.length = 32) (hs : s.length = 32) (hp : p.length = 32) (hu : un.length ≤ 100) : FnTr Tryz.prog 126 [nod u nm k s p un] [] (.ro true .u8 (refN u nm k s p un)) [] := by
  have hlen : (refN u nm k s p un).length = 99 + un.length := by unfold refN; simp [hk, hs, hp]; omega
  refine FnTr.frozenI (ex := false) (wh := true) (N := (refN u nm k s p un).length) (FnTr.sel (v := .sl 1 0 0 1 (99 + un.length) (99 + un.length) false true) (h1 := (rnS u nm k s p un (99 + un.length) (refN u nm k s p un) 0).h) [1] ?_ (by rw [hlen]; rfl)) rfl
  have hP : ∀ c, (rnP c nm k s p un).length = 99 := fun c => by simp [hk, hs, hp]
  have core : TrL Tryz.prog none 0 ((atoms rnB).drop 7) (rnS u nm k s p un 99 (rnP (bif u then 1 else 0) nm k s p un) 0) .ret ⟨slotsOf 47 [(2, .sl 1 0 0 1 (99 + un.length) (99 + un.length) false true)], (rnS u nm k s p un (99 + un.length) (refN u nm k s p un) 0).h, true⟩ := by
    generalize hc : rnP (bif u then 1 else 0) nm k s p un = base
    have hb : base.length = 99 := hc ▸ hP _
    have hR : refN u nm k s p un = base ++ un.map IntKind.u8.wrap := by unfold refN; rw [hc]
    rw [hR]
    have key : Tr Tryz.prog none 0 (nthC 7 rnB) (rnS u nm k s p un (99 + 0) (base ++ (un.take 0).map IntKind.u8.wrap) ((0 : Nat) : Int)) .normal ⟨slotsOf 47 [(3, .sl 1 0 0 1 (99 + un.length) (99 + un.length) false true)], (rnS u nm k s p un (99 + un.length) (base ++ un.map IntKind.u8.wrap) 0).h, true⟩ := by
      refine Tr.loop 0 (by kernel_rfl) (fun j => rnS u nm k s p un (99 + j) (base ++ (un.take j).map IntKind.u8.wrap) ((j : Nat) : Int)) un.length (fun j hj => ?_) ?_
      · have e := rn_one u nm k s p un (99 + j) (base ++ (un.take j).map IntKind.u8.wrap) j
        rw [Int.toNat_natCast, wrapS (by omega), List.append_assoc, take_map hj, Nat.add_assoc] at e
        refine Tr.cutX (rnC_ok [(34, true)]) 60 _ 2 (Nat.zero_le _) (s' := rnS u nm k s p un (99 + (j + 1)) (base ++ (un.take (j + 1)).map IntKind.u8.wrap) ((j + 1 : Nat) : Int)) _ e (rn_one' u nm k s p un _ _ _) ?_
        rw [ltN hj, inBN hj, Int.toNat_natCast]
        simp [andT_iff, hj, hb, Nat.min_eq_left (Nat.le_of_lt hj)]
        omega
      · have e := rn_end u nm k s p un (99 + un.length) (base ++ (un.take un.length).map IntKind.u8.wrap) un.length
        rw [List.take_length] at e ⊢
        exact Tr.cutX (rnC_ok [(34, false)]) 60 _ 2 (Nat.zero_le _) _ e (rn_end' u nm k s p un _ _ _) (by rw [nltN (Nat.le_refl _)]; rfl)
    rw [List.take_zero, List.map_nil, List.append_nil] at key
    exact TrL.item 7 (by decide) key (TrL.cutA (rnC_ok []) 60 _ 2 (Nat.zero_le _) _ (rn_fin u nm k s p un (99 + un.length) (base ++ un.map IntKind.u8.wrap) 0) (rn_fin' u nm k s p un _ _ _) rfl (by intro q; have := congrArg List.length q; revert this; decide))
  refine FnTr.mk (vs := [.sl 1 0 0 1 (99 + un.length) (99 + un.length) false true]) Tryz.func126 rfl (x := .ret) (s := ⟨slotsOf 47 [(2, .sl 1 0 0 1 (99 + un.length) (99 + un.length) false true)], (rnS u nm k s p un (99 + un.length) (refN u nm k s p un) 0).h, true⟩) ?_ (.inl rfl) (by kernel_rfl)
  cases u with
  | true => exact TrL.itemsX (rnC_ok [(10, true), (16, true), (19, true), (22, true)]) 60 7 _ 2 (Nat.zero_le _) _ (rn_h1 true nm k s p un) (rn_h1' true nm k s p un) (by simp [andT_iff, hk, hs, hp]) (by decide) rfl core
  | false => exact TrL.itemsX (rnC_ok [(10, false), (16, true), (19, true), (22, true)]) 60 7 _ 2 (Nat.zero_le _) _ (rn_h0 false nm k s p un) (rn_h0' false nm k s p un) (by simp [andT_iff, hk, hs, hp]) (by decide) rfl core
end
noncomputable def refNodeE : Entry Tryz.prog := .val 126 _ Tryz.func126 (by decide) rfl true 0 (fun vs => match vs with
  | [.agg [.bool u, .int .i64 nm, .ints .u8 32 k, .ints .u8 32 s, .ints .u8 32 p, .ro false .i64 un]] => some (.ro true .u8 (refN u nm k s p un), [], decide (k.length = 32) && decide (s.length = 32) && decide (p.length = 32) && decide (un.length ≤ 100))
  | _ => none) fun vs v new e => by
  split at e
  · simp only [Option.some.injEq, Prod.mk.injEq, Bool.and_eq_true, decide_eq_true_eq] at e
    obtain ⟨rfl, rfl, ⟨⟨h1, h2⟩, h3⟩, h4⟩ := e
    exact refNode_fn h1 h2 h3 h4
  · cases e
end Go.Proofs.YthlnlcijnoadcaaGreatDoor.Mk
end
