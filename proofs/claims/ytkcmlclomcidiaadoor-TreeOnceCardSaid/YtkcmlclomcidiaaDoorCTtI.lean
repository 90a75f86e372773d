/- This file proves the law TreeOnce. Conditions: those of its data. -/
import Derived.Test.YtkcmlclomcidiaaDoorCTtH
set_option linter.all false
namespace Go.Proofs.YtkcmlclomcidiaaDoor.Tr
open Go Go.Sy
def seenL (n : Nat) (t : Nat → Nod) (xs : List Int) : List Int := (List.range n).map fun i => ((cnt t xs ((i : Nat) : Int) : Nat) : Int)
def midL (n : Nat) (t : Nat → Nod) (xs : List Int) (x : Int) (k : Nat) : List Int := (List.range n).map fun i => ((cnt t xs ((i : Nat) : Int) : Nat) : Int) + (if ((i : Nat) : Int) < firstV x + k ∧ covB t x ((i : Nat) : Int) = true then 1 else 0)
theorem rmap_get {n i : Nat} (f : Nat → Int) (h : i < n) : ((List.range n).map f).getD i 0 = f i := by
  rw [List.getD_eq_getElem?_getD, List.getElem?_map, List.getElem?_range h]; rfl
section
variable {N n m : Nat} {t : Nat → Nod} {xs rs : List Int} {x : Int} {k : Nat}
theorem midL_len : (midL n t xs x k).length = n := by simp [midL]
theorem midL_zero : midL n t xs x 0 = seenL n t xs := by
  unfold midL seenL
  refine List.map_congr_left fun i _ => ?_
  rw [if_neg, Int.add_zero]
  rintro ⟨h1, h2⟩
  unfold covB at h2
  simp only [Bool.and_eq_true, decide_eq_true_eq] at h2
  omega
theorem midL_skip (h : covB t x (firstV x + k) = false) : midL n t xs x k = midL n t xs x (k + 1) := by
  unfold midL
  refine List.map_congr_left fun i _ => ?_
  congr 1
  by_cases e : (i : Int) = firstV x + k
  · rw [e, h, if_neg (fun q => by cases q.2), if_neg (fun q => by cases q.2)]
  · by_cases g : (i : Int) < firstV x + k ∧ covB t x (i : Int) = true
    · rw [if_pos g, if_pos ⟨by have := g.1; omega, g.2⟩]
    · rw [if_neg g, if_neg (fun q => g ⟨by have := q.1; omega, q.2⟩)]
theorem midL_set {i : Nat} (hi : (i : Int) = firstV x + k) (hn : i < n) (h : covB t x (i : Int) = true) : (midL n t xs x k).set (0 + i) ((midL n t xs x k).getD (0 + i) 0 + 1) = midL n t xs x (k + 1) := by
  rw [Nat.zero_add]
  apply List.ext_getElem
  · rw [List.length_set, midL_len, midL_len]
  · intro j h1 h2
    rw [midL_len] at h2
    have e : ∀ k', (midL n t xs x k')[j]? = some (((cnt t xs ((j : Nat) : Int) : Nat) : Int) + (if ((j : Nat) : Int) < firstV x + k' ∧ covB t x ((j : Nat) : Int) = true then 1 else 0)) := fun k' => by
      unfold midL; rw [List.getElem?_map, List.getElem?_range h2]; rfl
    apply Option.some.inj
    rw [← List.getElem?_eq_getElem, ← List.getElem?_eq_getElem, e]
    by_cases hj : i = j
    · subst hj
      rw [List.getElem?_set_self (by rw [midL_len]; exact hn), List.getD_eq_getElem?_getD, e, Option.getD_some, if_neg (by rintro ⟨q, _⟩; omega), if_pos ⟨by omega, h⟩, Int.add_zero]
    · rw [List.getElem?_set_ne hj, e]
      congr 2
      by_cases g : (j : Int) < firstV x + k ∧ covB t x (j : Int) = true
      · rw [if_pos g, if_pos ⟨by have := g.1; omega, g.2⟩]
      · rw [if_neg g, if_neg (fun q => g ⟨by have := q.1; omega, q.2⟩)]
theorem midL_end (h : firstV x + k = lastV x + 1) : midL n t xs x k = seenL n t (xs ++ [x]) := by
  unfold midL seenL
  refine List.map_congr_left fun i _ => ?_
  have e : cnt t (xs ++ [x]) (i : Int) = cnt t xs (i : Int) + if covB t x (i : Int) = true then 1 else 0 := by
    unfold cnt; rw [List.countP_append, List.countP_singleton]
  rw [e]
  by_cases g : covB t x (i : Int) = true
  · have g2 := g
    unfold covB at g2
    simp only [Bool.and_eq_true, decide_eq_true_eq] at g2
    rw [if_pos g, if_pos ⟨by omega, g⟩]; omega
  · rw [if_neg g, if_neg (fun q => g q.2)]; omega
theorem cnt_le (xs : List Int) (i : Int) : cnt t xs i ≤ xs.length := List.countP_le_length
theorem on_leaf (hT : TOK N t) (hn : n ∈ sizes) (hN : N = 2 * n - 1) (hx : nodeB x n = true) (hl : xs.length ≤ 8320) (j : Int) (hk : firstV x + k ≤ lastV x) :
    Tr Tryd.prog none 0 onJ (onY N t n n rs (midL n t xs x k) j x (lastV x) (firstV x + k)) .normal (onY N t n n rs (midL n t xs x (k + 1)) j x (lastV x) (firstV x + ((k + 1 : Nat) : Int))) := by
  obtain ⟨b1, b2, b3⟩ := below_at hx
  have hs := sizes_le hn
  obtain ⟨i, hi⟩ := Int.eq_ofNat_of_zero_le (show 0 ≤ firstV x + k by omega)
  have hin : i < n := by omega
  have hw : IntKind.i64.wrap (firstV x + k + 1) = firstV x + ((k + 1 : Nat) : Int) := by rw [wrapI (by omega) (by omega)]; omega
  have hle : decide (firstV x + k ≤ lastV x) = true := decide_eq_true hk
  obtain ⟨g3, g4⟩ := nodeB_lt hx
  have hlt : x.toNat < N := by omega
  have hxin : inB x N = true := inBt g3 (by omega)
  have hun : decide ((t x.toNat).un.length ≤ 274877906944) = true := decide_eq_true (hT.un _ hlt)
  have hiB : inB ((i : Nat) : Int) n = true := inBN hin
  have hb : decide (0 + i < n) = true := decide_eq_true (by omega)
  have hcov : covB t x (i : Int) = !(x.tmod 2 == 1 && inQ (i : Int) (t x.toNat).un) := by
    unfold covB
    rw [decide_eq_true (show firstV x ≤ (i : Int) by omega), decide_eq_true (show (i : Int) ≤ lastV x by omega), Bool.true_and, Bool.true_and]
  have hget : (midL n t xs x k).getD (0 + i) 0 = ((cnt t xs ((i : Nat) : Int) : Nat) : Int) := by
    unfold midL
    rw [Nat.zero_add, rmap_get _ hin, if_neg (by rintro ⟨q, _⟩; omega), Int.add_zero]
  have hcnt := cnt_le (t := t) xs (i : Int)
  have hw2 : IntKind.i64.wrap ((midL n t xs x k).getD (0 + i) 0 + 1) = (midL n t xs x k).getD (0 + i) 0 + 1 := by rw [hget, wrapI (by omega) (by omega)]
  have hlen : decide ((midL n t xs x k).length = n) = true := decide_eq_true midL_len
  cases c1 : (x.tmod 2 == 1) with
  | false =>
    have e := on_j2 N t n n rs (midL n t xs x k) j x (lastV x) (firstV x + k)
    rw [hw, hi, Int.toNat_natCast, hw2, midL_set hi.symm hin (by rw [hcov, c1]; rfl)] at e
    rw [hi]
    exact Tr.cutX (onC_ok true [(43, true), (48, false)]) 60 _ 1 (Nat.zero_le _) (s' := onY N t n n rs (midL n t xs x (k + 1)) j x (lastV x) (firstV x + ((k + 1 : Nat) : Int))) _ e (on_j2' N t n n rs _ j x _ _) (by
      rw [← hi, hle, c1, hi, Int.toNat_natCast, hiB, hb, hlen]; rfl)
  | true =>
    cases c2 : inQ (i : Int) (t x.toNat).un with
    | true =>
      have e := on_j1 N t n n rs (midL n t xs x k) j x (lastV x) (firstV x + k)
      have hc : covB t x (firstV x + k) = false := by rw [hi]; exact hcov.trans (by rw [c1, c2]; rfl)
      rw [hw, midL_skip hc] at e
      rw [midL_skip hc]
      exact Tr.cutX (onC_ok true [(43, true), (48, true), (56, true)]) 60 _ 1 (Nat.zero_le _) (s' := onY N t n n rs (midL n t xs x (k + 1)) j x (lastV x) (firstV x + ((k + 1 : Nat) : Int))) _ e (on_j1' N t n n rs _ j x _ _) (by
        rw [hle, c1, hxin, decide_eq_true hlt, hun, hi, c2]; rfl)
    | false =>
      have e := on_j3 N t n n rs (midL n t xs x k) j x (lastV x) (firstV x + k)
      rw [hw, hi, Int.toNat_natCast, hw2, midL_set hi.symm hin (by rw [hcov, c1, c2]; rfl)] at e
      rw [hi]
      exact Tr.cutX (onC_ok true [(43, true), (48, true), (56, false)]) 60 _ 1 (Nat.zero_le _) (s' := onY N t n n rs (midL n t xs x (k + 1)) j x (lastV x) (firstV x + ((k + 1 : Nat) : Int))) _ e (on_j3' N t n n rs _ j x _ _) (by
        rw [← hi, hle, hi, c1, hxin, decide_eq_true hlt, hun, c2, Int.toNat_natCast, hiB, hb, hlen]; rfl)
theorem on_node (hT : TOK N t) (hn : n ∈ sizes) (hN : N = 2 * n - 1) (hr : ∀ x ∈ rs, nodeB x n = true) (hl : rs.length ≤ 8320) {j : Nat} (hj : j < rs.length) :
    Tr Tryd.prog none 0 onR (onS N t n n rs (seenL n t (rs.take j)) ((j : Nat) : Int)) .normal (onS N t n n rs (seenL n t (rs.take (j + 1))) ((j + 1 : Nat) : Int)) := by
  have hx : nodeB (rs.getD j 0) n = true := by rw [getD_get hj]; exact hr _ (List.getElem_mem hj)
  obtain ⟨b1, b2, b3⟩ := below_at hx
  have hw : IntKind.i64.wrap ((j : Int) + 1) = ((j + 1 : Nat) : Int) := wrapS (by omega)
  have htk : rs.take (j + 1) = rs.take j ++ [rs.getD j 0] := by rw [List.take_add_one, List.getElem?_eq_getElem hj, getD_get hj]; rfl
  have hlen : (rs.take j).length ≤ 8320 := by rw [List.length_take]; omega
  refine Tr.of_atoms ?_
  refine TrL.itemsX (onC_ok true [(31, true)]) 60 2 _ 1 (Nat.zero_le _) (s1 := onS N t n n rs (seenL n t (rs.take j)) ((j : Nat) : Int)) _ (on_r1 N t n n rs _ j) (on_r1' N t n n rs _ j) (by rw [ltN hj]; rfl) (by decide) rfl ?_
  refine TrL.item 2 (by decide) (s1 := onS N t n n rs (seenL n t (rs.take (j + 1))) ((j : Nat) : Int)) ?_ ?_
  · rw [show nthC 2 onR = .block 1 onI by kernel_rfl]
    refine Tr.block_pass (Tr.of_atoms ?_) (by simp)
    have e := on_r2 N t n n rs (seenL n t (rs.take j)) j
    rw [Int.toNat_natCast] at e
    refine TrL.itemsX (onC_ok true []) 60 3 _ 1 (Nat.zero_le _) (s1 := onY N t n n rs (midL n t (rs.take j) (rs.getD j 0) 0) j (rs.getD j 0) (lastV (rs.getD j 0)) (firstV (rs.getD j 0) + ((0 : Nat) : Int))) _ (by rw [midL_zero, show firstV (rs.getD j 0) + ((0 : Nat) : Int) = firstV (rs.getD j 0) by omega]; exact e) (on_r2' N t n n rs _ j) (by
      rw [Int.toNat_natCast, inBN hj, decide_eq_true hj, hx, decide_eq_true (show (0 : Int) ≤ (n : Int) by omega)]; rfl) (by decide) rfl ?_
    refine TrL.item 3 (by decide) (s1 := onS N t n n rs (seenL n t (rs.take (j + 1))) ((j : Nat) : Int)) (Tr.loop 2 (by kernel_rfl) (fun k => onY N t n n rs (midL n t (rs.take j) (rs.getD j 0) k) j (rs.getD j 0) (lastV (rs.getD j 0)) (firstV (rs.getD j 0) + ((k : Nat) : Int))) (lastV (rs.getD j 0) - firstV (rs.getD j 0) + 1).toNat (fun k hk => ?_) ?_) (TrL.nil rfl)
    · exact on_leaf hT hn hN hx hlen j (by omega)
    · rw [htk, ← midL_end (k := (lastV (rs.getD j 0) - firstV (rs.getD j 0) + 1).toNat) (by omega)]
      exact Tr.cutX (onC_ok true [(43, false)]) 60 _ 1 (Nat.zero_le _) (s' := onS N t n n rs _ ((j : Nat) : Int)) _ (on_j4 N t n n rs _ j _ _ _) (on_j4' N t n n rs _ j _ _ _) (by rw [decide_eq_false (by omega)]; rfl)
  · have e := on_r3 N t n n rs (seenL n t (rs.take (j + 1))) j
    rw [hw] at e
    exact TrL.item 3 (by decide) (Tr.cutX (onC_ok true []) 60 _ 1 (Nat.zero_le _) (s' := onS N t n n rs (seenL n t (rs.take (j + 1))) ((j + 1 : Nat) : Int)) _ e (on_r3' N t n n rs _ j) rfl) (TrL.nil rfl)
theorem seenL_get {i : Nat} (hi : i < n) : (seenL n t rs).getD i 0 = ((cnt t rs ((i : Nat) : Int) : Nat) : Int) := rmap_get _ hi
theorem seenL_nil : seenL n t [] = List.replicate n 0 := by
  apply List.ext_getElem
  · simp [seenL]
  · intro i h1 h2; simp [seenL, cnt]
theorem res_nodes (hn : n ∈ sizes) (hN : N = 2 * n - 1) (F : ∀ x, x < N → NodF t n x) : ∀ (k y : Nat), y < N → lvN 7 y = k → ∀ x ∈ resL t k y, nodeB x n = true := by
  have used : ∀ (k y : Nat), y < N → (t y).used = true → ∀ x ∈ resL t k y, nodeB x n = true := by
    intro k y hy hu x hx
    rw [resL_used hu] at hx
    rcases List.mem_cons.1 hx with rfl | hx
    · exact node_mk hn (by omega)
    · obtain ⟨u, hm, rfl⟩ := List.mem_map.1 hx
      obtain ⟨h0, h1⟩ := (F y hy).un u hm
      exact leaf_node hn h0 h1
  intro k
  induction k with
  | zero =>
    intro y hy hk
    cases hu : (t y).used with
    | true => exact used 0 y hy hu
    | false => rw [resL_zero hu]; intro x hx; simp at hx
  | succ k ih =>
    intro y hy hk
    cases hu : (t y).used with
    | true => exact used (k + 1) y hy hu
    | false =>
      obtain ⟨_, _, h3, h4, h5, h6, _⟩ := kid_succ hn (hN ▸ hy) hk
      rw [resL_succ hu]
      intro x hx
      rcases List.mem_append.1 hx with h | h
      · exact ih _ (by omega) h5 x h
      · exact ih _ (by omega) h6 x h
theorem treeOnce_law (hT0 : okT0 N (tng t) = true) : FnTr Tryd.prog 8 [.rol false 99 N (tng t)] [] (.bool true) [] := by
  have z1 : okT0 N (fun i => coolL (tng t i)) = true := hT0
  cases g1 : largeB N t with
  | true => exact call0 (onC_ok _ _) 60 Tryd.func8 (on_a N t) (by rw [z1, show largeB N (treeOf fun i => coolL (tng t i)) = true from g1]; rfl) rfl
  | false =>
  have a1 : largeB N (treeOf fun i => coolL (tng t i)) = false := g1
  have hT := okT0_up hT0 (large_un g1)
  have h1 : okT N (fun i => coolL (tng t i)) = true := hT
  have e1 := large_le g1
  have d3 : decide (N ≤ 71) = true := decide_eq_true e1
  have hg : checkB N t = goodQ N t := check_good (t := t) e1
  have hTOK := TOK.of hT e1
  cases hc : checkB N t with
  | false =>
    refine call0 (onC_ok _ _) 60 Tryd.func8 (on_b N t) ?_ rfl
    rw [z1, a1, h1, d3, show goodQ N (treeOf fun i => coolL (tng t i)) = false from hg ▸ hc]
    rfl
  | true =>
    have hq : goodQ N (treeOf fun i => coolL (tng t i)) = true := hg ▸ hc
    obtain ⟨n, hn, hv, hN, hgood⟩ := check_parts hTOK hc
    have hs := sizes_le hn
    have F : ∀ x, x < N → NodF t n x := fun x hx => nodF_of hn hN hx (hgood x hx)
    have hrs : rsnV N t ((n - 1 : Nat) : Int) = resV t ((n - 1 : Nat) : Int) := rsn_in hc (by omega) (by omega)
    have hrl := resV_len (x := ((n - 1 : Nat) : Int)) hTOK hc (by omega) (by omega)
    have hrl' : (resV t ((n - 1 : Nat) : Int)).length ≤ 8320 := hrl
    have hrV : resV t ((n - 1 : Nat) : Int) = resL t (lvN 7 (n - 1)) (n - 1) := by unfold resV; rw [Int.toNat_natCast]
    have hnodes : ∀ x ∈ resV t ((n - 1 : Nat) : Int), nodeB x n = true := by rw [hrV]; exact res_nodes hn hN F _ _ (by omega) rfl
    have hroot := List.all_eq_true.1 root_all n hn
    simp only [Bool.and_eq_true, beq_iff_eq] at hroot
    have hcnt : ∀ i, i < n → cnt t (resV t ((n - 1 : Nat) : Int)) (i : Int) ≤ 1 ∧ ((t (2 * i)).used = true → cnt t (resV t ((n - 1 : Nat) : Int)) (i : Int) = 1) := fun i hi => by
      rw [hrV]
      exact (cnt_res hn hN F hi _ _ (by omega) rfl).2 (by rw [hroot.1, hroot.2]; omega)
    generalize hR : resV t ((n - 1 : Nat) : Int) = rs at hrs hrl' hnodes hcnt
    have hw : IntKind.i64.wrap ((n : Int) - 1) = ((n - 1 : Nat) : Int) := by rw [wrapI (by omega) (by omega)]; omega
    refine FnTr.sel (v := .bool true) (h1 := [.b [.ints .i64 n (seenL n t rs)]]) [] ?_ rfl
    refine FnTr.mk (vs := [.bool true]) Tryd.func8 rfl (x := .ret) (s := ⟨slotsOf 90 [(0, .rol false 99 N (tng t)), (2, .bool true)], [.b [.ints .i64 n (seenL n t rs)]], true⟩) ?_ (.inl rfl) (by kernel_rfl)
    have eh := on_head N t
    rw [hv, Int.toNat_natCast, hw, hrs] at eh
    refine TrL.itemsX (onC_ok true [(14, false)]) 60 8 _ 1 (Nat.zero_le _) (s1 := onS N t n n rs (seenL n t (rs.take 0)) ((0 : Nat) : Int)) _ (by rw [List.take_zero, seenL_nil]; exact eh) (on_head' N t) ?_ (by decide) rfl ?_
    · have hwn : IntKind.i64.wrap (n : Int) = (n : Int) := wrapI (by omega) (by omega)
      rw [z1, a1, h1, d3, hq, hv, hwn, decide_eq_true (show ((N : Nat) : Int) < 72 by omega), decide_eq_true (show (0 : Int) ≤ (n : Int) by omega), decide_eq_true (Int.le_refl (n : Int)), decide_eq_true (show (8 : Int) * (n : Int) ≤ 2 ^ 48 by omega), beq_self_eq_true (n : Int)]
      rfl
    refine TrL.item 8 (by decide) (s1 := ⟨slotsOf 90 [(0, .rol false 99 N (tng t)), (3, .int .i64 n), (4, .sl 0 0 0 1 n n true true)], [.b [.ints .i64 n (seenL n t rs)]], true⟩) (Tr.loop 0 (by kernel_rfl) (fun j => onS N t n n rs (seenL n t (rs.take j)) ((j : Nat) : Int)) rs.length (fun j hj => on_node hTOK hn hN hnodes hrl' hj) ?_) ?_
    · rw [List.take_length]
      exact Tr.cutX (onC_ok true [(31, false)]) 60 _ 1 (Nat.zero_le _) _ (on_r4 N t n n rs _ rs.length) (on_r4' N t n n rs _ rs.length) (by rw [nltN (Nat.le_refl _)]; rfl)
    refine TrL.itemsD (onC_ok true []) 60 9 1 _ 1 (Nat.zero_le _) (s1 := onE N t n n (seenL n t rs) ((0 : Nat) : Int)) _ (on_m N t n n _) (on_m' N t n n _) rfl (by decide) rfl ?_
    refine TrL.item 10 (by decide) (s1 := ⟨slotsOf 90 [(0, .rol false 99 N (tng t))], [.b [.ints .i64 n (seenL n t rs)]], true⟩) (Tr.loop 4 (by kernel_rfl) (fun i => onE N t n n (seenL n t rs) ((i : Nat) : Int)) n (fun i hi => ?_) ?_) ?_
    · obtain ⟨c1, c2⟩ := hcnt i hi
      have hwi : IntKind.i64.wrap ((i : Int) + 1) = ((i + 1 : Nat) : Int) := wrapS (by omega)
      have hw2 : IntKind.i64.wrap (2 * (i : Int)) = ((2 * i : Nat) : Int) := by rw [wrapI (by omega) (by omega)]; omega
      have hlt : 2 * i < N := by omega
      have hiB : inB ((i : Nat) : Int) n = true := inBN hi
      have hb : decide (0 + i < n) = true := decide_eq_true (by omega)
      cases hu : (t (2 * i)).used with
      | true =>
        have e := on_f1 N t n n (seenL n t rs) i
        rw [hwi] at e
        refine Tr.cutX (onC_ok true [(67, true), (74, true), (80, false), (87, false)]) 60 _ 1 (Nat.zero_le _) (s' := onE N t n n (seenL n t rs) ((i + 1 : Nat) : Int)) _ e (on_f1' N t n n _ i) ?_
        rw [hw2, ltN hi, inBN hlt, Int.toNat_natCast, Int.toNat_natCast, decide_eq_true hlt, show (t (2 * i)).1 = true from hu, hiB, hb, Nat.zero_add, seenL_get hi, c2 hu]
        rfl
      | false =>
        have e := on_f2 N t n n (seenL n t rs) i
        rw [hwi] at e
        refine Tr.cutX (onC_ok true [(67, true), (74, false), (87, false)]) 60 _ 1 (Nat.zero_le _) (s' := onE N t n n (seenL n t rs) ((i + 1 : Nat) : Int)) _ e (on_f2' N t n n _ i) ?_
        rw [hw2, ltN hi, inBN hlt, Int.toNat_natCast, Int.toNat_natCast, decide_eq_true hlt, show (t (2 * i)).1 = false from hu, hiB, hb, Nat.zero_add, seenL_get hi, decide_eq_false (show ¬ ((cnt t rs ((i : Nat) : Int) : Nat) : Int) > 1 by omega)]
        rfl
    · exact Tr.cutX (onC_ok true [(67, false)]) 60 _ 1 (Nat.zero_le _) (s' := ⟨slotsOf 90 [(0, .rol false 99 N (tng t))], [.b [.ints .i64 n (seenL n t rs)]], true⟩) _ (on_f3 N t n n _ n) (on_f3' N t n n _ n) (by rw [nltN (Nat.le_refl _)]; rfl)
    · exact TrL.rest (onC_ok true []) 60 (by kernel_rfl) rfl
end
end Go.Proofs.YtkcmlclomcidiaaDoor.Tr
