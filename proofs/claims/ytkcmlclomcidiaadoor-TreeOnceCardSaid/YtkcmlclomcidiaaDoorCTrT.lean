/- This file proves the contract of tree's blank. Conditions: a tree of 32 leaves at most. -/
import Derived.Test.YtkcmlclomcidiaaDoorCTrS
set_option linter.all false
set_option maxRecDepth 100000
namespace Go.Proofs.YtkcmlclomcidiaaDoor.Tr
open Go Go.Sy
noncomputable def blC (l : List (Nat × Bool)) : Ctr := mk (P := Tryd.prog) [leavesE, pathE, parentE] [] (uT l)
theorem blC_ok (l : List (Nat × Bool)) : CtrSound Tryd.prog (blC l) := mk_sound _ InlOK.nil _ _
noncomputable def blB : Code := bodyOf Tryd.f51
noncomputable def blH (N : Nat) (ex : Bool) (t : Nat → Nod) (x y : Int) : List Blk := [.b [.rows 99 N (tng t)], .b [.rsl 0 99 N N ex], .b [.int .i64 x], .b [.int .i64 y]]
noncomputable def blS (N : Nat) (ex : Bool) (t : Nat → Nod) (x y : Int) : St := ⟨slotsOf 16 [(2, .ptr 1 0 0), (10, .fn (.func 65) [] [.ptr 2 0 0, .ptr 3 0 0])], blH N ex t x y, true⟩
theorem bl_head (N : Nat) (ex : Bool) (t : Nat → Nod) (i : Int) : resX (cutR [2, 10] 4 ((execL Tryd.prog (blC []) 60 1 2 (atoms blB) ⟨slots0 Tryd.f51.ntmps [.rsl 0 99 N N ex, .int .i64 i], [.b [.rows 99 N (tng t)]], true⟩).map fun s => (Exit.normal, s))) = some (.normal, (blS N ex t (IntKind.i64.wrap (2 * i)) (leavesV N)).t, (blS N ex t (IntKind.i64.wrap (2 * i)) (leavesV N)).h) := by kernel_rfl
theorem bl_head' (N : Nat) (ex : Bool) (t : Nat → Nod) (i : Int) : obX (cutR [2, 10] 4 ((execL Tryd.prog (blC []) 60 1 2 (atoms blB) ⟨slots0 Tryd.f51.ntmps [.rsl 0 99 N N ex, .int .i64 i], [.b [.rows 99 N (tng t)]], true⟩).map fun s => (Exit.normal, s))) = (true) := by kernel_rfl
noncomputable def blG (N : Nat) (ex : Bool) (t : Nat → Nod) (x y : Int) (l : Nat) : List Blk := blH N ex t x y ++ [.g (some (rfL (nthC 2 blB) (blS N ex t x y).t l))]
noncomputable def biS (N : Nat) (ex : Bool) (t : Nat → Nod) (x y : Int) (l : Nat) (p : Int) : St := ⟨slotsOf 17 [(0, .fn (.yield l) [] []), (2, .ptr 3 0 0), (4, .int .i64 p)], blG N ex t x y l, true⟩
theorem bi_head (N : Nat) (ex : Bool) (t : Nat → Nod) (x y : Int) (l : Nat) : resX (cutR [0, 2, 4] 5 ((execL Tryd.prog (blC []) 60 5 1 (atoms ptB) ⟨slots0 Tryd.f65.ntmps [.fn (.yield l) [] [], .ptr 2 0 0, .ptr 3 0 0], blG N ex t x y l, true⟩).map fun s => (Exit.normal, s))) = some (.normal, (biS N ex t x y l (parV x y)).t, blG N ex t x y l) := by kernel_rfl
theorem bi_head' (N : Nat) (ex : Bool) (t : Nat → Nod) (x y : Int) (l : Nat) : obX (cutR [0, 2, 4] 5 ((execL Tryd.prog (blC []) 60 5 1 (atoms ptB) ⟨slots0 Tryd.f65.ntmps [.fn (.yield l) [] [], .ptr 2 0 0, .ptr 3 0 0], blG N ex t x y l, true⟩).map fun s => (Exit.normal, s))) = (andT true (andT true (nodeB x y))) := by kernel_rfl
theorem bi_go (N : Nat) (ex : Bool) (t : Nat → Nod) (x y : Int) (l : Nat) (p : Int) : resX (cutR [0, 2, 4] 5 (exec Tryd.prog (blC [(9, true)]) 60 5 (inner (inner (nthC 1 ptB))) (biS N ex t x y l p))) = some (.normal, (biS N ex t x y l (parV p y)).t, [.b [.rows 99 N fun j => mergeP (Nat.beq j p.toNat) [.bool false, .int .i64 0, .ints .u8 32 (List.replicate 32 0), .ints .u8 32 (List.replicate 32 0), .ints .u8 32 (List.replicate 32 0), .nl (.slice none 0 0)] (tng t j)], .b [.rsl 0 99 N N ex], .b [.int .i64 x], .b [.int .i64 y], .g (some (rfL (nthC 2 blB) (blS N ex t x y).t l))]) := by kernel_rfl
theorem bi_go' (N : Nat) (ex : Bool) (t : Nat → Nod) (x y : Int) (l : Nat) (p : Int) : obX (cutR [0, 2, 4] 5 (exec Tryd.prog (blC [(9, true)]) 60 5 (inner (inner (nthC 1 ptB))) (biS N ex t x y l p))) = (andT (andT (andT true (decide (p ≥ 0))) (andT (andT (andT (andT (decide ((rfL (nthC 2 blB) (blS N ex t x y).t l).l = l)) (decide ((rfL (nthC 2 blB) (blS N ex t x y).t l).l = l))) (inB p N)) (decide (p.toNat < N))) (decide (l = l)))) (andT true (nodeB p y))) := by kernel_rfl
theorem bi_end (N : Nat) (ex : Bool) (t : Nat → Nod) (x y : Int) (l : Nat) (p : Int) : resX (cutR [0, 2, 4] 5 (exec Tryd.prog (blC [(9, false)]) 60 5 (inner (inner (nthC 1 ptB))) (biS N ex t x y l p))) = some (.exit 0, (biS N ex t x y l p).t, blG N ex t x y l) := by kernel_rfl
theorem bi_end' (N : Nat) (ex : Bool) (t : Nat → Nod) (x y : Int) (l : Nat) (p : Int) : obX (cutR [0, 2, 4] 5 (exec Tryd.prog (blC [(9, false)]) 60 5 (inner (inner (nthC 1 ptB))) (biS N ex t x y l p))) = (andT true !decide (p ≥ 0)) := by kernel_rfl
theorem z_merge (t : Nat → Nod) (x : Nat) : (fun j => mergeP (Nat.beq j x) [.bool false, .int .i64 0, .ints .u8 32 (List.replicate 32 0), .ints .u8 32 (List.replicate 32 0), .ints .u8 32 (List.replicate 32 0), .nl (.slice none 0 0)] (tng t j)) = tng (updT t x zeroN) := by
  funext j
  rw [beqN]
  unfold tng updT
  by_cases h : j = x
  · rw [decide_eq_true h, if_pos h]; rfl
  · rw [decide_eq_false h, if_neg h]; rfl
def blankK (t : Nat → Nod) (m : Nat) (x : Int) : Nat → Nat → Nod
  | 0 => t
  | k + 1 => updT (blankK t m x k) (upV m x k).toNat zeroN
section
variable {N : Nat} {ex : Bool} {t : Nat → Nod} {j m : Nat}
theorem bi_all (hm : m ∈ sizes) (hj : j < m) (hM : N = 2 * m - 1) (l : Nat) :
    FnTr Tryd.prog 65 [.fn (.yield l) [] [], .ptr 2 0 0, .ptr 3 0 0] (blG N ex t (2 * (j : Int)) m l) (.tup []) (blH N ex (blankK t m (2 * (j : Int)) (lgN m)) (2 * (j : Int)) m ++ [.g (some (rfL (nthC 2 blB) (blS N ex t (2 * (j : Int)) m).t l))]) := by
  obtain ⟨u1, u2, u3⟩ := up_ok hm hj
  rw [show ((2 * j : Nat) : Int) = 2 * (j : Int) by omega] at u1 u2 u3
  have hL : ∀ u, blG N ex u (2 * (j : Int)) m l = blH N ex u (2 * (j : Int)) m ++ [.g (some (rfL (nthC 2 blB) (blS N ex t (2 * (j : Int)) m).t l))] := fun u => rfl
  refine FnTr.toEnd (h := blG N ex t (2 * (j : Int)) m l) Tryd.func65 rfl 1 0 (fun k => biS N ex (blankK t m (2 * (j : Int)) k) (2 * (j : Int)) m l (upV m (2 * (j : Int)) k)) (lgN m)
    (fun y s' g => TrL.itemsX (blC_ok []) 60 1 _ 5 (Nat.le_refl 5) _ (bi_head N ex t (2 * (j : Int)) m l) (bi_head' N ex t (2 * (j : Int)) m l) (by rw [u3]; rfl) (by decide) rfl g) (by decide) (by kernel_rfl)
    (fun k hk => ?_) (sE := biS N ex (blankK t m (2 * (j : Int)) (lgN m)) (2 * (j : Int)) m l (upV m (2 * (j : Int)) (lgN m))) (s' := biS N ex (blankK t m (2 * (j : Int)) (lgN m)) (2 * (j : Int)) m l (upV m (2 * (j : Int)) (lgN m))) (x := .normal) (v := []) ?_ ⟨rfl, rfl⟩ (.inr rfl) rfl
  · obtain ⟨g1, g2⟩ := u1 k hk
    obtain ⟨g3, g4⟩ := nodeB_lt g1
    have hlt : (upV m (2 * (j : Int)) k).toNat < N := by omega
    have e := bi_go N ex (blankK t m (2 * (j : Int)) k) (2 * (j : Int)) m l (upV m (2 * (j : Int)) k)
    rw [z_merge] at e
    exact Tr.cutX (blC_ok [(9, true)]) 60 _ 5 (Nat.le_refl _) (s' := biS N ex (blankK t m (2 * (j : Int)) (k + 1)) (2 * (j : Int)) m l (upV m (2 * (j : Int)) (k + 1))) _ e (bi_go' N ex (blankK t m (2 * (j : Int)) k) (2 * (j : Int)) m l (upV m (2 * (j : Int)) k)) (by
      rw [decide_eq_true (show upV m (2 * (j : Int)) k ≥ 0 from g2), inBt g3 (by omega), decide_eq_true hlt, g1, decide_eq_true (show (rfL (nthC 2 blB) (blS N ex (blankK t m (2 * (j : Int)) k) (2 * (j : Int)) m).t l).l = l from rfl), decide_eq_true rfl]; rfl)
  · exact Tr.cutX (blC_ok [(9, false)]) 60 _ 5 (Nat.le_refl _) _ (bi_end N ex (blankK t m (2 * (j : Int)) (lgN m)) (2 * (j : Int)) m l _) (bi_end' N ex (blankK t m (2 * (j : Int)) (lgN m)) (2 * (j : Int)) m l _) (by rw [u2]; rfl)
theorem blank_fn (hm : m ∈ sizes) (hj : j < m) (hM : N = 2 * m - 1) (hv : leavesV N = m) :
    FnTr Tryd.prog 51 [.rsl 0 99 N N ex, .int .i64 j] [.b [.rows 99 N (tng t)]] (.tup []) [.b [.rows 99 N (tng (blankK t m (2 * (j : Int)) (lgN m)))]] := by
  have hs := sizes_le hm
  have e := bl_head N ex t j
  rw [hv, wrapI (by omega) (by omega)] at e
  refine FnTr.restM (blC_ok []) 60 3 1 Tryd.func51 (Nat.le_refl 1) rfl (fun s' y h => ?_) (s := ⟨(blS N ex t (2 * (j : Int)) m).t, blH N ex (blankK t m (2 * (j : Int)) (lgN m)) (2 * (j : Int)) m ++ [.gap], true⟩) (p := true) (by kernel_rfl) rfl rfl rfl
  refine TrL.itemsX (blC_ok []) 60 2 _ 4 (show 1 ≤ 4 by decide) (s1 := blS N ex t (2 * (j : Int)) m) _ e (bl_head' N ex t j) rfl (by decide) rfl ?_
  refine TrL.item 2 (by decide) ?_ h
  exact Tr.rangeB 0 (by kernel_rfl) (f := 65) (first := []) (capt := [.ptr 2 0 0, .ptr 3 0 0]) true Tryd.func65 (by decide) rfl (by kernel_rfl) (fun l => bi_all hm hj hM l)
    (fun l => ⟨_, rfl, rfl, by simp [rfL], rfl⟩) (fun l => rfl)
end
def pickR : List SV → List Blk → List Nat
  | [.rsl b _ _ _ _, _], _ => [b]
  | _, _ => []
def blankOK (N : Nat) (i : Int) : Bool := sizes.any fun m => decide (N = 2 * m - 1) && (leavesV N == (m : Int)) && decide (0 ≤ i) && decide (i < m)
noncomputable def blankF : List SV → List Blk → Option (SV × List Blk × Bool)
  | [.rsl 0 99 N N' ex, .int .i64 i], [.b [.rows 99 M g]] => some (.tup [], [.b [.rows 99 N (tng (blankK (treeOf g) (leavesV N).toNat (2 * i) (lgN (leavesV N).toNat)))]], okT N g && blankOK N i && decide (N = N') && decide (N = M))
  | _, _ => none
theorem PE.tree {N : Nat} {g : Nat → List SV} (h : okT N g = true) : PE [.rows 99 N g] [.rows 99 N (tng (treeOf g))] := PE.rows fun i hi => by
  rw [show tng (treeOf g) i = g i from ((okT_iff.1 h i hi).1).symm]
  exact PE.refl _
noncomputable def blankE : Entry Tryd.prog := .mut 51 _ Tryd.func51 (by decide) rfl pickR 0 blankF fun vs h0 v h1 e => by
  unfold blankF at e
  split at e
  · simp only [Option.some.injEq, Prod.mk.injEq, Bool.and_eq_true, decide_eq_true_eq] at e
    obtain ⟨rfl, rfl, ⟨⟨q1, q2⟩, rfl⟩, rfl⟩ := e
    obtain ⟨m, hm, q⟩ := List.any_eq_true.1 q2
    simp only [Bool.and_eq_true, decide_eq_true_eq, beq_iff_eq] at q
    obtain ⟨⟨⟨hN, hv⟩, h0⟩, hi⟩ := q
    obtain ⟨y, rfl⟩ := Int.eq_ofNat_of_zero_le h0
    rw [hv, Int.toNat_natCast]
    exact FnTr.conv (blank_fn hm (by omega) hN hv) ⟨VE.refl _, VE.refl _, trivial⟩ ⟨PE.tree q1, trivial⟩ (VE.refl _) ⟨PE.refl _, trivial⟩
  · cases e
noncomputable def usC (l : List (Nat × Bool)) : Ctr := mk (P := Tryd.prog) [] [] (uT l)
theorem usC_ok (l : List (Nat × Bool)) : CtrSound Tryd.prog (usC l) := mk_sound _ InlOK.nil _ _
end Go.Proofs.YtkcmlclomcidiaaDoor.Tr
