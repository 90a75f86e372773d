/- This file proves the contract of tree's Copy. Conditions: a tree of 71 nodes at most. -/
import Derived.Test.YtkcmlclomcidiaaDoorATrN
set_option linter.all false
set_option maxRecDepth 100000
namespace Go.Proofs.YtkcmlclomcidiaaDoor.Tr
open Go Go.Sy
noncomputable def cpC (b : Bool) : Ctr := mk (P := Tryd.prog) [cloneIE, cloneNE] [] (uT [(10, b)])
theorem cpC_ok (b : Bool) : CtrSound Tryd.prog (cpC b) := mk_sound _ InlOK.nil _ _
noncomputable def cpB : Code := bodyOf Tryd.f15
noncomputable def cpS (N : Nat) (t : Nat → Nod) (i : Int) : St := ⟨slotsOf 24 [(3, .rsl 0 99 N N false), (8, .int .i64 N), (9, .int .i64 i)], [.b [.rows 99 N (tng t)]], true⟩
theorem cp_head (N : Nat) (t : Nat → Nod) : resX (cutR [3, 8, 9] 1 ((execL Tryd.prog (cpC true) 60 0 3 (atoms cpB) ⟨slots0 Tryd.f15.ntmps [.rol false 99 N (tng t)], [], true⟩).map fun s => (Exit.normal, s))) = some (.normal, (cpS N t 0).t, [.b [.rows 99 N (tng (treeOf fun i => coolL (tng t i)))]]) := by kernel_rfl
theorem cp_head' (N : Nat) (t : Nat → Nod) : obX (cutR [3, 8, 9] 1 ((execL Tryd.prog (cpC true) 60 0 3 (atoms cpB) ⟨slots0 Tryd.f15.ntmps [.rol false 99 N (tng t)], [], true⟩).map fun s => (Exit.normal, s))) = (andT true (andT true ((okT N fun i => coolL (tng t i)) && decide (N ≤ 71)))) := by kernel_rfl
theorem cp_end (N : Nat) (t : Nat → Nod) (i : Int) : resX (cutR [3] 1 (exec Tryd.prog (cpC false) 60 0 (inner (inner (nthC 3 cpB))) (cpS N t i))) = some (.exit 0, slotsOf 24 [(3, .rsl 0 99 N N false)], [.b [.rows 99 N (tng t)]]) := by kernel_rfl
theorem cp_end' (N : Nat) (t : Nat → Nod) (i : Int) : obX (cutR [3] 1 (exec Tryd.prog (cpC false) 60 0 (inner (inner (nthC 3 cpB))) (cpS N t i))) = (andT true !decide (i < ((N : Nat) : Int))) := by kernel_rfl
theorem cp_one (N : Nat) (t : Nat → Nod) (i : Int) : resX (cutR [3, 8, 9] 1 (exec Tryd.prog (cpC true) 60 0 (inner (inner (nthC 3 cpB))) (cpS N t i))) = some (.normal, (cpS N t (IntKind.i64.wrap (i + 1))).t, [.b [.rows 99 N fun j => mergeP (Nat.beq j i.toNat) [.bool (t i.toNat).used, .int .i64 (t i.toNat).name, .ints .u8 32 (t i.toNat).key, .ints .u8 32 (t i.toNat).sign, .ints .u8 32 (t i.toNat).par, .ro true .i64 (t i.toNat).un] (tng t j)]]) := by kernel_rfl
theorem cp_one' (N : Nat) (t : Nat → Nod) (i : Int) : obX (cutR [3, 8, 9] 1 (exec Tryd.prog (cpC true) 60 0 (inner (inner (nthC 3 cpB))) (cpS N t i))) = (andT (andT (andT (andT (andT (andT true (decide (i < ((N : Nat) : Int)))) (inB i N)) (true && (decide (i.toNat < N) && true))) (andT true (decide ((t i.toNat).un.length ≤ 274877906944)))) (inB i N)) (true && decide (i.toNat < N))) := by kernel_rfl
theorem beqN (j i : Nat) : Nat.beq j i = decide (j = i) := by
  cases h : Nat.beq j i with
  | true => exact (decide_eq_true (Nat.eq_of_beq_eq_true h)).symm
  | false => exact (decide_eq_false (Nat.ne_of_beq_eq_false h)).symm
theorem cp_merge (t : Nat → Nod) (i : Nat) : (fun j => mergeP (Nat.beq j i) [.bool (t i).used, .int .i64 (t i).name, .ints .u8 32 (t i).key, .ints .u8 32 (t i).sign, .ints .u8 32 (t i).par, .ro true .i64 (t i).un] (tng t j)) = tng t := by
  funext j
  rw [beqN]
  by_cases h : j = i
  · subst h; rw [decide_eq_true rfl]; rfl
  · rw [decide_eq_false h]; rfl
theorem copy_fn {N : Nat} {t : Nat → Nod} (hT : TOK N t) : FnTr Tryd.prog 15 [.rol false 99 N (tng t)] [] (.rsl 0 99 N N false) [.b [.rows 99 N (tng t)]] := by
  have hle := hT.le
  refine FnTr.toEnd (h := []) Tryd.func15 rfl 3 0 (fun j => cpS N t ((j : Nat) : Int)) N
    (fun y s' g => TrL.itemsX (cpC_ok true) 60 3 _ 1 (Nat.zero_le _) (s1 := cpS N t ((0 : Nat) : Int)) _ (cp_head N t) (cp_head' N t) (by rw [show okT N (fun i => coolL (tng t i)) = true from okT_tng hT, decide_eq_true hle]; rfl) (by decide) rfl g) (by decide) (by kernel_rfl)
    (fun j hj => ?_) (sE := ⟨slotsOf 24 [(3, .rsl 0 99 N N false)], [.b [.rows 99 N (tng t)]], true⟩) (s' := ⟨slotsOf 24 [(2, .rsl 0 99 N N false), (3, .rsl 0 99 N N false), (23, .rsl 0 99 N N false)], [.b [.rows 99 N (tng t)]], true⟩) (x := .ret) (v := [.rsl 0 99 N N false]) ?_ ?_ (.inl rfl) (by kernel_rfl)
  · have e := cp_one N t j
    rw [Int.toNat_natCast, cp_merge, wrapS (by omega)] at e
    refine Tr.cutX (cpC_ok true) 60 _ 1 (Nat.zero_le _) (s' := cpS N t ((j + 1 : Nat) : Int)) _ e (cp_one' N t j) ?_
    rw [Int.toNat_natCast, ltN hj, inBN hj, decide_eq_true hj, decide_eq_true (hT.un j hj)]
    rfl
  · exact Tr.cutX (cpC_ok false) 60 _ 1 (Nat.zero_le _) _ (cp_end N t N) (cp_end' N t N) (by rw [nltN (Nat.le_refl _)]; rfl)
  · exact TrL.rest (cpC_ok true) 60 (by kernel_rfl) rfl
noncomputable def copyE : Entry Tryd.prog := .val 15 _ Tryd.func15 (by decide) rfl true 1 (fun vs => match vs with
  | [.rol false 99 N g] => some (.rsl 0 99 N N false, [.b [.rows 99 N (tng (treeOf g))]], okT N g && decide (N ≤ 71))
  | _ => none) fun vs v new e => by
  split at e
  · simp only [Option.some.injEq, Prod.mk.injEq, Bool.and_eq_true, decide_eq_true_eq] at e
    obtain ⟨rfl, rfl, h1, h2⟩ := e
    exact FnTr.conv (copy_fn (TOK.of h1 h2)) ⟨VE.tree h1, trivial⟩ trivial (VE.refl _) ⟨PE.refl _, trivial⟩
  · cases e
end Go.Proofs.YtkcmlclomcidiaaDoor.Tr
