/- This file proves the contract of tree's Find. Conditions: a tree of 71 nodes at most. -/
import Derived.Test.YtkcmlclomcidiaaDoorCTrP
set_option linter.all false
set_option maxRecDepth 100000
namespace Go.Proofs.YtkcmlclomcidiaaDoor.Tr
open Go Go.Sy
noncomputable def mbInl : List (FuncId × Func) := [(12, Tryd.f12), (40, Tryd.f40)]
theorem mbInl_ok : InlOK Tryd.prog mbInl := InlOK.cons Tryd.func12 (by decide) (InlOK.cons Tryd.func40 (by decide) InlOK.nil)
noncomputable def fdC (b : Bool) (l : List (Nat × Bool)) : Ctr := mk (P := Tryd.prog) [checkE b, copyE] mbInl (uT l)
theorem fdC_ok (b : Bool) (l : List (Nat × Bool)) : CtrSound Tryd.prog (fdC b l) := mk_sound _ mbInl_ok _ _
noncomputable def fdB : Code := bodyOf Tryd.f19
noncomputable def mbB : Code := bodyOf Tryd.f60
section
variable (N : Nat) (t : Nat → Nod) (nm : Int)
noncomputable def fdH (r : Int) : List Blk := [.b [.int .i64 nm], .b [.int .i64 r], .b [.rows 99 N (tng t)], .b [.rsl 2 99 N N false]]
noncomputable def fdS : St := ⟨slotsOf 16 [(3, .ptr 0 0 0), (4, .ptr 1 0 0), (8, .fn (.func 60) [] [.ptr 3 0 0])], fdH N t nm 0, true⟩
noncomputable def fdG (r : Int) (st : LoopState) (pd : Option Code) (l : Nat) : List Blk := fdH N t nm r ++ [.g (some { rfL (nthC 2 fdB) (fdS N t nm).t l with st := st, pend := pd })]
noncomputable def fiS (r : Int) (st : LoopState) (pd : Option Code) (l : Nat) (x : Int) : St := ⟨slotsOf 26 [(0, .fn (.yield l) [] []), (1, .ptr 3 0 0), (3, .int .i64 x)], fdG N t nm r st pd l, true⟩
end
theorem fd_head (N : Nat) (t : Nat → Nod) (nm : Int) : resX (cutR [3, 4, 8] 4 ((execL Tryd.prog (fdC true []) 60 0 2 (atoms fdB) ⟨slots0 Tryd.f19.ntmps [.rol false 99 N (tng t), .int .i64 nm], [], true⟩).map fun s => (Exit.normal, s))) = some (.normal, (fdS N t nm).t, [.b [.int .i64 nm], .b [.int .i64 0], .b [.rows 99 N (tng (treeOf fun i => coolL (tng t i)))], .b [.rsl 2 99 N N false]]) := by kernel_rfl
theorem fd_head' (N : Nat) (t : Nat → Nod) (nm : Int) : obX (cutR [3, 4, 8] 4 ((execL Tryd.prog (fdC true []) 60 0 2 (atoms fdB) ⟨slots0 Tryd.f19.ntmps [.rol false 99 N (tng t), .int .i64 nm], [], true⟩).map fun s => (Exit.normal, s))) = (andT true (andT (andT true (andT true ((okT N fun i => coolL (tng t i)) && decide (N ≤ 71) && checkB N (treeOf fun i => coolL (tng t i)) == true))) (andT true ((okT N fun i => coolL (tng t i)) && decide (N ≤ 71))))) := by kernel_rfl
theorem fi_head (N : Nat) (t : Nat → Nod) (nm : Int) (l : Nat) : resX (cutR [0, 1, 3] 5 ((execL Tryd.prog (fdC true []) 60 5 1 (atoms mbB) ⟨slots0 Tryd.f60.ntmps [.fn (.yield l) [] [], .ptr 3 0 0], fdG N t nm 0 .ready none l, true⟩).map fun s => (Exit.normal, s))) = some (.normal, (fiS N t nm 0 .ready none l 0).t, fdG N t nm 0 .ready none l) := by kernel_rfl
theorem fi_head' (N : Nat) (t : Nat → Nod) (nm : Int) (l : Nat) : obX (cutR [0, 1, 3] 5 ((execL Tryd.prog (fdC true []) 60 5 1 (atoms mbB) ⟨slots0 Tryd.f60.ntmps [.fn (.yield l) [] [], .ptr 3 0 0], fdG N t nm 0 .ready none l, true⟩).map fun s => (Exit.normal, s))) = (true) := by kernel_rfl
theorem fi_un (N : Nat) (t : Nat → Nod) (nm : Int) (l : Nat) (x : Int) : resX (cutR [0, 1, 3] 5 (exec Tryd.prog (fdC true [(8, true), (17, false)]) 60 5 (inner (inner (nthC 1 mbB))) (fiS N t nm 0 .ready none l x))) = some (.normal, (fiS N t nm 0 .ready none l (IntKind.i64.wrap (x + 2))).t, fdG N t nm 0 .ready none l) := by kernel_rfl
theorem fi_un' (N : Nat) (t : Nat → Nod) (nm : Int) (l : Nat) (x : Int) : obX (cutR [0, 1, 3] 5 (exec Tryd.prog (fdC true [(8, true), (17, false)]) 60 5 (inner (inner (nthC 1 mbB))) (fiS N t nm 0 .ready none l x))) = (andT (andT (andT (andT true (decide (x < ((N : Nat) : Int)))) (inB x N)) (true && (decide (x.toNat < N) && true))) !(t x.toNat).1) := by kernel_rfl
theorem fi_no (N : Nat) (t : Nat → Nod) (nm : Int) (l : Nat) (x : Int) : resX (cutR [0, 1, 3] 5 (exec Tryd.prog (fdC true [(8, true), (17, true), (14, false)]) 60 5 (inner (inner (nthC 1 mbB))) (fiS N t nm 0 .ready none l x))) = some (.normal, (fiS N t nm 0 .ready none l (IntKind.i64.wrap (x + 2))).t, fdG N t nm 0 .ready none l) := by kernel_rfl
theorem fi_no' (N : Nat) (t : Nat → Nod) (nm : Int) (l : Nat) (x : Int) : obX (cutR [0, 1, 3] 5 (exec Tryd.prog (fdC true [(8, true), (17, true), (14, false)]) 60 5 (inner (inner (nthC 1 mbB))) (fiS N t nm 0 .ready none l x))) = (andT (andT (andT (andT (andT true (decide (x < ((N : Nat) : Int)))) (inB x N)) (true && (decide (x.toNat < N) && true))) (t x.toNat).1) (andT (andT (andT (decide (l = l)) (decide (l = l))) !(t x.toNat).name == nm) (decide (l = l)))) := by kernel_rfl
theorem fi_is (N : Nat) (t : Nat → Nod) (nm : Int) (l : Nat) (x : Int) : resX (cutR [0, 1, 3] 5 (exec Tryd.prog (fdC true [(8, true), (17, true), (14, true)]) 60 5 (inner (inner (nthC 1 mbB))) (fiS N t nm 0 .ready none l x))) = some (.ret, (fiS N t nm (IntKind.i64.wrap (x.tdiv 2)) .done (some .ret) l x).t, fdG N t nm (IntKind.i64.wrap (x.tdiv 2)) .done (some .ret) l) := by kernel_rfl
theorem fi_is' (N : Nat) (t : Nat → Nod) (nm : Int) (l : Nat) (x : Int) : obX (cutR [0, 1, 3] 5 (exec Tryd.prog (fdC true [(8, true), (17, true), (14, true)]) 60 5 (inner (inner (nthC 1 mbB))) (fiS N t nm 0 .ready none l x))) = (andT (andT (andT (andT (andT true (decide (x < ((N : Nat) : Int)))) (inB x N)) (true && (decide (x.toNat < N) && true))) (t x.toNat).1) (andT (andT (andT (decide (l = l)) (decide (l = l))) ((t x.toNat).name == nm)) (decide (l = l)))) := by kernel_rfl
theorem fi_end (N : Nat) (t : Nat → Nod) (nm : Int) (l : Nat) (x : Int) : resX (cutR [0, 1, 3] 5 (exec Tryd.prog (fdC true [(8, false)]) 60 5 (inner (inner (nthC 1 mbB))) (fiS N t nm 0 .ready none l x))) = some (.exit 0, (fiS N t nm 0 .ready none l x).t, fdG N t nm 0 .ready none l) := by kernel_rfl
theorem fi_end' (N : Nat) (t : Nat → Nod) (nm : Int) (l : Nat) (x : Int) : obX (cutR [0, 1, 3] 5 (exec Tryd.prog (fdC true [(8, false)]) 60 5 (inner (inner (nthC 1 mbB))) (fiS N t nm 0 .ready none l x))) = (andT true !decide (x < ((N : Nat) : Int))) := by kernel_rfl
noncomputable def fzS (nm : Int) : St := ⟨slotsOf 16 [(3, .ptr 0 0 0), (4, .ptr 1 0 0), (8, .fn (.func 39) [] [])], [.b [.int .i64 nm], .b [.int .i64 0]], true⟩
theorem fz_head (N : Nat) (t : Nat → Nod) (nm : Int) : resX (cutR [3, 4, 8] 2 ((execL Tryd.prog (fdC false []) 60 0 2 (atoms fdB) ⟨slots0 Tryd.f19.ntmps [.rol false 99 N (tng t), .int .i64 nm], [], true⟩).map fun s => (Exit.normal, s))) = some (.normal, (fzS nm).t, (fzS nm).h) := by kernel_rfl
theorem fz_head' (N : Nat) (t : Nat → Nod) (nm : Int) : obX (cutR [3, 4, 8] 2 ((execL Tryd.prog (fdC false []) 60 0 2 (atoms fdB) ⟨slots0 Tryd.f19.ntmps [.rol false 99 N (tng t), .int .i64 nm], [], true⟩).map fun s => (Exit.normal, s))) = (andT true (andT true (andT true ((okT N fun i => coolL (tng t i)) && decide (N ≤ 71) && checkB N (treeOf fun i => coolL (tng t i)) == false)))) := by kernel_rfl
def fdJ (t : Nat → Nod) (nm : Int) (j : Nat) : Bool := !((t (2 * j)).used && ((t (2 * j)).name == nm))
def findV (N : Nat) (t : Nat → Nod) (nm : Int) : Int := scanV (fdJ t nm) ((N + 1) / 2) (fun j => (j : Int)) (-1)
section
variable {N : Nat} {t : Nat → Nod} {nm : Int}
theorem fi_step (hle : N ≤ 71) (l : Nat) {j : Nat} (hj : j < (N + 1) / 2) (hb : fdJ t nm j = true) :
    Tr Tryd.prog none 5 (inner (inner (nthC 1 mbB))) (fiS N t nm 0 .ready none l ((2 * j : Nat) : Int)) .normal (fiS N t nm 0 .ready none l ((2 * (j + 1) : Nat) : Int)) := by
  have hlt : 2 * j < N := by omega
  have hw : IntKind.i64.wrap (((2 * j : Nat) : Int) + 2) = ((2 * (j + 1) : Nat) : Int) := by rw [wrapI (by omega) (by omega)]; omega
  unfold fdJ at hb
  cases hu : (t (2 * j)).used with
  | false =>
    have e := fi_un N t nm l ((2 * j : Nat) : Int)
    rw [hw] at e
    exact Tr.cutX (fdC_ok true [(8, true), (17, false)]) 60 _ 5 (Nat.le_refl _) (s' := fiS N t nm 0 .ready none l ((2 * (j + 1) : Nat) : Int)) _ e (fi_un' N t nm l _) (by
      rw [Int.toNat_natCast, ltN hlt, inBN hlt, decide_eq_true hlt, show (t (2 * j)).1 = false from hu]; rfl)
  | true =>
    rw [hu, Bool.true_and] at hb
    have e := fi_no N t nm l ((2 * j : Nat) : Int)
    rw [hw] at e
    exact Tr.cutX (fdC_ok true [(8, true), (17, true), (14, false)]) 60 _ 5 (Nat.le_refl _) (s' := fiS N t nm 0 .ready none l ((2 * (j + 1) : Nat) : Int)) _ e (fi_no' N t nm l _) (by
      rw [Int.toNat_natCast, ltN hlt, inBN hlt, decide_eq_true hlt, show (t (2 * j)).1 = true from hu, hb, decide_eq_true rfl]; rfl)
theorem fi_first (l : Nat) : ∀ y s', TrL Tryd.prog none (fdG N t nm 0 .ready none l).length ((atoms mbB).drop 1) (fiS N t nm 0 .ready none l ((2 * 0 : Nat) : Int)) y s' →
    TrL Tryd.prog none (fdG N t nm 0 .ready none l).length (atoms mbB) ⟨slots0 Tryd.f60.ntmps [.fn (.yield l) [] [], .ptr 3 0 0], fdG N t nm 0 .ready none l, true⟩ y s' := fun y s' g =>
  TrL.itemsX (fdC_ok true []) 60 1 _ 5 (Nat.le_refl 5) _ (fi_head N t nm l) (fi_head' N t nm l) rfl (by decide) rfl g
theorem fi_all (hle : N ≤ 71) (l : Nat) (ha : ∀ j, j < (N + 1) / 2 → fdJ t nm j = true) :
    FnTr Tryd.prog 60 [.fn (.yield l) [] [], .ptr 3 0 0] (fdG N t nm 0 .ready none l) (.tup []) (fdG N t nm 0 .ready none l) := by
  refine FnTr.toEnd (h := fdG N t nm 0 .ready none l) Tryd.func60 rfl 1 0 (fun j => fiS N t nm 0 .ready none l ((2 * j : Nat) : Int)) ((N + 1) / 2) (fi_first l) (by decide) (by kernel_rfl)
    (fun j hj => fi_step hle l hj (ha j hj)) (sE := fiS N t nm 0 .ready none l ((2 * ((N + 1) / 2) : Nat) : Int)) (s' := fiS N t nm 0 .ready none l ((2 * ((N + 1) / 2) : Nat) : Int)) (x := .normal) (v := []) ?_ ⟨rfl, rfl⟩ (.inr rfl) rfl
  exact Tr.cutX (fdC_ok true [(8, false)]) 60 _ 5 (Nat.le_refl _) _ (fi_end N t nm l _) (fi_end' N t nm l _) (by rw [nltN (by omega)]; rfl)
theorem fi_at (hle : N ≤ 71) (l : Nat) {j : Nat} (hj : j < (N + 1) / 2) (hb : fdJ t nm j = false) (ha : ∀ k, k < j → fdJ t nm k = true) :
    FnTr Tryd.prog 60 [.fn (.yield l) [] [], .ptr 3 0 0] (fdG N t nm 0 .ready none l) (.tup []) (fdG N t nm j .done (some .ret) l) := by
  have hlt : 2 * j < N := by omega
  unfold fdJ at hb
  have hb' : (t (2 * j)).used = true ∧ ((t (2 * j)).name == nm) = true := by simpa using hb
  have hw : IntKind.i64.wrap (((2 * j : Nat) : Int).tdiv 2) = (j : Int) := by
    have : ((2 * j : Nat) : Int).tdiv 2 = ((2 * j / 2 : Nat) : Int) := rfl
    rw [this, wrapI (by omega) (by omega)]; omega
  refine FnTr.leaveAt (h := fdG N t nm 0 .ready none l) Tryd.func60 rfl 1 0 (fun j => fiS N t nm 0 .ready none l ((2 * j : Nat) : Int)) j (fi_first l) (by decide) (by kernel_rfl)
    (fun k hk => fi_step hle l (by omega) (ha k hk)) (sF := fiS N t nm j .done (some .ret) l ((2 * j : Nat) : Int)) (vF := []) ?_ rfl
  have e := fi_is N t nm l ((2 * j : Nat) : Int)
  rw [hw] at e
  exact Tr.cutX (fdC_ok true [(8, true), (17, true), (14, true)]) 60 _ 5 (Nat.le_refl _) _ e (fi_is' N t nm l _) (by
    rw [Int.toNat_natCast, ltN hlt, inBN hlt, decide_eq_true hlt, show (t (2 * j)).1 = true from hb'.1, hb'.2, decide_eq_true rfl]; rfl)
theorem find_fn (hT : TOK N t) : FnTr Tryd.prog 19 [.rol false 99 N (tng t), .int .i64 nm] [] (.int .i64 (bif checkB N t then findV N t nm else -1)) [] := by
  have hok : okT N (fun i => coolL (tng t i)) = true := okT_tng hT
  cases hc : checkB N t with
  | false =>
    refine FnTr.sel (v := .int .i64 (-1)) (h1 := [.b [.int .i64 nm], .b [.int .i64 (-1)], .gap]) [] ?_ rfl
    refine FnTr.rest (fdC_ok true []) 60 3 Tryd.func19 rfl (fun s' y h => ?_) (s := ⟨(fzS nm).t, (fzS nm).h ++ [.gap], true⟩) (p := true) (by kernel_rfl) rfl
    refine TrL.itemsX (fdC_ok false []) 60 2 _ 2 (Nat.zero_le _) (s1 := fzS nm) _ (fz_head N t nm) (fz_head' N t nm) (by rw [hok, decide_eq_true hT.le, show checkB N (treeOf fun i => coolL (tng t i)) = false from hc]; rfl) (by decide) rfl ?_
    refine TrL.item 2 (by decide) ?_ h
    exact Tr.rangeB 0 (by kernel_rfl) (f := 39) (first := []) (capt := []) (v := .tup []) (h1 := fun l => (fzS nm).h ++ [.g (some (rfL (nthC 2 fdB) (fzS nm).t l))]) true Tryd.func39 (by decide) rfl (by kernel_rfl)
      (fun l => FnTr.of_callS (fdC_ok true []) Tryd.func39 (n := 60) (by kernel_rfl)) (fun l => ⟨_, rfl, rfl, by simp [rfL], rfl⟩) (fun l => rfl)
  | true =>
    have hh : (andT true (andT (andT true (andT true ((okT N fun i => coolL (tng t i)) && decide (N ≤ 71) && checkB N (treeOf fun i => coolL (tng t i)) == true))) (andT true ((okT N fun i => coolL (tng t i)) && decide (N ≤ 71))))) = true := by
      rw [hok, decide_eq_true hT.le, show checkB N (treeOf fun i => coolL (tng t i)) = true from hc]; rfl
    show FnTr _ _ _ _ (.int .i64 (findV N t nm)) _
    unfold findV scanV
    cases hq : firstN (fdJ t nm) ((N + 1) / 2) with
    | none =>
      have ha := firstN_none hq
      refine FnTr.sel (v := .int .i64 (-1)) (h1 := fdH N t nm (-1) ++ [.gap]) [] ?_ rfl
      refine FnTr.rest (fdC_ok true []) 60 3 Tryd.func19 rfl (fun s' y h => ?_) (s := ⟨(fdS N t nm).t, fdH N t nm 0 ++ [.gap], true⟩) (p := true) (by kernel_rfl) rfl
      refine TrL.itemsX (fdC_ok true []) 60 2 _ 4 (Nat.zero_le _) (s1 := fdS N t nm) _ (fd_head N t nm) (fd_head' N t nm) hh (by decide) rfl ?_
      refine TrL.item 2 (by decide) ?_ h
      exact Tr.rangeB 0 (by kernel_rfl) (f := 60) (first := []) (capt := [.ptr 3 0 0]) true Tryd.func60 (by decide) rfl (by kernel_rfl) (fun l => fi_all hT.le l ha)
        (fun l => ⟨_, rfl, rfl, by simp [rfL], rfl⟩) (fun l => rfl)
    | some j =>
      obtain ⟨hj, hb, ha⟩ := find_range hq
      refine FnTr.sel (v := .int .i64 j) (h1 := fdH N t nm j ++ [.gap]) [] ?_ rfl
      refine FnTr.mk Tryd.func19 rfl (x := .ret) (s := ⟨(fdS N t nm).t, fdH N t nm j ++ [.gap], true⟩) (vs := [.int .i64 j]) ?_ (.inl rfl) (by kernel_rfl)
      refine TrL.itemsX (fdC_ok true []) 60 2 _ 4 (Nat.zero_le _) (s1 := fdS N t nm) _ (fd_head N t nm) (fd_head' N t nm) hh (by decide) rfl ?_
      refine TrL.leave 2 (by decide) (by simp) ?_
      show Tr Tryd.prog none 0 (.block 0 (inner (nthC 2 fdB))) _ _ _
      refine Tr.block_pass ?_ (by simp)
      exact Tr.range (q := some .ret) true Tryd.func60 (by decide) rfl (by kernel_rfl) (first := []) (fun l => fi_at hT.le l hj hb ha)
        (fun l => ⟨_, rfl, rfl, by simp [rfL], rfl⟩) (fun l => rfl) rfl
end
noncomputable def findE : Entry Tryd.prog := .val 19 _ Tryd.func19 (by decide) rfl true 0 (fun vs => match vs with
  | [.rol false 99 N g, .int .i64 nm] => some (.int .i64 (bif checkB N (treeOf g) then findV N (treeOf g) nm else -1), [], okT N g && decide (N ≤ 71))
  | _ => none) fun vs v new e => by
  split at e
  · simp only [Option.some.injEq, Prod.mk.injEq, Bool.and_eq_true, decide_eq_true_eq] at e
    obtain ⟨rfl, rfl, h1, h2⟩ := e
    exact FnTr.conv (find_fn (TOK.of h1 h2)) ⟨VE.tree h1, VE.refl _, trivial⟩ trivial (VE.refl _) trivial
  · cases e
end Go.Proofs.YtkcmlclomcidiaaDoor.Tr
