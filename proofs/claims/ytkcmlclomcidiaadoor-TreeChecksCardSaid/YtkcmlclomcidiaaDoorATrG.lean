/- This file proves the contract of tree's between. Conditions: a leaf of a tree of 32 leaves at most. -/
import Derived.Test.YtkcmlclomcidiaaDoorATrF
set_option linter.all false
set_option maxRecDepth 100000
namespace Go.Proofs.YtkcmlclomcidiaaDoor.Tr
open Go Go.Sy
def upV (n x : Int) : Nat → Int
  | 0 => parV x n
  | j + 1 => parV (upV n x j) n
noncomputable def paInl : List (FuncId × Func) := [(48, Tryd.f48)]
theorem paInl_ok : InlOK Tryd.prog paInl := InlOK.cons Tryd.func48 (by decide) InlOK.nil
def btT (a b c d : Bool) : Nat → Option Bool := fun i => if i = 17 then some a else if i = 22 then some b else if i = 31 then some c else if i = 9 then some d else none
noncomputable def btC (a b c d : Bool) : Ctr := mk (P := Tryd.prog) [parentE, containsE] paInl (btT a b c d)
theorem btC_ok (a b c d : Bool) : CtrSound Tryd.prog (btC a b c d) := mk_sound _ paInl_ok _ _
noncomputable def btB : Code := bodyOf Tryd.f64
noncomputable def ptB : Code := bodyOf Tryd.f65
section
variable (N : Nat) (t : Nat → Nod) (x i n : Int)
noncomputable def btH (r : Bool) : List Blk := [.b [.rol false 99 N (tng t)], .b [.int .i64 x], .b [.int .i64 i], .b [.bool r], .b [.int .i64 (IntKind.i64.wrap (2 * i))], .b [.int .i64 n]]
noncomputable def btS : St := ⟨slotsOf 33 [(4, .ptr 0 0 0), (5, .ptr 1 0 0), (6, .ptr 2 0 0), (8, .ptr 3 0 0), (13, .fn (.func 65) [] [.ptr 4 0 0, .ptr 5 0 0])], btH N t x i n false, true⟩
noncomputable def btG (r : Bool) (st : LoopState) (pd : Option Code) (l : Nat) : List Blk := btH N t x i n r ++ [.g (some { rfL (nthC 2 btB) (btS N t x i n).t l with st := st, pend := pd })]
noncomputable def itS (r : Bool) (st : LoopState) (pd : Option Code) (l : Nat) (p : Int) : St := ⟨slotsOf 17 [(0, .fn (.yield l) [] []), (2, .ptr 5 0 0), (4, .int .i64 p)], btG N t x i n r st pd l, true⟩
end
theorem bt_head (N : Nat) (t : Nat → Nod) (x i n : Int) : resX (cutR [4, 5, 6, 8, 13] 6 ((execL Tryd.prog (btC true true true true) 60 0 2 (atoms btB) ⟨slots0 Tryd.f64.ntmps [.rol false 99 N (tng t), .int .i64 x, .int .i64 i, .int .i64 n], [], true⟩).map fun s => (Exit.normal, s))) = some (.normal, (btS N t x i n).t, (btS N t x i n).h) := by kernel_rfl
theorem bt_head' (N : Nat) (t : Nat → Nod) (x i n : Int) : obX (cutR [4, 5, 6, 8, 13] 6 ((execL Tryd.prog (btC true true true true) 60 0 2 (atoms btB) ⟨slots0 Tryd.f64.ntmps [.rol false 99 N (tng t), .int .i64 x, .int .i64 i, .int .i64 n], [], true⟩).map fun s => (Exit.normal, s))) = (true) := by kernel_rfl
theorem it_head (N : Nat) (t : Nat → Nod) (x i n : Int) (l : Nat) : resX (cutR [0, 2, 4] 7 ((execL Tryd.prog (btC true true true true) 60 7 1 (atoms ptB) ⟨slots0 Tryd.f65.ntmps [.fn (.yield l) [] [], .ptr 4 0 0, .ptr 5 0 0], btG N t x i n false .ready none l, true⟩).map fun s => (Exit.normal, s))) = some (.normal, (itS N t x i n false .ready none l (parV (IntKind.i64.wrap (2 * i)) n)).t, btG N t x i n false .ready none l) := by kernel_rfl
theorem it_head' (N : Nat) (t : Nat → Nod) (x i n : Int) (l : Nat) : obX (cutR [0, 2, 4] 7 ((execL Tryd.prog (btC true true true true) 60 7 1 (atoms ptB) ⟨slots0 Tryd.f65.ntmps [.fn (.yield l) [] [], .ptr 4 0 0, .ptr 5 0 0], btG N t x i n false .ready none l, true⟩).map fun s => (Exit.normal, s))) = (andT true (andT true (nodeB (IntKind.i64.wrap (2 * i)) n))) := by kernel_rfl
theorem it_x (N : Nat) (t : Nat → Nod) (x i n : Int) (l : Nat) (p : Int) : resX (cutR [0, 2, 4] 7 (exec Tryd.prog (btC true true true true) 60 7 (inner (inner (nthC 1 ptB))) (itS N t x i n false .ready none l p))) = some (.ret, (itS N t x i n true .done (some .ret) l p).t, btG N t x i n true .done (some .ret) l) := by kernel_rfl
theorem it_x' (N : Nat) (t : Nat → Nod) (x i n : Int) (l : Nat) (p : Int) : obX (cutR [0, 2, 4] 7 (exec Tryd.prog (btC true true true true) 60 7 (inner (inner (nthC 1 ptB))) (itS N t x i n false .ready none l p))) = (andT (andT true (decide (p ≥ 0))) (andT (andT (andT (decide (l = l)) (decide (l = l))) (p == x)) (decide (l = l)))) := by kernel_rfl
theorem it_no (N : Nat) (t : Nat → Nod) (x i n : Int) (l : Nat) (p : Int) : resX (cutR [0, 2, 4] 7 (exec Tryd.prog (btC false true true true) 60 7 (inner (inner (nthC 1 ptB))) (itS N t x i n false .ready none l p))) = some (.ret, (itS N t x i n false .done (some .ret) l p).t, btG N t x i n false .done (some .ret) l) := by kernel_rfl
theorem it_no' (N : Nat) (t : Nat → Nod) (x i n : Int) (l : Nat) (p : Int) : obX (cutR [0, 2, 4] 7 (exec Tryd.prog (btC false true true true) 60 7 (inner (inner (nthC 1 ptB))) (itS N t x i n false .ready none l p))) = (andT (andT true (decide (p ≥ 0))) (andT (andT (andT (andT (andT (andT (andT (andT (andT (andT (decide (l = l)) (decide (l = l))) !p == x) (inB p N)) (true && (decide (p.toNat < N) && true))) (t p.toNat).1) (inB p N)) (true && (decide (p.toNat < N) && true))) (andT true (decide ((t p.toNat).un.length ≤ 274877906944)))) !hasB (t p.toNat).un i) (decide (l = l)))) := by kernel_rfl
theorem it_un (N : Nat) (t : Nat → Nod) (x i n : Int) (l : Nat) (p : Int) : resX (cutR [0, 2, 4] 7 (exec Tryd.prog (btC false false true true) 60 7 (inner (inner (nthC 1 ptB))) (itS N t x i n false .ready none l p))) = some (.normal, (itS N t x i n false .ready none l (parV p n)).t, btG N t x i n false .ready none l) := by kernel_rfl
theorem it_un' (N : Nat) (t : Nat → Nod) (x i n : Int) (l : Nat) (p : Int) : obX (cutR [0, 2, 4] 7 (exec Tryd.prog (btC false false true true) 60 7 (inner (inner (nthC 1 ptB))) (itS N t x i n false .ready none l p))) = (andT (andT (andT true (decide (p ≥ 0))) (andT (andT (andT (andT (andT (andT (decide (l = l)) (decide (l = l))) !p == x) (inB p N)) (true && (decide (p.toNat < N) && true))) !(t p.toNat).1) (decide (l = l)))) (andT true (nodeB p n))) := by kernel_rfl
theorem it_has (N : Nat) (t : Nat → Nod) (x i n : Int) (l : Nat) (p : Int) : resX (cutR [0, 2, 4] 7 (exec Tryd.prog (btC false true false true) 60 7 (inner (inner (nthC 1 ptB))) (itS N t x i n false .ready none l p))) = some (.normal, (itS N t x i n false .ready none l (parV p n)).t, btG N t x i n false .ready none l) := by kernel_rfl
theorem it_has' (N : Nat) (t : Nat → Nod) (x i n : Int) (l : Nat) (p : Int) : obX (cutR [0, 2, 4] 7 (exec Tryd.prog (btC false true false true) 60 7 (inner (inner (nthC 1 ptB))) (itS N t x i n false .ready none l p))) = (andT (andT (andT true (decide (p ≥ 0))) (andT (andT (andT (andT (andT (andT (andT (andT (andT (andT (decide (l = l)) (decide (l = l))) !p == x) (inB p N)) (true && (decide (p.toNat < N) && true))) (t p.toNat).1) (inB p N)) (true && (decide (p.toNat < N) && true))) (andT true (decide ((t p.toNat).un.length ≤ 274877906944)))) !!hasB (t p.toNat).un i) (decide (l = l)))) (andT true (nodeB p n))) := by kernel_rfl
theorem it_end (N : Nat) (t : Nat → Nod) (x i n : Int) (l : Nat) (p : Int) : resX (cutR [0, 2, 4] 7 (exec Tryd.prog (btC false true false false) 60 7 (inner (inner (nthC 1 ptB))) (itS N t x i n false .ready none l p))) = some (.exit 0, (itS N t x i n false .ready none l p).t, btG N t x i n false .ready none l) := by kernel_rfl
theorem it_end' (N : Nat) (t : Nat → Nod) (x i n : Int) (l : Nat) (p : Int) : obX (cutR [0, 2, 4] 7 (exec Tryd.prog (btC false true false false) 60 7 (inner (inner (nthC 1 ptB))) (itS N t x i n false .ready none l p))) = (andT true !decide (p ≥ 0)) := by kernel_rfl
def lgN : Nat → Nat
  | 1 => 0
  | 2 => 1
  | 4 => 2
  | 8 => 3
  | 16 => 4
  | _ => 5
theorem up_all : (sizes.all fun n => (List.range n).all fun i => ((List.range (lgN n)).all fun j => nodeB (upV n ((2 * i : Nat) : Int) j) n && decide (0 ≤ upV n ((2 * i : Nat) : Int) j)) && decide (upV n ((2 * i : Nat) : Int) (lgN n) = -1) && nodeB ((2 * i : Nat) : Int) n) = true := by decide +kernel
theorem up_ok {n i : Nat} (hn : n ∈ sizes) (hi : i < n) : (∀ j, j < lgN n → nodeB (upV n ((2 * i : Nat) : Int) j) n = true ∧ 0 ≤ upV n ((2 * i : Nat) : Int) j) ∧ upV n ((2 * i : Nat) : Int) (lgN n) = -1 ∧ nodeB ((2 * i : Nat) : Int) n = true := by
  have h := List.all_eq_true.1 (List.all_eq_true.1 up_all n hn) i (List.mem_range.2 hi)
  simp only [Bool.and_eq_true, decide_eq_true_eq, List.all_eq_true, List.mem_range] at h
  exact ⟨h.1.1, h.1.2, h.2⟩
theorem sizes_le {n : Nat} (hn : n ∈ sizes) : 1 ≤ n ∧ n ≤ 32 := by
  simp only [sizes, List.mem_cons, List.not_mem_nil, or_false] at hn
  omega
theorem nodeB_lt {p : Int} {n : Nat} (h : nodeB p n = true) : 0 ≤ p ∧ p < ((2 * n - 1 : Nat) : Int) := by
  obtain ⟨m, _, y, h1, rfl, h2⟩ := nodeB_iff h
  omega
def okJ (t : Nat → Nod) (x i n : Int) (j : Nat) : Bool := !(upV n (2 * i) j == x) && !((t (upV n (2 * i) j).toNat).used && !hasB (t (upV n (2 * i) j).toNat).un i)
def btwB (t : Nat → Nod) (x : Int) (i n : Nat) : Bool := scanV (okJ t x i n) (lgN n) (fun j => upV n (2 * (i : Int)) j == x) false
section
variable {N : Nat} {t : Nat → Nod} {x : Int} {i n : Nat}
theorem it_step (hn : n ∈ sizes) (hi : i < n) (hN : N = 2 * n - 1) (hu : ∀ k, k < N → (t k).un.length ≤ 274877906944) (l : Nat) {j : Nat} (hj : j < lgN n) (hb : okJ t x i n j = true) :
    Tr Tryd.prog none 7 (inner (inner (nthC 1 ptB))) (itS N t x i n false .ready none l (upV n (2 * (i : Int)) j)) .normal (itS N t x i n false .ready none l (upV n (2 * (i : Int)) (j + 1))) := by
  obtain ⟨h1, _, _⟩ := up_ok hn hi
  obtain ⟨g1, g2⟩ := h1 j hj
  rw [show ((2 * i : Nat) : Int) = 2 * (i : Int) by omega] at g1 g2
  obtain ⟨g3, g4⟩ := nodeB_lt g1
  have hlt : (upV n (2 * (i : Int)) j).toNat < N := by omega
  unfold okJ at hb
  simp only [Bool.and_eq_true] at hb
  obtain ⟨hx, hub⟩ := hb
  cases hus : (t (upV n (2 * (i : Int)) j).toNat).used with
  | false =>
    exact Tr.cutX (btC_ok false false true true) 60 _ 7 (Nat.le_refl _) (s' := itS N t x i n false .ready none l (parV (upV n (2 * (i : Int)) j) n)) _ (it_un N t x i n l _) (it_un' N t x i n l _) (by
      rw [decide_eq_true g2, inBt g3 (by omega), decide_eq_true hlt, show (t (upV n (2 * (i : Int)) j).toNat).1 = false from hus, g1, hx, decide_eq_true rfl]; rfl)
  | true =>
    rw [hus] at hub
    have hub' : (!!hasB (t (upV n (2 * (i : Int)) j).toNat).un i) = true := by simpa using hub
    exact Tr.cutX (btC_ok false true false true) 60 _ 7 (Nat.le_refl _) (s' := itS N t x i n false .ready none l (parV (upV n (2 * (i : Int)) j) n)) _ (it_has N t x i n l _) (it_has' N t x i n l _) (by
      rw [decide_eq_true g2, inBt g3 (by omega), decide_eq_true hlt, show (t (upV n (2 * (i : Int)) j).toNat).1 = true from hus, g1, hx, decide_eq_true rfl, hub', decide_eq_true (hu _ hlt)]; rfl)
theorem it_first (hn : n ∈ sizes) (hi : i < n) (l : Nat) : ∀ y s', TrL Tryd.prog none (btG N t x i n false .ready none l).length ((atoms ptB).drop 1) (itS N t x i n false .ready none l (upV n (2 * (i : Int)) 0)) y s' →
    TrL Tryd.prog none (btG N t x i n false .ready none l).length (atoms ptB) ⟨slots0 Tryd.f65.ntmps [.fn (.yield l) [] [], .ptr 4 0 0, .ptr 5 0 0], btG N t x i n false .ready none l, true⟩ y s' := fun y s' g => by
  have h := sizes_le hn
  have e := it_head N t x i n l
  have e' := it_head' N t x i n l
  rw [wrapI (by omega) (by omega)] at e e'
  exact TrL.itemsX (btC_ok true true true true) 60 1 _ 7 (Nat.le_refl 7) _ e e' (by have := (up_ok hn hi).2.2; rw [show ((2 * i : Nat) : Int) = 2 * (i : Int) by omega] at this; rw [this]; rfl) (by decide) rfl g
theorem it_all (hn : n ∈ sizes) (hi : i < n) (hN : N = 2 * n - 1) (hu : ∀ k, k < N → (t k).un.length ≤ 274877906944) (l : Nat) (ha : ∀ j, j < lgN n → okJ t x i n j = true) :
    FnTr Tryd.prog 65 [.fn (.yield l) [] [], .ptr 4 0 0, .ptr 5 0 0] (btG N t x i n false .ready none l) (.tup []) (btG N t x i n false .ready none l) := by
  refine FnTr.toEnd (h := btG N t x i n false .ready none l) Tryd.func65 rfl 1 0 (fun j => itS N t x i n false .ready none l (upV n (2 * (i : Int)) j)) (lgN n) (it_first hn hi l) (by decide) (by kernel_rfl)
    (fun j hj => it_step hn hi hN hu l hj (ha j hj)) (sE := itS N t x i n false .ready none l (upV n (2 * (i : Int)) (lgN n))) (s' := itS N t x i n false .ready none l (upV n (2 * (i : Int)) (lgN n))) (x := .normal) (v := []) ?_ ⟨rfl, rfl⟩ (.inr rfl) rfl
  have h1 := (up_ok hn hi).2.1
  rw [show ((2 * i : Nat) : Int) = 2 * (i : Int) by omega] at h1
  exact Tr.cutX (btC_ok false true false false) 60 _ 7 (Nat.le_refl _) _ (it_end N t x i n l _) (it_end' N t x i n l _) (by rw [h1]; rfl)
theorem it_at (hn : n ∈ sizes) (hi : i < n) (hN : N = 2 * n - 1) (hu : ∀ k, k < N → (t k).un.length ≤ 274877906944) (l : Nat) {j : Nat} (hj : j < lgN n) (hb : okJ t x i n j = false) (ha : ∀ k, k < j → okJ t x i n k = true) :
    FnTr Tryd.prog 65 [.fn (.yield l) [] [], .ptr 4 0 0, .ptr 5 0 0] (btG N t x i n false .ready none l) (.tup []) (btG N t x i n (upV n (2 * (i : Int)) j == x) .done (some .ret) l) := by
  obtain ⟨h1, _, _⟩ := up_ok hn hi
  obtain ⟨g1, g2⟩ := h1 j hj
  rw [show ((2 * i : Nat) : Int) = 2 * (i : Int) by omega] at g1 g2
  obtain ⟨g3, g4⟩ := nodeB_lt g1
  have hlt : (upV n (2 * (i : Int)) j).toNat < N := by omega
  refine FnTr.leaveAt (h := btG N t x i n false .ready none l) Tryd.func65 rfl 1 0 (fun j => itS N t x i n false .ready none l (upV n (2 * (i : Int)) j)) j (it_first hn hi l) (by decide) (by kernel_rfl)
    (fun k hk => it_step hn hi hN hu l (by omega) (ha k hk)) (sF := itS N t x i n (upV n (2 * (i : Int)) j == x) .done (some .ret) l (upV n (2 * (i : Int)) j)) (vF := []) ?_ rfl
  unfold okJ at hb
  cases hx : (upV n (2 * (i : Int)) j == x) with
  | true =>
    exact Tr.cutX (btC_ok true true true true) 60 _ 7 (Nat.le_refl _) _ (it_x N t x i n l _) (it_x' N t x i n l _) (by rw [decide_eq_true g2, hx, decide_eq_true rfl]; rfl)
  | false =>
    rw [hx] at hb
    have hb' : (t (upV n (2 * (i : Int)) j).toNat).used = true ∧ hasB (t (upV n (2 * (i : Int)) j).toNat).un i = false := by simpa using hb
    exact Tr.cutX (btC_ok false true true true) 60 _ 7 (Nat.le_refl _) _ (it_no N t x i n l _) (it_no' N t x i n l _) (by
      rw [decide_eq_true g2, inBt g3 (by omega), decide_eq_true hlt, show (t (upV n (2 * (i : Int)) j).toNat).1 = true from hb'.1, hx, decide_eq_true rfl, hb'.2, decide_eq_true (hu _ hlt)]; rfl)
theorem between_fn (hn : n ∈ sizes) (hi : i < n) (hN : N = 2 * n - 1) (hu : ∀ k, k < N → (t k).un.length ≤ 274877906944) :
    FnTr Tryd.prog 64 [.rol false 99 N (tng t), .int .i64 x, .int .i64 i, .int .i64 n] [] (.bool (btwB t x i n)) [] := by
  unfold btwB scanV
  cases hq : firstN (okJ t x i n) (lgN n) with
  | none =>
    have ha := firstN_none hq
    refine FnTr.sel (v := .bool false) (h1 := btH N t x i n false ++ [.gap]) [] ?_ rfl
    refine FnTr.rest (btC_ok true true true true) 60 3 Tryd.func64 rfl (fun s' y h => ?_) (s := ⟨(btS N t x i n).t, btH N t x i n false ++ [.gap], true⟩) (p := true) (by kernel_rfl) rfl
    refine TrL.itemsX (btC_ok true true true true) 60 2 _ 6 (Nat.zero_le _) _ (bt_head N t x i n) (bt_head' N t x i n) rfl (by decide) rfl ?_
    refine TrL.item 2 (by decide) ?_ h
    exact Tr.rangeB 0 (by kernel_rfl) (f := 65) (first := []) (capt := [.ptr 4 0 0, .ptr 5 0 0]) true Tryd.func65 (by decide) rfl (by kernel_rfl) (fun l => it_all hn hi hN hu l ha)
      (fun l => ⟨_, rfl, rfl, by simp [rfL], rfl⟩) (fun l => rfl)
  | some j =>
    obtain ⟨hj, hb, ha⟩ := find_range hq
    refine FnTr.sel (v := .bool (upV n (2 * (i : Int)) j == x)) (h1 := btH N t x i n (upV n (2 * (i : Int)) j == x) ++ [.gap]) [] ?_ rfl
    refine FnTr.mk Tryd.func64 rfl (x := .ret) (s := ⟨(btS N t x i n).t, btH N t x i n (upV n (2 * (i : Int)) j == x) ++ [.gap], true⟩) (vs := [.bool (upV n (2 * (i : Int)) j == x)]) ?_ (.inl rfl) (by kernel_rfl)
    refine TrL.itemsX (btC_ok true true true true) 60 2 _ 6 (Nat.zero_le _) _ (bt_head N t x i n) (bt_head' N t x i n) rfl (by decide) rfl ?_
    refine TrL.leave 2 (by decide) (by simp) ?_
    show Tr Tryd.prog none 0 (.block 0 (inner (nthC 2 btB))) _ _ _
    refine Tr.block_pass ?_ (by simp)
    exact Tr.range (q := some .ret) true Tryd.func65 (by decide) rfl (by kernel_rfl) (first := []) (fun l => it_at hn hi hN hu l hj hb ha)
      (fun l => ⟨_, rfl, rfl, by simp [rfL], rfl⟩) (fun l => rfl) rfl
end
end Go.Proofs.YtkcmlclomcidiaaDoor.Tr
