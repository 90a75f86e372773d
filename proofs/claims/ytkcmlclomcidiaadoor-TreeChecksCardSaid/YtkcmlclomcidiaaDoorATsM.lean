/- This file proves the law TreeChecks. Conditions: those of its data. -/
import Derived.Test.YtkcmlclomcidiaaDoorATsL
set_option linter.all false
set_option maxRecDepth 100000
namespace Go.Proofs.YtkcmlclomcidiaaDoor.Tr
open Go Go.Sy
noncomputable def aliveE : Entry Tryd.prog := .val 9 _ Tryd.func9 (by decide) rfl false 0 (fun vs => match vs with
  | [] => some (.bool true, [], true)
  | _ => none) fun vs v new e => by
  split at e
  · simp only [Option.some.injEq, Prod.mk.injEq] at e
    obtain ⟨rfl, rfl, _⟩ := e
    exact alive_fn
  · cases e
def okNod0 : List SV → Bool
  | [.bool _, .int .i64 _, .ints .u8 32 k, .ints .u8 32 s, .ints .u8 32 p, .ro false .i64 _] => decide (k.length = 32) && decide (s.length = 32) && decide (p.length = 32)
  | _ => false
def okT0 (N : Nat) (g : Nat → List SV) : Bool := (List.range N).all fun i => okNod0 (g i)
theorem okNod0_eq {l : List SV} (h : okNod0 l = true) : l = (nodOf l).cells := by
  unfold okNod0 at h
  split at h
  · rfl
  · cases h
theorem okT0_up {N : Nat} {t : Nat → Nod} (h : okT0 N (tng t) = true) (hl : ∀ i, i < N → (t i).un.length ≤ 274877906944) : okT N (tng t) = true := okT_iff.2 fun i hi => by
  have := List.all_eq_true.1 h i (List.mem_range.2 hi)
  have q : (decide ((t i).key.length = 32) && decide ((t i).sign.length = 32) && decide ((t i).par.length = 32)) = true := this
  simp only [Bool.and_eq_true, decide_eq_true_eq] at q
  exact ⟨rfl, hl i hi, q.1.1, q.1.2, q.2⟩
noncomputable def largeE : Entry Tryd.prog := .val 10 _ Tryd.func10 (by decide) rfl true 0 (fun vs => match vs with
  | [.rol false 99 N g] => some (.bool (largeB N (treeOf g)), [], okT0 N g)
  | _ => none) fun vs v new e => by
  split at e
  · rename_i N g
    simp only [Option.some.injEq, Prod.mk.injEq] at e
    obtain ⟨rfl, rfl, h1⟩ := e
    exact FnTr.conv (large_fn (t := treeOf g)) ⟨VE.rolc fun i hi => okNod0_eq (List.all_eq_true.1 h1 i (List.mem_range.2 hi)), trivial⟩ trivial (VE.refl _) trivial
  · cases e
noncomputable def goodE (b : Bool) : Entry Tryd.prog := .val 11 _ Tryd.func11 (by decide) rfl true 0 (fun vs => match vs with
  | [.rol false 99 N g] => some (.bool b, [], okT N g && decide (N ≤ 71) && (goodQ N (treeOf g) == b))
  | _ => none) fun vs v new e => by
  split at e
  · simp only [Option.some.injEq, Prod.mk.injEq, Bool.and_eq_true, decide_eq_true_eq, beq_iff_eq] at e
    obtain ⟨rfl, rfl, ⟨h1, h2⟩, h3⟩ := e
    rw [← h3]
    exact FnTr.conv (good_fn (TOK.of h1 h2)) ⟨VE.tree h1, trivial⟩ trivial (VE.refl _) trivial
  · cases e
noncomputable def rSameE : Entry Tryd.prog := .val 16 _ Tryd.func16 (by decide) rfl true 0 (fun vs => match vs with
  | [.rol false 99 N g, .rol false 99 M g'] => some (.bool (treeB N M (treeOf g) (treeOf g')), [], okT N g && okT M g' && decide (N ≤ 71) && decide (M ≤ 71))
  | _ => none) fun vs v new e => by
  split at e
  · simp only [Option.some.injEq, Prod.mk.injEq, Bool.and_eq_true, decide_eq_true_eq] at e
    obtain ⟨rfl, rfl, ⟨⟨h1, h2⟩, h3⟩, h4⟩ := e
    exact FnTr.conv (rSame_fn (t := treeOf _) (u := treeOf _) (by omega) (TOK.of h1 h3).parts (TOK.of h2 h4).parts) ⟨VE.tree h1, VE.tree h2, trivial⟩ trivial (VE.refl _) trivial
  · cases e
noncomputable def copyRE : Entry Tryd.prog := .val 15 _ Tryd.func15 (by decide) rfl true 0 (fun vs => match vs with
  | [.rol false 99 N g] => some (.rol true 99 N (tng (treeOf g)), [], okT N g && decide (N ≤ 71))
  | _ => none) fun vs v new e => by
  split at e
  · simp only [Option.some.injEq, Prod.mk.injEq, Bool.and_eq_true, decide_eq_true_eq] at e
    obtain ⟨rfl, rfl, h1, h2⟩ := e
    exact FnTr.conv (copyR_fn (TOK.of h1 h2)) ⟨VE.tree h1, trivial⟩ trivial (VE.refl _) trivial
  · cases e
noncomputable def rFindE : Entry Tryd.prog := .val 23 _ Tryd.func23 (by decide) rfl true 0 (fun vs => match vs with
  | [.rol false 99 N g, .int .i64 nm] => some (.int .i64 (findV N (treeOf g) nm), [], okT N g && decide (N ≤ 71))
  | _ => none) fun vs v new e => by
  split at e
  · simp only [Option.some.injEq, Prod.mk.injEq, Bool.and_eq_true, decide_eq_true_eq] at e
    obtain ⟨rfl, rfl, h1, h2⟩ := e
    exact FnTr.conv (refFind_fn (t := treeOf _) h2) ⟨VE.tree h1, VE.refl _, trivial⟩ trivial (VE.refl _) trivial
  · cases e
noncomputable def tcInl : List (FuncId × Func) := [(21, Tryd.f21), (28, Tryd.f28), (22, Tryd.f22)]
theorem tcInl_ok : InlOK Tryd.prog tcInl := InlOK.cons Tryd.func21 (by decide) (InlOK.cons Tryd.func28 (by decide) (InlOK.cons Tryd.func22 (by decide) InlOK.nil))
noncomputable def tcC (b : Bool) (l : List (Nat × Bool)) : Ctr := mk (P := Tryd.prog) [aliveE, largeE, checkE b, goodE b, equalFE, rSameE, copyRE, findE, rFindE] tcInl (uT l)
theorem tcC_ok (b : Bool) (l : List (Nat × Bool)) : CtrSound Tryd.prog (tcC b l) := mk_sound _ tcInl_ok _ _
theorem tc_a (N M : Nat) (t u : Nat → Nod) (nm : Int) : (callS Tryd.prog (tcC true [(13, true)]) 60 Tryd.f5 [.rol false 99 N (tng t), .rol false 99 M (tng u), .int .i64 nm] []).map (fun x => (x.1, x.2.2)) = some (.bool true, andT (andT true (andT true (okT0 N fun i => coolL (tng t i)))) (largeB N (treeOf fun i => coolL (tng t i)))) := by kernel_rfl
theorem tc_b (N M : Nat) (t u : Nat → Nod) (nm : Int) : (callS Tryd.prog (tcC true [(13, false), (16, true)]) 60 Tryd.f5 [.rol false 99 N (tng t), .rol false 99 M (tng u), .int .i64 nm] []).map (fun x => (x.1, x.2.2)) = some (.bool true, andT (andT (andT (andT true (andT true (okT0 N fun i => coolL (tng t i)))) !largeB N (treeOf fun i => coolL (tng t i))) (andT true (okT0 M fun i => coolL (tng u i)))) (largeB M (treeOf fun i => coolL (tng u i)))) := by kernel_rfl
theorem tc_c (N M : Nat) (t u : Nat → Nod) (nm : Int) : (callS Tryd.prog (tcC true [(13, false), (16, false), (42, false), (48, true)]) 60 Tryd.f5 [.rol false 99 N (tng t), .rol false 99 M (tng u), .int .i64 nm] []).map (fun x => (x.1, x.2.2)) = some (.bool ((bif checkB N t then findV N t nm else -1) == findV N t nm), andT (andT (andT (andT (andT (andT (andT (andT (andT (andT (andT (andT (andT (andT true (andT true (okT0 N fun i => coolL (tng t i)))) !largeB N (treeOf fun i => coolL (tng t i))) (andT true (okT0 M fun i => coolL (tng u i)))) !largeB M (treeOf fun i => coolL (tng u i))) (andT true ((okT N fun i => coolL (tng t i)) && decide (N ≤ 71) && checkB N (treeOf fun i => coolL (tng t i)) == true))) (andT true ((okT N fun i => coolL (tng t i)) && decide (N ≤ 71) && goodQ N (treeOf fun i => coolL (tng t i)) == true))) (andT true (andT true (((okT N fun i => coolL (tng t i)) && okT M fun i => coolL (tng u i)) && decide (N ≤ 71) && decide (M ≤ 71) && true)))) (andT true (((okT N fun i => coolL (tng t i)) && okT M fun i => coolL (tng u i)) && decide (N ≤ 71) && decide (M ≤ 71)))) !!treeB N M (treeOf fun i => coolL (tng t i)) (treeOf fun i => coolL (tng u i)) == treeB N M (treeOf fun i => coolL (tng t i)) (treeOf fun i => coolL (tng u i))) (andT true ((okT N fun i => coolL (tng t i)) && decide (N ≤ 71)))) (andT true (andT true (((okT N fun i => coolL (tng t i)) && okT N fun i => coolL (tng (treeOf fun i => coolL (tng t i)) i)) && decide (N ≤ 71) && decide (N ≤ 71) && true)))) (treeB N N (treeOf fun i => coolL (tng t i)) (treeOf fun i => coolL (tng (treeOf fun i => coolL (tng t i)) i)))) (andT true ((okT N fun i => coolL (tng t i)) && decide (N ≤ 71)))) (andT true ((okT N fun i => coolL (tng t i)) && decide (N ≤ 71)))) := by kernel_rfl
theorem tc_d (N M : Nat) (t u : Nat → Nod) (nm : Int) : (callS Tryd.prog (tcC false [(13, false), (16, false), (42, false), (48, true)]) 60 Tryd.f5 [.rol false 99 N (tng t), .rol false 99 M (tng u), .int .i64 nm] []).map (fun x => (x.1, x.2.2)) = some (.bool ((bif checkB N t then findV N t nm else -1) == -1), andT (andT (andT (andT (andT (andT (andT (andT (andT (andT (andT (andT (andT true (andT true (okT0 N fun i => coolL (tng t i)))) !largeB N (treeOf fun i => coolL (tng t i))) (andT true (okT0 M fun i => coolL (tng u i)))) !largeB M (treeOf fun i => coolL (tng u i))) (andT true ((okT N fun i => coolL (tng t i)) && decide (N ≤ 71) && checkB N (treeOf fun i => coolL (tng t i)) == false))) (andT true ((okT N fun i => coolL (tng t i)) && decide (N ≤ 71) && goodQ N (treeOf fun i => coolL (tng t i)) == false))) (andT true (andT true (((okT N fun i => coolL (tng t i)) && okT M fun i => coolL (tng u i)) && decide (N ≤ 71) && decide (M ≤ 71) && true)))) (andT true (((okT N fun i => coolL (tng t i)) && okT M fun i => coolL (tng u i)) && decide (N ≤ 71) && decide (M ≤ 71)))) !!treeB N M (treeOf fun i => coolL (tng t i)) (treeOf fun i => coolL (tng u i)) == treeB N M (treeOf fun i => coolL (tng t i)) (treeOf fun i => coolL (tng u i))) (andT true ((okT N fun i => coolL (tng t i)) && decide (N ≤ 71)))) (andT true (andT true (((okT N fun i => coolL (tng t i)) && okT N fun i => coolL (tng (treeOf fun i => coolL (tng t i)) i)) && decide (N ≤ 71) && decide (N ≤ 71) && true)))) (treeB N N (treeOf fun i => coolL (tng t i)) (treeOf fun i => coolL (tng (treeOf fun i => coolL (tng t i)) i)))) (andT true ((okT N fun i => coolL (tng t i)) && decide (N ≤ 71)))) := by kernel_rfl
end Go.Proofs.YtkcmlclomcidiaaDoor.Tr
