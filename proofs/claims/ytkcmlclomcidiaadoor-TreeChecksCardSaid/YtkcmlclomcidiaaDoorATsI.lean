/- This file proves the contracts of the reference's Same and of tree's Same, and gives Copy as a slice that nobody writes. Conditions: a tree of 71 nodes at most. -/
import Derived.Test.YtkcmlclomcidiaaDoorATsH
set_option linter.all false
set_option maxRecDepth 100000
namespace Go.Proofs.YtkcmlclomcidiaaDoor.Tr
open Go Go.Sy
noncomputable def rsC (l : List (Nat × Bool)) : Ctr := mk (P := Tryd.prog) [sameNodeE] [] (uT l)
theorem rsC_ok (l : List (Nat × Bool)) : CtrSound Tryd.prog (rsC l) := mk_sound _ InlOK.nil _ _
noncomputable def rsBd : Code := bodyOf Tryd.f16
noncomputable def rsS (N M : Nat) (t u : Nat → Nod) (i : Int) : St := ⟨slotsOf 27 [(0, .rol false 99 N (tng t)), (1, .rol false 99 M (tng u)), (5, .int .i64 i)], [], true⟩
theorem rs_n (N M : Nat) (t u : Nat → Nod) : (callS Tryd.prog (rsC [(10, true)]) 60 Tryd.f16 [.rol false 99 N (tng t), .rol false 99 M (tng u)] []).map (fun x => (x.1, x.2.2)) = some (.bool false, andT true (((N : Nat) : Int) != ((M : Nat) : Int))) := by kernel_rfl
theorem rs_head (N M : Nat) (t u : Nat → Nod) : resX (cutR [0, 1, 5] 0 ((execL Tryd.prog (rsC [(10, false)]) 60 0 4 (atoms rsBd) ⟨slots0 Tryd.f16.ntmps [.rol false 99 N (tng t), .rol false 99 M (tng u)], [], true⟩).map fun s => (Exit.normal, s))) = some (.normal, (rsS N M t u 0).t, []) := by kernel_rfl
theorem rs_head' (N M : Nat) (t u : Nat → Nod) : obX (cutR [0, 1, 5] 0 ((execL Tryd.prog (rsC [(10, false)]) 60 0 4 (atoms rsBd) ⟨slots0 Tryd.f16.ntmps [.rol false 99 N (tng t), .rol false 99 M (tng u)], [], true⟩).map fun s => (Exit.normal, s))) = (andT true !((N : Nat) : Int) != ((M : Nat) : Int)) := by kernel_rfl
theorem rs_go (N M : Nat) (t u : Nat → Nod) (i : Int) : resX (cutR [0, 1, 5] 0 (exec Tryd.prog (rsC [(14, true), (26, false)]) 60 0 (inner (inner (nthC 4 rsBd))) (rsS N M t u i))) = some (.normal, (rsS N M t u (IntKind.i64.wrap (i + 1))).t, []) := by kernel_rfl
theorem rs_go' (N M : Nat) (t u : Nat → Nod) (i : Int) : obX (cutR [0, 1, 5] 0 (exec Tryd.prog (rsC [(14, true), (26, false)]) 60 0 (inner (inner (nthC 4 rsBd))) (rsS N M t u i))) = (andT (andT (andT (andT (andT (andT (andT true (decide (i < ((N : Nat) : Int)))) (inB i N)) (true && (decide (i.toNat < N) && true))) (inB i M)) (true && (decide (i.toNat < M) && true))) (andT true (nodLen { used := (t i.toNat).used, name := (t i.toNat).name, key := (t i.toNat).key, sign := (t i.toNat).sign, par := (t i.toNat).par, un := (t i.toNat).un } && nodLen { used := (u i.toNat).used, name := (u i.toNat).name, key := (u i.toNat).key, sign := (u i.toNat).sign, par := (u i.toNat).par, un := (u i.toNat).un }))) !!nsB { used := (t i.toNat).used, name := (t i.toNat).name, key := (t i.toNat).key, sign := (t i.toNat).sign, par := (t i.toNat).par, un := (t i.toNat).un } { used := (u i.toNat).used, name := (u i.toNat).name, key := (u i.toNat).key, sign := (u i.toNat).sign, par := (u i.toNat).par, un := (u i.toNat).un }) := by kernel_rfl
theorem rs_no (N M : Nat) (t u : Nat → Nod) (i : Int) : resX (cutR [4] 0 (exec Tryd.prog (rsC [(14, true), (26, true)]) 60 0 (inner (inner (nthC 4 rsBd))) (rsS N M t u i))) = some (.ret, (bS 27 4 false).t, []) := by kernel_rfl
theorem rs_no' (N M : Nat) (t u : Nat → Nod) (i : Int) : obX (cutR [4] 0 (exec Tryd.prog (rsC [(14, true), (26, true)]) 60 0 (inner (inner (nthC 4 rsBd))) (rsS N M t u i))) = (andT (andT (andT (andT (andT (andT (andT true (decide (i < ((N : Nat) : Int)))) (inB i N)) (true && (decide (i.toNat < N) && true))) (inB i M)) (true && (decide (i.toNat < M) && true))) (andT true (nodLen { used := (t i.toNat).used, name := (t i.toNat).name, key := (t i.toNat).key, sign := (t i.toNat).sign, par := (t i.toNat).par, un := (t i.toNat).un } && nodLen { used := (u i.toNat).used, name := (u i.toNat).name, key := (u i.toNat).key, sign := (u i.toNat).sign, par := (u i.toNat).par, un := (u i.toNat).un }))) !nsB { used := (t i.toNat).used, name := (t i.toNat).name, key := (t i.toNat).key, sign := (t i.toNat).sign, par := (t i.toNat).par, un := (t i.toNat).un } { used := (u i.toNat).used, name := (u i.toNat).name, key := (u i.toNat).key, sign := (u i.toNat).sign, par := (u i.toNat).par, un := (u i.toNat).un }) := by kernel_rfl
theorem rs_end (N M : Nat) (t u : Nat → Nod) (i : Int) : resX (cutR [] 0 (exec Tryd.prog (rsC [(14, false)]) 60 0 (inner (inner (nthC 4 rsBd))) (rsS N M t u i))) = some (.exit 0, slotsOf 27 [], []) := by kernel_rfl
theorem rs_end' (N M : Nat) (t u : Nat → Nod) (i : Int) : obX (cutR [] 0 (exec Tryd.prog (rsC [(14, false)]) 60 0 (inner (inner (nthC 4 rsBd))) (rsS N M t u i))) = (andT true !decide (i < ((N : Nat) : Int))) := by kernel_rfl
section
variable {N M : Nat} {t u : Nat → Nod}
theorem rSame_fn (h : N ≤ 274877906944) (hT : PARTS N t) (hU : PARTS M u) : FnTr Tryd.prog 16 [.rol false 99 N (tng t), .rol false 99 M (tng u)] [] (.bool (treeB N M t u)) [] := by
  unfold treeB
  cases h0 : ((N : Int) != (M : Int)) with
  | true => exact call0 (rsC_ok [(10, true)]) 60 Tryd.func16 (rs_n N M t u) (by rw [h0]; rfl) rfl
  | false =>
    have hNM : N = M := by
      have : ((N : Int) == (M : Int)) = true := by simpa [bne] using h0
      have := eq_of_beq this
      omega
    subst hNM
    have key := FnTr.scan (P := Tryd.prog) (args := [.rol false 99 N (tng t), .rol false 99 N (tng u)]) (h := []) (h' := []) Tryd.func16 rfl 4 0 (fun j : Nat => rsS N N t u ((j : Nat) : Int)) (fun i => nsB (t i) (u i)) N
      (fun x s' g => TrL.itemsX (rsC_ok [(10, false)]) 60 4 _ 0 (by simp) (s1 := rsS N N t u ((0 : Nat) : Int)) _ (rs_head N N t u) (rs_head' N N t u) (by rw [h0]; rfl) (by decide) rfl g) (by decide) (by kernel_rfl)
      (fun j hj hb _ => ?_) (fun i => bS 27 4 false) (fun i => [.bool false]) (fun j hj hb _ => ⟨?_, rfl, rfl⟩) (sE := ⟨slotsOf 27 [], [], true⟩) (sE' := bS 27 4 true) (vE := [.bool true]) (xE := .ret) (fun _ => ?_) (fun _ => ⟨?_, .inl rfl, rfl, rfl⟩)
    · rw [oneOf_scan (g := SV.bool) (vF := fun _ : Nat => false) (vE := true)] at key
      exact key
    · have e := rs_go N N t u j
      rw [wrapS (by omega)] at e
      exact Tr.cutX (rsC_ok [(14, true), (26, false)]) 60 _ 0 (Nat.le_refl _) (s' := rsS N N t u ((j + 1 : Nat) : Int)) _ e (rs_go' N N t u j) (by
        rw [Int.toNat_natCast, ltN hj, inBN hj, decide_eq_true hj, show nodLen (t j) = true from hT j hj, show nodLen (u j) = true from hU j hj, show nsB (t j) (u j) = true from hb]; rfl)
    · exact Tr.cutX (rsC_ok [(14, true), (26, true)]) 60 _ 0 (Nat.le_refl _) (s' := bS 27 4 false) _ (rs_no N N t u j) (rs_no' N N t u j) (by
        rw [Int.toNat_natCast, ltN hj, inBN hj, decide_eq_true hj, show nodLen (t j) = true from hT j hj, show nodLen (u j) = true from hU j hj, show nsB (t j) (u j) = false from hb]; rfl)
    · exact Tr.cutX (rsC_ok [(14, false)]) 60 _ 0 (Nat.le_refl _) (s' := ⟨slotsOf 27 [], [], true⟩) _ (rs_end N N t u _) (rs_end' N N t u _) (by rw [nltN (Nat.le_refl _)]; rfl)
    · exact TrL.rest (rsC_ok []) 60 (by kernel_rfl) rfl
theorem TOK.parts (h : TOK N t) : PARTS N t := fun _ hi => nat_parts h hi
theorem copyR_fn (hT : TOK N t) : FnTr Tryd.prog 15 [.rol false 99 N (tng t)] [] (.rol true 99 N (tng t)) [] :=
  FnTr.frozenN (Nat.le_refl _) (fun _ _ x _ _ H hv => H x hv) (copy_fn hT)
end
noncomputable def equalFE : Entry Tryd.prog := .mut 52 _ Tryd.func52 (by decide) rfl (fun _ _ => []) 0 (fun vs h0 => match vs, h0 with
  | [.rol false 99 N g, .rol false 99 M g', .fn (.func f) [] []], [] => some (.bool (treeB N M (treeOf g) (treeOf g')), [], okT N g && okT M g' && decide (N ≤ 71) && decide (M ≤ 71) && decide (f = 44))
  | _, _ => none) fun vs h0 v new e => by
  split at e
  · simp only [Option.some.injEq, Prod.mk.injEq, Bool.and_eq_true, decide_eq_true_eq] at e
    obtain ⟨rfl, rfl, ⟨⟨⟨h1, h2⟩, h3⟩, h4⟩, rfl⟩ := e
    exact FnTr.conv (equalF_fn (t := treeOf _) (u := treeOf _) (by omega) (TOK.of h1 h3).parts (TOK.of h2 h4).parts) ⟨VE.tree h1, VE.tree h2, VE.refl _, trivial⟩ trivial (VE.refl _) trivial
  · cases e
end Go.Proofs.YtkcmlclomcidiaaDoor.Tr
