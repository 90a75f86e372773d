/- This file proves the contracts of a state's Hide and Show, with and without a key, and of the laws' bound on scripts. Conditions: numbers that aren't used up; lengths that the program takes. -/
import Derived.Test.YtkoohnpknhoahaaKCpD
import Derived.Test.YtkoohnpknhoahaaKShG
set_option linter.all false
namespace Go.Proofs.Ytkoohnpknhoahaa.Cp
open Go Go.Sy Sh
section
variable (key ch ha text : List Int) (n : Int)
end
def opg (k n : Nat → Int) (t : Nat → List Int) : Nat → List SV := fun i => [.int .i64 (k i), .ro false .u8 (t i), .int .i64 (n i)]
noncomputable def lgB : Code := bodyOf Try.f20
noncomputable def lgC (a b c : Bool) : Ctr := mk (P := Try.prog) [] [] fun i => if i = 8 then some a else if i = 14 then some b else if i = 19 then some c else none
theorem lgC_ok (a b c : Bool) : CtrSound Try.prog (lgC a b c) := mk_sound _ InlOK.nil _ _
noncomputable def lgS (k n : Nat → Int) (t : Nat → List Int) (N : Nat) (i : Int) : St := ⟨slotsOf 21 [(2, .bool false), (5, .rol false 3 N (opg k n t)), (6, .int .i64 N), (7, .int .i64 i)], [], true⟩
noncomputable def lgR : St := ⟨slotsOf 21 [(2, .bool true)], [], true⟩
def lgO (N : Nat) (i : Int) : Bool := andT (andT (andT true (decide (i < (N : Int)))) (inB i N)) (true && (decide (i.toNat < N) && true))
section
variable (k n : Nat → Int) (t : Nat → List Int) (N : Nat) (i : Int)
set_option maxRecDepth 100000 in
theorem lg_head : (execL Try.prog (lgC true false false) 60 0 2 (atoms lgB) ⟨slots0 Try.f20.ntmps [.rol false 3 N (opg k n t)], [], true⟩).bind (St.cut [2, 5, 6, 7] 0) = some (lgS k n t N 0) := by kernel_rfl
set_option maxRecDepth 100000 in
theorem lg_one : (exec Try.prog (lgC true false false) 60 0 (inner (inner (nthC 2 lgB))) (lgS k n t N i)).bind (fun r => (r.2.cut [2, 5, 6, 7] 0).map fun q => (r.1, q)) =
    some (.normal, { lgS k n t N (IntKind.i64.wrap (i + 1)) with ob := andT (andT (lgO N i) (!decide (i > 60))) (!decide (((t i.toNat).length : Int) > 500)) }) := by kernel_rfl
set_option maxRecDepth 100000 in
theorem lg_out1 : (exec Try.prog (lgC true true true) 60 0 (inner (inner (nthC 2 lgB))) (lgS k n t N i)).bind (fun r => (r.2.cut [2] 0).map fun q => (r.1, q)) =
    some (.ret, { lgR with ob := andT (lgO N i) (decide (i > 60)) }) := by kernel_rfl
set_option maxRecDepth 100000 in
theorem lg_out2 : (exec Try.prog (lgC true false true) 60 0 (inner (inner (nthC 2 lgB))) (lgS k n t N i)).bind (fun r => (r.2.cut [2] 0).map fun q => (r.1, q)) =
    some (.ret, { lgR with ob := andT (andT (lgO N i) (!decide (i > 60))) (decide (((t i.toNat).length : Int) > 500)) }) := by kernel_rfl
set_option maxRecDepth 100000 in
theorem lg_end : (exec Try.prog (lgC false false true) 60 0 (inner (inner (nthC 2 lgB))) (lgS k n t N i)).bind (fun r => (r.2.cut [2] 0).map fun q => (r.1, q)) =
    some (.exit 0, { t := slotsOf 21 [(2, .bool false)], h := [], ob := andT true (!decide (i < (N : Int))) }) := by kernel_rfl
end
def badP (t : Nat → List Int) (i : Nat) : Prop := 60 < i ∨ 500 < (t i).length
instance (t : Nat → List Int) : DecidablePred (badP t) := fun _ => by unfold badP; infer_instance
noncomputable def lgW (N : Nat) (t : Nat → List Int) : Bool := @decide (∃ i, i < N ∧ badP t i) (Classical.propDecidable _)
theorem lgO_true {N i : Nat} (h : i < N) : lgO N i = true := by
  unfold lgO
  rw [decide_eq_true (show (i : Int) < N by omega), inB_true (by omega) (by omega), decide_eq_true (show ((i : Int)).toNat < N by omega)]
  rfl
theorem lg_step {k n : Nat → Int} {t : Nat → List Int} {N j : Nat} (hj : j < N) (hb : ¬ badP t j) : Tr Try.prog none 0 (inner (inner (nthC 2 lgB))) (lgS k n t N j) .normal (lgS k n t N ((j + 1 : Nat) : Int)) := by
  have hb' : ¬ (60 < j) ∧ ¬ (500 < (t j).length) := not_or.1 hb
  have e := lg_one k n t N j
  rw [Int.toNat_natCast, wrap_i64 _ (by omega) (by omega), lgO_true hj, decide_eq_false (show ¬ ((j : Int) > 60) by omega), decide_eq_false (show ¬ (((t j).length : Int) > 500) by omega)] at e
  exact Tr.post (Tr.cut (lgC_ok true false false) 60 _ 0 (by omega) e rfl) (Ent.same rfl rfl)
theorem large_fn (k n : Nat → Int) (t : Nat → List Int) (N : Nat) : FnTr Try.prog 20 [.rol false 3 N (opg k n t)] [] (.bool (lgW N t)) [] := by
  by_cases hx : ∃ i, i < N ∧ badP t i
  · have hw : lgW N t = true := by unfold lgW; exact @decide_eq_true _ (Classical.propDecidable _) hx
    rw [hw]
    have hx' : ∃ i, i < N ∧ badP t i ∧ ∀ j, j < i → ¬ badP t j := by
      obtain ⟨i, h1, h2⟩ := hx
      induction i using Nat.strongRecOn with
      | ind i ih =>
        by_cases q : ∃ j, j < i ∧ badP t j
        · obtain ⟨j, hj, hb⟩ := q
          exact ih j hj (by omega) hb
        · exact ⟨i, h1, h2, fun j hj hb => q ⟨j, hj, hb⟩⟩
    obtain ⟨i, h1, h2, h3⟩ := hx'
    refine FnTr.mk Try.func20 rfl (x := .ret) (s := lgR) (vs := [.bool true]) ?_ (.inl rfl) rfl
    refine TrL.items (lgC_ok true false false) 60 2 _ 0 (by simp) (lg_head k n t N) rfl (by decide) ?_
    refine TrL.leave 2 (by decide) (by simp) (Tr.loopRet 0 (by kernel_rfl) (TrR.for (by simp) (fun j : Nat => lgS k n t N j) i (fun j hj => lg_step (by omega) (h3 j hj)) ?_))
    by_cases h60 : 60 < i
    · have e := lg_out1 k n t N i
      rw [lgO_true h1, decide_eq_true (show (i : Int) > 60 by omega)] at e
      exact Tr.cut (k := 0) (lgC_ok true true true) 60 _ 0 (Nat.le_refl _) e rfl
    · have h5 : 500 < (t i).length := h2.resolve_left h60
      have e := lg_out2 k n t N i
      rw [lgO_true h1, decide_eq_false (show ¬ ((i : Int) > 60) by omega), Int.toNat_natCast, decide_eq_true (show ((t i).length : Int) > 500 by omega)] at e
      exact Tr.cut (k := 0) (lgC_ok true false true) 60 _ 0 (Nat.le_refl _) e rfl
  · have hw : lgW N t = false := by unfold lgW; exact @decide_eq_false _ (Classical.propDecidable _) hx
    rw [hw]
    refine FnTr.mk Try.func20 rfl (x := .ret) (s := ⟨slotsOf 21 [(2, .bool false)], [], true⟩) (vs := [.bool false]) ?_ (.inl rfl) rfl
    refine TrL.items (lgC_ok true false false) 60 2 _ 0 (by simp) (lg_head k n t N) rfl (by decide) ?_
    refine TrL.item 2 (by decide) (s1 := ⟨slotsOf 21 [(2, .bool false)], [], true⟩) (Tr.loop 0 (by kernel_rfl) (fun j : Nat => lgS k n t N j) N (fun j hj => lg_step hj fun hb => hx ⟨j, hj, hb⟩) ?_) ?_
    · have e := lg_end k n t N N
      rw [decide_eq_false (show ¬ ((N : Int) < N) by omega)] at e
      exact Tr.cut (k := 0) (lgC_ok false false true) 60 _ 0 (Nat.le_refl _) e rfl
    · exact TrL.rest (lgC_ok true false false) 60 (by kernel_rfl) rfl
end Go.Proofs.Ytkoohnpknhoahaa.Cp
