/- This file proves the row SignVerifies: whatever comes in, the law SignVerifies returns true. No conditions. -/
import Derived.Test.YtkoohnpknhoahaaRows
import Derived.Test.YtkoohnpknhoahaaTSgH
import Derived.Test.YtkoohnpknhoahaaTSgR
import Derived.WalkKit
import Derived.ProofKit
import Derived.OpenShut
import Derived.ShutString
import Derived.ChangeOld
import Derived.Below
set_option linter.all false
namespace Go.Proofs.Ytkoohnpknhoahaa.signVerifies
open Go
open Go.ChangeShapes Go.WideShapes Go.ChangeAt Go.RowKit
set_option linter.unusedVariables false
theorem own : ownKnob Try.prog.godebug = none := by kernel_rfl
theorem laidOut : laidOutB Try.prog = true := by kernel_rfl
theorem has_key {zs : List Int} (l : zs.length = 32) (h : ∀ z ∈ zs, IntKind.u8.has z) : Re.keyOK zs = true := by
  refine Re.keyOK_iff.2 ⟨l, ?_⟩
  rw [List.all_eq_true]
  intro z hz
  have := h z hz
  rw [Fe.u8_iff]
  simp [IntKind.has, IntKind.min, IntKind.max, IntKind.signed, IntKind.bits] at this
  omega
theorem has_signed {bs zt : List Int} (l : bs.length = 96) (h : ∀ z ∈ bs, 0 ≤ z ∧ z < 256) (ht : ∀ z ∈ zt, 0 ≤ z ∧ z < 256) : Re.keyOK (bs.take 32) = true ∧ ((bs.drop 32).length = 64 ∧ ∀ z ∈ bs.drop 32, 0 ≤ z ∧ z < 256) ∧ ∀ z ∈ zt, 0 ≤ z ∧ z < 256 := by
  refine ⟨Re.keyOK_iff.2 ⟨by simp [l], ?_⟩, ⟨by simp [l], fun z hz => h z (List.mem_of_mem_drop hz)⟩, ht⟩
  rw [List.all_eq_true]
  intro z hz
  rw [Fe.u8_iff]
  exact h z (List.mem_of_mem_take hz)
theorem walk {a0 a0g a0t : List Int} (ha0 : Re.keyOK a0 = true ∧ (a0g.length = 64 ∧ ∀ z ∈ a0g, 0 ≤ z ∧ z < 256) ∧ ∀ z ∈ a0t, 0 ≤ z ∧ z < 256) (w : World) {a0y : Value} (hya0 : Sy.VR (Sy.env0 (Sy.allZ w) w.heap.size) (.agg [.ints .u8 32 a0, .ints .u8 64 a0g, .ro false .u8 a0t]) a0y) :
    Calls Try.prog 4 #[a0y] w fun e w' => e = .returned (.bool true) ∧ Below w.heap.size w w' :=
  Sy.FnTr.below (Sg.verifies_all ha0) ⟨_, _, hya0, rfl, rfl⟩
set_option maxRecDepth 100000 in
theorem lifted (os : Os) (started : os.Started) (H : Type) (enc : TypeId × Value → H) :
    ReturnsInHanded {} Try.checked os 4 .any (Rows.signVerifiesSpec.pre6 enc Try.prog Try.f4 Rows.signVerifiesRow.domain false) (Rows.signVerifiesSpec.post enc Try.prog Try.f4 false true false false) := by
  refine returnsInHanded_of_change (C := Try.checked) own started (by kernel_rfl) Try.func4
    (ChangeSpec.witness6 (enc := enc) (C := Try.checked) false ⟨#[], #[.agg (Array.replicate 96 (.int .u8 0) ++ #[.slice none 0 0])], []⟩ 8 (by kernel_rfl) (by kernel_rfl) (by kernel_rfl) (by kernel_rfl)) ?_
  intro W base args ds gs before hval0 hW hcnd _
  have hval : ∀ (j : Nat) t v, Try.f4.params[j]? = some t → args[j]? = some v → Value.okWide Try.prog W .any base t v := hval0
  have hW' := hW
  obtain ⟨p, q, hA0, hV, rfl, hfz, hnd⟩ := hW
  have hA : DataW.TrodAll enc Try.prog W 0 (fun _ => true) true Try.f4.params.toList args.toList ds p := hA0
  rw [Try.params4] at hA hval
  obtain ⟨v0, vs0, d0, ds0, p0, q0, hargs0, rfl, rfl, h0, r0⟩ := trodAll_cons hA
  obtain ⟨rfl, rfl, rfl⟩ := trodAll_nil r0
  obtain rfl : args = #[v0] := by cases args; simp_all
  obtain ⟨rfl, rfl⟩ := trodVars_none hV
  obtain ⟨zs0, zt0, yv0, rfl, l0, b0, y0, bt0⟩ := Sy.open_tail (P := Try.prog) (m := W.heap.size) (t := 31) (e := 5) (i := 2) (n := 96) Try.underlying31 rfl rfl (by kernel_rfl) (by kernel_rfl) (by kernel_rfl) (by kernel_rfl) (by kernel_rfl) (by kernel_rfl) (hval 0 31 v0 rfl rfl) h0
  have hs0 := Sy.VR.tail (n := 32) (k := 64) l0 y0
  have lt : ∀ {t v d p}, DataW.Trod enc Try.prog W 0 (fun _ => true) true t v d p → ∀ x ∈ p, x.block < W.heap.size := fun h => by obtain ⟨m, hm⟩ := h; exact DataW.trod_lt m _ _ _ hm
  clear hA0 hval0
  refine (walk (has_signed l0 b0 bt0) W hs0).mono fun e W' ⟨he, bel⟩ => ?_
  subst he
  exact ⟨_, rfl, _, _, _, [], _, [], hW', trodAll_mk1 (shut_bool Try.underlying4 _),
    (trodAll_cons_mk (Below.trod laidOut (by kernel_rfl) (of_decide_eq_true (by kernel_rfl)) h0 bel (lt h0)) trodAll_mk0), rfl, bel.frame _, fun h => by cases h⟩
theorem over : Rows.signVerifiesRow.holds Try.pinned (OpenSpec.ofChange Rows.signVerifiesSpec) :=
  OpenClaim.holds_of_wide 4 Try.f4 rfl rfl rfl rfl rfl rfl rfl ⟨rfl, rfl, rfl, rfl, rfl⟩ rfl rfl rfl rfl rfl (by kernel_rfl) Try.func4 (by kernel_rfl)
    (of_decide_eq_true (by kernel_rfl)) (by unfold Func.isWrapper; first | (rw [if_pos (by decide +kernel)]; kernel_rfl) | (rw [if_neg (by decide +kernel)]; exact ⟨rfl, rfl⟩))
    (fun os started H enc _ => lifted os started H enc)
end Go.Proofs.Ytkoohnpknhoahaa.signVerifies
namespace Go.Proofs.Ytkoohnpknhoahaa
theorem signVerifiesProved : Rows.SignVerifiesSaid := signVerifies.over
#print axioms signVerifiesProved
end Go.Proofs.Ytkoohnpknhoahaa
