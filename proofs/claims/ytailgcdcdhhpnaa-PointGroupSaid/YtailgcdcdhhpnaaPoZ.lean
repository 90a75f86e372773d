/- This file proves the row PointGroup: whatever comes in, the law PointGroup returns true. No conditions. -/
import Derived.Test.YtailgcdcdhhpnaaRows
import Derived.Test.YtailgcdcdhhpnaaPoY
import Derived.WalkKit
import Derived.ProofKit
import Derived.OpenShut
import Derived.ShutString
import Derived.ChangeOld
import Derived.Below
namespace Go.Proofs.Ytailgcdcdhhpnaa.pointGroup
open Go
open Go.ChangeShapes Go.WideShapes Go.ChangeAt Go.RowKit
set_option linter.unusedVariables false

theorem own : ownKnob Try.prog.godebug = none := by kernel_rfl
theorem laidOut : laidOutB Try.prog = true := by kernel_rfl

theorem has_key {zs : List Int} (l : zs.length = 32) (h : ∀ z ∈ zs, IntKind.u8.has z) : Re.keyOK zs = true := by
  refine Re.keyOK_iff.2 ⟨l, ?_⟩
  rw [List.all_eq_true]
  intro z hz
  have := h z hz
  rw [Fe.u8_iff]
  simp [IntKind.has, IntKind.min, IntKind.max, IntKind.signed, IntKind.bits] at this
  omega

theorem walk {a0 : List Int} {a1 : List Int} {a2 : List Int} (ha0 : Re.keyOK a0 = true) (ha1 : Re.keyOK a1 = true) (ha2 : Re.keyOK a2 = true) (w : World) :
    Calls Try.prog 9 #[.agg ⟨Sy.intsV .u8 a0⟩, .agg ⟨Sy.intsV .u8 a1⟩, .agg ⟨Sy.intsV .u8 a2⟩] w fun e w' => e = .returned (.bool true) ∧ Below w.heap.size w w' :=
  Sy.FnTr.below (Po.group_law ha0 ha1 ha2) ⟨_, _, Sy.VR.aggInts (Re.keyOK_iff.1 ha0).1, ⟨_, _, Sy.VR.aggInts (Re.keyOK_iff.1 ha1).1, ⟨_, _, Sy.VR.aggInts (Re.keyOK_iff.1 ha2).1, rfl, rfl⟩, rfl⟩, rfl⟩

/-! ### The row -/
set_option maxRecDepth 100000 in
theorem lifted (os : Os) (started : os.Started) (H : Type) (enc : TypeId × Value → H) :
    ReturnsInHanded {} Try.checked os 9 .any (Rows.pointGroupSpec.pre6 enc Try.prog Try.f9 Rows.pointGroupRow.domain false) (Rows.pointGroupSpec.post enc Try.prog Try.f9 false true false false) := by
  refine returnsInHanded_of_change (C := Try.checked) own started (by kernel_rfl) Try.func9
    (ChangeSpec.witness6 (enc := enc) (C := Try.checked) false ⟨#[], #[.agg (Array.replicate 32 (.int .u8 0)), .agg (Array.replicate 32 (.int .u8 0)), .agg (Array.replicate 32 (.int .u8 0))], []⟩ 8 (by kernel_rfl) (by kernel_rfl) (by kernel_rfl) (by kernel_rfl)) ?_
  intro W base args ds gs before hval0 hW hcnd _
  have hval : ∀ (j : Nat) t v, Try.f9.params[j]? = some t → args[j]? = some v → Value.okWide Try.prog W .any base t v := hval0
  have hW' := hW
  obtain ⟨p, q, hA0, hV, rfl, hfz, hnd⟩ := hW
  have hA : DataW.TrodAll enc Try.prog W 0 (fun _ => true) true Try.f9.params.toList args.toList ds p := hA0
  rw [Try.params9] at hA hval
  obtain ⟨v0, vs0, d0, ds0, p0, q0, hargs0, rfl, rfl, h0, r0⟩ := trodAll_cons hA
  obtain ⟨v1, vs1, d1, ds1, p1, q1, hargs1, rfl, rfl, h1, r1⟩ := trodAll_cons r0
  obtain ⟨v2, vs2, d2, ds2, p2, q2, hargs2, rfl, rfl, h2, r2⟩ := trodAll_cons r1
  obtain ⟨rfl, rfl, rfl⟩ := trodAll_nil r2
  obtain rfl : args = #[v0, v1, v2] := by cases args; simp_all
  obtain ⟨rfl, rfl⟩ := trodVars_none hV
  obtain ⟨z0, rfl, l0, b0⟩ := Sy.agg_ints (P := Try.prog) (t := 24) (k := .u8) (n := 32) (by kernel_rfl) (by kernel_rfl) (by kernel_rfl) (hval 0 24 v0 rfl rfl)
  obtain ⟨z1, rfl, l1, b1⟩ := Sy.agg_ints (P := Try.prog) (t := 24) (k := .u8) (n := 32) (by kernel_rfl) (by kernel_rfl) (by kernel_rfl) (hval 1 24 v1 rfl rfl)
  obtain ⟨z2, rfl, l2, b2⟩ := Sy.agg_ints (P := Try.prog) (t := 24) (k := .u8) (n := 32) (by kernel_rfl) (by kernel_rfl) (by kernel_rfl) (hval 2 24 v2 rfl rfl)
  have lt : ∀ {t v d p}, DataW.Trod enc Try.prog W 0 (fun _ => true) true t v d p → ∀ x ∈ p, x.block < W.heap.size := fun h => by obtain ⟨m, hm⟩ := h; exact DataW.trod_lt m _ _ _ hm
  clear hA0 hval0
  refine (walk (has_key l0 b0) (has_key l1 b1) (has_key l2 b2) W).mono fun e W' ⟨he, bel⟩ => ?_
  subst he
  exact ⟨_, rfl, _, _, _, [], _, [], hW', trodAll_mk1 (shut_bool Try.underlying4 _),
    (trodAll_cons_mk (Below.trod laidOut (by kernel_rfl) (of_decide_eq_true (by kernel_rfl)) h0 bel (lt h0)) (trodAll_cons_mk (Below.trod laidOut (by kernel_rfl) (of_decide_eq_true (by kernel_rfl)) h1 bel (lt h1)) (trodAll_cons_mk (Below.trod laidOut (by kernel_rfl) (of_decide_eq_true (by kernel_rfl)) h2 bel (lt h2)) trodAll_mk0))), rfl, bel.frame _, fun h => by cases h⟩

theorem over : Rows.pointGroupRow.holds Try.pinned (OpenSpec.ofChange Rows.pointGroupSpec) :=
  OpenClaim.holds_of_wide 9 Try.f9 rfl rfl rfl rfl rfl rfl rfl ⟨rfl, rfl, rfl, rfl, rfl⟩ rfl rfl rfl rfl rfl (by kernel_rfl) Try.func9 (by kernel_rfl)
    (of_decide_eq_true (by kernel_rfl)) (by unfold Func.isWrapper; first | (rw [if_pos (by decide +kernel)]; kernel_rfl) | (rw [if_neg (by decide +kernel)]; exact ⟨rfl, rfl⟩))
    (fun os started H enc _ => lifted os started H enc)

end Go.Proofs.Ytailgcdcdhhpnaa.pointGroup
namespace Go.Proofs.Ytailgcdcdhhpnaa
theorem pointGroupProved : Rows.PointGroupSaid := pointGroup.over
#print axioms pointGroupProved
end Go.Proofs.Ytailgcdcdhhpnaa
