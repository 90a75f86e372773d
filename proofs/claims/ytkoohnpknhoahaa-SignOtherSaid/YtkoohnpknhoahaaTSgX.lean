/- This file proves the row SignOther: whatever comes in, the law SignOther returns true. No conditions. -/
import Derived.Test.YtkoohnpknhoahaaRows
import Derived.Test.YtkoohnpknhoahaaTSgH
import Derived.Test.YtkoohnpknhoahaaTSgR
import Derived.WalkKit
import Derived.ProofKit
import Derived.OpenShut
import Derived.ShutString
import Derived.ChangeOld
import Derived.Below
set_option linter.all false
namespace Go.Proofs.Ytkoohnpknhoahaa.signOther
open Go
open Go.ChangeShapes Go.WideShapes Go.ChangeAt Go.RowKit
set_option linter.unusedVariables false
theorem own : ownKnob Try.prog.godebug = none := by kernel_rfl
theorem laidOut : laidOutB Try.prog = true := by kernel_rfl
theorem has_key {zs : List Int} (l : zs.length = 32) (h : ∀ z ∈ zs, IntKind.u8.has z) : Re.keyOK zs = true := by
  refine Re.keyOK_iff.2 ⟨l, ?_⟩
  rw [List.all_eq_true]
  intro z hz
  have := h z hz
  rw [Fe.u8_iff]
  simp [IntKind.has, IntKind.min, IntKind.max, IntKind.signed, IntKind.bits] at this
  omega
theorem walk {a0 : List Int} {a1 : List Int} {a2 : List Int} (ha0 : Re.keyOK a0 = true) (ha1 : ∀ z ∈ a1, 0 ≤ z ∧ z < 256) (ha2 : ∀ z ∈ a2, 0 ≤ z ∧ z < 256) (w : World) {a1y : Value} (hya1 : Sy.VR (Sy.env0 (Sy.allZ w) w.heap.size) (.ro false .u8 a1) a1y) {a2y : Value} (hya2 : Sy.VR (Sy.env0 (Sy.allZ w) w.heap.size) (.ro false .u8 a2) a2y) :
    Calls Try.prog 7 #[.agg ⟨Sy.intsV .u8 a0⟩, a1y, a2y] w fun e w' => e = .returned (.bool true) ∧ Below w.heap.size w w' :=
  Sy.FnTr.below (Sg.other_law ha0 ha1 ha2) ⟨_, _, Sy.VR.aggInts (Re.keyOK_iff.1 ha0).1, ⟨_, _, hya1, ⟨_, _, hya2, rfl, rfl⟩, rfl⟩, rfl⟩
set_option maxRecDepth 100000 in
theorem lifted (os : Os) (started : os.Started) (H : Type) (enc : TypeId × Value → H) :
    ReturnsInHanded {} Try.checked os 7 .any (Rows.signOtherSpec.pre6 enc Try.prog Try.f7 Rows.signOtherRow.domain false) (Rows.signOtherSpec.post enc Try.prog Try.f7 false true false false) := by
  refine returnsInHanded_of_change (C := Try.checked) own started (by kernel_rfl) Try.func7
    (ChangeSpec.witness6 (enc := enc) (C := Try.checked) false ⟨#[], #[.agg (Array.replicate 32 (.int .u8 0)), .slice none 0 0, .slice none 0 0], []⟩ 8 (by kernel_rfl) (by kernel_rfl) (by kernel_rfl) (by kernel_rfl)) ?_
  intro W base args ds gs before hval0 hW hcnd _
  have hval : ∀ (j : Nat) t v, Try.f7.params[j]? = some t → args[j]? = some v → Value.okWide Try.prog W .any base t v := hval0
  have hW' := hW
  obtain ⟨p, q, hA0, hV, rfl, hfz, hnd⟩ := hW
  have hA : DataW.TrodAll enc Try.prog W 0 (fun _ => true) true Try.f7.params.toList args.toList ds p := hA0
  rw [Try.params7] at hA hval
  obtain ⟨v0, vs0, d0, ds0, p0, q0, hargs0, rfl, rfl, h0, r0⟩ := trodAll_cons hA
  obtain ⟨v1, vs1, d1, ds1, p1, q1, hargs1, rfl, rfl, h1, r1⟩ := trodAll_cons r0
  obtain ⟨v2, vs2, d2, ds2, p2, q2, hargs2, rfl, rfl, h2, r2⟩ := trodAll_cons r1
  obtain ⟨rfl, rfl, rfl⟩ := trodAll_nil r2
  obtain rfl : args = #[v0, v1, v2] := by cases args; simp_all
  obtain ⟨rfl, rfl⟩ := trodVars_none hV
  obtain ⟨z0, rfl, l0, b0⟩ := Sy.agg_ints (P := Try.prog) (t := 23) (k := .u8) (n := 32) (by kernel_rfl) (by kernel_rfl) (by kernel_rfl) (hval 0 23 v0 rfl rfl)
  obtain ⟨z1, y1, b1⟩ := Sy.open_bytes (P := Try.prog) (m := W.heap.size) (t := 29) (e := 5) (by kernel_rfl) (by kernel_rfl) (by kernel_rfl) (hval 1 29 v1 rfl rfl) h1
  obtain ⟨z2, y2, b2⟩ := Sy.open_bytes (P := Try.prog) (m := W.heap.size) (t := 29) (e := 5) (by kernel_rfl) (by kernel_rfl) (by kernel_rfl) (hval 2 29 v2 rfl rfl) h2
  have lt : ∀ {t v d p}, DataW.Trod enc Try.prog W 0 (fun _ => true) true t v d p → ∀ x ∈ p, x.block < W.heap.size := fun h => by obtain ⟨m, hm⟩ := h; exact DataW.trod_lt m _ _ _ hm
  clear hA0 hval0
  refine (walk (has_key l0 b0) b1 b2 W y1 y2).mono fun e W' ⟨he, bel⟩ => ?_
  subst he
  exact ⟨_, rfl, _, _, _, [], _, [], hW', trodAll_mk1 (shut_bool Try.underlying4 _),
    (trodAll_cons_mk (Below.trod laidOut (by kernel_rfl) (of_decide_eq_true (by kernel_rfl)) h0 bel (lt h0)) (trodAll_cons_mk (Below.trod laidOut (by kernel_rfl) (of_decide_eq_true (by kernel_rfl)) h1 bel (lt h1)) (trodAll_cons_mk (Below.trod laidOut (by kernel_rfl) (of_decide_eq_true (by kernel_rfl)) h2 bel (lt h2)) trodAll_mk0))), rfl, bel.frame _, fun h => by cases h⟩
theorem over : Rows.signOtherRow.holds Try.pinned (OpenSpec.ofChange Rows.signOtherSpec) :=
  OpenClaim.holds_of_wide 7 Try.f7 rfl rfl rfl rfl rfl rfl rfl ⟨rfl, rfl, rfl, rfl, rfl⟩ rfl rfl rfl rfl rfl (by kernel_rfl) Try.func7 (by kernel_rfl)
    (of_decide_eq_true (by kernel_rfl)) (by unfold Func.isWrapper; first | (rw [if_pos (by decide +kernel)]; kernel_rfl) | (rw [if_neg (by decide +kernel)]; exact ⟨rfl, rfl⟩))
    (fun os started H enc _ => lifted os started H enc)
end Go.Proofs.Ytkoohnpknhoahaa.signOther
namespace Go.Proofs.Ytkoohnpknhoahaa
theorem signOtherProved : Rows.SignOtherSaid := signOther.over
#print axioms signOtherProved
end Go.Proofs.Ytkoohnpknhoahaa
