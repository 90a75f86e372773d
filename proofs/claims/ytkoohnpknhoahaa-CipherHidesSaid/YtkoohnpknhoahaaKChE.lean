/- This file proves the row CipherHides: whatever comes in, the law CipherHides returns true. No conditions. -/
import Derived.Test.YtkoohnpknhoahaaRows
import Derived.Test.YtkoohnpknhoahaaKChD
import Derived.Test.YtkoohnpknhoahaaKCpR
import Derived.WalkKit
import Derived.ProofKit
import Derived.OpenShut
import Derived.ShutString
import Derived.ChangeOld
import Derived.Below
set_option linter.all false
namespace Go.Proofs.Ytkoohnpknhoahaa.cipherHides
open Go
open Go.ChangeShapes Go.WideShapes Go.ChangeAt Go.RowKit
set_option linter.unusedVariables false
theorem own : ownKnob Try.prog.godebug = none := by kernel_rfl
theorem laidOut : laidOutB Try.prog = true := by kernel_rfl
theorem has_Key {zs : List Int} (l : zs.length = 32) (h : ∀ z ∈ zs, IntKind.u8.has z) : zs.length = 32 ∧ R4.Dg zs := ⟨l, fun z hz => by
  have := h z hz
  simp [IntKind.has, IntKind.min, IntKind.max, IntKind.signed, IntKind.bits] at this
  omega⟩
theorem has_int {z : Int} (h : (Lit.int .i64 z).wf = true) : IntKind.i64.has z := by
  simpa [Lit.wf, IntKind.has, IntKind.min, IntKind.max, IntKind.signed, IntKind.bits] using h
theorem walk {a0 : List Int} {a1 : Int} {a2N : Nat} {a2k a2n : Nat → Int} {a2x : Nat → List Int} (ha0 : a0.length = 32 ∧ R4.Dg a0) (ha1 : IntKind.i64.has a1) (ha2 : ∀ i, i < a2N → ∀ z ∈ a2x i, 0 ≤ z ∧ z < 256) (w : World) {a2y : Value} (hya2 : Sy.VR (Sy.env0 (Sy.allZ w) w.heap.size) (.rol false 3 a2N (fun i => [.int .i64 (a2k i), .ro false .u8 (a2x i), .int .i64 (a2n i)])) a2y) :
    Calls Try.prog 8 #[.agg ⟨Sy.intsV .u8 a0⟩, .int .i64 a1, a2y] w fun e w' => e = .returned (.bool true) ∧ Below w.heap.size w w' :=
  Sy.FnTr.below (Ch.hides_row ha0 ha1 ha2) ⟨_, _, Sy.VR.aggInts ha0.1, ⟨_, _, rfl, ⟨_, _, hya2, rfl, rfl⟩, rfl⟩, rfl⟩
set_option maxRecDepth 100000 in
theorem lifted (os : Os) (started : os.Started) (H : Type) (enc : TypeId × Value → H) :
    ReturnsInHanded {} Try.checked os 8 .any (Rows.cipherHidesSpec.pre6 enc Try.prog Try.f8 Rows.cipherHidesRow.domain false) (Rows.cipherHidesSpec.post enc Try.prog Try.f8 false true false false) := by
  refine returnsInHanded_of_change (C := Try.checked) own started (by kernel_rfl) Try.func8
    (ChangeSpec.witness6 (enc := enc) (C := Try.checked) false ⟨#[], #[.agg (Array.replicate 32 (.int .u8 0)), .int .i64 0, .slice none 0 0], []⟩ 8 (by kernel_rfl) (by kernel_rfl) (by kernel_rfl) (by kernel_rfl)) ?_
  intro W base args ds gs before hval0 hW hcnd _
  have hval : ∀ (j : Nat) t v, Try.f8.params[j]? = some t → args[j]? = some v → Value.okWide Try.prog W .any base t v := hval0
  have hW' := hW
  obtain ⟨p, q, hA0, hV, rfl, hfz, hnd⟩ := hW
  have hA : DataW.TrodAll enc Try.prog W 0 (fun _ => true) true Try.f8.params.toList args.toList ds p := hA0
  rw [Try.params8] at hA hval
  obtain ⟨v0, vs0, d0, ds0, p0, q0, hargs0, rfl, rfl, h0, r0⟩ := trodAll_cons hA
  obtain ⟨v1, vs1, d1, ds1, p1, q1, hargs1, rfl, rfl, h1, r1⟩ := trodAll_cons r0
  obtain ⟨v2, vs2, d2, ds2, p2, q2, hargs2, rfl, rfl, h2, r2⟩ := trodAll_cons r1
  obtain ⟨rfl, rfl, rfl⟩ := trodAll_nil r2
  obtain rfl : args = #[v0, v1, v2] := by cases args; simp_all
  obtain ⟨rfl, rfl⟩ := trodVars_none hV
  obtain ⟨z0, rfl, l0, b0⟩ := Sy.agg_ints (P := Try.prog) (t := 23) (k := .u8) (n := 32) (by kernel_rfl) (by kernel_rfl) (by kernel_rfl) (hval 0 23 v0 rfl rfl)
  obtain ⟨z1, rfl, _, _, b1⟩ := open_int (P := Try.prog) (t := 3) (k := .i64) (by kernel_rfl) (hval 1 3 v1 rfl rfl) h1
  obtain ⟨N2, k2, n2, x2, y2, b2⟩ := Sy.open_ops (P := Try.prog) (m := W.heap.size) (t := 42) (e := 51) (e1 := 5) (by kernel_rfl) Try.underlying51 (by kernel_rfl) ⟨rfl, rfl, by kernel_rfl, by kernel_rfl⟩ ⟨rfl, rfl, by kernel_rfl, by kernel_rfl, by kernel_rfl, by kernel_rfl⟩ ⟨rfl, rfl, by kernel_rfl, by kernel_rfl⟩ (hval 2 42 v2 rfl rfl) h2
  have lt : ∀ {t v d p}, DataW.Trod enc Try.prog W 0 (fun _ => true) true t v d p → ∀ x ∈ p, x.block < W.heap.size := fun h => by obtain ⟨m, hm⟩ := h; exact DataW.trod_lt m _ _ _ hm
  clear hA0 hval0
  refine (walk (has_Key l0 b0) (has_int b1) (fun i hi => (b2 i hi).2.2) W y2).mono fun e W' ⟨he, bel⟩ => ?_
  subst he
  exact ⟨_, rfl, _, _, _, [], _, [], hW', trodAll_mk1 (shut_bool Try.underlying4 _),
    (trodAll_cons_mk (Below.trod laidOut (by kernel_rfl) (of_decide_eq_true (by kernel_rfl)) h0 bel (lt h0)) (trodAll_cons_mk (Below.trod laidOut (by kernel_rfl) (of_decide_eq_true (by kernel_rfl)) h1 bel (lt h1)) (trodAll_cons_mk (Below.trod laidOut (by kernel_rfl) (of_decide_eq_true (by kernel_rfl)) h2 bel (lt h2)) trodAll_mk0))), rfl, bel.frame _, fun h => by cases h⟩
theorem over : Rows.cipherHidesRow.holds Try.pinned (OpenSpec.ofChange Rows.cipherHidesSpec) :=
  OpenClaim.holds_of_wide 8 Try.f8 rfl rfl rfl rfl rfl rfl rfl ⟨rfl, rfl, rfl, rfl, rfl⟩ rfl rfl rfl rfl rfl (by kernel_rfl) Try.func8 (by kernel_rfl)
    (of_decide_eq_true (by kernel_rfl)) (by unfold Func.isWrapper; first | (rw [if_pos (by decide +kernel)]; kernel_rfl) | (rw [if_neg (by decide +kernel)]; exact ⟨rfl, rfl⟩))
    (fun os started H enc _ => lifted os started H enc)
end Go.Proofs.Ytkoohnpknhoahaa.cipherHides
namespace Go.Proofs.Ytkoohnpknhoahaa
theorem cipherHidesProved : Rows.CipherHidesSaid := cipherHides.over
#print axioms cipherHidesProved
end Go.Proofs.Ytkoohnpknhoahaa
