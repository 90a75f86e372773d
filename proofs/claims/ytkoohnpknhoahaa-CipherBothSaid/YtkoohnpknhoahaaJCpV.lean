/- This file proves the row CipherBoth: whatever comes in, the law CipherBoth returns true. No conditions. -/
import Derived.Test.YtkoohnpknhoahaaRows
import Derived.Test.YtkoohnpknhoahaaJCpG
import Derived.Test.YtkoohnpknhoahaaJCpR
import Derived.ChangeMaps5
import Derived.WalkKit
import Derived.ProofKit
import Derived.OpenShut
import Derived.ShutString
import Derived.ChangeOld
import Derived.Below
set_option linter.all false
namespace Go.Proofs.Ytkoohnpknhoahaa.cipherBoth
open Go
open Go.ChangeShapes Go.WideShapes Go.ChangeAt Go.RowKit
set_option linter.unusedVariables false
theorem own : ownKnob Try.prog.godebug = none := by kernel_rfl
theorem laidOut : laidOutB Try.prog = true := by kernel_rfl
theorem walk {a0 : ByteArray} {a1N : Nat} {a1k a1n : Nat → Int} {a1x : Nat → List Int} (ha0 : True) (ha1 : ∀ i, i < a1N → ∀ z ∈ a1x i, 0 ≤ z ∧ z < 256) (w : World) {a1y : Value} (hya1 : Sy.VR (Sy.env0 (Sy.allZ w) w.heap.size) (.rol false 3 a1N (fun i => [.int .i64 (a1k i), .ro false .u8 (a1x i), .int .i64 (a1n i)])) a1y) :
    Calls Try.prog 9 #[.string a0, a1y] w fun e w' => e = .returned (.bool true) ∧ Below w.heap.size w w' :=
  Sy.FnTr.below (Cp.both_row ha0 ha1) ⟨_, _, ⟨_, rfl, rfl⟩, ⟨_, _, hya1, rfl, rfl⟩, rfl⟩
set_option maxRecDepth 100000 in
theorem lifted (os : Os) (started : os.Started) (H : Type) (enc : TypeId × Value → H) :
    ReturnsInHanded {} Try.checked os 9 .any (Rows.cipherBothSpec.pre6 enc Try.prog Try.f9 Rows.cipherBothRow.domain false) (Rows.cipherBothSpec.post enc Try.prog Try.f9 false true false false) := by
  refine returnsInHanded_of_change (C := Try.checked) own started (by kernel_rfl) Try.func9
    (ChangeSpec.witness6 (enc := enc) (C := Try.checked) false ⟨#[], #[.string ByteArray.empty, .slice none 0 0], []⟩ 8 (by kernel_rfl) (by kernel_rfl) (by kernel_rfl) (by kernel_rfl)) ?_
  intro W base args ds gs before hval0 hW hcnd _
  have hval : ∀ (j : Nat) t v, Try.f9.params[j]? = some t → args[j]? = some v → Value.okWide Try.prog W .any base t v := hval0
  have hW' := hW
  obtain ⟨p, q, hA0, hV, rfl, hfz, hnd⟩ := hW
  have hA : DataW.TrodAll enc Try.prog W 0 (fun _ => true) true Try.f9.params.toList args.toList ds p := hA0
  rw [Try.params9] at hA hval
  obtain ⟨v0, vs0, d0, ds0, p0, q0, hargs0, rfl, rfl, h0, r0⟩ := trodAll_cons hA
  obtain ⟨v1, vs1, d1, ds1, p1, q1, hargs1, rfl, rfl, h1, r1⟩ := trodAll_cons r0
  obtain ⟨rfl, rfl, rfl⟩ := trodAll_nil r1
  obtain rfl : args = #[v0, v1] := by cases args; simp_all
  obtain ⟨rfl, rfl⟩ := trodVars_none hV
  obtain ⟨z0, rfl, _, _, _⟩ := Go.ChangeMaps.open_string (P := Try.prog) (t := 9) (by kernel_rfl) (hval 0 9 v0 rfl rfl) h0
  obtain ⟨N1, k1, n1, x1, y1, b1⟩ := Sy.open_ops (P := Try.prog) (m := W.heap.size) (t := 42) (e := 51) (e1 := 5) (by kernel_rfl) Try.underlying51 (by kernel_rfl) ⟨rfl, rfl, by kernel_rfl, by kernel_rfl⟩ ⟨rfl, rfl, by kernel_rfl, by kernel_rfl, by kernel_rfl, by kernel_rfl⟩ ⟨rfl, rfl, by kernel_rfl, by kernel_rfl⟩ (hval 1 42 v1 rfl rfl) h1
  have lt : ∀ {t v d p}, DataW.Trod enc Try.prog W 0 (fun _ => true) true t v d p → ∀ x ∈ p, x.block < W.heap.size := fun h => by obtain ⟨m, hm⟩ := h; exact DataW.trod_lt m _ _ _ hm
  clear hA0 hval0
  refine (walk trivial (fun i hi => (b1 i hi).2.2) W y1).mono fun e W' ⟨he, bel⟩ => ?_
  subst he
  exact ⟨_, rfl, _, _, _, [], _, [], hW', trodAll_mk1 (shut_bool Try.underlying4 _),
    (trodAll_cons_mk (Below.trod laidOut (by kernel_rfl) (of_decide_eq_true (by kernel_rfl)) h0 bel (lt h0)) (trodAll_cons_mk (Below.trod laidOut (by kernel_rfl) (of_decide_eq_true (by kernel_rfl)) h1 bel (lt h1)) trodAll_mk0)), rfl, bel.frame _, fun h => by cases h⟩
theorem over : Rows.cipherBothRow.holds Try.pinned (OpenSpec.ofChange Rows.cipherBothSpec) :=
  OpenClaim.holds_of_wide 9 Try.f9 rfl rfl rfl rfl rfl rfl rfl ⟨rfl, rfl, rfl, rfl, rfl⟩ rfl rfl rfl rfl rfl (by kernel_rfl) Try.func9 (by kernel_rfl)
    (of_decide_eq_true (by kernel_rfl)) (by unfold Func.isWrapper; first | (rw [if_pos (by decide +kernel)]; kernel_rfl) | (rw [if_neg (by decide +kernel)]; exact ⟨rfl, rfl⟩))
    (fun os started H enc _ => lifted os started H enc)
end Go.Proofs.Ytkoohnpknhoahaa.cipherBoth
namespace Go.Proofs.Ytkoohnpknhoahaa
theorem cipherBothProved : Rows.CipherBothSaid := cipherBoth.over
#print axioms cipherBothProved
end Go.Proofs.Ytkoohnpknhoahaa
