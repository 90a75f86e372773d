/- This file proves the row BoxWhole: whatever comes in, the law BoxWhole returns true. No conditions. -/
import Derived.Test.YtibfpjeeanppjaaRows
import Derived.Test.YtibfpjeeanppjaaWBxP
import Derived.Test.YtibfpjeeanppjaaWBxN
import Derived.WalkKit
import Derived.ProofKit
import Derived.OpenShut
import Derived.ShutString
import Derived.ChangeOld
import Derived.Below
set_option linter.all false
namespace Go.Proofs.Ytibfpjeeanppjaa.boxWhole
open Go
open rows16
open Go.ChangeShapes Go.WideShapes Go.ChangeAt Go.RowKit
set_option linter.unusedVariables false
theorem own : ownKnob Try.prog.godebug = none := by kernel_rfl
theorem laidOut : laidOutB Try.prog = true := by kernel_rfl
theorem walk {bs info text : List Int} (hl : bs.length = 64) (hb : ∀ z ∈ bs, 0 ≤ z ∧ z < 256) (h2 : ∀ z ∈ text, 0 ≤ z ∧ z < 256)
    (w : World) {y0 y1 : Value} (v0 : Sy.VR (Sy.env0 (Sy.allZ w) w.heap.size) (.ro false .u8 info) y0) (v1 : Sy.VR (Sy.env0 (Sy.allZ w) w.heap.size) (.ro false .u8 text) y1) :
    Calls Try.prog 3 #[.agg ⟨Sy.intsV .u8 bs ++ [y0, y1]⟩] w fun e w' => e = .returned (.bool true) ∧ Below w.heap.size w w' :=
  Sy.FnTr.below (Bx.whole_law (keys_two hl hb).1 (keys_two hl hb).2 h2) ⟨_, _, tail2 hl v0 v1, rfl, rfl⟩
set_option maxRecDepth 100000 in
theorem lifted (os : Os) (started : os.Started) (H : Type) (enc : TypeId × Value → H) :
    ReturnsInHanded {} Try.checked os 3 .any (Rows.boxWholeSpec.pre6 enc Try.prog Try.f3 Rows.boxWholeRow.domain false) (Rows.boxWholeSpec.post enc Try.prog Try.f3 false true false false) := by
  refine returnsInHanded_of_change (C := Try.checked) own started (by kernel_rfl) Try.func3
    (ChangeSpec.witness6 (enc := enc) (C := Try.checked) false ⟨#[], #[.agg ⟨List.replicate 64 (.int .u8 0) ++ [.slice none 0 0, .slice none 0 0]⟩], []⟩ 8 (by kernel_rfl) (by kernel_rfl) (by kernel_rfl) (by kernel_rfl)) ?_
  intro W base args ds gs before hval0 hW hcnd _
  have hval : ∀ (j : Nat) t v, Try.f3.params[j]? = some t → args[j]? = some v → Value.okWide Try.prog W .any base t v := hval0
  have hW' := hW
  obtain ⟨p, q, hA0, hV, rfl, hfz, hnd⟩ := hW
  have hA : DataW.TrodAll enc Try.prog W 0 (fun _ => true) true Try.f3.params.toList args.toList ds p := hA0
  rw [Try.params3] at hA hval
  obtain ⟨v0, vs0, d0, ds0, p0, q0, hargs0, rfl, rfl, h0, r0⟩ := trodAll_cons hA
  obtain ⟨rfl, rfl, rfl⟩ := trodAll_nil r0
  obtain rfl : args = #[v0] := by cases args; simp_all
  obtain ⟨rfl, rfl⟩ := trodVars_none hV
  obtain ⟨bs, zf, ys, rfl, l0, b0, ly, hy⟩ := Sy.open_tails (P := Try.prog) (m := W.heap.size) (t := 26) (T := 24) (e := 5) (i := 2) (n := 64) (k := 2) (B := Rows.uptoBulk d0 + 1) Try.underlying26 (by kernel_rfl) (by kernel_rfl) (by kernel_rfl) (by kernel_rfl) (by kernel_rfl) (by kernel_rfl) (by omega) (by kernel_rfl) (hval 0 26 v0 rfl rfl) h0
    (fun parts elems spare hd hm => bulk_any hd hm)
  obtain ⟨y0, e0, v0, c0, n0⟩ := hy 0 (by omega)
  obtain ⟨y1, e1, v1, c1, n1⟩ := hy 1 (by omega)
  obtain rfl := two_of ly e0 e1
  have lt : ∀ {t v d p}, DataW.Trod enc Try.prog W 0 (fun _ => true) true t v d p → ∀ x ∈ p, x.block < W.heap.size := fun h => by obtain ⟨m, hm⟩ := h; exact DataW.trod_lt m _ _ _ hm
  clear hA0 hval0
  refine (walk l0 b0 c1 W v0 v1).mono fun e W' ⟨he, bel⟩ => ?_
  subst he
  exact ⟨_, rfl, _, _, _, [], _, [], hW', trodAll_mk1 (shut_bool Try.underlying4 _),
    (trodAll_cons_mk (Below.trod laidOut (by kernel_rfl) (of_decide_eq_true (by kernel_rfl)) h0 bel (lt h0)) trodAll_mk0), rfl, bel.frame _, fun h => by cases h⟩
theorem over : Rows.boxWholeRow.holds Try.pinned (OpenSpec.ofChange Rows.boxWholeSpec) :=
  OpenClaim.holds_of_wide 3 Try.f3 rfl rfl rfl rfl rfl rfl rfl ⟨rfl, rfl, rfl, rfl, rfl⟩ rfl rfl rfl rfl rfl (by kernel_rfl) Try.func3 (by kernel_rfl)
    (of_decide_eq_true (by kernel_rfl)) (by unfold Func.isWrapper; first | (rw [if_pos (by decide +kernel)]; kernel_rfl) | (rw [if_neg (by decide +kernel)]; exact ⟨rfl, rfl⟩))
    (fun os started H enc _ => lifted os started H enc)
end Go.Proofs.Ytibfpjeeanppjaa.boxWhole
namespace Go.Proofs.Ytibfpjeeanppjaa
theorem boxWholeProved : Rows.BoxWholeSaid := boxWhole.over
#print axioms boxWholeProved
end Go.Proofs.Ytibfpjeeanppjaa
