/- This file proves the row BoxSpoilt: whatever comes in, the law BoxSpoilt returns true. No conditions. -/
import Derived.Test.YtibfpjeeanppjaaGreatRows
import Derived.Test.YtibfpjeeanppjaaGreatVBxM
import Derived.Test.YtibfpjeeanppjaaGreatVBxN
import Derived.WalkKit
import Derived.ProofKit
import Derived.OpenShut
import Derived.ShutString
import Derived.ChangeOld
import Derived.Below
set_option linter.all false
namespace Go.Proofs.YtibfpjeeanppjaaGreat.boxSpoilt
open Go
open rows16
open Go.ChangeShapes Go.WideShapes Go.ChangeAt Go.RowKit
set_option linter.unusedVariables false
theorem own : ownKnob Tryz.prog.godebug = none := by kernel_rfl
theorem laidOut : laidOutB Tryz.prog = true := by kernel_rfl
theorem walk {bs info text : List Int} {at_ by_ : Int} (hl : bs.length = 64) (hb : ∀ z ∈ bs, 0 ≤ z ∧ z < 256) (h1 : ∀ z ∈ info, 0 ≤ z ∧ z < 256)
    (w : World) {y0 y1 : Value} (v0 : Sy.VR (Sy.env0 (Sy.allZ w) w.heap.size) (.ro false .u8 info) y0) (v1 : Sy.VR (Sy.env0 (Sy.allZ w) w.heap.size) (.ro false .u8 text) y1) :
    Calls Tryz.prog 4 #[.agg ⟨Sy.intsV .u8 bs ++ [y0, y1]⟩, .int .i64 at_, .int .u8 by_] w fun e w' => e = .returned (.bool true) ∧ Below w.heap.size w w' :=
  Sy.FnTr.below (Bx.spoilt_law (keys_two hl hb).1 (keys_two hl hb).2 (Bx.u8R_of h1)) ⟨_, _, tail2 hl v0 v1, ⟨_, _, rfl, ⟨_, _, rfl, rfl, rfl⟩, rfl⟩, rfl⟩
set_option maxRecDepth 100000 in
theorem lifted (os : Os) (started : os.Started) (H : Type) (enc : TypeId × Value → H) :
    ReturnsInHanded {} Tryz.checked os 4 .any (Rows.boxSpoiltSpec.pre6 enc Tryz.prog Tryz.f4 Rows.boxSpoiltRow.domain false) (Rows.boxSpoiltSpec.post enc Tryz.prog Tryz.f4 false true false false) := by
  refine returnsInHanded_of_change (C := Tryz.checked) own started (by kernel_rfl) Tryz.func4
    (ChangeSpec.witness6 (enc := enc) (C := Tryz.checked) false ⟨#[], #[.agg ⟨List.replicate 64 (.int .u8 0) ++ [.slice none 0 0, .slice none 0 0]⟩, .int .i64 0, .int .u8 0], []⟩ 8 (by kernel_rfl) (by kernel_rfl) (by kernel_rfl) (by kernel_rfl)) ?_
  intro W base args ds gs before hval0 hW hcnd _
  have hval : ∀ (j : Nat) t v, Tryz.f4.params[j]? = some t → args[j]? = some v → Value.okWide Tryz.prog W .any base t v := hval0
  have hW' := hW
  obtain ⟨p, q, hA0, hV, rfl, hfz, hnd⟩ := hW
  have hA : DataW.TrodAll enc Tryz.prog W 0 (fun _ => true) true Tryz.f4.params.toList args.toList ds p := hA0
  rw [Tryz.params4] at hA hval
  obtain ⟨v0, vs0, d0, ds0, p0, q0, hargs0, rfl, rfl, h0, r0⟩ := trodAll_cons hA
  obtain ⟨v1, vs1, d1, ds1, p1, q1, hargs1, rfl, rfl, h1, r1⟩ := trodAll_cons r0
  obtain ⟨v2, vs2, d2, ds2, p2, q2, hargs2, rfl, rfl, h2, r2⟩ := trodAll_cons r1
  obtain ⟨rfl, rfl, rfl⟩ := trodAll_nil r2
  obtain rfl : args = #[v0, v1, v2] := by cases args; simp_all
  obtain ⟨rfl, rfl⟩ := trodVars_none hV
  obtain ⟨bs, zf, ys, rfl, l0, b0, ly, hy⟩ := Sy.open_tails (P := Tryz.prog) (m := W.heap.size) (t := 41) (T := 24) (e := 5) (i := 2) (n := 64) (k := 2) (B := Rows.uptoBulk d0 + 1) Tryz.underlying41 (by kernel_rfl) (by kernel_rfl) (by kernel_rfl) (by kernel_rfl) (by kernel_rfl) (by kernel_rfl) (by omega) (by kernel_rfl) (hval 0 41 v0 rfl rfl) h0
    (fun parts elems spare hd hm => bulk_any hd hm)
  obtain ⟨y0, e0, v0, c0, n0⟩ := hy 0 (by omega)
  obtain ⟨y1, e1, v1, c1, n1⟩ := hy 1 (by omega)
  obtain rfl := two_of ly e0 e1
  obtain ⟨z1, rfl, _, _, w1⟩ := open_int (P := Tryz.prog) (t := 3) (k := .i64) (by kernel_rfl) (hval 1 3 _ rfl rfl) h1
  obtain ⟨z2, rfl, _, _, w2⟩ := open_int (P := Tryz.prog) (t := 5) (k := .u8) (by kernel_rfl) (hval 2 5 _ rfl rfl) h2
  have lt : ∀ {t v d p}, DataW.Trod enc Tryz.prog W 0 (fun _ => true) true t v d p → ∀ x ∈ p, x.block < W.heap.size := fun h => by obtain ⟨m, hm⟩ := h; exact DataW.trod_lt m _ _ _ hm
  clear hA0 hval0
  refine (walk l0 b0 c0 W v0 v1).mono fun e W' ⟨he, bel⟩ => ?_
  subst he
  exact ⟨_, rfl, _, _, _, [], _, [], hW', trodAll_mk1 (shut_bool Tryz.underlying4 _),
    (trodAll_cons_mk (Below.trod laidOut (by kernel_rfl) (of_decide_eq_true (by kernel_rfl)) h0 bel (lt h0)) (trodAll_cons_mk (Below.trod laidOut (by kernel_rfl) (of_decide_eq_true (by kernel_rfl)) h1 bel (lt h1)) (trodAll_cons_mk (Below.trod laidOut (by kernel_rfl) (of_decide_eq_true (by kernel_rfl)) h2 bel (lt h2)) trodAll_mk0))), rfl, bel.frame _, fun h => by cases h⟩
theorem over : Rows.boxSpoiltRow.holds Tryz.pinned (OpenSpec.ofChange Rows.boxSpoiltSpec) :=
  OpenClaim.holds_of_wide 4 Tryz.f4 rfl rfl rfl rfl rfl rfl rfl ⟨rfl, rfl, rfl, rfl, rfl⟩ rfl rfl rfl rfl rfl (by kernel_rfl) Tryz.func4 (by kernel_rfl)
    (of_decide_eq_true (by kernel_rfl)) (by unfold Func.isWrapper; first | (rw [if_pos (by decide +kernel)]; kernel_rfl) | (rw [if_neg (by decide +kernel)]; exact ⟨rfl, rfl⟩))
    (fun os started H enc _ => lifted os started H enc)
end Go.Proofs.YtibfpjeeanppjaaGreat.boxSpoilt
namespace Go.Proofs.YtibfpjeeanppjaaGreat
theorem boxSpoiltProved : Rows.BoxSpoiltSaid := boxSpoilt.over
#print axioms boxSpoiltProved
end Go.Proofs.YtibfpjeeanppjaaGreat
