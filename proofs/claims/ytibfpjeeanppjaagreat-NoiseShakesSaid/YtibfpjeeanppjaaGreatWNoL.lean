/- This file proves the row NoiseShakes: whatever comes in, the law NoiseShakes returns true. No conditions. -/
import Derived.Test.YtibfpjeeanppjaaGreatRows
import Derived.Test.YtibfpjeeanppjaaGreatWNoI
import Derived.Test.YtibfpjeeanppjaaGreatWBxN
import Derived.WalkKit
import Derived.ProofKit
import Derived.OpenShut
import Derived.ShutString
import Derived.ChangeOld
import Derived.Below
set_option linter.all false
namespace Go.Proofs.YtibfpjeeanppjaaGreat.noiseShakes
open Go
open rows16
open Go.ChangeShapes Go.WideShapes Go.ChangeAt Go.RowKit
set_option linter.unusedVariables false
theorem own : ownKnob Tryz.prog.godebug = none := by kernel_rfl
theorem laidOut : laidOutB Tryz.prog = true := by kernel_rfl
theorem take_ok {bs : List Int} (h : ∀ z ∈ bs, 0 ≤ z ∧ z < 256) (i : Nat) (l : i + 32 ≤ bs.length) : Re.keyOK ((bs.drop i).take 32) = true := by
  refine Re.keyOK_iff.2 ⟨by rw [List.length_take, List.length_drop]; omega, ?_⟩
  rw [List.all_eq_true]
  exact fun z hz => Fe.u8_iff.2 (h z (List.mem_of_mem_drop (List.mem_of_mem_take hz)))
theorem cutP {e : Sy.Env} {bs : List Int} {ps : List Sy.SV} {ys : List Value} (h : 32 ≤ bs.length) (g : Sy.PR e ps (Sy.intsV .u8 (bs.drop 32) ++ ys)) : Sy.PR e (.ints .u8 32 (bs.take 32) :: ps) (Sy.intsV .u8 bs ++ ys) := by
  refine ⟨Sy.intsV .u8 (bs.drop 32) ++ ys, g, ?_⟩
  rw [Sy.lst_eq (by rw [List.length_take]; omega), ← List.append_assoc, ← Sy.intsV_append, List.take_append_drop]
theorem three {ys : List Value} {y0 y1 y2 : Value} (h : ys.length = 3) (e0 : ys[0]? = some y0) (e1 : ys[1]? = some y1) (e2 : ys[2]? = some y2) : ys = [y0, y1, y2] := by
  match ys, h with
  | [a, b, c], _ =>
    simp only [List.getElem?_cons_zero, List.getElem?_cons_succ, Option.some.injEq] at e0 e1 e2
    rw [e0, e1, e2]
theorem tail3 {e : Sy.Env} {bs z0 z1 z2 : List Int} {y0 y1 y2 : Value} (h : bs.length = 128) (h0 : Sy.VR e (.ro false .u8 z0) y0) (h1 : Sy.VR e (.ro false .u8 z1) y1) (h2 : Sy.VR e (.ro false .u8 z2) y2) :
    Sy.VR e (.agg [.ints .u8 32 ((bs.drop 0).take 32), .ints .u8 32 ((bs.drop 32).take 32), .ints .u8 32 ((bs.drop 64).take 32), .ints .u8 32 ((bs.drop 96).take 32), .ro false .u8 z0, .ro false .u8 z1, .ro false .u8 z2]) (.agg ⟨Sy.intsV .u8 bs ++ [y0, y1, y2]⟩) := by
  refine ⟨Sy.intsV .u8 bs ++ [y0, y1, y2], ?_, rfl⟩
  rw [List.drop_zero]
  refine cutP (by omega) ?_
  refine cutP (by rw [List.length_drop]; omega) ?_
  rw [List.drop_drop]
  refine cutP (by rw [List.length_drop]; omega) ?_
  rw [List.drop_drop]
  refine cutP (by rw [List.length_drop]; omega) ?_
  rw [List.drop_drop, List.drop_of_length_le (by omega)]
  exact ⟨y0, [y1, y2], h0, ⟨y1, [y2], h1, ⟨y2, [], h2, rfl, rfl⟩, rfl⟩, rfl⟩
theorem walk {bs p q pro : List Int} (hl : bs.length = 128) (hb : ∀ z ∈ bs, 0 ≤ z ∧ z < 256) (hp : ∀ z ∈ p, 0 ≤ z ∧ z < 256) (hq : ∀ z ∈ q, 0 ≤ z ∧ z < 256)
    (w : World) {y0 y1 y2 : Value} (v0 : Sy.VR (Sy.env0 (Sy.allZ w) w.heap.size) (.ro false .u8 p) y0) (v1 : Sy.VR (Sy.env0 (Sy.allZ w) w.heap.size) (.ro false .u8 q) y1) (v2 : Sy.VR (Sy.env0 (Sy.allZ w) w.heap.size) (.ro false .u8 pro) y2) :
    Calls Tryz.prog 7 #[.agg ⟨Sy.intsV .u8 bs ++ [y0, y1, y2]⟩] w fun e w' => e = .returned (.bool true) ∧ Below w.heap.size w w' :=
  Sy.FnTr.below (No.shakes_law (take_ok hb 0 (by omega)) (take_ok hb 32 (by omega)) (take_ok hb 64 (by omega)) (take_ok hb 96 (by omega)) hp hq pro) ⟨_, _, tail3 hl v0 v1 v2, rfl, rfl⟩
set_option maxRecDepth 100000 in
theorem lifted (os : Os) (started : os.Started) (H : Type) (enc : TypeId × Value → H) :
    ReturnsInHanded {} Tryz.checked os 7 .any (Rows.noiseShakesSpec.pre6 enc Tryz.prog Tryz.f7 Rows.noiseShakesRow.domain false) (Rows.noiseShakesSpec.post enc Tryz.prog Tryz.f7 false true false false) := by
  refine returnsInHanded_of_change (C := Tryz.checked) own started (by kernel_rfl) Tryz.func7
    (ChangeSpec.witness6 (enc := enc) (C := Tryz.checked) false ⟨#[], #[.agg ⟨List.replicate 128 (.int .u8 0) ++ [.slice none 0 0, .slice none 0 0, .slice none 0 0]⟩], []⟩ 8 (by kernel_rfl) (by kernel_rfl) (by kernel_rfl) (by kernel_rfl)) ?_
  intro W base args ds gs before hval0 hW hcnd _
  have hval : ∀ (j : Nat) t v, Tryz.f7.params[j]? = some t → args[j]? = some v → Value.okWide Tryz.prog W .any base t v := hval0
  have hW' := hW
  obtain ⟨p, q, hA0, hV, rfl, hfz, hnd⟩ := hW
  have hA : DataW.TrodAll enc Tryz.prog W 0 (fun _ => true) true Tryz.f7.params.toList args.toList ds p := hA0
  rw [Tryz.params7] at hA hval
  obtain ⟨v0, vs0, d0, ds0, p0, q0, hargs0, rfl, rfl, h0, r0⟩ := trodAll_cons hA
  obtain ⟨rfl, rfl, rfl⟩ := trodAll_nil r0
  obtain rfl : args = #[v0] := by cases args; simp_all
  obtain ⟨rfl, rfl⟩ := trodVars_none hV
  obtain ⟨bs, zf, ys, rfl, l0, b0, ly, hy⟩ := Sy.open_tails (P := Tryz.prog) (m := W.heap.size) (t := 50) (T := 24) (e := 5) (i := 4) (n := 128) (k := 3) (B := Rows.uptoBulk d0 + 1) Tryz.underlying50 (by kernel_rfl) (by kernel_rfl) (by kernel_rfl) (by kernel_rfl) (by kernel_rfl) (by kernel_rfl) (by omega) (by kernel_rfl) (hval 0 50 v0 rfl rfl) h0
    (fun parts elems spare hd hm => bulk_any hd hm)
  obtain ⟨y0, e0, w0, c0, n0⟩ := hy 0 (by omega)
  obtain ⟨y1, e1, w1, c1, n1⟩ := hy 1 (by omega)
  obtain ⟨y2, e2, w2, c2, n2⟩ := hy 2 (by omega)
  obtain rfl := three ly e0 e1 e2
  have lt : ∀ {t v d p}, DataW.Trod enc Tryz.prog W 0 (fun _ => true) true t v d p → ∀ x ∈ p, x.block < W.heap.size := fun h => by obtain ⟨m, hm⟩ := h; exact DataW.trod_lt m _ _ _ hm
  clear hA0 hval0
  refine (walk l0 b0 c0 c1 W w0 w1 w2).mono fun e W' ⟨he, bel⟩ => ?_
  subst he
  exact ⟨_, rfl, _, _, _, [], _, [], hW', trodAll_mk1 (shut_bool Tryz.underlying4 _), (trodAll_cons_mk (Below.trod laidOut (by kernel_rfl) (of_decide_eq_true (by kernel_rfl)) h0 bel (lt h0)) trodAll_mk0), rfl, bel.frame _, fun h => by cases h⟩
theorem over : Rows.noiseShakesRow.holds Tryz.pinned (OpenSpec.ofChange Rows.noiseShakesSpec) :=
  OpenClaim.holds_of_wide 7 Tryz.f7 rfl rfl rfl rfl rfl rfl rfl ⟨rfl, rfl, rfl, rfl, rfl⟩ rfl rfl rfl rfl rfl (by kernel_rfl) Tryz.func7 (by kernel_rfl)
    (of_decide_eq_true (by kernel_rfl)) (by unfold Func.isWrapper; first | (rw [if_pos (by decide +kernel)]; kernel_rfl) | (rw [if_neg (by decide +kernel)]; exact ⟨rfl, rfl⟩))
    (fun os started H enc _ => lifted os started H enc)
end Go.Proofs.YtibfpjeeanppjaaGreat.noiseShakes
namespace Go.Proofs.YtibfpjeeanppjaaGreat
theorem noiseShakesProved : Rows.NoiseShakesSaid := noiseShakes.over
#print axioms noiseShakesProved
end Go.Proofs.YtibfpjeeanppjaaGreat
