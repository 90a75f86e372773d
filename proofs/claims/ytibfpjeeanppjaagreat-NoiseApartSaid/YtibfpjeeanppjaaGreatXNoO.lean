/- This file proves the row NoiseApart: whatever comes in, the law NoiseApart returns true. No conditions. -/
import Derived.Test.YtibfpjeeanppjaaGreatRows
import Derived.Test.YtibfpjeeanppjaaGreatXNoN
import Derived.Test.YtibfpjeeanppjaaGreatXBxN
import Derived.WalkKit
import Derived.ProofKit
import Derived.OpenShut
import Derived.ShutString
import Derived.ChangeOld
import Derived.Below
set_option linter.all false
namespace Go.Proofs.YtibfpjeeanppjaaGreat.noiseApart
open Go
open Jd
open Go.ChangeShapes Go.WideShapes Go.ChangeAt Go.RowKit
set_option linter.unusedVariables false
theorem own : ownKnob Tryz.prog.godebug = none := by kernel_rfl
theorem laidOut : laidOutB Tryz.prog = true := by kernel_rfl
theorem zL {bs : List Int} (h : ∀ z ∈ bs, 0 ≤ z ∧ z < 256) (i : Nat) (l : i + 32 ≤ bs.length) : Re.ak ((bs.drop i).take 32) = true := by
  refine Re.bK.2 ⟨by rw [List.length_take, List.length_drop]; omega, ?_⟩
  rw [List.all_eq_true]
  exact fun z hz => Fe.mN.2 (h z (List.mem_of_mem_drop (List.mem_of_mem_take hz)))
theorem Ri {e : Sy.Env} {bs : List Int} {ps : List Sy.SV} {ys : List Value} (h : 32 ≤ bs.length) (g : Sy.PR e ps (Sy.aN .u8 (bs.drop 32) ++ ys)) : Sy.PR e (.ints .u8 32 (bs.take 32) :: ps) (Sy.aN .u8 bs ++ ys) := by
  refine ⟨Sy.aN .u8 (bs.drop 32) ++ ys, g, ?_⟩
  rw [Sy.aF (by rw [List.length_take]; omega), ← List.append_assoc, ← Sy.eV, List.take_append_drop]
theorem three {ys : List Value} {y0 y1 y2 : Value} (h : ys.length = 3) (e0 : ys[0]? = some y0) (e1 : ys[1]? = some y1) (e2 : ys[2]? = some y2) : ys = [y0, y1, y2] := by
  match ys, h with
  | [a, b, c], _ =>
    simp only [List.getElem?_cons_zero, List.getElem?_cons_succ, Option.some.injEq] at e0 e1 e2
    rw [e0, e1, e2]
theorem acT {e : Sy.Env} {bs z0 z1 z2 : List Int} {y0 y1 y2 : Value} (h : bs.length = 128) (h0 : Sy.VR e (.ro false .u8 z0) y0) (h1 : Sy.VR e (.ro false .u8 z1) y1) (h2 : Sy.VR e (.ro false .u8 z2) y2) :
    Sy.VR e (.agg [.ints .u8 32 ((bs.drop 0).take 32), .ints .u8 32 ((bs.drop 32).take 32), .ints .u8 32 ((bs.drop 64).take 32), .ints .u8 32 ((bs.drop 96).take 32), .ro false .u8 z0, .ro false .u8 z1, .ro false .u8 z2]) (.agg ⟨Sy.aN .u8 bs ++ [y0, y1, y2]⟩) := by
  refine ⟨Sy.aN .u8 bs ++ [y0, y1, y2], ?_, rfl⟩
  rw [List.drop_zero]
  refine Ri (by omega) ?_
  refine Ri (by rw [List.length_drop]; omega) ?_
  rw [List.drop_drop]
  refine Ri (by rw [List.length_drop]; omega) ?_
  rw [List.drop_drop]
  refine Ri (by rw [List.length_drop]; omega) ?_
  rw [List.drop_drop, List.drop_of_length_le (by omega)]
  exact ⟨y0, [y1, y2], h0, ⟨y1, [y2], h1, ⟨y2, [], h2, rfl, rfl⟩, rfl⟩, rfl⟩
theorem Rj {zs : List Int} (l : zs.length = 32) (h : ∀ z ∈ zs, IntKind.u8.has z) : Re.ak zs = true := by
  refine Re.bK.2 ⟨l, ?_⟩
  rw [List.all_eq_true]
  intro z hz
  have := h z hz
  rw [Fe.mN]
  simp [IntKind.has, IntKind.min, IntKind.max, IntKind.signed, IntKind.bits] at this
  omega
theorem walk {bs p q bJ ot lz : List Int} (hl : bs.length = 128) (hb : ∀ z ∈ bs, 0 ≤ z ∧ z < 256) (ho : Re.ak ot = true) (h2 : ∀ z ∈ lz, 0 ≤ z ∧ z < 256)
    (w : World) {y0 y1 y2 y3 : Value} (v0 : Sy.VR (Sy.gK (Sy.ji w) w.heap.size) (.ro false .u8 p) y0) (v1 : Sy.VR (Sy.gK (Sy.ji w) w.heap.size) (.ro false .u8 q) y1) (v2 : Sy.VR (Sy.gK (Sy.ji w) w.heap.size) (.ro false .u8 bJ) y2) (v3 : Sy.VR (Sy.gK (Sy.ji w) w.heap.size) (.ro false .u8 lz) y3) :
    Calls Tryz.prog 5 #[.agg ⟨Sy.aN .u8 bs ++ [y0, y1, y2]⟩, .agg ⟨Sy.aN .u8 ot⟩, y3] w fun e w' => e = .returned (.bool true) ∧ Below w.heap.size w w' :=
  Sy.ai.below (No.HV (zL hb 0 (by omega)) (zL hb 32 (by omega)) (zL hb 64 (by omega)) ho (Bx.ld h2) _ _) ⟨_, _, acT hl v0 v1 v2, ⟨_, _, Sy.VR.Qt (Re.bK.1 ho).1, ⟨_, _, v3, rfl, rfl⟩, rfl⟩, rfl⟩
set_option maxRecDepth 100000 in
theorem lifted (os : Os) (started : os.Started) (H : Type) (enc : TypeId × Value → H) :
    ReturnsInHanded {} Tryz.checked os 5 .any (Rows.noiseApartSpec.pre6 enc Tryz.prog Tryz.f5 Rows.noiseApartRow.domain false) (Rows.noiseApartSpec.post enc Tryz.prog Tryz.f5 false true false false) := by
  refine returnsInHanded_of_change (C := Tryz.checked) own started (by kernel_rfl) Tryz.func5
    (ChangeSpec.witness6 (enc := enc) (C := Tryz.checked) false ⟨#[], #[.agg ⟨List.replicate 128 (.int .u8 0) ++ [.slice none 0 0, .slice none 0 0, .slice none 0 0]⟩, .agg (Array.replicate 32 (.int .u8 0)), .slice none 0 0], []⟩ 8 (by kernel_rfl) (by kernel_rfl) (by kernel_rfl) (by kernel_rfl)) ?_
  intro W base args ds gs before Ua hW alZ _
  have hval : ∀ (j : Nat) t v, Tryz.f5.params[j]? = some t → args[j]? = some v → Value.okWide Tryz.prog W .any base t v := Ua
  have hW' := hW
  obtain ⟨p, q, hA0, hV, rfl, hfz, xh⟩ := hW
  have hA : DataW.TrodAll enc Tryz.prog W 0 (fun _ => true) true Tryz.f5.params.toList args.toList ds p := hA0
  rw [Tryz.params5] at hA hval
  obtain ⟨v0, vs0, d0, ds0, p0, q0, ag1, rfl, rfl, h0, r0⟩ := trodAll_cons hA
  obtain ⟨v1, vs1, d1, ds1, p1, q1, ag2, rfl, rfl, h1, r1⟩ := trodAll_cons r0
  obtain ⟨v2, vs2, d2, ds2, p2, q2, ag3, rfl, rfl, h2, r2⟩ := trodAll_cons r1
  obtain ⟨rfl, rfl, rfl⟩ := trodAll_nil r2
  obtain rfl : args = #[v0, v1, v2] := by cases args; simp_all
  obtain ⟨rfl, rfl⟩ := trodVars_none hV
  obtain ⟨bs, zf, ys, rfl, l0, b0, ly, hy⟩ := Sy.CN (P := Tryz.prog) (m := W.heap.size) (t := 50) (T := 24) (e := 5) (i := 4) (n := 128) (k := 3) (B := Rows.uptoBulk d0 + 1) Tryz.underlying50 (by kernel_rfl) (by kernel_rfl) (by kernel_rfl) (by kernel_rfl) (by kernel_rfl) (by kernel_rfl) (by omega) (by kernel_rfl) (hval 0 50 v0 rfl rfl) h0
    (fun parts elems spare hd hm => Jf hd hm)
  obtain ⟨y0, e0, w0, c0, n0⟩ := hy 0 (by omega)
  obtain ⟨y1, e1, w1, c1, n1⟩ := hy 1 (by omega)
  obtain ⟨y2, e2, w2, c2, n2⟩ := hy 2 (by omega)
  obtain rfl := three ly e0 e1 e2
  obtain ⟨z1, rfl, l1, b1⟩ := Sy.LJ (P := Tryz.prog) (t := 23) (k := .u8) (n := 32) (by kernel_rfl) (by kernel_rfl) (by kernel_rfl) (hval 1 23 v1 rfl rfl)
  obtain ⟨z2, w3, b2⟩ := Sy.CM (P := Tryz.prog) (m := W.heap.size) (t := 24) (e := 5) (by kernel_rfl) (by kernel_rfl) (by kernel_rfl) (hval 2 24 v2 rfl rfl) h2
  have lt : ∀ {t v d p}, DataW.Trod enc Tryz.prog W 0 (fun _ => true) true t v d p → ∀ x ∈ p, x.block < W.heap.size := fun h => by obtain ⟨m, hm⟩ := h; exact DataW.trod_lt m _ _ _ hm
  clear hA0 Ua
  refine (walk l0 b0 (Rj l1 b1) b2 W w0 w1 w2 w3).mono fun e W' ⟨he, bel⟩ => ?_
  subst he
  exact ⟨_, rfl, _, _, _, [], _, [], hW', trodAll_mk1 (shut_bool Tryz.underlying4 _), (trodAll_cons_mk (Below.trod laidOut (by kernel_rfl) (of_decide_eq_true (by kernel_rfl)) h0 bel (lt h0)) (trodAll_cons_mk (Below.trod laidOut (by kernel_rfl) (of_decide_eq_true (by kernel_rfl)) h1 bel (lt h1)) (trodAll_cons_mk (Below.trod laidOut (by kernel_rfl) (of_decide_eq_true (by kernel_rfl)) h2 bel (lt h2)) trodAll_mk0))), rfl, bel.frame _, fun h => by cases h⟩
theorem ag4 : Rows.noiseApartRow.holds Tryz.pinned (OpenSpec.ofChange Rows.noiseApartSpec) :=
  OpenClaim.holds_of_wide 5 Tryz.f5 rfl rfl rfl rfl rfl rfl rfl ⟨rfl, rfl, rfl, rfl, rfl⟩ rfl rfl rfl rfl rfl (by kernel_rfl) Tryz.func5 (by kernel_rfl)
    (of_decide_eq_true (by kernel_rfl)) (by unfold Func.isWrapper; first | (rw [if_pos (by decide +kernel)]; kernel_rfl) | (rw [if_neg (by decide +kernel)]; exact ⟨rfl, rfl⟩))
    (fun os started H enc _ => lifted os started H enc)
end Go.Proofs.YtibfpjeeanppjaaGreat.noiseApart
namespace Go.Proofs.YtibfpjeeanppjaaGreat
theorem noiseApartProved : Rows.NoiseApartSaid := noiseApart.ag4
#print axioms noiseApartProved
end Go.Proofs.YtibfpjeeanppjaaGreat
