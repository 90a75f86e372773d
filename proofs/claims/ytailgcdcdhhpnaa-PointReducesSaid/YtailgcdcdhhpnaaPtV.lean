/- This file proves the row PointReduces: whatever the bytes, the law PointReduces returns true, and they read as they did. No conditions. -/
import Derived.Test.YtailgcdcdhhpnaaRows
import Derived.Test.YtailgcdcdhhpnaaPtU
import Derived.Test.YtailgcdcdhhpnaaLiftH
import Derived.WalkKit
import Derived.ProofKit
import Derived.OpenShut
import Derived.ShutString
import Derived.ChangeOld
import Derived.Below
namespace Go.Proofs.Ytailgcdcdhhpnaa.pointReduces
open Go Go.Lift
open Go.ChangeShapes Go.WideShapes Go.ChangeAt Go.RowKit
set_option linter.unusedVariables false

theorem own : ownKnob Try.prog.godebug = none := by kernel_rfl
theorem laidOut : laidOutB Try.prog = true := by kernel_rfl

/-- What came in: no slice, or one in a block of cells, its elements the bytes zs. -/
def IsRow (w : World) (a : Option Addr) (len cap : Nat) (zs : List Int) : Prop :=
  (a = none ∧ len = 0 ∧ cap = 0 ∧ zs = []) ∨
  ∃ x c t fr, a = some x ∧ x.spot = none ∧ w.heap[x.block]? = some (.cells c t fr) ∧ zs.length = len ∧ zs.all u8 = true ∧ intsV .u8 zs = (c.toList.drop x.off).take zs.length

theorem walk (a0 : Option Addr) (len0 cap0 : Nat) (z0 : List Int) (w : World) (w0 : IsRow w a0 len0 cap0 z0) :
    Calls Try.prog 3 #[.slice a0 len0 cap0] w fun e w' => e = .returned (.bool true) ∧ Below w.heap.size w w' := by
  rcases w0 with ⟨rfl, rfl, rfl, rfl⟩ | ⟨x, c, t, fr, rfl, hs, hb, hlen, hu, hz⟩
  · obtain ⟨g, hg⟩ := law_nil
    exact FnTr.below Try.func3 hg (LR.plain [.slice none 0 0] rfl) (Rel.none w) (fun i p hp => by simp at hp)
  · have hl : LR (lk [⟨x.block, x.off, true⟩]) [sliceArg 0 z0.length cap0] [.slice (some x) len0 cap0] := by
      obtain ⟨b, o, sp⟩ := x
      simp only at hs
      subst hs
      exact ⟨_, [], ⟨⟨b, o, true⟩, rfl, rfl⟩, rfl, by rw [hlen]; rfl⟩
    have hro : ∀ (i : Nat) (p : Pl), [(⟨x.block, x.off, true⟩ : Pl)][i]? = some p → p.ro = true := fun i p hp => by
      have h1 := (List.getElem?_eq_some_iff.1 hp).1
      simp at h1
      subst h1
      simp at hp
      subst hp
      rfl
    have R := Rel.one (w := w) hb hz
    by_cases hn : (z0.length : Int) > 64
    · obtain ⟨g, hg⟩ := law_big z0 cap0 hn
      exact FnTr.below Try.func3 hg hl R hro
    · obtain ⟨g, hg⟩ := law_small z0 cap0 hu (by omega)
      exact FnTr.below Try.func3 hg hl R hro

/-! ### The row -/
set_option maxRecDepth 100000 in
theorem lifted (os : Os) (started : os.Started) (H : Type) (enc : TypeId × Value → H) :
    ReturnsInHanded {} Try.checked os 3 .any (Rows.pointReducesSpec.pre6 enc Try.prog Try.f3 Rows.pointReducesRow.domain false) (Rows.pointReducesSpec.post enc Try.prog Try.f3 false true false false) := by
  refine returnsInHanded_of_change (C := Try.checked) own started (by kernel_rfl) Try.func3
    (ChangeSpec.witness6 (enc := enc) (C := Try.checked) false ⟨#[], #[.slice none 0 0], []⟩ 8 (by kernel_rfl) (by kernel_rfl) (by kernel_rfl) (by kernel_rfl)) ?_
  intro W base args ds gs before hval0 hW hcnd _
  have hval : ∀ (j : Nat) t v, Try.f3.params[j]? = some t → args[j]? = some v → Value.okWide Try.prog W .any base t v := hval0
  have hW' := hW
  obtain ⟨p, q, hA0, hV, rfl, hfz, hnd⟩ := hW
  have hA : DataW.TrodAll enc Try.prog W 0 (fun _ => true) true Try.f3.params.toList args.toList ds p := hA0
  rw [Try.params3] at hA hval
  obtain ⟨v0, vs0, d0, ds0, p0, q0, hargs, rfl, rfl, h0, r0⟩ := trodAll_cons hA
  obtain ⟨rfl, rfl, rfl⟩ := trodAll_nil r0
  obtain rfl : args = #[v0] := by cases args; simp_all
  obtain ⟨rfl, rfl⟩ := trodVars_none hV
  obtain ⟨a0, len0, cap0, rfl⟩ := okWide_slice Try.underlying22 (hval 0 22 v0 rfl rfl)
  have k0 := h0
  have lt0 : ∀ x ∈ p0, x.block < W.heap.size := by obtain ⟨m, hm⟩ := k0; exact DataW.trod_lt m _ _ _ hm
  obtain ⟨z0, w0⟩ : ∃ zs, IsRow W a0 len0 cap0 zs := by
    obtain ⟨fuel, hf⟩ := h0
    rcases open_ints Try.underlying22 Try.underlying5 (by kernel_rfl) hf with ⟨hcs, _⟩ | ⟨x, l, c, zs, hcs, _, hl, hm, hz, _, hcell, hwz⟩
    · simp [Value.cells] at hcs
      obtain ⟨rfl, rfl, rfl⟩ := hcs
      exact ⟨[], .inl ⟨rfl, rfl, rfl, rfl⟩⟩
    · simp [Value.cells] at hcs
      obtain ⟨rfl, rfl, rfl⟩ := hcs
      obtain ⟨hs, c, t, fr, hb⟩ := block_of_wide Try.underlying22 (hval 0 22 _ rfl rfl)
      have hzl : zs.length = cap0 := by simpa using hz
      have hlt : (zs.take len0).length = len0 := by rw [List.length_take]; omega
      refine ⟨zs.take len0, .inr ⟨x, c, t, fr, rfl, hs, hb, hlt, ?_, ?_⟩⟩
      · rw [List.all_eq_true]
        intro n hn
        have h1 := hwz n (List.mem_of_mem_take hn)
        rw [u8_iff]
        have h2 : 0 ≤ n ∧ n ≤ 255 := by simpa [Lit.wf, IntKind.min, IntKind.max, IntKind.signed, IntKind.bits] using h1
        omega
      · refine win_of_cells hb hs fun i hi => ?_
        rw [hcell i (by omega)]
        simp only [List.getD, List.getElem?_take]
        rw [if_pos (by omega)]
  clear hA0 hval0
  refine (walk a0 len0 cap0 z0 W w0).mono fun e W' ⟨he, bel⟩ => ?_
  subst he
  exact ⟨_, rfl, _, _, _, [], _, [], hW', trodAll_mk1 (shut_bool Try.underlying4 _), (trodAll_cons_mk (Below.trod laidOut (by kernel_rfl) (of_decide_eq_true (by kernel_rfl)) k0 bel lt0) trodAll_mk0), rfl, bel.frame _, fun h => by cases h⟩

theorem over : Rows.pointReducesRow.holds Try.pinned (OpenSpec.ofChange Rows.pointReducesSpec) :=
  OpenClaim.holds_of_wide 3 Try.f3 rfl rfl rfl rfl rfl rfl rfl ⟨rfl, rfl, rfl, rfl, rfl⟩ rfl rfl rfl rfl rfl (by kernel_rfl) Try.func3 (by kernel_rfl)
    (of_decide_eq_true (by kernel_rfl)) (by unfold Func.isWrapper; first | (rw [if_pos (by decide +kernel)]; kernel_rfl) | (rw [if_neg (by decide +kernel)]; exact ⟨rfl, rfl⟩))
    (fun os started H enc _ => lifted os started H enc)

end Go.Proofs.Ytailgcdcdhhpnaa.pointReduces
namespace Go.Proofs.Ytailgcdcdhhpnaa
theorem pointReducesProved : Rows.PointReducesSaid := pointReduces.over
#print axioms pointReducesProved
end Go.Proofs.Ytailgcdcdhhpnaa
