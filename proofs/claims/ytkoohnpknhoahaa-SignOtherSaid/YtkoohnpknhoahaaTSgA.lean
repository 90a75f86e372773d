/- This file proves contracts of point.Reduce and of the two Clamps. Conditions: bytes within their kind; Reduce: 1 to 64 bytes. -/
import Derived.Test.YtkoohnpknhoahaaTNd
import Derived.Test.YtkoohnpknhoahaaTSxA
set_option linter.all false
namespace Go.Proofs.Ytkoohnpknhoahaa.Sg
open Go Go.Sy
noncomputable def reduceF : List SV → Option (SV × List Blk × Bool)
  | [.ro _ .u8 l] => some (.tup [.agg [.ints .u8 32 (redF l)], .bool true], [], l.all u8 && (decide (0 < l.length) && decide (l.length ≤ 64)))
  | _ => none
theorem pr_VR (e : Env) (l : List Int) : VR e (.tup [.agg [.ints .u8 32 (redF l)], .bool true]) (.tuple #[Lift.aggI .u8 (redF l), .bool true]) :=
  ⟨_, ⟨_, _, Sp.agg_VR (redF_length l), ⟨_, _, rfl, rfl, rfl⟩, rfl⟩, rfl⟩
noncomputable def reduceE : Entry Try.prog := .val 101 _ Try.func101 (by decide) rfl true 0 reduceF fun vs v new e => by
  unfold reduceF at e
  split at e
  · rename_i f l
    simp only [Option.some.injEq, Prod.mk.injEq, Bool.and_eq_true, decide_eq_true_eq] at e
    obtain ⟨rfl, rfl, hl, h0, hn⟩ := e
    intro B e w args hB hla R
    obtain ⟨y, _, hy, hnil, rfl⟩ := hla
    rw [LR] at hnil; subst hnil
    rcases hy with ⟨rfl, _⟩ | ⟨n, o, cap, c, t, fr, rfl, hz, _, hc, hlc, hoc⟩
    · simp at h0
    · obtain ⟨h1, hg⟩ := red_fn l cap hn
      rw [redF_dig hl hn, Lift.lst_eq (redF_length l)] at hg
      have hb := R.zok n c t fr hz
      have hla : Lift.LR (Lift.lk [⟨n, o, true⟩]) [redArg l cap] [.slice (some ⟨n, o, none⟩) l.length cap] := ⟨_, [], ⟨⟨n, o, true⟩, rfl, rfl⟩, rfl, rfl⟩
      have R1 := Lift.Rel.one (w := w) (a := ⟨n, o, none⟩) (k := .u8) (l := l) hb hc
      have hcall := Lift.FnTr.calls Try.func101 hg hla R1
      refine hcall.mono ?_
      rintro x w' ⟨v', rfl, r', he, hvr, R'⟩
      have := Lift.VR.eq_of_plain _ v' (plain_pr _ _) hvr
      subst this
      have keep : ∀ k, k < w.heap.size → w'.heap[k]? = w.heap[k]? := fun k hk => R'.old k hk fun i p hi hp _ => by
        have h0 : i = 0 := by simpa using hi
        subst h0
        have := he 0 ⟨n, o, true⟩ rfl
        rw [hp] at this; cases this; rfl
      have hk : B.k = 0 := by simpa using hB
      have hr : ∀ i p, e.r i ≠ some p := fun i p hi => by have := R.dom i p hi; simp at this
      exact ⟨_, rfl, e, rfl, pr_VR e l, { R with
        os := R'.os.trans R.os, tape := R'.tape.trans R.tape, output := R'.output.trans R.output, size := Nat.le_trans R.size R'.size
        zok := fun n c ty fr hx => by rw [keep n (R.zlt hx)]; exact R.zok n c ty fr hx
        blk := fun i ps hi => by simp at hi
        gap := fun i g hi => by simp at hi
        old := fun n hn hno hnl => by rw [keep n (by have := R.size; omega)]; exact R.old n hn hno hnl
        win := fun i p hi => absurd (R.keepr i p hi) (hr i p)
        mks := fun r hr => by
          have hm := R.mks r hr
          rw [keep r (Array.getElem?_eq_some_iff.1 hm.1).1]; exact hm }⟩
  · cases e
def clF (l : List Int) : List Int := (l.set 0 (andI .u8 (l.getD 0 0) 248)).set 31 (orI .u8 (andI .u8 ((l.set 0 (andI .u8 (l.getD 0 0) 248)).getD 31 0) 127) 64)
def clQ (l : List Int) : List Int := (l.set 0 (IntKind.u8.wrap (IntKind.u8.wrap ((l.getD 0 0).tdiv 8) * 8))).set 31 (IntKind.u8.wrap (((l.set 0 (IntKind.u8.wrap (IntKind.u8.wrap ((l.getD 0 0).tdiv 8) * 8))).getD 31 0).tmod 64 + 64))
theorem ctr0 : CtrSound Try.prog (mk (P := Try.prog) [] []) := mk_sound _ InlOK.nil _ _
noncomputable def clampEF : List SV → Option (SV × List Blk × Bool)
  | [.agg [.ints .u8 32 l]] => some (.agg [.ints .u8 32 (clF l)], [], decide (l.length = 32))
  | _ => none
set_option maxRecDepth 100000 in
noncomputable def clampE : Entry Try.prog := .val 78 _ Try.func78 (by decide) rfl false 0 clampEF fun vs v new e => by
  unfold clampEF at e
  split at e
  · rename_i l
    simp only [Option.some.injEq, Prod.mk.injEq, decide_eq_true_eq] at e
    obtain ⟨rfl, rfl, h⟩ := e
    exact call0 ctr0 60 Try.func78 (p := andT (andT true (true && decide (l.length = 32))) (true && decide ((l.set 0 (andI .u8 (l.getD 0 0) 248)).length = 32))) (by kernel_rfl) (by simp [h, andT]) rfl
  · cases e
noncomputable def clampREF : List SV → Option (SV × List Blk × Bool)
  | [.agg [.ints .u8 32 l]] => some (.agg [.ints .u8 32 (clQ l)], [], decide (l.length = 32))
  | _ => none
set_option maxRecDepth 100000 in
noncomputable def clampRE : Entry Try.prog := .val 54 _ Try.func54 (by decide) rfl false 0 clampREF fun vs v new e => by
  unfold clampREF at e
  split at e
  · rename_i l
    simp only [Option.some.injEq, Prod.mk.injEq, decide_eq_true_eq] at e
    obtain ⟨rfl, rfl, h⟩ := e
    exact call0 ctr0 60 Try.func54 (p := andT (andT true (true && decide (l.length = 32))) (true && decide ((l.set 0 (IntKind.u8.wrap (IntKind.u8.wrap ((l.getD 0 0).tdiv 8) * 8))).length = 32))) (by kernel_rfl) (by simp [h, andT]) rfl
  · cases e
theorem and_248 : ∀ n : Fin 256, andI .u8 (n.val : Int) 248 = (n.val : Int) - (n.val : Int) % 8 := by decide +kernel
theorem and_127 : ∀ n : Fin 256, orI .u8 (andI .u8 (n.val : Int) 127) 64 = (n.val : Int) % 64 + 64 := by decide +kernel
theorem cl_eq {l : List Int} (h : ∀ x ∈ l, 0 ≤ x ∧ x < 256) (hl : l.length = 32) : clF l = clQ l ∧ (clF l).length = 32 ∧ ∀ x ∈ clF l, 0 ≤ x ∧ x < 256 := by
  have g : ∀ i, i < 32 → 0 ≤ l.getD i 0 ∧ l.getD i 0 < 256 := fun i hi => by
    rw [List.getD_eq_getElem?_getD, List.getElem?_eq_getElem (by omega)]
    exact h _ (List.getElem_mem _)
  have g31 : ∀ v, (l.set 0 v).getD 31 0 = l.getD 31 0 := fun v => by
    rw [List.getD_eq_getElem?_getD, List.getElem?_set_ne (by decide), ← List.getD_eq_getElem?_getD]
  unfold clF clQ
  rw [g31, g31]
  have h0 := g 0 (by decide)
  have h1 := g 31 (by decide)
  generalize l.getD 0 0 = x at *
  generalize l.getD 31 0 = y at *
  have a1 := and_248 ⟨x.toNat, by omega⟩
  have a2 := and_127 ⟨y.toNat, by omega⟩
  simp only [Int.toNat_of_nonneg h0.1, Int.toNat_of_nonneg h1.1] at a1 a2
  have e1 : x.tdiv 8 = x / 8 := Int.tdiv_eq_ediv_of_nonneg h0.1
  have e2 : y.tmod 64 = y % 64 := Int.tmod_eq_emod_of_nonneg h1.1
  have w : ∀ z : Int, IntKind.u8.wrap z = z % 256 := fun z => by simp [IntKind.wrap, IntKind.signed, IntKind.bits]
  rw [a1, a2, e1, e2, w, w, w]
  refine ⟨?_, by simp [hl], fun z hz => ?_⟩
  · rw [show x / 8 % 256 * 8 % 256 = x - x % 8 by omega, show (y % 64 + 64) % 256 = y % 64 + 64 by omega]
  · rcases List.mem_or_eq_of_mem_set hz with hz | rfl
    · rcases List.mem_or_eq_of_mem_set hz with hz | rfl
      · exact h z hz
      · omega
    · omega
end Go.Proofs.Ytkoohnpknhoahaa.Sg
