/- This file proves contracts of the reference's Public, Sign and Verify: they answer as the program's. Conditions: bytes within their kind; lengths that memory bears. -/
import Derived.Test.YtkoohnpknhoahaaTSgE
set_option linter.all false
namespace Go.Proofs.Ytkoohnpknhoahaa.Sg
open Go Go.Sy Re Fe Po Sh
theorem base_ptQ : RQ baseQ baseA := by
  have hr : rootV (uV BY) = some BX := by
    rw [uV_i, rootV_i (show 0 ≤ uVi BY from (mod_range _).1)]
    exact base_root
  refine ⟨(BX, BY, 1), ⟨okQ_iff.2 ⟨refM_okN _, refM_okN _, by decide⟩, ?_, ?_, by decide⟩, (rv_one (root_sq hr) rfl).2⟩
  · show vR (refN (_ % Pm)) = BX
    rw [vR_refM]; decide +kernel
  · show vR (refN (_ % Pm)) = BY
    rw [vR_refM]; decide +kernel
noncomputable def nQ (l : List Int) : List Int := clQ ((longQ l).take 32)
theorem nQ_eq {l : List Int} (h : keyOK l = true) : nQ l = nK l ∧ (longQ l).drop 32 = preW l := by
  obtain ⟨h1, h2⟩ := keyBy h
  unfold nQ nK preW
  rw [List.flatten_cons, List.flatten_nil, List.append_nil, ← longW_eq h2 (by omega)]
  exact ⟨(cl_eq (l := (longW l).take 32) (fun x hx => longW_by _ x (List.mem_of_mem_take hx)) (by rw [List.length_take, longW_len]; rfl)).1.symm, rfl⟩
noncomputable def puQ : Ctr := mk (P := Try.prog) [longRE, halvesE, clampRE, baseRE, timesRE, Po.bytesRE] []
theorem puQ_ok : CtrSound Try.prog puQ := mk_sound _ InlOK.nil _ _
theorem publicR_fn {l : List Int} (h : keyOK l = true) : FnTr Try.prog 13 [.agg [.ints .u8 32 l]] [] (.agg [.ints .u8 32 (pubW l)]) [] := by
  obtain ⟨h1, h2⟩ := keyBy h
  have hn := (nQ_eq h).1
  have hr := base_ptQ.times (e := nQ l) (by rw [hn]; exact nK_ok l)
  have hk := hr.ok
  have hb := base_ptQ.ok
  have h64 := longQ_len l
  have e : bytesQ (timesQ baseQ (nQ l)) = pubW l := by rw [hr.bytes, pubW_eq, hn]
  rw [← e]
  unfold nQ at hk
  exact call0 puQ_ok 60 Try.func13 (p := andT (andT (andT (andT (andT true (andT (andT (decide (l.length = 32) && true) (decide (l.length = 32))) (decide (l.length < 274877900000)))) (andT true (decide ((longQ l).length = 64)))) (andT true (decide ((List.take 32 (longQ l)).length = 32)))) (andT true (okQ baseQ))) (andT true (okQ (timesQ baseQ (clQ (List.take 32 (longQ l)))))))
    (by kernel_rfl) (by simp [andT, h1, h64, hb, hk]) rfl
noncomputable def publicRF : List SV → Option (SV × List Blk × Bool)
  | [.agg [.ints .u8 32 l]] => some (.agg [.ints .u8 32 (pubW l)], [], keyOK l)
  | _ => none
noncomputable def publicRE : Entry Try.prog := .val 13 _ Try.func13 (by decide) rfl false 0 publicRF fun vs v new e => by
  unfold publicRF at e
  split at e
  · simp only [Option.some.injEq, Prod.mk.injEq] at e
    obtain ⟨rfl, rfl, h⟩ := e
    exact publicR_fn h
  · cases e
noncomputable def vQ (a b : Bool) : Ctr := mk (P := Try.prog) [halvesE, Po.fromRE, Sp.refBitsE, digestE, baseRE, timesRE, Po.negRE, Po.addRE, Po.bytesRE] [] fun i => if i = 25 then some a else if i = 30 then some b else if i = 33 || i = 35 || i = 37 then some true else none
theorem vQ_ok (a b : Bool) : CtrSound Try.prog (vQ a b) := mk_sound _ InlOK.nil _ _
noncomputable def kVQ (p g t : List Int) : List Int := redF (longQ (List.replicate 0 0 ++ List.take 32 g ++ p ++ t))
noncomputable def vPQ (p g t : List Int) : QP := addQ (timesQ baseQ (List.drop 32 g)) (negQ (timesQ (frQ p) (kVQ p g t)))
noncomputable def vQO2 (p g : List Int) : Bool := andT (andT (andT (andT (andT (andT true (andT true (decide (g.length = 64)))) (andT true (keyOK p))) !!frOkR p) (andT (andT (decide ((List.drop 32 g).length = 32) && true) (decide ((List.drop 32 g).length = 32))) ((List.drop 32 g).all u8 && (decide (0 < (List.drop 32 g).length) && decide ((List.drop 32 g).length ≤ 1099511627776))))) (andT (decide ((redF (List.drop 32 g)).length = 32)) (decide ((List.drop 32 g).length = 32)))) !decide (redF (List.drop 32 g) = List.drop 32 g)
noncomputable def vQO3 (p g t : List Int) : Bool := andT (andT (andT (andT (andT (andT (andT (andT (andT (andT (andT (andT (andT (andT (andT (andT true (andT true (decide (g.length = 64)))) (andT true (keyOK p))) !!frOkR p) (andT (andT (decide ((List.drop 32 g).length = 32) && true) (decide ((List.drop 32 g).length = 32))) ((List.drop 32 g).all u8 && (decide (0 < (List.drop 32 g).length) && decide ((List.drop 32 g).length ≤ 1099511627776))))) (andT (decide ((redF (List.drop 32 g)).length = 32)) (decide ((List.drop 32 g).length = 32)))) !!decide (redF (List.drop 32 g) = List.drop 32 g)) (decide ((List.take 32 g).length = 32) && true)) (andT (andT (decide (p.length = 32) && true) (decide ((List.replicate 0 0 ++ List.take 32 g).length = 0 + 32) && true)) (decide ((List.replicate 0 0 ++ List.take 32 g).length = 0 + 32)))) (andT (andT (andT true (decide ((List.replicate 0 0 ++ List.take 32 g ++ p).length = (0 + 32) + 32) && true)) (decide ((List.replicate 0 0 ++ List.take 32 g ++ p).length = (0 + 32) + 32))) (decide (((0 + 32) + 32) + t.length ≤ 2 ^ 38)))) (andT (andT (decide ((List.replicate 0 0 ++ List.take 32 g ++ p ++ t).length = ((0 + 32) + 32) + t.length) && (decide (((0 + 32) + 32) + t.length ≤ ((0 + 32) + 32) + t.length) && true)) (decide ((List.replicate 0 0 ++ List.take 32 g ++ p ++ t).length = ((0 + 32) + 32) + t.length))) (decide ((List.replicate 0 0 ++ List.take 32 g ++ p ++ t).length < 274877900000)))) (andT true (okQ baseQ))) (andT true (okQ (frQ p)))) (andT true (okQ (timesQ (frQ p) (kVQ p g t))))) (andT true (okQ (timesQ baseQ (List.drop 32 g)) && okQ (negQ (timesQ (frQ p) (kVQ p g t)))))) (andT true (okQ (vPQ p g t)))) (andT (decide ((bytesQ (vPQ p g t)).length = 32)) (decide ((List.take 32 g).length = 32)))
section
set_option maxRecDepth 100000
theorem vQ_run1 (p g t : List Int) : (callS Try.prog (vQ true true) 60 Try.f15 [.agg [.ints .u8 32 p], .agg [.ints .u8 64 g], .ro false .u8 t] []).map (fun x => (x.1, x.2.2)) = some (.bool false, andT (andT (andT true (andT true (decide (g.length = 64)))) (andT true (keyOK p))) !frOkR p) := by kernel_rfl
theorem vQ_run2 (p g t : List Int) : (callS Try.prog (vQ false true) 60 Try.f15 [.agg [.ints .u8 32 p], .agg [.ints .u8 64 g], .ro false .u8 t] []).map (fun x => (x.1, x.2.2)) = some (.bool false, vQO2 p g) := by kernel_rfl
theorem vQ_run3 (p g t : List Int) : (callS Try.prog (vQ false false) 60 Try.f15 [.agg [.ints .u8 32 p], .agg [.ints .u8 64 g], .ro false .u8 t] []).map (fun x => (x.1, x.2.2)) = some (.bool (decide (bytesQ (vPQ p g t) = List.take 32 g)), vQO3 p g t) := by kernel_rfl
end
theorem verifyR_fn {p g t : List Int} (hp : keyOK p = true) (hg : g.length = 64) (hb : ∀ x ∈ g, 0 ≤ x ∧ x < 256) (ht : ∀ x ∈ t, 0 ≤ x ∧ x < 256) (hl : t.length < 270000000000) :
    FnTr Try.prog 15 [.agg [.ints .u8 32 p], .agg [.ints .u8 64 g], .ro false .u8 t] [] (.bool (verW p g t)) [] := by
  have hd : (g.drop 32).length = 32 := by simp [hg]
  have hs : (g.drop 32).take 32 = g.drop 32 := List.take_of_length_le (by omega)
  have hk := half_key hg hb
  rw [hs] at hk
  have hu := (keyOK_iff.1 hk).2
  have hu2 : (g.drop 32).all u8 = true := hu
  have hr := Sp.residue_law hu hd
  have hq := (red_ok (g.drop 32)).1
  have hq' := (keyOK_iff.1 hq).1
  unfold verW
  rw [hs, hr]
  cases ho : frOk p with
  | false =>
    refine call0 (vQ_ok true true) 60 Try.func15 (vQ_run1 p g t) ?_ rfl
    rw [from_eq hp, ho, decide_eq_true hg, hp]; rfl
  | true =>
    have ho' := from_eq hp
    rw [ho] at ho'
    by_cases hres : redF (g.drop 32) = g.drop 32
    · rw [decide_eq_true hres, Bool.true_and, Bool.true_and]
      have hpl := (keyBy hp).1
      have f1 : (g.take 32).length = 32 := by simp [hg]
      have hby : ∀ x ∈ List.replicate 0 0 ++ List.take 32 g ++ p ++ t, (0 : Int) ≤ x ∧ x < 256 := fun x hx => by
        simp only [List.replicate_zero, List.nil_append, List.append_assoc, List.mem_append] at hx
        rcases hx with hx | hx | hx
        · exact hb x (List.mem_of_mem_take hx)
        · exact (keyBy hp).2 x hx
        · exact ht x hx
      have hlen : (List.replicate 0 0 ++ List.take 32 g ++ p ++ t).length = 64 + t.length := by simp [f1, hpl]; omega
      have hkk : kVQ p g t = vkW p g t := by
        unfold kVQ vkW
        rw [← longW_eq hby (by omega)]
        simp
      obtain ⟨A, p1, q1, _, e, _⟩ := vb_eq hp hg hb t
      rw [hs] at e
      have k1 : keyOK (kVQ p g t) = true := (red_ok _).1
      have r1 := base_ptQ.times hk
      have r2 := q1.times k1
      have r3 := r1.add r2.neg
      have hbq : bytesQ (vPQ p g t) = vbW p g t := by
        rw [e, ← hkk]
        exact r3.bytes
      have hbl : (bytesQ (vPQ p g t)).length = 32 := by rw [hbq, e, encA_len]
      have o1 := base_ptQ.ok
      have o2 := q1.ok
      have o3 := r1.ok
      have o4 := r2.ok
      have o5 := r2.neg.ok
      have o6 : okQ (vPQ p g t) = true := r3.ok
      rw [← hbq]
      refine call0 (vQ_ok false false) 60 Try.func15 (vQ_run3 p g t) ?_ rfl
      unfold vQO3
      simp only [List.replicate_zero, List.nil_append, List.append_assoc] at hlen ⊢
      simp [andT_iff, hg, hp, ho', hd, hu2, hres, f1, hpl, o1, o2, o3, o4, o5, o6, hbl]
      omega
    · rw [decide_eq_false hres]
      refine call0 (vQ_ok false true) 60 Try.func15 (vQ_run2 p g t) ?_ rfl
      unfold vQO2
      simp [andT, hg, hp, ho', hd, hu2, hq', hres]
noncomputable def verifyRF : List SV → Option (SV × List Blk × Bool)
  | [.agg [.ints .u8 32 p], .agg [.ints .u8 64 g], .ro false .u8 t] => some (.bool (verW p g t), [], keyOK p && decide (g.length = 64) && g.all u8 && t.all u8 && decide (t.length < 270000000000))
  | _ => none
noncomputable def verifyRE : Entry Try.prog := .val 15 _ Try.func15 (by decide) rfl true 0 verifyRF fun vs v new e => by
  unfold verifyRF at e
  split at e
  · simp only [Option.some.injEq, Prod.mk.injEq, Bool.and_eq_true, decide_eq_true_eq] at e
    obtain ⟨rfl, rfl, ⟨⟨⟨h0, h1⟩, h2⟩, h3⟩, h4⟩ := e
    rw [List.all_eq_true] at h2 h3
    exact verifyR_fn h0 h1 (fun x hx => u8_iff.1 (h2 x hx)) (fun x hx => u8_iff.1 (h3 x hx)) h4
  · cases e
end Go.Proofs.Ytkoohnpknhoahaa.Sg
