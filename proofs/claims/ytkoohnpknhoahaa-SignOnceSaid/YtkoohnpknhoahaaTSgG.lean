/- This file proves contracts of the reference's Sign and of the laws' fixed fact. Conditions: bytes within their kind; lengths that memory bears. -/
import Derived.Test.YtkoohnpknhoahaaTSgF
set_option linter.all false
namespace Go.Proofs.Ytkoohnpknhoahaa.Sg
open Go Go.Sy Re Fe Po Sh
noncomputable def sgQ : Ctr := mk (P := Try.prog) [longRE, halvesE, clampRE, publicRE, digestE, baseRE, timesRE, Po.bytesRE, Sp.refMulAddE] [] fun i => if i = 37 || i = 39 || i = 41 then some true else none
theorem sgQ_ok : CtrSound Try.prog sgQ := mk_sound _ InlOK.nil _ _
noncomputable def sgB : Code := bodyOf Try.f17
noncomputable def rT (l t : List Int) : List Int := List.replicate 0 0 ++ List.drop 32 (longQ l) ++ t
noncomputable def rQ (l t : List Int) : List Int := redF (longQ (rT l t))
noncomputable def fQ (l t : List Int) : List Int := bytesQ (timesQ baseQ (rQ l t))
noncomputable def kT (l t : List Int) : List Int := List.replicate 0 0 ++ fQ l t ++ pubW l ++ t
noncomputable def kQ (l t : List Int) : List Int := redF (longQ (kT l t))
noncomputable def sQ (l t : List Int) : List Int := maF (kQ l t) (nQ l) (rQ l t)
noncomputable def sgQO (l t : List Int) : Bool := andT (andT (andT (andT (andT (andT (andT (andT (andT (andT (andT (andT (andT true (andT (andT (decide (l.length = 32) && true) (decide (l.length = 32))) (decide (l.length < 274877900000)))) (andT true (decide ((longQ l).length = 64)))) (andT true (decide ((List.take 32 (longQ l)).length = 32)))) (andT true (keyOK l))) (decide ((List.drop 32 (longQ l)).length = 32) && true)) (andT (andT (andT true (decide ((List.replicate 0 0 ++ List.drop 32 (longQ l)).length = 0 + 32) && true)) (decide ((List.replicate 0 0 ++ List.drop 32 (longQ l)).length = 0 + 32))) (decide ((0 + 32) + t.length ≤ 2 ^ 38)))) (andT (andT (decide ((rT l t).length = (0 + 32) + t.length) && (decide ((0 + 32) + t.length ≤ (0 + 32) + t.length) && true)) (decide ((rT l t).length = (0 + 32) + t.length))) (decide ((rT l t).length < 274877900000)))) (andT true (okQ baseQ))) (andT true (okQ (timesQ baseQ (rQ l t))))) (decide ((fQ l t).length = 32) && true)) (andT (andT (decide ((pubW l).length = 32) && true) (decide ((List.replicate 0 0 ++ fQ l t).length = 0 + 32) && true)) (decide ((List.replicate 0 0 ++ fQ l t).length = 0 + 32)))) (andT (andT (andT true (decide ((List.replicate 0 0 ++ fQ l t ++ pubW l).length = (0 + 32) + 32) && true)) (decide ((List.replicate 0 0 ++ fQ l t ++ pubW l).length = (0 + 32) + 32))) (decide (((0 + 32) + 32) + t.length ≤ 2 ^ 38)))) (andT (andT (decide ((kT l t).length = ((0 + 32) + 32) + t.length) && (decide (((0 + 32) + 32) + t.length ≤ ((0 + 32) + 32) + t.length) && true)) (decide ((kT l t).length = ((0 + 32) + 32) + t.length))) (decide ((kT l t).length < 274877900000)))
noncomputable def sgQO2 (l t : List Int) : Bool := andT (sgQO l t) (andT true (Sp.keyOK (kQ l t) && Sp.keyOK (nQ l) && Sp.keyOK (rQ l t)))
noncomputable def sgE (b0 b2 b3 b4 b5 b6 b7 b9 b10 : Blk) (F S : List Int) : St := ⟨slotsOf 63 [(4, .ptr 1 0 0), (10, .ptr 8 0 0), (12, .ptr 11 0 0), (13, .ptr 12 0 0)], [b0, .b [.ints .u8 64 (List.replicate 64 0)], b2, b3, b4, b5, b6, b7, .b [.ints .u8 32 F], b9, b10, .b [.ints .u8 32 S], .b [.ints .u8 64 (List.replicate 64 0)]], true⟩
set_option maxRecDepth 100000 in
theorem sgQ_head (l t : List Int) : (execL Try.prog sgQ 60 0 9 (atoms sgB) ⟨slots0 Try.f17.ntmps [.agg [.ints .u8 32 l], .ro false .u8 t], [], true⟩).bind (St.cut [4, 10, 12, 13] 13) =
    some { sgE (.b [.ints .u8 32 l]) (.b [.ints .u8 32 (List.take 32 (longQ l))]) (.b [.ints .u8 32 (List.drop 32 (longQ l))]) (.b [.ints .u8 32 (nQ l)]) (.b [.ints .u8 32 (pubW l)]) (.b [.ints .u8 ((0 + 32) + t.length) (rT l t)]) (.b [.ints .u8 32 (rQ l t)]) (.b [.ints .u8 (((0 + 32) + 32) + t.length) (kT l t)]) (.b [.ints .u8 32 (kQ l t)]) (fQ l t) (sQ l t) with ob := sgQO2 l t } := by kernel_rfl
theorem signR_fn {l t : List Int} (hl : keyOK l = true) (ht : ∀ x ∈ t, 0 ≤ x ∧ x < 256) (hn : t.length < 270000000000) : FnTr Try.prog 17 [.agg [.ints .u8 32 l], .ro false .u8 t] [] (.agg [.ints .u8 64 (sigW l t)]) [] := by
  obtain ⟨h1, h2⟩ := keyBy hl
  obtain ⟨en, ep⟩ := nQ_eq hl
  have h64 := longQ_len l
  have f1 := fstW_len l t
  have f2 := pubW_len l
  have f3 := sW_len l t
  have er : rT l t = [preW l, t].flatten := by unfold rT; rw [ep]; simp
  have hpb : ∀ x ∈ preW l, 0 ≤ x ∧ x < 256 := fun x hx => longW_by _ x (List.mem_of_mem_drop hx)
  have hrl : (rT l t).length = 32 + t.length := by rw [er]; simp [pre_len]
  have erq : rQ l t = rW l t := by
    unfold rQ rW
    rw [er, ← longW_eq (fun x hx => ?_) (by rw [← er, hrl]; omega)]
    simp only [List.flatten_cons, List.flatten_nil, List.append_nil, List.mem_append] at hx
    rcases hx with hx | hx
    · exact hpb x hx
    · exact ht x hx
  have q1 := base_ptQ.times (show keyOK (rQ l t) = true from (red_ok _).1)
  have efq : fQ l t = fstW l t := by
    unfold fQ
    rw [q1.bytes, erq, fstW_eq]
  have ek : kT l t = [fstW l t, pubW l, t].flatten := by unfold kT; rw [efq]; simp
  have hkl : (kT l t).length = 64 + t.length := by rw [ek]; simp [f1, f2]; omega
  have ekq : kQ l t = kW l t := by
    unfold kQ kW
    rw [ek, ← longW_eq (fun x hx => ?_) (by rw [← ek, hkl]; omega)]
    simp only [List.flatten_cons, List.flatten_nil, List.append_nil, List.mem_append] at hx
    rcases hx with hx | hx | hx
    · exact (keyBy (show keyOK (fstW l t) = true by rw [fstW_eq]; exact (enc_ok (val_lt _).1 (val_lt _).2 _).1)).2 x hx
    · exact (keyBy (show keyOK (pubW l) = true by rw [pubW_eq]; exact (enc_ok (val_lt _).1 (val_lt _).2 _).1)).2 x hx
    · exact ht x hx
  have es : sQ l t = sW l t := by unfold sQ sW; rw [ekq, en, erq]
  have hq : sgQO2 l t = true := by
    have o2 := q1.ok
    have k1 : Sp.keyOK (kQ l t) = true := sp_key (red_ok _).1
    have k2 : Sp.keyOK (nQ l) = true := by rw [en]; exact sp_key (nK_ok l)
    have k3 : Sp.keyOK (rQ l t) = true := sp_key (red_ok _).1
    have f1' : (fQ l t).length = 32 := by rw [efq]; exact f1
    have a1 : (List.replicate 0 0 ++ List.drop 32 (longQ l)).length = 32 := by simp [h64]
    have a2 : (List.replicate 0 0 ++ fQ l t).length = 32 := by simp [f1']
    have a3 : (List.replicate 0 0 ++ fQ l t ++ pubW l).length = 64 := by simp [f1', f2]
    unfold sgQO2 sgQO
    simp only [andT_iff, Bool.and_eq_true, decide_eq_true_eq, h1, h64, hl, a1, a2, a3, hrl, hkl, f1', f2, base_ptQ.ok, o2, k1, k2, k3, List.length_take, List.length_drop, true_and, and_true]
    omega
  have key : FnTr Try.prog 17 [.agg [.ints .u8 32 l], .ro false .u8 t] [] (.agg [.ints .u8 64 (lst 32 (fQ l t) ++ lst 32 (sQ l t))]) [] := by
    refine FnTr.restM sgQ_ok 200 9 0 Try.func17 (by simp) rfl (fun s' x h => ?_) (s := sgE (.b [.ints .u8 32 l]) (.b [.ints .u8 32 (List.take 32 (longQ l))]) (.b [.ints .u8 32 (List.drop 32 (longQ l))]) (.b [.ints .u8 32 (nQ l)]) (.b [.ints .u8 32 (pubW l)]) (.b [.ints .u8 ((0 + 32) + t.length) (rT l t)]) (.b [.ints .u8 32 (rQ l t)]) (.b [.ints .u8 (((0 + 32) + 32) + t.length) (kT l t)]) (.b [.ints .u8 32 (kQ l t)]) (fQ l t) (sQ l t)) (p := true) ?_ rfl rfl rfl
    · exact TrL.items sgQ_ok 60 9 _ 13 (by simp) (sgQ_head l t) hq (by decide) h
    · generalize fQ l t = F
      generalize sQ l t = S
      generalize (Blk.b [.ints .u8 32 l]) = b0
      generalize (Blk.b [.ints .u8 32 (List.take 32 (longQ l))]) = b2
      generalize (Blk.b [.ints .u8 32 (List.drop 32 (longQ l))]) = b3
      generalize (Blk.b [.ints .u8 32 (nQ l)]) = b4
      generalize (Blk.b [.ints .u8 32 (pubW l)]) = b5
      generalize (Blk.b [.ints .u8 ((0 + 32) + t.length) (rT l t)]) = b6
      generalize (Blk.b [.ints .u8 32 (rQ l t)]) = b7
      generalize (Blk.b [.ints .u8 (((0 + 32) + 32) + t.length) (kT l t)]) = b9
      generalize (Blk.b [.ints .u8 32 (kQ l t)]) = b10
      kernel_rfl
  rw [efq, es, lst_eq f1, lst_eq f3] at key
  exact key
noncomputable def signRF : List SV → Option (SV × List Blk × Bool)
  | [.agg [.ints .u8 32 l], .ro false .u8 t] => some (.agg [.ints .u8 64 (sigW l t)], [], keyOK l && t.all u8 && decide (t.length < 270000000000))
  | _ => none
noncomputable def signRE : Entry Try.prog := .val 17 _ Try.func17 (by decide) rfl true 0 signRF fun vs v new e => by
  unfold signRF at e
  split at e
  · simp only [Option.some.injEq, Prod.mk.injEq, Bool.and_eq_true, decide_eq_true_eq] at e
    obtain ⟨rfl, rfl, ⟨h0, h1⟩, h2⟩ := e
    rw [List.all_eq_true] at h1
    exact signR_fn h0 (fun x hx => u8_iff.1 (h1 x hx)) h2
  · cases e
noncomputable def alC : Ctr := mk (P := Try.prog) [publicE, signE, verifyE] [] fun i => if i = 17 then some true else none
theorem alC_ok : CtrSound Try.prog alC := mk_sound _ InlOK.nil _ _
set_option maxRecDepth 100000 in
theorem al_run : (callS Try.prog alC 60 Try.f11 [] []).map (fun x => (x.1, x.2.2)) = some (.bool (!verW (pubW s7) (sigW s7 [97, 98]) [98]),
    andT (andT (andT true (andT true (keyOK (pubW s7) && decide ((sigW s7 [97, 98]).length = 64) && (sigW s7 [97, 98]).all u8 && true && true))) (verW (pubW s7) (sigW s7 [97, 98]) [97, 98])) (andT true (keyOK (pubW s7) && decide ((sigW s7 [97, 98]).length = 64) && (sigW s7 [97, 98]).all u8 && true && true))) := by kernel_rfl
theorem sig_u8 (l t : List Int) : (sigW l t).all u8 = true := by_u8 (sig_by l t)
theorem alive_fn : FnTr Try.prog 11 [] [] (.bool true) [] := by
  have key := call0 alC_ok 60 Try.func11 al_run (by
    rw [pub_key, sig_len, sig_u8, ver_sig]; rfl) rfl
  rw [ver_not] at key
  exact key
def aliveF : List SV → Option (SV × List Blk × Bool)
  | [] => some (.bool true, [], true)
  | _ => none
noncomputable def aliveE : Entry Try.prog := .val 11 _ Try.func11 (by decide) rfl false 0 aliveF fun vs v new e => by
  unfold aliveF at e
  split at e
  · cases e; exact alive_fn
  · cases e
end Go.Proofs.Ytkoohnpknhoahaa.Sg
