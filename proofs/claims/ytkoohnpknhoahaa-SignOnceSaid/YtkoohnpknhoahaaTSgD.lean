/- This file proves contracts of sign.Public, Sign and Verify. Conditions: bytes within their kind; lengths that memory bears. -/
import Derived.Test.YtkoohnpknhoahaaTSgC
import Derived.Test.YtkoohnpknhoahaaTSgM
set_option linter.all false
namespace Go.Proofs.Ytkoohnpknhoahaa.Sg
open Go Go.Sy Re Fe Po Sh
theorem byKey {l : List Int} (h : ∀ x ∈ l, 0 ≤ x ∧ x < 256) (hl : l.length = 32) : keyOK l = true := by
  refine keyOK_iff.2 ⟨hl, ?_⟩
  rw [List.all_eq_true]
  intro x hx
  exact Fe.u8_iff.2 (h x hx)
theorem keyBy {l : List Int} (h : keyOK l = true) : l.length = 32 ∧ ∀ x ∈ l, 0 ≤ x ∧ x < 256 := by
  obtain ⟨h1, h2⟩ := keyOK_iff.1 h
  rw [List.all_eq_true] at h2
  exact ⟨h1, fun x hx => Fe.u8_iff.1 (h2 x hx)⟩
theorem nK_ok (l : List Int) : keyOK (nK l) = true := by
  obtain ⟨_, h1, h2⟩ := cl_eq (l := (longW [l].flatten).take 32) (fun x hx => longW_by _ x (List.mem_of_mem_take hx)) (by rw [List.length_take, longW_len]; rfl)
  exact byKey h2 h1
theorem pre_len (l : List Int) : (preW l).length = 32 := by unfold preW; rw [List.length_drop, longW_len]
noncomputable def pubW (l : List Int) : List Int := bytesP (timesP baseP (nK l))
noncomputable def puC : Ctr := mk (P := Try.prog) [splitE, Po.baseE, Po.timesE, Po.bytesE] []
theorem puC_ok : CtrSound Try.prog puC := mk_sound _ InlOK.nil _ _
theorem nK_pt (l : List Int) : RP (timesP baseP (nK l)) (mulA baseA (numB (nK l))) := base_pt.times (nK_ok l)
theorem pubW_eq (l : List Int) : pubW l = encA (mulA baseA (numB (nK l))) := (nK_pt l).bytes
theorem pubW_len (l : List Int) : (pubW l).length = 32 := by rw [pubW_eq, encA_len]
theorem public_fn {l : List Int} (hl : l.length = 32) : FnTr Try.prog 12 [.agg [.ints .u8 32 l]] [] (.agg [.ints .u8 32 (pubW l)]) [] :=
  call0 puC_ok 60 Try.func12 (p := andT (andT (andT true (andT true (decide (l.length = 32)))) (andT true (lenZ baseP))) (andT true (lenZ (timesP baseP (nK l))))) (by kernel_rfl)
    (by rw [hl, base_pt.l, (nK_pt l).l]; rfl) rfl
noncomputable def publicF : List SV → Option (SV × List Blk × Bool)
  | [.agg [.ints .u8 32 l]] => some (.agg [.ints .u8 32 (pubW l)], [], decide (l.length = 32))
  | _ => none
noncomputable def publicE : Entry Try.prog := .val 12 _ Try.func12 (by decide) rfl false 0 publicF fun vs v new e => by
  unfold publicF at e
  split at e
  · simp only [Option.some.injEq, Prod.mk.injEq, decide_eq_true_eq] at e
    obtain ⟨rfl, rfl, h⟩ := e
    exact public_fn h
  · cases e
noncomputable def rW (l t : List Int) : List Int := redF (longW [preW l, t].flatten)
noncomputable def fstW (l t : List Int) : List Int := bytesP (timesP baseP (rW l t))
noncomputable def kW (l t : List Int) : List Int := redF (longW [fstW l t, pubW l, t].flatten)
noncomputable def sW (l t : List Int) : List Int := maF (kW l t) (nK l) (rW l t)
noncomputable def sigS (l t : List Int) : List Int := spl (spl (List.replicate 64 0) 0 (fstW l t) 32) 32 (sW l t) 32
noncomputable def sigW (l t : List Int) : List Int := fstW l t ++ sW l t
theorem rW_pt (l t : List Int) : RP (timesP baseP (rW l t)) (mulA baseA (numB (rW l t))) := base_pt.times (red_ok _).1
theorem fstW_eq (l t : List Int) : fstW l t = encA (mulA baseA (numB (rW l t))) := (rW_pt l t).bytes
theorem fstW_len (l t : List Int) : (fstW l t).length = 32 := by rw [fstW_eq, encA_len]
theorem sW_ok (l t : List Int) : keyOK (sW l t) = true ∧ numB (sW l t) = (numB (kW l t) * numB (nK l) + numB (rW l t)) % LN := ma_ok (red_ok _).1 (nK_ok l) (red_ok _).1
theorem sW_len (l t : List Int) : (sW l t).length = 32 := (keyOK_iff.1 (sW_ok l t).1).1
theorem sigS_eq (l t : List Int) : sigS l t = sigW l t := by
  have h1 := fstW_len l t
  have h2 := sW_len l t
  unfold sigS sigW
  generalize fstW l t = a at *
  generalize sW l t = b at *
  unfold spl
  rw [List.take_zero, List.nil_append, Nat.zero_add, List.take_of_length_le (show a.length ≤ 32 by omega), List.take_of_length_le (show b.length ≤ 32 by omega), List.take_left' h1]
  rw [List.drop_of_length_le (by simp [h1]), List.append_nil]
noncomputable def sgC : Ctr := mk (P := Try.prog) [splitE, residueE, Po.baseE, Po.timesE, Po.bytesE, concatE, Sp.mulAddE] []
theorem sgC_ok : CtrSound Try.prog sgC := mk_sound _ InlOK.nil _ _
noncomputable def sgO (l : List Int) (xss : List (List Int)) : Bool :=
  let t := xss.flatten
  let r := rW l t
  let k := kW l t
  let o1 := andT (andT (andT true (andT true (decide (l.length = 32)))) (andT true (lenZ baseP))) (andT true (lenZ (timesP baseP (nK l))))
  let o2 := andT (andT o1 (andT true (decide (t.length ≤ 274877906944) && decide (xss.length ≤ 274877906944)))) (andT true (decide ([preW l, t].flatten.length < 274877900000) && true))
  let o3 := andT (andT o2 (andT true (lenZ baseP))) (andT true (lenZ (timesP baseP r)))
  let o4 := andT o3 (andT (andT true (andT (andT (andT (andT true (decide ((pubW l).length = 32) && true)) (decide ((pubW l).length = 32))) (decide ((fstW l t).length = 32) && true)) (decide ((fstW l t).length = 32)))) (decide ([fstW l t, pubW l, t].flatten.length < 274877900000) && true))
  let o5 := andT o4 (andT true (Sp.keyOK k && Sp.keyOK (nK l) && Sp.keyOK r))
  let o6 := andT o5 (andT (decide ((fstW l t).length = 32) && true) (true && decide (Nat.min 32 32 ≤ (fstW l t).length)))
  andT o6 (andT (decide ((sW l t).length = 32) && true) (decide ((spl (List.replicate 64 0) 0 (fstW l t) 32).length = 64) && true && decide (Nat.min 32 32 ≤ (sW l t).length)))
set_option maxRecDepth 100000 in
theorem sign_run (l : List Int) (xss : List (List Int)) : (callS Try.prog sgC 60 Try.f16 [.agg [.ints .u8 32 l], .rob false xss] []).map (fun x => (x.1, x.2.2)) = some (.agg [.ints .u8 64 (sigS l xss.flatten)], sgO l xss) := by kernel_rfl
theorem sign_fn {l : List Int} {xss : List (List Int)} (hl : l.length = 32) (h1 : xss.flatten.length < 270000000000) (h2 : xss.length ≤ 274877906944) : FnTr Try.prog 16 [.agg [.ints .u8 32 l], .rob false xss] [] (.agg [.ints .u8 64 (sigW l xss.flatten)]) [] := by
  have hp : sgO l xss = true := by
    have f1 := fstW_len l xss.flatten
    have f2 := pubW_len l
    have f3 := sW_len l xss.flatten
    have f4 : (spl (List.replicate 64 0) 0 (fstW l xss.flatten) 32).length = 64 := by unfold spl; simp [f1]
    have f5 : [preW l, xss.flatten].flatten.length < 274877900000 := by simp only [List.flatten_cons, List.flatten_nil, List.length_append, pre_len, List.length_nil]; omega
    have f6 : [fstW l xss.flatten, pubW l, xss.flatten].flatten.length < 274877900000 := by simp only [List.flatten_cons, List.flatten_nil, List.length_append, f1, f2, List.length_nil]; omega
    unfold sgO
    simp only [base_pt.l, (nK_pt l).l, (rW_pt l xss.flatten).l, sp_key (nK_ok l), sp_key (show keyOK (kW l xss.flatten) = true from (red_ok _).1), sp_key (show keyOK (rW l xss.flatten) = true from (red_ok _).1), decide_eq_true hl, decide_eq_true f1, decide_eq_true f2, decide_eq_true f3, decide_eq_true f4, decide_eq_true f5, decide_eq_true f6, decide_eq_true h2, decide_eq_true (show xss.flatten.length ≤ 274877906944 by omega), f1, f3]
    rfl
  have key := call0 sgC_ok 60 Try.func16 (sign_run l xss) hp rfl
  rw [sigS_eq] at key
  exact key
noncomputable def signF : List SV → Option (SV × List Blk × Bool)
  | [.agg [.ints .u8 32 l], .rob false xss] => some (.agg [.ints .u8 64 (sigW l xss.flatten)], [], decide (l.length = 32) && decide (xss.flatten.length < 270000000000) && decide (xss.length ≤ 274877906944))
  | _ => none
noncomputable def signE : Entry Try.prog := .val 16 _ Try.func16 (by decide) rfl true 0 signF fun vs v new e => by
  unfold signF at e
  split at e
  · simp only [Option.some.injEq, Prod.mk.injEq, Bool.and_eq_true, decide_eq_true_eq] at e
    obtain ⟨rfl, rfl, ⟨h0, h1⟩, h2⟩ := e
    exact sign_fn h0 h1 h2
  · cases e
noncomputable def vkW (p g t : List Int) : List Int := redF (longW [g.take 32, p, t].flatten)
noncomputable def vbW (p g t : List Int) : List Int := bytesP (addP (timesP baseP ((g.drop 32).take 32)) (negP (timesP (frP p) (vkW p g t))))
noncomputable def verW (p g t : List Int) : Bool := frOk p && (lessB (numF ((g.drop 32).take 32)) == 1) && decide (vbW p g t = g.take 32)
noncomputable def vC (a b : Bool) : Ctr := mk (P := Try.prog) [residueE, Po.fromE, Sp.residueE, Po.baseE, Po.timesE, Po.addE, Po.negE, Po.bytesE, concatE] [] fun i => if i = 21 then some a else if i = 25 then some b else none
theorem vC_ok (a b : Bool) : CtrSound Try.prog (vC a b) := mk_sound _ InlOK.nil _ _
noncomputable def vrO (p g : List Int) (xss : List (List Int)) : Bool :=
  let t := xss.flatten
  let s := (g.drop 32).take 32
  let k := vkW p g t
  let o1 := andT (andT (andT true (!!frOk p)) (!!(lessB (numF s) == 1))) (andT true (decide (t.length ≤ 274877906944) && decide (xss.length ≤ 274877906944)))
  let o2 := andT o1 (andT (andT true (andT (andT (andT (andT true (decide (p.length = 32) && true)) (decide (p.length = 32))) (true && decide (0 + 32 ≤ g.length))) (decide ((g.take 32).length = 32)))) (decide ([g.take 32, p, t].flatten.length < 274877900000) && true))
  let o3 := andT (andT (andT o2 (andT true (lenZ baseP))) (andT true (lenZ (frP p)))) (andT true (lenZ (timesP (frP p) k)))
  let o4 := andT (andT o3 (andT true (lenZ (timesP baseP s) && lenZ (negP (timesP (frP p) k))))) (andT true (lenZ (addP (timesP baseP s) (negP (timesP (frP p) k)))))
  andT o4 (andT (decide ((vbW p g t).length = 32)) (decide ((g.take 32).length = 32)))
set_option maxRecDepth 100000 in
theorem ver_run1 (p g : List Int) (xss : List (List Int)) : (callS Try.prog (vC true true) 60 Try.f14 [.agg [.ints .u8 32 p], .agg [.ints .u8 64 g], .rob false xss] []).map (fun x => (x.1, x.2.2)) = some (.bool false, andT true (!frOk p)) := by kernel_rfl
set_option maxRecDepth 100000 in
theorem ver_run2 (p g : List Int) (xss : List (List Int)) : (callS Try.prog (vC false true) 60 Try.f14 [.agg [.ints .u8 32 p], .agg [.ints .u8 64 g], .rob false xss] []).map (fun x => (x.1, x.2.2)) = some (.bool false, andT (andT true (!!frOk p)) (!(lessB (numF ((g.drop 32).take 32)) == 1))) := by kernel_rfl
set_option maxRecDepth 100000 in
theorem ver_run3 (p g : List Int) (xss : List (List Int)) : (callS Try.prog (vC false false) 60 Try.f14 [.agg [.ints .u8 32 p], .agg [.ints .u8 64 g], .rob false xss] []).map (fun x => (x.1, x.2.2)) = some (.bool (decide (vbW p g xss.flatten = g.take 32)), vrO p g xss) := by kernel_rfl
theorem half_key {g : List Int} (hg : g.length = 64) (hb : ∀ x ∈ g, 0 ≤ x ∧ x < 256) : keyOK ((g.drop 32).take 32) = true :=
  byKey (fun x hx => hb x (List.mem_of_mem_drop (List.mem_of_mem_take hx))) (by simp [hg])
theorem vb_eq {p g : List Int} (hp : keyOK p = true) (hg : g.length = 64) (hb : ∀ x ∈ g, 0 ≤ x ∧ x < 256) (t : List Int) : ∃ A, RP (frP p) A ∧ RQ (frQ p) A ∧ (frOk p = true → encA A = p) ∧
    vbW p g t = encA (addA (mulA baseA (numB ((g.drop 32).take 32))) (negA (mulA A (numB (vkW p g t))))) ∧ lenZ (timesP baseP ((g.drop 32).take 32)) = true ∧ lenZ (timesP (frP p) (vkW p g t)) = true ∧ lenZ (negP (timesP (frP p) (vkW p g t))) = true ∧ lenZ (addP (timesP baseP ((g.drop 32).take 32)) (negP (timesP (frP p) (vkW p g t)))) = true := by
  obtain ⟨A, p1, q1, e1⟩ := from_pt hp
  have hs := base_pt.times (half_key hg hb)
  have hk := p1.times (show keyOK (vkW p g t) = true from (red_ok _).1)
  exact ⟨A, p1, q1, e1, (hs.add hk.neg).bytes, hs.l, hk.l, hk.neg.l, (hs.add hk.neg).l⟩
theorem verify_fn {p g : List Int} {xss : List (List Int)} (hp : keyOK p = true) (hg : g.length = 64) (hb : ∀ x ∈ g, 0 ≤ x ∧ x < 256) (h1 : xss.flatten.length < 270000000000) (h2 : xss.length ≤ 274877906944) :
    FnTr Try.prog 14 [.agg [.ints .u8 32 p], .agg [.ints .u8 64 g], .rob false xss] [] (.bool (verW p g xss.flatten)) [] := by
  unfold verW
  cases ho : frOk p with
  | false => exact call0 (vC_ok true true) 60 Try.func14 (ver_run1 p g xss) (by rw [ho]; rfl) rfl
  | true =>
    cases hr : (lessB (numF ((g.drop 32).take 32)) == 1) with
    | false => exact call0 (vC_ok false true) 60 Try.func14 (ver_run2 p g xss) (by rw [ho, hr]; rfl) rfl
    | true =>
      obtain ⟨A, p1, _, _, e, l1, l2, l3, l4⟩ := vb_eq hp hg hb xss.flatten
      have hpl := (keyOK_iff.1 hp).1
      have f1 : (g.take 32).length = 32 := by rw [List.length_take, hg]; rfl
      have f2 : [g.take 32, p, xss.flatten].flatten.length < 274877900000 := by simp only [List.flatten_cons, List.flatten_nil, List.length_append, f1, hpl, List.length_nil]; omega
      have f3 : (vbW p g xss.flatten).length = 32 := by rw [e, encA_len]
      have hO : vrO p g xss = true := by
        unfold vrO
        simp only [ho, hr, base_pt.l, p1.l, l1, l2, l3, l4, decide_eq_true f1, decide_eq_true f2, decide_eq_true f3, decide_eq_true hpl, decide_eq_true h2, decide_eq_true (show xss.flatten.length ≤ 274877906944 by omega), decide_eq_true (show 0 + 32 ≤ g.length by omega)]
        rfl
      have key := call0 (vC_ok false false) 60 Try.func14 (ver_run3 p g xss) hO rfl
      exact key
noncomputable def verifyF : List SV → Option (SV × List Blk × Bool)
  | [.agg [.ints .u8 32 p], .agg [.ints .u8 64 g], .rob false xss] => some (.bool (verW p g xss.flatten), [], keyOK p && decide (g.length = 64) && g.all u8 && decide (xss.flatten.length < 270000000000) && decide (xss.length ≤ 274877906944))
  | _ => none
noncomputable def verifyE : Entry Try.prog := .val 14 _ Try.func14 (by decide) rfl true 0 verifyF fun vs v new e => by
  unfold verifyF at e
  split at e
  · simp only [Option.some.injEq, Prod.mk.injEq, Bool.and_eq_true, decide_eq_true_eq] at e
    obtain ⟨rfl, rfl, ⟨⟨⟨h0, h1⟩, h2⟩, h3⟩, h4⟩ := e
    rw [List.all_eq_true] at h2
    exact verify_fn h0 h1 (fun x hx => u8_iff.1 (h2 x hx)) h3 h4
  · cases e
end Go.Proofs.Ytkoohnpknhoahaa.Sg
