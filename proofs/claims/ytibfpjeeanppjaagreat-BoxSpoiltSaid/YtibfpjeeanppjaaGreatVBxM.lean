/- This file proves the law BoxSpoilt. Conditions: bytes; keys of 32 bytes. -/
import Derived.Test.YtibfpjeeanppjaaGreatVBxE
import Derived.Test.YtibfpjeeanppjaaGreatVBxI
import Derived.Test.YtibfpjeeanppjaaGreatVLaK
set_option linter.all false
set_option maxRecDepth 100000
namespace Go.Proofs.YtibfpjeeanppjaaGreat.Bx
open Go Go.Sy Sh La
noncomputable def inlQ : List (FuncId × Func) := [(18, Tryz.f18)]
theorem inlQ_ok : InlOK Tryz.prog inlQ := InlOK.cons Tryz.func18 (by decide) InlOK.nil
def fQ (a b : Bool) : Nat → Option Bool := fun i => if i = 19 then some a else if i = 24 then some b else if i = 74 then some true else none
noncomputable def spC (u : Nat) (a b : Bool) : Ctr := mk (P := Tryz.prog) [aliveE, publicRE, sealRE, openE u, openRE u, Bn.sameE, Bn.numE] inlQ (fQ a b)
theorem spC_ok (u : Nat) (a b : Bool) : CtrSound Tryz.prog (spC u a b) := mk_sound _ inlQ_ok _ _
def atI (text : List Int) (at_ : Int) : Int := IntKind.i64.wrap ((IntKind.u64.wrap at_).tmod (IntKind.u64.wrap ((text.length + 48 : Nat) : Int)))
noncomputable def spX (s d info text : List Int) (at_ by_ : Int) : List Int := (boxW (ladW s 9) d info text).set (0 + (atI text at_).toNat) (xorI .u8 ((boxW (ladW s 9) d info text).getD (0 + (atI text at_).toNat) 0) by_)
noncomputable def spO0 (s d info text : List Int) (I : Int) (X : List Int) : Bool := andT (andT (andT (andT (andT (andT (andT (andT (andT (andT (andT true (!decide (((info.length : Nat) : Int) > 500))) (!decide (((text.length : Nat) : Int) > 500))) (andT true (andT true (Re.keyOK s)))) (andT true (Re.keyOK d && Re.keyOK (ladW s 9) && (!agZ d (ladW s 9)) && decide (info.length ≤ 65536) && decide (text.length ≤ 65536) && u8R info))) (IntKind.u64.wrap ((text.length + 48 : Nat) : Int) != 0)) (inB I (text.length + 48))) (decide (0 + I.toNat < text.length + 48))) (inB I (text.length + 48))) (decide (0 + I.toNat < text.length + 48) && decide ((boxW (ladW s 9) d info text).length = text.length + 48))) (andT (andT true (andT true (andT (decide (X.length = text.length + 48) && (decide (text.length + 48 ≤ text.length + 48) && true)) (decide (X.length = text.length + 48))))) (decide (info.length ≤ 65536) && decide (48 ≤ X.length) && decide (X.length ≤ 65584) && (Re.keyOK s && Re.keyOK (List.take 32 X) && agZ s (List.take 32 X))))) (andT (andT true (andT true (andT (decide (X.length = text.length + 48) && (decide (text.length + 48 ≤ text.length + 48) && true)) (decide (X.length = text.length + 48))))) (decide (info.length ≤ 65536) && decide (48 ≤ X.length) && decide (X.length ≤ 65584) && (Re.keyOK s && Re.keyOK (List.take 32 X) && agZ s (List.take 32 X))))
noncomputable def spO1 (s d info text : List Int) (I : Int) (X : List Int) : Bool := andT (andT (andT (andT (andT (andT (andT (andT (andT (andT (andT (andT (andT true (!decide (((info.length : Nat) : Int) > 500))) (!decide (((text.length : Nat) : Int) > 500))) (andT true (andT true (Re.keyOK s)))) (andT true (Re.keyOK d && Re.keyOK (ladW s 9) && (!agZ d (ladW s 9)) && decide (info.length ≤ 65536) && decide (text.length ≤ 65536) && u8R info))) (IntKind.u64.wrap ((text.length + 48 : Nat) : Int) != 0)) (inB I (text.length + 48))) (decide (0 + I.toNat < text.length + 48))) (inB I (text.length + 48))) (decide (0 + I.toNat < text.length + 48) && decide ((boxW (ladW s 9) d info text).length = text.length + 48))) (andT (andT true (andT true (andT (decide (X.length = text.length + 48) && (decide (text.length + 48 ≤ text.length + 48) && true)) (decide (X.length = text.length + 48))))) (decide (info.length ≤ 65536) && decide (48 ≤ X.length) && decide (X.length ≤ 65584) && (Re.keyOK s && Re.keyOK (ladW s 9) && Re.keyOK (List.take 32 X) && (!agZ s (List.take 32 X)) && Ae.openB (opK s (ladW s 9) info X) (Ae.nonceW 0) info (List.drop 32 X))))) (andT (andT true (andT true (andT (decide (X.length = text.length + 48) && (decide (text.length + 48 ≤ text.length + 48) && true)) (decide (X.length = text.length + 48))))) (decide (info.length ≤ 65536) && decide (48 ≤ X.length) && decide (X.length ≤ 65584) && u8R info && u8R X && (Re.keyOK s && Re.keyOK (ladW s 9) && Re.keyOK (List.take 32 X) && (!agZ s (List.take 32 X)) && Ae.openB (opK s (ladW s 9) info X) (Ae.nonceW 0) info (List.drop 32 X))))) (andT true (u8R (Ae.openW (opK s (ladW s 9) info X) (Ae.nonceW 0) (List.drop 32 X)) && u8R (Ae.openW (opK s (ladW s 9) info X) (Ae.nonceW 0) (List.drop 32 X))))) (decide (Ae.openW (opK s (ladW s 9) info X) (Ae.nonceW 0) (List.drop 32 X) = Ae.openW (opK s (ladW s 9) info X) (Ae.nonceW 0) (List.drop 32 X)))
noncomputable def spO2 (s d info text : List Int) (I : Int) (X : List Int) : Bool := andT (andT (andT (andT (andT (andT (andT (andT (andT (andT (andT true (!decide (((info.length : Nat) : Int) > 500))) (!decide (((text.length : Nat) : Int) > 500))) (andT true (andT true (Re.keyOK s)))) (andT true (Re.keyOK d && Re.keyOK (ladW s 9) && (!agZ d (ladW s 9)) && decide (info.length ≤ 65536) && decide (text.length ≤ 65536) && u8R info))) (IntKind.u64.wrap ((text.length + 48 : Nat) : Int) != 0)) (inB I (text.length + 48))) (decide (0 + I.toNat < text.length + 48))) (inB I (text.length + 48))) (decide (0 + I.toNat < text.length + 48) && decide ((boxW (ladW s 9) d info text).length = text.length + 48))) (andT (andT true (andT true (andT (decide (X.length = text.length + 48) && (decide (text.length + 48 ≤ text.length + 48) && true)) (decide (X.length = text.length + 48))))) (decide (info.length ≤ 65536) && decide (48 ≤ X.length) && decide (X.length ≤ 65584) && (Re.keyOK s && Re.keyOK (ladW s 9) && Re.keyOK (List.take 32 X) && (!agZ s (List.take 32 X)) && (!Ae.openB (opK s (ladW s 9) info X) (Ae.nonceW 0) info (List.drop 32 X)))))) (andT (andT true (andT true (andT (decide (X.length = text.length + 48) && (decide (text.length + 48 ≤ text.length + 48) && true)) (decide (X.length = text.length + 48))))) (decide (info.length ≤ 65536) && decide (48 ≤ X.length) && decide (X.length ≤ 65584) && u8R info && u8R X && (Re.keyOK s && Re.keyOK (ladW s 9) && Re.keyOK (List.take 32 X) && (!agZ s (List.take 32 X)) && (!Ae.openB (opK s (ladW s 9) info X) (Ae.nonceW 0) info (List.drop 32 X)))))
section
variable (s d info text : List Int) (at_ by_ : Int)
theorem sp_0 : (callS Tryz.prog (spC 0 false false) 60 Tryz.f4 [.agg [.ints .u8 32 s, .ints .u8 32 d, .ro false .u8 info, .ro false .u8 text], .int .i64 at_, .int .u8 by_] []).map (fun x => (x.1, x.2.2)) = some (.bool true, spO0 s d info text (atI text at_) (spX s d info text at_ by_)) := by kernel_rfl
theorem sp_1 : (callS Tryz.prog (spC 1 false false) 60 Tryz.f4 [.agg [.ints .u8 32 s, .ints .u8 32 d, .ro false .u8 info, .ro false .u8 text], .int .i64 at_, .int .u8 by_] []).map (fun x => (x.1, x.2.2)) = some (.bool true, spO1 s d info text (atI text at_) (spX s d info text at_ by_)) := by kernel_rfl
theorem sp_2 : (callS Tryz.prog (spC 2 false false) 60 Tryz.f4 [.agg [.ints .u8 32 s, .ints .u8 32 d, .ro false .u8 info, .ro false .u8 text], .int .i64 at_, .int .u8 by_] []).map (fun x => (x.1, x.2.2)) = some (.bool true, spO2 s d info text (atI text at_) (spX s d info text at_ by_)) := by kernel_rfl
theorem sp_i : (callS Tryz.prog (spC 2 true true) 60 Tryz.f4 [.agg [.ints .u8 32 s, .ints .u8 32 d, .ro false .u8 info, .ro false .u8 text], .int .i64 at_, .int .u8 by_] []).map (fun x => (x.1, x.2.2)) = some (.bool true, andT true (decide ((info.length : Int) > 500))) := by kernel_rfl
theorem sp_t : (callS Tryz.prog (spC 2 false true) 60 Tryz.f4 [.agg [.ints .u8 32 s, .ints .u8 32 d, .ro false .u8 info, .ro false .u8 text], .int .i64 at_, .int .u8 by_] []).map (fun x => (x.1, x.2.2)) = some (.bool true, andT (andT true (!decide ((info.length : Int) > 500))) (decide ((text.length : Int) > 500))) := by kernel_rfl
end
theorem atI_in {text : List Int} (ht : text.length ≤ 500) (at_ : Int) : 0 ≤ atI text at_ ∧ atI text at_ < text.length + 48 := by
  unfold atI
  have h0 : 0 ≤ IntKind.u64.wrap at_ := by rw [Fe.wrap_u64]; omega
  have h1 : IntKind.u64.wrap ((text.length + 48 : Nat) : Int) = text.length + 48 := by rw [Fe.wrap_u64]; omega
  rw [h1, Int.tmod_eq_emod_of_nonneg h0]
  have h2 := Int.emod_nonneg (IntKind.u64.wrap at_) (show (text.length : Int) + 48 ≠ 0 by omega)
  have h3 := Int.emod_lt_of_pos (IntKind.u64.wrap at_) (show (0 : Int) < text.length + 48 by omega)
  rw [wrap_i64 _ (by omega) (by omega)]
  omega
theorem u8R_set {l : List Int} (h : u8R l = true) (i : Nat) (a b : Int) : u8R (l.set i (xorI .u8 a b)) = true := by
  refine u8R_of fun x hx => ?_
  rcases List.mem_or_eq_of_mem_set hx with hx | rfl
  · have := List.all_eq_true.1 h x hx
    simpa using this
  · unfold xorI bitsI
    rw [Fe.wrap_u8]
    omega
theorem u8R_app2 {a b : List Int} (ha : u8R a = true) (hb : u8R b = true) : u8R (a ++ b) = true := by
  unfold u8R at *
  rw [List.all_append, ha, hb]; rfl
theorem boxW_u8 {p d info text : List Int} : u8R (boxW p d info text) = true := by
  unfold boxW
  exact u8R_app2 (key_u8 (ladW_key _ _)) (R4.dgB_iff.2 ((R4.mix_dg 1).app (R4.mkW_dg _ _ _ _)))
theorem openW_u8 (key nonce x : List Int) : u8R (Ae.openW key nonce x) = true := R4.dgB_iff.2 (by unfold Ae.openW; exact R4.mix_dg 1)
theorem key_take {l : List Int} (h : u8R l = true) (hl : 32 ≤ l.length) : Re.keyOK (l.take 32) = true := by
  refine Re.keyOK_iff.2 ⟨by rw [List.length_take]; omega, ?_⟩
  rw [List.all_eq_true]
  intro x hx
  have := List.all_eq_true.1 h x (List.mem_of_mem_take hx)
  exact Fe.u8_iff.2 (by simpa using this)
section
variable {s d info text : List Int} {at_ by_ : Int}
theorem spoilt_law (hs : Re.keyOK s = true) (hd : Re.keyOK d = true) (ui : u8R info = true) : FnTr Tryz.prog 4 [.agg [.ints .u8 32 s, .ints .u8 32 d, .ro false .u8 info, .ro false .u8 text], .int .i64 at_, .int .u8 by_] [] (.bool true) [] := by
  by_cases hi : 500 < info.length
  · exact call0 (spC_ok 2 true true) 60 Tryz.func4 (sp_i s d info text at_ by_) (by rw [decide_eq_true (show (info.length : Int) > 500 by omega)]; rfl) rfl
  by_cases ht : 500 < text.length
  · exact call0 (spC_ok 2 false true) 60 Tryz.func4 (sp_t s d info text at_ by_) (by rw [decide_eq_false (show ¬ (info.length : Int) > 500 by omega), decide_eq_true (show (text.length : Int) > 500 by omega)]; rfl) rfl
  have hI := atI_in (text := text) (by omega) at_
  have hp := ladW_key s 9
  have hz := ag_no hs hd
  have hw : (IntKind.u64.wrap ((text.length + 48 : Nat) : Int) != 0) = true := by
    rw [Fe.wrap_u64, bne_iff_ne]; omega
  have hin : inB (atI text at_) (text.length + 48) = true := by
    have := inB_true (i := (atI text at_).toNat) (n := text.length + 48) (by omega) (by omega)
    rwa [Int.toNat_of_nonneg hI.1] at this
  have hB := boxW_len (ladW s 9) d info text
  have hX : (spX s d info text at_ by_).length = text.length + 48 := by unfold spX; rw [List.length_set, hB]
  have uX : u8R (spX s d info text at_ by_) = true := u8R_set boxW_u8 _ _ _
  have kX := key_take uX (by omega)
  have e0 := sp_0 s d info text at_ by_
  have e1 := sp_1 s d info text at_ by_
  have e2 := sp_2 s d info text at_ by_
  generalize spX s d info text at_ by_ = X at *
  generalize atI text at_ = I at *
  cases za : agZ s (X.take 32) with
  | true =>
    refine call0 (spC_ok 0 false false) 60 Tryz.func4 e0 ?_ rfl
    unfold spO0
    rw [hw]
    simp [andT_iff, hs, hd, ui, hp, hz, hin, hB, hX, uX, kX, za]
    omega
  | false =>
    cases ho : Ae.openB (opK s (ladW s 9) info X) (Ae.nonceW 0) info (X.drop 32) with
    | true =>
      refine call0 (spC_ok 1 false false) 60 Tryz.func4 e1 ?_ rfl
      unfold spO1
      rw [hw]
      simp [andT_iff, hs, hd, ui, hp, hz, hin, hB, hX, uX, kX, za, ho, openW_u8]
      omega
    | false =>
      refine call0 (spC_ok 2 false false) 60 Tryz.func4 e2 ?_ rfl
      unfold spO2
      rw [hw]
      simp [andT_iff, hs, hd, ui, hp, hz, hin, hB, hX, uX, kX, za, ho]
      omega
end
end Go.Proofs.YtibfpjeeanppjaaGreat.Bx
