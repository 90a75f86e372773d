/- This file proves the law PointGroup as a call of the interpreter: it returns true. Conditions: bytes within their kind. -/
import Derived.Test.YtkoohnpknhoahaaTPoX
import Derived.Test.YtkoohnpknhoahaaTNd
set_option linter.all false
namespace Go.Proofs.Ytkoohnpknhoahaa.Po
open Go Go.Sy Re
def ordK : List Int := [237, 211, 245, 92, 26, 99, 18, 88, 214, 156, 247, 162, 222, 249, 222, 20, 0, 0, 0, 0, 0, 0, 0, 0, 0, 0, 0, 0, 0, 0, 0, 16]
def orderREF : List SV → Option (SV × List Blk × Bool)
  | [] => some (.agg [.ints .u8 32 ordK], [], true)
  | _ => none
theorem ctrOr : CtrSound Try.prog (mk (P := Try.prog) [] []) := mk_sound [] InlOK.nil _ _
set_option maxRecDepth 100000 in
noncomputable def orderRE : Entry Try.prog := .val 18 _ Try.func18 (by decide) rfl false 0 orderREF fun vs v new e => by
  unfold orderREF at e
  split at e
  · cases e
    exact call0 ctrOr 60 Try.func18 (p := true) (by kernel_rfl) rfl rfl
  · cases e
theorem vals_eq : ∀ l : List Int, Go.Proofs.Ytkoohnpknhoahaa.val256 l = Fe.val256 l
  | [] => rfl
  | x :: l => by
    show x + 256 * Go.Proofs.Ytkoohnpknhoahaa.val256 l = x + 256 * Fe.val256 l
    rw [vals_eq l]
theorem digs_eq : ∀ (n : Nat) (v : Int), Go.Proofs.Ytkoohnpknhoahaa.digN n v = Fe.digN n v
  | 0, _ => rfl
  | n + 1, v => by
    show v % 256 :: Go.Proofs.Ytkoohnpknhoahaa.digN n (v / 256) = v % 256 :: Fe.digN n (v / 256)
    rw [digs_eq n]
theorem ma_ok {a b c : List Int} (ha : keyOK a = true) (hb : keyOK b = true) (hc : keyOK c = true) : keyOK (maF a b c) = true ∧ numB (maF a b c) = (numB a * numB b + numB c) % LN := by
  have a0 := Fe.val256_nonneg (keyOK_iff.1 ha).2
  have b0 := Fe.val256_nonneg (keyOK_iff.1 hb).2
  have c0 := Fe.val256_nonneg (keyOK_iff.1 hc).2
  have e : maF a b c = Fe.digN 32 ((Fe.val256 a * Fe.val256 b + Fe.val256 c) % ordL) := by
    unfold maF
    rw [Go.Lift.Lock_eq, digs_eq, vals_eq, vals_eq, vals_eq]
  have hL : ordL = (LN : Int) := rfl
  have r0 : 0 ≤ (Fe.val256 a * Fe.val256 b + Fe.val256 c) % ordL := Int.emod_nonneg _ (by rw [hL]; decide)
  have r1 : (Fe.val256 a * Fe.val256 b + Fe.val256 c) % ordL < ordL := Int.emod_lt_of_pos _ (by rw [hL]; decide)
  have hv : Fe.val256 (maF a b c) = (Fe.val256 a * Fe.val256 b + Fe.val256 c) % ordL := by
    rw [e]
    refine Fe.val_digN 32 _ r0 (Int.lt_trans r1 ?_)
    rw [hL]
    decide
  refine ⟨?_, ?_⟩
  · rw [e]
    exact keyOK_iff.2 ⟨Fe.digN_length .., Fe.digN_u8 ..⟩
  · have hnn : numB (maF a b c) = ((Fe.val256 a * Fe.val256 b + Fe.val256 c) % ordL).toNat := by unfold numB; rw [hv]
    rw [hnn]
    unfold numB
    generalize Fe.val256 a = x at *
    generalize Fe.val256 b = y at *
    generalize Fe.val256 c = z at *
    obtain ⟨x, rfl⟩ := Int.eq_ofNat_of_zero_le a0
    obtain ⟨y, rfl⟩ := Int.eq_ofNat_of_zero_le b0
    obtain ⟨z, rfl⟩ := Int.eq_ofNat_of_zero_le c0
    rw [hL, ← Int.natCast_mul, ← Int.natCast_add, ← Int.natCast_emod, Int.toNat_natCast, Int.toNat_natCast, Int.toNat_natCast, Int.toNat_natCast]
theorem sp_key {l : List Int} (h : keyOK l = true) : Sp.keyOK l = true := Sp.keyOK_iff.2 ⟨(keyOK_iff.1 h).1, (keyOK_iff.1 h).2⟩
end Go.Proofs.Ytkoohnpknhoahaa.Po
