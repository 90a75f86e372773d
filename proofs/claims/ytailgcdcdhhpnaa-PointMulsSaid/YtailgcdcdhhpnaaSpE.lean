/- This file proves the law PointMuls as a call of the interpreter: it returns true. Conditions: bytes within their kind. -/
import Derived.Test.YtailgcdcdhhpnaaSpD
namespace Go.Proofs.Ytailgcdcdhhpnaa.Sp
open Go Go.Sy
def k7 (n : Int) : List Int := n :: List.replicate 31 0
theorem ma_seven : maF (k7 2) (k7 3) (k7 1) = k7 7 := by
  rw [maF, Lift.Lock_eq]
  decide
theorem residue_law {a : List Int} (ha : a.all u8 = true) (la : a.length = 32) : (lessB (numF a) == 1) = decide (redF a = a) := by
  have hL := ordL_pos
  have v := val_bound ha la
  have nX := numF_val ha la
  have hd := digN_val a ha
  rw [la] at hd
  obtain ⟨_, h⟩ := minus_wds v.1 v.2
  rw [redF, Lift.Lock_eq, nX]
  rcases h with ⟨h1, h2⟩ | ⟨h1, h2⟩
  · rw [h2, Int.emod_eq_of_lt v.1 h1, ← hd]
    simp
  · rw [h2]
    have : digN 32 (val256 a % ordL) ≠ a := fun q => by
      have e := congrArg val256 q
      have r := Int.emod_lt_of_pos (val256 a) hL.1
      have r0 := Int.emod_nonneg (val256 a) (b := ordL) (by omega)
      rw [val_digN 32 _ r0 (by have : (256 : Int) ^ 32 = 115792089237316195423570985008687907853269984665640564039457584007913129639936 := by decide
                               omega)] at e
      omega
    rw [decide_eq_false this]
    rfl
theorem ctrLaw : CtrSound Try.prog (mk [mulAddE, refMulAddE, refBitsE, residueE] [] fun i => if i = 12 then some false else if i = 22 then some true else none) := mk_sound _ InlOK.nil _ _
set_option maxRecDepth 100000 in
theorem muls_law {a b c : List Int} (ha : a.all u8 = true) (hb : b.all u8 = true) (hc : c.all u8 = true) (la : a.length = 32) (lb : b.length = 32) (lc : c.length = 32) :
    FnTr Try.prog 4 [.agg [.ints .u8 32 a], .agg [.ints .u8 32 b], .agg [.ints .u8 32 c]] [] (.bool true) [] := by
  have ka : keyOK a = true := keyOK_iff.2 ⟨la, ha⟩
  have kb : keyOK b = true := keyOK_iff.2 ⟨lb, hb⟩
  have kc : keyOK c = true := keyOK_iff.2 ⟨lc, hc⟩
  have key := call0 ctrLaw 60 Try.func4 (args := [.agg [.ints .u8 32 a], .agg [.ints .u8 32 b], .agg [.ints .u8 32 c]]) (v := .bool ((lessB (numF a) == 1) == decide (redF a = a)))
    (p := andT (andT (andT (andT (andT (andT (andT (andT true (decide ((maF (k7 2) (k7 3) (k7 1)).length = 32))) (!(!decide (maF (k7 2) (k7 3) (k7 1) = k7 7)))) (andT true (keyOK a && keyOK b && keyOK c))) (andT true (keyOK a && keyOK b && keyOK c)))
      (andT (decide ((maF a b c).length = 32)) (decide ((maF a b c).length = 32)))) (decide (maF a b c = maF a b c)))
      (andT (andT (decide (a.length = 32) && true) (decide (a.length = 32))) (a.all u8 && (decide (0 < a.length) && decide (a.length ≤ 1099511627776)))))
      (andT (decide ((redF a).length = 32)) (decide (a.length = 32)))) (by kernel_rfl) (by simp [andT, ka, kb, kc, la, ha, maF_length, redF_length, ma_seven, show (k7 7).length = 32 from rfl]) rfl
  rw [residue_law ha la] at key
  simpa using key
end Go.Proofs.Ytailgcdcdhhpnaa.Sp
