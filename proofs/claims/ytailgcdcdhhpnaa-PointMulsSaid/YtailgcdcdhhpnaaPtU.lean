/- This file proves that the law PointReduces answers true, as a reckoned call: for up to 64 bytes, for more, for no slice. Conditions: bytes within their kind. -/
import Derived.Test.YtailgcdcdhhpnaaPtT
namespace Go.Proofs.Ytailgcdcdhhpnaa
open Go Go.Lift

/-! ### Bytes to words -/
theorem word_step {acc x : Int} (h0 : 0 ≤ acc) (h1 : acc < 72057594037927936) (hx0 : 0 ≤ x) (hx : x < 256) : orI .u64 (shlI .u64 acc 8) (IntKind.u64.wrap x) = acc * 256 + x := by
  rw [shl64 _ 8 (by decide), wrap_u64, or64 8 _ _ (by omega) (by first | (simp; done) | (simp; omega)) (by omega) (by omega) (by first | (simp; done) | (simp; omega)) (by decide)]
  first | (simp; done) | (simp; omega) | omega
theorem word8_eq {a b c d e f g h : Int} (ha : 0 ≤ a ∧ a < 256) (hb : 0 ≤ b ∧ b < 256) (hc : 0 ≤ c ∧ c < 256) (hd : 0 ≤ d ∧ d < 256) (he : 0 ≤ e ∧ e < 256) (hf : 0 ≤ f ∧ f < 256) (hg : 0 ≤ g ∧ g < 256) (hh : 0 ≤ h ∧ h < 256) :
    word8 [a, b, c, d, e, f, g, h] = ((((((a * 256 + b) * 256 + c) * 256 + d) * 256 + e) * 256 + f) * 256 + g) * 256 + h := by
  simp only [word8, List.foldl_cons, List.foldl_nil]
  rw [word_step (by omega) (by omega) ha.1 ha.2, word_step (by omega) (by omega) hb.1 hb.2, word_step (by omega) (by omega) hc.1 hc.2, word_step (by omega) (by omega) hd.1 hd.2,
    word_step (by omega) (by omega) he.1 he.2, word_step (by omega) (by omega) hf.1 hf.2, word_step (by omega) (by omega) hg.1 hg.2, word_step (by omega) (by omega) hh.1 hh.2]
  omega
theorem digN_getD : ∀ (n i : Nat) (v : Int), i < n → (digN n v).getD i 0 = v / 256 ^ i % 256
  | 0, _, _, h => by omega
  | n + 1, 0, v, _ => by simp [digN]
  | n + 1, i + 1, v, h => by
    rw [digN, List.getD_cons_succ, digN_getD n i _ (by omega), Int.ediv_ediv_of_nonneg (by omega), Int.pow_succ, Int.mul_comm 256]
theorem numF_dig (v : Int) : numF (digN 32 v) = wds v := by
  have key : ∀ k : Nat, k < 4 → word8 ((List.range 8).map fun j => (digN 32 v).getD (8 * k + 7 - j) 0) = wd v k := by
    intro k hk
    have e : ∀ j, j < 8 → (digN 32 v).getD (8 * k + 7 - j) 0 = v / 2 ^ (64 * k) / 256 ^ (7 - j) % 256 := fun j hj => by
      rw [digN_getD _ _ _ (by omega), Int.ediv_ediv_of_nonneg (Int.pow_nonneg (by omega))]
      congr 2
      rw [show (256 : Int) = 2 ^ 8 from rfl, ← Int.pow_mul, ← Int.pow_mul, ← Int.pow_add]
      congr 1
      omega
    have l8 : (List.range 8).map (fun j => (digN 32 v).getD (8 * k + 7 - j) 0) = (List.range 8).map (fun j => v / 2 ^ (64 * k) / 256 ^ (7 - j) % 256) := by
      apply List.map_congr_left
      intro j hj
      exact e j (by rw [List.mem_range] at hj; omega)
    rw [l8, wd]
    generalize v / 2 ^ (64 * k) = u
    have m : ∀ x : Int, 0 ≤ x % 256 ∧ x % 256 < 256 := fun x => by omega
    show word8 [u / 256 ^ 7 % 256, u / 256 ^ 6 % 256, u / 256 ^ 5 % 256, u / 256 ^ 4 % 256, u / 256 ^ 3 % 256, u / 256 ^ 2 % 256, u / 256 ^ 1 % 256, u / 256 ^ 0 % 256] = _
    rw [word8_eq (m _) (m _) (m _) (m _) (m _) (m _) (m _) (m _)]
    simp only [Int.reducePow]
    omega
  rw [numF, Lock_eq, numW]
  show [word8 _, word8 _, word8 _, word8 _] = [wd v 0, wd v 1, wd v 2, wd v 3]
  rw [key 0 (by omega), key 1 (by omega), key 2 (by omega), key 3 (by omega)]
theorem residue_dig {v : Int} (h0 : 0 ≤ v) (h1 : v < ordL) : lessB (numF (digN 32 v)) = 1 := by
  have hL := ordL_pos
  rw [numF_dig]
  rcases (minus_wds h0 (by omega)).2 with ⟨_, h⟩ | ⟨h, _⟩
  · exact h
  · omega
theorem residue_red (l : List Int) : lessB (numF (lst 32 (redF l))) = 1 := by
  have hL := ordL_pos
  rw [lst_eq (redF_length l), redF, Lock_eq]
  exact residue_dig (Int.emod_nonneg _ (by omega)) (Int.emod_lt_of_pos _ hL.1)
theorem red_five : lst 32 (redF [5]) = 5 :: List.replicate 31 0 := by
  rw [lst_eq (redF_length _), redF, Lock_eq]; decide

/-! ### The law -/
def prSym (b : Bool) : Tmp → Option Bool := fun i => if i = 17 then some false else if i = 25 then some b else if i = 40 then some true else none
set_option maxRecDepth 100000 in
theorem law_small (l : List Int) (cap : Nat) (hl : l.all u8 = true) (hn : l.length ≤ 64) : ∃ g, FnTr Try.prog Try.f3 [sliceArg 0 l.length cap] [.rs .u8 l] (.bool true) (.rs .u8 l :: g) := by
  have key : (callS Try.prog (mk [prE false, bitsE, residueE] (prSym false)) 60 Try.f3 [sliceArg 0 l.length cap] [.rs .u8 l]).map (fun x => (x.1, x.2.1.take 1, x.2.2)) =
      some (.bool (lessB (numF (lst 32 (redF l))) == 1), [.rs .u8 l],
        andT (andT (andT (andT (andT true (!(!decide (lst 32 (redF [5]) = 5 :: List.replicate 31 0)))) (l.length == l.length && l.all u8 && decide (l.length ≤ 64))) (!decide ((l.length : Int) > 64))) (l.length == l.length && l.all u8 && decide (l.length ≤ 1099511627776))) (decide (lst 32 (redF l) = lst 32 (redF l)))) := by kernel_rfl
  rw [residue_red] at key
  refine FnTr.of_take1 (mk_sound _ _) key ?_
  rw [decide_eq_true red_five, hl, decide_eq_true hn, decide_eq_false (show ¬ (l.length : Int) > 64 by omega), decide_eq_true (show l.length ≤ 1099511627776 by omega), decide_eq_true (show lst 32 (redF l) = lst 32 (redF l) from rfl), beq_self_eq_true]
  rfl
set_option maxRecDepth 100000 in
theorem law_big (l : List Int) (cap : Nat) (hn : (l.length : Int) > 64) : ∃ g, FnTr Try.prog Try.f3 [sliceArg 0 l.length cap] [.rs .u8 l] (.bool true) (.rs .u8 l :: g) := by
  have key : (callS Try.prog (mk [prE true] (prSym true)) 60 Try.f3 [sliceArg 0 l.length cap] [.rs .u8 l]).map (fun x => (x.1, x.2.1.take 1, x.2.2)) =
      some (.bool true, [.rs .u8 l],
        andT (andT (andT true (!(!decide (lst 32 (redF [5]) = 5 :: List.replicate 31 0)))) (l.length == l.length && decide ((l.length : Int) > 64))) (decide ((l.length : Int) > 64))) := by kernel_rfl
  refine FnTr.of_take1 (mk_sound _ _) key ?_
  rw [decide_eq_true red_five, decide_eq_true hn, beq_self_eq_true]
  rfl
set_option maxRecDepth 100000 in
theorem law_nil : ∃ g, FnTr Try.prog Try.f3 [.slice none 0 0] [] (.bool true) g := by
  have key : (callS Try.prog (mk [prE false, bitsE, residueE] (prSym false)) 60 Try.f3 [.slice none 0 0] []).map (fun x => (x.1, x.2.2)) =
      some (.bool (lessB (numF (lst 32 (redF []))) == 1), andT (andT true (!(!decide (lst 32 (redF [5]) = 5 :: List.replicate 31 0)))) (decide (lst 32 (redF []) = lst 32 (redF [])))) := by kernel_rfl
  rw [residue_red, decide_eq_true red_five, decide_eq_true (show lst 32 (redF []) = lst 32 (redF []) from rfl)] at key
  obtain ⟨⟨u, h1, q⟩, he, e⟩ := Option.map_eq_some_iff.1 key
  simp only [Prod.mk.injEq] at e
  obtain ⟨rfl, rfl⟩ := e
  exact ⟨_, FnTr.of_callS (mk_sound _ _) he⟩
end Go.Proofs.Ytailgcdcdhhpnaa
