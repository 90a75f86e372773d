/- This file proves contracts of point.order, minus, number, key, bit, Residue and of the library's Sub64, Add64, Mul64. Conditions: numbers within their kinds. -/
import Derived.Test.YtailgcdcdhhpnaaSyT
import Derived.Test.YtailgcdcdhhpnaaPuA
import Derived.Test.YtailgcdcdhhpnaaChecked
import Derived.Laws.Externs
namespace Go.Proofs.Ytailgcdcdhhpnaa.Sp
open Go Go.Sy

noncomputable def sub64F : List SV → Option (SV × Bool)
  | [.int .u64 x, .int .u64 y, .int .u64 b] => some (.tup [.int .u64 (subD x y b), .int .u64 (subB x y b)], carry1 b)
  | _ => none
noncomputable def sub64E : Entry Try.prog := .ext 61 sub64F fun vs v e en w args hl => by
  unfold sub64F at e
  split at e
  · rename_i x y b
    simp only [Option.some.injEq, Prod.mk.injEq] at e
    obtain ⟨rfl, hb⟩ := e
    obtain ⟨_, _, rfl, ⟨_, _, rfl, ⟨_, _, rfl, rfl, rfl⟩, rfl⟩, rfl⟩ := hl
    refine ⟨_, ?_, ⟨_, ⟨_, _, rfl, ⟨_, _, rfl, rfl, rfl⟩, rfl⟩, rfl⟩⟩
    rw [run_callFunc_extern Try.func61 (by kernel_rfl) (by kernel_rfl) (by kernel_rfl) (e := sub64Entry) (by kernel_rfl), run_sub64 x y b hb]
    rfl
  · cases e

noncomputable def add64F : List SV → Option (SV × Bool)
  | [.int .u64 x, .int .u64 y, .int .u64 c] => some (.tup [.int .u64 (addS x y c), .int .u64 (addC x y c)], carry1 c)
  | _ => none
noncomputable def add64E : Entry Try.prog := .ext 36 add64F fun vs v e en w args hl => by
  unfold add64F at e
  split at e
  · rename_i x y c
    simp only [Option.some.injEq, Prod.mk.injEq] at e
    obtain ⟨rfl, hc⟩ := e
    obtain ⟨_, _, rfl, ⟨_, _, rfl, ⟨_, _, rfl, rfl, rfl⟩, rfl⟩, rfl⟩ := hl
    refine ⟨_, ?_, ⟨_, ⟨_, _, rfl, ⟨_, _, rfl, rfl, rfl⟩, rfl⟩, rfl⟩⟩
    rw [run_callFunc_extern Try.func36 (by kernel_rfl) (by kernel_rfl) (by kernel_rfl) (e := add64Entry) (by kernel_rfl), run_add64' x y c hc]
    rfl
  · cases e

theorem ctr0 : CtrSound Try.prog (mk (P := Try.prog) [] []) := mk_sound [] InlOK.nil _ _

/-! ### point.order, minus -/
def orderF : List SV → Option (SV × List Blk × Bool)
  | [] => some (.agg [.ints .u64 4 ordW], [], true)
  | _ => none
noncomputable def orderE : Entry Try.prog := .val 60 _ Try.func60 (by decide) rfl false 0 orderF fun vs v new e => by
  unfold orderF at e
  split at e
  · cases e
    exact call0 ctr0 20 Try.func60 (p := true) (by kernel_rfl) rfl rfl
  · cases e

noncomputable def minusF : List SV → Option (SV × List Blk × Bool)
  | [.agg [.ints .u64 4 l]] => some (.tup [.agg [.ints .u64 4 (lessW l)], .int .u64 (lessB l)], [], true)
  | _ => none
theorem ctrMinus : CtrSound Try.prog (mk [orderE, sub64E] []) := mk_sound _ InlOK.nil _ _

set_option maxRecDepth 100000 in
noncomputable def minusE : Entry Try.prog := .val 33 _ Try.func33 (by decide) rfl false 0 minusF fun vs v new e => by
  unfold minusF at e
  split at e
  · rename_i l
    cases e
    exact call0 ctrMinus 60 Try.func33 (p := andT (andT (andT true (carry1 (mnB1 (l.getD 0 0)))) (carry1 (mnB2 (l.getD 0 0) (l.getD 1 0)))) (carry1 (mnB3 (l.getD 0 0) (l.getD 1 0) (l.getD 2 0)))) (by kernel_rfl) (by simp [andT, mnB1, mnB2, mnB3, subB_carry]) rfl
  · cases e

/-! ### point.number, key -/
noncomputable def numberF : List SV → Option (SV × List Blk × Bool)
  | [.agg [.ints .u8 32 l]] => some (.agg [.ints .u64 4 (numF l)], [], true)
  | _ => none
set_option maxRecDepth 100000 in
noncomputable def numberE : Entry Try.prog := .val 34 _ Try.func34 (by decide) rfl false 0 numberF fun vs v new e => by
  unfold numberF at e
  split at e
  · rename_i l
    cases e
    rw [numF, Lift.Lock_eq]
    exact call0 ctr0 200 Try.func34 (p := true) (by kernel_rfl) rfl rfl
  · cases e

noncomputable def keyEF : List SV → Option (SV × List Blk × Bool)
  | [.agg [.ints .u64 4 l]] => some (.agg [.ints .u8 32 (keyF l)], [], true)
  | _ => none
set_option maxRecDepth 100000 in
noncomputable def keyE : Entry Try.prog := .val 30 _ Try.func30 (by decide) rfl false 0 keyEF fun vs v new e => by
  unfold keyEF at e
  split at e
  · rename_i l
    cases e
    rw [keyF, Lift.Lock_eq]
    exact call0 ctr0 200 Try.func30 (p := true) (by kernel_rfl) rfl rfl
  · cases e

/-! ### (*residue).bit -/
/-- The receiver's block. -/
def pick1 (vs : List SV) (_ : List Blk) : List Nat := match vs with
  | .ptr b _ _ :: _ => [b]
  | _ => []
noncomputable def bitEF : List SV → List Blk → Option (SV × List Blk × Bool)
  | [.ptr 0 0 0, .int .u64 b], [.b [.ints .u64 4 l]] => some (.tup [], [.b [.ints .u64 4 (bitF (lst 4 l) b)]], true)
  | _, _ => none
theorem ctrBit (x : Bool) : CtrSound Try.prog (mk [minusE] [] fun i => if i = 43 then some x else none) := mk_sound _ InlOK.nil _ _
set_option maxRecDepth 100000 in
noncomputable def bitE : Entry Try.prog := .mut 29 _ Try.func29 (by decide) rfl pick1 0 bitEF fun vs h0 v h1 e => by
  unfold bitEF at e
  split at e
  · rename_i b l
    cases e
    refine FnTr.conv (bs := [.ptr 0 0 0, .int .u64 b]) (h2 := [.b [.ints .u64 4 (lst 4 l)]]) (h1 := [.b [.ints .u64 4 (bitF (lst 4 l) b)]]) ?_ ⟨VE.refl _, VE.refl _, trivial⟩ ⟨PE.lst _ _ _, trivial⟩ (VE.refl _) ⟨PE.refl _, trivial⟩
    rw [bitF, Lift.Lock_eq, bitW]
    by_cases hq : lessB (upW (lst 4 l) b) = 0
    · rw [if_pos hq]
      exact callM (ctrBit true) 200 Try.func29 1 (by simp) (p := andT true (lessB (upW (lst 4 l) b) == 0)) (by kernel_rfl) (by rw [hq]; rfl) rfl rfl
    · rw [if_neg hq]
      exact callM (ctrBit false) 200 Try.func29 1 (by simp) (p := andT true (!(lessB (upW (lst 4 l) b) == 0))) (by kernel_rfl) (by rw [beq_eq_false_iff_ne.2 hq]; rfl) rfl rfl
  · cases e
end Go.Proofs.Ytailgcdcdhhpnaa.Sp
