/- This file proves contracts of point.order, minus, number, key, Residue and of the library's Sub64, Add64. Conditions: numbers within their kinds. -/
import Derived.Test.YtailgcdcdhhpnaaLiftG
import Derived.Test.YtailgcdcdhhpnaaChecked
import Derived.Laws.Externs
namespace Go.Proofs.Ytailgcdcdhhpnaa
open Go Go.Lift

def inU (m : Int) (x : Int) : Bool := decide (0 ≤ x) && decide (x < m)
def u64 (x : Int) : Bool := inU 18446744073709551616 x
def u8 (x : Int) : Bool := inU 256 x
theorem u64_iff {x : Int} : u64 x = true ↔ 0 ≤ x ∧ x < 18446744073709551616 := by simp [u64, inU]
theorem u8_iff {x : Int} : u8 x = true ↔ 0 ≤ x ∧ x < 256 := by simp [u8, inU]

noncomputable def subD (x y b : Int) : Int := Lock (Int.ofNat ((x.toNat + Extern.MathBitsCarry.m64 - y.toNat - b.toNat) % Extern.MathBitsCarry.m64))
noncomputable def subB (x y b : Int) : Int := Lock (Int.ofNat (if x.toNat < y.toNat + b.toNat then 1 else 0))
noncomputable def addS (x y c : Int) : Int := Lock (Int.ofNat ((x.toNat + y.toNat + c.toNat) % Extern.MathBitsCarry.m64))
noncomputable def addC (x y c : Int) : Int := Lock (Int.ofNat ((x.toNat + y.toNat + c.toNat) / Extern.MathBitsCarry.m64))
def carry1 (c : Int) : Bool := decide (c.toNat ≤ 1)

noncomputable def sub64Entry : Array Value → Sem Value := fun args => do
  let (x, y, b) ← Extern.MathBitsCarry.three "Sub64" args
  pure (Extern.MathBitsCarry.pair ((x + Extern.MathBitsCarry.m64 - y - b) % Extern.MathBitsCarry.m64) (if x < y + b then 1 else 0))

theorem run_sub64 {P : Program} (x y b : Int) (hb : carry1 b = true) (w : World) :
    (sub64Entry #[.int .u64 x, .int .u64 y, .int .u64 b]).run P w = .ok (.tuple #[.int .u64 (subD x y b), .int .u64 (subB x y b)]) w := by
  unfold subD subB
  rw [Lock_eq, Lock_eq]
  rcases b with (_ | _ | k) | n
  · rfl
  · rfl
  · simp [carry1] at hb; omega
  · rfl

theorem run_add64' {P : Program} (x y c : Int) (hc : carry1 c = true) (w : World) :
    (add64Entry #[.int .u64 x, .int .u64 y, .int .u64 c]).run P w = .ok (.tuple #[.int .u64 (addS x y c), .int .u64 (addC x y c)]) w := by
  unfold addS addC
  rw [Lock_eq, Lock_eq]
  rcases c with (_ | _ | k) | n
  · rfl
  · rfl
  · simp [carry1] at hc; omega
  · rfl

noncomputable def sub64G : List Value → Option (Value × Bool)
  | [.int .u64 x, .int .u64 y, .int .u64 b] => some (.tuple #[.int .u64 (subD x y b), .int .u64 (subB x y b)], carry1 b)
  | _ => none
noncomputable def sub64E : Entry Try.prog := .val 61 sub64G fun vs v e h => by
  unfold sub64G at e
  split at e
  · rename_i x y b
    simp only [Option.some.injEq, Prod.mk.injEq] at e
    obtain ⟨rfl, hb⟩ := e
    refine ctr_extern h rfl rfl fun w => ?_
    rw [run_callFunc_extern Try.func61 (by kernel_rfl) (by kernel_rfl) (by kernel_rfl) (e := sub64Entry) (by kernel_rfl), run_sub64 x y b hb]
    rfl
  · cases e

noncomputable def add64G : List Value → Option (Value × Bool)
  | [.int .u64 x, .int .u64 y, .int .u64 c] => some (.tuple #[.int .u64 (addS x y c), .int .u64 (addC x y c)], carry1 c)
  | _ => none
noncomputable def add64E : Entry Try.prog := .val 36 add64G fun vs v e h => by
  unfold add64G at e
  split at e
  · rename_i x y c
    simp only [Option.some.injEq, Prod.mk.injEq] at e
    obtain ⟨rfl, hc⟩ := e
    refine ctr_extern h rfl rfl fun w => ?_
    rw [run_callFunc_extern Try.func36 (by kernel_rfl) (by kernel_rfl) (by kernel_rfl) (e := add64Entry) (by kernel_rfl), run_add64' x y c hc]
    rfl
  · cases e

/-! ### point.order, minus -/
def ordL : Int := 7237005577332262213973186563042994240857116359379907606001950938285454250989
def ordW : List Int := [6346243789798364141, 1503914060200516822, 0, 1152921504606846976]

def orderG : List Value → Option (Value × Bool)
  | [] => some (aggI .u64 ordW, true)
  | _ => none
noncomputable def orderE : Entry Try.prog := .val 60 orderG fun vs v e h => by
  unfold orderG at e
  split at e
  · cases e
    have hc : callS Try.prog (mk (P := Try.prog) []) 20 Try.f60 [] [] = some (aggI .u64 ordW, [.c (intsV .u64 ordW) 59], true) := by kernel_rfl
    exact ctr_pure Try.func60 (by decide) (FnTr.of_callS (mk_sound _ _) hc) rfl rfl h
  · cases e

theorem subB_carry (x y b : Int) : carry1 (subB x y b) = true := by unfold subB carry1; rw [Lock_eq]; split <;> rfl

/-- point.minus, word by word. -/
noncomputable def mnB1 (a : Int) : Int := subB a 6346243789798364141 0
noncomputable def mnB2 (a b : Int) : Int := subB b 1503914060200516822 (mnB1 a)
noncomputable def mnB3 (a b c : Int) : Int := subB c 0 (mnB2 a b)
noncomputable def mnB (a b c d : Int) : Int := subB d 1152921504606846976 (mnB3 a b c)
noncomputable def mnW (a b c d : Int) : List Int := [subD a 6346243789798364141 0, subD b 1503914060200516822 (mnB1 a), subD c 0 (mnB2 a b), subD d 1152921504606846976 (mnB3 a b c)]

noncomputable def minusG : List Value → Option (Value × Bool)
  | [.agg ⟨cs⟩] => match ints .u64 cs with
    | some [a, b, c, d] => some (.tuple #[aggI .u64 (mnW a b c d), .int .u64 (mnB a b c d)], true)
    | _ => none
  | _ => none

noncomputable def minusE : Entry Try.prog := .val 33 minusG fun vs v e h => by
  unfold minusG at e
  split at e
  · split at e
    · rename_i cs a b c d hcs
      simp only [Option.some.injEq, Prod.mk.injEq, and_true] at e
      subst e
      rw [ints_eq hcs]
      have key : (callS Try.prog (mk [orderE, sub64E]) 60 Try.f33 [aggI .u64 [a, b, c, d]] []).map (fun x => (x.1, x.2.2)) =
        some (.tuple #[aggI .u64 (mnW a b c d), .int .u64 (mnB a b c d)], andT (andT (andT true (carry1 (mnB1 a))) (carry1 (mnB2 a b))) (carry1 (mnB3 a b c))) := by kernel_rfl
      exact ctr_val Try.func33 (by decide) (mk_sound _ _) 60 key (by simp [andT, mnB1, mnB2, mnB3, subB_carry]) (by simp [plainL, plain, aggI, plain_ints]) (by simp [plain, plainL, aggI, plain_ints]) h
    · cases e
  · cases e

/-! ### point.number, key -/
/-- Eight bytes as a word, as the loop takes them. -/
def word8 (l : List Int) : Int := l.foldl (fun acc x => orI .u64 (shlI .u64 acc 8) (IntKind.u64.wrap x)) 0
def numW (l : List Int) : List Int := (List.range 4).map fun k => word8 ((List.range 8).map fun j => l.getD (8 * k + 7 - j) 0)
noncomputable def numF (l : List Int) : List Int := Lock (numW l)
theorem numF_length (l : List Int) : (numF l).length = 4 := by rw [numF, Lock_eq]; rfl

noncomputable def numberG : List Value → Option (Value × Bool)
  | [.agg ⟨cs⟩] => match intsN .u8 32 cs with
    | some l => some (aggI .u64 (lst 4 (numF l)), true)
    | _ => none
  | _ => none

set_option maxRecDepth 100000 in
noncomputable def numberE : Entry Try.prog := .val 34 numberG fun vs v e h => by
  unfold numberG at e
  split at e
  · split at e
    · rename_i cs l hcs
      simp only [Option.some.injEq, Prod.mk.injEq, and_true] at e
      subst e
      obtain ⟨h1, h2⟩ := intsN_eq hcs
      rw [lst_eq (numF_length l), h1]
      have key : (callS Try.prog (mk (P := Try.prog) []) 200 Try.f34 [aggI .u8 (lst 32 l)] []).map (fun x => (x.1, x.2.2)) = some (aggI .u64 (numW (lst 32 l)), true) := by kernel_rfl
      rw [lst_eq h2] at key
      rw [numF, Lock_eq, lst_eq h2]
      exact ctr_val Try.func34 (by decide) (mk_sound _ _) 200 key rfl (by simp [plainL, plain_aggI]) (plain_aggI _ _) h
    · cases e
  · cases e

def keyW (l : List Int) : List Int := (List.range 32).map fun i => IntKind.u8.wrap (shrI .u64 (l.getD (i / 8) 0) (8 * (i % 8)))
noncomputable def keyF (l : List Int) : List Int := Lock (keyW l)
theorem keyF_length (l : List Int) : (keyF l).length = 32 := by rw [keyF, Lock_eq]; rfl

noncomputable def keyG : List Value → Option (Value × Bool)
  | [.agg ⟨cs⟩] => match intsN .u64 4 cs with
    | some l => some (aggI .u8 (lst 32 (keyF l)), true)
    | _ => none
  | _ => none

set_option maxRecDepth 100000 in
noncomputable def keyE : Entry Try.prog := .val 30 keyG fun vs v e h => by
  unfold keyG at e
  split at e
  · split at e
    · rename_i cs l hcs
      simp only [Option.some.injEq, Prod.mk.injEq, and_true] at e
      subst e
      obtain ⟨h1, h2⟩ := intsN_eq hcs
      rw [lst_eq (keyF_length l), h1]
      have key : (callS Try.prog (mk (P := Try.prog) []) 200 Try.f30 [aggI .u64 (lst 4 l)] []).map (fun x => (x.1, x.2.2)) = some (aggI .u8 (keyW (lst 4 l)), true) := by kernel_rfl
      rw [lst_eq h2] at key
      rw [keyF, Lock_eq, lst_eq h2]
      exact ctr_val Try.func30 (by decide) (mk_sound _ _) 200 key rfl (by simp [plainL, plain_aggI]) (plain_aggI _ _) h
    · cases e
  · cases e
end Go.Proofs.Ytailgcdcdhhpnaa
