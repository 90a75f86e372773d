/- This file proves contracts of point.order, minus, number, key, Residue and of the library's Sub64, Add64. Conditions: numbers within their kinds. -/
import Derived.Test.YtkoohnpknhoahaaTNa
import Derived.Test.YtkoohnpknhoahaaChecked
import Derived.Laws.Externs
import Derived.IntWalk
import Derived.Laws.BitsLemmas
set_option linter.all false
namespace Go.Proofs.Ytkoohnpknhoahaa
open Go Go.Lift
def inU (m : Int) (x : Int) : Bool := decide (0 ≤ x) && decide (x < m)
def u64 (x : Int) : Bool := inU 18446744073709551616 x
def u8 (x : Int) : Bool := inU 256 x
theorem u8_iff {x : Int} : u8 x = true ↔ 0 ≤ x ∧ x < 256 := by simp [u8, inU]
noncomputable def subD (x y b : Int) : Int := Lock (Int.ofNat ((x.toNat + Extern.MathBitsCarry.m64 - y.toNat - b.toNat) % Extern.MathBitsCarry.m64))
noncomputable def subB (x y b : Int) : Int := Lock (Int.ofNat (if x.toNat < y.toNat + b.toNat then 1 else 0))
noncomputable def addS (x y c : Int) : Int := Lock (Int.ofNat ((x.toNat + y.toNat + c.toNat) % Extern.MathBitsCarry.m64))
noncomputable def addC (x y c : Int) : Int := Lock (Int.ofNat ((x.toNat + y.toNat + c.toNat) / Extern.MathBitsCarry.m64))
def carry1 (c : Int) : Bool := decide (c.toNat ≤ 1)
noncomputable def sub64Entry : Array Value → Sem Value := fun args => do
  let (x, y, b) ← Extern.MathBitsCarry.three "Sub64" args
  pure (Extern.MathBitsCarry.pair ((x + Extern.MathBitsCarry.m64 - y - b) % Extern.MathBitsCarry.m64) (if x < y + b then 1 else 0))
theorem run_sub64 {P : Program} (x y b : Int) (hb : carry1 b = true) (w : World) :
    (sub64Entry #[.int .u64 x, .int .u64 y, .int .u64 b]).run P w = .ok (.tuple #[.int .u64 (subD x y b), .int .u64 (subB x y b)]) w := by
  unfold subD subB
  rw [Lock_eq, Lock_eq]
  rcases b with (_ | _ | k) | n
  · rfl
  · rfl
  · simp [carry1] at hb; omega
  · rfl
theorem run_add64' {P : Program} (x y c : Int) (hc : carry1 c = true) (w : World) :
    (add64Entry #[.int .u64 x, .int .u64 y, .int .u64 c]).run P w = .ok (.tuple #[.int .u64 (addS x y c), .int .u64 (addC x y c)]) w := by
  unfold addS addC
  rw [Lock_eq, Lock_eq]
  rcases c with (_ | _ | k) | n
  · rfl
  · rfl
  · simp [carry1] at hc; omega
  · rfl
noncomputable def sub64G : List Value → Option (Value × Bool)
  | [.int .u64 x, .int .u64 y, .int .u64 b] => some (.tuple #[.int .u64 (subD x y b), .int .u64 (subB x y b)], carry1 b)
  | _ => none
noncomputable def sub64E : Entry Try.prog := .val 145 sub64G fun vs v e h => by
  unfold sub64G at e
  split at e
  · rename_i x y b
    simp only [Option.some.injEq, Prod.mk.injEq] at e
    obtain ⟨rfl, hb⟩ := e
    refine ctr_extern h rfl rfl fun w => ?_
    rw [run_callFunc_extern Try.func145 (by kernel_rfl) (by kernel_rfl) (by kernel_rfl) (e := sub64Entry) (by kernel_rfl), run_sub64 x y b hb]
    rfl
  · cases e
noncomputable def add64G : List Value → Option (Value × Bool)
  | [.int .u64 x, .int .u64 y, .int .u64 c] => some (.tuple #[.int .u64 (addS x y c), .int .u64 (addC x y c)], carry1 c)
  | _ => none
noncomputable def add64E : Entry Try.prog := .val 111 add64G fun vs v e h => by
  unfold add64G at e
  split at e
  · rename_i x y c
    simp only [Option.some.injEq, Prod.mk.injEq] at e
    obtain ⟨rfl, hc⟩ := e
    refine ctr_extern h rfl rfl fun w => ?_
    rw [run_callFunc_extern Try.func111 (by kernel_rfl) (by kernel_rfl) (by kernel_rfl) (e := add64Entry) (by kernel_rfl), run_add64' x y c hc]
    rfl
  · cases e
def ordL : Int := 7237005577332262213973186563042994240857116359379907606001950938285454250989
def ordW : List Int := [6346243789798364141, 1503914060200516822, 0, 1152921504606846976]
def orderG : List Value → Option (Value × Bool)
  | [] => some (aggI .u64 ordW, true)
  | _ => none
noncomputable def orderE : Entry Try.prog := .val 144 orderG fun vs v e h => by
  unfold orderG at e
  split at e
  · cases e
    have hc : callS Try.prog (mk (P := Try.prog) []) 20 Try.f144 [] [] = some (aggI .u64 ordW, [.c (intsV .u64 ordW) 142], true) := by kernel_rfl
    exact ctr_pure Try.func144 (by decide) (FnTr.of_callS (mk_sound _ _) hc) rfl rfl h
  · cases e
theorem subB_carry (x y b : Int) : carry1 (subB x y b) = true := by unfold subB carry1; rw [Lock_eq]; split <;> rfl
noncomputable def mnB1 (a : Int) : Int := subB a 6346243789798364141 0
noncomputable def mnB2 (a b : Int) : Int := subB b 1503914060200516822 (mnB1 a)
noncomputable def mnB3 (a b c : Int) : Int := subB c 0 (mnB2 a b)
noncomputable def mnB (a b c d : Int) : Int := subB d 1152921504606846976 (mnB3 a b c)
noncomputable def mnW (a b c d : Int) : List Int := [subD a 6346243789798364141 0, subD b 1503914060200516822 (mnB1 a), subD c 0 (mnB2 a b), subD d 1152921504606846976 (mnB3 a b c)]
noncomputable def minusG : List Value → Option (Value × Bool)
  | [.agg ⟨cs⟩] => match ints .u64 cs with
    | some [a, b, c, d] => some (.tuple #[aggI .u64 (mnW a b c d), .int .u64 (mnB a b c d)], true)
    | _ => none
  | _ => none
noncomputable def minusE : Entry Try.prog := .val 99 minusG fun vs v e h => by
  unfold minusG at e
  split at e
  · split at e
    · rename_i cs a b c d hcs
      simp only [Option.some.injEq, Prod.mk.injEq, and_true] at e
      subst e
      rw [ints_eq hcs]
      have key : (callS Try.prog (mk [orderE, sub64E]) 60 Try.f99 [aggI .u64 [a, b, c, d]] []).map (fun x => (x.1, x.2.2)) =
        some (.tuple #[aggI .u64 (mnW a b c d), .int .u64 (mnB a b c d)], andT (andT (andT true (carry1 (mnB1 a))) (carry1 (mnB2 a b))) (carry1 (mnB3 a b c))) := by kernel_rfl
      exact ctr_val Try.func99 (by decide) (mk_sound _ _) 60 key (by simp [andT, mnB1, mnB2, mnB3, subB_carry]) (by simp [plainL, plain, aggI, plain_ints]) (by simp [plain, plainL, aggI, plain_ints]) h
    · cases e
  · cases e
def word8 (l : List Int) : Int := l.foldl (fun acc x => orI .u64 (shlI .u64 acc 8) (IntKind.u64.wrap x)) 0
def numW (l : List Int) : List Int := (List.range 4).map fun k => word8 ((List.range 8).map fun j => l.getD (8 * k + 7 - j) 0)
noncomputable def numF (l : List Int) : List Int := Lock (numW l)
theorem numF_length (l : List Int) : (numF l).length = 4 := by rw [numF, Lock_eq]; rfl
noncomputable def numberG : List Value → Option (Value × Bool)
  | [.agg ⟨cs⟩] => match intsN .u8 32 cs with
    | some l => some (aggI .u64 (lst 4 (numF l)), true)
    | _ => none
  | _ => none
set_option maxRecDepth 100000 in
noncomputable def numberE : Entry Try.prog := .val 100 numberG fun vs v e h => by
  unfold numberG at e
  split at e
  · split at e
    · rename_i cs l hcs
      simp only [Option.some.injEq, Prod.mk.injEq, and_true] at e
      subst e
      obtain ⟨h1, h2⟩ := intsN_eq hcs
      rw [lst_eq (numF_length l), h1]
      have key : (callS Try.prog (mk (P := Try.prog) []) 200 Try.f100 [aggI .u8 (lst 32 l)] []).map (fun x => (x.1, x.2.2)) = some (aggI .u64 (numW (lst 32 l)), true) := by kernel_rfl
      rw [lst_eq h2] at key
      rw [numF, Lock_eq, lst_eq h2]
      exact ctr_val Try.func100 (by decide) (mk_sound _ _) 200 key rfl (by simp [plainL, plain_aggI]) (plain_aggI _ _) h
    · cases e
  · cases e
def keyW (l : List Int) : List Int := (List.range 32).map fun i => IntKind.u8.wrap (shrI .u64 (l.getD (i / 8) 0) (8 * (i % 8)))
noncomputable def keyF (l : List Int) : List Int := Lock (keyW l)
theorem keyF_length (l : List Int) : (keyF l).length = 32 := by rw [keyF, Lock_eq]; rfl
noncomputable def keyG : List Value → Option (Value × Bool)
  | [.agg ⟨cs⟩] => match intsN .u64 4 cs with
    | some l => some (aggI .u8 (lst 32 (keyF l)), true)
    | _ => none
  | _ => none
set_option maxRecDepth 100000 in
noncomputable def keyE : Entry Try.prog := .val 113 keyG fun vs v e h => by
  unfold keyG at e
  split at e
  · split at e
    · rename_i cs l hcs
      simp only [Option.some.injEq, Prod.mk.injEq, and_true] at e
      subst e
      obtain ⟨h1, h2⟩ := intsN_eq hcs
      rw [lst_eq (keyF_length l), h1]
      have key : (callS Try.prog (mk (P := Try.prog) []) 200 Try.f113 [aggI .u64 (lst 4 l)] []).map (fun x => (x.1, x.2.2)) = some (aggI .u8 (keyW (lst 4 l)), true) := by kernel_rfl
      rw [lst_eq h2] at key
      rw [keyF, Lock_eq, lst_eq h2]
      exact ctr_val Try.func113 (by decide) (mk_sound _ _) 200 key rfl (by simp [plainL, plain_aggI]) (plain_aggI _ _) h
    · cases e
  · cases e
end Go.Proofs.Ytkoohnpknhoahaa
namespace Go.Proofs.Ytkoohnpknhoahaa
open Go Go.Lift
def upW (l : List Int) (b : Int) : List Int :=
  [orI .u64 (shlI .u64 (l.getD 0 0) 1) b, orI .u64 (shlI .u64 (l.getD 1 0) 1) (shrI .u64 (l.getD 0 0) 63),
    orI .u64 (shlI .u64 (l.getD 2 0) 1) (shrI .u64 (l.getD 1 0) 63), orI .u64 (shlI .u64 (l.getD 3 0) 1) (shrI .u64 (l.getD 2 0) 63)]
noncomputable def lessB (l : List Int) : Int := mnB (l.getD 0 0) (l.getD 1 0) (l.getD 2 0) (l.getD 3 0)
noncomputable def lessW (l : List Int) : List Int := mnW (l.getD 0 0) (l.getD 1 0) (l.getD 2 0) (l.getD 3 0)
noncomputable def bitW (l : List Int) (b : Int) : List Int := if lessB (upW l b) = 0 then lessW (upW l b) else upW l b
noncomputable def bitF (l : List Int) (b : Int) : List Int := Lock (bitW l b)
theorem bitF_length (l : List Int) (b : Int) : (bitF l b).length = 4 := by rw [bitF, Lock_eq, bitW]; split <;> rfl
noncomputable def bitG : List Value → List Blk → Option (Value × List Blk × Bool)
  | [.pointer (some ⟨i, 0, none⟩), .int .u64 b], h => match h[i]? with
    | some (.c cs t) => match intsN .u64 4 cs with
      | some l => some (undef, h.set i (.c (intsV .u64 (lst 4 (bitF l b))) t), true)
      | none => none
    | _ => none
  | _, _ => none
set_option maxRecDepth 100000 in
theorem bit_fn (l : List Int) (b : Int) (t : TypeId) : ∃ g, FnTr Try.prog Try.f112 [.pointer (some ⟨0, 0, none⟩), .int .u64 b] [.c (intsV .u64 (lst 4 l)) t] undef (.c (intsV .u64 (bitW (lst 4 l) b)) t :: g) := by
  by_cases hq : lessB (upW (lst 4 l) b) = 0
  · have key : (callS Try.prog (mk [minusE] fun i => if i = 43 then some true else none) 200 Try.f112 [.pointer (some ⟨0, 0, none⟩), .int .u64 b] [.c (intsV .u64 (lst 4 l)) t]).map (fun x => (x.1, x.2.1.take 1, x.2.2)) =
      some (undef, [.c (intsV .u64 (lessW (upW (lst 4 l) b))) t], andT true (lessB (upW (lst 4 l) b) == 0)) := by kernel_rfl
    rw [bitW, if_pos hq]
    exact FnTr.of_take1 (mk_sound _ _) key (by rw [hq]; rfl)
  · have key : (callS Try.prog (mk [minusE] fun i => if i = 43 then some false else none) 200 Try.f112 [.pointer (some ⟨0, 0, none⟩), .int .u64 b] [.c (intsV .u64 (lst 4 l)) t]).map (fun x => (x.1, x.2.1.take 1, x.2.2)) =
      some (undef, [.c (intsV .u64 (upW (lst 4 l) b)) t], andT true (!(lessB (upW (lst 4 l) b) == 0))) := by kernel_rfl
    rw [bitW, if_neg hq]
    exact FnTr.of_take1 (mk_sound _ _) key (by rw [beq_eq_false_iff_ne.2 hq]; rfl)
theorem bitW_lst (l : List Int) (b : Int) : lst 4 (bitF l b) = bitW l b := by rw [lst_eq (bitF_length l b), bitF, Lock_eq]
noncomputable def bitE : Entry Try.prog where
  f := 112
  g := bitG
  pu := false
  ok := by
    intro vs h v h' e
    unfold bitG at e
    split at e
    · rename_i i b
      split at e
      · rename_i cs t hi
        split at e
        · rename_i l hcs
          simp only [Option.some.injEq, Prod.mk.injEq, and_true] at e
          obtain ⟨rfl, rfl⟩ := e
          obtain ⟨h1, h2⟩ := intsN_eq hcs
          obtain ⟨g, hg⟩ := bit_fn l b t
          refine ctr_ptr1 Try.func112 (by decide) hg rfl rfl (plain_ints _ _) (plain_ints _ _) rfl rfl hi rfl h1 rfl ?_
          show intsV .u64 (lst 4 (bitF l b)) = intsV .u64 (bitW (lst 4 l) b)
          rw [bitW_lst, lst_eq h2]
        · cases e
      · cases e
    · cases e
  pok := fun h => by cases h
noncomputable def residueG : List Value → Option (Value × Bool)
  | [.agg ⟨cs⟩] => match intsN .u8 32 cs with
    | some l => some (.bool (lessB (numF l) == 1), true)
    | none => none
  | _ => none
set_option maxRecDepth 100000 in
noncomputable def residueE : Entry Try.prog := .val 56 residueG fun vs v e h => by
  unfold residueG at e
  split at e
  · split at e
    · rename_i cs l hcs
      simp only [Option.some.injEq, Prod.mk.injEq, and_true] at e
      subst e
      obtain ⟨h1, h2⟩ := intsN_eq hcs
      rw [h1]
      have key : (callS Try.prog (mk [minusE, numberE]) 60 Try.f56 [aggI .u8 (lst 32 l)] []).map (fun x => (x.1, x.2.2)) = some (.bool (lessB (numF (lst 32 l)) == 1), true) := by kernel_rfl
      rw [lst_eq h2] at key ⊢
      exact ctr_val Try.func56 (by decide) (mk_sound _ _) 60 key rfl (by simp [plainL, plain_aggI]) rfl h
    · cases e
  · cases e
noncomputable def byteW (l : List Int) (x : Int) : List Int :=
  [7, 6, 5, 4, 3, 2, 1, 0].foldl (fun w k => bitF (lst 4 w) (IntKind.u64.wrap (andI .u8 (shrI .u8 x k) 1))) l
def ctr (n : Nat) : Nat → Int
  | 0 => IntKind.i64.wrap (n - 1)
  | j + 1 => IntKind.i64.wrap (ctr n j - 1)
noncomputable def redW (bs : List Int) : Nat → List Int
  | 0 => [0, 0, 0, 0]
  | j + 1 => byteW (redW bs j) (bs.getD (0 + (ctr bs.length j).toNat * 1) 0)
def zeros (k : IntKind) (n : Nat) : List Value := List.replicate n (.int k 0)
def redArg (bs : List Int) (cap : Nat) : Value := .slice (some ⟨0, 0, none⟩) bs.length cap
noncomputable def redS (bs : List Int) (cap j : Nat) : St :=
  ⟨slotsOf 34 [(0, redArg bs cap), (2, .pointer (some ⟨1, 0, none⟩)), (4, .pointer (some ⟨2, 0, none⟩)), (5, .int .i64 (ctr bs.length j))],
    [.rs .u8 bs, .c (zeros .u8 32) 23, .c (intsV .u64 (lst 4 (redW bs j))) 160], true⟩
theorem ctr_eq (n : Nat) (hn : n ≤ 64) : ∀ j : Nat, j ≤ n → ctr n j = n - 1 - j
  | 0, _ => by rw [ctr, IntWalk.i64_in _ (by omega)]; omega
  | j + 1, h => by rw [ctr, ctr_eq n hn j (by omega), IntWalk.i64_in _ (by omega)]; omega
set_option maxRecDepth 100000 in
theorem red_round (bs : List Int) (cap j : Nat) (hn : bs.length ≤ 64) (hj : j < bs.length) :
    Tr Try.prog (inner (inner (nthC 5 (bodyOf Try.f101)))) (redS bs cap j) .normal (redS bs cap (j + 1)) := by
  have key : (exec Try.prog (mk [bitE] fun i => if i = 15 then some true else none) 200 (inner (inner (nthC 5 (bodyOf Try.f101)))) (redS bs cap j)).map (fun r => (r.1, r.2.keep [0, 2, 4, 5])) =
    some (.normal, ⟨(redS bs cap (j + 1)).t, (redS bs cap (j + 1)).h, (List.replicate 8 ()).foldl (fun o _ => andT (andT o (decide (0 ≤ ctr bs.length j) && decide (ctr bs.length j < (bs.length : Int)))) (decide (0 + (ctr bs.length j).toNat * 1 < bs.length)))
      (andT true (decide (ctr bs.length j ≥ 0)))⟩) := by kernel_rfl
  have hc := ctr_eq bs.length hn j (by omega)
  refine Tr.post (Tr.keep (mk_sound _ _) 200 [0, 2, 4, 5] key ?_) ⟨rfl, fun _ _ h => h, rfl, fun i b b' h h' => by rw [h] at h'; cases h'; exact ⟨rfl, rfl⟩⟩
  have h1 : decide (0 ≤ ctr bs.length j) = true := by rw [hc]; simp; omega
  have h2 : decide (ctr bs.length j < (bs.length : Int)) = true := by rw [hc]; simp; omega
  have h3 : decide (0 + (ctr bs.length j).toNat * 1 < bs.length) = true := by rw [hc]; simp; omega
  have h4 : decide (ctr bs.length j ≥ 0) = true := h1
  show List.foldl _ _ _ = true
  rw [h2, h3, h4]
  rfl
set_option maxRecDepth 100000 in
theorem red_fn (bs : List Int) (cap : Nat) (hn : bs.length ≤ 64) : ∃ g, FnTr Try.prog Try.f101 [redArg bs cap] [.rs .u8 bs] (.tuple #[aggI .u8 (lst 32 (keyF (lst 4 (redW bs bs.length)))), .bool true]) (.rs .u8 bs :: g) := by
  have k0 : (execL Try.prog (mk (P := Try.prog) [] fun i => if i = 9 then some false else none) 60 5 (atoms (bodyOf Try.f101)) ⟨slots0 Try.f101.ntmps [redArg bs cap], [.rs .u8 bs], true⟩).map (St.keep [0, 2, 4, 5]) =
    some ⟨(redS bs cap 0).t, (redS bs cap 0).h, andT true (!decide ((bs.length : Int) > 64))⟩ := by kernel_rfl
  have k1 : (exec Try.prog (mk (P := Try.prog) [] fun i => if i = 15 then some false else none) 60 (inner (inner (nthC 5 (bodyOf Try.f101)))) (redS bs cap bs.length)).map (fun r => (r.1, r.2.keep [0, 2, 4, 5])) =
    some (.exit 0, ⟨(redS bs cap bs.length).t, (redS bs cap bs.length).h, andT true (!decide (ctr bs.length bs.length ≥ 0))⟩) := by kernel_rfl
  have k2 : ((execA Try.prog (mk [keyE]) 60 ((atoms (bodyOf Try.f101)).drop 6) (redS bs cap bs.length)).bind fun r => match r.1 with
      | .ret | .normal => (resS Try.prog r.2.t r.2.h Try.f101.results.toList).map fun q => (oneOf q.1, r.2.h, andT r.2.ob q.2)
      | _ => none) = some (.tuple #[aggI .u8 (lst 32 (keyF (lst 4 (redW bs bs.length)))), .bool true], [.rs .u8 bs, .c (intsV .u8 (lst 32 (keyF (lst 4 (redW bs bs.length))))) 23, .c (intsV .u64 (lst 4 (redW bs bs.length))) 160], true) := by kernel_rfl
  have hc := ctr_eq bs.length hn bs.length (Nat.le_refl _)
  have hs : ∀ s : St, ∀ o, Sub ⟨s.t, s.h, o⟩ s := fun s o => ⟨rfl, fun _ _ h => h, rfl, fun i b b' h h' => by rw [h] at h'; cases h'; exact ⟨rfl, rfl⟩⟩
  refine ⟨_, FnTr.rest (mk_sound _ _) 60 6 (by decide) (fun s' x h => ?_) k2 rfl⟩
  refine TrL.items (mk_sound _ _) 60 5 [0, 2, 4, 5] k0 ?_ (by decide) (TrL.item 5 (by decide) (s1 := redS bs cap bs.length) (Tr.pre (Tr.loop 0 (by decide) (redS bs cap) bs.length (fun j hj => red_round bs cap j hn hj) ?_) (hs _ _)) h)
  · show andT true _ = true
    rw [decide_eq_false (by omega)]; rfl
  · refine Tr.post (Tr.keep (mk_sound _ _) 60 [0, 2, 4, 5] k1 ?_) (hs _ _)
    show andT true _ = true
    rw [decide_eq_false (by rw [hc]; omega)]; rfl
end Go.Proofs.Ytkoohnpknhoahaa
namespace Go.Proofs.Ytkoohnpknhoahaa
open Go Go.Lift
theorem wraps_u64 (n : Int) (h₀ : 0 ≤ n) (h₁ : n < 2 ^ 64) : IntKind.u64.wrap n = n := by
  have e : (2 : Int) ^ 64 = 18446744073709551616 := by decide
  rw [e] at h₁
  rw [show IntKind.u64.wrap n = n % 2 ^ 64 from by simp [IntKind.wrap, IntKind.signed, IntKind.bits], e]
  omega
theorem wrap_u64 (n : Int) : IntKind.u64.wrap n = n % 18446744073709551616 := by simp [IntKind.wrap, IntKind.signed, IntKind.bits]
theorem or64 (i : Nat) (x y : Int) (hx₀ : 0 ≤ x) (hx : x % 2 ^ i = 0) (hx₁ : x < 18446744073709551616) (hy₀ : 0 ≤ y) (hy : y < 2 ^ i) (hi : i ≤ 64) : orI .u64 x y = x + y := by
  have e : (2 : Int) ^ 64 = 18446744073709551616 := by decide
  have h2 : (2 : Int) ^ i ≤ 2 ^ 64 := by exact_mod_cast Nat.pow_le_pow_right (by decide) hi
  exact bits_join .u64 64 (by decide) wraps_u64 i x y hx₀ hx (by rw [e]; exact hx₁) hy₀ hy (by omega)
theorem shr_eq (k : IntKind) (a : Int) (n : Nat) (hn : n ≤ k.bits) : shrI k a n = a / 2 ^ n := by
  unfold shrI
  rw [Nat.min_eq_left hn, Int.fdiv_eq_ediv_of_nonneg]
  exact_mod_cast Nat.zero_le (2 ^ n)
theorem shl64 (a : Int) (n : Nat) (hn : n ≤ 64) : shlI .u64 a n = a * 2 ^ n % 18446744073709551616 := by
  unfold shlI
  rw [show min n IntKind.u64.bits = n from Nat.min_eq_left hn, wrap_u64]
theorem and8_one (x : Int) (h0 : 0 ≤ x) (h1 : x < 256) : andI .u8 x 1 = x % 2 := by
  exact (bits_mask .u8 8 (by decide) wraps_u8 1 (by decide) x h0 h1 : bits .and .u8 x (2 ^ 1 - 1) = x % 2 ^ 1)
def val4 (a b c d : Int) : Int := a + 18446744073709551616 * b + 340282366920938463463374607431768211456 * c + 6277101735386680763835789423207666416102355444464034512896 * d
def wd (n : Int) (i : Nat) : Int := n / 2 ^ (64 * i) % 18446744073709551616
def wds (n : Int) : List Int := [wd n 0, wd n 1, wd n 2, wd n 3]
theorem wd_eq (n : Int) : wds n = [n % 18446744073709551616, n / 18446744073709551616 % 18446744073709551616, n / 340282366920938463463374607431768211456 % 18446744073709551616, n / 6277101735386680763835789423207666416102355444464034512896 % 18446744073709551616] := by
  unfold wds wd; simp
theorem val4_wds {n : Int} (h0 : 0 ≤ n) (h1 : n < 115792089237316195423570985008687907853269984665640564039457584007913129639936) :
    val4 (n % 18446744073709551616) (n / 18446744073709551616 % 18446744073709551616) (n / 340282366920938463463374607431768211456 % 18446744073709551616) (n / 6277101735386680763835789423207666416102355444464034512896 % 18446744073709551616) = n := by
  unfold val4; omega
theorem upW_wds {n b : Int} (h0 : 0 ≤ n) (h1 : n < 57896044618658097711785492504343953926634992332820282019728792003956564819968) (hb0 : 0 ≤ b) (hb : b ≤ 1) : upW (wds n) b = wds (2 * n + b) := by
  rw [wd_eq, wd_eq]
  have o : ∀ x y : Int, 0 ≤ x → x < 18446744073709551616 → 0 ≤ y → y ≤ 1 → orI .u64 (shlI .u64 x 1) y = x * 2 % 18446744073709551616 + y := fun x y hx hx' hy hy' => by
    rw [shl64 x 1 (by decide), or64 1 _ y (by omega) (by first | (simp; done) | (simp; omega)) (by omega) hy (by first | (simp; done) | (simp; omega)) (by decide)]
    simp
  have s : ∀ x : Int, shrI .u64 x 63 = x / 9223372036854775808 := fun x => by rw [shr_eq _ _ _ (by decide)]; simp
  simp only [upW, List.getD_cons_zero, List.getD_cons_succ, s]
  rw [o _ _ (by omega) (by omega) hb0 hb, o _ _ (by omega) (by omega) (by omega) (by omega), o _ _ (by omega) (by omega) (by omega) (by omega), o _ _ (by omega) (by omega) (by omega) (by omega)]
  congr 1
  · omega
  · congr 1
    · omega
    · congr 1
      · omega
      · congr 1
        omega
theorem subD_eq {x y b : Int} (hx : 0 ≤ x) (hy : 0 ≤ y) (hy' : y < 18446744073709551616) (hb : 0 ≤ b) (hb' : b ≤ 1) : subD x y b = (x - y - b) % 18446744073709551616 := by
  unfold subD; rw [Lock_eq]
  have : Extern.MathBitsCarry.m64 = 18446744073709551616 := rfl
  rw [this]
  simp only [Int.ofNat_eq_natCast]
  omega
theorem subB_cases {x y b : Int} (hx : 0 ≤ x) (hy : 0 ≤ y) (hb : 0 ≤ b) : (x < y + b ∧ subB x y b = 1) ∨ (y + b ≤ x ∧ subB x y b = 0) := by
  unfold subB; rw [Lock_eq]
  by_cases h : x.toNat < y.toNat + b.toNat
  · rw [if_pos h]; left; exact ⟨by omega, rfl⟩
  · rw [if_neg h]; right; exact ⟨by omega, rfl⟩
theorem minus_wds {n : Int} (h0 : 0 ≤ n) (h1 : n < 115792089237316195423570985008687907853269984665640564039457584007913129639936) :
    lessW (wds n) = wds ((n - ordL) % 115792089237316195423570985008687907853269984665640564039457584007913129639936) ∧ ((n < ordL ∧ lessB (wds n) = 1) ∨ (ordL ≤ n ∧ lessB (wds n) = 0)) := by
  rw [wd_eq, wd_eq]
  simp only [lessW, lessB, List.getD_cons_zero, List.getD_cons_succ]
  have hv := val4_wds h0 h1
  unfold val4 at hv
  generalize ha : n % 18446744073709551616 = a at *
  generalize hb : n / 18446744073709551616 % 18446744073709551616 = b at *
  generalize hc : n / 340282366920938463463374607431768211456 % 18446744073709551616 = c at *
  generalize hd : n / 6277101735386680763835789423207666416102355444464034512896 % 18446744073709551616 = d at *
  have ra : 0 ≤ a ∧ a < 18446744073709551616 := by omega
  have rb : 0 ≤ b ∧ b < 18446744073709551616 := by omega
  have rc : 0 ≤ c ∧ c < 18446744073709551616 := by omega
  have rd : 0 ≤ d ∧ d < 18446744073709551616 := by omega
  clear ha hb hc hd
  unfold mnW mnB
  have c1 := subB_cases (x := a) (y := 6346243789798364141) (b := 0) ra.1 (by omega) (by omega)
  change (_ ∧ mnB1 a = 1) ∨ (_ ∧ mnB1 a = 0) at c1
  have c2 := subB_cases (x := b) (y := 1503914060200516822) (b := mnB1 a) rb.1 (by omega) (by omega)
  change (_ ∧ mnB2 a b = 1) ∨ (_ ∧ mnB2 a b = 0) at c2
  have c3 := subB_cases (x := c) (y := 0) (b := mnB2 a b) rc.1 (by omega) (by omega)
  change (_ ∧ mnB3 a b c = 1) ∨ (_ ∧ mnB3 a b c = 0) at c3
  have c4 := subB_cases (x := d) (y := 1152921504606846976) (b := mnB3 a b c) rd.1 (by omega) (by omega)
  rw [subD_eq ra.1 (by omega) (by omega) (by omega) (by omega), subD_eq rb.1 (by omega) (by omega) (by omega) (by omega), subD_eq rc.1 (by omega) (by omega) (by omega) (by omega), subD_eq rd.1 (by omega) (by omega) (by omega) (by omega)]
  generalize mnB1 a = B1 at *
  generalize mnB2 a b = B2 at *
  generalize mnB3 a b c = B3 at *
  generalize subB d 1152921504606846976 B3 = B4 at *
  generalize hD1 : (a - 6346243789798364141 - 0) % 18446744073709551616 = D1
  generalize hD2 : (b - 1503914060200516822 - B1) % 18446744073709551616 = D2
  generalize hD3 : (c - 0 - B2) % 18446744073709551616 = D3
  generalize hD4 : (d - 1152921504606846976 - B3) % 18446744073709551616 = D4
  have e1 : a - 6346243789798364141 = D1 - 18446744073709551616 * B1 := by omega
  have e2 : b - 1503914060200516822 - B1 = D2 - 18446744073709551616 * B2 := by omega
  have e3 : c - 0 - B2 = D3 - 18446744073709551616 * B3 := by omega
  have e4 : d - 1152921504606846976 - B3 = D4 - 18446744073709551616 * B4 := by omega
  have r1 : 0 ≤ D1 ∧ D1 < 18446744073709551616 := by omega
  have r2 : 0 ≤ D2 ∧ D2 < 18446744073709551616 := by omega
  have r3 : 0 ≤ D3 ∧ D3 < 18446744073709551616 := by omega
  have r4 : 0 ≤ D4 ∧ D4 < 18446744073709551616 := by omega
  clear hD1 hD2 hD3 hD4
  have hn : n - ordL = (D1 + 18446744073709551616 * D2 + 340282366920938463463374607431768211456 * D3 + 6277101735386680763835789423207666416102355444464034512896 * D4) - 115792089237316195423570985008687907853269984665640564039457584007913129639936 * B4 := by unfold ordL; omega
  have hm : (n - ordL) % 115792089237316195423570985008687907853269984665640564039457584007913129639936 = D1 + 18446744073709551616 * D2 + 340282366920938463463374607431768211456 * D3 + 6277101735386680763835789423207666416102355444464034512896 * D4 := by omega
  rw [hm]
  refine ⟨?_, by unfold ordL at *; omega⟩
  congr 1
  · omega
  · congr 1
    · omega
    · congr 1
      · omega
      · congr 1
        omega
theorem ordL_pos : 0 < ordL ∧ ordL < 7237005577332262213973186563042994240857116359379907606001950938285454250990 := by unfold ordL; omega
theorem bit_step {n b : Int} (h0 : 0 ≤ n) (h1 : n < ordL) (hb0 : 0 ≤ b) (hb : b ≤ 1) : bitF (lst 4 (wds n)) b = wds ((2 * n + b) % ordL) := by
  have hL := ordL_pos
  rw [bitF, Lock_eq, lst_eq (by rfl), bitW, upW_wds h0 (by omega) hb0 hb]
  obtain ⟨hw, hc⟩ := minus_wds (n := 2 * n + b) (by omega) (by omega)
  rcases hc with ⟨hlt, h⟩ | ⟨hge, h⟩
  · rw [if_neg (by omega), Int.emod_eq_of_lt (by omega) hlt]
  · rw [if_pos h, hw]
    congr 1
    rw [Int.emod_eq_of_lt (by omega) (by omega), ← Int.sub_emod_right, Int.emod_eq_of_lt (by omega) (by omega)]
theorem twice_mod (a b : Int) : (2 * (a % ordL) + b) % ordL = (2 * a + b) % ordL := by
  rw [Int.add_emod, Int.mul_emod, Int.emod_emod, ← Int.mul_emod, ← Int.add_emod]
theorem byte_step {n x : Int} (h0 : 0 ≤ n) (h1 : n < ordL) (hx0 : 0 ≤ x) (hx : x < 256) : byteW (wds n) x = wds ((256 * n + x) % ordL) := by
  have hL := ordL_pos
  have bit : ∀ k : Nat, k ≤ 7 → IntKind.u64.wrap (andI .u8 (shrI .u8 x k) 1) = x / 2 ^ k % 2 := fun k hk => by
    rw [shr_eq _ _ _ (by show k ≤ 8; omega)]
    have hp : (0 : Int) < 2 ^ k := by exact_mod_cast Nat.two_pow_pos k
    have q0 : 0 ≤ x / 2 ^ k := Int.ediv_nonneg hx0 (by omega)
    have q1 : x / 2 ^ k ≤ x := Int.ediv_le_self _ hx0
    rw [and8_one _ q0 (by omega), wrap_u64]; omega
  have rng : ∀ a : Int, 0 ≤ a % ordL ∧ a % ordL < ordL := fun a => ⟨Int.emod_nonneg _ (by omega), Int.emod_lt_of_pos _ hL.1⟩
  unfold byteW
  simp only [List.foldl_cons, List.foldl_nil]
  rw [bit 7 (by decide), bit 6 (by decide), bit 5 (by decide), bit 4 (by decide), bit 3 (by decide), bit 2 (by decide), bit 1 (by decide), bit 0 (by decide)]
  rw [bit_step h0 h1 (by omega) (by omega)]
  iterate 7 rw [bit_step (rng _).1 (rng _).2 (by omega) (by omega)]
  simp only [twice_mod]
  congr 2
  simp only [Int.reducePow]
  omega
def val256 : List Int → Int
  | [] => 0
  | x :: l => x + 256 * val256 l
theorem val256_nonneg : ∀ {l : List Int}, l.all u8 = true → 0 ≤ val256 l
  | [], _ => by simp [val256]
  | x :: l, h => by
    simp only [List.all_cons, Bool.and_eq_true, u8_iff] at h
    have := val256_nonneg h.2
    simp only [val256]; omega
theorem all_getD {l : List Int} (h : l.all u8 = true) {i : Nat} (hi : i < l.length) : 0 ≤ l.getD i 0 ∧ l.getD i 0 < 256 := by
  rw [List.all_eq_true] at h
  have := h (l.getD i 0) (by simp [List.getD, List.getElem?_eq_getElem hi])
  rwa [u8_iff] at this
theorem red_wds {bs : List Int} (hb : bs.all u8 = true) (hn : bs.length ≤ 64) : ∀ j : Nat, j ≤ bs.length → redW bs j = wds (val256 (bs.drop (bs.length - j)) % ordL)
  | 0, _ => by
    rw [Nat.sub_zero, List.drop_length, val256]
    rfl
  | j + 1, h => by
    have hL := ordL_pos
    rw [redW, red_wds hb hn j (by omega), ctr_eq _ hn j (by omega)]
    have hi : bs.length - (j + 1) < bs.length := by omega
    have hidx : 0 + ((bs.length : Int) - 1 - j).toNat * 1 = bs.length - (j + 1) := by omega
    rw [hidx]
    have hx := all_getD hb hi
    rw [byte_step (Int.emod_nonneg _ (by omega)) (Int.emod_lt_of_pos _ hL.1) hx.1 hx.2]
    have hd : bs.drop (bs.length - (j + 1)) = bs.getD (bs.length - (j + 1)) 0 :: bs.drop (bs.length - j) := by
      rw [List.drop_eq_getElem_cons hi]
      congr 1
      · simp [List.getD, List.getElem?_eq_getElem hi]
      · congr 1; omega
    rw [hd, val256]
    congr 1
    rw [Int.add_emod, Int.mul_emod, Int.emod_emod, ← Int.mul_emod, ← Int.add_emod, Int.add_comm]
def dig32 (n : Int) : List Int := (List.range 32).map fun i => n / 256 ^ i % 256
theorem key_wds {n : Int} (h0 : 0 ≤ n) (h1 : n < 115792089237316195423570985008687907853269984665640564039457584007913129639936) : keyF (lst 4 (wds n)) = dig32 n := by
  rw [keyF, Lock_eq, lst_eq (by rfl), keyW, dig32]
  apply List.map_congr_left
  intro i hi
  rw [List.mem_range] at hi
  rw [shr_eq _ _ _ (by show 8 * (i % 8) ≤ 64; omega), IntKind.wrap_u8, wd_eq]
  have : i = 0 ∨ i = 1 ∨ i = 2 ∨ i = 3 ∨ i = 4 ∨ i = 5 ∨ i = 6 ∨ i = 7 ∨ i = 8 ∨ i = 9 ∨ i = 10 ∨ i = 11 ∨ i = 12 ∨ i = 13 ∨ i = 14 ∨ i = 15 ∨ i = 16 ∨ i = 17 ∨ i = 18 ∨ i = 19 ∨ i = 20 ∨ i = 21 ∨ i = 22 ∨ i = 23 ∨ i = 24 ∨ i = 25 ∨ i = 26 ∨ i = 27 ∨ i = 28 ∨ i = 29 ∨ i = 30 ∨ i = 31 := by omega
  rcases this with h|h|h|h|h|h|h|h|h|h|h|h|h|h|h|h|h|h|h|h|h|h|h|h|h|h|h|h|h|h|h|h <;> subst h <;> simp <;> omega
theorem red_key {bs : List Int} (hb : bs.all u8 = true) (hn : bs.length ≤ 64) : keyF (lst 4 (redW bs bs.length)) = dig32 (val256 bs % ordL) := by
  have hL := ordL_pos
  have h := red_wds hb hn bs.length (Nat.le_refl _)
  rw [Nat.sub_self, List.drop_zero] at h
  have r0 : 0 ≤ val256 bs % ordL := Int.emod_nonneg _ (by omega)
  have r1 : val256 bs % ordL < ordL := Int.emod_lt_of_pos _ hL.1
  rw [h, key_wds r0 (by omega)]
end Go.Proofs.Ytkoohnpknhoahaa
namespace Go.Proofs.Ytkoohnpknhoahaa
open Go Go.Lift
def cu : Nat → Int
  | 0 => 0
  | j + 1 => IntKind.i64.wrap (cu j + 1)
theorem cu_eq : ∀ j : Nat, j ≤ 1099511627776 → cu j = j
  | 0, _ => rfl
  | j + 1, h => by rw [cu, cu_eq j (by omega), IntWalk.i64_in _ (by omega)]; omega
def sliceArg (b n c : Nat) : Value := .slice (some ⟨b, 0, none⟩) n c
def intsR (bs : List Int) : Nat → List Int
  | 0 => List.replicate ((bs.length : Nat) : Int).toNat 0
  | j + 1 => (intsR bs j).set (0 + (cu j).toNat * 1) (IntKind.i64.wrap (bs.getD (0 + (cu j).toNat * 1) 0))
theorem intsR_length (bs : List Int) : ∀ j, (intsR bs j).length = bs.length
  | 0 => by simp [intsR]
  | j + 1 => by rw [intsR, List.length_set, intsR_length bs j]
def intsS (bs : List Int) (cap j : Nat) : St :=
  ⟨slotsOf 23 [(0, sliceArg 0 bs.length cap), (3, .slice (some ⟨1, 0, none⟩) ((bs.length : Nat) : Int).toNat ((bs.length : Nat) : Int).toNat), (4, .int .i64 (cu j))], [.rs .u8 bs, .s .i64 (intsR bs j) 3], true⟩
set_option maxRecDepth 100000 in
theorem ints_fn (bs : List Int) (cap : Nat) (hn : bs.length ≤ 1099511627776) : ∃ g, FnTr Try.prog Try.f109 [sliceArg 0 bs.length cap] [.rs .u8 bs]
    (.slice (some ⟨1, 0, none⟩) bs.length bs.length) (.rs .u8 bs :: .s .i64 (intsR bs bs.length) 3 :: g) := by
  have k0 : (execL Try.prog (mk (P := Try.prog) []) 60 3 (atoms (bodyOf Try.f109)) ⟨slots0 Try.f109.ntmps [sliceArg 0 bs.length cap], [.rs .u8 bs], true⟩).map (St.keep [0, 3, 4]) =
    some ⟨(intsS bs cap 0).t, (intsS bs cap 0).h, andT true ((IntKind.i64.wrap ((bs.length : Nat) : Int) == ((bs.length : Nat) : Int) && IntKind.i64.wrap ((bs.length : Nat) : Int) == ((bs.length : Nat) : Int)) &&
      (decide (0 ≤ ((bs.length : Nat) : Int)) && decide (((bs.length : Nat) : Int) ≤ ((bs.length : Nat) : Int)) && decide (((8 : Nat) : Int) * ((bs.length : Nat) : Int) ≤ 2 ^ 48)))⟩ := by kernel_rfl
  have kr : ∀ j, (exec Try.prog (mk (P := Try.prog) [] fun i => if i = 11 then some true else none) 60 (inner (inner (nthC 3 (bodyOf Try.f109)))) (intsS bs cap j)).map (fun r => (r.1, r.2.keep [0, 3, 4])) =
    some (.normal, ⟨(intsS bs cap (j + 1)).t, (intsS bs cap (j + 1)).h, andT (andT (andT (andT (andT true (decide (cu j < ((bs.length : Nat) : Int)))) (decide (0 ≤ cu j) && decide (cu j < ((bs.length : Nat) : Int)))) (decide (0 + (cu j).toNat * 1 < bs.length)))
      (decide (0 ≤ cu j) && decide (cu j < ((((bs.length : Nat) : Int).toNat : Nat) : Int)))) (decide (0 + (cu j).toNat * 1 < (intsR bs j).length))⟩) := fun j => by kernel_rfl
  have k1 : (exec Try.prog (mk (P := Try.prog) [] fun i => if i = 11 then some false else none) 60 (inner (inner (nthC 3 (bodyOf Try.f109)))) (intsS bs cap bs.length)).map (fun r => (r.1, r.2.keep [0, 3, 4])) =
    some (.exit 0, ⟨(intsS bs cap bs.length).t, (intsS bs cap bs.length).h, andT true (!decide (cu bs.length < ((bs.length : Nat) : Int)))⟩) := by kernel_rfl
  have k2 : ((execA Try.prog (mk (P := Try.prog) []) 60 ((atoms (bodyOf Try.f109)).drop 4) (intsS bs cap bs.length)).bind fun r => match r.1 with
      | .ret | .normal => (resS Try.prog r.2.t r.2.h Try.f109.results.toList).map fun q => (oneOf q.1, r.2.h, andT r.2.ob q.2)
      | _ => none) = some (.slice (some ⟨1, 0, none⟩) bs.length bs.length, [.rs .u8 bs, .s .i64 (intsR bs bs.length) 3], true) := by kernel_rfl
  have hlen := Int.toNat_natCast bs.length
  refine ⟨_, FnTr.rest (mk_sound _ _) 60 4 (by decide) (fun s' x h => ?_) k2 rfl⟩
  refine TrL.items (mk_sound _ _) 60 3 [0, 3, 4] k0 ?_ (by decide) (TrL.item 3 (by decide) (s1 := intsS bs cap bs.length) (Tr.pre (Tr.loop 0 (by decide) (intsS bs cap) bs.length (fun j hj => ?_) ?_) (Sub.ob _ _)) h)
  · show andT true _ = true
    rw [IntWalk.i64_in _ (by omega), beq_self_eq_true, decide_eq_true (by omega), decide_eq_true (by omega), decide_eq_true (by omega)]; rfl
  · refine Tr.post (Tr.keep (mk_sound _ _) 60 [0, 3, 4] (kr j) ?_) (Sub.ob _ _)
    show andT _ _ = true
    rw [cu_eq j (by omega), intsR_length, hlen, decide_eq_true (by omega), decide_eq_true (by omega), decide_eq_true (by omega)]; rfl
  · refine Tr.post (Tr.keep (mk_sound _ _) 60 [0, 3, 4] k1 ?_) (Sub.ob _ _)
    show andT true _ = true
    rw [cu_eq _ hn, decide_eq_false (by omega)]; rfl
theorem intsR_eq {bs : List Int} (hb : bs.all u8 = true) (hn : bs.length ≤ 1099511627776) : ∀ j, j ≤ bs.length → intsR bs j = bs.take j ++ List.replicate (bs.length - j) 0
  | 0, _ => by simp [intsR]
  | j + 1, h => by
    rw [intsR, intsR_eq hb hn j (by omega), cu_eq j (by omega)]
    have e : 0 + (j : Int).toNat * 1 = j := by omega
    rw [e]
    have hx := all_getD hb (i := j) (by omega)
    rw [IntWalk.i64_in _ (by omega)]
    apply List.ext_getElem?
    intro i
    rw [List.getElem?_set]
    by_cases hij : j = i
    · subst hij
      rw [if_pos rfl, if_pos (by simp; omega), List.getElem?_append_left (by simp; omega), List.getElem?_take_of_lt (by omega)]
      simp [List.getD, List.getElem?_eq_getElem (show j < bs.length by omega)]
    · rw [if_neg hij]
      rcases Nat.lt_or_ge i j with h1 | h1
      · rw [List.getElem?_append_left (by simp; omega), List.getElem?_append_left (by simp; omega), List.getElem?_take_of_lt h1, List.getElem?_take_of_lt (by omega)]
      · rw [List.getElem?_append_right (by simp; omega), List.getElem?_append_right (by simp; omega)]
        simp only [List.getElem?_replicate, List.length_take]
        rw [Nat.min_eq_left (by omega), Nat.min_eq_left (by omega)]
        by_cases h2 : i < bs.length
        · rw [if_pos (by omega), if_pos (by omega)]
        · rw [if_neg (by omega), if_neg (by omega)]
def intsG : List Value → List Blk → Option (Value × List Blk × Bool)
  | [.slice (some ⟨i, o, none⟩) n _], h => match h[i]? with
    | some b => match winI .u8 o n b with
      | some (l, p) => some (.slice (some ⟨h.length, 0, none⟩) n n, h ++ [.s .i64 l 3], p && l.all u8 && decide (n ≤ 1099511627776))
      | none => none
    | none => none
  | _, _ => none
noncomputable def intsE : Entry Try.prog where
  f := 109
  g := intsG
  pu := false
  ok := by
    intro vs h v h' e
    unfold intsG at e
    split at e
    · rename_i i o n c
      split at e
      · rename_i b hb
        split at e
        · rename_i l p hw
          simp only [Option.some.injEq, Prod.mk.injEq, Bool.and_eq_true, decide_eq_true_eq] at e
          obtain ⟨rfl, rfl, ⟨rfl, hl⟩, hn⟩ := e
          obtain ⟨hv, hlen⟩ := winI_sound hw
          obtain ⟨g, hg⟩ := ints_fn l c (by omega)
          have hr := intsR_eq hl (by omega) l.length (Nat.le_refl _)
          rw [Nat.sub_self, List.take_length] at hr
          simp only [List.replicate_zero, List.append_nil] at hr
          rw [hr, hlen] at hg
          refine ctr_ro_new Try.func109 (by decide) hg [⟨i, o, true⟩] ⟨rfl, fun a bb hbb => ?_⟩ ⟨_, [], ⟨⟨i, o, true⟩, rfl, rfl⟩, rfl, rfl⟩ (b := .s .i64 l 3) (by simp) rfl rfl rfl rfl (plain_ints _ _)
          have h1' := (List.getElem?_eq_some_iff.1 hbb).1
          simp at h1'
          subst h1'
          simp at hbb
          subst hbb
          refine ⟨rfl, plain_ints _ _, ⟨i, o, true⟩, b, rfl, rfl, hb, ?_⟩
          simp only [Blk.vals, intsV_length, hlen]
          exact hv
        · cases e
      · cases e
    · cases e
  pok := fun h => by cases h
def geR (a b : List Int) : Nat → Bool
  | 0 => true
  | i + 1 => if a.getD i 0 = b.getD i 0 then geR a b i else decide (a.getD i 0 > b.getD i 0)
def alS (a b : List Int) (ca cb : Nat) (c : Int) : St :=
  ⟨slotsOf 34 [(0, sliceArg 0 a.length ca), (1, sliceArg 1 b.length cb), (5, .int .i64 c)], [.rs .i64 a, .rs .i64 b], true⟩
def alE (a b : List Int) (r : Bool) : St := ⟨slotsOf 34 [(4, .bool r)], [.rs .i64 a, .rs .i64 b], true⟩
def alSym (x y : Bool) : Tmp → Option Bool := fun i => if i = 11 then some true else if i = 17 then some x else if i = 27 then some y else none
section
variable (a b : List Int) (ca cb : Nat) (c : Int)
def idxP (l : List Int) (c : Int) (o : Bool) : Bool := andT (andT o (decide (0 ≤ c) && decide (c < ((l.length : Nat) : Int)))) (decide (0 + c.toNat * 1 < l.length))
theorem idxP_iff {l : List Int} {c : Int} {o : Bool} (h0 : 0 ≤ c) (h1 : c < l.length) (ho : o = true) : idxP l c o = true := by
  subst ho; unfold idxP; rw [decide_eq_true (by omega), decide_eq_true (by omega), decide_eq_true (by omega)]; rfl
set_option maxRecDepth 100000 in
theorem al_in_eq : (exec Try.prog (mk (P := Try.prog) [] (alSym true false)) 60 (inner (inner (nthC 2 (bodyOf Try.f147)))) (alS a b ca cb c)).map (fun r => (r.1, r.2.keep [0, 1, 5])) =
    some (.normal, ⟨(alS a b ca cb (IntKind.i64.wrap (c - 1))).t, [.rs .i64 a, .rs .i64 b], andT (idxP a c (idxP b c (andT (andT true (decide (c ≥ 0))) (decide (c < ((b.length : Nat) : Int)))))) (!(a.getD (0 + c.toNat * 1) 0 != b.getD (0 + c.toNat * 1) 0))⟩) := by kernel_rfl
set_option maxRecDepth 100000 in
theorem al_in_ne : (exec Try.prog (mk (P := Try.prog) [] (alSym true true)) 60 (inner (inner (nthC 2 (bodyOf Try.f147)))) (alS a b ca cb c)).map (fun r => (r.1, r.2.keep [4])) =
    some (.ret, ⟨(alE a b (decide (a.getD (0 + c.toNat * 1) 0 > b.getD (0 + c.toNat * 1) 0))).t, [.rs .i64 a, .rs .i64 b], idxP a c (andT (idxP a c (idxP b c (andT (andT true (decide (c ≥ 0))) (decide (c < ((b.length : Nat) : Int)))))) (a.getD (0 + c.toNat * 1) 0 != b.getD (0 + c.toNat * 1) 0))⟩) := by kernel_rfl
set_option maxRecDepth 100000 in
theorem al_out_eq : (exec Try.prog (mk (P := Try.prog) [] (alSym false false)) 60 (inner (inner (nthC 2 (bodyOf Try.f147)))) (alS a b ca cb c)).map (fun r => (r.1, r.2.keep [0, 1, 5])) =
    some (.normal, ⟨(alS a b ca cb (IntKind.i64.wrap (c - 1))).t, [.rs .i64 a, .rs .i64 b], andT (idxP a c (andT (andT true (decide (c ≥ 0))) (!decide (c < ((b.length : Nat) : Int))))) (!(a.getD (0 + c.toNat * 1) 0 != 0))⟩) := by kernel_rfl
set_option maxRecDepth 100000 in
theorem al_out_ne : (exec Try.prog (mk (P := Try.prog) [] (alSym false true)) 60 (inner (inner (nthC 2 (bodyOf Try.f147)))) (alS a b ca cb c)).map (fun r => (r.1, r.2.keep [4])) =
    some (.ret, ⟨(alE a b (decide (a.getD (0 + c.toNat * 1) 0 > 0))).t, [.rs .i64 a, .rs .i64 b], idxP a c (andT (idxP a c (andT (andT true (decide (c ≥ 0))) (!decide (c < ((b.length : Nat) : Int))))) (a.getD (0 + c.toNat * 1) 0 != 0))⟩) := by kernel_rfl
set_option maxRecDepth 100000 in
theorem al_end : (exec Try.prog (mk (P := Try.prog) [] fun i => if i = 11 then some false else none) 60 (inner (inner (nthC 2 (bodyOf Try.f147)))) (alS a b ca cb c)).map (fun r => (r.1, r.2.keep [0, 1, 5])) =
    some (.exit 0, ⟨(alS a b ca cb c).t, [.rs .i64 a, .rs .i64 b], andT true (!decide (c ≥ 0))⟩) := by kernel_rfl
end
def stR (a b : List Int) : Nat → Option Bool
  | 0 => none
  | i + 1 => if a.getD i 0 = b.getD i 0 then stR a b i else some (decide (a.getD i 0 > b.getD i 0))
theorem geR_stR (a b : List Int) : ∀ i, geR a b i = (stR a b i).getD true
  | 0 => rfl
  | i + 1 => by
    rw [geR, stR]
    split
    · exact geR_stR a b i
    · rfl
theorem al_round (a b : List Int) (ca cb i : Nat) (hi : i < a.length) (hn : a.length ≤ 1099511627776) :
    (a.getD i 0 = b.getD i 0 → Tr Try.prog (inner (inner (nthC 2 (bodyOf Try.f147)))) (alS a b ca cb i) .normal (alS a b ca cb ((i : Int) - 1))) ∧
    (a.getD i 0 ≠ b.getD i 0 → Tr Try.prog (inner (inner (nthC 2 (bodyOf Try.f147)))) (alS a b ca cb i) .ret (alE a b (decide (a.getD i 0 > b.getD i 0)))) := by
  have e : 0 + (i : Int).toNat * 1 = i := by omega
  have hw : IntKind.i64.wrap ((i : Int) - 1) = i - 1 := IntWalk.i64_in _ (by omega)
  have h0 : decide ((i : Int) ≥ 0) = true := decide_eq_true (by omega)
  by_cases hb : i < b.length
  · have h1 : decide ((i : Int) < ((b.length : Nat) : Int)) = true := decide_eq_true (by omega)
    constructor
    · intro hq
      have k := al_in_eq a b ca cb i
      rw [hw] at k
      refine Tr.post (Tr.keep (mk_sound _ _) 60 [0, 1, 5] k ?_) (Sub.ob _ _)
      rw [e, hq, bne_self_eq_false, h0, h1]
      simp only [andT_iff, Bool.not_false, and_true]
      exact idxP_iff (by omega) (by omega) (idxP_iff (by omega) (by omega) rfl)
    · intro hq
      have k := al_in_ne a b ca cb i
      rw [e] at k
      refine Tr.post (Tr.keep (mk_sound _ _) 60 [4] k ?_) (Sub.ob _ _)
      rw [h0, h1]
      refine idxP_iff (by omega) (by omega) (andT_iff.2 ⟨idxP_iff (by omega) (by omega) (idxP_iff (by omega) (by omega) rfl), bne_iff_ne.2 hq⟩)
  · have h1 : decide ((i : Int) < ((b.length : Nat) : Int)) = false := decide_eq_false (by omega)
    have hz : b.getD i 0 = 0 := by simp [List.getD, List.getElem?_eq_none (show b.length ≤ i by omega)]
    rw [hz]
    constructor
    · intro hq
      have k := al_out_eq a b ca cb i
      rw [hw] at k
      refine Tr.post (Tr.keep (mk_sound _ _) 60 [0, 1, 5] k ?_) (Sub.ob _ _)
      rw [e, hq, bne_self_eq_false, h0, h1]
      simp only [andT_iff, Bool.not_false, and_true]
      exact idxP_iff (by omega) (by omega) rfl
    · intro hq
      have k := al_out_ne a b ca cb i
      rw [e] at k
      refine Tr.post (Tr.keep (mk_sound _ _) 60 [4] k ?_) (Sub.ob _ _)
      rw [h0, h1]
      exact idxP_iff (by omega) (by omega) (andT_iff.2 ⟨idxP_iff (by omega) (by omega) rfl, bne_iff_ne.2 hq⟩)
theorem al_rounds (a b : List Int) (ca cb : Nat) (hn : a.length ≤ 1099511627776) : ∀ i : Nat, i ≤ a.length → match stR a b i with
    | none => TrR Try.prog (inner (inner (nthC 2 (bodyOf Try.f147)))) (alS a b ca cb ((i : Int) - 1)) (.exit 0) (alS a b ca cb (-1))
    | some r => TrR Try.prog (inner (inner (nthC 2 (bodyOf Try.f147)))) (alS a b ca cb ((i : Int) - 1)) .ret (alE a b r)
  | 0, _ => TrR.leave (Tr.post (Tr.keep (mk_sound _ _) 60 [0, 1, 5] (al_end a b ca cb _) rfl) (Sub.ob _ _)) (by simp)
  | i + 1, h => by
    have ih := al_rounds a b ca cb hn i (by omega)
    obtain ⟨h1, h2⟩ := al_round a b ca cb i (by omega) hn
    have e : ((i + 1 : Nat) : Int) - 1 = i := by omega
    rw [stR, e]
    by_cases hq : a.getD i 0 = b.getD i 0
    · rw [if_pos hq]
      generalize stR a b i = o at ih
      cases o with
      | none => exact TrR.step (h1 hq) ih
      | some r => exact TrR.step (h1 hq) ih
    · rw [if_neg hq]
      exact TrR.leave (h2 hq) (by simp)
set_option maxRecDepth 100000 in
theorem al_fn (a b : List Int) (ca cb : Nat) (hn : a.length ≤ 1099511627776) : ∃ h, FnTr Try.prog Try.f147 [sliceArg 0 a.length ca, sliceArg 1 b.length cb] [.rs .i64 a, .rs .i64 b] (.bool (geR a b a.length)) h := by
  have k0 : (execL Try.prog (mk (P := Try.prog) []) 60 2 (atoms (bodyOf Try.f147)) ⟨slots0 Try.f147.ntmps [sliceArg 0 a.length ca, sliceArg 1 b.length cb], [.rs .i64 a, .rs .i64 b], true⟩).map (St.keep [0, 1, 5]) =
    some ⟨(alS a b ca cb (IntKind.i64.wrap (((a.length : Nat) : Int) - 1))).t, [.rs .i64 a, .rs .i64 b], true⟩ := by kernel_rfl
  rw [IntWalk.i64_in _ (by omega)] at k0
  have hr := al_rounds a b ca cb hn a.length (Nat.le_refl _)
  rw [geR_stR]
  cases hst : stR a b a.length with
  | none =>
    rw [hst] at hr
    have k2 : ((execA Try.prog (mk (P := Try.prog) []) 60 ((atoms (bodyOf Try.f147)).drop 3) (alS a b ca cb (-1))).bind fun r => match r.1 with
      | .ret | .normal => (resS Try.prog r.2.t r.2.h Try.f147.results.toList).map fun q => (oneOf q.1, r.2.h, andT r.2.ob q.2)
      | _ => none) = some (.bool true, [.rs .i64 a, .rs .i64 b], true) := by kernel_rfl
    exact ⟨_, FnTr.rest (mk_sound _ _) 60 3 (by decide) (fun s' x h => TrL.items (mk_sound _ _) 60 2 [0, 1, 5] k0 rfl (by decide) (TrL.item 2 (by decide) (Tr.loopR 0 (by decide) hr) h)) k2 rfl⟩
  | some r =>
    rw [hst] at hr
    exact ⟨_, FnTr.mk (s := alE a b r) (vs := [.bool r]) (by decide) (TrL.items (mk_sound _ _) 60 2 [0, 1, 5] k0 rfl (by decide) (TrL.leave 2 (by decide) (by simp) (Tr.loopRet 0 (by decide) hr))) (.inl rfl) (by kernel_rfl)⟩
noncomputable def geF (a b : List Int) : Bool := Lock (geR a b a.length)
noncomputable def atLeastG : List Value → List Blk → Option (Value × List Blk × Bool)
  | [.slice (some ⟨i, o, none⟩) n _, .slice (some ⟨j, u, none⟩) m _], h => match h[i]?, h[j]? with
    | some b, some c => match winI .i64 o n b, winI .i64 u m c with
      | some (l, p), some (k, q) => some (.bool (geF l k), h, p && q && decide (n ≤ 1099511627776))
      | _, _ => none
    | _, _ => none
  | _, _ => none
noncomputable def atLeastE : Entry Try.prog where
  f := 147
  g := atLeastG
  pu := false
  ok := by
    intro vs h v h' e
    unfold atLeastG at e
    split at e
    · rename_i i o n ca j u m cb
      split at e
      · rename_i b c hb hc
        split at e
        · rename_i l p k q hw hx
          simp only [Option.some.injEq, Prod.mk.injEq, Bool.and_eq_true, decide_eq_true_eq] at e
          obtain ⟨rfl, rfl, ⟨rfl, rfl⟩, hn⟩ := e
          obtain ⟨hv, hlen⟩ := winI_sound hw
          obtain ⟨hv2, hlen2⟩ := winI_sound hx
          obtain ⟨g, hg⟩ := al_fn l k ca cb (by omega)
          rw [geF, Lock_eq]
          rw [hlen, hlen2] at hg
          rw [hlen]
          refine ctr_ro Try.func147 (by decide) hg [⟨i, o, true⟩, ⟨j, u, true⟩] ⟨rfl, fun a bb hbb => ?_⟩ ⟨_, _, ⟨⟨i, o, true⟩, rfl, rfl⟩, ⟨_, [], ⟨⟨j, u, true⟩, rfl, rfl⟩, rfl, rfl⟩, rfl⟩ rfl
          have h1' := (List.getElem?_eq_some_iff.1 hbb).1
          simp at h1'
          have : a = 0 ∨ a = 1 := by omega
          rcases this with rfl | rfl
          · simp at hbb
            subst hbb
            refine ⟨rfl, plain_ints _ _, ⟨i, o, true⟩, b, rfl, rfl, hb, ?_⟩
            simp only [Blk.vals, intsV_length, hlen]
            exact hv
          · simp at hbb
            subst hbb
            refine ⟨rfl, plain_ints _ _, ⟨j, u, true⟩, c, rfl, rfl, hc, ?_⟩
            simp only [Blk.vals, intsV_length, hlen2]
            exact hv2
        · cases e
      · cases e
    · cases e
  pok := fun h => by cases h
end Go.Proofs.Ytkoohnpknhoahaa
namespace Go.Proofs.Ytkoohnpknhoahaa
open Go Go.Lift
def ordB : List Int := [237, 211, 245, 92, 26, 99, 18, 88, 214, 156, 247, 162, 222, 249, 222, 20, 0, 0, 0, 0, 0, 0, 0, 0, 0, 0, 0, 0, 0, 0, 0, 16]
set_option maxRecDepth 100000 in
noncomputable def refOrderE : Entry Try.prog := .val 18 (fun vs => match vs with | [] => some (aggI .u8 ordB, true) | _ => none) fun vs v e h => by
  split at e
  · simp only [Option.some.injEq, Prod.mk.injEq, and_true] at e
    subst e
    have key : (callS Try.prog (mk (P := Try.prog) []) 60 Try.f18 [] []).map (fun x => (x.1, x.2.2)) = some (aggI .u8 ordB, true) := by kernel_rfl
    exact ctr_val Try.func18 (by decide) (mk_sound _ _) 60 key rfl (by simp [plainL]) rfl h
  · cases e
def rdH (l R : List Int) : List Blk := [.rs .i64 l, .c (zeros .u8 32) 23, .c (intsV .u8 ordB) 23, .s .i64 ordB 3, .s .i64 R 3]
def rdS (l : List Int) (cap : Nat) (c : Int) (R : List Int) : St :=
  ⟨slotsOf 83 [(0, sliceArg 0 l.length cap), (2, .pointer (some ⟨1, 0, none⟩)), (4, sliceArg 3 32 32), (5, sliceArg 4 34 34), (6, .int .i64 c)], rdH l R, true⟩
def rdK (l : List Int) (cap : Nat) (c : Int) (R : List Int) (b k : Int) : St :=
  ⟨slotsOf 83 [(0, sliceArg 0 l.length cap), (2, .pointer (some ⟨1, 0, none⟩)), (4, sliceArg 3 32 32), (5, sliceArg 4 34 34), (6, .int .i64 c), (8, .int .i64 b), (9, .int .i64 k)], rdH l R, true⟩
noncomputable def rdB : Code := inner (inner (nthC 5 (bodyOf Try.f108)))
noncomputable def rdW : Code := inner (inner (nthC 3 (inner (nthC 2 rdB))))
noncomputable def rdQ : Code := inner (inner (nthC 2 (inner (nthC 2 rdW))))
def rdSym (x y : Bool) : Tmp → Option Bool := fun i => if i = 46 then some true else if i = 56 then some x else if i = 64 then some y else none
def idxN (n : Nat) (l : List Int) (c : Int) (o : Bool) : Bool := andT (andT o (decide (0 ≤ c) && decide (c < (n : Int)))) (decide (0 + c.toNat * 1 < l.length))
section
variable (l R : List Int) (cap : Nat) (c b k : Int)
def rdL : List Nat := [0, 2, 4, 5, 6, 8, 9]
set_option maxRecDepth 100000 in
theorem rd_tt : (exec Try.prog (mk (P := Try.prog) [] (rdSym true true)) 60 rdQ (rdK l cap c R b k)).map (fun r => (r.1, r.2.keep rdL)) =
    some (.normal, ⟨(rdK l cap c [] 1 (IntKind.i64.wrap (k + 1))).t, rdH l (R.set (0 + k.toNat * 1) (IntKind.i64.wrap (IntKind.i64.wrap (IntKind.i64.wrap (R.getD (0 + k.toNat * 1) 0 - b) - ordB.getD (0 + k.toNat * 1) 0) + 256))),
      idxN 34 R k (andT (idxN 32 ordB k (andT (idxN 34 R k (andT true (decide (k < 34)))) (decide (k < 32)))) (decide (IntKind.i64.wrap (IntKind.i64.wrap (R.getD (0 + k.toNat * 1) 0 - b) - ordB.getD (0 + k.toNat * 1) 0) < 0)))⟩) := by kernel_rfl
set_option maxRecDepth 100000 in
theorem rd_tf : (exec Try.prog (mk (P := Try.prog) [] (rdSym true false)) 60 rdQ (rdK l cap c R b k)).map (fun r => (r.1, r.2.keep rdL)) =
    some (.normal, ⟨(rdK l cap c [] 0 (IntKind.i64.wrap (k + 1))).t, rdH l (R.set (0 + k.toNat * 1) (IntKind.i64.wrap (IntKind.i64.wrap (R.getD (0 + k.toNat * 1) 0 - b) - ordB.getD (0 + k.toNat * 1) 0))),
      idxN 34 R k (andT (idxN 32 ordB k (andT (idxN 34 R k (andT true (decide (k < 34)))) (decide (k < 32)))) (!decide (IntKind.i64.wrap (IntKind.i64.wrap (R.getD (0 + k.toNat * 1) 0 - b) - ordB.getD (0 + k.toNat * 1) 0) < 0)))⟩) := by kernel_rfl
set_option maxRecDepth 100000 in
theorem rd_ft : (exec Try.prog (mk (P := Try.prog) [] (rdSym false true)) 60 rdQ (rdK l cap c R b k)).map (fun r => (r.1, r.2.keep rdL)) =
    some (.normal, ⟨(rdK l cap c [] 1 (IntKind.i64.wrap (k + 1))).t, rdH l (R.set (0 + k.toNat * 1) (IntKind.i64.wrap (IntKind.i64.wrap (R.getD (0 + k.toNat * 1) 0 - b) + 256))),
      idxN 34 R k (andT (andT (idxN 34 R k (andT true (decide (k < 34)))) (!decide (k < 32))) (decide (IntKind.i64.wrap (R.getD (0 + k.toNat * 1) 0 - b) < 0)))⟩) := by kernel_rfl
set_option maxRecDepth 100000 in
theorem rd_ff : (exec Try.prog (mk (P := Try.prog) [] (rdSym false false)) 60 rdQ (rdK l cap c R b k)).map (fun r => (r.1, r.2.keep rdL)) =
    some (.normal, ⟨(rdK l cap c [] 0 (IntKind.i64.wrap (k + 1))).t, rdH l (R.set (0 + k.toNat * 1) (IntKind.i64.wrap (R.getD (0 + k.toNat * 1) 0 - b))),
      idxN 34 R k (andT (andT (idxN 34 R k (andT true (decide (k < 34)))) (!decide (k < 32))) (!decide (IntKind.i64.wrap (R.getD (0 + k.toNat * 1) 0 - b) < 0)))⟩) := by kernel_rfl
set_option maxRecDepth 100000 in
theorem rd_qend : (exec Try.prog (mk (P := Try.prog) [] fun i => if i = 46 then some false else none) 60 rdQ (rdK l cap c R b k)).map (fun r => (r.1, r.2.keep [0, 2, 4, 5, 6])) =
    some (.exit 6, ⟨(rdS l cap c []).t, rdH l R, andT true (!decide (k < 34))⟩) := by kernel_rfl
set_option maxRecDepth 100000 in
theorem rd_wyes : (execL Try.prog (mk (P := Try.prog) [atLeastE] fun i => if i = 44 then some true else none) 60 2 (atoms rdW) (rdS l cap c (lst 34 R))).map (St.keep [0, 2, 4, 5, 6]) =
    some ⟨(rdS l cap c []).t, rdH l (lst 34 R), andT true (geF (lst 34 R) ordB)⟩ := by kernel_rfl
set_option maxRecDepth 100000 in
theorem rd_wno : (exec Try.prog (mk (P := Try.prog) [atLeastE] fun i => if i = 44 then some false else none) 60 rdW (rdS l cap c (lst 34 R))).map (fun r => (r.1, r.2.keep [0, 2, 4, 5, 6])) =
    some (.exit 4, ⟨(rdS l cap c []).t, rdH l (lst 34 R), andT true (!geF (lst 34 R) ordB)⟩) := by kernel_rfl
set_option maxRecDepth 100000 in
theorem rd_sub0 : (execL Try.prog (mk (P := Try.prog) []) 60 2 (atoms (inner (nthC 2 rdW))) (rdS l cap c (lst 34 R))).map (St.keep rdL) =
    some (rdK l cap c (lst 34 R) 0 0) := by kernel_rfl
set_option maxRecDepth 100000 in
theorem rd_bhead : (execL Try.prog (mk (P := Try.prog) [] fun i => if i = 21 then some true else none) 60 2 (atoms rdB) (rdS l cap c (lst 34 R))).map (St.keep [0, 2, 4, 5, 6]) =
    some ⟨(rdS l cap c []).t, rdH l (lst 34 R), andT true (decide (c ≥ 0))⟩ := by kernel_rfl
set_option maxRecDepth 100000 in
theorem rd_bend : (exec Try.prog (mk (P := Try.prog) [] fun i => if i = 21 then some false else none) 60 rdB (rdS l cap c (lst 34 R))).map (fun r => (r.1, r.2.keep [0, 2, 4, 5, 6])) =
    some (.exit 0, ⟨(rdS l cap c []).t, rdH l (lst 34 R), andT true (!decide (c ≥ 0))⟩) := by kernel_rfl
set_option maxRecDepth 100000 in
theorem rd_bstep : (exec Try.prog (mk (P := Try.prog) []) 60 (nthC 3 rdB) (rdS l cap c (lst 34 R))).map (fun r => (r.1, r.2.keep [0, 2, 4, 5, 6])) =
    some (.normal, rdS l cap (IntKind.i64.wrap (c - 1)) (lst 34 R)) := by kernel_rfl
set_option maxRecDepth 100000 in
theorem rd_shift : (execL Try.prog (mk (P := Try.prog) []) 60 3 (atoms (inner (nthC 2 rdB))) (rdS l cap c (lst 34 R))).map (St.keep [0, 2, 4, 5, 6]) =
    some ⟨(rdS l cap c []).t, rdH l (l.getD (0 + c.toNat * 1) 0 :: (lst 34 R).take 33), idxN l.length l c true⟩ := by kernel_rfl
end
def digN : Nat → Int → List Int
  | 0, _ => []
  | n + 1, v => v % 256 :: digN n (v / 256)
theorem digN_length : ∀ (n : Nat) (v : Int), (digN n v).length = n
  | 0, _ => rfl
  | n + 1, v => by rw [digN, List.length_cons, digN_length n]
theorem digN_u8 : ∀ (n : Nat) (v : Int), (digN n v).all u8 = true
  | 0, _ => rfl
  | n + 1, v => by
    rw [digN, List.all_cons, digN_u8 n, Bool.and_true, u8_iff]
    omega
theorem digN_take : ∀ (m n : Nat) (v : Int), m ≤ n → (digN n v).take m = digN m v
  | 0, _, _, _ => by simp [digN]
  | m + 1, 0, _, h => by omega
  | m + 1, n + 1, v, h => by rw [digN, digN, List.take_succ_cons, digN_take m n _ (by omega)]
theorem val_digN : ∀ (n : Nat) (v : Int), 0 ≤ v → v < 256 ^ n → val256 (digN n v) = v
  | 0, v, h0, h1 => by simp at h1; simp [digN, val256]; omega
  | n + 1, v, h0, h1 => by
    rw [Int.pow_succ] at h1
    rw [digN, val256, val_digN n _ (by omega) (by omega)]
    omega
theorem digN_val : ∀ (l : List Int), l.all u8 = true → l = digN l.length (val256 l)
  | [], _ => rfl
  | x :: l, h => by
    simp only [List.all_cons, Bool.and_eq_true, u8_iff] at h
    have e1 : (x + 256 * val256 l) % 256 = x := by omega
    have e2 : (x + 256 * val256 l) / 256 = val256 l := by omega
    rw [List.length_cons, val256, digN, e1, e2, ← digN_val l h.2]
theorem dig32_digN (v : Int) : dig32 v = digN 32 v := by
  have h : ∀ (n : Nat) (v : Int), (List.range n).map (fun i => v / 256 ^ i % 256) = digN n v := by
    intro n
    induction n with
    | zero => intro v; rfl
    | succ n ih =>
      intro v
      rw [List.range_succ_eq_map, List.map_cons, List.map_map, digN, ← ih]
      congr 1
      · simp
      · apply List.map_congr_left
        intro i _
        show v / 256 ^ (i + 1) % 256 = v / 256 / 256 ^ i % 256
        rw [Int.ediv_ediv_of_nonneg (by omega), Int.pow_succ, Int.mul_comm]
  exact h 32 v
def vN (S : List Int) : Nat → Int
  | 0 => 0
  | i + 1 => vN S i + 256 ^ i * S.getD i 0
theorem val_append (l : List Int) (x : Int) : val256 (l ++ [x]) = val256 l + 256 ^ l.length * x := by
  induction l with
  | nil => simp [val256]
  | cons y l ih =>
    rw [List.cons_append, val256, ih, val256, List.length_cons, Int.pow_succ]
    have : 256 ^ l.length * 256 * x = 256 * (256 ^ l.length * x) := by rw [Int.mul_comm (256 ^ l.length) 256, Int.mul_assoc]
    omega
theorem val_take (S : List Int) : ∀ i, i ≤ S.length → val256 (S.take i) = vN S i
  | 0, _ => rfl
  | i + 1, h => by
    rw [List.take_add_one, List.getElem?_eq_getElem (by omega), Option.toList_some, val_append, val_take S i (by omega), vN, List.length_take, Nat.min_eq_left (by omega)]
    simp [List.getD, List.getElem?_eq_getElem (show i < S.length by omega)]
theorem vN_val (S : List Int) : vN S S.length = val256 S := by rw [← val_take S _ (Nat.le_refl _), List.take_length]
theorem getD_u8 {S : List Int} (h : S.all u8 = true) (i : Nat) : 0 ≤ S.getD i 0 ∧ S.getD i 0 < 256 := by
  by_cases hi : i < S.length
  · exact all_getD h hi
  · have : S.getD i 0 = 0 := by simp [List.getD, List.getElem?_eq_none (show S.length ≤ i by omega)]
    rw [this]; omega
theorem pow256_pos (i : Nat) : (0 : Int) < 256 ^ i := Int.pow_pos (by omega)
theorem vN_bound {S : List Int} (h : S.all u8 = true) : ∀ i, 0 ≤ vN S i ∧ vN S i < 256 ^ i
  | 0 => by simp [vN]
  | i + 1 => by
    have ih := vN_bound h i
    have hd := getD_u8 h i
    have hp := pow256_pos i
    rw [vN, Int.pow_succ]
    have h1 := Int.mul_nonneg (Int.le_of_lt hp) hd.1
    have h2 : 256 ^ i * S.getD i 0 ≤ 256 ^ i * 255 := Int.mul_le_mul_of_nonneg_left (by omega) (Int.le_of_lt hp)
    omega
theorem vN_congr {S T : List Int} : ∀ i, (∀ k, k < i → S.getD k 0 = T.getD k 0) → vN S i = vN T i
  | 0, _ => rfl
  | i + 1, h => by rw [vN, vN, vN_congr i (fun k hk => h k (by omega)), h i (by omega)]
theorem geR_vN {a b : List Int} (ha : a.all u8 = true) (hb : b.all u8 = true) : ∀ i, geR a b i = decide (vN b i ≤ vN a i)
  | 0 => by simp [geR, vN]
  | i + 1 => by
    have ih := geR_vN ha hb i
    have ra := vN_bound ha i
    have rb := vN_bound hb i
    have hp := pow256_pos i
    rw [geR, vN, vN]
    split
    · rename_i h
      rw [ih, h, decide_eq_decide]
      omega
    · rename_i h
      rw [decide_eq_decide]
      constructor
      · intro hlt
        have : 256 ^ i * (b.getD i 0 + 1) ≤ 256 ^ i * a.getD i 0 := Int.mul_le_mul_of_nonneg_left (by omega) (Int.le_of_lt hp)
        rw [Int.mul_add] at this
        omega
      · intro hle
        have hne : ¬ a.getD i 0 < b.getD i 0 := fun hlt => by
          have : 256 ^ i * (a.getD i 0 + 1) ≤ 256 ^ i * b.getD i 0 := Int.mul_le_mul_of_nonneg_left (by omega) (Int.le_of_lt hp)
          rw [Int.mul_add] at this
          omega
        omega
def subR (R : List Int) : Nat → List Int × Int
  | 0 => (R, 0)
  | j + 1 => if R.getD j 0 - (subR R j).2 - ordB.getD j 0 < 0 then ((subR R j).1.set j (R.getD j 0 - (subR R j).2 - ordB.getD j 0 + 256), 1) else ((subR R j).1.set j (R.getD j 0 - (subR R j).2 - ordB.getD j 0), 0)
theorem subR_length (R : List Int) : ∀ j, (subR R j).1.length = R.length
  | 0 => rfl
  | j + 1 => by rw [subR]; split <;> rw [List.length_set, subR_length R j]
theorem subR_rest (R : List Int) : ∀ j i, j ≤ i → (subR R j).1.getD i 0 = R.getD i 0
  | 0, _, _ => rfl
  | j + 1, i, h => by
    have : ∀ x, ((subR R j).1.set j x).getD i 0 = R.getD i 0 := fun x => by
      rw [← subR_rest R j i (by omega)]
      simp only [List.getD]
      rw [List.getElem?_set_ne (by omega)]
    rw [subR]; split <;> exact this _
theorem subR_b (R : List Int) : ∀ j, (subR R j).2 = 0 ∨ (subR R j).2 = 1
  | 0 => .inl rfl
  | j + 1 => by rw [subR]; split <;> simp
theorem ordB_u8 : ordB.all u8 = true := by decide
theorem set_u8 {S : List Int} (h : S.all u8 = true) {x : Int} (hx : 0 ≤ x ∧ x < 256) (j : Nat) : (S.set j x).all u8 = true := by
  rw [List.all_eq_true] at h ⊢
  intro y hy
  rcases List.mem_or_eq_of_mem_set hy with h1 | rfl
  · exact h y h1
  · rw [u8_iff]; exact hx
theorem subR_u8 {R : List Int} (h : R.all u8 = true) : ∀ j, (subR R j).1.all u8 = true
  | 0 => h
  | j + 1 => by
    have ih := subR_u8 h j
    have r := getD_u8 h j
    have m := getD_u8 ordB_u8 j
    have b := subR_b R j
    rw [subR]
    split
    · exact set_u8 ih (by omega) j
    · exact set_u8 ih (by omega) j
theorem vN_set {S : List Int} {x : Int} (j : Nat) : vN (S.set j x) j = vN S j := vN_congr j fun k hk => by
  simp only [List.getD]; rw [List.getElem?_set_ne (by omega)]
theorem getD_set {S : List Int} {x : Int} {j : Nat} (h : j < S.length) : (S.set j x).getD j 0 = x := by
  simp [List.getD, h]
theorem subR_val (R : List Int) : ∀ j, j ≤ R.length → vN (subR R j).1 j - 256 ^ j * (subR R j).2 = vN R j - vN ordB j
  | 0, _ => by simp [vN, subR]
  | j + 1, h => by
    have ih := subR_val R j (by omega)
    have hl := subR_length R j
    rw [subR]
    split
    · show vN (List.set _ _ _) (j + 1) - 256 ^ (j + 1) * 1 = _
      rw [vN, vN_set, getD_set (by omega), vN, vN, Int.pow_succ]
      simp only [Int.mul_add, Int.mul_sub]
      omega
    · show vN (List.set _ _ _) (j + 1) - 256 ^ (j + 1) * 0 = _
      rw [vN, vN_set, getD_set (by omega), vN, vN]
      simp only [Int.mul_sub]
      omega
theorem ordB_val : vN ordB 34 = ordL := by decide
theorem p34 : (256 : Int) ^ 34 = 7588550360256754183279148073529370729071901715047420004889892225542594864082845696 := by decide
theorem sub_done {v : Int} (h0 : ordL ≤ v) (h1 : v < 256 ^ 34) : (subR (digN 34 v) 34).1 = digN 34 (v - ordL) := by
  have hL := ordL_pos
  have hu := subR_u8 (digN_u8 34 v) 34
  have hl := subR_length (digN 34 v) 34
  rw [digN_length] at hl
  have h := subR_val (digN 34 v) 34 (by rw [digN_length]; omega)
  have hb := subR_b (digN 34 v) 34
  have r := vN_bound hu 34
  have e1 : vN (digN 34 v) 34 = v := by
    have := vN_val (digN 34 v)
    rw [digN_length] at this
    rw [this, val_digN 34 v (by omega) h1]
  have e2 := vN_val (subR (digN 34 v) 34).1
  rw [hl] at e2
  rw [e1, ordB_val, e2] at h
  rw [e2] at r
  have := digN_val _ hu
  rw [hl] at this
  rw [this]
  congr 1
  rcases hb with hb | hb <;> rw [hb] at h <;> rw [p34] at * <;> omega
theorem shift_done {v x : Int} (hx : 0 ≤ x) (hx1 : x < 256) : x :: (digN 34 v).take 33 = digN 34 (256 * v + x) := by
  rw [digN_take 33 34 v (by omega), show digN 34 (256 * v + x) = (256 * v + x) % 256 :: digN 33 ((256 * v + x) / 256) from rfl]
  congr 1
  · omega
  · congr 1; omega
theorem geF_ord {v : Int} (h0 : 0 ≤ v) (h1 : v < 256 ^ 34) : geF (digN 34 v) ordB = decide (ordL ≤ v) := by
  have e1 : vN (digN 34 v) 34 = v := by
    have := vN_val (digN 34 v)
    rw [digN_length] at this
    rw [this, val_digN 34 v (by omega) h1]
  rw [geF, Lock_eq, geR_vN (digN_u8 34 v) ordB_u8, digN_length, ordB_val, e1]
end Go.Proofs.Ytkoohnpknhoahaa
namespace Go.Proofs.Ytkoohnpknhoahaa
open Go Go.Lift
theorem Sub.same {s s' : St} (h1 : s.t = s'.t) (h2 : s.h = s'.h) : Lift.Sub s s' := by
  obtain ⟨t, h, o⟩ := s
  obtain ⟨t', h', o'⟩ := s'
  cases h1; cases h2
  exact Sub.ob ⟨t, h, o'⟩ o
theorem idxN_iff {n : Nat} {l : List Int} {c : Int} {o : Bool} (h0 : 0 ≤ c) (h1 : c < n) (h2 : c < l.length) (ho : o = true) : idxN n l c o = true := by
  subst ho; unfold idxN; rw [decide_eq_true (by omega), decide_eq_true (by omega), decide_eq_true (by omega)]; rfl
theorem rd_q (l R : List Int) (cap : Nat) (c : Int) (hR : R.all u8 = true) (hn : R.length = 34) (j : Nat) (hj : j < 34) :
    Tr Try.prog rdQ (rdK l cap c (subR R j).1 (subR R j).2 j) .normal (rdK l cap c (subR R (j + 1)).1 (subR R (j + 1)).2 ((j + 1 : Nat) : Int)) := by
  have hl := subR_length R j
  have hb := subR_b R j
  have hg := subR_rest R j j (Nat.le_refl _)
  have hr := getD_u8 hR j
  have hm := getD_u8 ordB_u8 j
  have e : 0 + (j : Int).toNat * 1 = j := by omega
  have ew : IntKind.i64.wrap ((j : Int) + 1) = ((j + 1 : Nat) : Int) := by rw [IntWalk.i64_in _ (by omega)]; omega
  have w1 : IntKind.i64.wrap (R.getD j 0 - (subR R j).2) = R.getD j 0 - (subR R j).2 := IntWalk.i64_in _ (by omega)
  have w2 : IntKind.i64.wrap (R.getD j 0 - (subR R j).2 - ordB.getD j 0) = R.getD j 0 - (subR R j).2 - ordB.getD j 0 := IntWalk.i64_in _ (by omega)
  have w3 : IntKind.i64.wrap (R.getD j 0 - (subR R j).2 - ordB.getD j 0 + 256) = R.getD j 0 - (subR R j).2 - ordB.getD j 0 + 256 := IntWalk.i64_in _ (by omega)
  have d0 : decide ((j : Int) < 34) = true := decide_eq_true (by omega)
  have hout : ¬ j < 32 → ordB.getD j 0 = 0 := fun h => by
    have : ordB.length = 32 := rfl
    simp [List.getD, List.getElem?_eq_none (show ordB.length ≤ j by omega)]
  have ol : ordB.length = 32 := rfl
  rw [subR]
  by_cases hk : j < 32
  · have d1 : decide ((j : Int) < 32) = true := decide_eq_true (by omega)
    by_cases hq : R.getD j 0 - (subR R j).2 - ordB.getD j 0 < 0
    · rw [if_pos hq]
      have k := rd_tt l (subR R j).1 cap c (subR R j).2 j
      rw [e, hg, w1, w2, w3, ew] at k
      refine Tr.post (Tr.keep (mk_sound _ _) 60 _ k ?_) (Sub.same rfl rfl)
      rw [d0, d1, decide_eq_true hq]
      exact idxN_iff (by omega) (by omega) (by omega) (andT_iff.2 ⟨idxN_iff (by omega) (by omega) (by omega) (andT_iff.2 ⟨idxN_iff (by omega) (by omega) (by omega) rfl, rfl⟩), rfl⟩)
    · rw [if_neg hq]
      have k := rd_tf l (subR R j).1 cap c (subR R j).2 j
      rw [e, hg, w1, w2, ew] at k
      refine Tr.post (Tr.keep (mk_sound _ _) 60 _ k ?_) (Sub.same rfl rfl)
      rw [d0, d1, decide_eq_false hq]
      exact idxN_iff (by omega) (by omega) (by omega) (andT_iff.2 ⟨idxN_iff (by omega) (by omega) (by omega) (andT_iff.2 ⟨idxN_iff (by omega) (by omega) (by omega) rfl, rfl⟩), rfl⟩)
  · have d1 : decide ((j : Int) < 32) = false := decide_eq_false (by omega)
    have ho := hout hk
    rw [ho, Int.sub_zero] at w3 ⊢
    by_cases hq : R.getD j 0 - (subR R j).2 < 0
    · rw [if_pos hq]
      have k := rd_ft l (subR R j).1 cap c (subR R j).2 j
      rw [e, hg, w1, w3, ew] at k
      refine Tr.post (Tr.keep (mk_sound _ _) 60 _ k ?_) (Sub.same rfl rfl)
      rw [d0, d1, decide_eq_true hq]
      exact idxN_iff (by omega) (by omega) (by omega) (andT_iff.2 ⟨andT_iff.2 ⟨idxN_iff (by omega) (by omega) (by omega) rfl, rfl⟩, rfl⟩)
    · rw [if_neg hq]
      have k := rd_ff l (subR R j).1 cap c (subR R j).2 j
      rw [e, hg, w1, ew] at k
      refine Tr.post (Tr.keep (mk_sound _ _) 60 _ k ?_) (Sub.same rfl rfl)
      rw [d0, d1, decide_eq_false hq]
      exact idxN_iff (by omega) (by omega) (by omega) (andT_iff.2 ⟨andT_iff.2 ⟨idxN_iff (by omega) (by omega) (by omega) rfl, rfl⟩, rfl⟩)
theorem lst_dig (v : Int) : lst 34 (digN 34 v) = digN 34 v := lst_eq (digN_length 34 v)
theorem atoms_rdW : (atoms rdW).length = 3 := by kernel_rfl
theorem blk_rdW : nthC 2 rdW = .block 5 (inner (nthC 2 rdW)) := by kernel_rfl
theorem atoms_rdW2 : (atoms (inner (nthC 2 rdW))).length = 3 := by kernel_rfl
theorem loop_rdQ : isLoop 6 (nthC 2 (inner (nthC 2 rdW))) = true := by kernel_rfl
theorem rd_w (l : List Int) (cap : Nat) (c v : Int) (h0 : ordL ≤ v) (h1 : v < 256 ^ 34) : Tr Try.prog rdW (rdS l cap c (digN 34 v)) .normal (rdS l cap c (digN 34 (v - ordL))) := by
  have hL := ordL_pos
  have k1 := rd_wyes l (digN 34 v) cap c
  have k2 := rd_sub0 l (digN 34 v) cap c
  rw [lst_dig] at k1 k2
  rw [geF_ord (by omega) h1, decide_eq_true h0] at k1
  have hloop : Tr Try.prog (nthC 2 (inner (nthC 2 rdW))) (rdK l cap c (digN 34 v) 0 0) .normal (rdS l cap c (digN 34 (v - ordL))) := by
    refine Tr.loop 6 loop_rdQ (fun j => rdK l cap c (subR (digN 34 v) j).1 (subR (digN 34 v) j).2 j) 34 (fun j hj => rd_q l _ cap c (digN_u8 34 v) (digN_length 34 v) j hj) ?_
    have k := rd_qend l (subR (digN 34 v) 34).1 cap c (subR (digN 34 v) 34).2 (34 : Nat)
    rw [sub_done h0 h1] at k
    rw [sub_done h0 h1]
    exact Tr.post (Tr.keep (mk_sound _ _) 60 _ k rfl) (Sub.same rfl rfl)
  have hin : Tr Try.prog (nthC 2 rdW) (rdS l cap c (digN 34 v)) .normal (rdS l cap c (digN 34 (v - ordL))) := by
    rw [blk_rdW]
    refine Tr.block_pass (Tr.of_atoms ?_) (by simp)
    refine TrL.items (mk_sound _ _) 60 2 _ k2 rfl (by rw [atoms_rdW2]; omega) (TrL.item 2 (by rw [atoms_rdW2]; omega) hloop ?_)
    rw [List.drop_of_length_le (by rw [atoms_rdW2]; omega)]
    exact ⟨rfl, rfl⟩
  refine Tr.of_atoms (TrL.items (mk_sound _ _) 60 2 _ k1 rfl (by rw [atoms_rdW]; omega) (TrL.item 2 (by rw [atoms_rdW]; omega) (Tr.pre hin (Sub.same rfl rfl)) ?_))
  rw [List.drop_of_length_le (by rw [atoms_rdW]; omega)]
  exact ⟨rfl, rfl⟩
theorem rd_ws (l : List Int) (cap : Nat) (c : Int) : ∀ (q : Nat) (v : Int), 0 ≤ v → v < 256 ^ 34 → v / ordL = q → TrR Try.prog rdW (rdS l cap c (digN 34 v)) (.exit 4) (rdS l cap c (digN 34 (v % ordL)))
  | 0, v, h0, h1, hq => by
    have hL := ordL_pos
    have hlt : v < ordL := by
      rcases Int.lt_or_le v ordL with h | h
      · exact h
      · have := Int.ediv_le_ediv hL.1 h
        rw [Int.ediv_self (by omega)] at this
        omega
    have k := rd_wno l (digN 34 v) cap c
    rw [lst_dig, geF_ord h0 h1, decide_eq_false (by omega)] at k
    rw [Int.emod_eq_of_lt h0 hlt]
    exact TrR.leave (Tr.post (Tr.keep (mk_sound _ _) 60 _ k rfl) (Sub.same rfl rfl)) (by simp)
  | q + 1, v, h0, h1, hq => by
    have hL := ordL_pos
    have hge : ordL ≤ v := by
      rcases Int.lt_or_le v ordL with h | h
      · rw [Int.ediv_eq_zero_of_lt h0 h] at hq; omega
      · exact h
    have e1 : (v - ordL) / ordL = v / ordL - 1 := by
      have := Int.add_mul_ediv_right v (-1) (c := ordL) (by omega)
      rw [show v - ordL = v + -1 * ordL by omega, this]; omega
    have e2 : (v - ordL) % ordL = v % ordL := Int.sub_emod_right _ _
    rw [← e2]
    exact TrR.step (rd_w l cap c v hge h1) (rd_ws l cap c q (v - ordL) (by omega) (by omega) (by omega))
theorem atoms_rdB : (atoms rdB).length = 4 := by kernel_rfl
theorem blk_rdB : nthC 2 rdB = .block 1 (inner (nthC 2 rdB)) := by kernel_rfl
theorem atoms_rdB2 : (atoms (inner (nthC 2 rdB))).length = 4 := by kernel_rfl
theorem loop_rdW : isLoop 4 (nthC 3 (inner (nthC 2 rdB))) = true := by kernel_rfl
theorem rd_b (l : List Int) (cap i : Nat) (v : Int) (hl : l.all u8 = true) (hi : i < l.length) (hn : l.length ≤ 1099511627776) (h0 : 0 ≤ v) (h1 : v < ordL) :
    Tr Try.prog rdB (rdS l cap i (digN 34 v)) .normal (rdS l cap ((i : Int) - 1) (digN 34 ((256 * v + l.getD i 0) % ordL))) := by
  have hL := ordL_pos
  have hx := getD_u8 hl i
  have e : 0 + (i : Int).toNat * 1 = i := by omega
  have k1 := rd_bhead l (digN 34 v) cap i
  have k2 := rd_shift l (digN 34 v) cap i
  have k3 := rd_bstep l (digN 34 ((256 * v + l.getD i 0) % ordL)) cap i
  rw [lst_dig] at k1 k2 k3
  rw [e, shift_done hx.1 hx.2] at k2
  rw [IntWalk.i64_in _ (by omega)] at k3
  have hb : 256 * v + l.getD i 0 < 256 ^ 34 := by rw [p34]; omega
  have hq : (256 * v + l.getD i 0) / ordL = ((256 * v + l.getD i 0) / ordL).toNat := by
    have := Int.ediv_nonneg (a := 256 * v + l.getD i 0) (b := ordL) (by omega) (by omega)
    omega
  have hloop : Tr Try.prog (nthC 3 (inner (nthC 2 rdB))) (rdS l cap i (digN 34 (256 * v + l.getD i 0))) .normal (rdS l cap i (digN 34 ((256 * v + l.getD i 0) % ordL))) :=
    Tr.loopR 4 loop_rdW (rd_ws l cap i _ _ (by omega) hb hq)
  have hin : Tr Try.prog (nthC 2 rdB) (rdS l cap i (digN 34 v)) .normal (rdS l cap i (digN 34 ((256 * v + l.getD i 0) % ordL))) := by
    rw [blk_rdB]
    refine Tr.block_pass (Tr.of_atoms ?_) (by simp)
    refine TrL.items (mk_sound _ _) 60 3 _ k2 (idxN_iff (by omega) (by omega) (by omega) rfl) (by rw [atoms_rdB2]; omega) (TrL.item 3 (by rw [atoms_rdB2]; omega) (Tr.pre hloop (Sub.same rfl rfl)) ?_)
    rw [List.drop_of_length_le (by rw [atoms_rdB2]; omega)]
    exact ⟨rfl, rfl⟩
  refine Tr.of_atoms (TrL.items (mk_sound _ _) 60 2 _ k1 ?_ (by rw [atoms_rdB]; omega) (TrL.item 2 (by rw [atoms_rdB]; omega) (Tr.pre hin (Sub.same rfl rfl)) (TrL.item 3 (by rw [atoms_rdB]; omega) (Tr.keep (mk_sound _ _) 60 _ k3 rfl) ?_)))
  · change andT true (decide ((i : Int) ≥ 0)) = true
    rw [decide_eq_true (by omega)]; rfl
  · rw [List.drop_of_length_le (by rw [atoms_rdB]; omega)]
    exact ⟨rfl, rfl⟩
noncomputable def redF (l : List Int) : List Int := Lock (digN 32 (val256 l % ordL))
set_option maxRecDepth 100000 in
theorem rd_fn (l : List Int) (cap : Nat) (hl : l.all u8 = true) (hn : l.length ≤ 1099511627776) :
    ∃ g, FnTr Try.prog Try.f108 [sliceArg 0 l.length cap] [.rs .i64 l] (aggI .u8 (digN 32 (val256 l % ordL))) (.rs .i64 l :: g) := by
  have hL := ordL_pos
  have k0 : (execL Try.prog (mk (P := Try.prog) [refOrderE, intsE]) 60 5 (atoms (bodyOf Try.f108)) ⟨slots0 Try.f108.ntmps [sliceArg 0 l.length cap], [.rs .i64 l], true⟩).map (St.keep [0, 2, 4, 5, 6]) =
    some (rdS l cap (IntKind.i64.wrap (((l.length : Nat) : Int) - 1)) (digN 34 (0 % ordL))) := by kernel_rfl
  have k2 : ∀ R c, ((execA Try.prog (mk (P := Try.prog) []) 60 ((atoms (bodyOf Try.f108)).drop 6) (rdS l cap c (lst 34 R))).bind fun r => match r.1 with
      | .ret | .normal => (resS Try.prog r.2.t r.2.h Try.f108.results.toList).map fun q => (oneOf q.1, r.2.h, andT r.2.ob q.2)
      | _ => none) = some (aggI .u8 (((lst 34 R).take 32).map IntKind.u8.wrap), [.rs .i64 l, .c (intsV .u8 (((lst 34 R).take 32).map IntKind.u8.wrap)) 23, .c (intsV .u8 ordB) 23, .s .i64 ordB 3, .s .i64 (lst 34 R) 3, .c (intsV .u8 (((lst 34 R).take 32).map IntKind.u8.wrap)) 23], true) := fun R c => by kernel_rfl
  rw [IntWalk.i64_in _ (by omega)] at k0
  have r : ∀ x : Int, 0 ≤ x % ordL ∧ x % ordL < ordL := fun x => ⟨Int.emod_nonneg _ (by omega), Int.emod_lt_of_pos _ hL.1⟩
  have hloop : Tr Try.prog (nthC 5 (bodyOf Try.f108)) (rdS l cap ((l.length : Int) - 1) (digN 34 (0 % ordL))) .normal (rdS l cap (-1) (digN 34 (val256 l % ordL))) := by
    have key := Tr.loop (P := Try.prog) 0 (c := nthC 5 (bodyOf Try.f108)) (by kernel_rfl) (fun j : Nat => rdS l cap ((l.length : Int) - 1 - j) (digN 34 (val256 (l.drop (l.length - j)) % ordL))) l.length (s' := rdS l cap (-1) (digN 34 (val256 l % ordL))) (fun j hj => ?_) ?_
    · simp only [Nat.sub_zero, List.drop_length, val256] at key
      have e : (l.length : Int) - 1 - ((0 : Nat) : Int) = l.length - 1 := by omega
      rw [e] at key
      exact key
    · have hi : l.length - 1 - j < l.length := by omega
      have h := rd_b l cap (l.length - 1 - j) (val256 (l.drop (l.length - j)) % ordL) hl hi hn (r _).1 (r _).2
      have e1 : ((l.length - 1 - j : Nat) : Int) = (l.length : Int) - 1 - j := by omega
      have e2 : (l.length : Int) - 1 - ((j + 1 : Nat) : Int) = (l.length : Int) - 1 - j - 1 := by omega
      have e3 : val256 (l.drop (l.length - (j + 1))) % ordL = (256 * (val256 (l.drop (l.length - j)) % ordL) + l.getD (l.length - 1 - j) 0) % ordL := by
        have hd : l.drop (l.length - (j + 1)) = l.getD (l.length - 1 - j) 0 :: l.drop (l.length - j) := by
          rw [show l.length - (j + 1) = l.length - 1 - j by omega, List.drop_eq_getElem_cons hi]
          congr 1
          · simp [List.getD, List.getElem?_eq_getElem hi]
          · congr 1; omega
        rw [hd, val256, Int.add_comm]
        rw [Int.add_emod, Int.mul_emod, Int.add_emod (256 * (val256 (l.drop (l.length - j)) % ordL)), Int.mul_emod 256 (val256 (l.drop (l.length - j)) % ordL), Int.emod_emod]
      rw [e1] at h
      show Tr _ _ _ _ (rdS l cap ((l.length : Int) - 1 - ((j + 1 : Nat) : Int)) _)
      rw [e2, e3]
      exact h
    · have e : (l.length : Int) - 1 - (l.length : Int) = -1 := by omega
      show Tr _ _ (rdS l cap ((l.length : Int) - 1 - (l.length : Int)) (digN 34 (val256 (l.drop (l.length - l.length)) % ordL))) _ _
      rw [e, Nat.sub_self, List.drop_zero]
      have k := rd_bend l (digN 34 (val256 l % ordL)) cap (-1)
      rw [lst_dig] at k
      exact Tr.post (Tr.keep (mk_sound _ _) 60 _ k rfl) (Sub.same rfl rfl)
  have k3 := k2 (digN 34 (val256 l % ordL)) (-1)
  rw [lst_dig] at k3
  have hw : ((digN 34 (val256 l % ordL)).take 32).map IntKind.u8.wrap = digN 32 (val256 l % ordL) := by
    rw [digN_take 32 34 _ (by omega)]
    have hu := digN_u8 32 (val256 l % ordL)
    rw [List.all_eq_true] at hu
    conv => rhs; rw [← List.map_id (digN 32 (val256 l % ordL))]
    apply List.map_congr_left
    intro x hx
    have := hu x hx
    rw [u8_iff] at this
    rw [IntKind.wrap_u8, id]; omega
  rw [hw] at k3
  exact ⟨_, FnTr.rest (mk_sound _ _) 60 6 (by decide) (fun s' x h => TrL.items (mk_sound _ _) 60 5 _ k0 rfl (by decide) (TrL.item 5 (by decide) hloop h)) k3 rfl⟩
theorem redF_length (l : List Int) : (redF l).length = 32 := by rw [redF, Lock_eq, digN_length]
noncomputable def redG : List Value → List Blk → Option (Value × List Blk × Bool)
  | [.slice (some ⟨i, o, none⟩) n _], h => match h[i]? with
    | some b => match winI .i64 o n b with
      | some (l, p) => some (aggI .u8 (lst 32 (redF l)), h, p && l.all u8 && decide (n ≤ 1099511627776))
      | none => none
    | none => none
  | _, _ => none
noncomputable def refReduceE : Entry Try.prog where
  f := 108
  g := redG
  pu := false
  ok := by
    intro vs h v h' e
    unfold redG at e
    split at e
    · rename_i i o n ca
      split at e
      · rename_i b hb
        split at e
        · rename_i l p hw
          simp only [Option.some.injEq, Prod.mk.injEq, Bool.and_eq_true, decide_eq_true_eq] at e
          obtain ⟨rfl, rfl, ⟨rfl, hl⟩, hn⟩ := e
          obtain ⟨hv, hlen⟩ := winI_sound hw
          obtain ⟨g, hg⟩ := rd_fn l ca hl (by omega)
          rw [lst_eq (redF_length l), redF, Lock_eq]
          rw [hlen] at hg
          refine ctr_ro Try.func108 (by decide) hg [⟨i, o, true⟩] ⟨rfl, fun a bb hbb => ?_⟩ ⟨_, [], ⟨⟨i, o, true⟩, rfl, rfl⟩, rfl, rfl⟩ (plain_aggI _ _)
          have h1' := (List.getElem?_eq_some_iff.1 hbb).1
          simp at h1'
          subst h1'
          simp at hbb
          subst hbb
          refine ⟨rfl, plain_ints _ _, ⟨i, o, true⟩, b, rfl, rfl, hb, ?_⟩
          simp only [Blk.vals, intsV_length, hlen]
          exact hv
        · cases e
      · cases e
    · cases e
  pok := fun h => by cases h
end Go.Proofs.Ytkoohnpknhoahaa
namespace Go.Proofs.Ytkoohnpknhoahaa
open Go Go.Lift
noncomputable def intsNilE : Entry Try.prog where
  f := 109
  g := fun vs h => match vs with
    | [.slice none 0 0] => some (.slice (some ⟨h.length, 0, none⟩) 0 0, h ++ [.s .i64 [] 3], true)
    | _ => none
  pu := false
  ok := by
    intro vs h v h' e
    split at e
    · simp only [Option.some.injEq, Prod.mk.injEq, and_true] at e
      obtain ⟨rfl, rfl⟩ := e
      have key : callS Try.prog (mk (P := Try.prog) []) 60 Try.f109 [.slice none 0 0] [] = some (.slice (some ⟨0, 0, none⟩) 0 0, [.s .i64 [] 3], true) := by kernel_rfl
      exact ctr_ro_new Try.func109 (by decide) (FnTr.of_callS (mk_sound _ _) key) [] ⟨rfl, fun a bb hbb => by simp at hbb⟩ (LR.plain [.slice none 0 0] rfl) (b := .s .i64 [] 3) (b' := .s .i64 [] 3) (Nat.zero_le _) rfl rfl rfl rfl rfl
    · cases e
  pok := fun h => by cases h
noncomputable def bitsG : List Value → List Blk → Option (Value × List Blk × Bool)
  | [.slice none 0 0], h => some (aggI .u8 (lst 32 (redF [])), h, true)
  | [.slice (some ⟨i, o, none⟩) n _], h => match h[i]? with
    | some b => match winI .u8 o n b with
      | some (l, p) => some (aggI .u8 (lst 32 (redF l)), h, p && l.all u8 && decide (n ≤ 1099511627776))
      | none => none
    | none => none
  | _, _ => none
theorem RoOver.win {k : IntKind} {l : List Int} {i o n : Nat} {h : List Blk} {b : Blk} (hb : h[i]? = some b) (hv : intsV k l = (b.vals.drop o).take n) (hlen : l.length = n) : RoOver [.rs k l] [⟨i, o, true⟩] h := by
  refine ⟨rfl, fun a bb hbb => ?_⟩
  have h1' := (List.getElem?_eq_some_iff.1 hbb).1
  simp at h1'
  subst h1'
  simp at hbb
  subst hbb
  refine ⟨rfl, plain_ints _ _, ⟨i, o, true⟩, b, rfl, rfl, hb, ?_⟩
  simp only [Blk.vals, intsV_length, hlen]
  exact hv
set_option maxRecDepth 100000 in
theorem bits_fn (l : List Int) (cap : Nat) (hl : l.all u8 = true) (hn : l.length ≤ 1099511627776) :
    ∃ g, FnTr Try.prog Try.f62 [sliceArg 0 l.length cap] [.rs .u8 l] (aggI .u8 (lst 32 (redF l))) (.rs .u8 l :: g) := by
  have key : (callS Try.prog (mk [intsE, refReduceE]) 60 Try.f62 [sliceArg 0 l.length cap] [.rs .u8 l]).map (fun x => (x.1, x.2.1.take 1, x.2.2)) =
      some (aggI .u8 (lst 32 (redF l)), [.rs .u8 l], andT (andT true (l.length == l.length && l.all u8 && decide (l.length ≤ 1099511627776))) (l.length == l.length && l.all u8 && decide (l.length ≤ 1099511627776))) := by kernel_rfl
  exact FnTr.of_take1 (mk_sound _ _) key (by rw [hl, decide_eq_true hn, beq_self_eq_true]; rfl)
set_option maxRecDepth 100000 in
noncomputable def bitsE : Entry Try.prog where
  f := 62
  g := bitsG
  pu := false
  ok := by
    intro vs h v h' e
    unfold bitsG at e
    split at e
    · simp only [Option.some.injEq, Prod.mk.injEq, and_true] at e
      obtain ⟨rfl, rfl⟩ := e
      have key : (callS Try.prog (mk [intsNilE, refReduceE]) 60 Try.f62 [.slice none 0 0] []).map (fun x => (x.1, x.2.2)) = some (aggI .u8 (lst 32 (redF [])), true) := by kernel_rfl
      exact ctr_val Try.func62 (by decide) (mk_sound _ _) 60 key rfl rfl (plain_aggI _ _) h
    · rename_i i o n ca
      split at e
      · rename_i b hb
        split at e
        · rename_i l p hw
          simp only [Option.some.injEq, Prod.mk.injEq, Bool.and_eq_true, decide_eq_true_eq] at e
          obtain ⟨rfl, rfl, ⟨rfl, hl⟩, hn⟩ := e
          obtain ⟨hv, hlen⟩ := winI_sound hw
          obtain ⟨g, hg⟩ := bits_fn l ca hl (by omega)
          rw [hlen] at hg
          exact ctr_ro Try.func62 (by decide) hg [⟨i, o, true⟩] (RoOver.win hb hv hlen) ⟨_, [], ⟨⟨i, o, true⟩, rfl, rfl⟩, rfl, rfl⟩ (plain_aggI _ _)
        · cases e
      · cases e
    · cases e
  pok := fun h => by cases h
  rd := true
  rok := by
    intro _ vs h v h' p e
    unfold bitsG at e
    split at e
    · cases e; rfl
    · split at e
      · split at e
        · cases e; rfl
        · cases e
      · cases e
    · cases e
theorem redF_dig {l : List Int} (hl : l.all u8 = true) (hn : l.length ≤ 64) : keyF (lst 4 (redW l l.length)) = redF l := by
  rw [red_key hl hn, redF, Lock_eq, dig32_digN]
theorem plain_pr (l : List Int) (b : Bool) : plain (.tuple #[aggI .u8 l, .bool b]) = true := by
  simp [plain, plainL, plain_aggI]
end Go.Proofs.Ytkoohnpknhoahaa
namespace Go.Proofs.Ytkoohnpknhoahaa
open Go Go.Lift
theorem word_step {acc x : Int} (h0 : 0 ≤ acc) (h1 : acc < 72057594037927936) (hx0 : 0 ≤ x) (hx : x < 256) : orI .u64 (shlI .u64 acc 8) (IntKind.u64.wrap x) = acc * 256 + x := by
  rw [shl64 _ 8 (by decide), wrap_u64, or64 8 _ _ (by omega) (by first | (simp; done) | (simp; omega)) (by omega) (by omega) (by first | (simp; done) | (simp; omega)) (by decide)]
  first | (simp; done) | (simp; omega) | omega
theorem word8_eq {a b c d e f g h : Int} (ha : 0 ≤ a ∧ a < 256) (hb : 0 ≤ b ∧ b < 256) (hc : 0 ≤ c ∧ c < 256) (hd : 0 ≤ d ∧ d < 256) (he : 0 ≤ e ∧ e < 256) (hf : 0 ≤ f ∧ f < 256) (hg : 0 ≤ g ∧ g < 256) (hh : 0 ≤ h ∧ h < 256) :
    word8 [a, b, c, d, e, f, g, h] = ((((((a * 256 + b) * 256 + c) * 256 + d) * 256 + e) * 256 + f) * 256 + g) * 256 + h := by
  simp only [word8, List.foldl_cons, List.foldl_nil]
  rw [word_step (by omega) (by omega) ha.1 ha.2, word_step (by omega) (by omega) hb.1 hb.2, word_step (by omega) (by omega) hc.1 hc.2, word_step (by omega) (by omega) hd.1 hd.2,
    word_step (by omega) (by omega) he.1 he.2, word_step (by omega) (by omega) hf.1 hf.2, word_step (by omega) (by omega) hg.1 hg.2, word_step (by omega) (by omega) hh.1 hh.2]
  omega
theorem digN_getD : ∀ (n i : Nat) (v : Int), i < n → (digN n v).getD i 0 = v / 256 ^ i % 256
  | 0, _, _, h => by omega
  | n + 1, 0, v, _ => by simp [digN]
  | n + 1, i + 1, v, h => by
    rw [digN, List.getD_cons_succ, digN_getD n i _ (by omega), Int.ediv_ediv_of_nonneg (by omega), Int.pow_succ, Int.mul_comm 256]
theorem numF_dig (v : Int) : numF (digN 32 v) = wds v := by
  have key : ∀ k : Nat, k < 4 → word8 ((List.range 8).map fun j => (digN 32 v).getD (8 * k + 7 - j) 0) = wd v k := by
    intro k hk
    have e : ∀ j, j < 8 → (digN 32 v).getD (8 * k + 7 - j) 0 = v / 2 ^ (64 * k) / 256 ^ (7 - j) % 256 := fun j hj => by
      rw [digN_getD _ _ _ (by omega), Int.ediv_ediv_of_nonneg (Int.pow_nonneg (by omega))]
      congr 2
      rw [show (256 : Int) = 2 ^ 8 from rfl, ← Int.pow_mul, ← Int.pow_mul, ← Int.pow_add]
      congr 1
      omega
    have l8 : (List.range 8).map (fun j => (digN 32 v).getD (8 * k + 7 - j) 0) = (List.range 8).map (fun j => v / 2 ^ (64 * k) / 256 ^ (7 - j) % 256) := by
      apply List.map_congr_left
      intro j hj
      exact e j (by rw [List.mem_range] at hj; omega)
    rw [l8, wd]
    generalize v / 2 ^ (64 * k) = u
    have m : ∀ x : Int, 0 ≤ x % 256 ∧ x % 256 < 256 := fun x => by omega
    show word8 [u / 256 ^ 7 % 256, u / 256 ^ 6 % 256, u / 256 ^ 5 % 256, u / 256 ^ 4 % 256, u / 256 ^ 3 % 256, u / 256 ^ 2 % 256, u / 256 ^ 1 % 256, u / 256 ^ 0 % 256] = _
    rw [word8_eq (m _) (m _) (m _) (m _) (m _) (m _) (m _) (m _)]
    simp only [Int.reducePow]
    omega
  rw [numF, Lock_eq, numW]
  show [word8 _, word8 _, word8 _, word8 _] = [wd v 0, wd v 1, wd v 2, wd v 3]
  rw [key 0 (by omega), key 1 (by omega), key 2 (by omega), key 3 (by omega)]
end Go.Proofs.Ytkoohnpknhoahaa
