/- This file proves contracts of (*point.residue).bit, point.Residue, point.Reduce. Conditions: numbers within their kinds. -/
import Derived.Test.YtailgcdcdhhpnaaPtA
import Derived.IntWalk
namespace Go.Proofs.Ytailgcdcdhhpnaa
open Go Go.Lift

/-! ### (*residue).bit -/
/-- The words, one bit up, a bit come in. -/
def upW (l : List Int) (b : Int) : List Int :=
  [orI .u64 (shlI .u64 (l.getD 0 0) 1) b, orI .u64 (shlI .u64 (l.getD 1 0) 1) (shrI .u64 (l.getD 0 0) 63),
    orI .u64 (shlI .u64 (l.getD 2 0) 1) (shrI .u64 (l.getD 1 0) 63), orI .u64 (shlI .u64 (l.getD 3 0) 1) (shrI .u64 (l.getD 2 0) 63)]
noncomputable def lessB (l : List Int) : Int := mnB (l.getD 0 0) (l.getD 1 0) (l.getD 2 0) (l.getD 3 0)
noncomputable def lessW (l : List Int) : List Int := mnW (l.getD 0 0) (l.getD 1 0) (l.getD 2 0) (l.getD 3 0)
noncomputable def bitW (l : List Int) (b : Int) : List Int := if lessB (upW l b) = 0 then lessW (upW l b) else upW l b
noncomputable def bitF (l : List Int) (b : Int) : List Int := Lock (bitW l b)
theorem bitF_length (l : List Int) (b : Int) : (bitF l b).length = 4 := by rw [bitF, Lock_eq, bitW]; split <;> rfl

noncomputable def bitG : List Value → List Blk → Option (Value × List Blk × Bool)
  | [.pointer (some ⟨i, 0, none⟩), .int .u64 b], h => match h[i]? with
    | some (.c cs t) => match intsN .u64 4 cs with
      | some l => some (undef, h.set i (.c (intsV .u64 (lst 4 (bitF l b))) t), true)
      | none => none
    | _ => none
  | _, _ => none

set_option maxRecDepth 100000 in
theorem bit_fn (l : List Int) (b : Int) (t : TypeId) : ∃ g, FnTr Try.prog Try.f29 [.pointer (some ⟨0, 0, none⟩), .int .u64 b] [.c (intsV .u64 (lst 4 l)) t] undef (.c (intsV .u64 (bitW (lst 4 l) b)) t :: g) := by
  by_cases hq : lessB (upW (lst 4 l) b) = 0
  · have key : (callS Try.prog (mk [minusE] fun i => if i = 43 then some true else none) 200 Try.f29 [.pointer (some ⟨0, 0, none⟩), .int .u64 b] [.c (intsV .u64 (lst 4 l)) t]).map (fun x => (x.1, x.2.1.take 1, x.2.2)) =
      some (undef, [.c (intsV .u64 (lessW (upW (lst 4 l) b))) t], andT true (lessB (upW (lst 4 l) b) == 0)) := by kernel_rfl
    rw [bitW, if_pos hq]
    exact FnTr.of_take1 (mk_sound _ _) key (by rw [hq]; rfl)
  · have key : (callS Try.prog (mk [minusE] fun i => if i = 43 then some false else none) 200 Try.f29 [.pointer (some ⟨0, 0, none⟩), .int .u64 b] [.c (intsV .u64 (lst 4 l)) t]).map (fun x => (x.1, x.2.1.take 1, x.2.2)) =
      some (undef, [.c (intsV .u64 (upW (lst 4 l) b)) t], andT true (!(lessB (upW (lst 4 l) b) == 0))) := by kernel_rfl
    rw [bitW, if_neg hq]
    exact FnTr.of_take1 (mk_sound _ _) key (by rw [beq_eq_false_iff_ne.2 hq]; rfl)

theorem bitW_lst (l : List Int) (b : Int) : lst 4 (bitF l b) = bitW l b := by rw [lst_eq (bitF_length l b), bitF, Lock_eq]

noncomputable def bitE : Entry Try.prog where
  f := 29
  g := bitG
  pu := false
  ok := by
    intro vs h v h' e
    unfold bitG at e
    split at e
    · rename_i i b
      split at e
      · rename_i cs t hi
        split at e
        · rename_i l hcs
          simp only [Option.some.injEq, Prod.mk.injEq, and_true] at e
          obtain ⟨rfl, rfl⟩ := e
          obtain ⟨h1, h2⟩ := intsN_eq hcs
          obtain ⟨g, hg⟩ := bit_fn l b t
          refine ctr_ptr1 Try.func29 (by decide) hg rfl rfl (plain_ints _ _) (plain_ints _ _) rfl rfl hi rfl h1 rfl ?_
          show intsV .u64 (lst 4 (bitF l b)) = intsV .u64 (bitW (lst 4 l) b)
          rw [bitW_lst, lst_eq h2]
        · cases e
      · cases e
    · cases e
  pok := fun h => by cases h

/-! ### Residue -/
noncomputable def residueG : List Value → Option (Value × Bool)
  | [.agg ⟨cs⟩] => match intsN .u8 32 cs with
    | some l => some (.bool (lessB (numF l) == 1), true)
    | none => none
  | _ => none

set_option maxRecDepth 100000 in
noncomputable def residueE : Entry Try.prog := .val 12 residueG fun vs v e h => by
  unfold residueG at e
  split at e
  · split at e
    · rename_i cs l hcs
      simp only [Option.some.injEq, Prod.mk.injEq, and_true] at e
      subst e
      obtain ⟨h1, h2⟩ := intsN_eq hcs
      rw [h1]
      have key : (callS Try.prog (mk [minusE, numberE]) 60 Try.f12 [aggI .u8 (lst 32 l)] []).map (fun x => (x.1, x.2.2)) = some (.bool (lessB (numF (lst 32 l)) == 1), true) := by kernel_rfl
      rw [lst_eq h2] at key ⊢
      exact ctr_val Try.func12 (by decide) (mk_sound _ _) 60 key rfl (by simp [plainL, plain_aggI]) rfl h
    · cases e
  · cases e

/-! ### Reduce -/
/-- What a byte does to the words: its bits from the highest on. -/
noncomputable def byteW (l : List Int) (x : Int) : List Int :=
  [7, 6, 5, 4, 3, 2, 1, 0].foldl (fun w k => bitF (lst 4 w) (IntKind.u64.wrap (andI .u8 (shrI .u8 x k) 1))) l

/-- The counter of the outer loop, as the loop reckons it. -/
def ctr (n : Nat) : Nat → Int
  | 0 => IntKind.i64.wrap (n - 1)
  | j + 1 => IntKind.i64.wrap (ctr n j - 1)

/-- The words behind j rounds. -/
noncomputable def redW (bs : List Int) : Nat → List Int
  | 0 => [0, 0, 0, 0]
  | j + 1 => byteW (redW bs j) (bs.getD (0 + (ctr bs.length j).toNat * 1) 0)

def zeros (k : IntKind) (n : Nat) : List Value := List.replicate n (.int k 0)
def redArg (bs : List Int) (cap : Nat) : Value := .slice (some ⟨0, 0, none⟩) bs.length cap
/-- The state at the head of round j. -/
noncomputable def redS (bs : List Int) (cap j : Nat) : St :=
  ⟨slotsOf 34 [(0, redArg bs cap), (2, .pointer (some ⟨1, 0, none⟩)), (4, .pointer (some ⟨2, 0, none⟩)), (5, .int .i64 (ctr bs.length j))],
    [.rs .u8 bs, .c (zeros .u8 32) 24, .c (intsV .u64 (lst 4 (redW bs j))) 61], true⟩

theorem ctr_eq (n : Nat) (hn : n ≤ 64) : ∀ j : Nat, j ≤ n → ctr n j = n - 1 - j
  | 0, _ => by rw [ctr, IntWalk.i64_in _ (by omega)]; omega
  | j + 1, h => by rw [ctr, ctr_eq n hn j (by omega), IntWalk.i64_in _ (by omega)]; omega

set_option maxRecDepth 100000 in
theorem red_round (bs : List Int) (cap j : Nat) (hn : bs.length ≤ 64) (hj : j < bs.length) :
    Tr Try.prog (inner (inner (nthC 5 (bodyOf Try.f10)))) (redS bs cap j) .normal (redS bs cap (j + 1)) := by
  have key : (exec Try.prog (mk [bitE] fun i => if i = 15 then some true else none) 200 (inner (inner (nthC 5 (bodyOf Try.f10)))) (redS bs cap j)).map (fun r => (r.1, r.2.keep [0, 2, 4, 5])) =
    some (.normal, ⟨(redS bs cap (j + 1)).t, (redS bs cap (j + 1)).h, (List.replicate 8 ()).foldl (fun o _ => andT (andT o (decide (0 ≤ ctr bs.length j) && decide (ctr bs.length j < (bs.length : Int)))) (decide (0 + (ctr bs.length j).toNat * 1 < bs.length)))
      (andT true (decide (ctr bs.length j ≥ 0)))⟩) := by kernel_rfl
  have hc := ctr_eq bs.length hn j (by omega)
  refine Tr.post (Tr.keep (mk_sound _ _) 200 [0, 2, 4, 5] key ?_) ⟨rfl, fun _ _ h => h, rfl, fun i b b' h h' => by rw [h] at h'; cases h'; exact ⟨rfl, rfl⟩⟩
  have h1 : decide (0 ≤ ctr bs.length j) = true := by rw [hc]; simp; omega
  have h2 : decide (ctr bs.length j < (bs.length : Int)) = true := by rw [hc]; simp; omega
  have h3 : decide (0 + (ctr bs.length j).toNat * 1 < bs.length) = true := by rw [hc]; simp; omega
  have h4 : decide (ctr bs.length j ≥ 0) = true := h1
  show List.foldl _ _ _ = true
  rw [h2, h3, h4]
  rfl

theorem red_init (bs : List Int) (cap : Nat) : slots0 Try.f10.ntmps [redArg bs cap] = slotsOf 34 [(0, redArg bs cap)] := by kernel_rfl

set_option maxRecDepth 100000 in
theorem red_fn (bs : List Int) (cap : Nat) (hn : bs.length ≤ 64) : ∃ g, FnTr Try.prog Try.f10 [redArg bs cap] [.rs .u8 bs] (.tuple #[aggI .u8 (lst 32 (keyF (lst 4 (redW bs bs.length)))), .bool true]) (.rs .u8 bs :: g) := by
  have k0 : (execL Try.prog (mk (P := Try.prog) [] fun i => if i = 9 then some false else none) 60 5 (atoms (bodyOf Try.f10)) ⟨slots0 Try.f10.ntmps [redArg bs cap], [.rs .u8 bs], true⟩).map (St.keep [0, 2, 4, 5]) =
    some ⟨(redS bs cap 0).t, (redS bs cap 0).h, andT true (!decide ((bs.length : Int) > 64))⟩ := by kernel_rfl
  have k1 : (exec Try.prog (mk (P := Try.prog) [] fun i => if i = 15 then some false else none) 60 (inner (inner (nthC 5 (bodyOf Try.f10)))) (redS bs cap bs.length)).map (fun r => (r.1, r.2.keep [0, 2, 4, 5])) =
    some (.exit 0, ⟨(redS bs cap bs.length).t, (redS bs cap bs.length).h, andT true (!decide (ctr bs.length bs.length ≥ 0))⟩) := by kernel_rfl
  have k2 : ((execA Try.prog (mk [keyE]) 60 ((atoms (bodyOf Try.f10)).drop 6) (redS bs cap bs.length)).bind fun r => match r.1 with
      | .ret | .normal => (resS Try.prog r.2.t r.2.h Try.f10.results.toList).map fun q => (oneOf q.1, r.2.h, andT r.2.ob q.2)
      | _ => none) = some (.tuple #[aggI .u8 (lst 32 (keyF (lst 4 (redW bs bs.length)))), .bool true], [.rs .u8 bs, .c (intsV .u8 (lst 32 (keyF (lst 4 (redW bs bs.length))))) 24, .c (intsV .u64 (lst 4 (redW bs bs.length))) 61], true) := by kernel_rfl
  have hc := ctr_eq bs.length hn bs.length (Nat.le_refl _)
  have hs : ∀ s : St, ∀ o, Sub ⟨s.t, s.h, o⟩ s := fun s o => ⟨rfl, fun _ _ h => h, rfl, fun i b b' h h' => by rw [h] at h'; cases h'; exact ⟨rfl, rfl⟩⟩
  refine ⟨_, FnTr.rest (mk_sound _ _) 60 6 (by decide) (fun s' x h => ?_) k2 rfl⟩
  refine TrL.items (mk_sound _ _) 60 5 [0, 2, 4, 5] k0 ?_ (by decide) (TrL.item 5 (by decide) (s1 := redS bs cap bs.length) (Tr.pre (Tr.loop 0 (by decide) (redS bs cap) bs.length (fun j hj => red_round bs cap j hn hj) ?_) (hs _ _)) h)
  · show andT true _ = true
    rw [decide_eq_false (by omega)]; rfl
  · refine Tr.post (Tr.keep (mk_sound _ _) 60 [0, 2, 4, 5] k1 ?_) (hs _ _)
    show andT true _ = true
    rw [decide_eq_false (by rw [hc]; omega)]; rfl
end Go.Proofs.Ytailgcdcdhhpnaa
