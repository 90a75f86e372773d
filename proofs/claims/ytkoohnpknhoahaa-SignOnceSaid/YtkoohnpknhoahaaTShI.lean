/- This file proves the contracts of the reference's Longs, Begin, pad and wideTurn. Conditions: lengths that memory bears. -/
import Derived.Test.YtkoohnpknhoahaaTShH
set_option linter.all false
namespace Go.Sy
open Go
variable {P : Program}
theorem Ent.nothing {k : Nat} {t : List (Option SV)} {h : List Blk} {o o' : Bool} (i : Nat) (K : IntKind) (ex wh : Bool) (hi : t[i]? = some (some (.nl (.slice none 0 0)))) :
    Ent k ⟨t, h, o⟩ ⟨t.set i (some (.sl h.length 0 0 1 0 0 ex wh)), h ++ [.b [.ints K 0 []]], o'⟩ := fun B e w t' _ hl R => ⟨e, rfl, ⟨by simpa using hl.1, fun j v v' a c => by
    rw [List.getElem?_set] at a
    split at a
    · rename_i q
      subst q
      split at a
      · simp only [Option.some.injEq] at a
        subst a
        have h1 : v' = .slice none 0 0 := hl.2 _ _ v' hi c
        exact .inl ⟨rfl, rfl, none, h1⟩
      · cases a
    · exact hl.2 j v v' a c⟩, by
    have := R.nothing (j := h.length) (ps := [.ints K 0 []]) (.inl rfl) rfl
    unfold placeH at this
    rw [if_pos rfl] at this
    exact this⟩
end Go.Sy
namespace Go.Proofs.Ytkoohnpknhoahaa.Sh
open Go Go.Sy
def intsOf2 : Option (SV × List Blk × Bool) → List Int
  | some (_, [.b [.ints _ _ l]], _) => l
  | _ => []
set_option maxRecDepth 100000 in
theorem longsR_fn : FnTr Try.prog 90 [] [] (.ro true .u64 kL) [] :=
  FnTr.frozen (N := 80) (ex := true) (wh := true) (FnTr.of_callS ctr0 Try.func90 (n := 60) (by kernel_rfl)) (by kernel_rfl)
set_option maxRecDepth 100000 in
theorem beginR_fn : FnTr Try.prog 89 [] [] (.ro true .u64 bL) [] :=
  FnTr.frozen (N := 8) (ex := true) (wh := true) (FnTr.of_callS ctr0 Try.func89 (n := 60) (by kernel_rfl)) (by kernel_rfl)
noncomputable def longsRF : List SV → Option (SV × List Blk × Bool)
  | [] => some (.ro true .u64 kL, [], true)
  | _ => none
noncomputable def longsRE : Entry Try.prog := .val 90 _ Try.func90 (by decide) rfl false 0 longsRF fun vs v new e => by
  unfold longsRF at e
  split at e
  · cases e; exact longsR_fn
  · cases e
noncomputable def beginRF : List SV → Option (SV × List Blk × Bool)
  | [] => some (.ro true .u64 bL, [], true)
  | _ => none
noncomputable def beginRE : Entry Try.prog := .val 89 _ Try.func89 (by decide) rfl false 0 beginRF fun vs v new e => by
  unfold beginRF at e
  split at e
  · cases e; exact beginR_fn
  · cases e
def rotQ (x n : Int) : Int := W (shrI .u64 x n.toNat + shlI .u64 x (W (64 - n)).toNat)
def rotQF : List SV → Option (SV × List Blk × Bool)
  | [.int .u64 x, .int .u64 n] => some (.int .u64 (rotQ x n), [], decide (0 ≤ n))
  | _ => none
set_option maxRecDepth 100000 in
noncomputable def rotQE : Entry Try.prog := .val 92 _ Try.func92 (by decide) rfl false 0 rotQF fun vs v new e => by
  unfold rotQF at e
  split at e
  · rename_i x n
    simp only [Option.some.injEq, Prod.mk.injEq, decide_eq_true_eq] at e
    obtain ⟨rfl, rfl, h⟩ := e
    exact call0 ctr0 60 Try.func92 (p := andT (andT true (decide (0 ≤ n))) (W0 (64 - n))) (by kernel_rfl) (by rw [W0_true, decide_eq_true h]; rfl) rfl
  · cases e
end Go.Proofs.Ytkoohnpknhoahaa.Sh
