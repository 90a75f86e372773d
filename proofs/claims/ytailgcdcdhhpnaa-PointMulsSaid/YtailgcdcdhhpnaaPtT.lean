/- This file proves contracts of the reference's Bits and of point.Reduce for whatever bytes. Conditions: bytes within their kind; Bits: at most 2^40 bytes. -/
import Derived.Test.YtailgcdcdhhpnaaPtS
namespace Go.Proofs.Ytailgcdcdhhpnaa
open Go Go.Lift

/-! ### ints and Bits -/
noncomputable def intsNilE : Entry Try.prog where
  f := 32
  g := fun vs h => match vs with
    | [.slice none 0 0] => some (.slice (some ⟨h.length, 0, none⟩) 0 0, h ++ [.s .i64 [] 3], true)
    | _ => none
  pu := false
  ok := by
    intro vs h v h' e
    split at e
    · simp only [Option.some.injEq, Prod.mk.injEq, and_true] at e
      obtain ⟨rfl, rfl⟩ := e
      have key : callS Try.prog (mk (P := Try.prog) []) 60 Try.f32 [.slice none 0 0] [] = some (.slice (some ⟨0, 0, none⟩) 0 0, [.s .i64 [] 3], true) := by kernel_rfl
      exact ctr_ro_new Try.func32 (by decide) (FnTr.of_callS (mk_sound _ _) key) [] ⟨rfl, fun a bb hbb => by simp at hbb⟩ (LR.plain [.slice none 0 0] rfl) (b := .s .i64 [] 3) (b' := .s .i64 [] 3) (Nat.zero_le _) rfl rfl rfl rfl rfl
    · cases e
  pok := fun h => by cases h

noncomputable def bitsG : List Value → List Blk → Option (Value × List Blk × Bool)
  | [.slice none 0 0], h => some (aggI .u8 (lst 32 (redF [])), h, true)
  | [.slice (some ⟨i, o, none⟩) n _], h => match h[i]? with
    | some b => match winI .u8 o n b with
      | some (l, p) => some (aggI .u8 (lst 32 (redF l)), h, p && l.all u8 && decide (n ≤ 1099511627776))
      | none => none
    | none => none
  | _, _ => none

/-- One window of the caller's block. -/
theorem RoOver.win {k : IntKind} {l : List Int} {i o n : Nat} {h : List Blk} {b : Blk} (hb : h[i]? = some b) (hv : intsV k l = (b.vals.drop o).take n) (hlen : l.length = n) : RoOver [.rs k l] [⟨i, o, true⟩] h := by
  refine ⟨rfl, fun a bb hbb => ?_⟩
  have h1' := (List.getElem?_eq_some_iff.1 hbb).1
  simp at h1'
  subst h1'
  simp at hbb
  subst hbb
  refine ⟨rfl, plain_ints _ _, ⟨i, o, true⟩, b, rfl, rfl, hb, ?_⟩
  simp only [Blk.vals, intsV_length, hlen]
  exact hv

set_option maxRecDepth 100000 in
theorem bits_fn (l : List Int) (cap : Nat) (hl : l.all u8 = true) (hn : l.length ≤ 1099511627776) :
    ∃ g, FnTr Try.prog Try.f11 [sliceArg 0 l.length cap] [.rs .u8 l] (aggI .u8 (lst 32 (redF l))) (.rs .u8 l :: g) := by
  have key : (callS Try.prog (mk [intsE, refReduceE]) 60 Try.f11 [sliceArg 0 l.length cap] [.rs .u8 l]).map (fun x => (x.1, x.2.1.take 1, x.2.2)) =
      some (aggI .u8 (lst 32 (redF l)), [.rs .u8 l], andT (andT true (l.length == l.length && l.all u8 && decide (l.length ≤ 1099511627776))) (l.length == l.length && l.all u8 && decide (l.length ≤ 1099511627776))) := by kernel_rfl
  exact FnTr.of_take1 (mk_sound _ _) key (by rw [hl, decide_eq_true hn, beq_self_eq_true]; rfl)

set_option maxRecDepth 100000 in
noncomputable def bitsE : Entry Try.prog where
  f := 11
  g := bitsG
  pu := false
  ok := by
    intro vs h v h' e
    unfold bitsG at e
    split at e
    · simp only [Option.some.injEq, Prod.mk.injEq, and_true] at e
      obtain ⟨rfl, rfl⟩ := e
      have key : (callS Try.prog (mk [intsNilE, refReduceE]) 60 Try.f11 [.slice none 0 0] []).map (fun x => (x.1, x.2.2)) = some (aggI .u8 (lst 32 (redF [])), true) := by kernel_rfl
      exact ctr_val Try.func11 (by decide) (mk_sound _ _) 60 key rfl rfl (plain_aggI _ _) h
    · rename_i i o n ca
      split at e
      · rename_i b hb
        split at e
        · rename_i l p hw
          simp only [Option.some.injEq, Prod.mk.injEq, Bool.and_eq_true, decide_eq_true_eq] at e
          obtain ⟨rfl, rfl, ⟨rfl, hl⟩, hn⟩ := e
          obtain ⟨hv, hlen⟩ := winI_sound hw
          obtain ⟨g, hg⟩ := bits_fn l ca hl (by omega)
          rw [hlen] at hg
          exact ctr_ro Try.func11 (by decide) hg [⟨i, o, true⟩] (RoOver.win hb hv hlen) ⟨_, [], ⟨⟨i, o, true⟩, rfl, rfl⟩, rfl, rfl⟩ (plain_aggI _ _)
        · cases e
      · cases e
    · cases e
  pok := fun h => by cases h
  rd := true
  rok := by
    intro _ vs h v h' p e
    unfold bitsG at e
    split at e
    · cases e; rfl
    · split at e
      · split at e
        · cases e; rfl
        · cases e
      · cases e
    · cases e

/-! ### point.Reduce -/
def isRs : Blk → Bool
  | .rs _ _ => true
  | _ => false
noncomputable def prG (big : Bool) : List Value → List Blk → Option (Value × List Blk × Bool)
  | [.slice none 0 0], h => some (.tuple #[aggI .u8 (lst 32 (redF [])), .bool true], h, true)
  | [.slice (some ⟨i, o, none⟩) n _], h => match h[i]? with
    | some b => match winI .u8 o n b with
      | some (l, p) => match big && isRs b with
        | true => some (.tuple #[aggI .u8 (List.replicate 32 0), .bool false], h, p && decide ((n : Int) > 64))
        | false => some (.tuple #[aggI .u8 (lst 32 (redF l)), .bool true], h, p && l.all u8 && decide (n ≤ 64))
      | none => none
    | none => none
  | _, _ => none

theorem redF_dig {l : List Int} (hl : l.all u8 = true) (hn : l.length ≤ 64) : keyF (lst 4 (redW l l.length)) = redF l := by
  rw [red_key hl hn, redF, Lock_eq, dig32_digN]

set_option maxRecDepth 100000 in
theorem pr_big (bs : List Int) (cap : Nat) (hn : (bs.length : Int) > 64) : ∃ g, FnTr Try.prog Try.f10 [sliceArg 0 bs.length cap] [.rs .u8 bs] (.tuple #[aggI .u8 (List.replicate 32 0), .bool false]) (.rs .u8 bs :: g) := by
  have key : (callS Try.prog (mk (P := Try.prog) [] fun i => if i = 9 then some true else none) 60 Try.f10 [sliceArg 0 bs.length cap] [.rs .u8 bs]).map (fun x => (x.1, x.2.1.take 1, x.2.2)) =
      some (.tuple #[aggI .u8 (List.replicate 32 0), .bool false], [.rs .u8 bs], andT true (decide ((bs.length : Int) > 64))) := by kernel_rfl
  exact FnTr.of_take1 (mk_sound _ _) key (by rw [decide_eq_true hn]; rfl)

theorem plain_pr (l : List Int) (b : Bool) : plain (.tuple #[aggI .u8 l, .bool b]) = true := by
  simp [plain, plainL, plain_aggI]

set_option maxRecDepth 100000 in
noncomputable def prE (big : Bool) : Entry Try.prog where
  f := 10
  g := prG big
  pu := false
  ok := by
    intro vs h v h' e
    unfold prG at e
    split at e
    · simp only [Option.some.injEq, Prod.mk.injEq, and_true] at e
      obtain ⟨rfl, rfl⟩ := e
      have key : (callS Try.prog (mk [keyE]) 60 Try.f10 [.slice none 0 0] []).map (fun x => (x.1, x.2.2)) = some (.tuple #[aggI .u8 (lst 32 (keyF (lst 4 [0, 0, 0, 0]))), .bool true], true) := by kernel_rfl
      have e0 : keyF (lst 4 [0, 0, 0, 0]) = redF [] := redF_dig (l := []) rfl (Nat.zero_le _)
      rw [e0] at key
      exact ctr_val Try.func10 (by decide) (mk_sound _ _) 60 key rfl rfl (plain_pr _ _) h
    · rename_i i o n ca
      split at e
      · rename_i b hb
        split at e
        · rename_i l p hw
          split at e
          · simp only [Option.some.injEq, Prod.mk.injEq, Bool.and_eq_true, decide_eq_true_eq] at e
            obtain ⟨rfl, rfl, rfl, hn⟩ := e
            obtain ⟨hv, hlen⟩ := winI_sound hw
            obtain ⟨g, hg⟩ := pr_big l ca (by omega)
            rw [hlen] at hg
            exact ctr_ro Try.func10 (by decide) hg [⟨i, o, true⟩] (RoOver.win hb hv hlen) ⟨_, [], ⟨⟨i, o, true⟩, rfl, rfl⟩, rfl, rfl⟩ (plain_pr _ _)
          · simp only [Option.some.injEq, Prod.mk.injEq, Bool.and_eq_true, decide_eq_true_eq] at e
            obtain ⟨rfl, rfl, ⟨rfl, hl⟩, hn⟩ := e
            obtain ⟨hv, hlen⟩ := winI_sound hw
            obtain ⟨g, hg⟩ := red_fn l ca (by omega)
            rw [redF_dig hl (by omega)] at hg
            rw [redArg, hlen] at hg
            exact ctr_ro Try.func10 (by decide) hg [⟨i, o, true⟩] (RoOver.win hb hv hlen) ⟨_, [], ⟨⟨i, o, true⟩, rfl, rfl⟩, rfl, rfl⟩ (plain_pr _ _)
        · cases e
      · cases e
    · cases e
  pok := fun h => by cases h
  rd := true
  rok := by
    intro _ vs h v h' p e
    unfold prG at e
    split at e
    · cases e; rfl
    · split at e
      · split at e
        · split at e <;> cases e <;> rfl
        · cases e
      · cases e
    · cases e
end Go.Proofs.Ytailgcdcdhhpnaa
