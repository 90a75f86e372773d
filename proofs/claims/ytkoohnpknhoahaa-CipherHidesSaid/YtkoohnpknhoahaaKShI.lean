/- This file holds the texts ShH, ShI, a section each. No conditions beyond those in the theorems. -/
import Derived.Test.YtkoohnpknhoahaaKShG
set_option linter.all false
section
namespace Go.Proofs.Ytkoohnpknhoahaa.Sh
open Go Go.Sy
noncomputable def loC (x : Bool) : Ctr := mk (P := Try.prog) [concatE, paddedE, chunkE, longsE, beginE, wideE] [] fun i => if i = 9 then some x else none
theorem loC_ok (x : Bool) : CtrSound Try.prog (loC x) := mk_sound _ InlOK.nil _ _
noncomputable def lB : Code := bodyOf Try.f77
noncomputable def ckB : Code := bodyOf Try.f161
noncomputable def lC : Code := nthC 4 lB
def z64 : List Int := List.replicate 64 0
noncomputable def lT : List (Option SV) := slotsOf 45 [(2, .ptr 0 0 0), (4, .ptr 1 0 0), (5, .ptr 2 0 0), (18, .fn (.func 161) [] [.ptr 3 0 0, .ptr 4 0 0])]
noncomputable def lH (p kk st : List Int) (l : Nat) : List Blk := [.b [.ints .u8 64 z64], .b [.ints .u64 8 st], .b [.ints .u64 80 kk], .b [.ro false .u8 p], .b [.int .i64 128], .g (some (rfL lC lT l))]
noncomputable def lS (p kk st : List Int) (l : Nat) (i : Int) : St := ⟨slotsOf 31 [(0, .fn (.yield l) [] []), (1, .ptr 3 0 0), (2, .ptr 4 0 0), (4, .int .i64 i)], lH p kk st l, true⟩
def ckE (p : List Int) (i : Int) : Int := IntKind.i64.wrap (i + if ((p.drop i.toNat).length : Int) < 128 then ((p.drop i.toNat).length : Int) else 128)
def ckW (p : List Int) (i : Int) : List Int := (p.drop i.toNat).take ((ckE p i).toNat - i.toNat)
def ckO (p : List Int) (i : Int) (l : Nat) : Bool :=
  andT (andT (andT (andT true (decide (i < p.length))) (andT true (andT true (decide (0 ≤ i) && decide (i ≤ p.length)))))
    (andT (decide (0 ≤ ckE p i) && decide (ckE p i ≤ p.length)) (andT (decide (0 ≤ ckE p i) && decide (ckE p i ≤ (ckE p i).toNat)) (decide (0 ≤ i) && decide (i ≤ (ckE p i).toNat)))))
    (andT (andT (andT (decide (l = l)) (decide (l = l))) (andT true (decide ((ckW p i).length = 128)))) (decide (l = l)))
section
variable (p kk st : List Int) (l : Nat) (i : Int)
set_option maxRecDepth 100000 in
theorem ck_one : (exec Try.prog (loC true) 60 6 (inner (inner (nthC 1 ckB))) (lS p kk st l i)).bind (fun r => (r.2.cut [0, 1, 2, 4] 6).map fun q => (r.1, q)) =
    some (.normal, { lS p kk (wideW (lst 8 st) (ckW p i) kk) l (IntKind.i64.wrap (i + 128)) with ob := ckO p i l }) := by kernel_rfl
set_option maxRecDepth 100000 in
theorem ck_end : (exec Try.prog (loC false) 60 6 (inner (inner (nthC 1 ckB))) (lS p kk st l i)).bind (fun r => (r.2.cut [0, 1, 2, 4] 6).map fun q => (r.1, q)) =
    some (.exit 0, { lS p kk st l i with ob := andT true (!decide (i < p.length)) }) := by kernel_rfl
set_option maxRecDepth 100000 in
theorem ck_first : (execL Try.prog (loC true) 60 6 1 (atoms ckB) ⟨slots0 Try.f161.ntmps [.fn (.yield l) [] [], .ptr 3 0 0, .ptr 4 0 0], lH p kk st l, true⟩).bind (St.cut [0, 1, 2, 4] 6) = some (lS p kk st l 0) := by kernel_rfl
end
noncomputable def stN (p kk st : List Int) : Nat → List Int
  | 0 => st
  | j + 1 => wideW (lst 8 (stN p kk st j)) ((p.drop (128 * j)).take 128) kk
theorem wideW_len (s p k : List Int) : (wideW s p k).length = 8 := by rw [wideW, Lock_eq]; simp [sumW]
theorem stN_len {p kk st : List Int} (h : st.length = 8) : ∀ j, (stN p kk st j).length = 8
  | 0 => h
  | _ + 1 => wideW_len _ _ _
theorem ck_eq {p : List Int} {N j : Nat} (hp : p.length = 128 * N) (hj : j < N) (hb : N < 10000000000) (l : Nat) : ckW p (128 * j : Nat) = (p.drop (128 * j)).take 128 ∧ ckO p (128 * j : Nat) l = true := by
  have hd : (p.drop (128 * j)).length = 128 * N - 128 * j := by rw [List.length_drop, hp]
  have he : ckE p (128 * j : Nat) = ((128 * j + 128 : Nat) : Int) := by
    unfold ckE
    rw [Int.toNat_natCast, hd, if_neg (by omega), wrap_i64 _ (by omega) (by omega)]; omega
  have hw : ckW p (128 * j : Nat) = (p.drop (128 * j)).take 128 := by
    unfold ckW
    rw [he, Int.toNat_natCast, Int.toNat_natCast, Nat.add_sub_cancel_left]
  refine ⟨hw, ?_⟩
  have hl : ((p.drop (128 * j)).take 128).length = 128 := by rw [List.length_take, hd]; omega
  unfold ckO
  rw [hw, he, hl]
  simp only [andT_iff, Bool.and_eq_true, decide_eq_true_eq, true_and, and_true, Int.toNat_natCast, hp]
  repeat' apply And.intro
  all_goals omega
theorem ck_iter {p : List Int} {N : Nat} (hp : p.length = 128 * N) (hb : N < 10000000000) (kk st : List Int) (l : Nat) :
    FnTr Try.prog 161 [.fn (.yield l) [] [], .ptr 3 0 0, .ptr 4 0 0] (lH p kk st l) (.tup []) (lH p kk (stN p kk st N) l) := by
  have hloop : Tr Try.prog none 6 (nthC 1 ckB) (lS p kk st l 0) .normal (lS p kk (stN p kk st N) l (128 * N : Nat)) := by
    have key := Tr.loop (P := Try.prog) (ro := none) (k := 6) 0 (c := nthC 1 ckB) (by kernel_rfl) (fun j : Nat => lS p kk (stN p kk st j) l (128 * j : Nat)) N (s' := lS p kk (stN p kk st N) l (128 * N : Nat)) (fun j hj => ?_) ?_
    · exact key
    · obtain ⟨h1, h2⟩ := ck_eq hp hj hb l
      have k := ck_one p kk (stN p kk st j) l (128 * j : Nat)
      rw [h1, h2, wrap_i64 _ (by omega) (by omega)] at k
      refine Tr.post (Tr.cut (loC_ok true) 60 _ 6 (by omega) k rfl) (Ent.same ?_ rfl)
      show (lS p kk st l _).t = (lS p kk st l _).t
      rw [show ((128 * j : Nat) : Int) + 128 = ((128 * (j + 1) : Nat) : Int) by omega]
    · have k := ck_end p kk (stN p kk st N) l (128 * N : Nat)
      exact Tr.post (Tr.cut (loC_ok false) 60 _ 6 (by omega) k (by rw [hp]; simp [andT])) (Ent.same rfl rfl)
  refine FnTr.mk (vs := []) Try.func161 rfl (x := .normal) (s := lS p kk (stN p kk st N) l (128 * N : Nat)) ?_ (.inr rfl) (by kernel_rfl)
  refine TrL.items (loC_ok true) 60 1 _ 6 (by simp [lH]) (ck_first p kk st l) rfl (by decide) ?_
  exact TrL.item 1 (by decide) hloop ⟨rfl, rfl⟩
def outB (s : List Int) : List Int := (List.range 64).map fun i => IntKind.u8.wrap (shrI .u64 (s.getD (i / 8) 0) (56 - 8 * (i % 8)))
def padT (xs : List Int) : List Int := padL xs 128 112 ++ len16 xs.length
end Go.Proofs.Ytkoohnpknhoahaa.Sh
end
section
namespace Go.Sy
open Go
variable {P : Program}
theorem Ent.nothing {k : Nat} {t : List (Option SV)} {h : List Blk} {o o' : Bool} (i : Nat) (K : IntKind) (ex wh : Bool) (hi : t[i]? = some (some (.nl (.slice none 0 0)))) :
    Ent k ⟨t, h, o⟩ ⟨t.set i (some (.sl h.length 0 0 1 0 0 ex wh)), h ++ [.b [.ints K 0 []]], o'⟩ := fun B e w t' _ hl R => ⟨e, rfl, ⟨by simpa using hl.1, fun j v v' a c => by
    rw [List.getElem?_set] at a
    split at a
    · rename_i q
      subst q
      split at a
      · simp only [Option.some.injEq] at a
        subst a
        have h1 : v' = .slice none 0 0 := hl.2 _ _ v' hi c
        exact .inl ⟨rfl, rfl, none, h1⟩
      · cases a
    · exact hl.2 j v v' a c⟩, by
    have := R.nothing (j := h.length) (ps := [.ints K 0 []]) (.inl rfl) rfl
    unfold placeH at this
    rw [if_pos rfl] at this
    exact this⟩
end Go.Sy
namespace Go.Proofs.Ytkoohnpknhoahaa.Sh
open Go Go.Sy
end Go.Proofs.Ytkoohnpknhoahaa.Sh
end
