/- This file proves the contracts of field's Bits and Power: a range over a function. Conditions: none. -/
import Derived.Test.YtailgcdcdhhpnaaFeD
namespace Go.Proofs.Ytailgcdcdhhpnaa.Fe
open Go Go.Sy

/-! ### Bits -/
noncomputable def bitsEF : List SV → Option (SV × List Blk × Bool)
  | [.agg [.ints .u8 32 e]] => some (.fn (.func 74) [] [.ptr 0 0 0], [.b [.ints .u8 32 e]], true)
  | _ => none
set_option maxRecDepth 100000 in
noncomputable def bitsE : Entry Try.prog := .val 57 _ Try.func57 (by decide) rfl false 1 bitsEF fun vs v new e => by
  unfold bitsEF at e
  split at e
  · cases e
    exact callM ctr0 30 Try.func57 1 (by simp) (p := true) (by kernel_rfl) rfl rfl rfl
  · cases e

/-! ### Rounds over the bits -/
/-- The i-th bit of bytes. -/
def bitI (e : List Int) (i : Int) : Int := IntKind.i64.wrap (andI .u8 (shrI .u8 (e.getD (0 + (IntKind.i64.wrap (i.tdiv 8)).toNat) 0) (i.tmod 8).toNat) 1)
/-- What must hold where the i-th bit is read. -/
def bitO (i : Int) : Bool := andT (andT (andT (andT true (decide (i ≥ 0))) (inB (IntKind.i64.wrap (i.tdiv 8)) 32)) (decide (0 + (IntKind.i64.wrap (i.tdiv 8)).toNat < 32))) (decide (0 ≤ i.tmod 8))
theorem bitO_iff {i : Int} (h0 : 0 ≤ i) (h1 : i < 256) : bitO i = true := by
  have e : i.tdiv 8 = i / 8 := Int.tdiv_eq_ediv_of_nonneg h0
  have e2 : i.tmod 8 = i % 8 := Int.tmod_eq_emod_of_nonneg h0
  have w : IntKind.i64.wrap (i.tdiv 8) = i / 8 := by rw [e]; exact wrap_i64 _ (by omega) (by omega)
  unfold bitO inB
  rw [w, e2]
  simp only [andT_iff, Bool.and_eq_true, decide_eq_true_eq, true_and]
  omega
noncomputable def bitsLoop : Code := inner (inner (nthC 1 (bodyOf Try.f74)))

/-! ### Power -/
noncomputable def pwN (a e : List Int) : Nat → List Int
  | 0 => smallFe 1
  | j + 1 => bif (bitI e (255 - j) != 0) then mulFe (lst 5 (mulFe (lst 5 (pwN a e j)) (lst 5 (pwN a e j)))) (lst 5 a) else mulFe (lst 5 (pwN a e j)) (lst 5 (pwN a e j))
noncomputable def pwC : Code := nthC 3 (bodyOf Try.f71)
def pwT : List (Option SV) := slotsOf 19 [(2, .ptr 1 0 0), (4, .ptr 2 0 0), (5, .ptr 3 0 0), (8, .fn (.func 74) [] [.ptr 0 0 0])]
noncomputable def pwB (e a o : List Int) : List Blk := [.b [.ints .u8 32 e], .b [.ints .u64 5 a], .b [.ints .u64 5 z5], .b [.ints .u64 5 o]]
noncomputable def pwH (e a o : List Int) (l : Nat) : List Blk := [.b [.ints .u8 32 e], .b [.ints .u64 5 a], .b [.ints .u64 5 z5], .b [.ints .u64 5 o], .g (some (rfL pwC pwT l))]
noncomputable def pwS (e a o : List Int) (l : Nat) (i : Int) : St := ⟨slotsOf 20 [(0, .fn (.yield l) [] []), (1, .ptr 0 0 0), (3, .int .i64 i)], pwH e a o l, true⟩
theorem ctrPw (x y : Bool) : CtrSound Try.prog (mk [mulE, smallE] [] fun i => if i = 5 then some x else if i = 14 then some y else none) := mk_sound _ InlOK.nil _ _
theorem ctrPw0 : CtrSound Try.prog (mk [mulE, smallE] []) := mk_sound _ InlOK.nil _ _

section
variable (e a o : List Int) (l : Nat) (i : Int)
set_option maxRecDepth 100000 in
theorem pw_one : (exec Try.prog (mk [mulE, smallE] [] fun i => if i = 5 then some true else if i = 14 then some true else none) 60 5 bitsLoop (pwS e a o l i)).bind (fun r => (r.2.cut [0, 1, 3] 5).map fun q => (r.1, q)) =
    some (.normal, ⟨(pwS e a o l (IntKind.i64.wrap (i - 1))).t, pwH e a (mulFe (lst 5 (mulFe (lst 5 o) (lst 5 o))) (lst 5 a)) l, andT (bitO i) (andT (andT (andT (decide (l = l)) (decide (l = l))) (bitI e i != 0)) (decide (l = l)))⟩) := by kernel_rfl
set_option maxRecDepth 100000 in
theorem pw_zero : (exec Try.prog (mk [mulE, smallE] [] fun i => if i = 5 then some true else if i = 14 then some false else none) 60 5 bitsLoop (pwS e a o l i)).bind (fun r => (r.2.cut [0, 1, 3] 5).map fun q => (r.1, q)) =
    some (.normal, ⟨(pwS e a o l (IntKind.i64.wrap (i - 1))).t, pwH e a (mulFe (lst 5 o) (lst 5 o)) l, andT (bitO i) (andT (andT (andT (decide (l = l)) (decide (l = l))) (!(bitI e i != 0))) (decide (l = l)))⟩) := by kernel_rfl
set_option maxRecDepth 100000 in
theorem pw_end : (exec Try.prog (mk [mulE, smallE] [] fun i => if i = 5 then some false else if i = 14 then some false else none) 60 5 bitsLoop (pwS e a o l i)).bind (fun r => (r.2.cut [0, 1, 3] 5).map fun q => (r.1, q)) =
    some (.exit 0, ⟨(pwS e a o l i).t, pwH e a o l, andT true (!decide (i ≥ 0))⟩) := by kernel_rfl
set_option maxRecDepth 100000 in
theorem pw_first : (execL Try.prog (mk [mulE, smallE] []) 60 5 1 (atoms (bodyOf Try.f74)) ⟨slots0 Try.f74.ntmps [.fn (.yield l) [] [], .ptr 0 0 0], pwH e a o l, true⟩).bind (St.cut [0, 1, 3] 5) = some (pwS e a o l 255) := by kernel_rfl
set_option maxRecDepth 100000 in
theorem pw_head : (execL Try.prog (mk [mulE, smallE] []) 60 1 3 (atoms (bodyOf Try.f71)) ⟨slots0 Try.f71.ntmps [.agg [.ints .u64 5 a], .fn (.func 74) [] [.ptr 0 0 0]], [.b [.ints .u8 32 e]], true⟩).bind (St.cut [2, 4, 5, 8] 4) = some ⟨pwT, pwB e a (smallFe 1), true⟩ := by kernel_rfl
end

theorem pw_iter (e a : List Int) (l : Nat) : FnTr Try.prog 74 [.fn (.yield l) [] [], .ptr 0 0 0] (pwH e a (smallFe 1) l) (.tup []) (pwH e a (pwN a e 256) l) := by
  have hloop : Tr Try.prog none 5 (nthC 1 (bodyOf Try.f74)) (pwS e a (smallFe 1) l 255) .normal (pwS e a (pwN a e 256) l (-1)) := by
    have key := Tr.loop (P := Try.prog) (ro := none) (k := 5) 0 (c := nthC 1 (bodyOf Try.f74)) (by kernel_rfl) (fun j : Nat => pwS e a (pwN a e j) l (255 - j)) 256 (s' := pwS e a (pwN a e 256) l (-1)) (fun j hj => ?_) ?_
    · exact key
    · have e1 : (255 : Int) - j - 1 = 255 - ((j + 1 : Nat) : Int) := by omega
      have hw : IntKind.i64.wrap (255 - (j : Int) - 1) = 255 - ((j + 1 : Nat) : Int) := by rw [wrap_i64 _ (by omega) (by omega), e1]
      have ho := bitO_iff (i := 255 - (j : Int)) (by omega) (by omega)
      cases hb : (bitI e (255 - (j : Int)) != 0) with
      | true =>
        have k := pw_one e a (pwN a e j) l (255 - j)
        rw [hw] at k
        refine Tr.post (Tr.cut (ctrPw true true) 60 _ 5 (by omega) k (by simp [andT, ho, hb])) (Ent.same rfl ?_)
        show pwH _ _ _ _ = pwH _ _ _ _
        rw [pwN, hb]; rfl
      | false =>
        have k := pw_zero e a (pwN a e j) l (255 - j)
        rw [hw] at k
        refine Tr.post (Tr.cut (ctrPw true false) 60 _ 5 (by omega) k (by simp [andT, ho, hb])) (Ent.same rfl ?_)
        show pwH _ _ _ _ = pwH _ _ _ _
        rw [pwN, hb]; rfl
    · have k := pw_end e a (pwN a e 256) l (-1)
      exact Tr.post (Tr.cut (ctrPw false false) 60 _ 5 (by omega) k rfl) (Ent.same rfl rfl)
  refine FnTr.mk (vs := []) Try.func74 rfl (x := .normal) (s := pwS e a (pwN a e 256) l (-1)) ?_ (.inr rfl) (by kernel_rfl)
  refine TrL.items ctrPw0 60 1 _ 5 (by simp [pwH]) (pw_first e a (smallFe 1) l) rfl (by decide) ?_
  exact TrL.item 1 (by decide) hloop ⟨rfl, rfl⟩

noncomputable def powFe (a e : List Int) : List Int := Lock (pwN a e 256)
theorem pw_fn (e a : List Int) : FnTr Try.prog 71 [.agg [.ints .u64 5 a], .fn (.func 74) [] [.ptr 0 0 0]] [.b [.ints .u8 32 e]] (.agg [.ints .u64 5 (powFe a e)]) [.b [.ints .u8 32 e]] := by
  rw [powFe, Lock_eq]
  refine FnTr.restM ctrPw0 60 4 1 Try.func71 (by simp) rfl (fun s' x h => ?_) (s := ⟨pwT, pwB e a (pwN a e 256) ++ [.gap], true⟩) (p := true) (by kernel_rfl) rfl rfl rfl
  refine TrL.items ctrPw0 60 3 _ 4 (by simp) (pw_head e a) rfl (by decide) ?_
  refine TrL.item 3 (by decide) ?_ h
  exact Tr.rangeB 0 (by kernel_rfl) (f := 74) (first := []) (capt := [.ptr 0 0 0]) true Try.func74 (by decide) rfl (by kernel_rfl) (fun l => pw_iter e a l)
    (fun l => ⟨_, rfl, rfl, by simp [rfL], rfl⟩) (fun l => rfl)
end Go.Proofs.Ytailgcdcdhhpnaa.Fe
