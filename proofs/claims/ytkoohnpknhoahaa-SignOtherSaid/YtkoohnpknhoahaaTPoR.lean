/- This file proves the contracts of the program's and the reference's Times: they double and add. Conditions: points of so many words; bytes within their kind. -/
import Derived.Test.YtkoohnpknhoahaaTPoP
set_option linter.all false
namespace Go.Proofs.Ytkoohnpknhoahaa.Po
open Go Go.Sy Re Fe
abbrev cP (p : PP) : List SV := [FN p.1, FN p.2.1, FN p.2.2.1, FN p.2.2.2]
noncomputable def tiN (p : PP) (e : List Int) : Nat → PP
  | 0 => (z5, oneF, oneF, z5)
  | j + 1 => bif (bitI e (255 - j) == 1) then sumP (Lock dF) (sumP (Lock dF) (tiN p e j) (tiN p e j)) p else sumP (Lock dF) (tiN p e j) (tiN p e j)
noncomputable def tiC : Code := nthC 5 (bodyOf Try.f47)
def tiT : List (Option SV) := slotsOf 28 [(2, .ptr 0 0 0), (3, .ptr 1 0 0), (4, .ptr 2 0 0), (5, .ptr 3 0 0), (6, .ptr 4 0 0), (15, .fn (.func 138) [] [.ptr 5 0 0])]
noncomputable def tiB (e : List Int) (p o : PP) : List Blk := [.b (cP p), .b [.ints .u8 32 e], .b (cP zeroP), .b [FN (Lock dF)], .b (cP o), .b [.ints .u8 32 e]]
noncomputable def tiH (e : List Int) (p o : PP) (l : Nat) : List Blk := [.b (cP p), .b [.ints .u8 32 e], .b (cP zeroP), .b [FN (Lock dF)], .b (cP o), .b [.ints .u8 32 e], .g (some (rfL tiC tiT l))]
noncomputable def tiS (e : List Int) (p o : PP) (l : Nat) (i : Int) : St := ⟨slotsOf 20 [(0, .fn (.yield l) [] []), (1, .ptr 5 0 0), (3, .int .i64 i)], tiH e p o l, true⟩
noncomputable def tiK (x y : Bool) : Ctr := mk (P := Try.prog) [sumE] [] fun i => if i = 5 then some x else if i = 22 then some y else none
theorem tiK_ok (x y : Bool) : CtrSound Try.prog (tiK x y) := mk_sound _ InlOK.nil _ _
noncomputable def tiK0 : Ctr := mk (P := Try.prog) [wholeE, factorE, sumE, bitsE] []
theorem tiK0_ok : CtrSound Try.prog tiK0 := mk_sound _ InlOK.nil _ _
section
variable (e : List Int) (p o : PP) (l : Nat) (i : Int)
set_option maxRecDepth 100000 in
theorem ti_one : (exec Try.prog (tiK true true) 60 7 bitsLoop (tiS e p o l i)).bind (fun r => (r.2.cut [0, 1, 3] 7).map fun q => (r.1, q)) =
    some (.normal, ⟨(tiS e p o l (IntKind.i64.wrap (i - 1))).t, tiH e p (sumP (Lock dF) (sumP (Lock dF) o o) p) l, andT (bitO i) (andT (andT (andT (decide (l = l)) (decide (l = l))) (bitI e i == 1)) (decide (l = l)))⟩) := by kernel_rfl
set_option maxRecDepth 100000 in
theorem ti_zero : (exec Try.prog (tiK true false) 60 7 bitsLoop (tiS e p o l i)).bind (fun r => (r.2.cut [0, 1, 3] 7).map fun q => (r.1, q)) =
    some (.normal, ⟨(tiS e p o l (IntKind.i64.wrap (i - 1))).t, tiH e p (sumP (Lock dF) o o) l, andT (bitO i) (andT (andT (andT (decide (l = l)) (decide (l = l))) (!(bitI e i == 1))) (decide (l = l)))⟩) := by kernel_rfl
set_option maxRecDepth 100000 in
theorem ti_end : (exec Try.prog (tiK false false) 60 7 bitsLoop (tiS e p o l i)).bind (fun r => (r.2.cut [0, 1, 3] 7).map fun q => (r.1, q)) =
    some (.exit 0, ⟨(tiS e p o l i).t, tiH e p o l, andT true (!decide (i ≥ 0))⟩) := by kernel_rfl
set_option maxRecDepth 100000 in
theorem ti_first : (execL Try.prog (tiK false false) 60 7 1 (atoms (bodyOf Try.f138)) ⟨slots0 Try.f138.ntmps [.fn (.yield l) [] [], .ptr 5 0 0], tiH e p o l, true⟩).bind (St.cut [0, 1, 3] 7) = some (tiS e p o l 255) := by kernel_rfl
set_option maxRecDepth 100000 in
theorem ti_head : (execL Try.prog tiK0 60 0 5 (atoms (bodyOf Try.f47)) ⟨slots0 Try.f47.ntmps [svP p, .agg [.ints .u8 32 e]], [], true⟩).bind (St.cut [2, 3, 4, 5, 6, 15] 6) = some ⟨tiT, tiB e (wholeP p) (z5, oneF, oneF, z5), andT true (andT true (lenZ p))⟩ := by kernel_rfl
end
theorem ti_iter (e : List Int) (p : PP) (l : Nat) : FnTr Try.prog 138 [.fn (.yield l) [] [], .ptr 5 0 0] (tiH e p (z5, oneF, oneF, z5) l) (.tup []) (tiH e p (tiN p e 256) l) := by
  have hloop : Tr Try.prog none 7 (nthC 1 (bodyOf Try.f138)) (tiS e p (z5, oneF, oneF, z5) l 255) .normal (tiS e p (tiN p e 256) l (-1)) := by
    have key := Tr.loop (P := Try.prog) (ro := none) (k := 7) 0 (c := nthC 1 (bodyOf Try.f138)) (by kernel_rfl) (fun j : Nat => tiS e p (tiN p e j) l (255 - j)) 256 (s' := tiS e p (tiN p e 256) l (-1)) (fun j hj => ?_) ?_
    · exact key
    · have e1 : (255 : Int) - j - 1 = 255 - ((j + 1 : Nat) : Int) := by omega
      have hw : IntKind.i64.wrap (255 - (j : Int) - 1) = 255 - ((j + 1 : Nat) : Int) := by rw [wrap_i64 _ (by omega) (by omega), e1]
      have ho := bitO_iff (i := 255 - (j : Int)) (by omega) (by omega)
      cases hb : (bitI e (255 - (j : Int)) == 1) with
      | true =>
        have k := ti_one e p (tiN p e j) l (255 - j)
        rw [hw] at k
        refine Tr.post (Tr.cut (tiK_ok true true) 60 _ 7 (by omega) k (by simp only [andT_iff, ho, hb, decide_eq_true, and_self])) (Ent.same rfl ?_)
        show tiH _ _ _ _ = tiH _ _ _ _
        rw [tiN, hb]; rfl
      | false =>
        have k := ti_zero e p (tiN p e j) l (255 - j)
        rw [hw] at k
        refine Tr.post (Tr.cut (tiK_ok true false) 60 _ 7 (by omega) k (by simp only [andT_iff, ho, hb, decide_eq_true, and_self, Bool.not_false])) (Ent.same rfl ?_)
        show tiH _ _ _ _ = tiH _ _ _ _
        rw [tiN, hb]; rfl
    · have k := ti_end e p (tiN p e 256) l (-1)
      exact Tr.post (Tr.cut (tiK_ok false false) 60 _ 7 (by omega) k rfl) (Ent.same rfl rfl)
  refine FnTr.mk (vs := []) Try.func138 rfl (x := .normal) (s := tiS e p (tiN p e 256) l (-1)) ?_ (.inr rfl) (by kernel_rfl)
  refine TrL.items (tiK_ok false false) 60 1 _ 7 (by simp [tiH]) (ti_first e p (z5, oneF, oneF, z5) l) rfl (by decide) ?_
  exact TrL.item 1 (by decide) hloop ⟨rfl, rfl⟩
noncomputable def timesP (p : PP) (e : List Int) : PP := Lock (tiN (wholeP p) e 256)
theorem times_fn {p : PP} {e : List Int} (h : lenZ p = true) : FnTr Try.prog 47 [svP p, .agg [.ints .u8 32 e]] [] (svP (timesP p e)) [] := by
  rw [timesP, Lock_eq]
  refine FnTr.restM tiK0_ok 60 6 0 Try.func47 (by simp) rfl (fun s' x h' => ?_) (s := ⟨tiT, tiB e (wholeP p) (tiN (wholeP p) e 256) ++ [.gap], true⟩) (p := true) (by kernel_rfl) rfl rfl rfl
  refine TrL.items tiK0_ok 60 5 _ 6 (by simp) (ti_head e p) (by rw [h]; rfl) (by decide) ?_
  refine TrL.item 5 (by decide) ?_ h'
  exact Tr.rangeB 0 (by kernel_rfl) (f := 138) (first := []) (capt := [.ptr 5 0 0]) true Try.func138 (by decide) rfl (by kernel_rfl) (fun l => ti_iter e (wholeP p) l)
    (fun l => ⟨_, rfl, rfl, by simp [rfL], rfl⟩) (fun l => rfl)
noncomputable def timesEF : List SV → Option (SV × List Blk × Bool)
  | [.agg [.ints .u64 5 x, .ints .u64 5 y, .ints .u64 5 z, .ints .u64 5 t], .agg [.ints .u8 32 e]] => some (svP (timesP (x, y, z, t) e), [], lenZ (x, y, z, t))
  | _ => none
noncomputable def timesE : Entry Try.prog := .val 47 _ Try.func47 (by decide) rfl false 0 timesEF fun vs v new e => by
  unfold timesEF at e
  split at e
  · simp only [Option.some.injEq, Prod.mk.injEq] at e
    obtain ⟨rfl, rfl, h1⟩ := e
    exact times_fn h1
  · cases e
end Go.Proofs.Ytkoohnpknhoahaa.Po
