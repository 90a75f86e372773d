/- This file proves the contracts of a sum's add and end. Conditions: words within their kind; pieces of 16 bytes at most. -/
import Derived.Test.YtkoohnpknhoahaaJAeB
set_option linter.all false
namespace Go.Proofs.Ytkoohnpknhoahaa.Ae
open Go Go.Sy
def bW (p : List Int) : List Int := (spl (List.replicate 17 0) 0 p (Nat.min p.length 17)).set (0 + (p.length : Int).toNat) 1
def bH (p : List Int) : List Int := ((bW p).drop 8).take 9
noncomputable def addH (h p : List Int) : List Int := [Fe.addS (g h 0) (lowW (bW p)) 0, Fe.addS (g h 1) (lowW (bH p)) (Fe.addC (g h 0) (lowW (bW p)) 0), W (g h 2 + W (W ((bW p).getD 16 0) + Fe.addC (g h 1) (lowW (bH p)) (Fe.addC (g h 0) (lowW (bW p)) 0)))]
noncomputable def addC0 : Ctr := mk (P := Try.prog) [Fe.add64E, lowE, timesE] []
theorem addC0_ok : CtrSound Try.prog addC0 := mk_sound _ InlOK.nil _ _
noncomputable def addO (h p : List Int) : Bool :=
  let L := p.length
  let b0 := spl (List.replicate 17 0) 0 p (Nat.min L 17)
  let o1 := andT (andT (andT true (andT true (true && decide (0 + Nat.min L 17 ≤ 17) && decide (Nat.min L 17 ≤ L)))) (inB (L : Int) 17)) (decide (0 + (L : Int).toNat < 17) && decide (b0.length = 17))
  let o2 := andT o1 (andT (andT (decide ((bW p).length = 17) && true) (decide ((bW p).length = 17))) (decide (8 ≤ (bW p).length)))
  let o3 := andT o2 (andT (andT (true && decide (17 ≤ (bW p).length)) (decide ((bH p).length = 9))) (decide (8 ≤ (bH p).length)))
  andT (andT o3 (Fe.carry1 (Fe.addC (g h 0) (lowW (bW p)) 0))) (andT true (decide (3 = 3)))
theorem bW_len {p : List Int} (hp : p.length ≤ 16) : (spl (List.replicate 17 0) 0 p (Nat.min p.length 17)).length = 17 ∧ (bW p).length = 17 ∧ (bH p).length = 9 := by
  have e : Nat.min p.length 17 = p.length := Nat.min_eq_left (by omega)
  have h1 : (spl (List.replicate 17 (0 : Int)) 0 p (Nat.min p.length 17)).length = 17 := spl_length (by simp) (by rw [e]; omega) (by rw [e]; exact Nat.le_refl _)
  have h2 : (bW p).length = 17 := by unfold bW; rw [List.length_set]; exact h1
  exact ⟨h1, h2, by unfold bH; rw [List.length_take, List.length_drop, h2]; rfl⟩
theorem addO_true {h p : List Int} (h0 : R (g h 0)) (hp : p.length ≤ 16) : addO h p = true := by
  obtain ⟨h1, h2, h3⟩ := bW_len hp
  have e : Nat.min p.length 17 = p.length := Nat.min_eq_left (by omega)
  have hi : inB (p.length : Int) 17 = true := by
    unfold inB
    simp only [Bool.and_eq_true, decide_eq_true_eq]
    omega
  unfold addO
  simp only [h1, h2, h3, hi, carry_ok h0 (lowW_R _)]
  rw [e, decide_eq_true (show 0 + p.length ≤ 17 by omega), decide_eq_true (Nat.le_refl _), decide_eq_true (show 0 + (p.length : Int).toNat < 17 by omega)]
  rfl
noncomputable def addW (h p : List Int) (r s : Int) : List Int := timesW (addH h p) r s
set_option maxRecDepth 100000 in
theorem add_fn {h p : List Int} (r s : Int) (hl : h.length = 3) (h0 : R (g h 0)) (hp : p.length ≤ 16) : FnTr Try.prog 172 [.ptr 0 0 0, .ro false .u8 p] [su h r s] (.tup []) [su (addW h p r s) r s] := by
  have k : FnTr Try.prog 172 [.ptr 0 0 0, .ro false .u8 p] [su (lst 3 h) r s] (.tup []) [su (addW (lst 3 h) p r s) r s] :=
    callM addC0_ok 60 Try.func172 1 (by simp) (p := addO (lst 3 h) p) (by kernel_rfl) (addO_true (by rw [lst_eq hl]; exact h0) hp) rfl rfl
  rw [lst_eq hl] at k
  exact k
theorem addW_R (h p : List Int) (r s : Int) : (addW h p r s).length = 3 ∧ ∀ i, R (g (addW h p r s) i) := timesW_R _ _ _
noncomputable def addF : List SV → List Blk → Option (SV × List Blk × Bool)
  | [.ptr 0 0 0, .ro false .u8 p], [.b [.ints .u64 3 h, .int .u64 r, .int .u64 s]] => some (.tup [], [su (addW h p r s) r s], decide (h.length = 3) && Fe.u64 (g h 0) && decide (p.length ≤ 16))
  | _, _ => none
noncomputable def addE : Entry Try.prog := .mut 172 _ Try.func172 (by decide) rfl pickT 0 addF fun vs h0 v h1 e => by
  unfold addF at e
  split at e
  · simp only [Option.some.injEq, Prod.mk.injEq, Bool.and_eq_true, decide_eq_true_eq] at e
    obtain ⟨rfl, rfl, ⟨h1, h2⟩, h3⟩ := e
    exact add_fn _ _ h1 (Fe.u64_iff.1 h2) h3
  · cases e
noncomputable def enT (l : List Int) : Int := W (g l 2 + Fe.addC (g l 1) 0 (Fe.addC (g l 0) 5 0))
noncomputable def enA (l : List Int) : List Int := [Fe.addS (g l 0) 5 0, Fe.addS (g l 1) 0 (Fe.addC (g l 0) 5 0), W (enT l - 4)]
noncomputable def enR (l : List Int) : List Int := if enT l ≥ 4 then enA l else l
noncomputable def enC (a : Bool) : Ctr := mk (P := Try.prog) [Fe.add64E, lowE, putE, Sh.concatE] [] fun i => if i = 38 then some a else none
theorem enC_ok (a : Bool) : CtrSound Try.prog (enC a) := mk_sound _ InlOK.nil _ _
noncomputable def enB : Code := bodyOf Try.f173
noncomputable def enS (h key l : List Int) (r s i : Int) : St := ⟨slotsOf 71 [(3, .ptr 1 0 0), (4, .ptr 2 0 0), (5, .ptr 3 0 0), (18, .int .i64 i)], [su h r s, .b [.ints .u8 32 key], .b [.ints .u8 16 (List.replicate 16 0)], .b [.ints .u64 3 (lst 3 l)]], true⟩
def k16 (key : List Int) : List Int := (key.drop 16).take 16
def k24 (key : List Int) : List Int := (key.drop 24).take 8
noncomputable def enW (l key : List Int) : List Int := putW (Fe.addS (g l 0) (lowW (k16 key)) 0) ++ putW (Fe.addS (g l 1) (lowW (k24 key)) (Fe.addC (g l 0) (lowW (k16 key)) 0))
noncomputable def enO (l key : List Int) : Bool := andT (andT (andT true (andT (andT (true && decide (32 ≤ key.length)) (decide ((k16 key).length = 16))) (decide (8 ≤ (k16 key).length)))) (andT (andT (true && decide (32 ≤ key.length)) (decide ((k24 key).length = 8))) (decide (8 ≤ (k24 key).length)))) (Fe.carry1 (Fe.addC (g l 0) (lowW (k16 key)) 0))
section
variable (h key l : List Int) (r s : Int)
set_option maxRecDepth 100000 in
theorem en_head : (execL Try.prog (enC true) 60 1 3 (atoms enB) ⟨slots0 Try.f173.ntmps [.ptr 0 0 0, .agg [.ints .u8 32 key]], [su (lst 3 h) r s], true⟩).bind (St.cut [3, 4, 5, 18] 4) = some (enS (lst 3 h) key h r s 0) := by kernel_rfl
set_option maxRecDepth 100000 in
theorem en_t0 : (exec Try.prog (enC true) 60 1 (inner (inner (nthC 3 enB))) (enS h key l r s 0)).bind (fun r => (r.2.cut [3, 4, 5, 18] 4).map fun q => (r.1, q)) =
    some (.normal, { enS h key (enA (lst 3 l)) r s 1 with ob := andT (andT true (Fe.carry1 (Fe.addC (g (lst 3 l) 0) 5 0))) (decide (enT (lst 3 l) ≥ 4)) }) := by kernel_rfl
set_option maxRecDepth 100000 in
theorem en_f0 : (exec Try.prog (enC false) 60 1 (inner (inner (nthC 3 enB))) (enS h key l r s 0)).bind (fun r => (r.2.cut [3, 4, 5, 18] 4).map fun q => (r.1, q)) =
    some (.normal, { enS h key l r s 1 with ob := andT (andT true (Fe.carry1 (Fe.addC (g (lst 3 l) 0) 5 0))) (!decide (enT (lst 3 l) ≥ 4)) }) := by kernel_rfl
set_option maxRecDepth 100000 in
theorem en_t1 : (exec Try.prog (enC true) 60 1 (inner (inner (nthC 3 enB))) (enS h key l r s 1)).bind (fun r => (r.2.cut [3, 4, 5, 18] 4).map fun q => (r.1, q)) =
    some (.normal, { enS h key (enA (lst 3 l)) r s 2 with ob := andT (andT true (Fe.carry1 (Fe.addC (g (lst 3 l) 0) 5 0))) (decide (enT (lst 3 l) ≥ 4)) }) := by kernel_rfl
set_option maxRecDepth 100000 in
theorem en_f1 : (exec Try.prog (enC false) 60 1 (inner (inner (nthC 3 enB))) (enS h key l r s 1)).bind (fun r => (r.2.cut [3, 4, 5, 18] 4).map fun q => (r.1, q)) =
    some (.normal, { enS h key l r s 2 with ob := andT (andT true (Fe.carry1 (Fe.addC (g (lst 3 l) 0) 5 0))) (!decide (enT (lst 3 l) ≥ 4)) }) := by kernel_rfl
set_option maxRecDepth 100000 in
theorem en_end : (exec Try.prog (enC true) 60 1 (inner (inner (nthC 3 enB))) (enS h key l r s 2)).bind (fun r => (r.2.cut [3, 4, 5, 18] 4).map fun q => (r.1, q)) =
    some (.exit 0, enS h key l r s 2) := by kernel_rfl
end
theorem five_R : R 5 := ⟨by decide, by decide⟩
theorem enA_R (l : List Int) : ∀ i, R (g (enA l) i) := fun i => by
  match i with
  | 0 => exact addS_R _ _ _
  | 1 => exact addS_R _ _ _
  | 2 => exact W_R _
  | n + 3 => exact zero_R
theorem enR_R {l : List Int} (hl : l.length = 3) (h : ∀ i, R (g l i)) : (enR l).length = 3 ∧ ∀ i, R (g (enR l) i) := by
  unfold enR
  split
  · exact ⟨rfl, enA_R l⟩
  · exact ⟨hl, h⟩
theorem en_one0 (h key : List Int) {l : List Int} (r s : Int) (hl : l.length = 3) (h0 : R (g l 0)) : Tr Try.prog none 1 (inner (inner (nthC 3 enB))) (enS h key l r s 0) .normal (enS h key (enR l) r s 1) := by
  have e := lst_eq hl
  unfold enR
  split
  · rename_i ht
    have k := en_t0 h key l r s
    rw [e, carry_ok h0 five_R, decide_eq_true ht] at k
    exact Tr.post (Tr.cut (enC_ok true) 60 _ 4 (by omega) k rfl) (Ent.same rfl rfl)
  · rename_i ht
    have k := en_f0 h key l r s
    rw [e, carry_ok h0 five_R, decide_eq_false ht] at k
    exact Tr.post (Tr.cut (enC_ok false) 60 _ 4 (by omega) k rfl) (Ent.same rfl rfl)
theorem en_one1 (h key : List Int) {l : List Int} (r s : Int) (hl : l.length = 3) (h0 : R (g l 0)) : Tr Try.prog none 1 (inner (inner (nthC 3 enB))) (enS h key l r s 1) .normal (enS h key (enR l) r s 2) := by
  have e := lst_eq hl
  unfold enR
  split
  · rename_i ht
    have k := en_t1 h key l r s
    rw [e, carry_ok h0 five_R, decide_eq_true ht] at k
    exact Tr.post (Tr.cut (enC_ok true) 60 _ 4 (by omega) k rfl) (Ent.same rfl rfl)
  · rename_i ht
    have k := en_f1 h key l r s
    rw [e, carry_ok h0 five_R, decide_eq_false ht] at k
    exact Tr.post (Tr.cut (enC_ok false) 60 _ 4 (by omega) k rfl) (Ent.same rfl rfl)
noncomputable def endW (h key : List Int) : List Int := enW (enR (enR h)) key
set_option maxRecDepth 100000 in
theorem end_fn {h key : List Int} (r s : Int) (hl : h.length = 3) (hh : ∀ i, R (g h i)) (hk : key.length = 32) : FnTr Try.prog 173 [.ptr 0 0 0, .agg [.ints .u8 32 key]] [su h r s] (.agg [.ints .u8 16 (endW h key)]) [su h r s] := by
  obtain ⟨l1, r1⟩ := enR_R hl hh
  obtain ⟨l2, r2⟩ := enR_R l1 r1
  have hloop : Tr Try.prog none 1 (nthC 3 enB) (enS (lst 3 h) key h r s 0) .normal (enS (lst 3 h) key (enR (enR h)) r s 2) :=
    Tr.loopR 0 (by kernel_rfl) (TrR.step (en_one0 _ key r s hl (hh 0)) (TrR.step (en_one1 _ key r s l1 (r1 0)) (TrR.leave (Tr.cut (enC_ok true) 60 _ 4 (by omega) (en_end (lst 3 h) key (enR (enR h)) r s) rfl) (by simp))))
  have k : FnTr Try.prog 173 [.ptr 0 0 0, .agg [.ints .u8 32 key]] [su (lst 3 h) r s] (.agg [.ints .u8 16 (enW (lst 3 (enR (enR h))) key)]) [su (lst 3 h) r s] := by
    refine FnTr.restM (enC_ok true) 60 4 1 Try.func173 (by simp) rfl (fun s' x hx => ?_) (s := enS (lst 3 h) key (enR (enR h)) r s 2) (p := enO (lst 3 (enR (enR h))) key) ?_ ?_ rfl rfl
    · refine TrL.items (enC_ok true) 60 3 _ 4 (by simp) (en_head h key r s) rfl (by decide) ?_
      exact TrL.item 3 (by decide) hloop hx
    · generalize enR (enR h) = l
      kernel_rfl
    · unfold enO k16 k24
      rw [lst_eq l2, carry_ok (r2 0) (lowW_R _)]
      simp [hk, andT]
  rw [lst_eq hl, lst_eq l2] at k
  exact k
noncomputable def endF : List SV → List Blk → Option (SV × Bool)
  | [.ptr 0 0 0, .agg [.ints .u8 32 key]], [.b [.ints .u64 3 h, .int .u64 r, .int .u64 s]] => some (.agg [.ints .u8 16 (endW h key)], decide (h.length = 3) && Fe.u64 (g h 0) && Fe.u64 (g h 1) && Fe.u64 (g h 2) && decide (key.length = 32))
  | _, _ => none
def pickU (vs : List SV) : List Nat := match vs with
  | .ptr b _ _ :: _ => [b]
  | _ => []
noncomputable def endE : Entry Try.prog := .rdm 173 _ Try.func173 (by decide) rfl pickU endF fun vs h0 v e => by
  unfold endF at e
  split at e
  · rename_i key h r s
    simp only [Option.some.injEq, Prod.mk.injEq, Bool.and_eq_true, decide_eq_true_eq] at e
    obtain ⟨rfl, ⟨⟨⟨h1, h2⟩, h3⟩, h4⟩, h5⟩ := e
    refine end_fn _ _ h1 (fun i => ?_) h5
    match i with
    | 0 => exact Fe.u64_iff.1 h2
    | 1 => exact Fe.u64_iff.1 h3
    | 2 => exact Fe.u64_iff.1 h4
    | n + 3 =>
      have : g h (n + 3) = 0 := by
        unfold g
        rw [List.getD_eq_getElem?_getD, List.getElem?_eq_none (by omega)]; rfl
      rw [this]; exact zero_R
  · cases e
end Go.Proofs.Ytkoohnpknhoahaa.Ae
