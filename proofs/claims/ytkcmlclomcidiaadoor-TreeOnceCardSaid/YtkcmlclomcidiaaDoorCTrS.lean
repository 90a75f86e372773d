/- This file holds the texts TrR, TrS, a section each. No conditions beyond those in the theorems. -/
import Derived.Test.YtkcmlclomcidiaaDoorCTrQ
set_option linter.all false
set_option maxRecDepth 100000
section
namespace Go.Sy
open Go
section
variable {P : Program} {ro : Option Nat} {k : Nat}
abbrev HT : HP := fun _ _ _ => True
theorem OX.run0 {Γ : Ctr} (hΓ : CtrSound P Γ) (n : Nat) (live : List Nat) (m : Nat) (hm : k ≤ m) {ops : Array Oper} {is : List Nat} {s s' : St} (ob : Bool)
    (e : resX (cutR live m ((runOps P (callG P Γ fun k => Sy.exec P Γ n k) Γ.sym Γ.inp k ops is s).map fun s => (Exit.normal, s))) = some (.normal, s'.t, s'.h)) (hob : obX (cutR live m ((runOps P (callG P Γ fun k => Sy.exec P Γ n k) Γ.sym Γ.inp k ops is s).map fun s => (Exit.normal, s))) = ob) (h : ob = true) : OX P ro k ops is s HT s' HT := by
  unfold resX cutR at e
  unfold obX cutR at hob
  cases hr : runOps P (callG P Γ fun k => Sy.exec P Γ n k) Γ.sym Γ.inp k ops is s with
  | none => rw [hr] at e; cases e
  | some q =>
    rw [hr] at e hob
    simp only [Option.map_some, Option.bind_some] at e hob
    cases hc : q.cut live m with
    | none => rw [hc] at e; cases e
    | some q2 =>
      rw [hc] at e hob
      simp only [Option.map_some, Option.some.injEq, Prod.mk.injEq, true_and] at e hob
      obtain ⟨h1, h2⟩ := e
      have hq : q.ob = true := by
        unfold St.cut St.trunc at hc
        split at hc
        · cases hc; exact hob.trans h
        · cases hc
      refine OX.ent (fun _ _ _ _ h => h) (s1 := q) ?_ ((Ent.cut hm hc).trans (Ent.same h1 h2))
      intro B e w t' d Q nn rest hB hl R _ hQ
      refine runOps_rest (callG_sound hΓ fun ro k => (exec_sound hΓ n ro k).1) is s q hr hq (B := B) (e := e) (d := mkD e.m ++ d) (fun i p hi => Nat.lt_of_lt_of_le (R.kr i p hi) hB) hl R fun e' w' t'' hm' hl' R' => ?_
      rw [← hm']
      exact hQ e' w' t'' hl' R' trivial
theorem Rel.setSame {e : Env} {B : Base} {h : List Blk} {w : World} (R : Rel B e h w) {b : Nat} {ps ps' : List SV} (hb : h[b]? = some (.b ps)) (q : ∀ p o, e.r b = some p → w.heap[p.n]? = some o → BR e p ps o → BR e p ps' o) (h0 : psize ps = 0 → psize ps' = 0) : Rel B e (h.set b (.b ps')) w := by
  have hlt := (List.getElem?_eq_some_iff.1 hb).1
  exact {
    os := R.os, tape := R.tape, output := R.output, size := R.size, inj := R.inj, dom := fun i p hi => by simpa using R.dom i p hi, sep := R.sep, zok := R.zok, zfresh := R.zfresh, glb := R.glb, news := R.news, keepr := R.keepr, keepz := R.keepz, n0 := R.n0, n0le := R.n0le
    blk := fun i qs hi => by
      by_cases hbi : b = i
      · subst hbi
        rw [List.getElem?_set_self hlt] at hi; cases hi
        rcases R.blk b ps hb with ⟨g1, g2⟩ | ⟨p, o, g1, g2, g3⟩
        · exact .inl ⟨h0 g1, g2⟩
        · exact .inr ⟨p, o, g1, g2, q p o g1 g2 g3⟩
      · rw [List.getElem?_set_ne hbi] at hi; exact R.blk i qs hi
    gap := fun i g hi => by
      by_cases hbi : b = i
      · subst hbi; rw [List.getElem?_set_self hlt] at hi; cases hi
      · rw [List.getElem?_set_ne hbi] at hi; exact R.gap i g hi
    yi := R.yi, yb := R.yb, old := R.old, win := R.win, kr := R.kr, kle := by simpa using R.kle, mks := R.mks, mnd := R.mnd }
theorem OX.opaque {ops : Array Oper} {is : List Nat} {s s' : St} {H H' : HP} (c : Nat) (v : SV) (hv : notInts v = true) (hv2 : psize [v] = 1) (hc : s.h[c]? = some (.b [v])) (g : ∀ v0, OX P ro k ops is ⟨s.t, s.h.set c (.b [.nl v0]), s.ob⟩ H s' H') : OX P ro k ops is s H s' H' := by
  intro B e w t' d Q nn rest hB hl R hh hQ
  rcases R.blk c _ hc with ⟨g1, _⟩ | ⟨p, o, g1, g2, g3⟩
  · rw [hv2] at g1; cases g1
  · obtain ⟨cc, ty, rfl, h4, h5, h6⟩ := g3
    obtain ⟨v0, zs, q1, q2, q3⟩ := (PR.cons hv).1 h6
    refine g v0 B e w t' d Q nn rest hB hl (R.setSame hc (fun p' o' e1 e2 _ => ?_) (fun q => by rw [hv2] at q; cases q)) hh hQ
    rw [g1] at e1
    cases e1
    rw [g2] at e2
    cases e2
    refine ⟨cc, ty, rfl, h4, by rw [hv2] at h5; exact h5, ?_⟩
    rw [hv2] at q3
    show PR e [.nl v0] ((cc.toList.drop p.base).take 1)
    rw [q3]
    exact (PR.cons rfl).2 ⟨v0, zs, rfl, q2, rfl⟩
end
end Go.Sy
namespace Go.Proofs.YtkcmlclomcidiaaDoor.Tr
open Go Go.Sy
noncomputable def pathE : Entry Tryd.prog := .val 48 _ Tryd.func48 (by decide) rfl false 2 (fun vs => match vs with
  | [.int .i64 x, .int .i64 n] => some (.fn (.func 65) [] [.ptr 0 0 0, .ptr 1 0 0], [.b [.int .i64 x], .b [.int .i64 n]], true)
  | _ => none) fun vs v new e => by
  split at e
  · simp only [Option.some.injEq, Prod.mk.injEq] at e
    obtain ⟨rfl, rfl, _⟩ := e
    exact FnTr.of_callS noC_ok Tryd.func48 (n := 60) (by kernel_rfl)
  · cases e
noncomputable def adC (l : List (Nat × Bool)) : Ctr := mk (P := Tryd.prog) [checkE true, leafE true, findE, copyE, leavesE, pathE, parentE] [] (uT l)
theorem adC_ok (l : List (Nat × Bool)) : CtrSound Tryd.prog (adC l) := mk_sound _ InlOK.nil _ _
noncomputable def adB : Code := bodyOf Tryd.f18
noncomputable def adH (N : Nat) (t : Nat → Nod) (n : Nod) (x : Int) : List Blk := [.b n.cells, .b [.rows 99 N (tng t)], .b [.rsl 1 99 N N false], .b [.int .i64 x]]
noncomputable def adS (N : Nat) (t : Nat → Nod) (n : Nod) (x : Int) : St := ⟨slotsOf 95 [(3, .ptr 0 0 0), (7, .ptr 2 0 0), (8, .ptr 3 0 0)], adH N t n x, true⟩
def zeroN : Nod := ⟨false, 0, List.replicate 32 0, List.replicate 32 0, List.replicate 32 0, []⟩
theorem ad_head (N : Nat) (t : Nat → Nod) (n : Nod) : resX (cutR [3, 7, 8] 4 ((execL Tryd.prog (adC [(25, false)]) 60 0 4 (atoms adB) ⟨slots0 Tryd.f18.ntmps [.rol false 99 N (tng t), .agg n.cells], [], true⟩).map fun s => (Exit.normal, s))) = some (.normal, (adS N t n 0).t, [.b n.cells, .b [.rows 99 N (tng (treeOf fun i => coolL (tng t i)))], .b [.rsl 1 99 N N false], .b [.int .i64 0]]) := by kernel_rfl
theorem ad_head' (N : Nat) (t : Nat → Nod) (n : Nod) : obX (cutR [3, 7, 8] 4 ((execL Tryd.prog (adC [(25, false)]) 60 0 4 (atoms adB) ⟨slots0 Tryd.f18.ntmps [.rol false 99 N (tng t), .agg n.cells], [], true⟩).map fun s => (Exit.normal, s))) = (andT (andT (andT (andT (andT true (andT true ((okT N fun i => coolL (tng t i)) && decide (N ≤ 71) && checkB N (treeOf fun i => coolL (tng t i)) == true))) (andT true (lfB n.used n.name n.un == true))) (andT true ((okT N fun i => coolL (tng t i)) && decide (N ≤ 71)))) !decide ((bif checkB N (treeOf fun i => coolL (tng t i)) then findV N (treeOf fun i => coolL (tng t i)) n.name else -1) ≥ 0)) (andT true ((okT N fun i => coolL (tng t i)) && decide (N ≤ 71)))) := by kernel_rfl
theorem ad_go (N : Nat) (t : Nat → Nod) (n : Nod) (x : Int) : resX (cutR [3, 7, 8] 4 (exec Tryd.prog (adC [(32, true), (38, true)]) 60 0 (inner (inner (nthC 4 adB))) (adS N t n x))) = some (.normal, (adS N t n (IntKind.i64.wrap (x + 2))).t, adH N t n (IntKind.i64.wrap (x + 2))) := by kernel_rfl
theorem ad_go' (N : Nat) (t : Nat → Nod) (n : Nod) (x : Int) : obX (cutR [3, 7, 8] 4 (exec Tryd.prog (adC [(32, true), (38, true)]) 60 0 (inner (inner (nthC 4 adB))) (adS N t n x))) = (andT (andT (andT (andT true (decide (x < ((N : Nat) : Int)))) (inB x N)) (true && (decide (x.toNat < N) && true))) (t x.toNat).1) := by kernel_rfl
theorem ad_e1 (N : Nat) (t : Nat → Nod) (n : Nod) (x : Int) : resX (cutR [3, 7, 8] 4 (exec Tryd.prog (adC [(32, false)]) 60 0 (inner (inner (nthC 4 adB))) (adS N t n x))) = some (.exit 1, (adS N t n x).t, adH N t n x) := by kernel_rfl
theorem ad_e1' (N : Nat) (t : Nat → Nod) (n : Nod) (x : Int) : obX (cutR [3, 7, 8] 4 (exec Tryd.prog (adC [(32, false)]) 60 0 (inner (inner (nthC 4 adB))) (adS N t n x))) = (andT true !decide (x < ((N : Nat) : Int))) := by kernel_rfl
theorem ad_e2 (N : Nat) (t : Nat → Nod) (n : Nod) (x : Int) : resX (cutR [3, 7, 8] 4 (exec Tryd.prog (adC [(32, true), (38, false)]) 60 0 (inner (inner (nthC 4 adB))) (adS N t n x))) = some (.exit 1, (adS N t n x).t, adH N t n x) := by kernel_rfl
theorem ad_e2' (N : Nat) (t : Nat → Nod) (n : Nod) (x : Int) : obX (cutR [3, 7, 8] 4 (exec Tryd.prog (adC [(32, true), (38, false)]) 60 0 (inner (inner (nthC 4 adB))) (adS N t n x))) = (andT (andT (andT (andT true (decide (x < ((N : Nat) : Int)))) (inB x N)) (true && (decide (x.toNat < N) && true))) !(t x.toNat).1) := by kernel_rfl
theorem ad_n (N : Nat) (t : Nat → Nod) (n : Nod) (x : Int) : resX (cutR [3, 7, 8] 4 ((execL Tryd.prog (adC [(43, false), (48, false)]) 60 0 4 ((atoms adB).drop 5) (adS N t n x)).map fun s => (Exit.normal, s))) = some (.normal, (adS N t n x).t, adH N t n x) := by kernel_rfl
theorem ad_n' (N : Nat) (t : Nat → Nod) (n : Nod) (x : Int) : obX (cutR [3, 7, 8] 4 ((execL Tryd.prog (adC [(43, false), (48, false)]) 60 0 4 ((atoms adB).drop 5) (adS N t n x)).map fun s => (Exit.normal, s))) = (andT (andT true !decide (x > 62)) !decide (x ≥ ((N : Nat) : Int))) := by kernel_rfl
theorem ad_m1 (N : Nat) (t : Nat → Nod) (n : Nod) (x : Int) : resX (cutR [3, 7, 8, 48] 4 ((execL Tryd.prog (adC [(43, false), (48, true)]) 60 0 3 ((atoms adB).drop 5) (adS N t n x)).map fun s => (Exit.normal, s))) = some (.normal, slotsOf 95 [(3, .ptr 0 0 0), (7, .ptr 2 0 0), (8, .ptr 3 0 0), (48, .bool true)], adH N t n x) := by kernel_rfl
theorem ad_m1' (N : Nat) (t : Nat → Nod) (n : Nod) (x : Int) : obX (cutR [3, 7, 8, 48] 4 ((execL Tryd.prog (adC [(43, false), (48, true)]) 60 0 3 ((atoms adB).drop 5) (adS N t n x)).map fun s => (Exit.normal, s))) = (andT (andT true !decide (x > 62)) (decide (x ≥ ((N : Nat) : Int)))) := by kernel_rfl
theorem ad_m2 (N : Nat) (t : Nat → Nod) (n : Nod) (x : Int) : resX (cutR [3, 7, 8, 49, 52] 4 ((runOps Tryd.prog (callG Tryd.prog (adC []) fun k => Sy.exec Tryd.prog (adC []) 60 k) (adC []).sym (adC []).inp 0 (opsOf (cdA (nthC 8 adB))) [0, 1, 2, 3] ⟨slotsOf 95 [(3, .ptr 0 0 0), (7, .ptr 2 0 0), (8, .ptr 3 0 0), (48, .bool true)], adH N t n x, true⟩).map fun s => (Exit.normal, s))) = some (.normal, slotsOf 95 [(3, .ptr 0 0 0), (7, .ptr 2 0 0), (8, .ptr 3 0 0), (49, .rsl 1 99 N N false), (52, .int .i64 (IntKind.i64.wrap (N + 1)))], adH N t n x) := by kernel_rfl
theorem ad_m2' (N : Nat) (t : Nat → Nod) (n : Nod) (x : Int) : obX (cutR [3, 7, 8, 49, 52] 4 ((runOps Tryd.prog (callG Tryd.prog (adC []) fun k => Sy.exec Tryd.prog (adC []) 60 k) (adC []).sym (adC []).inp 0 (opsOf (cdA (nthC 8 adB))) [0, 1, 2, 3] ⟨slotsOf 95 [(3, .ptr 0 0 0), (7, .ptr 2 0 0), (8, .ptr 3 0 0), (48, .bool true)], adH N t n x, true⟩).map fun s => (Exit.normal, s))) = (true) := by kernel_rfl
theorem ad_m3 (N : Nat) (t : Nat → Nod) (n : Nod) (x : Int) (v0 : Value) : resX (cutR [3, 7, 8] 4 ((runOps Tryd.prog (callG Tryd.prog (adC []) fun k => Sy.exec Tryd.prog (adC []) 60 k) (adC []).sym (adC []).inp 0 (opsOf (cdA (nthC 8 adB))) [4, 5] ⟨slotsOf 95 [(3, .ptr 0 0 0), (7, .ptr 2 0 0), (8, .ptr 3 0 0), (49, .rsl 1 99 N N false), (52, .int .i64 (IntKind.i64.wrap (N + 1)))], [.b n.cells, .b [.rows 99 N (tng t)], .b [.nl v0], .b [.int .i64 x]], true⟩).map fun s => (Exit.normal, s))) = some (.normal, (adS (N + (IntKind.i64.wrap (N + 1)).toNat) t n x).t, [.b n.cells, .b [.rows 99 (N + (IntKind.i64.wrap (N + 1)).toNat) fun i => mergeP (Nat.ble (i + 1) N) (tng t i) [.bool false, .int .i64 0, .ints .u8 32 (List.replicate 32 0), .ints .u8 32 (List.replicate 32 0), .ints .u8 32 (List.replicate 32 0), .nl (.slice none 0 0)]], .b [.rsl 1 99 (N + (IntKind.i64.wrap (N + 1)).toNat) (N + (IntKind.i64.wrap (N + 1)).toNat) false], .b [.int .i64 x]]) := by kernel_rfl
theorem ad_m3' (N : Nat) (t : Nat → Nod) (n : Nod) (x : Int) (v0 : Value) : obX (cutR [3, 7, 8] 4 ((runOps Tryd.prog (callG Tryd.prog (adC []) fun k => Sy.exec Tryd.prog (adC []) 60 k) (adC []).sym (adC []).inp 0 (opsOf (cdA (nthC 8 adB))) [4, 5] ⟨slotsOf 95 [(3, .ptr 0 0 0), (7, .ptr 2 0 0), (8, .ptr 3 0 0), (49, .rsl 1 99 N N false), (52, .int .i64 (IntKind.i64.wrap (N + 1)))], [.b n.cells, .b [.rows 99 N (tng t)], .b [.nl v0], .b [.int .i64 x]], true⟩).map fun s => (Exit.normal, s))) = (andT true (decide (N ≤ N) && decide (0 ≤ IntKind.i64.wrap (((N : Nat) : Int) + 1)) && decide (N + (IntKind.i64.wrap (((N : Nat) : Int) + 1)).toNat ≤ 2 ^ 38))) := by kernel_rfl
theorem ad_s1 (N : Nat) (t : Nat → Nod) (n : Nod) (x : Int) : resX (cutR [3, 7, 8] 4 ((execL Tryd.prog (adC []) 60 0 1 ((atoms adB).drop 9) (adS N t n x)).map fun s => (Exit.normal, s))) = some (.normal, (adS N t n x).t, [.b n.cells, .b [.rows 99 N fun j => mergeP (Nat.beq j x.toNat) n.cells (tng t j)], .b [.rsl 1 99 N N false], .b [.int .i64 x]]) := by kernel_rfl
theorem ad_s1' (N : Nat) (t : Nat → Nod) (n : Nod) (x : Int) : obX (cutR [3, 7, 8] 4 ((execL Tryd.prog (adC []) 60 0 1 ((atoms adB).drop 9) (adS N t n x)).map fun s => (Exit.normal, s))) = (andT (andT true (inB x N)) (decide (x.toNat < N))) := by kernel_rfl
theorem ad_s2 (N : Nat) (t : Nat → Nod) (n : Nod) (x : Int) : resX (cutR [3, 7, 8] 4 ((execL Tryd.prog (adC []) 60 0 1 ((atoms adB).drop 10) (adS N t n x)).map fun s => (Exit.normal, s))) = some (.normal, (adS N t n x).t, [.b n.cells, .b [.rows 99 N fun j => mergeP (Nat.beq j x.toNat) [.bool (t x.toNat).used, .int .i64 (t x.toNat).name, .ints .u8 32 (t x.toNat).key, .ints .u8 32 (t x.toNat).sign, .ints .u8 32 (t x.toNat).par, .nl (.slice none 0 0)] (tng t j)], .b [.rsl 1 99 N N false], .b [.int .i64 x]]) := by kernel_rfl
theorem ad_s2' (N : Nat) (t : Nat → Nod) (n : Nod) (x : Int) : obX (cutR [3, 7, 8] 4 ((execL Tryd.prog (adC []) 60 0 1 ((atoms adB).drop 10) (adS N t n x)).map fun s => (Exit.normal, s))) = (andT (andT true (inB x N)) (true && decide (x.toNat < N))) := by kernel_rfl
noncomputable def adP (N : Nat) (t : Nat → Nod) (n : Nod) (x y : Int) : St := ⟨slotsOf 95 [(3, .ptr 0 0 0), (7, .ptr 2 0 0), (8, .ptr 3 0 0), (66, .fn (.func 65) [] [.ptr 4 0 0, .ptr 5 0 0])], adH N t n x ++ [.b [.int .i64 x], .b [.int .i64 y]], true⟩
theorem ad_p (N : Nat) (t : Nat → Nod) (n : Nod) (x : Int) : resX (cutR [3, 7, 8, 66] 6 ((execL Tryd.prog (adC []) 60 0 1 ((atoms adB).drop 11) (adS N t n x)).map fun s => (Exit.normal, s))) = some (.normal, (adP N t n x (leavesV N)).t, (adP N t n x (leavesV N)).h) := by kernel_rfl
theorem ad_p' (N : Nat) (t : Nat → Nod) (n : Nod) (x : Int) : obX (cutR [3, 7, 8, 66] 6 ((execL Tryd.prog (adC []) 60 0 1 ((atoms adB).drop 11) (adS N t n x)).map fun s => (Exit.normal, s))) = (true) := by kernel_rfl
noncomputable def apG (N : Nat) (t : Nat → Nod) (n : Nod) (x y : Int) (l : Nat) : List Blk := (adP N t n x y).h ++ [.g (some (rfL (nthC 12 adB) (adP N t n x y).t l))]
noncomputable def apS (N : Nat) (t : Nat → Nod) (n : Nod) (x y : Int) (l : Nat) (p : Int) : St := ⟨slotsOf 17 [(0, .fn (.yield l) [] []), (2, .ptr 5 0 0), (4, .int .i64 p)], apG N t n x y l, true⟩
theorem ap_head (N : Nat) (t : Nat → Nod) (n : Nod) (x y : Int) (l : Nat) : resX (cutR [0, 2, 4] 7 ((execL Tryd.prog (adC []) 60 7 1 (atoms ptB) ⟨slots0 Tryd.f65.ntmps [.fn (.yield l) [] [], .ptr 4 0 0, .ptr 5 0 0], apG N t n x y l, true⟩).map fun s => (Exit.normal, s))) = some (.normal, (apS N t n x y l (parV x y)).t, apG N t n x y l) := by kernel_rfl
theorem ap_head' (N : Nat) (t : Nat → Nod) (n : Nod) (x y : Int) (l : Nat) : obX (cutR [0, 2, 4] 7 ((execL Tryd.prog (adC []) 60 7 1 (atoms ptB) ⟨slots0 Tryd.f65.ntmps [.fn (.yield l) [] [], .ptr 4 0 0, .ptr 5 0 0], apG N t n x y l, true⟩).map fun s => (Exit.normal, s))) = (andT true (andT true (nodeB x y))) := by kernel_rfl
theorem ap_go (N : Nat) (t : Nat → Nod) (n : Nod) (x y : Int) (l : Nat) (p : Int) : resX (cutR [0, 2, 4] 7 (exec Tryd.prog (adC [(9, true), (72, false)]) 60 7 (inner (inner (nthC 1 ptB))) (apS N t n x y l p))) = some (.normal, (apS N t n x y l (parV p y)).t, apG N t n x y l) := by kernel_rfl
theorem ap_go' (N : Nat) (t : Nat → Nod) (n : Nod) (x y : Int) (l : Nat) (p : Int) : obX (cutR [0, 2, 4] 7 (exec Tryd.prog (adC [(9, true), (72, false)]) 60 7 (inner (inner (nthC 1 ptB))) (apS N t n x y l p))) = (andT (andT (andT true (decide (p ≥ 0))) (andT (andT (andT (andT (andT (decide ((rfL (nthC 12 adB) (adP N t n x y).t l).l = l)) (decide ((rfL (nthC 12 adB) (adP N t n x y).t l).l = l))) (inB p N)) (true && (decide (p.toNat < N) && true))) !(t p.toNat).1) (decide (l = l)))) (andT true (nodeB p y))) := by kernel_rfl
theorem ap_end (N : Nat) (t : Nat → Nod) (n : Nod) (x y : Int) (l : Nat) (p : Int) : resX (cutR [0, 2, 4] 7 (exec Tryd.prog (adC [(9, false)]) 60 7 (inner (inner (nthC 1 ptB))) (apS N t n x y l p))) = some (.exit 0, (apS N t n x y l p).t, apG N t n x y l) := by kernel_rfl
theorem ap_end' (N : Nat) (t : Nat → Nod) (n : Nod) (x y : Int) (l : Nat) (p : Int) : obX (cutR [0, 2, 4] 7 (exec Tryd.prog (adC [(9, false)]) 60 7 (inner (inner (nthC 1 ptB))) (apS N t n x y l p))) = (andT true !decide (p ≥ 0)) := by kernel_rfl
end Go.Proofs.YtkcmlclomcidiaaDoor.Tr
end
section
namespace Go.Sy
open Go
section
variable {P : Program} {ro : Option Nat} {k : Nat}
theorem TrL.itemsD {Γ : Ctr} (hΓ : CtrSound P Γ) (n a m : Nat) (live : List Nat) (j : Nat) (hj : k ≤ j) {c : Code} {s s1 s' : St} {x : Exit} (ob : Bool) (e : resX (cutR live j ((execL P Γ n k m ((atoms c).drop a) s).map fun s => (Exit.normal, s))) = some (.normal, s1.t, s1.h))
    (hob : obX (cutR live j ((execL P Γ n k m ((atoms c).drop a) s).map fun s => (Exit.normal, s))) = ob) (h : ob = true) (hl : a + m < (atoms c).length) (hs : s1.ob = true) (g : TrL P ro k ((atoms c).drop (a + m)) s1 x s') : TrL P ro k ((atoms c).drop a) s x s' :=
  TrL.itemsX hΓ n m live j hj ob e hob h (by rw [List.length_drop]; omega) hs (by rw [List.drop_drop]; exact g)
end
end Go.Sy
namespace Go.Proofs.YtkcmlclomcidiaaDoor.Tr
open Go Go.Sy
def updT (t : Nat → Nod) (x : Nat) (n : Nod) : Nat → Nod := fun i => if i = x then n else t i
def extT (N : Nat) (t : Nat → Nod) : Nat → Nod := fun i => if i < N then t i else zeroN
theorem bleN (i N : Nat) : Nat.ble (i + 1) N = decide (i < N) := by
  cases h : Nat.ble (i + 1) N with
  | true => exact (decide_eq_true (Nat.le_of_ble_eq_true h)).symm
  | false => exact (decide_eq_false fun g => by rw [Nat.ble_eq_true_of_le g] at h; cases h).symm
theorem ad_merge (N : Nat) (t : Nat → Nod) : (fun i => mergeP (Nat.ble (i + 1) N) (tng t i) [.bool false, .int .i64 0, .ints .u8 32 (List.replicate 32 0), .ints .u8 32 (List.replicate 32 0), .ints .u8 32 (List.replicate 32 0), .nl (.slice none 0 0)]) = tng (extT N t) := by
  funext i
  rw [bleN]
  unfold tng extT
  by_cases h : i < N
  · rw [decide_eq_true h, if_pos h]; rfl
  · rw [decide_eq_false h, if_neg h]; rfl
theorem s1_merge (t : Nat → Nod) (x : Nat) (n : Nod) : (fun j => mergeP (Nat.beq j x) n.cells (tng t j)) = tng (updT t x n) := by
  funext j
  rw [beqN]
  unfold tng updT
  by_cases h : j = x
  · rw [decide_eq_true h, if_pos h]; rfl
  · rw [decide_eq_false h, if_neg h]; rfl
theorem s2_merge (t : Nat → Nod) (x : Nat) (n : Nod) : (fun j => mergeP (Nat.beq j x) [.bool (updT t x n x).used, .int .i64 (updT t x n x).name, .ints .u8 32 (updT t x n x).key, .ints .u8 32 (updT t x n x).sign, .ints .u8 32 (updT t x n x).par, .nl (.slice none 0 0)] (tng (updT t x n) j)) = tng (updT t x { n with un := [] }) := by
  have hx : updT t x n x = n := if_pos rfl
  rw [hx]
  funext j
  rw [beqN]
  unfold tng updT
  by_cases h : j = x
  · rw [decide_eq_true h, if_pos h, if_pos h]; rfl
  · rw [decide_eq_false h, if_neg h, if_neg h]; rfl
section
variable {N M : Nat} {t u : Nat → Nod} {n : Nod} {j m : Nat}
theorem ap_all (hm : m ∈ sizes) (hj : j < m) (hM : M = 2 * m - 1) (hup : ∀ k, k < lgN m → (u (upV m (2 * (j : Int)) k).toNat).used = false) (l : Nat) :
    FnTr Tryd.prog 65 [.fn (.yield l) [] [], .ptr 4 0 0, .ptr 5 0 0] (apG M u n ((2 * j : Nat) : Int) m l) (.tup []) (apG M u n ((2 * j : Nat) : Int) m l) := by
  have h2 : ((2 * j : Nat) : Int) = 2 * (j : Int) := by omega
  obtain ⟨u1, u2, u3⟩ := up_ok hm hj
  rw [h2] at u1 u2 u3
  rw [h2]
  refine FnTr.toEnd (h := apG M u n (2 * (j : Int)) m l) Tryd.func65 rfl 1 0 (fun k => apS M u n (2 * (j : Int)) m l (upV m (2 * (j : Int)) k)) (lgN m)
    (fun y s' g => TrL.itemsX (adC_ok []) 60 1 _ 7 (Nat.le_refl 7) _ (ap_head M u n (2 * (j : Int)) m l) (ap_head' M u n (2 * (j : Int)) m l) (by rw [u3]; rfl) (by decide) rfl g) (by decide) (by kernel_rfl)
    (fun k hk => ?_) (sE := apS M u n (2 * (j : Int)) m l (upV m (2 * (j : Int)) (lgN m))) (s' := apS M u n (2 * (j : Int)) m l (upV m (2 * (j : Int)) (lgN m))) (x := .normal) (v := []) ?_ ⟨rfl, rfl⟩ (.inr rfl) rfl
  · obtain ⟨g1, g2⟩ := u1 k hk
    obtain ⟨g3, g4⟩ := nodeB_lt g1
    have hlt : (upV m (2 * (j : Int)) k).toNat < M := by omega
    exact Tr.cutX (adC_ok [(9, true), (72, false)]) 60 _ 7 (Nat.le_refl _) (s' := apS M u n (2 * (j : Int)) m l (upV m (2 * (j : Int)) (k + 1))) _ (ap_go M u n (2 * (j : Int)) m l _) (ap_go' M u n (2 * (j : Int)) m l _) (by
      rw [decide_eq_true (show upV m (2 * (j : Int)) k ≥ 0 from g2), inBt g3 (by omega), decide_eq_true hlt, show (u (upV m (2 * (j : Int)) k).toNat).1 = false from hup k hk, g1, decide_eq_true (show (rfL (nthC 12 adB) (adP M u n (2 * (j : Int)) m).t l).l = l from rfl), decide_eq_true rfl]; rfl)
  · exact Tr.cutX (adC_ok [(9, false)]) 60 _ 7 (Nat.le_refl _) _ (ap_end M u n (2 * (j : Int)) m l _) (ap_end' M u n (2 * (j : Int)) m l _) (by rw [u2]; rfl)
theorem add_fn (hT : TOK N t) (hc : checkB N t = true) (hl : lfB n.used n.name n.un = true) (hf : findV N t n.name < 0) (hused : ∀ k, k < j → 2 * k < N ∧ (t (2 * k)).used = true) (hfree : 2 * j < N → (t (2 * j)).used = false) (hj31 : j ≤ 31)
    (hE : (2 * j < N ∧ M = N ∧ u = t) ∨ (N ≤ 2 * j ∧ M = 2 * N + 1 ∧ u = extT N t)) (hm : m ∈ sizes) (hv : leavesV M = m) (hM : M = 2 * m - 1) (hj : j < m)
    (hup : ∀ k, k < lgN m → (updT u (2 * j) { n with un := [] } (upV m (2 * (j : Int)) k).toNat).used = false) :
    FnTr Tryd.prog 18 [.rol false 99 N (tng t), .agg n.cells] [] (.tup [.rsl 0 99 M M false, .int .i64 j, .nl .nilIface]) [.b [.rows 99 M (tng (updT u (2 * j) { n with un := [] }))]] := by
  have hok : okT N (fun i => coolL (tng t i)) = true := okT_tng hT
  have hle := hT.le
  have hs := sizes_le hm
  have hx : 2 * j < M := by omega
  have hdiv : IntKind.i64.wrap (((2 * j : Nat) : Int).tdiv 2) = (j : Int) := by
    have : ((2 * j : Nat) : Int).tdiv 2 = ((2 * j / 2 : Nat) : Int) := rfl
    rw [this, wrapI (by omega) (by omega)]; omega
  refine FnTr.sel (v := .tup [.rsl 1 99 M M false, .int .i64 j, .nl .nilIface]) (h1 := (adP M (updT u (2 * j) { n with un := [] }) n ((2 * j : Nat) : Int) m).h ++ [.gap]) [1] ?_ rfl
  refine FnTr.rest (adC_ok []) 60 13 Tryd.func18 rfl (fun s' y h => ?_) (s := ⟨(adP M (updT u (2 * j) { n with un := [] }) n ((2 * j : Nat) : Int) m).t, (adP M (updT u (2 * j) { n with un := [] }) n ((2 * j : Nat) : Int) m).h ++ [.gap], true⟩) (p := true) ?_ rfl
  · refine TrL.itemsX (adC_ok [(25, false)]) 60 4 _ 4 (Nat.zero_le _) (s1 := adS N t n ((2 * 0 : Nat) : Int)) _ (ad_head N t n) (ad_head' N t n) ?_ (by decide) rfl ?_
    · rw [hok, decide_eq_true hle, show checkB N (treeOf fun i => coolL (tng t i)) = true from hc, show findV N (treeOf fun i => coolL (tng t i)) n.name = findV N t n.name from rfl, hl]
      show andT (andT (andT (andT (andT true (andT true true)) (andT true true)) (andT true true)) (!decide (findV N t n.name ≥ 0))) (andT true true) = true
      rw [decide_eq_false (by omega)]; rfl
    refine TrL.item 4 (by decide) (s1 := adS N t n ((2 * j : Nat) : Int)) (Tr.loop 1 (by kernel_rfl) (fun k => adS N t n ((2 * k : Nat) : Int)) j (fun k hk => ?_) ?_) ?_
    · obtain ⟨q1, q2⟩ := hused k hk
      have e := ad_go N t n ((2 * k : Nat) : Int)
      rw [show IntKind.i64.wrap (((2 * k : Nat) : Int) + 2) = ((2 * (k + 1) : Nat) : Int) by rw [wrapI (by omega) (by omega)]; omega] at e
      exact Tr.cutX (adC_ok [(32, true), (38, true)]) 60 _ 4 (Nat.zero_le _) (s' := adS N t n ((2 * (k + 1) : Nat) : Int)) _ e (ad_go' N t n _) (by
        rw [Int.toNat_natCast, ltN q1, inBN q1, decide_eq_true q1, show (t (2 * k)).1 = true from q2]; rfl)
    · by_cases q1 : 2 * j < N
      · exact Tr.cutX (adC_ok [(32, true), (38, false)]) 60 _ 4 (Nat.zero_le _) (s' := adS N t n ((2 * j : Nat) : Int)) _ (ad_e2 N t n _) (ad_e2' N t n _) (by
          rw [Int.toNat_natCast, ltN q1, inBN q1, decide_eq_true q1, show (t (2 * j)).1 = false from hfree q1]; rfl)
      · exact Tr.cutX (adC_ok [(32, false)]) 60 _ 4 (Nat.zero_le _) (s' := adS N t n ((2 * j : Nat) : Int)) _ (ad_e1 N t n _) (ad_e1' N t n _) (by rw [nltN (by omega)]; rfl)
    have h62 : decide (((2 * j : Nat) : Int) > 62) = false := decide_eq_false (by omega)
    have mid : TrL Tryd.prog none 0 ((atoms (bodyOf Tryd.f18)).drop 9) (adS M u n ((2 * j : Nat) : Int)) y s' → TrL Tryd.prog none 0 ((atoms (bodyOf Tryd.f18)).drop 5) (adS N t n ((2 * j : Nat) : Int)) y s' := by
      intro g
      rcases hE with ⟨q1, rfl, rfl⟩ | ⟨q1, rfl, rfl⟩
      · exact TrL.itemsD (adC_ok [(43, false), (48, false)]) 60 5 4 _ 4 (Nat.zero_le _) (s1 := adS M u n ((2 * j : Nat) : Int)) _ (ad_n M u n _) (ad_n' M u n _) (by
          rw [h62, decide_eq_false (show ¬ ((2 * j : Nat) : Int) ≥ ((M : Nat) : Int) by omega)]; rfl) (by decide) rfl g
      · have hw : IntKind.i64.wrap ((N : Int) + 1) = ((N + 1 : Nat) : Int) := wrapS (by omega)
        have hw2 : N + (IntKind.i64.wrap ((N : Int) + 1)).toNat = 2 * N + 1 := by rw [hw, Int.toNat_natCast]; omega
        refine TrL.itemsD (adC_ok [(43, false), (48, true)]) 60 5 3 _ 4 (Nat.zero_le _) (s1 := ⟨slotsOf 95 [(3, .ptr 0 0 0), (7, .ptr 2 0 0), (8, .ptr 3 0 0), (48, .bool true)], adH N t n ((2 * j : Nat) : Int), true⟩) _ (ad_m1 N t n _) (ad_m1' N t n _) (by
          rw [h62, decide_eq_true (show ((2 * j : Nat) : Int) ≥ ((N : Nat) : Int) by omega)]; rfl) (by decide) rfl ?_
        refine TrL.item 8 (by decide) (s1 := adS (2 * N + 1) (extT N t) n ((2 * j : Nat) : Int)) ?_ g
        have hcode : nthC 8 (bodyOf Tryd.f18) = .cond (.tmp 48) (.region 12 (opsOf (cdA (nthC 8 adB))) false) .skip := by kernel_rfl
        rw [hcode]
        refine TrX.to (H := HT) (H' := HT) (TrX.cond_true (by kernel_rfl) (TrX.region 12 ?_)) fun _ _ _ => trivial
        rw [show List.range (opsOf (cdA (nthC 8 adB))).size = [0, 1, 2, 3] ++ [4, 5] by kernel_rfl]
        refine OX.append (OX.run0 (adC_ok []) 60 _ 4 (Nat.zero_le _) (s' := ⟨slotsOf 95 [(3, .ptr 0 0 0), (7, .ptr 2 0 0), (8, .ptr 3 0 0), (49, .rsl 1 99 N N false), (52, .int .i64 (IntKind.i64.wrap (N + 1)))], adH N t n ((2 * j : Nat) : Int), true⟩) _ (ad_m2 N t n _) (ad_m2' N t n _) rfl) ?_
        refine OX.opaque 2 (.rsl 1 99 N N false) rfl rfl rfl fun v0 => ?_
        have e := ad_m3 N t n ((2 * j : Nat) : Int) v0
        have e' := ad_m3' N t n ((2 * j : Nat) : Int) v0
        rw [hw2, ad_merge] at e
        refine OX.run0 (adC_ok []) 60 _ 4 (Nat.zero_le _) (s' := adS (2 * N + 1) (extT N t) n ((2 * j : Nat) : Int)) _ e e' ?_
        rw [hw2, hw, decide_eq_true (Nat.le_refl _), decide_eq_true (show (0 : Int) ≤ ((N + 1 : Nat) : Int) by omega), decide_eq_true (show 2 * N + 1 ≤ 2 ^ 38 by omega)]
        rfl
    refine mid ?_
    have e1 := ad_s1 M u n ((2 * j : Nat) : Int)
    rw [Int.toNat_natCast, s1_merge] at e1
    refine TrL.itemsD (adC_ok []) 60 9 1 _ 4 (Nat.zero_le _) (s1 := adS M (updT u (2 * j) n) n ((2 * j : Nat) : Int)) _ e1 (ad_s1' M u n _) (by rw [Int.toNat_natCast, inBN hx, decide_eq_true hx]; rfl) (by decide) rfl ?_
    have e2 := ad_s2 M (updT u (2 * j) n) n ((2 * j : Nat) : Int)
    rw [Int.toNat_natCast, s2_merge] at e2
    refine TrL.itemsD (adC_ok []) 60 10 1 _ 4 (Nat.zero_le _) (s1 := adS M (updT u (2 * j) { n with un := [] }) n ((2 * j : Nat) : Int)) _ e2 (ad_s2' M (updT u (2 * j) n) n _) (by rw [Int.toNat_natCast, inBN hx, decide_eq_true hx]; rfl) (by decide) rfl ?_
    have e3 := ad_p M (updT u (2 * j) { n with un := [] }) n ((2 * j : Nat) : Int)
    rw [hv] at e3
    refine TrL.itemsD (adC_ok []) 60 11 1 _ 6 (Nat.zero_le _) (s1 := adP M (updT u (2 * j) { n with un := [] }) n ((2 * j : Nat) : Int) m) _ e3 (ad_p' M (updT u (2 * j) { n with un := [] }) n _) rfl (by decide) rfl ?_
    refine TrL.item 12 (by decide) ?_ h
    exact Tr.rangeB 3 (by kernel_rfl) (f := 65) (first := []) (capt := [.ptr 4 0 0, .ptr 5 0 0]) true Tryd.func65 (by decide) rfl (by kernel_rfl) (fun l => ap_all hm hj hM hup l)
      (fun l => ⟨_, rfl, rfl, by simp [rfL], rfl⟩) (fun l => rfl)
  · rw [← hdiv]
    kernel_rfl
end
end Go.Proofs.YtkcmlclomcidiaaDoor.Tr
end
