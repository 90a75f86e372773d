/- This file proves the contracts of tree's same and empty. Conditions: lengths that a machine bears. -/
import Derived.Test.YtkcmlclomcidiaaDoorATrE
set_option linter.all false
set_option maxRecDepth 100000
namespace Go.Proofs.YtkcmlclomcidiaaDoor.Tr
open Go Go.Sy
def sameB (u u' : Bool) (n n' : Int) (k s p un k' s' p' un' : List Int) : Bool := (u == u') && (n == n') && decide (k = k') && decide (s = s') && decide (p = p') && decide (un = un')
def smT (a b c d e : Bool) : Nat → Option Bool := fun i => if i = 10 then some a else if i = 17 then some b else if i = 24 then some c else if i = 31 then some d else if i = 38 then some e else none
noncomputable def smC (a b c d e : Bool) : Ctr := mk (P := Tryd.prog) [equalE] [] (smT a b c d e)
theorem smC_ok (a b c d e : Bool) : CtrSound Tryd.prog (smC a b c d e) := mk_sound _ InlOK.nil _ _
theorem sm_0 (u u' : Bool) (n n' : Int) (k s p un k' s' p' un' : List Int) : (callS Tryd.prog (smC false false false false false) 60 Tryd.f44 [nod u n k s p un, nod u' n' k' s' p' un'] []).map (fun x => (x.1, x.2.2)) = some (.bool false, andT true !u == u') := by kernel_rfl
theorem sm_1 (u u' : Bool) (n n' : Int) (k s p un k' s' p' un' : List Int) : (callS Tryd.prog (smC true false false false false) 60 Tryd.f44 [nod u n k s p un, nod u' n' k' s' p' un'] []).map (fun x => (x.1, x.2.2)) = some (.bool false, andT (andT true (u == u')) !n == n') := by kernel_rfl
theorem sm_2 (u u' : Bool) (n n' : Int) (k s p un k' s' p' un' : List Int) : (callS Tryd.prog (smC true true false false false) 60 Tryd.f44 [nod u n k s p un, nod u' n' k' s' p' un'] []).map (fun x => (x.1, x.2.2)) = some (.bool false, andT (andT (andT (andT true (u == u')) (n == n')) (andT (decide (k.length = 32)) (decide (k'.length = 32)))) !decide (k = k')) := by kernel_rfl
theorem sm_3 (u u' : Bool) (n n' : Int) (k s p un k' s' p' un' : List Int) : (callS Tryd.prog (smC true true true false false) 60 Tryd.f44 [nod u n k s p un, nod u' n' k' s' p' un'] []).map (fun x => (x.1, x.2.2)) = some (.bool false, andT (andT (andT (andT (andT (andT true (u == u')) (n == n')) (andT (decide (k.length = 32)) (decide (k'.length = 32)))) (decide (k = k'))) (andT (decide (s.length = 32)) (decide (s'.length = 32)))) !decide (s = s')) := by kernel_rfl
theorem sm_4 (u u' : Bool) (n n' : Int) (k s p un k' s' p' un' : List Int) : (callS Tryd.prog (smC true true true true false) 60 Tryd.f44 [nod u n k s p un, nod u' n' k' s' p' un'] []).map (fun x => (x.1, x.2.2)) = some (.bool false, andT (andT (andT (andT (andT (andT (andT (andT true (u == u')) (n == n')) (andT (decide (k.length = 32)) (decide (k'.length = 32)))) (decide (k = k'))) (andT (decide (s.length = 32)) (decide (s'.length = 32)))) (decide (s = s'))) (andT (decide (p.length = 32)) (decide (p'.length = 32)))) !decide (p = p')) := by kernel_rfl
theorem sm_5 (u u' : Bool) (n n' : Int) (k s p un k' s' p' un' : List Int) : (callS Tryd.prog (smC true true true true true) 60 Tryd.f44 [nod u n k s p un, nod u' n' k' s' p' un'] []).map (fun x => (x.1, x.2.2)) = some (.bool (decide (un = un')), andT (andT (andT (andT (andT (andT (andT (andT (andT true (u == u')) (n == n')) (andT (decide (k.length = 32)) (decide (k'.length = 32)))) (decide (k = k'))) (andT (decide (s.length = 32)) (decide (s'.length = 32)))) (decide (s = s'))) (andT (decide (p.length = 32)) (decide (p'.length = 32)))) (decide (p = p'))) (andT true (decide (un.length ≤ 274877906944)))) := by kernel_rfl
theorem same_fn {u u' : Bool} {n n' : Int} {k s p un k' s' p' un' : List Int} (h1 : k.length = 32) (h2 : k'.length = 32) (h3 : s.length = 32) (h4 : s'.length = 32) (h5 : p.length = 32) (h6 : p'.length = 32) (hl : un.length ≤ 274877906944) :
    FnTr Tryd.prog 44 [nod u n k s p un, nod u' n' k' s' p' un'] [] (.bool (sameB u u' n n' k s p un k' s' p' un')) [] := by
  unfold sameB
  cases e1 : (u == u') with
  | false => exact call0 (smC_ok false false false false false) 60 Tryd.func44 (sm_0 u u' n n' k s p un k' s' p' un') (by simp [andT, e1]) rfl
  | true =>
    cases e2 : (n == n') with
    | false => exact call0 (smC_ok true false false false false) 60 Tryd.func44 (sm_1 u u' n n' k s p un k' s' p' un') (by simp [andT, e1, e2]) rfl
    | true =>
      by_cases e3 : k = k'
      · by_cases e4 : s = s'
        · by_cases e5 : p = p'
          · rw [decide_eq_true e3, decide_eq_true e4, decide_eq_true e5]
            exact call0 (smC_ok true true true true true) 60 Tryd.func44 (sm_5 u u' n n' k s p un k' s' p' un') (by simp [andT, e1, e2, e3, e4, e5, h2, h4, h6, hl]) rfl
          · rw [decide_eq_false e5, Bool.and_false, Bool.false_and]
            exact call0 (smC_ok true true true true false) 60 Tryd.func44 (sm_4 u u' n n' k s p un k' s' p' un') (by simp [andT, e1, e2, e3, e4, e5, h2, h4, h5, h6]) rfl
        · rw [decide_eq_false e4, Bool.and_false, Bool.false_and, Bool.false_and]
          exact call0 (smC_ok true true true false false) 60 Tryd.func44 (sm_3 u u' n n' k s p un k' s' p' un') (by simp [andT, e1, e2, e3, e4, h2, h3, h4]) rfl
      · rw [decide_eq_false e3, Bool.and_false, Bool.false_and, Bool.false_and, Bool.false_and]
        exact call0 (smC_ok true true false false false) 60 Tryd.func44 (sm_2 u u' n n' k s p un k' s' p' un') (by simp [andT, e1, e2, e3, h1, h2]) rfl
def lensB (k s p un : List Int) : Bool := decide (k.length = 32) && decide (s.length = 32) && decide (p.length = 32) && decide (un.length ≤ 274877906944)
noncomputable def sameF : List SV → Option (SV × List Blk × Bool)
  | [.agg [.bool u, .int .i64 n, .ints .u8 32 k, .ints .u8 32 s, .ints .u8 32 p, .ro false .i64 un], .agg [.bool u', .int .i64 n', .ints .u8 32 k', .ints .u8 32 s', .ints .u8 32 p', .ro false .i64 un']] => some (.bool (sameB u u' n n' k s p un k' s' p' un'), [], lensB k s p un && lensB k' s' p' un')
  | [.agg [.bool u, .int .i64 n, .ints .u8 32 k, .ints .u8 32 s, .ints .u8 32 p, .ro false .i64 un], .agg [.bool u', .int .i64 n', .ints .u8 32 k', .ints .u8 32 s', .ints .u8 32 p', .nl (.slice none 0 0)]] => some (.bool (sameB u u' n n' k s p un k' s' p' []), [], lensB k s p un && lensB k' s' p' [])
  | _ => none
theorem lensB_iff {k s p un : List Int} : lensB k s p un = true ↔ k.length = 32 ∧ s.length = 32 ∧ p.length = 32 ∧ un.length ≤ 274877906944 := by
  simp [lensB, and_assoc]
theorem VE.nilRo (f : Bool) (k : IntKind) : VE (.nl (.slice none 0 0)) (.ro f k []) := fun e x h => by rw [VR] at h; subst h; exact .inl ⟨rfl, none, 0, rfl, fun _ => rfl⟩
theorem PE.last {ps : List SV} {x y : SV} (hx : notInts x = true) (hy : notInts y = true) (h : VE x y) : PE (ps ++ [x]) (ps ++ [y]) := by
  have one : ∀ (e : Env) (us : List Value), PR e [x] us → PR e [y] us := fun e us g => by
    obtain ⟨v, zs, g1, g2, rfl⟩ := (PR.cons hx).1 g
    exact (PR.cons hy).2 ⟨v, zs, h e v g1, g2, rfl⟩
  refine ⟨by rw [psize_append, psize_append]; simp [psize, psz_one hx, psz_one hy], fun e us g => ?_⟩
  obtain ⟨y1, y2, rfl, g1, g2⟩ := PR.split g
  exact g1.append (one e y2 g2)
noncomputable def sameE : Entry Tryd.prog := .val 44 _ Tryd.func44 (by decide) rfl true 0 sameF fun vs v new e => by
  unfold sameF at e
  split at e
  · simp only [Option.some.injEq, Prod.mk.injEq, Bool.and_eq_true, lensB_iff] at e
    obtain ⟨rfl, rfl, ⟨h1, h2, h3, h4⟩, h5, h6, h7, _⟩ := e
    exact same_fn h1 h5 h2 h6 h3 h7 h4
  · rename_i u n k s p un u' n' k' s' p'
    simp only [Option.some.injEq, Prod.mk.injEq, Bool.and_eq_true, lensB_iff] at e
    obtain ⟨rfl, rfl, ⟨h1, h2, h3, h4⟩, h5, h6, h7, _⟩ := e
    exact FnTr.conv (same_fn h1 h5 h2 h6 h3 h7 h4) ⟨VE.refl _, VE.agg (PE.last (ps := [.bool u', .int .i64 n', .ints .u8 32 k', .ints .u8 32 s', .ints .u8 32 p']) rfl rfl (VE.nilRo false .i64)), trivial⟩ trivial (VE.refl _) trivial
  · cases e
def emT (a b : Bool) : Nat → Option Bool := fun i => if i = 11 then some a else if i = 18 then some b else none
noncomputable def emC (a b : Bool) : Ctr := mk (P := Tryd.prog) [] [] (emT a b)
theorem emC_ok (a b : Bool) : CtrSound Tryd.prog (emC a b) := mk_sound _ InlOK.nil _ _
noncomputable def emB : Code := bodyOf Tryd.f47
abbrev tng (t : Nat → Nod) : Nat → List SV := fun i => (t i).cells
noncomputable def emS (N : Nat) (t : Nat → Nod) (i : Int) : St := ⟨slotsOf 19 [(0, .rol false 99 N (tng t)), (5, .int .i64 i)], [], true⟩
noncomputable def emF (b : Bool) : St := ⟨slotsOf 19 [(4, .bool b)], [], true⟩
theorem em_head (N : Nat) (t : Nat → Nod) (x : Int) : resX (cutR [0, 5] 0 ((execL Tryd.prog (emC true true) 60 0 2 (atoms emB) ⟨slots0 Tryd.f47.ntmps [.rol false 99 N (tng t), .int .i64 x], [], true⟩).map fun s => (Exit.normal, s))) = some (.normal, (emS N t (IntKind.i64.wrap (2 * x))).t, []) := by kernel_rfl
theorem em_head' (N : Nat) (t : Nat → Nod) (x : Int) : obX (cutR [0, 5] 0 ((execL Tryd.prog (emC true true) 60 0 2 (atoms emB) ⟨slots0 Tryd.f47.ntmps [.rol false 99 N (tng t), .int .i64 x], [], true⟩).map fun s => (Exit.normal, s))) = (true) := by kernel_rfl
theorem em_one (N : Nat) (t : Nat → Nod) (i : Int) : resX (cutR [0, 5] 0 (exec Tryd.prog (emC true false) 60 0 (inner (inner (nthC 2 emB))) (emS N t i))) = some (.normal, (emS N t (IntKind.i64.wrap (i + 2))).t, []) := by kernel_rfl
theorem em_one' (N : Nat) (t : Nat → Nod) (i : Int) : obX (cutR [0, 5] 0 (exec Tryd.prog (emC true false) 60 0 (inner (inner (nthC 2 emB))) (emS N t i))) = (andT (andT (andT (andT true (decide (i < ((N : Nat) : Int)))) (inB i N)) (true && (decide (i.toNat < N) && true))) !(t i.toNat).1) := by kernel_rfl
theorem em_out (N : Nat) (t : Nat → Nod) (i : Int) : resX (cutR [4] 0 (exec Tryd.prog (emC true true) 60 0 (inner (inner (nthC 2 emB))) (emS N t i))) = some (.ret, (emF false).t, []) := by kernel_rfl
theorem em_out' (N : Nat) (t : Nat → Nod) (i : Int) : obX (cutR [4] 0 (exec Tryd.prog (emC true true) 60 0 (inner (inner (nthC 2 emB))) (emS N t i))) = (andT (andT (andT (andT true (decide (i < ((N : Nat) : Int)))) (inB i N)) (true && (decide (i.toNat < N) && true))) (t i.toNat).1) := by kernel_rfl
theorem em_end (N : Nat) (t : Nat → Nod) (i : Int) : resX (cutR [] 0 (exec Tryd.prog (emC false true) 60 0 (inner (inner (nthC 2 emB))) (emS N t i))) = some (.exit 0, slotsOf 19 [], []) := by kernel_rfl
theorem em_end' (N : Nat) (t : Nat → Nod) (i : Int) : obX (cutR [] 0 (exec Tryd.prog (emC false true) 60 0 (inner (inner (nthC 2 emB))) (emS N t i))) = (andT true !decide (i < ((N : Nat) : Int))) := by kernel_rfl
def emptyB (N : Nat) (t : Nat → Nod) (fr : Nat) : Bool := (List.range ((N + 1 - 2 * fr) / 2)).all fun j => !(t (2 * fr + 2 * j)).used
theorem empty_fn {N fr : Nat} {t : Nat → Nod} (h : N ≤ 274877906944) (hf : fr ≤ 274877906944) : FnTr Tryd.prog 47 [.rol false 99 N (tng t), .int .i64 fr] [] (.bool (emptyB N t fr)) [] := by
  have key := FnTr.scan (P := Tryd.prog) (args := [.rol false 99 N (tng t), .int .i64 fr]) (h := []) (h' := []) Tryd.func47 rfl 2 0 (fun j : Nat => emS N t ((2 * fr + 2 * j : Nat) : Int)) (fun j => !(t (2 * fr + 2 * j)).used) ((N + 1 - 2 * fr) / 2)
    (fun x s' g => TrL.itemsX (emC_ok true true) 60 2 _ 0 (by simp) (s1 := emS N t ((2 * fr + 2 * 0 : Nat) : Int)) _ (by have := em_head N t fr; rw [wrapI (by omega) (by omega)] at this; rw [show ((2 * fr + 2 * 0 : Nat) : Int) = 2 * (fr : Int) by omega]; exact this) (em_head' N t fr) rfl (by decide) rfl g) (by decide) (by kernel_rfl)
    (fun j hj hb _ => ?_) (fun i => emF false) (fun i => [.bool false]) (fun j hj hb _ => ⟨?_, rfl, rfl⟩) (sE := ⟨slotsOf 19 [], [], true⟩) (sE' := emF true) (vE := [.bool true]) (xE := .ret) (fun _ => ?_) (fun _ => ⟨?_, .inl rfl, rfl, rfl⟩)
  · rw [oneOf_scan (g := SV.bool) (vF := fun _ : Nat => false) (vE := true)] at key
    have hv : scanV (fun j => !(t (2 * fr + 2 * j)).used) ((N + 1 - 2 * fr) / 2) (fun _ => false) true = emptyB N t fr := by
      unfold scanV emptyB; rw [← firstN_all]; cases firstN _ _ <;> rfl
    rw [hv] at key; exact key
  · have e := em_one N t ((2 * fr + 2 * j : Nat) : Int)
    rw [wrapI (by omega) (by omega)] at e
    refine Tr.cutX (emC_ok true false) 60 _ 0 (Nat.le_refl _) (s' := emS N t ((2 * fr + 2 * (j + 1) : Nat) : Int)) _ (by rw [show ((2 * fr + 2 * (j + 1) : Nat) : Int) = ((2 * fr + 2 * j : Nat) : Int) + 2 by omega]; exact e) (em_one' N t _) ?_
    rw [Int.toNat_natCast, ltN (by omega), inBN (by omega), decide_eq_true (show 2 * fr + 2 * j < N by omega)]
    show andT true (!(t (2 * fr + 2 * j)).used) = true
    rw [hb]; rfl
  · refine Tr.cutX (emC_ok true true) 60 _ 0 (Nat.le_refl _) (s' := emF false) _ (em_out N t _) (em_out' N t _) ?_
    rw [Int.toNat_natCast, ltN (by omega), inBN (by omega), decide_eq_true (show 2 * fr + 2 * j < N by omega)]
    show andT true (t (2 * fr + 2 * j)).used = true
    rw [show (t (2 * fr + 2 * j)).used = true by simpa using hb]; rfl
  · refine Tr.cutX (emC_ok false true) 60 _ 0 (Nat.le_refl _) (s' := ⟨slotsOf 19 [], [], true⟩) _ (em_end N t _) (em_end' N t _) ?_
    rw [nltN (by omega)]; rfl
  · exact TrL.rest (emC_ok true true) 60 (by kernel_rfl) rfl
end Go.Proofs.YtkcmlclomcidiaaDoor.Tr
