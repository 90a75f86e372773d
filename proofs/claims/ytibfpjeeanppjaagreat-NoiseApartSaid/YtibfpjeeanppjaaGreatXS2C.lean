/- This file proves the contract of sha's Short: the short digest of its parts side by side. Conditions: lengths that memory bears. -/
import Derived.Test.YtibfpjeeanppjaaGreatXS2B
set_option linter.all false
set_option maxRecDepth 100000
namespace Go.Proofs.YtibfpjeeanppjaaGreat.S2
open Go Go.Sy Sh
theorem wL (p : List Int) (j : Nat) : (p.drop (64 * j)).take 64 = (p.take (64 * (j + 1))).drop (64 * j) := by
  rw [List.drop_take, show 64 * (j + 1) - 64 * j = 64 by omega]
theorem wM {p q : List Int} (kk s : List Int) : ∀ j, p.take (64 * j) = q.take (64 * j) → iy p kk s j = iy q kk s j
  | 0, _ => rfl
  | j + 1, h => by
    have h0 : p.take (64 * j) = q.take (64 * j) := by
      have := congrArg (List.take (64 * j)) h
      rwa [List.take_take, List.take_take, Nat.min_eq_left (by omega)] at this
    simp only [iy]
    rw [wM kk s j h0, wL, wL, h]
theorem sF (p kk s : List Int) (N : Nat) : ∀ j, iy p kk s (N + j) = iy (p.drop (64 * N)) kk (iy p kk s N) j
  | 0 => rfl
  | j + 1 => by
    show gR (iy p kk s (N + j)) ((p.drop (64 * (N + j))).take 64) kk = gR (iy (p.drop (64 * N)) kk (iy p kk s N) j) (((p.drop (64 * N)).drop (64 * j)).take 64) kk
    rw [sF p kk s N j, List.drop_drop, show 64 * N + 64 * j = 64 * (N + j) by omega]
noncomputable def Cv (xs : List Int) : Blk := dg (iy xs gA qd (xs.length / 64)) (xs.drop (64 * (xs.length / 64))) xs.length
theorem EL (xs b : List Int) : iy (xs.drop (64 * (xs.length / 64)) ++ b) gA (iy xs gA qd (xs.length / 64)) ((xs.drop (64 * (xs.length / 64)) ++ b).length / 64) = iy (xs ++ b) gA qd ((xs ++ b).length / 64) ∧
    (xs.drop (64 * (xs.length / 64)) ++ b).drop (64 * ((xs.drop (64 * (xs.length / 64)) ++ b).length / 64)) = (xs ++ b).drop (64 * ((xs ++ b).length / 64)) := by
  have hN : 64 * (xs.length / 64) ≤ xs.length := by omega
  generalize hn : xs.length / 64 = N at *
  have e : xs.drop (64 * N) ++ b = (xs ++ b).drop (64 * N) := (List.drop_append_of_le_length hN).symm
  have et : iy xs gA qd N = iy (xs ++ b) gA qd N := wM _ _ _ (by rw [List.take_append_of_le_length hN])
  have hl : ((xs ++ b).drop (64 * N)).length = (xs ++ b).length - 64 * N := List.length_drop ..
  have mD : xs.length ≤ (xs ++ b).length := by simp
  have hq : (xs ++ b).length / 64 = N + ((xs ++ b).drop (64 * N)).length / 64 := by rw [hl]; omega
  rw [e, et, ← sF, hq, List.drop_drop, show 64 * N + 64 * (((xs ++ b).drop (64 * N)).length / 64) = 64 * (N + ((xs ++ b).drop (64 * N)).length / 64) by omega]
  exact ⟨rfl, rfl⟩
def rj (xs : List Int) : List Int := nM xs xs.length
noncomputable def aj (xs : List Int) : List Int := gH (C5 (iy (rj xs) gA qd ((rj xs).length / 64)))
theorem bz (xs : List Int) : (aj xs).length = 32 := by rw [aj, aC]; simp [C5]
theorem jY (xs : List Int) : ∀ x ∈ aj xs, 0 ≤ x ∧ x < 256 := by
  intro x hx
  simp only [aj, aC, C5, List.mem_map] at hx
  obtain ⟨i, _, rfl⟩ := hx
  simp only [IntKind.wrap, IntKind.signed, IntKind.bits]
  simp
  omega
theorem EM (xs : List Int) : mT (iy xs gA qd (xs.length / 64)) (xs.drop (64 * (xs.length / 64))) xs.length = aj xs := by
  have hN : 64 * (xs.length / 64) ≤ xs.length := by omega
  generalize hn : xs.length / 64 = N at *
  have hr : (xs.drop (64 * N)).length = xs.length - 64 * N := List.length_drop ..
  have hk : cR (xs.drop (64 * N)).length 64 56 = cR xs.length 64 56 := by unfold cR; rw [hr]; omega
  have e : nM (xs.drop (64 * N)) xs.length = (rj xs).drop (64 * N) := by
    unfold rj nM eC
    rw [hk, List.append_assoc, List.append_assoc, List.append_assoc, List.append_assoc, List.drop_append_of_le_length hN]
  have et : iy xs gA qd N = iy (rj xs) gA qd N := wM _ _ _ (by
    unfold rj nM eC
    rw [List.append_assoc, List.append_assoc, List.take_append_of_le_length hN])
  have hl : ((rj xs).drop (64 * N)).length = (rj xs).length - 64 * N := List.length_drop ..
  have mD : xs.length ≤ (rj xs).length := by unfold rj nM eC; simp only [List.length_append]; omega
  have hq : (rj xs).length / 64 = N + ((rj xs).drop (64 * N)).length / 64 := by rw [hl]; omega
  rw [mT, aj, aC, e, et, ← sF, hq]
noncomputable def hC (x : Bool) : br := mk (P := Tryz.prog) [CZ, uE, aah] [] fun i => if i = 10 then some x else none
theorem wo (x : Bool) : ag Tryz.prog (hC x) := ah _ aq.nil _ _
noncomputable def hB : Code := aE Tryz.f68
noncomputable def hS (xss : List (List Int)) (d : Blk) (i : Int) : St := ⟨slotsOf 19 [(2, .ptr 0 0 0), (3, .ptr 1 0 0), (7, .iu false xss), (8, .int .i64 xss.length), (9, .int .i64 i)], [.b [.ints .u8 32 iA], d], true⟩
section
variable (xss : List (List Int)) (st r : List Int) (n i : Int)
theorem Yl : (aT Tryz.prog (hC true) 60 0 3 (atoms hB) ⟨aO Tryz.f68.ntmps [.iu false xss], [], true⟩).bind (St.cut [2, 3, 7, 8, 9] 2) = some (hS xss (dg qd [] 0) 0) := by kernel_rfl
theorem adF : (exec Tryz.prog (hC true) 60 0 (inner (inner (az 3 hB))) (hS xss (dg st r n) i)).bind (fun r => (r.2.cut [2, 3, 7, 8, 9] 2).map fun q => (r.1, q)) =
    some (.normal, { hS xss (dg (iy (r ++ xss.getD i.toNat []) gA st ((r ++ xss.getD i.toNat []).length / 64)) ((r ++ xss.getD i.toNat []).drop (64 * ((r ++ xss.getD i.toNat []).length / 64))) (IntKind.i64.wrap (n + (xss.getD i.toNat []).length))) (IntKind.i64.wrap (i + 1)) with
      ob := aa (aa (aa (aa true (decide (i < xss.length))) (cN i xss.length)) (decide (i.toNat < xss.length))) (aa true (decide (st.length = 8) && decide (r.length + (xss.getD i.toNat []).length < 274877900000))) }) := by kernel_rfl
theorem adG : (exec Tryz.prog (hC false) 60 0 (inner (inner (az 3 hB))) (hS xss (dg st r n) i)).bind (fun r => (r.2.cut [2, 3, 7, 8, 9] 2).map fun q => (r.1, q)) =
    some (.exit 0, { hS xss (dg st r n) i with ob := aa true (!decide (i < xss.length)) }) := by kernel_rfl
end
theorem nQ {xss : List (List Int)} {j : Nat} (h : j < xss.length) : (xss.take (j + 1)).flatten = (xss.take j).flatten ++ xss.getD j [] := by
  rw [List.take_add_one, List.flatten_append, List.getD_eq_getElem?_getD, List.getElem?_eq_getElem h]
  simp
theorem AF (xss : List (List Int)) (j : Nat) : (xss.take j).flatten.length ≤ xss.flatten.length := by
  conv => rhs; rw [← List.take_append_drop j xss, List.flatten_append, List.length_append]
  omega
theorem NC {xss : List (List Int)} (h1 : xss.flatten.length < 274877900000) (h2 : xss.length ≤ 274877906944) : ai Tryz.prog 68 [.iu false xss] [] (.agg [.ints .u8 32 (aj xss.flatten)]) [] := by
  have bS : Tr Tryz.prog none 0 (az 3 hB) (hS xss (Cv []) 0) .normal (hS xss (Cv xss.flatten) xss.length) := by
    have key := Tr.loop (P := Tryz.prog) (ro := none) (k := 0) 0 (c := az 3 hB) (by kernel_rfl) (fun j : Nat => hS xss (Cv (xss.take j).flatten) j) xss.length (s' := hS xss (Cv xss.flatten) xss.length) (fun j hj => ?_) ?_
    · exact key
    · generalize hx : (xss.take j).flatten = xs
      have hl := AF xss (j + 1)
      rw [nQ hj, hx, List.length_append] at hl
      have k := adF xss (iy xs gA qd (xs.length / 64)) (xs.drop (64 * (xs.length / 64))) xs.length j
      obtain ⟨e1, e2⟩ := EL xs (xss.getD j [])
      rw [Int.toNat_natCast, e1, e2, wrap_i64 (_ + _) (by omega) (by omega), wrap_i64 _ (by omega) (by omega), decide_eq_true (nR qe _), decide_eq_true (show (xs.drop (64 * (xs.length / 64))).length + (xss.getD j []).length < 274877900000 by rw [List.length_drop]; omega),
        decide_eq_true (show (j : Int) < xss.length by omega), aM (by omega) (by omega), decide_eq_true hj] at k
      refine Tr.post (Tr.cut (wo true) 60 _ 2 (by omega) k rfl) (bh.same ?_ ?_)
      · show (hS xss (Cv []) _).t = (hS xss (Cv []) _).t
        rw [show ((j : Int) + 1) = ((j + 1 : Nat) : Int) by omega]
      · show [_, _] = [_, _]
        rw [nQ hj, hx]
        unfold Cv
        rw [List.length_append, Int.natCast_add]
    · have k := adG xss (iy xss.flatten gA qd (xss.flatten.length / 64)) (xss.flatten.drop (64 * (xss.flatten.length / 64))) xss.flatten.length xss.length
      rw [List.take_length]
      exact Tr.post (Tr.cut (wo false) 60 _ 2 (by omega) k (by simp [aa])) (bh.same rfl rfl)
  rw [← EM]
  refine ai.cz (wo true) 60 4 0 Tryz.func68 (by simp) rfl (fun s' x h => ?_) (s := hS xss (Cv xss.flatten) xss.length)
    (p := aa true (aa true (decide ((iy xss.flatten gA qd (xss.flatten.length / 64)).length = 8) && decide ((xss.flatten.drop (64 * (xss.flatten.length / 64))).length < 274877900000)))) (by kernel_rfl) ?_ rfl rfl
  · refine aY.items (wo true) 60 3 _ 2 (by simp) (Yl xss) rfl (by decide) ?_
    exact aY.item 3 (by decide) (Tr.pre bS (bh.same rfl rfl)) h
  · rw [decide_eq_true (nR qe _), decide_eq_true (show (xss.flatten.drop (64 * (xss.flatten.length / 64))).length < 274877900000 by rw [List.length_drop]; omega)]; rfl
noncomputable def ND : List SV → Option (SV × List Blk × Bool)
  | [.iu false xss] => some (.agg [.ints .u8 32 (aj xss.flatten)], [], decide (xss.flatten.length < 274877900000) && decide (xss.length ≤ 274877906944))
  | _ => none
noncomputable def mM : Entry Tryz.prog := .val 68 _ Tryz.func68 (by decide) rfl true 0 ND fun vs v new e => by
  unfold ND at e
  split at e
  · simp only [Option.some.injEq, Prod.mk.injEq, Bool.and_eq_true, decide_eq_true_eq] at e
    obtain ⟨rfl, rfl, h1, h2⟩ := e
    exact NC h1 h2
  · cases e
end Go.Proofs.YtibfpjeeanppjaaGreat.S2
