/- This file proves the contracts of kdf's tags and Expand: a secret, expanded. Conditions: lengths that the program takes. -/
import Derived.Test.YtkoohnpknhoahaaJKdA
set_option linter.all false
namespace Go.Sy
open Go
def fzT (b m : Nat) (s : St) : Option (St × Bool) := match St.fz b s with
  | some (s', p) => (s'.trunc m).map fun s2 => (s2, p)
  | none => none
theorem Ent.fzT {k b m : Nat} {s s2 : St} {p : Bool} (hb : k ≤ b) (hm : k ≤ m) (e : Go.Sy.fzT b m s = some (s2, p)) (hp : p = true) : Ent k s s2 := by
  subst hp
  unfold Go.Sy.fzT at e
  split at e
  case h_2 => cases e
  rename_i s' p' he
  obtain ⟨s3, h3, e⟩ := Option.map_eq_some_iff.1 e
  cases e
  exact (Ent.freeze hb he).trans (Ent.trunc hm h3)
theorem Ent.setV {k : Nat} {t : List (Option SV)} {h : List Blk} {o o' : Bool} (i : Nat) {v v' : SV} (hi : t[i]? = some (some v)) (hv : VE v v') : Ent k ⟨t, h, o⟩ ⟨t.set i (some v'), h, o'⟩ := by
  refine Ent.mono (by simp) (fun j u hj => ?_) rfl (fun i qs hi => ⟨qs, hi, PE.refl _⟩) (fun i g hi => hi)
  rw [List.getElem?_set] at hj
  split at hj
  · rename_i q
    subst q
    split at hj
    · cases hj; exact ⟨v, hi, hv⟩
    · cases hj
  · exact ⟨u, hj, VE.refl _⟩
theorem VE.nil_ro (f : Bool) (k : IntKind) : VE (.nl (.slice none 0 0)) (.ro f k []) := fun e y h => by
  have h' : y = .slice none 0 0 := h
  subst h'
  exact .inl ⟨rfl, none, 0, rfl, fun _ => rfl⟩
end Go.Sy
namespace Go.Proofs.Ytkoohnpknhoahaa.Kd
open Go Go.Sy Sh
noncomputable def c0 : Ctr := mk (P := Try.prog) [] []
theorem c0_ok : CtrSound Try.prog c0 := mk_sound _ InlOK.nil _ _
def tgF : List SV → Option (SV × List Blk × Bool)
  | [.ro false .u8 sec, .ro false .u8 info] => some (.fn (.func 183) [] [.ptr 0 0 0, .ptr 1 0 0], [.b [.ro false .u8 sec], .b [.ro false .u8 info]], true)
  | _ => none
set_option maxRecDepth 100000 in
noncomputable def tgE : Entry Try.prog := .val 159 _ Try.func159 (by decide) rfl true 2 tgF fun vs v new e => by
  unfold tgF at e
  split at e
  · cases e
    exact callM c0_ok 30 Try.func159 2 (by simp) (p := true) (by kernel_rfl) rfl rfl rfl
  · cases e
noncomputable def xpB : Code := bodyOf Try.f124
noncomputable def xpI : Code := inner (nthC 1 xpB)
noncomputable def xpR : Code := nthC 5 xpI
noncomputable def tgB : Code := bodyOf Try.f183
noncomputable def xpT : List (Option SV) := slotsOf 36 [(5, .ptr 0 0 0), (8, .ptr 2 0 0), (21, .fn (.func 183) [] [.ptr 3 0 0, .ptr 4 0 0])]
noncomputable def xpL (l : Nat) : Lp := rfL xpR xpT l
noncomputable def xpD (l : Nat) : Lp := { rfL xpR xpT l with st := .done, pend := some (.exit 0) }
noncomputable def xpH0 (sec info l : List Int) (m N : Nat) : List Blk := [.b [.int .i64 N], .b [.ints .u8 N l], .b [.sl 1 0 0 1 m N false false], .b [.ro false .u8 sec], .b [.ro false .u8 info]]
noncomputable def xpH (sec info l : List Int) (m N : Nat) (g : Option Lp) : List Blk := [.b [.int .i64 N], .b [.ints .u8 N l], .b [.sl 1 0 0 1 m N false false], .b [.ro false .u8 sec], .b [.ro false .u8 info], .g g]
noncomputable def tgS (sec info l : List Int) (m N : Nat) (last : List Int) (i : Int) (k : Nat) : St := ⟨slotsOf 25 [(0, .fn (.yield k) [] []), (1, .ptr 3 0 0), (2, .ptr 4 0 0), (4, .ro true .u8 last), (5, .int .u8 i)], xpH sec info l m N (some (xpL k)), true⟩
noncomputable def tgM (sec info l : List Int) (m N : Nat) (last t : List Int) (i j : Int) (k : Nat) : St := ⟨slotsOf 25 [(0, .fn (.yield k) [] []), (1, .ptr 3 0 0), (2, .ptr 4 0 0), (4, .sl 8 0 0 1 32 32 true true), (5, .int .u8 j)],
  [.b [.int .i64 N], .b [.ints .u8 N l], .b [.sl 1 0 0 1 m N false false], .b [.ro false .u8 sec], .b [.ro false .u8 info], .g (some (xpL k)), .b [.ints .u8 1 [i]], .b [.ro true .u8 last, .ro false .u8 info, .sl 6 0 0 1 1 1 true true], .b [.ints .u8 32 t]], true⟩
noncomputable def tgC (a : Bool) : Ctr := mk (P := Try.prog) [tagE] [] fun i => if i = 34 then some a else if i = 22 then some false else none
theorem tgC_ok (a : Bool) : CtrSound Try.prog (tgC a) := mk_sound _ InlOK.nil _ _
def xpI0 (m N : Nat) : Int := if IntKind.i64.wrap ((N : Int) - (m : Int)) < 32 then IntKind.i64.wrap ((N : Int) - (m : Int)) else 32
def xpN (m N : Nat) : Nat := (xpI0 m N).toNat
noncomputable def tT (sec last info : List Int) (i : Int) : List Int := tagW sec [last, info, [i]].flatten
noncomputable def xpW (l t : List Int) (m N : Nat) : List Int := spl l (0 + m) ((t.drop 0).take (xpN m N)) (xpN m N)
noncomputable def xpA (sec last info : List Int) (i : Int) : Bool := andT true (andT true (decide (sec.length < 274877900000) && decide ([last, info, [i]].flatten.length < 274877890000) && true))
noncomputable def xpY (l t : List Int) (m N k : Nat) : Bool := andT (andT (andT (decide (k = k)) (decide (k = k))) (andT true (decide (0 ≤ xpI0 m N) && decide (xpI0 m N ≤ 32)))) (andT (andT (decide (0 + xpN m N ≤ 32) && decide (0 + xpN m N ≤ t.length)) (decide (m + xpN m N ≤ N))) (decide (l.length = N) && decide (0 + m + xpN m N ≤ N) && decide (xpN m N ≤ ((t.drop 0).take (xpN m N)).length)))
section
variable (sec info l last t : List Int) (m N k : Nat) (i : Int)
set_option maxRecDepth 100000 in
theorem tg_one : (exec Try.prog (tgC false) 60 6 (inner (inner (nthC 2 tgB))) (tgS sec info l m N last i k)).bind (fun r => (r.2.cut [0, 1, 2, 4, 5] 9).map fun q => (r.1, q)) =
    some (.normal, { tgM sec info (xpW l (tT sec last info i) m N) (m + xpN m N) N last (tT sec last info i) i (IntKind.u8.wrap (i + 1)) k with
      ob := andT (andT (xpA sec last info i) (andT (andT (xpY l (tT sec last info i) m N k) (!((m + xpN m N : Nat) : Int) == (N : Int))) (decide (k = k)))) (!i == 255) }) := by kernel_rfl
set_option maxRecDepth 100000 in
theorem tg_fz (j : Int) : fzT 8 6 (tgM sec info l m N last t i j k) = some (tgS sec info l m N t j k, andT (decide (t.length = 32)) true) := by kernel_rfl
set_option maxRecDepth 100000 in
theorem tg_last : (exec Try.prog (tgC true) 60 6 (inner (inner (nthC 2 tgB))) (tgS sec info l m N last i k)).bind (fun r => (r.2.cut [] 6).map fun q => (r.1, q)) =
    some (.ret, ⟨slotsOf 25 [], xpH sec info (xpW l (tT sec last info i) m N) (m + xpN m N) N (some (xpD k)),
      andT (xpA sec last info i) (andT (andT (xpY l (tT sec last info i) m N k) (((m + xpN m N : Nat) : Int) == (N : Int))) (decide (k = k)))⟩) := by kernel_rfl
set_option maxRecDepth 100000 in
theorem tg_head : (execL Try.prog (tgC false) 60 6 2 (atoms tgB) ⟨slots0 Try.f183.ntmps [.fn (.yield k) [] [], .ptr 3 0 0, .ptr 4 0 0], xpH sec info l m N (some (xpL k)), true⟩).bind (St.cut [0, 1, 2, 4, 5] 6) =
    some ⟨slotsOf 25 [(0, .fn (.yield k) [] []), (1, .ptr 3 0 0), (2, .ptr 4 0 0), (4, .nl (.slice none 0 0)), (5, .int .u8 1)], xpH sec info l m N (some (xpL k)), true⟩ := by kernel_rfl
end
noncomputable def xpS (sec info : List Int) : Nat → List Int
  | 0 => []
  | j + 1 => tT sec (xpS sec info j) info ((j + 1 : Nat) : Int)
noncomputable def xpC (sec info : List Int) : Nat → List Int
  | 0 => []
  | j + 1 => xpC sec info j ++ xpS sec info (j + 1)
noncomputable def xpP (sec info : List Int) (N j : Nat) : List Int := xpC sec info j ++ List.replicate (N - 32 * j) 0
noncomputable def expandW (sec info : List Int) (N : Nat) : List Int := xpC sec info ((N - 1) / 32) ++ (xpS sec info ((N - 1) / 32 + 1)).take (N - 32 * ((N - 1) / 32))
theorem tT_len (sec last info : List Int) (i : Int) : (tT sec last info i).length = 32 := tagW_len _ _
theorem xpS_len (sec info : List Int) (j : Nat) : (xpS sec info (j + 1)).length = 32 := tT_len _ _ _ _
theorem xpS_le (sec info : List Int) : ∀ j, (xpS sec info j).length ≤ 32
  | 0 => by simp [xpS]
  | j + 1 => by rw [xpS_len]; exact Nat.le_refl _
theorem xpC_len (sec info : List Int) : ∀ j, (xpC sec info j).length = 32 * j
  | 0 => rfl
  | j + 1 => by rw [xpC, List.length_append, xpC_len sec info j, xpS_len]; omega
theorem xpP_len (sec info : List Int) {N j : Nat} (h : 32 * j ≤ N) : (xpP sec info N j).length = N := by unfold xpP; rw [List.length_append, xpC_len, List.length_replicate]; omega
theorem expandW_len (sec info : List Int) (N : Nat) : (expandW sec info N).length = N := by
  unfold expandW
  rw [List.length_append, xpC_len, List.length_take, xpS_len]
  omega
theorem xpN_eq {m N : Nat} (h : m ≤ N) (hN : N ≤ 8160) : xpN m N = min 32 (N - m) ∧ 0 ≤ xpI0 m N ∧ xpI0 m N ≤ 32 := by
  unfold xpN xpI0
  rw [wrap_i64 _ (by omega) (by omega)]
  split <;> omega
theorem xp_spl {sec info : List Int} {N j n : Nat} (_ : 32 * j + n ≤ N) (t : List Int) (ht : n ≤ t.length) : spl (xpP sec info N j) (0 + 32 * j) ((t.drop 0).take n) n = xpC sec info j ++ t.take n ++ List.replicate (N - 32 * j - n) 0 := by
  have hc := xpC_len sec info j
  unfold spl xpP
  rw [Nat.zero_add, List.drop_zero, List.take_left' hc, List.take_of_length_le (by rw [List.length_take]; omega), ← List.drop_drop, List.drop_left' hc, List.drop_replicate]
theorem xpA_true {sec info : List Int} (hs : sec.length < 274877900000) (hi : info.length < 270000000000) (j : Nat) (i : Int) : xpA sec (xpS sec info j) info i = true := by
  have h := xpS_le sec info j
  unfold xpA
  rw [decide_eq_true hs, decide_eq_true (show [xpS sec info j, info, [i]].flatten.length < 274877890000 by simp only [List.flatten_cons, List.flatten_nil, List.length_append, List.length_cons, List.length_nil]; omega)]
  rfl
theorem xpY_true {l t : List Int} {m N : Nat} (hm : m ≤ N) (hN : N ≤ 8160) (hl : l.length = N) (ht : t.length = 32) (k : Nat) : xpY l t m N k = true := by
  obtain ⟨e, h0, h1⟩ := xpN_eq hm hN
  have hk : xpN m N ≤ 32 ∧ m + xpN m N ≤ N := by rw [e]; omega
  have htl : ((t.drop 0).take (xpN m N)).length = xpN m N := by rw [List.drop_zero, List.length_take, ht]; omega
  unfold xpY
  rw [htl, ht, hl, decide_eq_true h0, decide_eq_true h1, decide_eq_true (show 0 + xpN m N ≤ 32 by omega), decide_eq_true hk.2, decide_eq_true (show 0 + m + xpN m N ≤ N by omega), decide_eq_true (Nat.le_refl (xpN m N))]
  simp [andT]
set_option maxRecDepth 100000 in
theorem tg_fn {sec info : List Int} {N : Nat} (hs : sec.length < 274877900000) (hi : info.length < 270000000000) (hN : N ≤ 8160) (k : Nat) :
    FnTr Try.prog 183 [.fn (.yield k) [] [], .ptr 3 0 0, .ptr 4 0 0] (xpH sec info (xpP sec info N 0) 0 N (some (xpL k))) (.tup []) (xpH sec info (expandW sec info N) N N (some (xpD k))) := by
  have hq : 32 * ((N - 1) / 32) ≤ N := by omega
  have hloop : Tr Try.prog none 6 (nthC 2 tgB) (tgS sec info (xpP sec info N 0) 0 N [] 1 k) .ret ⟨slotsOf 25 [], xpH sec info (expandW sec info N) N N (some (xpD k)), true⟩ := by
    refine Tr.loopRet 0 (by kernel_rfl) ?_
    have key0 := TrR.for (P := Try.prog) (ro := none) (k := 6) (b := inner (inner (nthC 2 tgB))) (x := .ret) (s' := ⟨slotsOf 25 [], xpH sec info (expandW sec info N) N N (some (xpD k)), true⟩) (by simp)
      (fun j : Nat => tgS sec info (xpP sec info N j) (32 * j) N (xpS sec info j) ((j + 1 : Nat) : Int) k) ((N - 1) / 32) (fun j hj => ?_) ?_
    · exact TrR.pre key0 (Ent.same rfl rfl)
    · have hj2 : 32 * j + 32 < N := by omega
      obtain ⟨e, _, _⟩ := xpN_eq (m := 32 * j) (N := N) (by omega) hN
      have e32 : xpN (32 * j) N = 32 := by rw [e]; omega
      have kk := tg_one sec info (xpP sec info N j) (xpS sec info j) (32 * j) N k ((j + 1 : Nat) : Int)
      have hw : xpW (xpP sec info N j) (tT sec (xpS sec info j) info ((j + 1 : Nat) : Int)) (32 * j) N = xpP sec info N (j + 1) := by
        unfold xpW
        rw [e32, xp_spl (by omega) _ (by rw [tT_len]; exact Nat.le_refl _), List.take_of_length_le (by rw [tT_len]; exact Nat.le_refl _)]
        unfold xpP
        rw [xpC, xpS, show N - 32 * j - 32 = N - 32 * (j + 1) by omega]
      have h1 : (!(((32 * j + 32 : Nat) : Int) == (N : Int))) = true := by simp; omega
      have h2 : (!(((j + 1 : Nat) : Int) == 255)) = true := by simp; omega
      have h3 : IntKind.u8.wrap (((j + 1 : Nat) : Int) + 1) = ((j + 1 + 1 : Nat) : Int) := by
        have : ∀ z : Int, IntKind.u8.wrap z = z % 256 := fun z => by simp [IntKind.wrap, IntKind.signed, IntKind.bits]
        rw [this]; omega
      rw [hw, e32, xpA_true hs hi, xpY_true (by omega) hN (xpP_len _ _ (by omega)) (tT_len _ _ _ _), h1, h2, h3, decide_eq_true rfl] at kk
      refine Tr.post (Tr.post (Tr.cut (tgC_ok false) 60 _ 9 (by omega) kk rfl) (Ent.same rfl rfl)) ?_
      exact Ent.fzT (by omega) (by omega) (tg_fz sec info (xpP sec info N (j + 1)) (xpS sec info j) (tT sec (xpS sec info j) info ((j + 1 : Nat) : Int)) (32 * j + 32) N k ((j + 1 : Nat) : Int) ((j + 1 + 1 : Nat) : Int)) (by rw [tT_len]; rfl)
    · have kk := tg_last sec info (xpP sec info N ((N - 1) / 32)) (xpS sec info ((N - 1) / 32)) (32 * ((N - 1) / 32)) N k (((N - 1) / 32 + 1 : Nat) : Int)
      obtain ⟨e, _, _⟩ := xpN_eq hq hN
      have eN : xpN (32 * ((N - 1) / 32)) N = N - 32 * ((N - 1) / 32) := by rw [e]; omega
      have hw : xpW (xpP sec info N ((N - 1) / 32)) (tT sec (xpS sec info ((N - 1) / 32)) info (((N - 1) / 32 + 1 : Nat) : Int)) (32 * ((N - 1) / 32)) N = expandW sec info N := by
        unfold xpW
        rw [eN, xp_spl (by omega) _ (by rw [tT_len]; omega), show N - 32 * ((N - 1) / 32) - (N - 32 * ((N - 1) / 32)) = 0 by omega, List.replicate_zero, List.append_nil]
        rfl
      have h1 : (((N : Nat) : Int) == (N : Int)) = true := beq_self_eq_true _
      rw [hw, xpA_true hs hi, xpY_true hq hN (xpP_len _ _ hq) (tT_len _ _ _ _), eN, show 32 * ((N - 1) / 32) + (N - 32 * ((N - 1) / 32)) = N by omega, h1, decide_eq_true rfl] at kk
      exact Tr.cut (tgC_ok true) 60 _ 6 (by omega) kk rfl
  refine FnTr.mk (vs := []) Try.func183 rfl (x := .ret) (s := ⟨slotsOf 25 [], xpH sec info (expandW sec info N) N N (some (xpD k)), true⟩) ?_ (.inl rfl) (by kernel_rfl)
  refine TrL.items (tgC_ok false) 60 2 _ 6 (by show 6 ≤ 6; omega) (tg_head sec info _ 0 N k) rfl (by decide) ?_
  refine TrL.pre ?_ (Ent.setV (o' := true) 4 (v := .nl (.slice none 0 0)) (v' := .ro true .u8 []) rfl (VE.nil_ro _ _)) (by decide)
  exact TrL.leave 2 (by decide) (by simp) (Tr.pre hloop (Ent.same rfl rfl))
end Go.Proofs.Ytkoohnpknhoahaa.Kd
