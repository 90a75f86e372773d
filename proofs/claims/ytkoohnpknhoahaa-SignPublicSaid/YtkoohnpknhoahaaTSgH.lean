/- This file proves the laws of Sign as calls: they return true. Conditions: bytes within their kind. -/
import Derived.Test.YtkoohnpknhoahaaTSgG
set_option linter.all false
namespace Go.Proofs.Ytkoohnpknhoahaa.Sg
open Go Go.Sy Re Fe Po Sh
theorem by_all {l : List Int} (h : ∀ x ∈ l, 0 ≤ x ∧ x < 256) : l.all u8 = true := by_u8 h
noncomputable def l1C : Ctr := mk (P := Try.prog) [aliveE, publicE, publicRE] []
theorem l1C_ok : CtrSound Try.prog l1C := mk_sound _ InlOK.nil _ _
theorem public_law {l : List Int} (h : keyOK l = true) : FnTr Try.prog 3 [.agg [.ints .u8 32 l]] [] (.bool true) [] := by
  have hl := (keyBy h).1
  have key := call0 l1C_ok 60 Try.func3 (args := [.agg [.ints .u8 32 l]]) (v := .bool (decide (pubW l = pubW l))) (p := andT (andT (andT true (andT true (decide (l.length = 32)))) (andT true (keyOK l))) (andT (decide ((pubW l).length = 32)) (decide ((pubW l).length = 32)))) (by kernel_rfl)
    (by rw [h, pubW_len, hl]; rfl) rfl
  rw [decide_eq_true rfl] at key
  exact key
noncomputable def l2C (a : Bool) : Ctr := mk (P := Try.prog) [aliveE, verifyE, verifyRE] [] fun i => if i = 8 then some a else none
theorem l2C_ok (a : Bool) : CtrSound Try.prog (l2C a) := mk_sound _ InlOK.nil _ _
theorem verifies_law {p g t : List Int} (hp : keyOK p = true) (hg : g.length = 64) (hb : ∀ x ∈ g, 0 ≤ x ∧ x < 256) (ht : ∀ x ∈ t, 0 ≤ x ∧ x < 256) :
    FnTr Try.prog 4 [.agg [.ints .u8 32 p, .ints .u8 64 g, .ro false .u8 t]] [] (.bool true) [] := by
  by_cases hn : (t.length : Int) > 1000
  · exact call0 (l2C_ok true) 60 Try.func4 (p := andT true (decide ((t.length : Int) > 1000))) (by kernel_rfl) (by rw [decide_eq_true hn]; rfl) rfl
  · have key := call0 (l2C_ok false) 60 Try.func4 (v := .bool (verW p g [t].flatten == verW p g t))
      (p := andT (andT (andT true (!decide ((t.length : Int) > 1000))) (andT true (keyOK p && decide (g.length = 64) && g.all u8 && decide ([t].flatten.length < 270000000000) && true))) (andT true (keyOK p && decide (g.length = 64) && g.all u8 && t.all u8 && decide (t.length < 270000000000))))
      (args := [.agg [.ints .u8 32 p, .ints .u8 64 g, .ro false .u8 t]]) (by kernel_rfl)
      (by
        rw [List.flatten_cons, List.flatten_nil, List.append_nil, decide_eq_false hn, hp, by_all hb, by_all ht, decide_eq_true hg, decide_eq_true (show t.length < 270000000000 by omega)]
        rfl) rfl
    rw [List.flatten_cons, List.flatten_nil, List.append_nil, beq_self_eq_true] at key
    exact key
theorem verifies_all {p g t : List Int} (h : keyOK p = true ∧ (g.length = 64 ∧ ∀ x ∈ g, 0 ≤ x ∧ x < 256) ∧ ∀ x ∈ t, 0 ≤ x ∧ x < 256) : FnTr Try.prog 4 [.agg [.ints .u8 32 p, .ints .u8 64 g, .ro false .u8 t]] [] (.bool true) [] :=
  verifies_law h.1 h.2.1.1 h.2.1.2 h.2.2
noncomputable def l3C (a : Bool) : Ctr := mk (P := Try.prog) [aliveE, verifyE, signE, publicE] [] fun i => if i = 13 then some a else if i = 37 then some true else none
theorem l3C_ok (a : Bool) : CtrSound Try.prog (l3C a) := mk_sound _ InlOK.nil _ _
def cutK (t : List Int) (c : Int) : Int := IntKind.i64.wrap ((IntKind.u64.wrap c).tmod (IntKind.u64.wrap (IntKind.i64.wrap ((t.length : Int) + 1))))
def cutT (t : List Int) (c : Int) : List (List Int) := [t.take (cutK t c).toNat, t.drop (cutK t c).toNat]
theorem cutT_eq (t : List Int) (c : Int) : (cutT t c).flatten = t := by simp [cutT]
theorem cutK_in {t : List Int} (h : t.length ≤ 1000) (c : Int) : 0 ≤ cutK t c ∧ cutK t c ≤ t.length := by
  unfold cutK
  have e1 : IntKind.u64.wrap (IntKind.i64.wrap ((t.length : Int) + 1)) = (t.length : Int) + 1 := by
    rw [Sh.wrap_i64 _ (by omega) (by omega), Sh.wrap_u64, Int.emod_eq_of_lt (by omega) (by omega)]
  have h0 : 0 ≤ IntKind.u64.wrap c := (W_in c).1
  rw [e1, Int.tmod_eq_emod_of_nonneg h0]
  have h1 := Int.emod_nonneg (IntKind.u64.wrap c) (b := (t.length : Int) + 1) (by omega)
  have h2 := Int.emod_lt_of_pos (IntKind.u64.wrap c) (b := (t.length : Int) + 1) (by omega)
  rw [Sh.wrap_i64 _ (by omega) (by omega)]
  omega
noncomputable def bkO (l t : List Int) (c : Int) : Bool :=
  let K := cutK t c
  let b1 := andT true (decide (0 ≤ K) && decide (K ≤ t.length))
  let o1 := andT (andT (andT (andT true (!decide ((t.length : Int) > 1000))) (IntKind.u64.wrap (IntKind.i64.wrap ((t.length : Int) + 1)) != 0)) (andT true (decide (l.length = 32) && decide ([t].flatten.length < 270000000000) && true))) (andT true (decide (l.length = 32)))
  let o2 := andT (andT (andT o1 b1) (andT true b1)) (andT true (keyOK (pubW l) && decide ((sigW l [t].flatten).length = 64) && (sigW l [t].flatten).all u8 && decide ((cutT t c).flatten.length < 270000000000) && true))
  let o3 := andT (andT (andT o2 (verW (pubW l) (sigW l [t].flatten) (cutT t c).flatten)) b1) (andT true b1)
  andT (andT o3 (andT true (decide (l.length = 32) && decide ((cutT t c).flatten.length < 270000000000) && true))) (andT (decide ((sigW l [t].flatten).length = 64)) (decide ((sigW l (cutT t c).flatten).length = 64)))
set_option maxRecDepth 100000 in
theorem bk_run (l t : List Int) (c : Int) : (callS Try.prog (l3C false) 60 Try.f5 [.agg [.ints .u8 32 l], .ro false .u8 t, .int .i64 c] []).map (fun x => (x.1, x.2.2)) =
    some (.bool (decide (sigW l [t].flatten = sigW l (cutT t c).flatten)), bkO l t c) := by kernel_rfl
theorem back_law {l t : List Int} {c : Int} (hl : keyOK l = true) (_ : ∀ x ∈ t, 0 ≤ x ∧ x < 256) (_ : IntKind.i64.has c) : FnTr Try.prog 5 [.agg [.ints .u8 32 l], .ro false .u8 t, .int .i64 c] [] (.bool true) [] := by
  by_cases hn : (t.length : Int) > 1000
  · exact call0 (l3C_ok true) 60 Try.func5 (p := andT true (decide ((t.length : Int) > 1000))) (by kernel_rfl) (by rw [decide_eq_true hn]; rfl) rfl
  · have hk := cutK_in (t := t) (by omega) c
    have hw : (IntKind.u64.wrap (IntKind.i64.wrap ((t.length : Int) + 1)) != 0) = true := by
      rw [Sh.wrap_i64 _ (by omega) (by omega), Sh.wrap_u64, Int.emod_eq_of_lt (by omega) (by omega)]
      exact bne_iff_ne.2 (by omega)
    have ho : bkO l t c = true := by
      unfold bkO
      simp only [cutT_eq, List.flatten_cons, List.flatten_nil, List.append_nil]
      rw [decide_eq_false hn, hw, (keyBy hl).1, decide_eq_true hk.1, decide_eq_true hk.2, pub_key, sig_len, sig_u8, ver_sig, decide_eq_true (show t.length < 270000000000 by omega)]
      rfl
    have key := call0 (l3C_ok false) 60 Try.func5 (bk_run l t c) ho rfl
    rw [cutT_eq, List.flatten_cons, List.flatten_nil, List.append_nil, decide_eq_true rfl] at key
    exact key
noncomputable def l5C (a b : Bool) : Ctr := mk (P := Try.prog) [aliveE, verifyE, signE, publicE, verifyRE, publicRE] [] fun i => if i = 15 then some a else if i = 19 then some b else if i = 38 || i = 50 then some true else none
theorem l5C_ok (a b : Bool) : CtrSound Try.prog (l5C a b) := mk_sound _ InlOK.nil _ _
def s9 : List Int := ((List.replicate 32 0).set 0 9).set 1 9
noncomputable def otO (l t u : List Int) : Bool :=
  let S := sigW l [t].flatten
  let o1 := andT (andT (andT (andT true (!decide ((t.length : Int) > 1000))) (!decide ((u.length : Int) > 1000))) (andT true (decide (l.length = 32) && decide ([t].flatten.length < 270000000000) && true))) (andT true (decide (l.length = 32)))
  let o2 := andT (andT o1 (andT true (keyOK (pubW l) && decide (S.length = 64) && S.all u8 && decide ([u].flatten.length < 270000000000) && true))) (andT true (keyOK (pubW l) && decide (S.length = 64) && S.all u8 && u.all u8 && decide (u.length < 270000000000)))
  let o3 := andT (andT (andT o2 (verW (pubW l) S [u].flatten == verW (pubW l) S u)) (andT true (keyOK (pubW s9) && decide (S.length = 64) && S.all u8 && decide ([t].flatten.length < 270000000000) && true))) (andT true (keyOK (pubW s9) && decide (S.length = 64) && S.all u8 && t.all u8 && decide (t.length < 270000000000)))
  andT (andT o3 (verW (pubW s9) S [t].flatten == verW (pubW s9) S t)) (andT true (keyOK (pubW l) && decide (S.length = 64) && S.all u8 && decide ([t].flatten.length < 270000000000) && true))
set_option maxRecDepth 100000 in
theorem ot_run (l t u : List Int) : (callS Try.prog (l5C false false) 60 Try.f7 [.agg [.ints .u8 32 l], .ro false .u8 t, .ro false .u8 u] []).map (fun x => (x.1, x.2.2)) =
    some (.bool (verW (pubW l) (sigW l [t].flatten) [t].flatten), otO l t u) := by kernel_rfl
theorem other_law {l t u : List Int} (hl : keyOK l = true) (ht : ∀ x ∈ t, 0 ≤ x ∧ x < 256) (hu : ∀ x ∈ u, 0 ≤ x ∧ x < 256) : FnTr Try.prog 7 [.agg [.ints .u8 32 l], .ro false .u8 t, .ro false .u8 u] [] (.bool true) [] := by
  by_cases hn : (t.length : Int) > 1000
  · exact call0 (l5C_ok true true) 60 Try.func7 (p := andT true (decide ((t.length : Int) > 1000))) (by kernel_rfl) (by rw [decide_eq_true hn]; rfl) rfl
  by_cases hm : (u.length : Int) > 1000
  · exact call0 (l5C_ok false true) 60 Try.func7 (p := andT (andT true (!decide ((t.length : Int) > 1000))) (decide ((u.length : Int) > 1000))) (by kernel_rfl) (by rw [decide_eq_true hm, decide_eq_false hn]; rfl) rfl
  · have ho : otO l t u = true := by
      unfold otO
      simp only [List.flatten_cons, List.flatten_nil, List.append_nil, beq_self_eq_true]
      rw [decide_eq_false hn, decide_eq_false hm, (keyBy hl).1, pub_key, pub_key, sig_len, sig_u8, by_all ht, by_all hu, decide_eq_true (show t.length < 270000000000 by omega), decide_eq_true (show u.length < 270000000000 by omega)]
      rfl
    have key := call0 (l5C_ok false false) 60 Try.func7 (ot_run l t u) ho rfl
    rw [List.flatten_cons, List.flatten_nil, List.append_nil, ver_sig] at key
    exact key
end Go.Proofs.Ytkoohnpknhoahaa.Sg
