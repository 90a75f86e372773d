/- This file proves the law SignOnce as a call: it returns true. Conditions: bytes within their kind. -/
import Derived.Test.YtkoohnpknhoahaaTSgG
set_option linter.all false
namespace Go.Proofs.Ytkoohnpknhoahaa.Sg
open Go Go.Sy Re Fe Po Sh
noncomputable def l4C (a b : Bool) : Ctr := mk (P := Try.prog) [aliveE, verifyE, publicRE, signRE, Po.orderRE] [] fun i => if i = 14 then some a else if i = 20 then some b else none
theorem l4C_ok (a b : Bool) : CtrSound Try.prog (l4C a b) := mk_sound _ InlOK.nil _ _
noncomputable def onB : Code := bodyOf Try.f6
noncomputable def onS (l t g : List Int) (c i : Int) : St := ⟨slotsOf 49 [(1, .ro false .u8 t), (2, .ptr 0 0 0), (5, .ptr 1 0 0), (6, .ptr 2 0 0), (7, .int .i64 c), (19, .int .i64 i)], [.b [.ints .u8 32 l], .b [.ints .u8 64 g], .b [.ints .u8 32 ordK]], true⟩
def onI (i : Int) : Nat := 0 + (IntKind.i64.wrap (32 + i)).toNat
def onN (g : List Int) (c i : Int) : Int := IntKind.i64.wrap (IntKind.i64.wrap (IntKind.i64.wrap (g.getD (onI i) 0) + IntKind.i64.wrap (ordK.getD (0 + i.toNat) 0)) + c)
def onO (i : Int) (n : Nat) : Bool := andT (andT (andT (andT (andT (andT (andT true (decide (i < 32))) (inB (IntKind.i64.wrap (32 + i)) 64)) (decide (onI i < 64))) (inB i 32)) (decide (0 + i.toNat < 32))) (inB (IntKind.i64.wrap (32 + i)) 64)) (decide (onI i < 64) && decide (n = 64))
set_option maxRecDepth 100000 in
theorem on_head (l t : List Int) : (execL Try.prog (l4C false true) 60 0 9 (atoms onB) ⟨slots0 Try.f6.ntmps [.agg [.ints .u8 32 l], .ro false .u8 t], [], true⟩).bind (St.cut [1, 2, 5, 6, 7, 19] 3) =
    some { onS l t (sigW l t) 0 0 with ob := andT (andT true (!decide ((t.length : Int) > 1000))) (andT true (keyOK l && t.all u8 && decide (t.length < 270000000000))) } := by kernel_rfl
set_option maxRecDepth 100000 in
theorem on_one (l t g : List Int) (c i : Int) : (exec Try.prog (l4C false true) 60 0 (inner (inner (nthC 9 onB))) (onS l t g c i)).bind (fun r => (r.2.cut [1, 2, 5, 6, 7, 19] 3).map fun q => (r.1, q)) =
    some (.normal, { onS l t (g.set (onI i) (IntKind.u8.wrap (onN g c i))) (shrI .i64 (onN g c i) 8) (IntKind.i64.wrap (i + 1)) with ob := onO i g.length }) := by kernel_rfl
set_option maxRecDepth 100000 in
theorem on_end (l t g : List Int) (c i : Int) : (exec Try.prog (l4C false false) 60 0 (inner (inner (nthC 9 onB))) (onS l t g c i)).bind (fun r => (r.2.cut [1, 2, 5, 6, 7, 19] 3).map fun q => (r.1, q)) =
    some (.exit 0, { onS l t g c i with ob := andT true (!decide (i < 32)) }) := by kernel_rfl
def onP (g : List Int) : Nat → List Int × Int
  | 0 => (g, 0)
  | j + 1 => ((onP g j).1.set (32 + j) (((onP g j).1.getD (32 + j) 0 + ordK.getD j 0 + (onP g j).2) % 256), ((onP g j).1.getD (32 + j) 0 + ordK.getD j 0 + (onP g j).2) / 256)
theorem val_snoc : ∀ (j : Nat) (x : List Int), Fe.val256 (x.take (j + 1)) = Fe.val256 (x.take j) + 256 ^ j * x.getD j 0
  | 0, [] => by simp [Fe.val256]
  | 0, a :: x => by simp [Fe.val256]
  | j + 1, [] => by simp [Fe.val256]
  | j + 1, a :: x => by
    have ih := val_snoc j x
    simp only [List.take_succ_cons, Fe.val256, List.getD_cons_succ] at ih ⊢
    rw [ih, Int.mul_add, Int.pow_succ, Int.mul_comm (256 ^ j) 256, Int.mul_assoc]
    omega
theorem byte_get {g : List Int} (h : ∀ x ∈ g, 0 ≤ x ∧ x < 256) (i : Nat) : 0 ≤ g.getD i 0 ∧ g.getD i 0 < 256 := by
  rw [List.getD_eq_getElem?_getD]
  cases e : g[i]? with
  | none => exact ⟨by decide, by decide⟩
  | some x => exact h x (List.mem_of_getElem? e)
theorem ordK_by : ∀ x ∈ ordK, (0 : Int) ≤ x ∧ x < 256 := by decide
theorem onP_inv {g : List Int} (hl : g.length = 64) (hb : ∀ x ∈ g, 0 ≤ x ∧ x < 256) : ∀ j, j ≤ 32 → (onP g j).1.length = 64 ∧ (∀ x ∈ (onP g j).1, 0 ≤ x ∧ x < 256) ∧ 0 ≤ (onP g j).2 ∧ (onP g j).2 ≤ 1 ∧
    (∀ i, i < 32 ∨ 32 + j ≤ i → (onP g j).1.getD i 0 = g.getD i 0) ∧ Fe.val256 (((onP g j).1.drop 32).take j) + 256 ^ j * (onP g j).2 = Fe.val256 ((g.drop 32).take j) + Fe.val256 (ordK.take j)
  | 0, _ => ⟨hl, hb, Int.le_refl 0, (by decide : (0 : Int) ≤ 1), fun _ _ => rfl, by simp [onP, Fe.val256]⟩
  | j + 1, hj => by
    obtain ⟨h1, h2, h3, h4, h5, h6⟩ := onP_inv hl hb j (by omega)
    have b1 := byte_get h2 (32 + j)
    have b2 := byte_get ordK_by j
    have e1 := h5 (32 + j) (.inr (by omega))
    simp only [onP]
    generalize onP g j = q at *
    obtain ⟨h, c⟩ := q
    simp only at *
    have hlt : 32 + j < h.length := by omega
    refine ⟨by simp [h1], ?_, by omega, by omega, fun i hi => ?_, ?_⟩
    · intro x hx
      rcases List.mem_or_eq_of_mem_set hx with hx | rfl
      · exact h2 x hx
      · omega
    · rw [List.getD_eq_getElem?_getD, List.getElem?_set_ne (by omega), ← List.getD_eq_getElem?_getD]
      exact h5 i (by omega)
    · rw [val_snoc, val_snoc, val_snoc]
      have k1 : ((h.set (32 + j) ((h.getD (32 + j) 0 + ordK.getD j 0 + c) % 256)).drop 32).take j = (h.drop 32).take j := by
        rw [List.drop_set, if_neg (by omega), List.take_set_of_le (by omega)]
      have k2 : ((h.set (32 + j) ((h.getD (32 + j) 0 + ordK.getD j 0 + c) % 256)).drop 32).getD j 0 = (h.getD (32 + j) 0 + ordK.getD j 0 + c) % 256 := by
        rw [List.getD_eq_getElem?_getD, List.getElem?_drop, List.getElem?_set_self hlt]; rfl
      have k3 : (g.drop 32).getD j 0 = h.getD (32 + j) 0 := by
        rw [List.getD_eq_getElem?_getD, List.getElem?_drop, ← List.getD_eq_getElem?_getD, e1]
      rw [k1, k2, k3]
      generalize h.getD (32 + j) 0 = a at *
      generalize ordK.getD j 0 = b at *
      have hd := Int.mul_ediv_add_emod (a + b + c) 256
      have hp : (256 : Int) ^ (j + 1) = 256 ^ j * 256 := Int.pow_succ ..
      generalize (256 : Int) ^ j = P at *
      rw [hp, Int.mul_assoc, Int.add_assoc, ← Int.mul_add, Int.add_comm ((a + b + c) % 256), hd, Int.mul_add, Int.mul_add]
      omega
theorem on_false {p t l : List Int} : verW p (onP (sigW l t) 32).1 t = false := by
  obtain ⟨h1, h2, h3, h4, h5, h6⟩ := onP_inv (sig_len l t) (sig_by l t) 32 (Nat.le_refl _)
  have hk := half_key h1 h2
  have e0 : Fe.val256 (((sigW l t).drop 32).take 32) = ((numB (sW l t) : Nat) : Int) := by
    rw [sig_drop]
    have := Fe.val256_nonneg (keyOK_iff.1 (sW_ok l t).1).2
    unfold numB
    omega
  have e1 : numB (sW l t) < LN := by rw [(sW_ok l t).2]; exact Nat.mod_lt _ (by decide)
  have e2 : Fe.val256 (ordK.take 32) = (LN : Int) := by decide
  have e3 : (LN : Int) = 7237005577332262213973186563042994240857116359379907606001950938285454250989 := by decide
  have e4 : (256 : Int) ^ 32 = 115792089237316195423570985008687907853269984665640564039457584007913129639936 := by decide
  have e5 := Fe.val256_nonneg (keyOK_iff.1 hk).2
  rw [e0, e2, e4] at h6
  have hge : ¬ numB (((onP (sigW l t) 32).1.drop 32).take 32) < LN := by
    unfold numB
    generalize Fe.val256 (((onP (sigW l t) 32).1.drop 32).take 32) = v at *
    generalize (onP (sigW l t) 32).2 = c at *
    generalize numB (sW l t) = n at *
    rw [e3] at h6
    have : (LN : Int) ≤ v := by rw [e3]; omega
    omega
  unfold verW
  rw [res_iff hk, decide_eq_false hge, Bool.and_false, Bool.false_and]
theorem once_law {l t : List Int} (hl : keyOK l = true) (ht : ∀ x ∈ t, 0 ≤ x ∧ x < 256) : FnTr Try.prog 6 [.agg [.ints .u8 32 l], .ro false .u8 t] [] (.bool true) [] := by
  by_cases hn : (t.length : Int) > 1000
  · exact call0 (l4C_ok true true) 60 Try.func6 (p := andT true (decide ((t.length : Int) > 1000))) (by kernel_rfl) (by rw [decide_eq_true hn]; rfl) rfl
  have inv := fun j hj => onP_inv (sig_len l t) (sig_by l t) j hj
  have hloop : Tr Try.prog none 0 (nthC 9 onB) (onS l t (sigW l t) 0 0) .normal (onS l t (onP (sigW l t) 32).1 (onP (sigW l t) 32).2 32) := by
    have key := Tr.loop (P := Try.prog) (ro := none) (k := 0) 0 (c := nthC 9 onB) (by kernel_rfl) (fun j : Nat => onS l t (onP (sigW l t) j).1 (onP (sigW l t) j).2 j) 32 (s' := onS l t (onP (sigW l t) 32).1 (onP (sigW l t) 32).2 32) (fun j hj => ?_) ?_
    · exact key
    · obtain ⟨h1, h2, h3, h4, _, _⟩ := inv j (by omega)
      have b1 := byte_get h2 (32 + j)
      have b2 := byte_get ordK_by j
      have k := on_one l t (onP (sigW l t) j).1 (onP (sigW l t) j).2 j
      have hi : onI j = 32 + j := by unfold onI; rw [Sh.wrap_i64 _ (by omega) (by omega)]; omega
      have hN : onN (onP (sigW l t) j).1 (onP (sigW l t) j).2 j = (onP (sigW l t) j).1.getD (32 + j) 0 + ordK.getD j 0 + (onP (sigW l t) j).2 := by
        unfold onN
        rw [hi, show 0 + (j : Int).toNat = j by omega, Sh.wrap_i64 ((onP (sigW l t) j).1.getD (32 + j) 0) (by omega) (by omega), Sh.wrap_i64 (ordK.getD j 0) (by omega) (by omega), Sh.wrap_i64 ((onP (sigW l t) j).1.getD (32 + j) 0 + ordK.getD j 0) (by omega) (by omega), Sh.wrap_i64 _ (by omega) (by omega)]
      have hO : onO j 64 = true := by
        unfold onO
        rw [hi, Sh.wrap_i64 _ (by omega) (by omega)]
        simp only [andT_iff, Bool.and_eq_true, decide_eq_true_eq, true_and]
        exact ⟨⟨⟨⟨⟨⟨by omega, inB_true (by omega) (by omega)⟩, by omega⟩, inB_true (by omega) (by omega)⟩, by omega⟩, inB_true (by omega) (by omega)⟩, by omega, trivial⟩
      have hw : ∀ z : Int, IntKind.u8.wrap z = z % 256 := fun z => by simp [IntKind.wrap, IntKind.signed, IntKind.bits]
      rw [hN, hi, h1, hO, hw, Fe.shr_eq _ _ _ (by decide), show (2 : Int) ^ 8 = 256 by decide, Sh.wrap_i64 ((j : Int) + 1) (by omega) (by omega)] at k
      refine Tr.post (Tr.cut (l4C_ok false true) 60 _ 3 (by omega) k rfl) (Ent.same ?_ rfl)
      show (onS l _ [] _ _).t = (onS l _ [] _ _).t
      rw [show ((j : Int) + 1) = ((j + 1 : Nat) : Int) by omega]; rfl
    · exact Tr.post (Tr.cut (l4C_ok false false) 60 _ 3 (by omega) (on_end l t _ _ 32) rfl) (Ent.same rfl rfl)
  obtain ⟨h1, h2, _, _, _, _⟩ := inv 32 (Nat.le_refl _)
  have key : FnTr Try.prog 6 [.agg [.ints .u8 32 l], .ro false .u8 t] [] (.bool (!verW (pubW l) (onP (sigW l t) 32).1 [t].flatten)) [] := by
    refine FnTr.restM (l4C_ok false true) 60 10 0 Try.func6 (by simp) rfl (fun s' x h => ?_) (s := onS l t (onP (sigW l t) 32).1 (onP (sigW l t) 32).2 32)
      (p := andT (andT (andT true (andT true (keyOK l))) (andT true (keyOK (pubW l) && decide ((onP (sigW l t) 32).1.length = 64) && (onP (sigW l t) 32).1.all u8 && decide ([t].flatten.length < 270000000000) && true))) true) (by kernel_rfl) ?_ rfl rfl
    · refine TrL.items (l4C_ok false true) 60 9 _ 3 (by simp) (on_head l t) (by rw [decide_eq_false hn, hl, by_u8 ht, decide_eq_true (show t.length < 270000000000 by omega)]; rfl) (by decide) ?_
      exact TrL.item 9 (by decide) hloop h
    · rw [hl, pub_key, h1, by_u8 h2, List.flatten_cons, List.flatten_nil, List.append_nil, decide_eq_true (show t.length < 270000000000 by omega)]; rfl
  rw [List.flatten_cons, List.flatten_nil, List.append_nil, on_false] at key
  exact key
end Go.Proofs.Ytkoohnpknhoahaa.Sg
