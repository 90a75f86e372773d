/- This file holds the texts MkH, MkI, a section each. No conditions beyond those in the theorems. -/
import Derived.Test.YthlnlcijnoadcaaGreatDoorAMkG
set_option linter.all false
set_option maxRecDepth 100000
section
namespace Go.Sy
open Go
section
variable {P : Program}
theorem PE.unone (z : Nat) {ps : List SV} (hz : psize ps = z) (hc : closedL ps = true) : PE [.rows z 1 fun _ => ps] ps := by
  refine ⟨by simp [psize, psz, hz], fun e ys q => ?_⟩
  obtain ⟨us, zs, h1, h2, h3, rfl⟩ := PR.consRows.1 q
  rw [PR] at h3; subst h3
  have := h2 0 (by omega)
  rw [Nat.zero_mul, List.drop_zero, List.take_of_length_le (by omega)] at this
  rw [List.append_nil]
  exact PR.mono' (e := ⟨fun _ => none, e.z, e.n0, [], fun _ => none⟩) (e' := e) (fun _ _ h => h) (Nat.le_refl _) ps us (fun j p hu _ => by rw [closedL_uses hc] at hu; cases hu) this
theorem FnTr.lendRows {f : FuncId} {z n : Nat} {g : Nat → List SV} {v : SV} {ex : Bool} (k : FnTr P f [.rol false z n fun i => coolL (g i)] [] v []) (hs : stale v = false) (hr : ren (fun b => b + 1) v = v) : FnTr P f [.rsl 0 z n n ex] [.b [.rows z n g]] v [.b [.rows z n g]] := fun B e w args' hB hl R => by
  refine (pure_call k (h := [.b [.rows z n g]]) (vs := [.rsl 0 z n n ex]) (t := true) ?_ (fun _ => ⟨hs, fun b hb => by cases hb⟩) hl R (j := 1) (.inl rfl)).mono ?_
  · simp [frzL, frzS, andT]
  · rintro en w' ⟨v', rfl, e2, h1, h2, h3⟩
    rw [hr] at h1
    refine ⟨v', rfl, e2, h3.m, h1, ?_⟩
    have : placeH [Blk.b [.rows z n g]] 1 (([] : List Blk).map (shB 1)) = [.b [.rows z n g]] := by simp [placeH]
    rw [this] at h2; exact h2
end
end Go.Sy
namespace Go.Proofs.YthlnlcijnoadcaaGreatDoor.Mk
open Go Go.Sy Tr Wi S2
abbrev nod0 (u : Bool) (nm : Int) (k s p : List Int) : Nod := ⟨u, nm, k, s, p, []⟩
abbrev cel0 (u : Bool) (nm : Int) (k s p : List Int) : List SV := [.bool u, .int .i64 nm, .ints .u8 32 k, .ints .u8 32 s, .ints .u8 32 p, .nl (.slice none 0 0)]
theorem lendOne {f : FuncId} {v : SV} {u : Bool} {nm : Int} {k s p : List Int} (g : FnTr Tryz.prog f [.rol false 99 1 (tng fun _ => nod0 u nm k s p)] [] v []) (hs : stale v = false) (hr : ren (fun b => b + 1) v = v) : FnTr Tryz.prog f [.sl 0 0 0 99 1 1 true true] [.b (cel0 u nm k s p)] v [.b (cel0 u nm k s p)] := by
  have pe : PE (cel0 u nm k s p) (nod0 u nm k s p).cells := PE.last (ps := [.bool u, .int .i64 nm, .ints .u8 32 k, .ints .u8 32 s, .ints .u8 32 p]) rfl rfl (VE.nilRo false .i64)
  have k1 : FnTr Tryz.prog f [.rol false 99 1 fun _ => cel0 u nm k s p] [] v [] := FnTr.conv g ⟨fun e x hx => by
    rcases hx with h | ⟨n, o, cap, c, t, fr, h1, h2, h3, h4, h5, h6⟩
    · exact .inl h
    · exact .inr ⟨n, o, cap, c, t, fr, h1, h2, h3, fun i hi => pe.2 _ _ (h4 i hi), h5, h6⟩, trivial⟩ trivial (VE.refl _) trivial
  exact FnTr.conv (FnTr.lendRows (ex := true) (g := fun _ => cel0 u nm k s p) k1 hs hr) ⟨VE.sl_rsl 0 99 1 1 true true, trivial⟩ ⟨PE.one 99 rfl rfl (PE.refl _), trivial⟩ (VE.refl _) ⟨PE.unone 99 rfl rfl, trivial⟩
def pickS : List SV → List Nat
  | [.sl b _ _ _ _ _ _ _] => [b]
  | _ => []
theorem tok1 {u : Bool} {nm : Int} {k s p : List Int} (hk : k.length = 32) (hs : s.length = 32) (hp : p.length = 32) : TOK 1 (fun _ => nod0 u nm k s p) := ⟨by decide, fun _ _ => by simp, fun _ _ => hk, fun _ _ => hs, fun _ _ => hp⟩
noncomputable def mTree1E : Entry Tryz.prog := .rdm 34 _ Tryz.func34 (by decide) rfl pickS (fun us h0 => match us, h0 with
  | [.sl 0 0 0 99 1 1 true true], [.b [.bool u, .int .i64 nm, .ints .u8 32 k, .ints .u8 32 s, .ints .u8 32 p, .nl (.slice none 0 0)]] => some (.tup [.agg [.ints .u8 32 (dgL 1 (fun _ => nod0 u nm k s p) [] 0)], .bool (dgQ 1 (fun _ => nod0 u nm k s p) 0)], decide (k.length = 32) && decide (s.length = 32) && decide (p.length = 32))
  | _, _ => none) fun us h0 v e => by
  split at e
  · simp only [Option.some.injEq, Prod.mk.injEq, Bool.and_eq_true, decide_eq_true_eq] at e
    obtain ⟨rfl, ⟨h1, h2⟩, h3⟩ := e
    exact lendOne (mTree_fn (tok1 h1 h2 h3)) rfl rfl
  · cases e
noncomputable def rTree1E : Entry Tryz.prog := .rdm 35 _ Tryz.func35 (by decide) rfl pickS (fun us h0 => match us, h0 with
  | [.sl 0 0 0 99 1 1 true true], [.b [.bool u, .int .i64 nm, .ints .u8 32 k, .ints .u8 32 s, .ints .u8 32 p, .nl (.slice none 0 0)]] => some (.agg [.ints .u8 32 (digV (fun _ => nod0 u nm k s p) [] 0)], decide (k.length = 32) && decide (s.length = 32) && decide (p.length = 32) && dgQ 1 (fun _ => nod0 u nm k s p) 0 && bytT 1 (fun _ => nod0 u nm k s p))
  | _, _ => none) fun us h0 v e => by
  split at e
  · simp only [Option.some.injEq, Prod.mk.injEq, Bool.and_eq_true, decide_eq_true_eq] at e
    obtain ⟨rfl, ⟨⟨⟨h1, h2⟩, h3⟩, h4⟩, h5⟩ := e
    exact lendOne (rTree_fn (tok1 h1 h2 h3) h4 h5) rfl rfl
  · cases e
noncomputable def bound1SE : Entry Tryz.prog := .rdm 37 _ Tryz.func37 (by decide) rfl pickS (fun us h0 => match us, h0 with
  | [.sl 0 0 0 99 1 1 true true], [.b [.bool u, .int .i64 nm, .ints .u8 32 k, .ints .u8 32 s, .ints .u8 32 p, .nl (.slice none 0 0)]] => some (.bool (checkB 1 (fun _ => nod0 u nm k s p)), decide (k.length = 32) && decide (s.length = 32) && decide (p.length = 32))
  | _, _ => none) fun us h0 v e => by
  split at e
  · simp only [Option.some.injEq, Prod.mk.injEq, Bool.and_eq_true, decide_eq_true_eq] at e
    obtain ⟨rfl, ⟨h1, h2⟩, h3⟩ := e
    exact lendOne (bound1_fn (tok1 h1 h2 h3)) rfl rfl
  · cases e
noncomputable def alvD (l : List (Nat × Bool)) : Ctr := mk (P := Tryz.prog) [mTree1E, rTree1E, bound1SE] [] (uT l)
theorem alvD_ok (l : List (Nat × Bool)) : CtrSound Tryz.prog (alvD l) := mk_sound _ InlOK.nil _ _
theorem alv_a (u : Unit) : (callS Tryz.prog (alvD [(12, true), (16, true), (18, true), (22, true)]) 60 Tryz.f31 [] []).map (fun x => (x.1, x.2.2)) = some (.bool true, andT (andT true (andT (decide ((dgL 1 (fun x => nod0 true 3 (List.replicate 32 0) (List.replicate 32 0) (List.replicate 32 0)) [] 0).length = 32)) (decide ((digV (fun x => nod0 true 3 (List.replicate 32 0) (List.replicate 32 0) (List.replicate 32 0)) [] 0).length = 32)))) (decide (dgL 1 (fun x => nod0 true 3 (List.replicate 32 0) (List.replicate 32 0) (List.replicate 32 0)) [] 0 = digV (fun x => nod0 true 3 (List.replicate 32 0) (List.replicate 32 0) (List.replicate 32 0)) [] 0))) := by kernel_rfl
abbrev alT : Nat → Nod := fun _ => nod0 true 3 (List.replicate 32 0) (List.replicate 32 0) (List.replicate 32 0)
theorem alQ : dgQ 1 alT 0 = true := by decide +kernel
theorem alL : dgL 1 alT [] 0 = digV alT [] 0 := by unfold dgL; rw [alQ]; rfl
theorem alive15_fn : FnTr Tryz.prog 31 [] [] (.bool true) [] :=
  call0 (alvD_ok [(12, true), (16, true), (18, true), (22, true)]) 60 Tryz.func31 (alv_a ()) (by
    have h1 : (digV (fun _ => nod0 true 3 (List.replicate 32 0) (List.replicate 32 0) (List.replicate 32 0)) [] 0).length = 32 := digV_len ..
    rw [show dgL 1 (fun _ => nod0 true 3 (List.replicate 32 0) (List.replicate 32 0) (List.replicate 32 0)) [] 0 = digV (fun _ => nod0 true 3 (List.replicate 32 0) (List.replicate 32 0) (List.replicate 32 0)) [] 0 from alL, h1, decide_eq_true rfl, decide_eq_true rfl]; rfl) rfl
noncomputable def alive15E : Entry Tryz.prog := .val 31 _ Tryz.func31 (by decide) rfl false 0 (fun vs => match vs with
  | [] => some (.bool true, [], true)
  | _ => none) fun vs v new e => by
  split at e
  · simp only [Option.some.injEq, Prod.mk.injEq] at e
    obtain ⟨rfl, rfl, _⟩ := e
    exact alive15_fn
  · cases e
end Go.Proofs.YthlnlcijnoadcaaGreatDoor.Mk
end
section
namespace Go.Proofs.YthlnlcijnoadcaaGreatDoor.Mk
open Go Go.Sy Tr Wi S2
noncomputable def mdC (b : Bool) (l : List (Nat × Bool)) : Ctr := mk (P := Tryz.prog) [alive15E, largeME, mDigestE, mTreeE, goodE b, rTreeE, rDigestE] [] (uT l)
theorem mdC_ok (b : Bool) (l : List (Nat × Bool)) : CtrSound Tryz.prog (mdC b l) := mk_sound _ InlOK.nil _ _
theorem md_a (N : Nat) (t : Nat → Nod) (x : Int) (wo : List Int) : (callS Tryz.prog (mdC true [(15, true)]) 60 Tryz.f6 [.rol false 99 N (tng t), .int .i64 x, .ro false .i64 wo] []).map (fun x => (x.1, x.2.2)) = some (.bool true, andT (andT true (andT true (okT0 N fun i => coolL (tng t i)))) (largeM N (treeOf fun i => coolL (tng t i)))) := by kernel_rfl
theorem md_b (N : Nat) (t : Nat → Nod) (x : Int) (wo : List Int) : (callS Tryz.prog (mdC true [(15, false), (19, true)]) 60 Tryz.f6 [.rol false 99 N (tng t), .int .i64 x, .ro false .i64 wo] []).map (fun x => (x.1, x.2.2)) = some (.bool true, andT (andT (andT true (andT true (okT0 N fun i => coolL (tng t i)))) !largeM N (treeOf fun i => coolL (tng t i))) (decide (((wo.length : Nat) : Int) > 100))) := by kernel_rfl
theorem md_c (N : Nat) (t : Nat → Nod) (x : Int) (wo : List Int) : (callS Tryz.prog (mdC false [(15, false), (19, false), (37, false), (53, false), (69, true), (73, true)]) 60 Tryz.f6 [.rol false 99 N (tng t), .int .i64 x, .ro false .i64 wo] []).map (fun x => (x.1, x.2.2)) = some (.bool true, andT (andT (andT (andT (andT (andT (andT (andT (andT (andT (andT (andT true (andT true (okT0 N fun i => coolL (tng t i)))) !largeM N (treeOf fun i => coolL (tng t i))) !decide (((wo.length : Nat) : Int) > 100)) (andT true ((okT N fun i => coolL (tng t i)) && decide (N ≤ 71) && decide (wo.length ≤ 274877906944)))) (andT true ((okT N fun i => coolL (tng t i)) && decide (N ≤ 71)))) (andT true ((okT N fun i => coolL (tng t i)) && decide (N ≤ 71) && goodQ N (treeOf fun i => coolL (tng t i)) == false))) !!dgQ N (treeOf fun i => coolL (tng t i)) (((N / 2) : Nat) : Int) == false) (decide ((dgL N (treeOf fun i => coolL (tng t i)) [] (((N / 2) : Nat) : Int)).length = 32))) !!decide (dgL N (treeOf fun i => coolL (tng t i)) [] (((N / 2) : Nat) : Int) = List.replicate 32 0)) !dgQ N (treeOf fun i => coolL (tng t i)) x) (decide ((dgL N (treeOf fun i => coolL (tng t i)) wo x).length = 32))) (decide (dgL N (treeOf fun i => coolL (tng t i)) wo x = List.replicate 32 0))) := by kernel_rfl
theorem md_d (N : Nat) (t : Nat → Nod) (x : Int) (wo : List Int) : (callS Tryz.prog (mdC true [(15, false), (19, false), (37, false), (44, false), (60, true), (69, true), (73, true)]) 60 Tryz.f6 [.rol false 99 N (tng t), .int .i64 x, .ro false .i64 wo] []).map (fun x => (x.1, x.2.2)) = some (.bool true, andT (andT (andT (andT (andT (andT (andT (andT (andT (andT (andT (andT (andT (andT true (andT true (okT0 N fun i => coolL (tng t i)))) !largeM N (treeOf fun i => coolL (tng t i))) !decide (((wo.length : Nat) : Int) > 100)) (andT true ((okT N fun i => coolL (tng t i)) && decide (N ≤ 71) && decide (wo.length ≤ 274877906944)))) (andT true ((okT N fun i => coolL (tng t i)) && decide (N ≤ 71)))) (andT true ((okT N fun i => coolL (tng t i)) && decide (N ≤ 71) && goodQ N (treeOf fun i => coolL (tng t i)) == true))) !!dgQ N (treeOf fun i => coolL (tng t i)) (((N / 2) : Nat) : Int) == true) (andT true ((okT N fun i => coolL (tng t i)) && decide (N ≤ 71) && dgQ N (treeOf fun i => coolL (tng t i)) (((N / 2) : Nat) : Int) && bytT N (treeOf fun i => coolL (tng t i))))) (andT (decide ((dgL N (treeOf fun i => coolL (tng t i)) [] (((N / 2) : Nat) : Int)).length = 32)) (decide ((digV (treeOf fun i => coolL (tng t i)) [] (((N / 2) : Nat) : Int)).length = 32)))) !!decide (dgL N (treeOf fun i => coolL (tng t i)) [] (((N / 2) : Nat) : Int) = digV (treeOf fun i => coolL (tng t i)) [] (((N / 2) : Nat) : Int))) (decide (x < 0))) !dgQ N (treeOf fun i => coolL (tng t i)) x) (decide ((dgL N (treeOf fun i => coolL (tng t i)) wo x).length = 32))) (decide (dgL N (treeOf fun i => coolL (tng t i)) wo x = List.replicate 32 0))) := by kernel_rfl
theorem md_e (N : Nat) (t : Nat → Nod) (x : Int) (wo : List Int) : (callS Tryz.prog (mdC true [(15, false), (19, false), (37, false), (44, false), (60, false), (66, true), (69, true), (73, true)]) 60 Tryz.f6 [.rol false 99 N (tng t), .int .i64 x, .ro false .i64 wo] []).map (fun x => (x.1, x.2.2)) = some (.bool true, andT (andT (andT (andT (andT (andT (andT (andT (andT (andT (andT (andT (andT (andT (andT true (andT true (okT0 N fun i => coolL (tng t i)))) !largeM N (treeOf fun i => coolL (tng t i))) !decide (((wo.length : Nat) : Int) > 100)) (andT true ((okT N fun i => coolL (tng t i)) && decide (N ≤ 71) && decide (wo.length ≤ 274877906944)))) (andT true ((okT N fun i => coolL (tng t i)) && decide (N ≤ 71)))) (andT true ((okT N fun i => coolL (tng t i)) && decide (N ≤ 71) && goodQ N (treeOf fun i => coolL (tng t i)) == true))) !!dgQ N (treeOf fun i => coolL (tng t i)) (((N / 2) : Nat) : Int) == true) (andT true ((okT N fun i => coolL (tng t i)) && decide (N ≤ 71) && dgQ N (treeOf fun i => coolL (tng t i)) (((N / 2) : Nat) : Int) && bytT N (treeOf fun i => coolL (tng t i))))) (andT (decide ((dgL N (treeOf fun i => coolL (tng t i)) [] (((N / 2) : Nat) : Int)).length = 32)) (decide ((digV (treeOf fun i => coolL (tng t i)) [] (((N / 2) : Nat) : Int)).length = 32)))) !!decide (dgL N (treeOf fun i => coolL (tng t i)) [] (((N / 2) : Nat) : Int) = digV (treeOf fun i => coolL (tng t i)) [] (((N / 2) : Nat) : Int))) !decide (x < 0)) (decide (x ≥ ((N : Nat) : Int)))) !dgQ N (treeOf fun i => coolL (tng t i)) x) (decide ((dgL N (treeOf fun i => coolL (tng t i)) wo x).length = 32))) (decide (dgL N (treeOf fun i => coolL (tng t i)) wo x = List.replicate 32 0))) := by kernel_rfl
theorem md_f (N : Nat) (t : Nat → Nod) (x : Int) (wo : List Int) : (callS Tryz.prog (mdC true [(15, false), (19, false), (37, false), (44, false), (60, false), (66, false), (76, true), (82, true)]) 60 Tryz.f6 [.rol false 99 N (tng t), .int .i64 x, .ro false .i64 wo] []).map (fun x => (x.1, x.2.2)) = some (.bool true, andT (andT (andT (andT (andT (andT (andT (andT (andT (andT (andT (andT (andT (andT (andT (andT true (andT true (okT0 N fun i => coolL (tng t i)))) !largeM N (treeOf fun i => coolL (tng t i))) !decide (((wo.length : Nat) : Int) > 100)) (andT true ((okT N fun i => coolL (tng t i)) && decide (N ≤ 71) && decide (wo.length ≤ 274877906944)))) (andT true ((okT N fun i => coolL (tng t i)) && decide (N ≤ 71)))) (andT true ((okT N fun i => coolL (tng t i)) && decide (N ≤ 71) && goodQ N (treeOf fun i => coolL (tng t i)) == true))) !!dgQ N (treeOf fun i => coolL (tng t i)) (((N / 2) : Nat) : Int) == true) (andT true ((okT N fun i => coolL (tng t i)) && decide (N ≤ 71) && dgQ N (treeOf fun i => coolL (tng t i)) (((N / 2) : Nat) : Int) && bytT N (treeOf fun i => coolL (tng t i))))) (andT (decide ((dgL N (treeOf fun i => coolL (tng t i)) [] (((N / 2) : Nat) : Int)).length = 32)) (decide ((digV (treeOf fun i => coolL (tng t i)) [] (((N / 2) : Nat) : Int)).length = 32)))) !!decide (dgL N (treeOf fun i => coolL (tng t i)) [] (((N / 2) : Nat) : Int) = digV (treeOf fun i => coolL (tng t i)) [] (((N / 2) : Nat) : Int))) !decide (x < 0)) !decide (x ≥ ((N : Nat) : Int))) (dgQ N (treeOf fun i => coolL (tng t i)) x)) (andT true ((okT N fun i => coolL (tng t i)) && decide (N ≤ 71) && decide (wo.length ≤ 274877906944) && dgQ N (treeOf fun i => coolL (tng t i)) x && bytT N (treeOf fun i => coolL (tng t i))))) (andT (decide ((dgL N (treeOf fun i => coolL (tng t i)) wo x).length = 32)) (decide ((digV (treeOf fun i => coolL (tng t i)) wo x).length = 32)))) (decide (dgL N (treeOf fun i => coolL (tng t i)) wo x = digV (treeOf fun i => coolL (tng t i)) wo x))) := by kernel_rfl
section
variable {N : Nat} {t : Nat → Nod} {x : Int} {wo : List Int}
theorem dgL_len : (dgL N t wo x).length = 32 := by
  unfold dgL
  cases dgQ N t x with
  | true => exact digV_len ..
  | false => rfl
theorem dgQ_mid (hT : TOK N t) (h : checkB N t = true) : dgQ N t ((N / 2 : Nat) : Int) = true := by
  obtain ⟨n, hn, _, hN, _⟩ := check_parts hT h
  have := sizes_le hn
  unfold dgQ
  rw [h, decide_eq_true (show (0 : Int) ≤ ((N / 2 : Nat) : Int) by omega), decide_eq_true (show ((N / 2 : Nat) : Int) < N by omega)]; rfl
theorem markDigests_law (hT0 : okT0 N (tng t) = true) (ok : ∀ i, i < N → (t i).OK) : FnTr Tryz.prog 6 [.rol false 99 N (tng t), .int .i64 x, .ro false .i64 wo] [] (.bool true) [] := by
  have z1 : okT0 N (fun i => coolL (tng t i)) = true := hT0
  have ht : (treeOf fun i => coolL (tng t i)) = t := rfl
  cases g1 : largeM N t with
  | true => exact call0 (mdC_ok _ _) 60 Tryz.func6 (md_a N t x wo) (by rw [ht, z1, g1]; rfl) rfl
  | false =>
  by_cases hw : ((wo.length : Nat) : Int) > 100
  · exact call0 (mdC_ok _ _) 60 Tryz.func6 (md_b N t x wo) (by rw [ht, z1, g1, decide_eq_true hw]; rfl) rfl
  have hT := okT0_up hT0 (largeM_un g1)
  have h1 : okT N (fun i => coolL (tng t i)) = true := hT
  have e1 : N ≤ 71 := by have := largeM_le g1; omega
  have d3 : decide (N ≤ 71) = true := decide_eq_true e1
  have hg : checkB N t = goodQ N t := check_good (t := t) e1
  have hTOK := TOK.of hT e1
  have hb : bytT N t = true := bytT_mk ok
  have dw : decide (wo.length ≤ 274877906944) = true := decide_eq_true (by omega)
  have dw2 : decide (((wo.length : Nat) : Int) > 100) = false := decide_eq_false hw
  have l1 : decide ((dgL N t [] ((N / 2 : Nat) : Int)).length = 32) = true := decide_eq_true dgL_len
  have l2 : decide ((dgL N t wo x).length = 32) = true := decide_eq_true dgL_len
  cases hc : checkB N t with
  | false =>
    have q1 : ∀ y, dgQ N t y = false := fun y => by unfold dgQ; rw [hc, Bool.and_false]
    have q2 : ∀ w y, dgL N t w y = List.replicate 32 0 := fun w y => by unfold dgL; rw [q1]; rfl
    refine call0 (mdC_ok false _) 60 Tryz.func6 (md_c N t x wo) ?_ rfl
    rw [ht, z1, g1, dw2, h1, d3, dw, ← hg, hc, q1, q1, l1, l2, q2, q2, decide_eq_true rfl]; rfl
  | true =>
    have q1 : dgQ N t ((N / 2 : Nat) : Int) = true := dgQ_mid (t := t) hTOK hc
    have q2 : dgL N t [] ((N / 2 : Nat) : Int) = digV t [] ((N / 2 : Nat) : Int) := by unfold dgL; rw [q1]; rfl
    have l3 : decide ((digV t [] ((N / 2 : Nat) : Int)).length = 32) = true := decide_eq_true (digV_len ..)
    have e2 : decide (dgL N t [] ((N / 2 : Nat) : Int) = digV t [] ((N / 2 : Nat) : Int)) = true := decide_eq_true q2
    by_cases h0 : x < 0
    · have q3 : dgQ N t x = false := by unfold dgQ; rw [decide_eq_false (show ¬ 0 ≤ x by omega)]; rfl
      have q4 : dgL N t wo x = List.replicate 32 0 := by unfold dgL; rw [q3]; rfl
      refine call0 (mdC_ok true _) 60 Tryz.func6 (md_d N t x wo) ?_ rfl
      rw [ht, z1, g1, dw2, h1, d3, dw, ← hg, hc, q1, hb, l1, l2, l3, e2, q3, q4, decide_eq_true rfl, decide_eq_true h0]; rfl
    · by_cases h2 : x ≥ ((N : Nat) : Int)
      · have q3 : dgQ N t x = false := by unfold dgQ; rw [decide_eq_false (show ¬ x < ((N : Nat) : Int) by omega), Bool.and_false]; rfl
        have q4 : dgL N t wo x = List.replicate 32 0 := by unfold dgL; rw [q3]; rfl
        refine call0 (mdC_ok true _) 60 Tryz.func6 (md_e N t x wo) ?_ rfl
        rw [ht, z1, g1, dw2, h1, d3, dw, ← hg, hc, q1, hb, l1, l2, l3, e2, q3, q4, decide_eq_true rfl, decide_eq_false h0, decide_eq_true h2]; rfl
      · have q3 : dgQ N t x = true := by unfold dgQ; rw [hc, decide_eq_true (show 0 ≤ x by omega), decide_eq_true (show x < ((N : Nat) : Int) by omega)]; rfl
        have q4 : dgL N t wo x = digV t wo x := by unfold dgL; rw [q3]; rfl
        have l4 : decide ((digV t wo x).length = 32) = true := decide_eq_true (digV_len ..)
        have e4 : decide (dgL N t wo x = digV t wo x) = true := decide_eq_true q4
        refine call0 (mdC_ok true _) 60 Tryz.func6 (md_f N t x wo) ?_ rfl
        rw [ht, z1, g1, dw2, h1, d3, dw, ← hg, hc, q1, hb, l1, l2, l3, e2, q3, l4, e4, decide_eq_false h0, decide_eq_false h2]; rfl
end
end Go.Proofs.YthlnlcijnoadcaaGreatDoor.Mk
end
