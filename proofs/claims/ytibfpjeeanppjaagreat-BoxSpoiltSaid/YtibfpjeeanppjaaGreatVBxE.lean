/- This file holds the texts BxC, BxD, BxE, a section each. No conditions beyond those in the theorems. -/
import Derived.Test.YtibfpjeeanppjaaGreatVBxB
set_option linter.all false
set_option maxRecDepth 100000
section
namespace Go.Proofs.YtibfpjeeanppjaaGreat.Bx
open Go Go.Sy Sh La
noncomputable def rsC (b : Bool) : Ctr := mk (P := Tryz.prog) [agreeRE b, publicRE, keyRE, R4.nonceQE, R4.sealQE] [] fun i => if i = 18 || i = 22 then some false else none
theorem rsC_ok (b : Bool) : CtrSound Tryz.prog (rsC b) := mk_sound _ InlOK.nil _ _
theorem keyQ_len (c d p info : List Int) : (keyQ c d p info).length = 32 := Kd.labelW_len _ _ _ _
theorem keyQ_by (c d p info : List Int) : u8R (keyQ c d p info) = true := by
  unfold keyQ Kd.labelW
  rw [Q2.expand32]
  exact u8R_of (Kd.tagW_by _ _)
noncomputable def rsT (p d info text : List Int) : List Int := Ae.sealW (keyQ (agW d p) (ladW d 9) p info) (Ae.nonceW 0) info text
noncomputable def rsO (p d info text : List Int) : Bool :=
  andT (andT (andT (andT (andT (andT (andT (andT true (!decide ((info.length : Int) > 65536))) (!decide ((text.length : Int) > 65536))) (andT true (Re.keyOK d && Re.keyOK p && !agZ d p))) (andT true (Re.keyOK d))) (andT true (Re.keyOK (agW d p) && Re.keyOK (ladW d 9) && Re.keyOK p && u8R info && decide (info.length < 274877900000))))
    (andT true (decide ((keyQ (agW d p) (ladW d 9) p info).length = 32) && R4.dgB (keyQ (agW d p) (ladW d 9) p info) && true && true && R4.dgB info && decide (info.length ≤ 1048576) && decide (text.length ≤ 1048576)))) (decide ((ladW d 9).length = 32) && true))
    (andT (andT (andT true (decide ((ladW d 9).length = 0 + 32) && true)) (decide ((ladW d 9).length = 0 + 32))) (decide (0 + 32 + (rsT p d info text).length ≤ 2 ^ 38)))
theorem rs_run (p d info text : List Int) : (callS Tryz.prog (rsC false) 60 Tryz.f13 [.agg [.ints .u8 32 p], .agg [.ints .u8 32 d], .ro false .u8 info, .ro false .u8 text] []).map (fun x => (x.1, x.2.1.take 5, x.2.2)) =
    some (.tup [.sl 4 0 0 1 (0 + 32 + (rsT p d info text).length) (0 + 32 + (rsT p d info text).length) false true, .int .i64 0], [.b [.ints .u8 32 p], .b [.ints .u8 32 d], .b [.ints .u8 32 (agW d p)], .b [.ints .u8 32 (ladW d 9)], .b [.ints .u8 (0 + 32 + (rsT p d info text).length) (ladW d 9 ++ rsT p d info text)]], rsO p d info text) := by kernel_rfl
theorem rsT_eq (p d info text : List Int) : ladW d 9 ++ rsT p d info text = boxW p d info text := by unfold rsT boxW; rw [keyQ_eq]
theorem rsT_len (p d info text : List Int) : (rsT p d info text).length = text.length + 16 := Ae.sealW_len _ _ _ _
theorem rsO_true {p d info text : List Int} (hd : Re.keyOK d = true) (hp : Re.keyOK p = true) (hz : agZ d p = false) (hi : info.length ≤ 65536) (ht : text.length ≤ 65536) (ub : u8R info = true) : rsO p d info text = true := by
  have e1 : R4.dgB (keyQ (agW d p) (ladW d 9) p info) = true := keyQ_by _ _ _ _
  have e2 : R4.dgB info = true := ub
  unfold rsO
  rw [e1, e2, rsT_len, keyQ_len, ladW_len, hd, hp, hz, ub, agW_key, ladW_key, decide_eq_false (show ¬ (info.length : Int) > 65536 by omega), decide_eq_false (show ¬ (text.length : Int) > 65536 by omega), decide_eq_true (show info.length < 274877900000 by omega), decide_eq_true (show info.length ≤ 1048576 by omega), decide_eq_true (show text.length ≤ 1048576 by omega), decide_eq_true (show 0 + 32 + (text.length + 16) ≤ 2 ^ 38 by omega)]
  rfl
theorem sealR_fn {p d info text : List Int} (hd : Re.keyOK d = true) (hp : Re.keyOK p = true) (hz : agZ d p = false) (hi : info.length ≤ 65536) (ht : text.length ≤ 65536) (ub : u8R info = true) : FnTr Tryz.prog 13 [.agg [.ints .u8 32 p], .agg [.ints .u8 32 d], .ro false .u8 info, .ro false .u8 text] [] (.tup [.sl 0 0 0 1 (text.length + 48) (text.length + 48) false true, .int .i64 0]) [.b [.ints .u8 (text.length + 48) (boxW p d info text)]] := by
  have hr := rs_run p d info text
  have ho := rsO_true hd hp hz hi ht ub
  have hN : 0 + 32 + (rsT p d info text).length = text.length + 48 := by rw [rsT_len]; omega
  rw [hN, rsT_eq] at hr
  generalize boxW p d info text = l at hr ⊢
  generalize text.length + 48 = N at hr ⊢
  have k := callM (rsC_ok false) 60 Tryz.func13 5 (by simp) hr ho rfl rfl
  exact FnTr.sel [4] k (by kernel_rfl)
noncomputable def sealRF : List SV → Option (SV × List Blk × Bool)
  | [.agg [.ints .u8 32 p], .agg [.ints .u8 32 d], .ro false .u8 info, .ro false .u8 text] => some (.tup [.sl 0 0 0 1 (text.length + 48) (text.length + 48) false true, .int .i64 0], [.b [.ints .u8 (text.length + 48) (boxW p d info text)]], Re.keyOK d && Re.keyOK p && !agZ d p && decide (info.length ≤ 65536) && decide (text.length ≤ 65536) && u8R info)
  | _ => none
noncomputable def sealRE : Entry Tryz.prog := .val 13 _ Tryz.func13 (by decide) rfl true 1 sealRF fun vs v new e => by
  unfold sealRF at e
  split at e
  · simp only [Option.some.injEq, Prod.mk.injEq, Bool.and_eq_true, decide_eq_true_eq, Bool.not_eq_true'] at e
    obtain ⟨rfl, rfl, ⟨⟨⟨⟨h1, h2⟩, h3⟩, h4⟩, h5⟩, h6⟩ := e
    exact sealR_fn h1 h2 h3 h4 h5 h6
  · cases e
end Go.Proofs.YtibfpjeeanppjaaGreat.Bx
end
section
namespace Go.Proofs.YtibfpjeeanppjaaGreat.Bx
open Go Go.Sy Sh La
noncomputable def rxC (b c : Bool) : Ctr := mk (P := Tryz.prog) [agreeRE b, keyRE, R4.nonceQE, R4.openQE c] [] fun i => if i = 15 || i = 20 || i = 24 then some false else none
theorem rxC_ok (b c : Bool) : CtrSound Tryz.prog (rxC b c) := mk_sound _ InlOK.nil _ _
def roH (info x : List Int) : Bool := andT (andT (andT true (!decide ((info.length : Int) > 65536))) (!decide ((x.length : Int) < 48))) (!decide ((x.length : Int) > 65584))
def roI : List Nat := [0, 1, 2, 3, 4, 5, 6, 7, 8, 9, 10, 11, 12, 13, 14, 15, 16, 17, 18, 19, 20, 21, 22, 23, 24, 25, 26, 27, 28, 29, 30, 31]
def roD (x : List Int) (o : Bool) : Bool := roI.foldl (fun o i => andT (andT o (inB ((i : Nat) : Int) x.length)) (decide (i < x.length))) o
theorem roD_true {x : List Int} (h : 32 ≤ x.length) : ∀ (l : List Nat), (∀ i ∈ l, i < 32) → l.foldl (fun o i => andT (andT o (inB ((i : Nat) : Int) x.length)) (decide (i < x.length))) true = true
  | [], _ => rfl
  | i :: l, hl => by
    have hi := hl i (List.mem_cons_self ..)
    rw [List.foldl_cons, inB_true (by omega) (by omega), decide_eq_true (show i < x.length by omega)]
    exact roD_true h l fun j hj => hl j (List.mem_cons_of_mem _ hj)
noncomputable def roP (s p info x D : List Int) (o : Bool) : Bool :=
  andT (andT (andT (andT (roD x (roH info x)) (andT true (Re.keyOK s && Re.keyOK D && !agZ s D))) (andT true (Re.keyOK (agW s D) && Re.keyOK D && Re.keyOK p && u8R info && decide (info.length < 274877900000)))) (andT true (andT true (true && decide ((32 : Int) ≤ x.length)))))
    (andT true (decide ((keyQ (agW s D) D p info).length = 32) && R4.dgB (keyQ (agW s D) D p info) && true && true && R4.dgB info && R4.dgB (x.drop 32) && decide (info.length ≤ 1048592) && decide ((x.drop 32).length ≤ 1048592) && o))
noncomputable def roB (s p info x D : List Int) : Bool := Ae.openB (keyQ (agW s D) D p info) (Ae.nonceW 0) info (x.drop 32)
section
variable (s p info x : List Int)
theorem ro_run : (callS Tryz.prog (rxC false true) 60 Tryz.f20 [.agg [.ints .u8 32 s, .ints .u8 32 p], .ro false .u8 info, .ro false .u8 x] []).map (fun x => (x.1, x.2.2)) =
    some (.tup [.ro true .u8 (Ae.openW (keyQ (agW s (lst 32 x)) (lst 32 x) p info) (Ae.nonceW 0) (x.drop 32)), .int .i64 0], roP s p info x (lst 32 x) (roB s p info x (lst 32 x))) := by kernel_rfl
theorem ro_bad : (callS Tryz.prog (rxC false false) 60 Tryz.f20 [.agg [.ints .u8 32 s, .ints .u8 32 p], .ro false .u8 info, .ro false .u8 x] []).map (fun x => (x.1, x.2.2)) =
    some (R4.badQ, roP s p info x (lst 32 x) (!roB s p info x (lst 32 x))) := by kernel_rfl
theorem ro_range : (callS Tryz.prog (rxC true false) 60 Tryz.f20 [.agg [.ints .u8 32 s, .ints .u8 32 p], .ro false .u8 info, .ro false .u8 x] []).map (fun x => (x.1, x.2.2)) =
    some (.tup [.nl (.slice none 0 0), .int .i64 4], andT (roD x (roH info x)) (andT true (Re.keyOK s && Re.keyOK (lst 32 x) && agZ s (lst 32 x)))) := by kernel_rfl
end
theorem lst_take {x : List Int} (h : 32 ≤ x.length) : lst 32 x = x.take 32 := by
  have e : lst 32 x = lst 32 (x.take 32) := by
    unfold lst
    refine List.map_congr_left fun i hi => ?_
    rw [List.getD_eq_getElem?_getD, List.getD_eq_getElem?_getD, List.getElem?_take_of_lt (List.mem_range.1 hi)]
  rw [e, lst_eq (by rw [List.length_take]; omega)]
theorem roH_true {info x : List Int} (hi : info.length ≤ 65536) (h0 : 48 ≤ x.length) (h1 : x.length ≤ 65584) : roD x (roH info x) = true := by
  have e : roH info x = true := by
    unfold roH
    rw [decide_eq_false (show ¬ (info.length : Int) > 65536 by omega), decide_eq_false (show ¬ (x.length : Int) < 48 by omega), decide_eq_false (show ¬ (x.length : Int) > 65584 by omega)]; rfl
  rw [e]
  exact roD_true (by omega) roI (by decide)
theorem roP_true {s p info x D : List Int} {o : Bool} (hi : info.length ≤ 65536) (h0 : 48 ≤ x.length) (h1 : x.length ≤ 65584) (hs : Re.keyOK s = true) (hp : Re.keyOK p = true) (hx : Re.keyOK D = true) (hz : agZ s D = false) (ui : u8R info = true) (ux : u8R x = true) (ho : o = true) : roP s p info x D o = true := by
  have e1 : R4.dgB (keyQ (agW s D) D p info) = true := keyQ_by _ _ _ _
  have e2 : R4.dgB info = true := ui
  have e3 : R4.dgB (x.drop 32) = true := by
    refine R4.dgB_iff.2 fun z hz => ?_
    exact R4.dgB_iff.1 ux z (List.mem_of_mem_drop hz)
  unfold roP
  rw [roH_true hi h0 h1, hs, hp, hx, hz, agW_key, ui, e1, e2, e3, keyQ_len, ho, List.length_drop, decide_eq_true (show info.length < 274877900000 by omega), decide_eq_true (show (32 : Int) ≤ x.length by omega), decide_eq_true (show info.length ≤ 1048592 by omega), decide_eq_true (show x.length - 32 ≤ 1048592 by omega)]
  rfl
theorem opK_eq {x : List Int} (s p info : List Int) : keyQ (agW s (x.take 32)) (x.take 32) p info = opK s p info x := by rw [keyQ_eq, opK, drW_eq]
noncomputable def boxRF (u : Nat) : List SV → Option (SV × List Blk × Bool)
  | [.agg [.ints .u8 32 s, .ints .u8 32 p], .ro false .u8 info, .ro false .u8 x] => match u with
    | 0 => some (.tup [.nl (.slice none 0 0), .int .i64 4], [], decide (info.length ≤ 65536) && decide (48 ≤ x.length) && decide (x.length ≤ 65584) && (Re.keyOK s && Re.keyOK (x.take 32) && agZ s (x.take 32)))
    | 1 => some (.tup [.ro true .u8 (Ae.openW (opK s p info x) (Ae.nonceW 0) (x.drop 32)), .int .i64 0], [], decide (info.length ≤ 65536) && decide (48 ≤ x.length) && decide (x.length ≤ 65584) && u8R info && u8R x && (Re.keyOK s && Re.keyOK p && Re.keyOK (x.take 32) && !agZ s (x.take 32) && Ae.openB (opK s p info x) (Ae.nonceW 0) info (x.drop 32)))
    | _ => some (R4.badQ, [], decide (info.length ≤ 65536) && decide (48 ≤ x.length) && decide (x.length ≤ 65584) && u8R info && u8R x && (Re.keyOK s && Re.keyOK p && Re.keyOK (x.take 32) && !agZ s (x.take 32) && !Ae.openB (opK s p info x) (Ae.nonceW 0) info (x.drop 32)))
  | _ => none
noncomputable def openRE (u : Nat) : Entry Tryz.prog := .val 20 _ Tryz.func20 (by decide) rfl true 0 (boxRF u) fun vs v new e => by
  unfold boxRF at e
  split at e
  · rename_i s p info x
    split at e
    · simp only [Option.some.injEq, Prod.mk.injEq, Bool.and_eq_true, decide_eq_true_eq] at e
      obtain ⟨rfl, rfl, ⟨⟨hi, h0⟩, h1⟩, ⟨hs, hx⟩, hz⟩ := e
      exact call0 (rxC_ok true false) 60 Tryz.func20 (ro_range s p info x) (by rw [roH_true hi h0 h1, lst_take (by omega), hs, hx, hz]; rfl) rfl
    · simp only [Option.some.injEq, Prod.mk.injEq, Bool.and_eq_true, decide_eq_true_eq, Bool.not_eq_true'] at e
      obtain ⟨rfl, rfl, ⟨⟨⟨⟨hi, h0⟩, h1⟩, ui⟩, ux⟩, ⟨⟨⟨hs, hp⟩, hx⟩, hz⟩, ho⟩ := e
      have hr := ro_run s p info x
      rw [lst_take (by omega)] at hr
      unfold roB at hr
      rw [opK_eq] at hr
      exact call0 (rxC_ok false true) 60 Tryz.func20 hr (roP_true hi h0 h1 hs hp hx hz ui ux ho) rfl
    · simp only [Option.some.injEq, Prod.mk.injEq, Bool.and_eq_true, decide_eq_true_eq, Bool.not_eq_true'] at e
      obtain ⟨rfl, rfl, ⟨⟨⟨⟨hi, h0⟩, h1⟩, ui⟩, ux⟩, ⟨⟨⟨hs, hp⟩, hx⟩, hz⟩, ho⟩ := e
      have hr := ro_bad s p info x
      rw [lst_take (by omega)] at hr
      unfold roB at hr
      rw [opK_eq] at hr
      exact call0 (rxC_ok false false) 60 Tryz.func20 hr (roP_true hi h0 h1 hs hp hx hz ui ux (by rw [ho]; rfl)) rfl
  · cases e
end Go.Proofs.YtibfpjeeanppjaaGreat.Bx
end
section
namespace Go.Proofs.YtibfpjeeanppjaaGreat.Bx
open Go Go.Sy Sh La
noncomputable def blC (a : Bool) : Ctr := mk (P := Tryz.prog) [] [] fun i => if i = 17 then some a else if i = 21 then some true else none
theorem blC_ok (a : Bool) : CtrSound Tryz.prog (blC a) := mk_sound _ InlOK.nil _ _
def lenX : SV := .iface 78 (.int .i64 1)
section
variable (p d info text : List Int)
theorem bl_a : (callS Tryz.prog (blC true) 60 Tryz.f12 [.agg [.ints .u8 32 p], .agg [.ints .u8 32 d], .ro false .u8 info, .ro false .u8 text] []).map (fun x => (x.1, x.2.2)) =
    some (.tup [.nl (.slice none 0 0), lenX], andT true (decide ((info.length : Int) > 65536))) := by kernel_rfl
theorem bl_b : (callS Tryz.prog (blC false) 60 Tryz.f12 [.agg [.ints .u8 32 p], .agg [.ints .u8 32 d], .ro false .u8 info, .ro false .u8 text] []).map (fun x => (x.1, x.2.2)) =
    some (.tup [.nl (.slice none 0 0), lenX], andT (andT true (!decide ((info.length : Int) > 65536))) (decide ((text.length : Int) > 65536))) := by kernel_rfl
end
noncomputable def boxSF (u : Nat) : List SV → Option (SV × List Blk × Bool)
  | [.agg [.ints .u8 32 p], .agg [.ints .u8 32 d], .ro false .u8 info, .ro false .u8 text] => match u with
    | 0 => some (.tup [.nl (.slice none 0 0), lenX], [], decide (65536 < info.length ∨ 65536 < text.length))
    | 1 => some (.tup [.nl (.slice none 0 0), rangeX], [], Re.keyOK d && Re.keyOK p && agZ d p && decide (info.length ≤ 65536) && decide (text.length ≤ 65536))
    | _ => some (.tup [.ro true .u8 (boxW p d info text), .nl .nilIface], [], Re.keyOK d && Re.keyOK p && !agZ d p && decide (info.length ≤ 65536) && decide (text.length ≤ 65536))
  | _ => none
noncomputable def boxSE (u : Nat) : Entry Tryz.prog := .val 12 _ Tryz.func12 (by decide) rfl true 0 (boxSF u) fun vs v new e => by
  unfold boxSF at e
  split at e
  · rename_i p d info text
    split at e
    · simp only [Option.some.injEq, Prod.mk.injEq, decide_eq_true_eq] at e
      obtain ⟨rfl, rfl, h⟩ := e
      by_cases hi : 65536 < info.length
      · exact call0 (blC_ok true) 60 Tryz.func12 (bl_a p d info text) (by rw [decide_eq_true (show (info.length : Int) > 65536 by omega)]; rfl) rfl
      · exact call0 (blC_ok false) 60 Tryz.func12 (bl_b p d info text) (by rw [decide_eq_false (show ¬ (info.length : Int) > 65536 by omega), decide_eq_true (show (text.length : Int) > 65536 by omega)]; rfl) rfl
    · simp only [Option.some.injEq, Prod.mk.injEq, Bool.and_eq_true, decide_eq_true_eq] at e
      obtain ⟨rfl, rfl, ⟨⟨⟨h1, h2⟩, h3⟩, h4⟩, h5⟩ := e
      exact call0 (bsC_ok true false) 60 Tryz.func12 (bs_bad p d info text) (by rw [h1, h2, h3, decide_eq_false (show ¬ (info.length : Int) > 65536 by omega), decide_eq_false (show ¬ (text.length : Int) > 65536 by omega)]; rfl) rfl
    · simp only [Option.some.injEq, Prod.mk.injEq, Bool.and_eq_true, decide_eq_true_eq, Bool.not_eq_true'] at e
      obtain ⟨rfl, rfl, ⟨⟨⟨h1, h2⟩, h3⟩, h4⟩, h5⟩ := e
      exact bs_fn h1 h2 h3 h4 h5
  · cases e
section
variable (p d info text : List Int)
end
end Go.Proofs.YtibfpjeeanppjaaGreat.Bx
end
