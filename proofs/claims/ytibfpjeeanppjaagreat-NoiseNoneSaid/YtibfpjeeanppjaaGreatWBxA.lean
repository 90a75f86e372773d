/- This file proves the contracts of box's key, Seal and Open. Conditions: keys of 32 bytes; lengths that the program takes. -/
import Derived.Test.YtibfpjeeanppjaaGreatWLaF
import Derived.Test.YtibfpjeeanppjaaGreatWKdD
import Derived.Test.YtibfpjeeanppjaaGreatWAeF
set_option linter.all false
set_option maxRecDepth 100000
namespace Go.Proofs.YtibfpjeeanppjaaGreat.Bx
open Go Go.Sy Sh La
noncomputable def ext0F : List SV → Option (SV × List Blk × Bool)
  | [.nl (.slice none 0 0), .ro false .u8 m] => some (.agg [.ints .u8 32 (Kd.tagW [] m)], [], decide (m.length < 274877890000))
  | _ => none
noncomputable def ext0E : Entry Tryz.prog := .val 70 _ Tryz.func70 (by decide) rfl true 0 ext0F fun vs v new e => by
  unfold ext0F at e
  split at e
  · rename_i m
    simp only [Option.some.injEq, Prod.mk.injEq, decide_eq_true_eq] at e
    obtain ⟨rfl, rfl, h⟩ := e
    have hm : [m].flatten = m := by simp
    have k := call0 Kd.exC_ok 60 Tryz.func70 (Kd.extract_run [] m) (by rw [hm, decide_eq_true h]; rfl) rfl
    rw [hm] at k
    exact FnTr.conv k ⟨VE.nil_ro _ _, VE.refl _, trivial⟩ trivial (VE.refl _) trivial
  · cases e
noncomputable def kyC (b : Bool) : Ctr := mk (P := Tryz.prog) [agreeE b, S2.shortE, ext0E, Kd.labelE, Sh.concatE] [] fun i => if i = 23 then some b else none
theorem kyC_ok (b : Bool) : CtrSound Tryz.prog (kyC b) := mk_sound _ InlOK.nil _ _
def bxL : List Int := [98, 111, 120]
noncomputable def cxW (d p info : List Int) : List Int := [d, p, S2.shortW [info].flatten].flatten
noncomputable def lbW (s o d p info : List Int) : List Int := Kd.labelW (Kd.tagW [] (agW s o)) bxL (cxW d p info) 32
noncomputable def keyW (s o d p info : List Int) : List Int := Lock (lbW s o d p info)
theorem lbW_len (s o d p info : List Int) : (lbW s o d p info).length = 32 := Kd.labelW_len _ _ _ _
noncomputable def kyO (s o d p info : List Int) : Bool :=
  andT (andT (andT (andT (andT (andT (andT true (andT true (Re.keyOK s && Re.keyOK o && !agZ s o))) (andT true (decide ([info].flatten.length < 274877900000) && true))) (andT (andT true (andT (decide ((agW s o).length = 32) && true) (decide ((agW s o).length = 32)))) (decide ((agW s o).length < 274877890000))))
    (andT (andT true (andT (andT true (decide ((S2.shortW [info].flatten).length = 32) && true)) (decide ((S2.shortW [info].flatten).length = 32)))) (decide ((cxW d p info).length ≤ 274877906944) && true))) (andT true (decide ((Kd.tagW [] (agW s o)).length = 32) && true && decide ((cxW d p info).length ≤ 65536) && true && true)))
    (decide (31 + 1 ≤ (lbW s o d p info).length))) (true && decide (0 + 32 ≤ (lbW s o d p info).length))
theorem kyO_true {s o d p info : List Int} (hs : Re.keyOK s = true) (ho : Re.keyOK o = true) (hz : agZ s o = false) (hd : d.length = 32) (hp : p.length = 32) (hi : info.length < 274877900000) : kyO s o d p info = true := by
  have hf : [info].flatten.length = info.length := by simp
  have hc : (cxW d p info).length = 96 := by simp [cxW, hd, hp, S2.shortW_len]
  unfold kyO
  rw [hs, ho, hz, hf, hc, lbW_len, agW_len, S2.shortW_len, Kd.tagW_len, decide_eq_true hi]
  rfl
theorem key_run (s o d p info : List Int) : (callS Tryz.prog (kyC false) 60 Tryz.f38 [.agg [.ints .u8 32 s], .agg [.ints .u8 32 o], .agg [.ints .u8 32 (lst 32 d)], .agg [.ints .u8 32 (lst 32 p)], .ro false .u8 info] []).map (fun x => (x.1, x.2.2)) =
    some (.tup [.agg [.ints .u8 32 (((lbW s o (lst 32 d) (lst 32 p) info).drop 0).take 32)], .nl .nilIface], kyO s o (lst 32 d) (lst 32 p) info) := by kernel_rfl
theorem key_bad (s o d p info : List Int) : (callS Tryz.prog (kyC true) 60 Tryz.f38 [.agg [.ints .u8 32 s], .agg [.ints .u8 32 o], .agg [.ints .u8 32 d], .agg [.ints .u8 32 p], .ro false .u8 info] []).map (fun x => (x.1, x.2.2)) =
    some (.tup [.agg [.ints .u8 32 k32], rangeX], andT true (andT true (Re.keyOK s && Re.keyOK o && agZ s o))) := by kernel_rfl
noncomputable def keyF (b : Bool) : List SV → Option (SV × List Blk × Bool)
  | [.agg [.ints .u8 32 s], .agg [.ints .u8 32 o], .agg [.ints .u8 32 d], .agg [.ints .u8 32 p], .ro false .u8 info] => match b with
    | true => some (.tup [.agg [.ints .u8 32 k32], rangeX], [], Re.keyOK s && Re.keyOK o && agZ s o)
    | false => some (.tup [.agg [.ints .u8 32 (keyW s o d p info)], .nl .nilIface], [], Re.keyOK s && Re.keyOK o && !agZ s o && decide (d.length = 32) && decide (p.length = 32) && decide (info.length < 274877900000))
  | _ => none
noncomputable def keyE (b : Bool) : Entry Tryz.prog := .val 38 _ Tryz.func38 (by decide) rfl true 0 (keyF b) fun vs v new e => by
  unfold keyF at e
  split at e
  · rename_i s o d p info
    split at e
    · simp only [Option.some.injEq, Prod.mk.injEq] at e
      obtain ⟨rfl, rfl, h⟩ := e
      exact call0 (kyC_ok true) 60 Tryz.func38 (key_bad s o d p info) (by rw [h]; rfl) rfl
    · simp only [Option.some.injEq, Prod.mk.injEq, Bool.and_eq_true, decide_eq_true_eq, Bool.not_eq_true'] at e
      obtain ⟨rfl, rfl, ⟨⟨⟨⟨hs, ho⟩, hz⟩, hd⟩, hp⟩, hi⟩ := e
      have k := call0 (kyC_ok false) 60 Tryz.func38 (key_run s o d p info) (by rw [lst_eq hd, lst_eq hp]; exact kyO_true hs ho hz hd hp hi) rfl
      rw [lst_eq hd, lst_eq hp, List.drop_zero, List.take_of_length_le (by rw [lbW_len]; omega)] at k
      rw [keyW, Lock_eq]
      exact k
  · cases e
noncomputable def bsC (b : Bool) (x : Bool) : Ctr := mk (P := Tryz.prog) [publicE, keyE b, Ae.sealE, Ae.nonceE, Sh.concatE] [] fun i => if i = 17 || i = 21 then some x else if i = 35 then some b else none
theorem bsC_ok (b x : Bool) : CtrSound Tryz.prog (bsC b x) := mk_sound _ InlOK.nil _ _
noncomputable def boxL (p d info text : List Int) : List (List Int) := [ladW d 9, Ae.sealW (keyW d p (ladW d 9) p info) (Ae.nonceW 0) info text]
noncomputable def boxW (p d info text : List Int) : List Int := ladW d 9 ++ Ae.sealW (keyW d p (ladW d 9) p info) (Ae.nonceW 0) info text
theorem boxL_eq (p d info text : List Int) : (boxL p d info text).flatten = boxW p d info text := by simp [boxL, boxW]
theorem boxW_len (p d info text : List Int) : (boxW p d info text).length = text.length + 48 := by unfold boxW; rw [List.length_append, ladW_len, Ae.sealW_len]; omega
noncomputable def bsO (p d info text : List Int) : Bool :=
  andT (andT (andT (andT (andT (andT true (!decide ((info.length : Int) > 65536))) (!decide ((text.length : Int) > 65536))) (andT true (Re.keyOK d)))
    (andT true (Re.keyOK d && Re.keyOK p && !agZ d p && decide ((ladW d 9).length = 32) && decide (p.length = 32) && decide (info.length < 274877900000)))) (andT true (true && decide (info.length ≤ 1048576) && decide (text.length ≤ 1048576))))
    (andT (andT true (andT (andT true (decide ((ladW d 9).length = 32) && true)) (decide ((ladW d 9).length = 32)))) (decide ((boxL p d info text).flatten.length ≤ 274877906944) && true))
theorem bs_run (p d info text : List Int) : (callS Tryz.prog (bsC false false) 60 Tryz.f12 [.agg [.ints .u8 32 p], .agg [.ints .u8 32 d], .ro false .u8 info, .ro false .u8 text] []).map (fun x => (x.1, x.2.2)) =
    some (.tup [.ro true .u8 (boxL p d info text).flatten, .nl .nilIface], bsO p d info text) := by kernel_rfl
theorem bs_fn {p d info text : List Int} (hd : Re.keyOK d = true) (hp : Re.keyOK p = true) (hz : agZ d p = false) (hi : info.length ≤ 65536) (ht : text.length ≤ 65536) : FnTr Tryz.prog 12 [.agg [.ints .u8 32 p], .agg [.ints .u8 32 d], .ro false .u8 info, .ro false .u8 text] [] (.tup [.ro true .u8 (boxW p d info text), .nl .nilIface]) [] := by
  have k := call0 (bsC_ok false false) 60 Tryz.func12 (bs_run p d info text) (by
    unfold bsO
    rw [boxL_eq, boxW_len, hd, hp, hz, ladW_len, (Re.keyOK_iff.1 hp).1, decide_eq_false (show ¬ (info.length : Int) > 65536 by omega), decide_eq_false (show ¬ (text.length : Int) > 65536 by omega), decide_eq_true (show info.length < 274877900000 by omega), decide_eq_true (show info.length ≤ 1048576 by omega), decide_eq_true (show text.length ≤ 1048576 by omega), decide_eq_true (show text.length + 48 ≤ 274877906944 by omega)]
    rfl) rfl
  rw [boxL_eq] at k
  exact k
noncomputable def boC (b c : Bool) : Ctr := mk (P := Tryz.prog) [keyE b, Ae.openE c, Ae.nonceE] [] fun i => if i = 14 || i = 19 || i = 23 then some false else if i = 41 then some b else none
theorem boC_ok (b c : Bool) : CtrSound Tryz.prog (boC b c) := mk_sound _ InlOK.nil _ _
def drW (x : List Int) : List Int := ((x.take 32).drop 0).take 32
theorem drW_eq (x : List Int) : drW x = x.take 32 := by
  unfold drW
  rw [List.drop_zero, List.take_of_length_le (by rw [List.length_take]; omega)]
def boO (info x : List Int) : Bool := andT (andT (andT (andT (andT (andT true (!decide ((info.length : Int) > 65536))) (!decide ((x.length : Int) < 48))) (!decide ((x.length : Int) > 65584))) (andT true (true && decide ((32 : Int) ≤ x.length)))) (decide (31 + 1 ≤ (x.take 32).length))) (true && decide (0 + 32 ≤ (x.take 32).length))
theorem boO_true {info x : List Int} (hi : info.length ≤ 65536) (h0 : 48 ≤ x.length) (h1 : x.length ≤ 65584) : boO info x = true := by
  have h : (x.take 32).length = 32 := by rw [List.length_take]; omega
  unfold boO
  rw [h, decide_eq_false (show ¬ (info.length : Int) > 65536 by omega), decide_eq_false (show ¬ (x.length : Int) < 48 by omega), decide_eq_false (show ¬ (x.length : Int) > 65584 by omega), decide_eq_true (show (32 : Int) ≤ x.length by omega)]
  rfl
noncomputable def boP (s p info x : List Int) (o : Bool) : Bool :=
  andT (andT (andT (boO info x) (andT true (Re.keyOK s && Re.keyOK (drW x) && !agZ s (drW x) && decide ((drW x).length = 32) && decide (p.length = 32) && decide (info.length < 274877900000)))) (andT true (andT true (true && decide ((32 : Int) ≤ x.length)))))
    (andT true (true && decide (info.length ≤ 1048592) && decide ((x.drop 32).length ≤ 1048592) && o))
noncomputable def opK (s p info x : List Int) : List Int := keyW s (drW x) (drW x) p info
section
variable (s p info x : List Int)
theorem bo_range : (callS Tryz.prog (boC true false) 60 Tryz.f19 [.agg [.ints .u8 32 s, .ints .u8 32 p], .ro false .u8 info, .ro false .u8 x] []).map (fun x => (x.1, x.2.2)) =
    some (.tup [.nl (.slice none 0 0), rangeX], andT (boO info x) (andT true (Re.keyOK s && Re.keyOK (drW x) && agZ s (drW x)))) := by kernel_rfl
theorem bo_bad : (callS Tryz.prog (boC false false) 60 Tryz.f19 [.agg [.ints .u8 32 s, .ints .u8 32 p], .ro false .u8 info, .ro false .u8 x] []).map (fun x => (x.1, x.2.2)) =
    some (Ae.opBad, boP s p info x (!Ae.openB (opK s p info x) (Ae.nonceW 0) info (x.drop 32))) := by kernel_rfl
theorem bo_run : (callS Tryz.prog (boC false true) 60 Tryz.f19 [.agg [.ints .u8 32 s, .ints .u8 32 p], .ro false .u8 info, .ro false .u8 x] []).map (fun x => (x.1, x.2.2)) =
    some (.tup [.ro true .u8 (Ae.openW (opK s p info x) (Ae.nonceW 0) (x.drop 32)), .nl .nilIface], boP s p info x (Ae.openB (opK s p info x) (Ae.nonceW 0) info (x.drop 32))) := by kernel_rfl
end
noncomputable def boxF (u : Nat) : List SV → Option (SV × List Blk × Bool)
  | [.agg [.ints .u8 32 s, .ints .u8 32 p], .ro false .u8 info, .ro false .u8 x] => match u with
    | 0 => some (.tup [.nl (.slice none 0 0), rangeX], [], decide (info.length ≤ 65536) && decide (48 ≤ x.length) && decide (x.length ≤ 65584) && (Re.keyOK s && Re.keyOK (x.take 32) && agZ s (x.take 32)))
    | 1 => some (.tup [.ro true .u8 (Ae.openW (opK s p info x) (Ae.nonceW 0) (x.drop 32)), .nl .nilIface], [], decide (info.length ≤ 65536) && decide (48 ≤ x.length) && decide (x.length ≤ 65584) && (Re.keyOK s && Re.keyOK p && Re.keyOK (x.take 32) && !agZ s (x.take 32) && Ae.openB (opK s p info x) (Ae.nonceW 0) info (x.drop 32)))
    | _ => some (Ae.opBad, [], decide (info.length ≤ 65536) && decide (48 ≤ x.length) && decide (x.length ≤ 65584) && (Re.keyOK s && Re.keyOK p && Re.keyOK (x.take 32) && !agZ s (x.take 32) && !Ae.openB (opK s p info x) (Ae.nonceW 0) info (x.drop 32)))
  | _ => none
theorem boP_true {s p info x : List Int} {o : Bool} (hi : info.length ≤ 65536) (h0 : 48 ≤ x.length) (h1 : x.length ≤ 65584) (hs : Re.keyOK s = true) (hp : Re.keyOK p = true) (hx : Re.keyOK (x.take 32) = true) (hz : agZ s (x.take 32) = false) (ho : o = true) : boP s p info x o = true := by
  unfold boP
  rw [drW_eq, boO_true hi h0 h1, hs, hx, hz, (Re.keyOK_iff.1 hx).1, (Re.keyOK_iff.1 hp).1, ho, List.length_drop, decide_eq_true (show info.length < 274877900000 by omega), decide_eq_true (show (32 : Int) ≤ x.length by omega), decide_eq_true (show info.length ≤ 1048592 by omega), decide_eq_true (show x.length - 32 ≤ 1048592 by omega)]
  rfl
noncomputable def openE (u : Nat) : Entry Tryz.prog := .val 19 _ Tryz.func19 (by decide) rfl true 0 (boxF u) fun vs v new e => by
  unfold boxF at e
  split at e
  · rename_i s p info x
    split at e
    · simp only [Option.some.injEq, Prod.mk.injEq, Bool.and_eq_true, decide_eq_true_eq] at e
      obtain ⟨rfl, rfl, ⟨⟨hi, h0⟩, h1⟩, ⟨hs, hx⟩, hz⟩ := e
      exact call0 (boC_ok true false) 60 Tryz.func19 (bo_range s p info x) (by rw [boO_true hi h0 h1, drW_eq, hs, hx, hz]; rfl) rfl
    · simp only [Option.some.injEq, Prod.mk.injEq, Bool.and_eq_true, decide_eq_true_eq, Bool.not_eq_true'] at e
      obtain ⟨rfl, rfl, ⟨⟨hi, h0⟩, h1⟩, ⟨⟨⟨hs, hp⟩, hx⟩, hz⟩, ho⟩ := e
      exact call0 (boC_ok false true) 60 Tryz.func19 (bo_run s p info x) (boP_true hi h0 h1 hs hp hx hz ho) rfl
    · simp only [Option.some.injEq, Prod.mk.injEq, Bool.and_eq_true, decide_eq_true_eq, Bool.not_eq_true'] at e
      obtain ⟨rfl, rfl, ⟨⟨hi, h0⟩, h1⟩, ⟨⟨⟨hs, hp⟩, hx⟩, hz⟩, ho⟩ := e
      exact call0 (boC_ok false false) 60 Tryz.func19 (bo_bad s p info x) (boP_true hi h0 h1 hs hp hx hz (by rw [ho]; rfl)) rfl
  · cases e
end Go.Proofs.YtibfpjeeanppjaaGreat.Bx
