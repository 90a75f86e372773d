/- This file proves the law BoxWhole. Conditions: bytes; keys of 32 bytes. -/
import Derived.Test.YtibfpjeeanppjaaWBxI
import Derived.Test.YtibfpjeeanppjaaWLaK
set_option linter.all false
set_option maxRecDepth 100000
namespace Go.Proofs.Ytibfpjeeanppjaa.Bx
open Go Go.Sy Sh La
noncomputable def inlB : List (FuncId × Func) := [(6, Try.f6), (4, Try.f4)]
theorem inlB_ok : InlOK Try.prog inlB := InlOK.cons Try.func6 (by decide) (InlOK.cons Try.func4 (by decide) InlOK.nil)
def fW (a b : Bool) : Nat → Option Bool := fun i => if i = 18 then some a else if i = 22 then some b else if i = 53 then some true else none
noncomputable def bwC (a b : Bool) : Ctr := mk (P := Try.prog) [aliveE, publicRE, boxSE 2, openE 1, Bn.sameE] inlB (fW a b)
theorem bwC_ok (a b : Bool) : CtrSound Try.prog (bwC a b) := mk_sound _ inlB_ok _ _
noncomputable def bwO (s d info text X : List Int) : Bool := andT true (andT (andT (andT (andT (andT (andT (andT true (!decide (((info.length : Nat) : Int) > 1000))) (!decide (((text.length : Nat) : Int) > 1000))) (andT true (andT true (Re.keyOK s)))) (andT true (Re.keyOK d && Re.keyOK (ladW s 9) && (!agZ d (ladW s 9)) && decide (info.length ≤ 65536) && decide (text.length ≤ 65536)))) (andT true (decide (info.length ≤ 65536) && decide (48 ≤ X.length) && decide (X.length ≤ 65584) && (Re.keyOK s && Re.keyOK (ladW s 9) && Re.keyOK (List.take 32 X) && (!agZ s (List.take 32 X)) && Ae.openB (opK s (ladW s 9) info X) (Ae.nonceW 0) info (List.drop 32 X))))) (((X.length : Nat) : Int) == IntKind.i64.wrap (((text.length : Nat) : Int) + 48))) (andT true (u8R (Ae.openW (opK s (ladW s 9) info X) (Ae.nonceW 0) (List.drop 32 X)) && u8R text)))
section
variable (s d info text : List Int)
theorem bw_i : (callS Try.prog (bwC true true) 60 Try.f3 [.agg [.ints .u8 32 s, .ints .u8 32 d, .ro false .u8 info, .ro false .u8 text]] []).map (fun x => (x.1, x.2.2)) = some (.bool true, andT true (andT true (decide ((info.length : Int) > 1000)))) := by kernel_rfl
theorem bw_t : (callS Try.prog (bwC false true) 60 Try.f3 [.agg [.ints .u8 32 s, .ints .u8 32 d, .ro false .u8 info, .ro false .u8 text]] []).map (fun x => (x.1, x.2.2)) = some (.bool true, andT true (andT (andT true (!decide ((info.length : Int) > 1000))) (decide ((text.length : Int) > 1000)))) := by kernel_rfl
theorem bw_run : (callS Try.prog (bwC false false) 60 Try.f3 [.agg [.ints .u8 32 s, .ints .u8 32 d, .ro false .u8 info, .ro false .u8 text]] []).map (fun x => (x.1, x.2.2)) = some (.bool (decide (Ae.openW (opK s (ladW s 9) info (boxW (ladW s 9) d info text)) (Ae.nonceW 0) (List.drop 32 (boxW (ladW s 9) d info text)) = text)), bwO s d info text (boxW (ladW s 9) d info text)) := by kernel_rfl
end
theorem box_take (p d info text : List Int) : (boxW p d info text).take 32 = ladW d 9 := by unfold boxW; rw [List.take_left' (ladW_len _ _)]
theorem box_drop (p d info text : List Int) : (boxW p d info text).drop 32 = Ae.sealW (keyW d p (ladW d 9) p info) (Ae.nonceW 0) info text := by unfold boxW; rw [List.drop_left' (ladW_len _ _)]
section
variable {s d info text : List Int} (hs : Re.keyOK s = true) (hd : Re.keyOK d = true)
include hs hd
theorem op_eq : opK s (ladW s 9) info (boxW (ladW s 9) d info text) = keyW d (ladW s 9) (ladW d 9) (ladW s 9) info := by
  unfold opK
  rw [drW_eq, box_take, keyW, keyW, Lock_eq, Lock_eq, lbW, lbW, ag_comm hd hs]
theorem whole_law (hx : ∀ x ∈ text, 0 ≤ x ∧ x < 256) : FnTr Try.prog 3 [.agg [.ints .u8 32 s, .ints .u8 32 d, .ro false .u8 info, .ro false .u8 text]] [] (.bool true) [] := by
  by_cases hi : 1000 < info.length
  · exact call0 (bwC_ok true true) 60 Try.func3 (bw_i s d info text) (by rw [decide_eq_true (show (info.length : Int) > 1000 by omega)]; rfl) rfl
  by_cases ht : 1000 < text.length
  · exact call0 (bwC_ok false true) 60 Try.func3 (bw_t s d info text) (by rw [decide_eq_false (show ¬ (info.length : Int) > 1000 by omega), decide_eq_true (show (text.length : Int) > 1000 by omega)]; rfl) rfl
  have k := bw_run s d info text
  have hl := boxW_len (ladW s 9) d info text
  have h1 := box_take (ladW s 9) d info text
  have h2 := box_drop (ladW s 9) d info text
  have h3 := op_eq (info := info) (text := text) hs hd
  have h4 := Ae.seal_opens (keyW d (ladW s 9) (ladW d 9) (ladW s 9) info) (Ae.nonceW 0) info text
  have h5 := Ae.open_seal (key := keyW d (ladW s 9) (ladW d 9) (ladW s 9) info) (nonce := Ae.nonceW 0) (ctx := info) hx
  have z1 := ag_no hs hd
  have z2 := ag_no hd hs
  have k1 := ladW_key s 9
  have k2 := ladW_key d 9
  have ho : bwO s d info text (boxW (ladW s 9) d info text) = true := by
    have hw : IntKind.i64.wrap ((text.length : Int) + 48) = ((text.length + 48 : Nat) : Int) := by rw [wrap_i64 _ (by omega) (by omega)]; omega
    have ux : u8R text = true := by
      unfold u8R
      rw [List.all_eq_true]
      intro x hx'
      simpa using hx x hx'
    unfold bwO
    rw [h1, h2, h3, h4, h5, hl, hw]
    simp [andT_iff, hs, hd, z1, z2, k1, k2, ux]
    omega
  rw [h2, h3, h5, decide_eq_true rfl] at k
  exact call0 (bwC_ok false false) 60 Try.func3 k ho rfl
end
end Go.Proofs.Ytibfpjeeanppjaa.Bx
