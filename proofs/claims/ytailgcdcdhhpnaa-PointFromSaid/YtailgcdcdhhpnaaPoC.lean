/- This file proves the contract of the reference's From. Conditions: bytes within their kind. -/
import Derived.Test.YtailgcdcdhhpnaaPoB
namespace Go.Proofs.Ytailgcdcdhhpnaa.Po
open Go Go.Sy Re Fe

def rlowB (b : List Int) : List Int := (lst 32 b).set 31 ((b.getD 31 0).tmod 128)
def rtopB (b : List Int) : Bool := decide (b.getD 31 0 ≥ 128)
noncomputable def ryB (b : List Int) : List Int := refN (val256 (rlowB b) % 57896044618658097711785492504343953926634992332820282019728792003956564819968 % Pm)
noncomputable def frInR (b : List Int) : Bool := decide (Lock (digN 32 (vR (ryB b))) = rlowB b)
noncomputable def ryy (y : List Int) : List Int := RM y y
noncomputable def rund (y : List Int) : List Int := RA (RM (Lock dR) (ryy y)) one16
noncomputable def ru (y : List Int) : List Int := RM (RS (ryy y) one16) (RI (rund y))
noncomputable def rX (y : List Int) : List Int := rootL (vR (ru y))
noncomputable def rR (y : List Int) : Bool := (rootV (vR (ru y))).isSome
noncomputable def rx0 (y : List Int) : Bool := decide (rX y = z16)
noncomputable def ofOkR (y : List Int) (odd : Bool) : Bool := rR y && !(odd && rx0 y)
noncomputable def rX' (y : List Int) (odd : Bool) : List Int := bif odd then RS z16 (rX y) else rX y
def nothQ : QP := (z16, one16, one16)
noncomputable def ofQ (y : List Int) (odd : Bool) : QP := bif ofOkR y odd then (rX' y odd, y, one16) else nothQ
noncomputable def frQ (b : List Int) : QP := bif frInR b then ofQ (ryB b) (rtopB b) else nothQ
noncomputable def frOkR (b : List Int) : Bool := frInR b && ofOkR (ryB b) (rtopB b)
noncomputable def frC (i r o x : Bool) : Ctr := mk (P := Try.prog) [Re.fromE, Re.bytesE, nothingRE, factorRE, Re.mulE, Re.addE, Re.subE, Re.invE, Re.rootE] [] fun n => if n = 23 then some (!i) else if n = 46 then some (!r) else if n = 47 || n = 55 then some o else if n = 51 then some x else none
theorem frC_ok (i r o x : Bool) : CtrSound Try.prog (frC i r o x) := mk_sound _ InlOK.nil _ _
noncomputable def frP0 (b : List Int) : Bool := andT (ob2 (ob2 true (keyOK (rlowB b))) (okP (ryB b))) (andT (decide ((Lock (digN 32 (vR (ryB b)))).length = 32)) (decide ((rlowB b).length = 32)))
noncomputable def frP1 (b : List Int) : Bool :=
  [okP (ryB b) && okP (ryB b), okP (Lock dR) && okP (ryy (ryB b)), okP (RM (Lock dR) (ryy (ryB b))) && okP one16, okP (ryy (ryB b)) && okN one16, okN (rund (ryB b)), okP (RS (ryy (ryB b)) one16) && okP (RI (rund (ryB b))), okN (ru (ryB b))].foldl ob2 (andT (frP0 b) (!(!frInR b)))
theorem rlowB_ok {b : List Int} (h : keyOK b = true) : keyOK (rlowB b) = true := by
  obtain ⟨h1, h2⟩ := keyOK_iff.1 h
  have p := all_getD h2 (i := 31) (by omega)
  unfold rlowB
  rw [lst_eq h1, Int.tmod_eq_emod_of_nonneg p.1]
  refine keyOK_iff.2 ⟨by simp [h1], List.all_eq_true.2 fun x hx => ?_⟩
  rcases List.mem_or_eq_of_mem_set hx with h | h
  · exact List.all_eq_true.1 h2 x h
  · subst h; exact u8_iff.2 (by omega)
theorem frP0_ok {b : List Int} (h : keyOK b = true) : frP0 b = true := by
  unfold frP0
  rw [rlowB_ok h, show okP (ryB b) = true from refN_ok _, Lock_eq, digN_length, (keyOK_iff.1 (rlowB_ok h)).1]; rfl
theorem frP1_ok {b : List Int} (h : keyOK b = true) (hi : frInR b = true) : frP1 b = true := by
  unfold frP1
  rw [frP0_ok h, hi]
  unfold ryB ryy rund ru
  simp only [List.foldl_cons, List.foldl_nil, refN_ok, refM_okN, okN_P dL_ok]
  rfl
section
set_option maxRecDepth 100000 in
theorem frR_a (b : List Int) : (callS Try.prog (frC false true true true) 80 Try.f17 [.agg [.ints .u8 32 (lst 32 b)]] []).map (fun x => (x.1, x.2.2)) = some (.tup [svQ nothQ, .bool false], andT (frP0 b) (!frInR b)) := by kernel_rfl
set_option maxRecDepth 100000 in
theorem frR_b (b : List Int) : (callS Try.prog (frC true false true true) 80 Try.f17 [.agg [.ints .u8 32 (lst 32 b)]] []).map (fun x => (x.1, x.2.2)) = some (.tup [svQ nothQ, .bool false], andT (frP1 b) (!rR (ryB b))) := by kernel_rfl
set_option maxRecDepth 100000 in
theorem frR_c (b : List Int) : (callS Try.prog (frC true true false true) 80 Try.f17 [.agg [.ints .u8 32 (lst 32 b)]] []).map (fun x => (x.1, x.2.2)) = some (.tup [svQ (rX (ryB b), ryB b, one16), .bool true], andT (andT (andT (frP1 b) (!(!rR (ryB b)))) (!rtopB b)) (!rtopB b)) := by kernel_rfl
noncomputable def frP2 (b : List Int) : Bool := andT (andT (andT (frP1 b) (!(!rR (ryB b)))) (rtopB b)) (andT (decide ((rX (ryB b)).length = 16)) true)
set_option maxRecDepth 100000 in
theorem frR_d (b : List Int) : (callS Try.prog (frC true true true true) 80 Try.f17 [.agg [.ints .u8 32 (lst 32 b)]] []).map (fun x => (x.1, x.2.2)) = some (.tup [svQ nothQ, .bool false], andT (frP2 b) (rx0 (ryB b))) := by kernel_rfl
set_option maxRecDepth 100000 in
theorem frR_e (b : List Int) : (callS Try.prog (frC true true true false) 80 Try.f17 [.agg [.ints .u8 32 (lst 32 b)]] []).map (fun x => (x.1, x.2.2)) = some (.tup [svQ (RS z16 (rX (ryB b)), ryB b, one16), .bool true], ob2 (andT (andT (frP2 b) (!rx0 (ryB b))) (rtopB b)) (okP z16 && okN (rX (ryB b)))) := by kernel_rfl
end
theorem rootV_range {x r : Int} (h : rootV x = some r) : 0 ≤ r ∧ r < Pm := by
  unfold rootV at h
  split at h
  · cases h
    have : 0 ≤ rB x ∧ rB x < Pm := by
      unfold rB
      split
      · exact ⟨Int.emod_nonneg _ (by have := Pm_pos; omega), Int.emod_lt_of_pos _ Pm_pos⟩
      · exact ⟨Int.emod_nonneg _ (by have := Pm_pos; omega), Int.emod_lt_of_pos _ Pm_pos⟩
    split
    · exact ⟨Int.emod_nonneg _ (by have := Pm_pos; omega), Int.emod_lt_of_pos _ Pm_pos⟩
    · exact this
  · cases h
theorem rootL_okN (x : Int) : okN (rootL x) = true := by
  unfold rootL
  cases h : rootV x with
  | none => decide
  | some r => have := rootV_range h; exact refN_okN this.1 this.2
theorem okN_len {l : List Int} (h : okN l = true) : l.length = 16 := (okP_iff.1 (okN_P h)).1
theorem fromR_fn {b : List Int} (hb : keyOK b = true) : FnTr Try.prog 17 [.agg [.ints .u8 32 b]] [] (.tup [svQ (frQ b), .bool (frOkR b)]) [] := by
  refine FnTr.conv (bs := [.agg [.ints .u8 32 (lst 32 b)]]) (h2 := []) (h1 := []) (v := .tup [svQ (frQ b), .bool (frOkR b)]) ?_ ⟨Fe.VE.lst _ _ _, trivial⟩ trivial (VE.refl _) trivial
  unfold frQ frOkR ofQ ofOkR rX'
  cases hi : frInR b with
  | false => exact call0 (frC_ok false true true true) 80 Try.func17 (frR_a b) (by rw [frP0_ok hb, hi]; rfl) rfl
  | true =>
    cases hr : rR (ryB b) with
    | false => exact call0 (frC_ok true false true true) 80 Try.func17 (frR_b b) (by rw [frP1_ok hb hi, hr]; rfl) rfl
    | true =>
      cases ho : rtopB b with
      | false => exact call0 (frC_ok true true false true) 80 Try.func17 (frR_c b) (by rw [frP1_ok hb hi, hr, ho]; rfl) rfl
      | true =>
        have h2 : frP2 b = true := by
          unfold frP2
          rw [frP1_ok hb hi, hr, ho, show (rX (ryB b)).length = 16 from okN_len (rootL_okN _)]; rfl
        cases hx : rx0 (ryB b) with
        | true => exact call0 (frC_ok true true true true) 80 Try.func17 (frR_d b) (by rw [h2, hx]; rfl) rfl
        | false => exact call0 (frC_ok true true true false) 80 Try.func17 (frR_e b) (by rw [h2, hx, ho, show okN (rX (ryB b)) = true from rootL_okN _]; rfl) rfl
noncomputable def fromREF : List SV → Option (SV × List Blk × Bool)
  | [.agg [.ints .u8 32 b]] => some (.tup [svQ (frQ b), .bool (frOkR b)], [], keyOK b)
  | _ => none
noncomputable def fromRE : Entry Try.prog := .val 17 _ Try.func17 (by decide) rfl false 0 fromREF fun vs v new e => by
  unfold fromREF at e
  split at e
  · simp only [Option.some.injEq, Prod.mk.injEq] at e
    obtain ⟨rfl, rfl, h1⟩ := e
    exact fromR_fn h1
  · cases e
end Go.Proofs.Ytailgcdcdhhpnaa.Po
