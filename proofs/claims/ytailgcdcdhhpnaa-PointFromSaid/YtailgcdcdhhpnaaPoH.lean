/- This file proves the law PointFrom as a call of the interpreter: it returns true. Conditions: bytes within their kind. -/
import Derived.Test.YtailgcdcdhhpnaaPoG
namespace Go.Proofs.Ytailgcdcdhhpnaa.Po
open Go Go.Sy Re Fe

/-- From, on both sides: the points are the same. -/
theorem from_pair {b : List Int} (hb : keyOK b = true) : ∃ x y t, VW (frP b) (x, y, 1, t) ∧ VQ (frQ b) (x, y, 1) ∧ (frOk b = true → mm y 1 = y ∧ mm x 1 = x ∧ encB y (decide (x % 2 = 1)) = b) := by
  obtain ⟨_, h⟩ := from_rel hb
  rcases h with ⟨h1, x, _, h3, h4, h5, h6, h7⟩ | ⟨h1, h2, h3⟩
  · refine ⟨x, yV b, _, h3.whole (by show (1 : Int) ≠ 0; decide), h4, fun _ => ⟨?_, ?_, ?_⟩⟩
    · unfold mm; rw [Int.mul_one]; exact Int.emod_eq_of_lt (mod_range _).1 (mod_range _).2
    · unfold mm; rw [Int.mul_one]; exact Int.emod_eq_of_lt h6.1 h6.2
    · rw [h5]; exact enc_back hb h7
  · refine ⟨0, 1, 0, ?_, ?_, fun h => ?_⟩
    · rw [h2]; exact zero_VW
    · rw [h3]; exact nothQ_val
    · rw [h1] at h; cases h
theorem inv_one : inv 1 = 1 := by rw [inv_invi (by decide)]; decide +kernel
theorem set_len {l : List Int} {i : Nat} {v : Int} : (l.set i v).length = l.length := by simp
theorem bytesP_len (p : PP) : (bytesP p).length = 32 := by
  unfold bytesP
  cases byO p with
  | true => show ((byY p).set 31 _).length = 32; rw [set_len, byY_len]
  | false => exact byY_len p
theorem bytesQ_len (q : QP) : (bytesQ q).length = 32 := by
  unfold bytesQ
  cases rbO q with
  | true => show ((rbY q).set 31 _).length = 32; rw [set_len, rbY_len]
  | false => exact rbY_len q
noncomputable def lwC (o : Bool) : Ctr := mk (P := Try.prog) [aliveE, fromE, fromRE, bytesE, bytesRE] [] fun i => if i = 22 || i = 29 then some true else if i = 32 then some (!o) else none
theorem lwC_ok (o : Bool) : CtrSound Try.prog (lwC o) := mk_sound _ InlOK.nil _ _
noncomputable def lwP (b : List Int) : Bool := andT (andT (ob2 (ob2 (andT (ob2 true (keyOK b)) (frOk b == frOkR b)) (lenZ (frP b))) (okQ (frQ b))) (andT (decide ((bytesP (frP b)).length = 32)) (decide ((bytesQ (frQ b)).length = 32)))) (decide (bytesP (frP b) = bytesQ (frQ b)))
set_option maxRecDepth 100000 in
theorem lw_true (b : List Int) : (callS Try.prog (lwC true) 60 Try.f5 [.agg [.ints .u8 32 b]] []).map (fun x => (x.1, x.2.2)) =
    some (.bool (decide (bytesP (frP b) = b)), andT (ob2 (andT (lwP b) (!(!frOk b))) (lenZ (frP b))) (andT (decide ((bytesP (frP b)).length = 32)) (decide (b.length = 32)))) := by kernel_rfl
set_option maxRecDepth 100000 in
theorem lw_false (b : List Int) : (callS Try.prog (lwC false) 60 Try.f5 [.agg [.ints .u8 32 b]] []).map (fun x => (x.1, x.2.2)) =
    some (.bool true, andT (lwP b) (!frOk b)) := by kernel_rfl
theorem from_law {b : List Int} (hb : keyOK b = true) : FnTr Try.prog 5 [.agg [.ints .u8 32 b]] [] (.bool true) [] := by
  obtain ⟨x, y, t, h1, h2, h3⟩ := from_pair hb
  have he : frOk b = frOkR b := (from_rel hb).1
  have hbP := bytes_VW h1
  have hbQ := bytesQ_val h2
  have hbb : bytesP (frP b) = bytesQ (frQ b) := hbP.trans hbQ.symm
  have hp : lwP b = true := by
    unfold lwP
    rw [hb, ← he, h1.l, h2.ok, bytesP_len, bytesQ_len, decide_eq_true hbb]
    cases frOk b <;> rfl
  cases ho : frOk b with
  | true =>
    obtain ⟨m1, m2, m3⟩ := h3 ho
    have e : bytesP (frP b) = b := by
      rw [hbP]
      show encB (mm y (inv 1)) (decide (mm x (inv 1) % 2 = 1)) = b
      rw [inv_one, m1, m2]; exact m3
    have key := call0 (lwC_ok true) 60 Try.func5 (lw_true b) (by rw [hp, ho, h1.l, bytesP_len, (keyOK_iff.1 hb).1]; rfl) rfl
    rw [decide_eq_true e] at key
    exact key
  | false => exact call0 (lwC_ok false) 60 Try.func5 (lw_false b) (by rw [hp, ho]; rfl) rfl
end Go.Proofs.Ytailgcdcdhhpnaa.Po
