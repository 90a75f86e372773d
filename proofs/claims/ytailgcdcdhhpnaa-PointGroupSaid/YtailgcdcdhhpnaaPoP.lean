/- This file proves the law PointAdds as a call of the interpreter: it returns true. Conditions: bytes within their kind. -/
import Derived.Test.YtailgcdcdhhpnaaMl
namespace Go.Proofs.Ytailgcdcdhhpnaa.Po
open Go Go.Sy Re Fe

noncomputable def adC : Ctr := mk (P := Try.prog) [aliveE, fromE, fromRE, addE, addRE, bytesE, bytesRE, negE, negRE, equalE] [] fun i => if i = 38 || i = 41 then some false else if i = 52 || i = 61 then some true else none
theorem adC_ok : CtrSound Try.prog adC := mk_sound _ InlOK.nil _ _
def lenPQ (p : List Int) (q : List Int) : Bool := andT (decide (p.length = 32)) (decide (q.length = 32))
noncomputable def adP (a b : List Int) : Bool :=
  let p := frP a
  let q := frP b
  let x := frQ a
  let y := frQ b
  let o1 := andT (andT (ob2 (ob2 true (keyOK a)) (keyOK b)) (!(!(frOk a == frOkR a)))) (!(!(frOk b == frOkR b)))
  let o2 := ob2 (ob2 (ob2 (ob2 o1 (lenZ p && lenZ q)) (lenZ (addP p q))) (okQ x && okQ y)) (okQ (addQ x y))
  let o3 := andT (andT o2 (lenPQ (bytesP (addP p q)) (bytesQ (addQ x y)))) (decide (bytesP (addP p q) = bytesQ (addQ x y)))
  let o4 := ob2 (ob2 (ob2 (ob2 o3 (lenZ p)) (lenZ (negP p))) (okQ x)) (okQ (negQ x))
  let o5 := andT (andT o4 (lenPQ (bytesP (negP p)) (bytesQ (negQ x)))) (decide (bytesP (negP p) = bytesQ (negQ x)))
  andT (ob2 (ob2 (ob2 o5 (lenZ p && lenZ q)) (okQ x)) (okQ y)) (lenPQ (bytesQ x) (bytesQ y))
set_option maxRecDepth 100000 in
theorem ad_run (a b : List Int) : (callS Try.prog adC 60 Try.f6 [.agg [.ints .u8 32 a], .agg [.ints .u8 32 b]] []).map (fun x => (x.1, x.2.2)) =
    some (.bool ((eqX (frP a) (frP b) && eqY (frP a) (frP b)) == decide (bytesQ (frQ a) = bytesQ (frQ b))), adP a b) := by kernel_rfl
theorem encA_len (A : Pt) : (encA A).length = 32 := (keyOK_iff.1 (enc_ok (val_lt A.2).1 (val_lt A.2).2 _).1).1
theorem from_eq {b : List Int} (hb : keyOK b = true) : frOkR b = frOk b := (from_rel hb).1.symm
theorem enc_iff {A B : Pt} (hA : On A) (hB : On B) : decide (encA A = encA B) = decide (A = B) := decide_eq_decide.2 ⟨enc_inj hA hB, congrArg encA⟩
theorem add_law {a b : List Int} (ha : keyOK a = true) (hb : keyOK b = true) : FnTr Try.prog 6 [.agg [.ints .u8 32 a], .agg [.ints .u8 32 b]] [] (.bool true) [] := by
  obtain ⟨A, p1, q1, _⟩ := from_pt ha
  obtain ⟨B, p2, q2, _⟩ := from_pt hb
  have e : ((eqX (frP a) (frP b) && eqY (frP a) (frP b)) == decide (bytesQ (frQ a) = bytesQ (frQ b))) = true := by
    rw [p1.equal p2, q1.bytes, q2.bytes, enc_iff p1.on p2.on]
    exact beq_self_eq_true _
  have hp : adP a b = true := by
    unfold adP lenPQ
    simp only [ha, hb, from_eq ha, from_eq hb, p1.l, p2.l, (p1.add p2).l, q1.ok, q2.ok, (q1.add q2).ok, encA_len, bytesQ_len, (p1.add p2).bytes, (q1.add q2).bytes, p1.neg.l, q1.neg.ok, p1.neg.bytes, q1.neg.bytes]
    cases frOk a <;> cases frOk b <;> simp [ob2, andT]
  have key := call0 adC_ok 60 Try.func6 (ad_run a b) hp rfl
  rw [e] at key
  exact key
end Go.Proofs.Ytailgcdcdhhpnaa.Po
