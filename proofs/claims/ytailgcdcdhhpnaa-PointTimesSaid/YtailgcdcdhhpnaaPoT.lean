/- This file proves the law PointTimes as a call of the interpreter: it returns true. Conditions: bytes within their kind. -/
import Derived.Test.YtailgcdcdhhpnaaPoS
namespace Go.Proofs.Ytailgcdcdhhpnaa.Po
open Go Go.Sy Re Fe

noncomputable def tmC : Ctr := mk (P := Try.prog) [aliveE, fromE, fromRE, timesE, timesRE, bytesE, bytesRE] [] fun i => if i = 24 then some true else none
theorem tmC_ok : CtrSound Try.prog tmC := mk_sound _ InlOK.nil _ _
noncomputable def tmP (a n : List Int) : Bool :=
  let o1 := andT (ob2 (ob2 true true) (keyOK a)) (frOk a == frOkR a)
  let o2 := ob2 (ob2 (ob2 (ob2 o1 (lenZ (frP a))) (lenZ (timesP (frP a) n))) (okQ (frQ a))) (okQ (timesQ (frQ a) n))
  andT o2 (lenPQ (bytesP (timesP (frP a) n)) (bytesQ (timesQ (frQ a) n)))
set_option maxRecDepth 100000 in
theorem tm_run (a n : List Int) : (callS Try.prog tmC 60 Try.f7 [.agg [.ints .u8 32 a], .agg [.ints .u8 32 n]] []).map (fun x => (x.1, x.2.2)) =
    some (.bool (decide (bytesP (timesP (frP a) n) = bytesQ (timesQ (frQ a) n))), tmP a n) := by kernel_rfl
theorem times_law {a n : List Int} (ha : keyOK a = true) (hn : keyOK n = true) : FnTr Try.prog 7 [.agg [.ints .u8 32 a], .agg [.ints .u8 32 n]] [] (.bool true) [] := by
  obtain ⟨A, p1, q1, _⟩ := from_pt ha
  have hp : tmP a n = true := by
    unfold tmP lenPQ
    simp only [ha, from_eq ha, p1.l, (p1.times hn).l, q1.ok, (q1.times hn).ok, (p1.times hn).bytes, (q1.times hn).bytes, encA_len]
    cases frOk a <;> simp [ob2, andT]
  have key := call0 tmC_ok 60 Try.func7 (tm_run a n) hp rfl
  rw [(p1.times hn).bytes, (q1.times hn).bytes, decide_eq_true rfl] at key
  exact key
end Go.Proofs.Ytailgcdcdhhpnaa.Po
