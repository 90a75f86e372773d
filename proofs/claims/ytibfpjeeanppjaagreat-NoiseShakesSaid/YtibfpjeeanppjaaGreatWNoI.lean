/- This file proves the law NoiseShakes. Conditions: bytes; keys of 32 bytes. -/
import Derived.Test.YtibfpjeeanppjaaGreatWNoH
set_option linter.all false
set_option maxRecDepth 100000
namespace Go.Proofs.YtibfpjeeanppjaaGreat.No
open Go Go.Sy Sh La
noncomputable def shC (a b c : Bool) : Ctr := mk (P := Tryz.prog) [aliveE, pairE, newVE, writeE, readE, keysE, hashE, doneE, Bn.sameE] [] (fK a b c)
theorem shC_ok (a b c : Bool) : CtrSound Tryz.prog (shC a b c) := mk_sound _ InlOK.nil _ _
section
variable (a b x y p q pro : List Int)
theorem sh_p : (callS Tryz.prog (shC true true true) 60 Tryz.f7 [.agg [.ints .u8 32 a, .ints .u8 32 b, .ints .u8 32 x, .ints .u8 32 y, .ro false .u8 p, .ro false .u8 q, .ro false .u8 pro]] []).map (fun x => (x.1, x.2.2)) = some (.bool true, andT true (decide ((p.length : Int) > 1024))) := by kernel_rfl
theorem sh_q : (callS Tryz.prog (shC false true true) 60 Tryz.f7 [.agg [.ints .u8 32 a, .ints .u8 32 b, .ints .u8 32 x, .ints .u8 32 y, .ro false .u8 p, .ro false .u8 q, .ro false .u8 pro]] []).map (fun x => (x.1, x.2.2)) = some (.bool true, andT (andT true (!decide ((p.length : Int) > 1024))) (decide ((q.length : Int) > 1024))) := by kernel_rfl
theorem sh_o : (callS Tryz.prog (shC false false true) 60 Tryz.f7 [.agg [.ints .u8 32 a, .ints .u8 32 b, .ints .u8 32 x, .ints .u8 32 y, .ro false .u8 p, .ro false .u8 q, .ro false .u8 pro]] []).map (fun x => (x.1, x.2.2)) = some (.bool true, andT (andT (andT true (!decide ((p.length : Int) > 1024))) (!decide ((q.length : Int) > 1024))) (decide ((pro.length : Int) > 1000))) := by kernel_rfl
theorem sh_all : (callS Tryz.prog (shC false false false) 60 Tryz.f7 [.agg [.ints .u8 32 a, .ints .u8 32 b, .ints .u8 32 x, .ints .u8 32 y, .ro false .u8 p, .ro false .u8 q, .ro false .u8 pro]] []).map (fun x => (x.1, x.2.2)) = some (.bool true, shO a b x y p q pro (ladW a 9) (ladW b 9) (ladW x 9) (ladW y 9) (sH a b pro) (sG a b pro) (sM a b x p pro) (sN a b x y p q pro) (sG1 a b x p pro) (sH1 a b x p pro) (sC1 a b x p pro) (sE1 a b x) (sc2 a b x y p q pro) (sm1 a b x) (sr1 a b x p pro) (sm2 a b x y p pro) (sr2 a b x y p q pro)) := by kernel_rfl
end
theorem shakes_law {a b x y p q : List Int} (ha : Re.keyOK a = true) (hb : Re.keyOK b = true) (hx : Re.keyOK x = true) (hy : Re.keyOK y = true) (hp : ∀ z ∈ p, 0 ≤ z ∧ z < 256) (hq : ∀ z ∈ q, 0 ≤ z ∧ z < 256) (pro : List Int) :
    FnTr Tryz.prog 7 [.agg [.ints .u8 32 a, .ints .u8 32 b, .ints .u8 32 x, .ints .u8 32 y, .ro false .u8 p, .ro false .u8 q, .ro false .u8 pro]] [] (.bool true) [] := by
  by_cases h1 : 1024 < p.length
  · exact call0 (shC_ok true true true) 60 Tryz.func7 (sh_p a b x y p q pro) (by rw [decide_eq_true (show (p.length : Int) > 1024 by omega)]; rfl) rfl
  by_cases h2 : 1024 < q.length
  · exact call0 (shC_ok false true true) 60 Tryz.func7 (sh_q a b x y p q pro) (by rw [decide_eq_false (show ¬ (p.length : Int) > 1024 by omega), decide_eq_true (show (q.length : Int) > 1024 by omega)]; rfl) rfl
  by_cases h3 : 1000 < pro.length
  · exact call0 (shC_ok false false true) 60 Tryz.func7 (sh_o a b x y p q pro) (by rw [decide_eq_false (show ¬ (p.length : Int) > 1024 by omega), decide_eq_false (show ¬ (q.length : Int) > 1024 by omega), decide_eq_true (show (pro.length : Int) > 1000 by omega)]; rfl) rfl
  exact call0 (shC_ok false false false) 60 Tryz.func7 (sh_all a b x y p q pro) (shO_true ha hb hx hy hp hq (by omega) (by omega) (by omega)) rfl
end Go.Proofs.YtibfpjeeanppjaaGreat.No
