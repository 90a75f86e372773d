/- This file proves the contract of field's Mul: which words come out. No conditions. -/
import Derived.Test.YtailgcdcdhhpnaaFeB
namespace Go.Proofs.Ytailgcdcdhhpnaa.Fe
open Go Go.Sy

/-- A product added to a word of 128 bits. -/
noncomputable def pl (s : Int × Int) (x y : Int) : Int × Int := (w64 (s.1 + w64 (mulH x y + addC s.2 (mulL x y) 0)), addS s.2 (mulL x y) 0)
def yB (b : List Int) (k i : Nat) : Int := if i ≤ k then b.getD (k - i) 0 else w64 (b.getD (k + 5 - i) 0 * 19)
noncomputable def sK (a b : List Int) (k : Nat) : Int × Int := [0, 1, 2, 3, 4].foldl (fun s i => pl s (a.getD i 0) (yB b k i)) (0, 0)
/-- What is carried on from a word of 128 bits. -/
noncomputable def nx (s : Int × Int) (c : Int) : Int := orI .u64 (hi51 (addS s.2 c 0)) (shlI .u64 (w64 (s.1 + addC s.2 c 0)) 13)
noncomputable def mulTail (s0 s1 s2 s3 s4 : Int × Int) : List Int :=
  [lo51 (addS (lo51 (addS s0.2 0 0)) (mulL (nx s4 (nx s3 (nx s2 (nx s1 (nx s0 0))))) 19) 0),
   w64 (lo51 (addS s1.2 (nx s0 0) 0) + orI .u64 (shlI .u64 (w64 (mulH (nx s4 (nx s3 (nx s2 (nx s1 (nx s0 0))))) 19 + addC (lo51 (addS s0.2 0 0)) (mulL (nx s4 (nx s3 (nx s2 (nx s1 (nx s0 0))))) 19) 0)) 13) (hi51 (addS (lo51 (addS s0.2 0 0)) (mulL (nx s4 (nx s3 (nx s2 (nx s1 (nx s0 0))))) 19) 0))),
   lo51 (addS s2.2 (nx s1 (nx s0 0)) 0), lo51 (addS s3.2 (nx s2 (nx s1 (nx s0 0))) 0), lo51 (addS s4.2 (nx s3 (nx s2 (nx s1 (nx s0 0)))) 0)]
noncomputable def mulFe (a b : List Int) : List Int := Lock (carF (mulTail (sK a b 0) (sK a b 1) (sK a b 2) (sK a b 3) (sK a b 4)))

theorem inlPlus : InlOK Try.prog [(73, Try.f73)] := InlOK.cons Try.func73 (by decide) InlOK.nil
noncomputable def mulG := mk (P := Try.prog) [carE, mul64E, add64E] [(73, Try.f73)]
theorem mulG_ok : CtrSound Try.prog mulG := mk_sound _ inlPlus _ _
noncomputable def blk10 (s0 s1 s2 s3 s4 : Int × Int) : Blk := .b [.int .u64 s0.1, .int .u64 s0.2, .int .u64 s1.1, .int .u64 s1.2, .int .u64 s2.1, .int .u64 s2.2, .int .u64 s3.1, .int .u64 s3.2, .int .u64 s4.1, .int .u64 s4.2]
noncomputable def mulS (a b : List Int) (s0 s1 s2 s3 s4 : Int × Int) : St := ⟨slotsOf 127 [(4, .ptr 2 0 0), (5, .ptr 3 0 0)], [.b [.ints .u64 5 (lst 5 a)], .b [.ints .u64 5 (lst 5 b)], .b [.ints .u64 5 [0, 0, 0, 0, 0]], blk10 s0 s1 s2 s3 s4], true⟩
set_option maxRecDepth 100000 in
theorem mul_head (a b : List Int) : (execL Try.prog mulG 100 0 4 (atoms (bodyOf Try.f51)) ⟨slots0 Try.f51.ntmps [.agg [.ints .u64 5 (lst 5 a)], .agg [.ints .u64 5 (lst 5 b)]], [], true⟩).bind (St.cut [4, 5] 4) =
  some (mulS a b (sK (lst 5 a) (lst 5 b) 0) (sK (lst 5 a) (lst 5 b) 1) (sK (lst 5 a) (lst 5 b) 2) (sK (lst 5 a) (lst 5 b) 3) (sK (lst 5 a) (lst 5 b) 4)) := by kernel_rfl

noncomputable def mulEF : List SV → Option (SV × List Blk × Bool)
  | [.agg [.ints .u64 5 a], .agg [.ints .u64 5 b]] => some (.agg [.ints .u64 5 (mulFe (lst 5 a) (lst 5 b))], [], true)
  | _ => none
set_option maxRecDepth 100000 in
theorem mul_fn (a b : List Int) : FnTr Try.prog 51 [.agg [.ints .u64 5 (lst 5 a)], .agg [.ints .u64 5 (lst 5 b)]] [] (.agg [.ints .u64 5 (mulFe (lst 5 a) (lst 5 b))]) [] := by
  rw [mulFe, Lock_eq]
  generalize h0 : sK (lst 5 a) (lst 5 b) 0 = s0
  generalize h1 : sK (lst 5 a) (lst 5 b) 1 = s1
  generalize h2 : sK (lst 5 a) (lst 5 b) 2 = s2
  generalize h3 : sK (lst 5 a) (lst 5 b) 3 = s3
  generalize h4 : sK (lst 5 a) (lst 5 b) 4 = s4
  refine FnTr.restM mulG_ok 100 4 0 Try.func51 (by simp) rfl (fun s' x h => ?_) (s := mulS a b s0 s1 s2 s3 s4) (p := true) (by kernel_rfl) rfl rfl rfl
  refine TrL.items mulG_ok 100 4 _ 4 (by simp) (mul_head a b) rfl (by decide) ?_
  rw [h0, h1, h2, h3, h4]
  exact h
noncomputable def mulE : Entry Try.prog := .val 51 _ Try.func51 (by decide) rfl false 0 mulEF fun vs v new e => by
  unfold mulEF at e
  split at e
  · rename_i a b
    cases e
    exact FnTr.conv (mul_fn a b) ⟨VE.lst _ _ _, VE.lst _ _ _, trivial⟩ trivial (VE.refl _) trivial
  · cases e
end Go.Proofs.Ytailgcdcdhhpnaa.Fe
