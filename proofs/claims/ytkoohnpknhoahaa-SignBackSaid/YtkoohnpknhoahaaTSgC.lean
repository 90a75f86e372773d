/- This file proves contracts of the reference's halves, digest, Base and Public. Conditions: lengths that memory bears. -/
import Derived.Test.YtkoohnpknhoahaaTSgB
import Derived.Test.YtkoohnpknhoahaaTShM
import Derived.Test.YtkoohnpknhoahaaTPoS
set_option linter.all false
namespace Go.Proofs.Ytkoohnpknhoahaa.Sg
open Go Go.Sy Sh
theorem half_a {l : List Int} (h : l.length = 64) : lst 32 l = l.take 32 := by
  apply List.ext_getElem?
  intro i
  unfold lst
  rw [List.getElem?_map, List.getElem?_take]
  by_cases hi : i < 32
  · rw [List.getElem?_range hi, if_pos hi, List.getElem?_eq_getElem (by omega), Option.map_some, List.getD_eq_getElem?_getD, List.getElem?_eq_getElem (by omega)]; rfl
  · rw [List.getElem?_eq_none (by simp; omega), if_neg hi]; rfl
theorem half_b {l : List Int} (h : l.length = 64) : ((List.range 32).map fun i => l.getD (32 + i) 0) = l.drop 32 := by
  apply List.ext_getElem?
  intro i
  rw [List.getElem?_map, List.getElem?_drop]
  by_cases hi : i < 32
  · rw [List.getElem?_range hi, List.getElem?_eq_getElem (by omega), Option.map_some, List.getD_eq_getElem?_getD, List.getElem?_eq_getElem (by omega)]; rfl
  · rw [List.getElem?_eq_none (by simp; omega), List.getElem?_eq_none (by omega)]; rfl
set_option maxRecDepth 100000 in
theorem halves_fn {l : List Int} (h : l.length = 64) : FnTr Try.prog 49 [.agg [.ints .u8 64 l]] [] (.tup [.agg [.ints .u8 32 (l.take 32)], .agg [.ints .u8 32 (l.drop 32)]]) [] := by
  rw [← half_a h, ← half_b h]
  exact call0 ctr0 200 Try.func49 (p := true) (by kernel_rfl) rfl rfl
noncomputable def halvesF : List SV → Option (SV × List Blk × Bool)
  | [.agg [.ints .u8 64 l]] => some (.tup [.agg [.ints .u8 32 (l.take 32)], .agg [.ints .u8 32 (l.drop 32)]], [], decide (l.length = 64))
  | _ => none
noncomputable def halvesE : Entry Try.prog := .val 49 _ Try.func49 (by decide) rfl false 0 halvesF fun vs v new e => by
  unfold halvesF at e
  split at e
  · simp only [Option.some.injEq, Prod.mk.injEq, decide_eq_true_eq] at e
    obtain ⟨rfl, rfl, h⟩ := e
    exact halves_fn h
  · cases e
theorem longQ_len (xs : List Int) : (longQ xs).length = 64 := by rw [longQ, Lock_eq]; simp [outB]
theorem longQ_by (xs : List Int) : ∀ x ∈ longQ xs, 0 ≤ x ∧ x < 256 := by
  intro x hx
  simp only [longQ, Lock_eq, outB, List.mem_map] at hx
  obtain ⟨i, _, rfl⟩ := hx
  simp only [IntKind.wrap, IntKind.signed, IntKind.bits]
  simp
  omega
noncomputable def dgC : Ctr := mk (P := Try.prog) [longRE, Sp.refBitsE] []
theorem dgC_ok : CtrSound Try.prog dgC := mk_sound _ InlOK.nil _ _
theorem digest_fn {l : List Int} (h : l.length < 274877900000) : FnTr Try.prog 63 [.ro false .u8 l] [] (.agg [.ints .u8 32 (redF (longQ l))]) [] := by
  have h64 := longQ_len l
  have hb := by_u8 (longQ_by l)
  exact call0 dgC_ok 60 Try.func63 (p := andT (andT true (andT true (decide (l.length < 274877900000)))) (andT (andT (decide ((longQ l).length = 64) && true) (decide ((longQ l).length = 64))) ((longQ l).all u8 && (decide (0 < (longQ l).length) && decide ((longQ l).length ≤ 1099511627776))))) (by kernel_rfl) (by simp [h, h64, hb, andT]) rfl
noncomputable def digestF : List SV → Option (SV × List Blk × Bool)
  | [.ro false .u8 l] => some (.agg [.ints .u8 32 (redF (longQ l))], [], decide (l.length < 274877900000))
  | _ => none
noncomputable def digestE : Entry Try.prog := .val 63 _ Try.func63 (by decide) rfl true 0 digestF fun vs v new e => by
  unfold digestF at e
  split at e
  · simp only [Option.some.injEq, Prod.mk.injEq, decide_eq_true_eq] at e
    obtain ⟨rfl, rfl, h⟩ := e
    exact digest_fn h
  · cases e
def kX : List Int := [0x1a, 0xd5, 0x25, 0x8f, 0x60, 0x2d, 0x56, 0xc9, 0xb2, 0xa7, 0x25, 0x95, 0x60, 0xc7, 0x2c, 0x69, 0x5c, 0xdc, 0xd6, 0xfd, 0x31, 0xe2, 0xa4, 0xc0, 0xfe, 0x53, 0x6e, 0xcd, 0xd3, 0x36, 0x69, 0x21]
def kY : List Int := [0x58, 0x66, 0x66, 0x66, 0x66, 0x66, 0x66, 0x66, 0x66, 0x66, 0x66, 0x66, 0x66, 0x66, 0x66, 0x66, 0x66, 0x66, 0x66, 0x66, 0x66, 0x66, 0x66, 0x66, 0x66, 0x66, 0x66, 0x66, 0x66, 0x66, 0x66, 0x66]
noncomputable def bsQ (k : List Int) : List Int := Re.refN (Fe.val256 k % 57896044618658097711785492504343953926634992332820282019728792003956564819968 % Fe.Pm)
noncomputable def baseQ : Po.QP := (bsQ kX, bsQ kY, 1 :: List.replicate 15 0)
noncomputable def bsC : Ctr := mk (P := Try.prog) [Re.fromE] []
theorem bsC_ok : CtrSound Try.prog bsC := mk_sound _ InlOK.nil _ _
set_option maxRecDepth 100000 in
theorem base_run : (callS Try.prog bsC 100 Try.f53 [] []).map (fun x => (x.1, x.2.2)) = some (Po.svQ baseQ, andT (andT true (andT true (Re.keyOK kX))) (andT true (Re.keyOK kY))) := by kernel_rfl
theorem baseR_fn : FnTr Try.prog 53 [] [] (Po.svQ baseQ) [] := call0 bsC_ok 100 Try.func53 base_run (by decide) rfl
noncomputable def baseREF : List SV → Option (SV × List Blk × Bool)
  | [] => some (Po.svQ baseQ, [], true)
  | _ => none
noncomputable def baseRE : Entry Try.prog := .val 53 _ Try.func53 (by decide) rfl false 0 baseREF fun vs v new e => by
  unfold baseREF at e
  split at e
  · cases e; exact baseR_fn
  · cases e
end Go.Proofs.Ytkoohnpknhoahaa.Sg
