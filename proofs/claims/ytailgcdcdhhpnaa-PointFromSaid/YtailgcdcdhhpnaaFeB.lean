/- This file proves the contracts of field's carry, Add, Sub, (*wide).plus, Mul: which words come out. No conditions. -/
import Derived.Test.YtailgcdcdhhpnaaFeA
namespace Go.Proofs.Ytailgcdcdhhpnaa.Fe
open Go Go.Sy

theorem VE.lst (k : IntKind) (n : Nat) (l : List Int) : VE (.agg [.ints k n l]) (.agg [.ints k n (lst n l)]) := fun e x ⟨ys, h1, h2⟩ => ⟨ys, (PE.lst k n l).2 e ys h1, h2⟩
theorem lst_getD {n i : Nat} (l : List Int) (h : i < n) : (lst n l).getD i 0 = l.getD i 0 := by rw [List.getD, lst_get _ h]; rfl

abbrev w64 (n : Int) : Int := IntKind.u64.wrap n
abbrev lo51 (n : Int) : Int := andI .u64 n 2251799813685247
abbrev hi51 (n : Int) : Int := shrI .u64 n 51
/-- One pass of carry: the words with what is carried to them. -/
def cw0 (l : List Int) : Int := w64 (l.getD 0 0 + 0)
def cw1 (l : List Int) : Int := w64 (l.getD 1 0 + hi51 (cw0 l))
def cw2 (l : List Int) : Int := w64 (l.getD 2 0 + hi51 (cw1 l))
def cw3 (l : List Int) : Int := w64 (l.getD 3 0 + hi51 (cw2 l))
def cw4 (l : List Int) : Int := w64 (l.getD 4 0 + hi51 (cw3 l))
def passW (l : List Int) : List Int := [w64 (lo51 (cw0 l) + w64 (19 * hi51 (cw4 l))), lo51 (cw1 l), lo51 (cw2 l), lo51 (cw3 l), lo51 (cw4 l)]
noncomputable def carF (l : List Int) : List Int := Lock (passW (passW (lst 5 l)))

noncomputable def carEF : List SV → Option (SV × List Blk × Bool)
  | [.agg [.ints .u64 5 l]] => some (.agg [.ints .u64 5 (carF l)], [], true)
  | _ => none
set_option maxRecDepth 100000 in
theorem car_fn (l : List Int) : FnTr Try.prog 63 [.agg [.ints .u64 5 l]] [] (.agg [.ints .u64 5 (carF l)]) [] := by
  refine FnTr.conv (bs := [.agg [.ints .u64 5 (lst 5 l)]]) (h2 := []) (h1 := []) (v := .agg [.ints .u64 5 (carF l)]) ?_ ⟨VE.lst _ _ _, trivial⟩ trivial (VE.refl _) trivial
  rw [carF, Lock_eq]
  exact call0 ctr0 100 Try.func63 (p := true) (by kernel_rfl) rfl rfl
noncomputable def carE : Entry Try.prog := .val 63 _ Try.func63 (by decide) rfl false 0 carEF fun vs v new e => by
  unfold carEF at e
  split at e
  · cases e; exact car_fn _
  · cases e

/-! ### Add, Sub -/
def addL (a b : List Int) : List Int := [w64 (a.getD 0 0 + b.getD 0 0), w64 (a.getD 1 0 + b.getD 1 0), w64 (a.getD 2 0 + b.getD 2 0), w64 (a.getD 3 0 + b.getD 3 0), w64 (a.getD 4 0 + b.getD 4 0)]
noncomputable def addFe (a b : List Int) : List Int := carF (addL a b)
noncomputable def addEF : List SV → Option (SV × List Blk × Bool)
  | [.agg [.ints .u64 5 a], .agg [.ints .u64 5 b]] => some (.agg [.ints .u64 5 (addFe a b)], [], true)
  | _ => none
theorem ctrCar : CtrSound Try.prog (mk [carE] []) := mk_sound _ InlOK.nil _ _
theorem getD_cons5 (a b c d e : Int) : [a, b, c, d, e].length = 5 := rfl
set_option maxRecDepth 100000 in
noncomputable def addE : Entry Try.prog := .val 64 _ Try.func64 (by decide) rfl false 0 addEF fun vs v new e => by
  unfold addEF at e
  split at e
  · rename_i a b
    cases e
    refine FnTr.conv (bs := [.agg [.ints .u64 5 (lst 5 a)], .agg [.ints .u64 5 (lst 5 b)]]) (h2 := []) (h1 := []) (v := .agg [.ints .u64 5 (addFe a b)]) ?_ ⟨VE.lst _ _ _, VE.lst _ _ _, trivial⟩ trivial (VE.refl _) trivial
    exact call0 ctrCar 100 Try.func64 (p := true) (by kernel_rfl) rfl rfl
  · cases e

def subL (a b : List Int) : List Int := [w64 (a.getD 0 0 + w64 (9007199254740916 - b.getD 0 0)), w64 (a.getD 1 0 + w64 (9007199254740988 - b.getD 1 0)), w64 (a.getD 2 0 + w64 (9007199254740988 - b.getD 2 0)), w64 (a.getD 3 0 + w64 (9007199254740988 - b.getD 3 0)), w64 (a.getD 4 0 + w64 (9007199254740988 - b.getD 4 0))]
noncomputable def subFe (a b : List Int) : List Int := carF (subL a b)
noncomputable def subEF : List SV → Option (SV × List Blk × Bool)
  | [.agg [.ints .u64 5 a], .agg [.ints .u64 5 b]] => some (.agg [.ints .u64 5 (subFe a b)], [], true)
  | _ => none
set_option maxRecDepth 100000 in
noncomputable def subE : Entry Try.prog := .val 55 _ Try.func55 (by decide) rfl false 0 subEF fun vs v new e => by
  unfold subEF at e
  split at e
  · rename_i a b
    cases e
    refine FnTr.conv (bs := [.agg [.ints .u64 5 (lst 5 a)], .agg [.ints .u64 5 (lst 5 b)]]) (h2 := []) (h1 := []) (v := .agg [.ints .u64 5 (subFe a b)]) ?_ ⟨VE.lst _ _ _, VE.lst _ _ _, trivial⟩ trivial (VE.refl _) trivial
    exact call0 ctrCar 100 Try.func55 (p := true) (by kernel_rfl) rfl rfl
  · cases e
end Go.Proofs.Ytailgcdcdhhpnaa.Fe
