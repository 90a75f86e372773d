/- This file proves what words' operations come to as arithmetic, and the contracts of the library's Add64, Mul64. Conditions: numbers within their kinds. -/
import Derived.Test.YtkoohnpknhoahaaJMd
import Derived.Test.YtkoohnpknhoahaaChecked
import Derived.Laws.Externs
import Derived.Laws.BitsLemmas
import Derived.IntWalk
set_option linter.all false
namespace Go.Proofs.Ytkoohnpknhoahaa.Fe
open Go Go.Sy
def inU (m : Int) (x : Int) : Bool := decide (0 ≤ x) && decide (x < m)
def u64 (x : Int) : Bool := inU 18446744073709551616 x
def u8 (x : Int) : Bool := inU 256 x
theorem u64_iff {x : Int} : u64 x = true ↔ 0 ≤ x ∧ x < 18446744073709551616 := by simp [u64, inU]
theorem wrap_u64 (n : Int) : IntKind.u64.wrap n = n % 18446744073709551616 := by simp [IntKind.wrap, IntKind.signed, IntKind.bits]
theorem wrap_u8 (n : Int) : IntKind.u8.wrap n = n % 256 := by simp [IntKind.wrap, IntKind.signed, IntKind.bits]
theorem wrap_i64 (n : Int) (h0 : -9223372036854775808 ≤ n) (h1 : n < 9223372036854775808) : IntKind.i64.wrap n = n := IntWalk.i64_in n (by omega)
noncomputable def addS (x y c : Int) : Int := Lock (Int.ofNat ((x.toNat + y.toNat + c.toNat) % Extern.MathBitsCarry.m64))
noncomputable def addC (x y c : Int) : Int := Lock (Int.ofNat ((x.toNat + y.toNat + c.toNat) / Extern.MathBitsCarry.m64))
def carry1 (c : Int) : Bool := decide (c.toNat ≤ 1)
theorem run_add64' {P : Program} (x y c : Int) (hc : carry1 c = true) (w : World) :
    (add64Entry #[.int .u64 x, .int .u64 y, .int .u64 c]).run P w = .ok (.tuple #[.int .u64 (addS x y c), .int .u64 (addC x y c)]) w := by
  unfold addS addC
  rw [Lock_eq, Lock_eq]
  rcases c with (_ | _ | k) | n
  · rfl
  · rfl
  · simp [carry1] at hc; omega
  · rfl
theorem addS_eq {x y c : Int} (hx : 0 ≤ x) (hy : 0 ≤ y) (hc : 0 ≤ c) : addS x y c = (x + y + c) % 18446744073709551616 ∧ addC x y c = (x + y + c) / 18446744073709551616 := by
  unfold addS addC
  rw [Lock_eq, Lock_eq]
  have : Extern.MathBitsCarry.m64 = 18446744073709551616 := rfl
  rw [this]
  simp only [Int.ofNat_eq_natCast]
  omega
noncomputable def add64F : List SV → Option (SV × Bool)
  | [.int .u64 x, .int .u64 y, .int .u64 c] => some (.tup [.int .u64 (addS x y c), .int .u64 (addC x y c)], carry1 c)
  | _ => none
noncomputable def add64E : Entry Try.prog := .ext 111 add64F fun vs v e en w args hl => by
  unfold add64F at e
  split at e
  · rename_i x y c
    simp only [Option.some.injEq, Prod.mk.injEq] at e
    obtain ⟨rfl, hc⟩ := e
    obtain ⟨_, _, rfl, ⟨_, _, rfl, ⟨_, _, rfl, rfl, rfl⟩, rfl⟩, rfl⟩ := hl
    refine ⟨_, ?_, ⟨_, ⟨_, _, rfl, ⟨_, _, rfl, rfl, rfl⟩, rfl⟩, rfl⟩⟩
    rw [run_callFunc_extern Try.func111 (by kernel_rfl) (by kernel_rfl) (by kernel_rfl) (e := add64Entry) (by kernel_rfl), run_add64' x y c hc]
    rfl
  · cases e
theorem ctr0 : CtrSound Try.prog (mk (P := Try.prog) [] []) := mk_sound [] InlOK.nil _ _
def mulT (x y : Int) : Int := IntKind.u64.wrap (IntKind.u64.wrap (shrI .u64 x 32 * andI .u64 y 4294967295) + shrI .u64 (IntKind.u64.wrap (andI .u64 x 4294967295 * andI .u64 y 4294967295)) 32)
noncomputable def mulH (x y : Int) : Int := Lock (IntKind.u64.wrap (IntKind.u64.wrap (IntKind.u64.wrap (shrI .u64 x 32 * shrI .u64 y 32) + shrI .u64 (mulT x y) 32) +
  shrI .u64 (IntKind.u64.wrap (andI .u64 (mulT x y) 4294967295 + IntKind.u64.wrap (andI .u64 x 4294967295 * shrI .u64 y 32))) 32))
noncomputable def mulL (x y : Int) : Int := Lock (IntKind.u64.wrap (x * y))
noncomputable def mul64F : List SV → Option (SV × List Blk × Bool)
  | [.int .u64 x, .int .u64 y] => some (.tup [.int .u64 (mulH x y), .int .u64 (mulL x y)], [], true)
  | _ => none
set_option maxRecDepth 100000 in
noncomputable def mul64E : Entry Try.prog := .val 110 _ Try.func110 (by decide) rfl false 0 mul64F fun vs v new e => by
  unfold mul64F at e
  split at e
  · rename_i x y
    cases e
    rw [mulH, mulL, Lock_eq, Lock_eq]
    exact call0 ctr0 60 Try.func110 (p := true) (by kernel_rfl) rfl rfl
  · cases e
end Go.Proofs.Ytkoohnpknhoahaa.Fe
namespace Go.Proofs.Ytkoohnpknhoahaa.Fe
open Go Go.Sy
theorem VE.lst (k : IntKind) (n : Nat) (l : List Int) : VE (.agg [.ints k n l]) (.agg [.ints k n (lst n l)]) := fun e _ ⟨ys, h1, h2⟩ => ⟨ys, (PE.lst k n l).2 e ys h1, h2⟩
abbrev w64 (n : Int) : Int := IntKind.u64.wrap n
abbrev lo51 (n : Int) : Int := andI .u64 n 2251799813685247
abbrev hi51 (n : Int) : Int := shrI .u64 n 51
def cw0 (l : List Int) : Int := w64 (l.getD 0 0 + 0)
def cw1 (l : List Int) : Int := w64 (l.getD 1 0 + hi51 (cw0 l))
def cw2 (l : List Int) : Int := w64 (l.getD 2 0 + hi51 (cw1 l))
def cw3 (l : List Int) : Int := w64 (l.getD 3 0 + hi51 (cw2 l))
def cw4 (l : List Int) : Int := w64 (l.getD 4 0 + hi51 (cw3 l))
def passW (l : List Int) : List Int := [w64 (lo51 (cw0 l) + w64 (19 * hi51 (cw4 l))), lo51 (cw1 l), lo51 (cw2 l), lo51 (cw3 l), lo51 (cw4 l)]
noncomputable def carF (l : List Int) : List Int := Lock (passW (passW (lst 5 l)))
noncomputable def carEF : List SV → Option (SV × List Blk × Bool)
  | [.agg [.ints .u64 5 l]] => some (.agg [.ints .u64 5 (carF l)], [], true)
  | _ => none
set_option maxRecDepth 100000 in
theorem car_fn (l : List Int) : FnTr Try.prog 135 [.agg [.ints .u64 5 l]] [] (.agg [.ints .u64 5 (carF l)]) [] := by
  refine FnTr.conv (bs := [.agg [.ints .u64 5 (lst 5 l)]]) (h2 := []) (h1 := []) (v := .agg [.ints .u64 5 (carF l)]) ?_ ⟨VE.lst _ _ _, trivial⟩ trivial (VE.refl _) trivial
  rw [carF, Lock_eq]
  exact call0 ctr0 100 Try.func135 (p := true) (by kernel_rfl) rfl rfl
noncomputable def carE : Entry Try.prog := .val 135 _ Try.func135 (by decide) rfl false 0 carEF fun vs v new e => by
  unfold carEF at e
  split at e
  · cases e; exact car_fn _
  · cases e
def addL (a b : List Int) : List Int := [w64 (a.getD 0 0 + b.getD 0 0), w64 (a.getD 1 0 + b.getD 1 0), w64 (a.getD 2 0 + b.getD 2 0), w64 (a.getD 3 0 + b.getD 3 0), w64 (a.getD 4 0 + b.getD 4 0)]
noncomputable def addFe (a b : List Int) : List Int := carF (addL a b)
noncomputable def addEF : List SV → Option (SV × List Blk × Bool)
  | [.agg [.ints .u64 5 a], .agg [.ints .u64 5 b]] => some (.agg [.ints .u64 5 (addFe a b)], [], true)
  | _ => none
theorem ctrCar : CtrSound Try.prog (mk [carE] []) := mk_sound _ InlOK.nil _ _
set_option maxRecDepth 100000 in
noncomputable def addE : Entry Try.prog := .val 131 _ Try.func131 (by decide) rfl false 0 addEF fun vs v new e => by
  unfold addEF at e
  split at e
  · rename_i a b
    cases e
    refine FnTr.conv (bs := [.agg [.ints .u64 5 (lst 5 a)], .agg [.ints .u64 5 (lst 5 b)]]) (h2 := []) (h1 := []) (v := .agg [.ints .u64 5 (addFe a b)]) ?_ ⟨VE.lst _ _ _, VE.lst _ _ _, trivial⟩ trivial (VE.refl _) trivial
    exact call0 ctrCar 100 Try.func131 (p := true) (by kernel_rfl) rfl rfl
  · cases e
end Go.Proofs.Ytkoohnpknhoahaa.Fe
namespace Go.Proofs.Ytkoohnpknhoahaa.Fe
open Go Go.Sy
noncomputable def pl (s : Int × Int) (x y : Int) : Int × Int := (w64 (s.1 + w64 (mulH x y + addC s.2 (mulL x y) 0)), addS s.2 (mulL x y) 0)
noncomputable def nx (s : Int × Int) (c : Int) : Int := orI .u64 (hi51 (addS s.2 c 0)) (shlI .u64 (w64 (s.1 + addC s.2 c 0)) 13)
end Go.Proofs.Ytkoohnpknhoahaa.Fe
namespace Go.Proofs.Ytkoohnpknhoahaa.Fe
open Go Go.Sy
def ix : Nat → Int
  | 0 => 7
  | k + 1 => IntKind.i64.wrap (ix k - 1)
def t0 (a : List Int) : Int := w64 (a.getD 0 0 + 19)
def t1 (a : List Int) : Int := w64 (a.getD 1 0 + hi51 (t0 a))
def t2 (a : List Int) : Int := w64 (a.getD 2 0 + hi51 (t1 a))
def t3 (a : List Int) : Int := w64 (a.getD 3 0 + hi51 (t2 a))
def t4 (a : List Int) : Int := w64 (a.getD 4 0 + hi51 (t3 a))
def overT (a : List Int) : List Int := [lo51 (t0 a), lo51 (t1 a), lo51 (t2 a), lo51 (t3 a), lo51 (t4 a)]
def bytesW (w : List Int) : List Int :=
  (List.range 32).map fun i => IntKind.u8.wrap (shrI .u64 ([orI .u64 (w.getD 0 0) (shlI .u64 (w.getD 1 0) 51), orI .u64 (shrI .u64 (w.getD 1 0) 13) (shlI .u64 (w.getD 2 0) 38), orI .u64 (shrI .u64 (w.getD 2 0) 26) (shlI .u64 (w.getD 3 0) 25),
    orI .u64 (shrI .u64 (w.getD 3 0) 39) (shlI .u64 (w.getD 4 0) 12)].getD (i / 8) 0) (8 * (i % 8)))
noncomputable def bytesFe (a : List Int) : List Int := Lock (bytesW (bif decide (hi51 (t4 (lst 5 (carF a))) > 0) then overT (lst 5 (carF a)) else lst 5 (carF a)))
noncomputable def carEF2 : List SV → Option (SV × List Blk × Bool)
  | [.agg [.ints .u64 5 l]] => some (.agg [.ints .u64 5 (lst 5 (carF l))], [], true)
  | _ => none
noncomputable def carE2 : Entry Try.prog := .val 135 _ Try.func135 (by decide) rfl false 0 carEF2 fun vs v new e => by
  unfold carEF2 at e
  split at e
  · rename_i l
    cases e
    exact FnTr.conv (car_fn l) ⟨VE.refl _, trivial⟩ trivial (VE.lst _ _ _) trivial
  · cases e
noncomputable def bytesEF : List SV → Option (SV × List Blk × Bool)
  | [.agg [.ints .u64 5 a]] => some (.agg [.ints .u8 32 (bytesFe a)], [], true)
  | _ => none
theorem ctrBytes (b : Bool) : CtrSound Try.prog (mk [carE2] [] fun i => if i = 40 then some b else none) := mk_sound _ InlOK.nil _ _
set_option maxRecDepth 100000 in
noncomputable def bytesE : Entry Try.prog := .val 87 _ Try.func87 (by decide) rfl false 0 bytesEF fun vs v new e => by
  unfold bytesEF at e
  split at e
  · rename_i a
    cases e
    unfold bytesFe
    rw [Lock_eq]
    cases hn : decide (hi51 (t4 (lst 5 (carF a))) > 0) with
    | true => exact call0 (ctrBytes true) 200 Try.func87 (p := andT true (decide (hi51 (t4 (lst 5 (carF a))) > 0))) (by kernel_rfl) (by rw [hn]; rfl) rfl
    | false => exact call0 (ctrBytes false) 200 Try.func87 (p := andT true (!decide (hi51 (t4 (lst 5 (carF a))) > 0))) (by kernel_rfl) (by rw [hn]; rfl) rfl
  · cases e
theorem bytesFe_length (a : List Int) : (bytesFe a).length = 32 := by rw [bytesFe, Lock_eq, bytesW]; simp
noncomputable def equalEF : List SV → Option (SV × List Blk × Bool)
  | [.agg [.ints .u64 5 a], .agg [.ints .u64 5 b]] => some (.bool (decide (bytesFe a = bytesFe b)), [], true)
  | _ => none
theorem ctrEq : CtrSound Try.prog (mk [bytesE] []) := mk_sound _ InlOK.nil _ _
set_option maxRecDepth 100000 in
noncomputable def equalE : Entry Try.prog := .val 133 _ Try.func133 (by decide) rfl false 0 equalEF fun vs v new e => by
  unfold equalEF at e
  split at e
  · rename_i a b
    cases e
    exact call0 ctrEq 60 Try.func133 (p := andT true (andT (decide ((bytesFe a).length = 32)) (decide ((bytesFe b).length = 32)))) (by kernel_rfl) (by first | rfl | simp [andT, bytesFe_length]) rfl
  · cases e
end Go.Proofs.Ytkoohnpknhoahaa.Fe
namespace Go.Proofs.Ytkoohnpknhoahaa.Fe
open Go Go.Sy
section
variable (e a o : List Int) (l : Nat) (i : Int)
end
end Go.Proofs.Ytkoohnpknhoahaa.Fe
namespace Go.Proofs.Ytkoohnpknhoahaa.Fe
open Go Go.Sy
def e2 : List Int := 235 :: (List.replicate 30 255 ++ [127])
def e1 : List Int := 251 :: (List.replicate 30 255 ++ [31])
end Go.Proofs.Ytkoohnpknhoahaa.Fe
