/- This file proves what words' operations come to as arithmetic, and the contracts of the library's Add64, Mul64. Conditions: numbers within their kinds. -/
import Derived.Test.YtkoohnpknhoahaaKMd
import Derived.Test.YtkoohnpknhoahaaChecked
import Derived.Laws.Externs
import Derived.Laws.BitsLemmas
import Derived.IntWalk
set_option linter.all false
namespace Go.Proofs.Ytkoohnpknhoahaa.Fe
open Go Go.Sy
def inU (m : Int) (x : Int) : Bool := decide (0 ≤ x) && decide (x < m)
def u64 (x : Int) : Bool := inU 18446744073709551616 x
def u8 (x : Int) : Bool := inU 256 x
theorem u64_iff {x : Int} : u64 x = true ↔ 0 ≤ x ∧ x < 18446744073709551616 := by simp [u64, inU]
theorem wraps_u64 (n : Int) (h₀ : 0 ≤ n) (h₁ : n < 2 ^ 64) : IntKind.u64.wrap n = n := by
  have e : (2 : Int) ^ 64 = 18446744073709551616 := by decide
  rw [e] at h₁
  rw [show IntKind.u64.wrap n = n % 2 ^ 64 from by simp [IntKind.wrap, IntKind.signed, IntKind.bits], e]
  omega
theorem wrap_u64 (n : Int) : IntKind.u64.wrap n = n % 18446744073709551616 := by simp [IntKind.wrap, IntKind.signed, IntKind.bits]
theorem wrap_u8 (n : Int) : IntKind.u8.wrap n = n % 256 := by simp [IntKind.wrap, IntKind.signed, IntKind.bits]
theorem wrap_i64 (n : Int) (h0 : -9223372036854775808 ≤ n) (h1 : n < 9223372036854775808) : IntKind.i64.wrap n = n := IntWalk.i64_in n (by omega)
theorem or64 (i : Nat) (x y : Int) (hx₀ : 0 ≤ x) (hx : x % 2 ^ i = 0) (hx₁ : x < 18446744073709551616) (hy₀ : 0 ≤ y) (hy : y < 2 ^ i) (hi : i ≤ 64) : orI .u64 x y = x + y := by
  have e : (2 : Int) ^ 64 = 18446744073709551616 := by decide
  have h2 : (2 : Int) ^ i ≤ 2 ^ 64 := by exact_mod_cast Nat.pow_le_pow_right (by decide) hi
  exact bits_join .u64 64 (by decide) wraps_u64 i x y hx₀ hx (by rw [e]; exact hx₁) hy₀ hy (by omega)
theorem shr_eq (k : IntKind) (a : Int) (n : Nat) (hn : n ≤ k.bits) : shrI k a n = a / 2 ^ n := by
  unfold shrI
  rw [Nat.min_eq_left hn, Int.fdiv_eq_ediv_of_nonneg]
  exact_mod_cast Nat.zero_le (2 ^ n)
theorem shl64 (a : Int) (n : Nat) (hn : n ≤ 64) : shlI .u64 a n = a * 2 ^ n % 18446744073709551616 := by
  unfold shlI
  rw [show min n IntKind.u64.bits = n from Nat.min_eq_left hn, wrap_u64]
theorem and64 (i : Nat) (hi : i ≤ 64) (x : Int) (h0 : 0 ≤ x) (h1 : x < 18446744073709551616) : andI .u64 x (2 ^ i - 1) = x % 2 ^ i := by
  exact (bits_mask .u64 64 (by decide) wraps_u64 i hi x h0 h1 : bits .and .u64 x (2 ^ i - 1) = x % 2 ^ i)
theorem mask32 (x : Int) (h0 : 0 ≤ x) (h1 : x < 18446744073709551616) : andI .u64 x 4294967295 = x % 4294967296 := and64 32 (by decide) x h0 h1
noncomputable def addS (x y c : Int) : Int := Lock (Int.ofNat ((x.toNat + y.toNat + c.toNat) % Extern.MathBitsCarry.m64))
noncomputable def addC (x y c : Int) : Int := Lock (Int.ofNat ((x.toNat + y.toNat + c.toNat) / Extern.MathBitsCarry.m64))
def carry1 (c : Int) : Bool := decide (c.toNat ≤ 1)
theorem run_add64' {P : Program} (x y c : Int) (hc : carry1 c = true) (w : World) :
    (add64Entry #[.int .u64 x, .int .u64 y, .int .u64 c]).run P w = .ok (.tuple #[.int .u64 (addS x y c), .int .u64 (addC x y c)]) w := by
  unfold addS addC
  rw [Lock_eq, Lock_eq]
  rcases c with (_ | _ | k) | n
  · rfl
  · rfl
  · simp [carry1] at hc; omega
  · rfl
theorem addS_eq {x y c : Int} (hx : 0 ≤ x) (hy : 0 ≤ y) (hc : 0 ≤ c) : addS x y c = (x + y + c) % 18446744073709551616 ∧ addC x y c = (x + y + c) / 18446744073709551616 := by
  unfold addS addC
  rw [Lock_eq, Lock_eq]
  have : Extern.MathBitsCarry.m64 = 18446744073709551616 := rfl
  rw [this]
  simp only [Int.ofNat_eq_natCast]
  omega
noncomputable def add64F : List SV → Option (SV × Bool)
  | [.int .u64 x, .int .u64 y, .int .u64 c] => some (.tup [.int .u64 (addS x y c), .int .u64 (addC x y c)], carry1 c)
  | _ => none
noncomputable def add64E : Entry Try.prog := .ext 111 add64F fun vs v e en w args hl => by
  unfold add64F at e
  split at e
  · rename_i x y c
    simp only [Option.some.injEq, Prod.mk.injEq] at e
    obtain ⟨rfl, hc⟩ := e
    obtain ⟨_, _, rfl, ⟨_, _, rfl, ⟨_, _, rfl, rfl, rfl⟩, rfl⟩, rfl⟩ := hl
    refine ⟨_, ?_, ⟨_, ⟨_, _, rfl, ⟨_, _, rfl, rfl, rfl⟩, rfl⟩, rfl⟩⟩
    rw [run_callFunc_extern Try.func111 (by kernel_rfl) (by kernel_rfl) (by kernel_rfl) (e := add64Entry) (by kernel_rfl), run_add64' x y c hc]
    rfl
  · cases e
theorem ctr0 : CtrSound Try.prog (mk (P := Try.prog) [] []) := mk_sound [] InlOK.nil _ _
def mulT (x y : Int) : Int := IntKind.u64.wrap (IntKind.u64.wrap (shrI .u64 x 32 * andI .u64 y 4294967295) + shrI .u64 (IntKind.u64.wrap (andI .u64 x 4294967295 * andI .u64 y 4294967295)) 32)
noncomputable def mulH (x y : Int) : Int := Lock (IntKind.u64.wrap (IntKind.u64.wrap (IntKind.u64.wrap (shrI .u64 x 32 * shrI .u64 y 32) + shrI .u64 (mulT x y) 32) +
  shrI .u64 (IntKind.u64.wrap (andI .u64 (mulT x y) 4294967295 + IntKind.u64.wrap (andI .u64 x 4294967295 * shrI .u64 y 32))) 32))
noncomputable def mulL (x y : Int) : Int := Lock (IntKind.u64.wrap (x * y))
noncomputable def mul64F : List SV → Option (SV × List Blk × Bool)
  | [.int .u64 x, .int .u64 y] => some (.tup [.int .u64 (mulH x y), .int .u64 (mulL x y)], [], true)
  | _ => none
set_option maxRecDepth 100000 in
noncomputable def mul64E : Entry Try.prog := .val 110 _ Try.func110 (by decide) rfl false 0 mul64F fun vs v new e => by
  unfold mul64F at e
  split at e
  · rename_i x y
    cases e
    rw [mulH, mulL, Lock_eq, Lock_eq]
    exact call0 ctr0 60 Try.func110 (p := true) (by kernel_rfl) rfl rfl
  · cases e
theorem mul_bound {x y m n : Int} (hx0 : 0 ≤ x) (hx : x ≤ m) (hy0 : 0 ≤ y) (hy : y ≤ n) : 0 ≤ x * y ∧ x * y ≤ m * n :=
  ⟨Int.mul_nonneg hx0 hy0, Int.mul_le_mul hx hy hy0 (by omega)⟩
theorem mul64_eq {x y : Int} (hx0 : 0 ≤ x) (hx : x < 18446744073709551616) (hy0 : 0 ≤ y) (hy : y < 18446744073709551616) :
    18446744073709551616 * mulH x y + mulL x y = x * y ∧ 0 ≤ mulH x y ∧ mulH x y ≤ 18446744073709551614 ∧ 0 ≤ mulL x y ∧ mulL x y < 18446744073709551616 := by
  rw [mulH, mulL, Lock_eq, Lock_eq]
  unfold mulT
  have s : ∀ z : Int, shrI .u64 z 32 = z / 4294967296 := fun z => by rw [shr_eq _ _ _ (by decide)]; simp
  simp only [s, mask32 x hx0 hx, mask32 y hy0 hy, wrap_u64]
  have a0 : 0 ≤ x % 4294967296 ∧ x % 4294967296 ≤ 4294967295 := by omega
  have a1 : 0 ≤ x / 4294967296 ∧ x / 4294967296 ≤ 4294967295 := by omega
  have b0 : 0 ≤ y % 4294967296 ∧ y % 4294967296 ≤ 4294967295 := by omega
  have b1 : 0 ≤ y / 4294967296 ∧ y / 4294967296 ≤ 4294967295 := by omega
  have ex : x = 4294967296 * (x / 4294967296) + x % 4294967296 := by omega
  have ey : y = 4294967296 * (y / 4294967296) + y % 4294967296 := by omega
  have hp : x * y = 18446744073709551616 * (x / 4294967296 * (y / 4294967296)) + 4294967296 * (x / 4294967296 * (y % 4294967296)) + 4294967296 * (x % 4294967296 * (y / 4294967296)) + x % 4294967296 * (y % 4294967296) := by
    conv => lhs; rw [ex, ey]
    generalize x / 4294967296 = u
    generalize x % 4294967296 = v
    generalize y / 4294967296 = p
    generalize y % 4294967296 = q
    grind
  have m11 := mul_bound a1.1 a1.2 b1.1 b1.2
  have m10 := mul_bound a1.1 a1.2 b0.1 b0.2
  have m01 := mul_bound a0.1 a0.2 b1.1 b1.2
  have m00 := mul_bound a0.1 a0.2 b0.1 b0.2
  rw [hp]
  generalize x / 4294967296 * (y / 4294967296) = A at *
  generalize x / 4294967296 * (y % 4294967296) = B at *
  generalize x % 4294967296 * (y / 4294967296) = C at *
  generalize x % 4294967296 * (y % 4294967296) = D at *
  clear ex ey hp
  have t0 : (B % 18446744073709551616 + D % 18446744073709551616 / 4294967296) % 18446744073709551616 = B + D / 4294967296 := by omega
  rw [t0, mask32 _ (by omega) (by omega)]
  generalize hT : B + D / 4294967296 = T at *
  have r1 : (T % 4294967296 + C % 18446744073709551616) % 18446744073709551616 = T % 4294967296 + C := by omega
  rw [r1]
  refine ⟨?_, ?_, ?_, ?_, ?_⟩ <;> omega
end Go.Proofs.Ytkoohnpknhoahaa.Fe
namespace Go.Proofs.Ytkoohnpknhoahaa.Fe
open Go Go.Sy
theorem VE.lst (k : IntKind) (n : Nat) (l : List Int) : VE (.agg [.ints k n l]) (.agg [.ints k n (lst n l)]) := fun e _ ⟨ys, h1, h2⟩ => ⟨ys, (PE.lst k n l).2 e ys h1, h2⟩
abbrev w64 (n : Int) : Int := IntKind.u64.wrap n
abbrev lo51 (n : Int) : Int := andI .u64 n 2251799813685247
abbrev hi51 (n : Int) : Int := shrI .u64 n 51
def cw0 (l : List Int) : Int := w64 (l.getD 0 0 + 0)
def cw1 (l : List Int) : Int := w64 (l.getD 1 0 + hi51 (cw0 l))
def cw2 (l : List Int) : Int := w64 (l.getD 2 0 + hi51 (cw1 l))
def cw3 (l : List Int) : Int := w64 (l.getD 3 0 + hi51 (cw2 l))
def cw4 (l : List Int) : Int := w64 (l.getD 4 0 + hi51 (cw3 l))
def passW (l : List Int) : List Int := [w64 (lo51 (cw0 l) + w64 (19 * hi51 (cw4 l))), lo51 (cw1 l), lo51 (cw2 l), lo51 (cw3 l), lo51 (cw4 l)]
noncomputable def carF (l : List Int) : List Int := Lock (passW (passW (lst 5 l)))
noncomputable def carEF : List SV → Option (SV × List Blk × Bool)
  | [.agg [.ints .u64 5 l]] => some (.agg [.ints .u64 5 (carF l)], [], true)
  | _ => none
set_option maxRecDepth 100000 in
theorem car_fn (l : List Int) : FnTr Try.prog 135 [.agg [.ints .u64 5 l]] [] (.agg [.ints .u64 5 (carF l)]) [] := by
  refine FnTr.conv (bs := [.agg [.ints .u64 5 (lst 5 l)]]) (h2 := []) (h1 := []) (v := .agg [.ints .u64 5 (carF l)]) ?_ ⟨VE.lst _ _ _, trivial⟩ trivial (VE.refl _) trivial
  rw [carF, Lock_eq]
  exact call0 ctr0 100 Try.func135 (p := true) (by kernel_rfl) rfl rfl
noncomputable def carE : Entry Try.prog := .val 135 _ Try.func135 (by decide) rfl false 0 carEF fun vs v new e => by
  unfold carEF at e
  split at e
  · cases e; exact car_fn _
  · cases e
def addL (a b : List Int) : List Int := [w64 (a.getD 0 0 + b.getD 0 0), w64 (a.getD 1 0 + b.getD 1 0), w64 (a.getD 2 0 + b.getD 2 0), w64 (a.getD 3 0 + b.getD 3 0), w64 (a.getD 4 0 + b.getD 4 0)]
noncomputable def addFe (a b : List Int) : List Int := carF (addL a b)
noncomputable def addEF : List SV → Option (SV × List Blk × Bool)
  | [.agg [.ints .u64 5 a], .agg [.ints .u64 5 b]] => some (.agg [.ints .u64 5 (addFe a b)], [], true)
  | _ => none
theorem ctrCar : CtrSound Try.prog (mk [carE] []) := mk_sound _ InlOK.nil _ _
set_option maxRecDepth 100000 in
noncomputable def addE : Entry Try.prog := .val 131 _ Try.func131 (by decide) rfl false 0 addEF fun vs v new e => by
  unfold addEF at e
  split at e
  · rename_i a b
    cases e
    refine FnTr.conv (bs := [.agg [.ints .u64 5 (lst 5 a)], .agg [.ints .u64 5 (lst 5 b)]]) (h2 := []) (h1 := []) (v := .agg [.ints .u64 5 (addFe a b)]) ?_ ⟨VE.lst _ _ _, VE.lst _ _ _, trivial⟩ trivial (VE.refl _) trivial
    exact call0 ctrCar 100 Try.func131 (p := true) (by kernel_rfl) rfl rfl
  · cases e
def subL (a b : List Int) : List Int := [w64 (a.getD 0 0 + w64 (9007199254740916 - b.getD 0 0)), w64 (a.getD 1 0 + w64 (9007199254740988 - b.getD 1 0)), w64 (a.getD 2 0 + w64 (9007199254740988 - b.getD 2 0)), w64 (a.getD 3 0 + w64 (9007199254740988 - b.getD 3 0)), w64 (a.getD 4 0 + w64 (9007199254740988 - b.getD 4 0))]
noncomputable def subFe (a b : List Int) : List Int := carF (subL a b)
noncomputable def subEF : List SV → Option (SV × List Blk × Bool)
  | [.agg [.ints .u64 5 a], .agg [.ints .u64 5 b]] => some (.agg [.ints .u64 5 (subFe a b)], [], true)
  | _ => none
set_option maxRecDepth 100000 in
noncomputable def subE : Entry Try.prog := .val 103 _ Try.func103 (by decide) rfl false 0 subEF fun vs v new e => by
  unfold subEF at e
  split at e
  · rename_i a b
    cases e
    refine FnTr.conv (bs := [.agg [.ints .u64 5 (lst 5 a)], .agg [.ints .u64 5 (lst 5 b)]]) (h2 := []) (h1 := []) (v := .agg [.ints .u64 5 (subFe a b)]) ?_ ⟨VE.lst _ _ _, VE.lst _ _ _, trivial⟩ trivial (VE.refl _) trivial
    exact call0 ctrCar 100 Try.func103 (p := true) (by kernel_rfl) rfl rfl
  · cases e
end Go.Proofs.Ytkoohnpknhoahaa.Fe
namespace Go.Proofs.Ytkoohnpknhoahaa.Fe
open Go Go.Sy
noncomputable def pl (s : Int × Int) (x y : Int) : Int × Int := (w64 (s.1 + w64 (mulH x y + addC s.2 (mulL x y) 0)), addS s.2 (mulL x y) 0)
noncomputable def nx (s : Int × Int) (c : Int) : Int := orI .u64 (hi51 (addS s.2 c 0)) (shlI .u64 (w64 (s.1 + addC s.2 c 0)) 13)
end Go.Proofs.Ytkoohnpknhoahaa.Fe
namespace Go.Proofs.Ytkoohnpknhoahaa.Fe
open Go Go.Sy
def ix : Nat → Int
  | 0 => 7
  | k + 1 => IntKind.i64.wrap (ix k - 1)
def z5 : List Int := [0, 0, 0, 0, 0]
def smallW (n : Int) : List Int := [lo51 (w64 n), hi51 (w64 n), 0, 0, 0]
noncomputable def smallFe (n : Int) : List Int := bif decide (n < 0) then subFe (subFe z5 (smallW (IntKind.i64.wrap (0 - IntKind.i64.wrap (n + 1))))) [1, 0, 0, 0, 0] else smallW n
noncomputable def smallEF : List SV → Option (SV × List Blk × Bool)
  | [.int .i64 n] => some (.agg [.ints .u64 5 (smallFe n)], [], true)
  | _ => none
theorem ctrSmall (b : Bool) : CtrSound Try.prog (mk [subE] [] fun i => if i = 6 then some b else none) := mk_sound _ InlOK.nil _ _
set_option maxRecDepth 100000 in
noncomputable def smallE : Entry Try.prog := .val 80 _ Try.func80 (by decide) rfl false 0 smallEF fun vs v new e => by
  unfold smallEF at e
  split at e
  · rename_i n
    cases e
    unfold smallFe
    cases hn : decide (n < 0) with
    | true => exact call0 (ctrSmall true) 100 Try.func80 (p := andT true (decide (n < 0))) (by kernel_rfl) (by rw [hn]; rfl) rfl
    | false => exact call0 (ctrSmall false) 100 Try.func80 (p := andT true (!decide (n < 0))) (by kernel_rfl) (by rw [hn]; rfl) rfl
  · cases e
def t0 (a : List Int) : Int := w64 (a.getD 0 0 + 19)
def t1 (a : List Int) : Int := w64 (a.getD 1 0 + hi51 (t0 a))
def t2 (a : List Int) : Int := w64 (a.getD 2 0 + hi51 (t1 a))
def t3 (a : List Int) : Int := w64 (a.getD 3 0 + hi51 (t2 a))
def t4 (a : List Int) : Int := w64 (a.getD 4 0 + hi51 (t3 a))
def overT (a : List Int) : List Int := [lo51 (t0 a), lo51 (t1 a), lo51 (t2 a), lo51 (t3 a), lo51 (t4 a)]
def bytesW (w : List Int) : List Int :=
  (List.range 32).map fun i => IntKind.u8.wrap (shrI .u64 ([orI .u64 (w.getD 0 0) (shlI .u64 (w.getD 1 0) 51), orI .u64 (shrI .u64 (w.getD 1 0) 13) (shlI .u64 (w.getD 2 0) 38), orI .u64 (shrI .u64 (w.getD 2 0) 26) (shlI .u64 (w.getD 3 0) 25),
    orI .u64 (shrI .u64 (w.getD 3 0) 39) (shlI .u64 (w.getD 4 0) 12)].getD (i / 8) 0) (8 * (i % 8)))
noncomputable def bytesFe (a : List Int) : List Int := Lock (bytesW (bif decide (hi51 (t4 (lst 5 (carF a))) > 0) then overT (lst 5 (carF a)) else lst 5 (carF a)))
noncomputable def carEF2 : List SV → Option (SV × List Blk × Bool)
  | [.agg [.ints .u64 5 l]] => some (.agg [.ints .u64 5 (lst 5 (carF l))], [], true)
  | _ => none
noncomputable def carE2 : Entry Try.prog := .val 135 _ Try.func135 (by decide) rfl false 0 carEF2 fun vs v new e => by
  unfold carEF2 at e
  split at e
  · rename_i l
    cases e
    exact FnTr.conv (car_fn l) ⟨VE.refl _, trivial⟩ trivial (VE.lst _ _ _) trivial
  · cases e
noncomputable def bytesEF : List SV → Option (SV × List Blk × Bool)
  | [.agg [.ints .u64 5 a]] => some (.agg [.ints .u8 32 (bytesFe a)], [], true)
  | _ => none
theorem ctrBytes (b : Bool) : CtrSound Try.prog (mk [carE2] [] fun i => if i = 40 then some b else none) := mk_sound _ InlOK.nil _ _
set_option maxRecDepth 100000 in
noncomputable def bytesE : Entry Try.prog := .val 87 _ Try.func87 (by decide) rfl false 0 bytesEF fun vs v new e => by
  unfold bytesEF at e
  split at e
  · rename_i a
    cases e
    unfold bytesFe
    rw [Lock_eq]
    cases hn : decide (hi51 (t4 (lst 5 (carF a))) > 0) with
    | true => exact call0 (ctrBytes true) 200 Try.func87 (p := andT true (decide (hi51 (t4 (lst 5 (carF a))) > 0))) (by kernel_rfl) (by rw [hn]; rfl) rfl
    | false => exact call0 (ctrBytes false) 200 Try.func87 (p := andT true (!decide (hi51 (t4 (lst 5 (carF a))) > 0))) (by kernel_rfl) (by rw [hn]; rfl) rfl
  · cases e
theorem bytesFe_length (a : List Int) : (bytesFe a).length = 32 := by rw [bytesFe, Lock_eq, bytesW]; simp
noncomputable def equalEF : List SV → Option (SV × List Blk × Bool)
  | [.agg [.ints .u64 5 a], .agg [.ints .u64 5 b]] => some (.bool (decide (bytesFe a = bytesFe b)), [], true)
  | _ => none
theorem ctrEq : CtrSound Try.prog (mk [bytesE] []) := mk_sound _ InlOK.nil _ _
set_option maxRecDepth 100000 in
noncomputable def equalE : Entry Try.prog := .val 133 _ Try.func133 (by decide) rfl false 0 equalEF fun vs v new e => by
  unfold equalEF at e
  split at e
  · rename_i a b
    cases e
    exact call0 ctrEq 60 Try.func133 (p := andT true (andT (decide ((bytesFe a).length = 32)) (decide ((bytesFe b).length = 32)))) (by kernel_rfl) (by first | rfl | simp [andT, bytesFe_length]) rfl
  · cases e
end Go.Proofs.Ytkoohnpknhoahaa.Fe
namespace Go.Proofs.Ytkoohnpknhoahaa.Fe
open Go Go.Sy
section
variable (e a o : List Int) (l : Nat) (i : Int)
end
end Go.Proofs.Ytkoohnpknhoahaa.Fe
namespace Go.Proofs.Ytkoohnpknhoahaa.Fe
open Go Go.Sy
def pickC (vs : List SV) : List Nat := match vs with
  | [_, .fn _ _ [.ptr b _ _]] => [b]
  | _ => []
def e2 : List Int := 235 :: (List.replicate 30 255 ++ [127])
def e1 : List Int := 251 :: (List.replicate 30 255 ++ [31])
def e5 : List Int := 253 :: (List.replicate 30 255 ++ [15])
end Go.Proofs.Ytkoohnpknhoahaa.Fe
