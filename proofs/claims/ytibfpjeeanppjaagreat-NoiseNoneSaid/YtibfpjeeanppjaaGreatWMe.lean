/- This file proves what words' operations come to as arithmetic, and the contracts of the library's Add64, Mul64. Conditions: numbers within their kinds. -/
import Derived.Test.YtibfpjeeanppjaaGreatWMd
import Derived.Test.YtibfpjeeanppjaaGreatChecked
import Derived.Laws.Externs
import Derived.Laws.BitsLemmas
import Derived.IntWalk
set_option linter.all false
set_option maxRecDepth 100000
namespace Go.Proofs.YtibfpjeeanppjaaGreat.Fe
open Go Go.Sy
def inU (m : Int) (x : Int) : Bool := decide (0 ≤ x) && decide (x < m)
def u64 (x : Int) : Bool := inU 18446744073709551616 x
def u8 (x : Int) : Bool := inU 256 x
theorem u64_iff {x : Int} : u64 x = true ↔ 0 ≤ x ∧ x < 18446744073709551616 := by simp [u64, inU]
theorem u8_iff {x : Int} : u8 x = true ↔ 0 ≤ x ∧ x < 256 := by simp [u8, inU]
theorem wraps_u64 (n : Int) (h₀ : 0 ≤ n) (h₁ : n < 2 ^ 64) : IntKind.u64.wrap n = n := by
  have e : (2 : Int) ^ 64 = 18446744073709551616 := by decide
  rw [e] at h₁
  rw [show IntKind.u64.wrap n = n % 2 ^ 64 from by simp [IntKind.wrap, IntKind.signed, IntKind.bits], e]
  omega
theorem wrap_u64 (n : Int) : IntKind.u64.wrap n = n % 18446744073709551616 := by simp [IntKind.wrap, IntKind.signed, IntKind.bits]
theorem wrap_u8 (n : Int) : IntKind.u8.wrap n = n % 256 := by simp [IntKind.wrap, IntKind.signed, IntKind.bits]
theorem wrap_i64 (n : Int) (h0 : -9223372036854775808 ≤ n) (h1 : n < 9223372036854775808) : IntKind.i64.wrap n = n := IntWalk.i64_in n (by omega)
theorem or64 (i : Nat) (x y : Int) (hx₀ : 0 ≤ x) (hx : x % 2 ^ i = 0) (hx₁ : x < 18446744073709551616) (hy₀ : 0 ≤ y) (hy : y < 2 ^ i) (hi : i ≤ 64) : orI .u64 x y = x + y := by
  have e : (2 : Int) ^ 64 = 18446744073709551616 := by decide
  have h2 : (2 : Int) ^ i ≤ 2 ^ 64 := by exact_mod_cast Nat.pow_le_pow_right (by decide) hi
  exact bits_join .u64 64 (by decide) wraps_u64 i x y hx₀ hx (by rw [e]; exact hx₁) hy₀ hy (by omega)
theorem shr_eq (k : IntKind) (a : Int) (n : Nat) (hn : n ≤ k.bits) : shrI k a n = a / 2 ^ n := by
  unfold shrI
  rw [Nat.min_eq_left hn, Int.fdiv_eq_ediv_of_nonneg]
  exact_mod_cast Nat.zero_le (2 ^ n)
theorem shl64 (a : Int) (n : Nat) (hn : n ≤ 64) : shlI .u64 a n = a * 2 ^ n % 18446744073709551616 := by
  unfold shlI
  rw [show min n IntKind.u64.bits = n from Nat.min_eq_left hn, wrap_u64]
theorem and64 (i : Nat) (hi : i ≤ 64) (x : Int) (h0 : 0 ≤ x) (h1 : x < 18446744073709551616) : andI .u64 x (2 ^ i - 1) = x % 2 ^ i := by
  exact (bits_mask .u64 64 (by decide) wraps_u64 i hi x h0 h1 : bits .and .u64 x (2 ^ i - 1) = x % 2 ^ i)
theorem and8_one (x : Int) (h0 : 0 ≤ x) (h1 : x < 256) : andI .u8 x 1 = x % 2 := by
  exact (bits_mask .u8 8 (by decide) wraps_u8 1 (by decide) x h0 h1 : bits .and .u8 x (2 ^ 1 - 1) = x % 2 ^ 1)
theorem mask51 (x : Int) (h0 : 0 ≤ x) (h1 : x < 18446744073709551616) : andI .u64 x 2251799813685247 = x % 2251799813685248 := and64 51 (by decide) x h0 h1
theorem mask32 (x : Int) (h0 : 0 ≤ x) (h1 : x < 18446744073709551616) : andI .u64 x 4294967295 = x % 4294967296 := and64 32 (by decide) x h0 h1
theorem shr51 (x : Int) : shrI .u64 x 51 = x / 2251799813685248 := by rw [shr_eq _ _ _ (by decide)]; simp
noncomputable def addS (x y c : Int) : Int := Lock (Int.ofNat ((x.toNat + y.toNat + c.toNat) % Extern.MathBitsCarry.m64))
noncomputable def addC (x y c : Int) : Int := Lock (Int.ofNat ((x.toNat + y.toNat + c.toNat) / Extern.MathBitsCarry.m64))
def carry1 (c : Int) : Bool := decide (c.toNat ≤ 1)
theorem run_add64' {P : Program} (x y c : Int) (hc : carry1 c = true) (w : World) :
    (add64Entry #[.int .u64 x, .int .u64 y, .int .u64 c]).run P w = .ok (.tuple #[.int .u64 (addS x y c), .int .u64 (addC x y c)]) w := by
  unfold addS addC
  rw [Lock_eq, Lock_eq]
  rcases c with (_ | _ | k) | n
  · rfl
  · rfl
  · simp [carry1] at hc; omega
  · rfl
theorem addS_eq {x y c : Int} (hx : 0 ≤ x) (hy : 0 ≤ y) (hc : 0 ≤ c) : addS x y c = (x + y + c) % 18446744073709551616 ∧ addC x y c = (x + y + c) / 18446744073709551616 := by
  unfold addS addC
  rw [Lock_eq, Lock_eq]
  have : Extern.MathBitsCarry.m64 = 18446744073709551616 := rfl
  rw [this]
  simp only [Int.ofNat_eq_natCast]
  omega
noncomputable def add64F : List SV → Option (SV × Bool)
  | [.int .u64 x, .int .u64 y, .int .u64 c] => some (.tup [.int .u64 (addS x y c), .int .u64 (addC x y c)], carry1 c)
  | _ => none
noncomputable def add64E : Entry Tryz.prog := .ext 133 add64F fun vs v e en w args hl => by
  unfold add64F at e
  split at e
  · rename_i x y c
    simp only [Option.some.injEq, Prod.mk.injEq] at e
    obtain ⟨rfl, hc⟩ := e
    obtain ⟨_, _, rfl, ⟨_, _, rfl, ⟨_, _, rfl, rfl, rfl⟩, rfl⟩, rfl⟩ := hl
    refine ⟨_, ?_, ⟨_, ⟨_, _, rfl, ⟨_, _, rfl, rfl, rfl⟩, rfl⟩, rfl⟩⟩
    rw [run_callFunc_extern Tryz.func133 (by kernel_rfl) (by kernel_rfl) (by kernel_rfl) (e := add64Entry) (by kernel_rfl), run_add64' x y c hc]
    rfl
  · cases e
theorem ctr0 : CtrSound Tryz.prog (mk (P := Tryz.prog) [] []) := mk_sound [] InlOK.nil _ _
def mulT (x y : Int) : Int := IntKind.u64.wrap (IntKind.u64.wrap (shrI .u64 x 32 * andI .u64 y 4294967295) + shrI .u64 (IntKind.u64.wrap (andI .u64 x 4294967295 * andI .u64 y 4294967295)) 32)
noncomputable def mulH (x y : Int) : Int := Lock (IntKind.u64.wrap (IntKind.u64.wrap (IntKind.u64.wrap (shrI .u64 x 32 * shrI .u64 y 32) + shrI .u64 (mulT x y) 32) +
  shrI .u64 (IntKind.u64.wrap (andI .u64 (mulT x y) 4294967295 + IntKind.u64.wrap (andI .u64 x 4294967295 * shrI .u64 y 32))) 32))
noncomputable def mulL (x y : Int) : Int := Lock (IntKind.u64.wrap (x * y))
noncomputable def mul64F : List SV → Option (SV × List Blk × Bool)
  | [.int .u64 x, .int .u64 y] => some (.tup [.int .u64 (mulH x y), .int .u64 (mulL x y)], [], true)
  | _ => none
noncomputable def mul64E : Entry Tryz.prog := .val 134 _ Tryz.func134 (by decide) rfl false 0 mul64F fun vs v new e => by
  unfold mul64F at e
  split at e
  · rename_i x y
    cases e
    rw [mulH, mulL, Lock_eq, Lock_eq]
    exact call0 ctr0 60 Tryz.func134 (p := true) (by kernel_rfl) rfl rfl
  · cases e
theorem mul_bound {x y m n : Int} (hx0 : 0 ≤ x) (hx : x ≤ m) (hy0 : 0 ≤ y) (hy : y ≤ n) : 0 ≤ x * y ∧ x * y ≤ m * n :=
  ⟨Int.mul_nonneg hx0 hy0, Int.mul_le_mul hx hy hy0 (by omega)⟩
theorem mul64_eq {x y : Int} (hx0 : 0 ≤ x) (hx : x < 18446744073709551616) (hy0 : 0 ≤ y) (hy : y < 18446744073709551616) :
    18446744073709551616 * mulH x y + mulL x y = x * y ∧ 0 ≤ mulH x y ∧ mulH x y ≤ 18446744073709551614 ∧ 0 ≤ mulL x y ∧ mulL x y < 18446744073709551616 := by
  rw [mulH, mulL, Lock_eq, Lock_eq]
  unfold mulT
  have s : ∀ z : Int, shrI .u64 z 32 = z / 4294967296 := fun z => by rw [shr_eq _ _ _ (by decide)]; simp
  simp only [s, mask32 x hx0 hx, mask32 y hy0 hy, wrap_u64]
  have a0 : 0 ≤ x % 4294967296 ∧ x % 4294967296 ≤ 4294967295 := by omega
  have a1 : 0 ≤ x / 4294967296 ∧ x / 4294967296 ≤ 4294967295 := by omega
  have b0 : 0 ≤ y % 4294967296 ∧ y % 4294967296 ≤ 4294967295 := by omega
  have b1 : 0 ≤ y / 4294967296 ∧ y / 4294967296 ≤ 4294967295 := by omega
  have ex : x = 4294967296 * (x / 4294967296) + x % 4294967296 := by omega
  have ey : y = 4294967296 * (y / 4294967296) + y % 4294967296 := by omega
  have hp : x * y = 18446744073709551616 * (x / 4294967296 * (y / 4294967296)) + 4294967296 * (x / 4294967296 * (y % 4294967296)) + 4294967296 * (x % 4294967296 * (y / 4294967296)) + x % 4294967296 * (y % 4294967296) := by
    conv => lhs; rw [ex, ey]
    generalize x / 4294967296 = u
    generalize x % 4294967296 = v
    generalize y / 4294967296 = p
    generalize y % 4294967296 = q
    grind
  have m11 := mul_bound a1.1 a1.2 b1.1 b1.2
  have m10 := mul_bound a1.1 a1.2 b0.1 b0.2
  have m01 := mul_bound a0.1 a0.2 b1.1 b1.2
  have m00 := mul_bound a0.1 a0.2 b0.1 b0.2
  rw [hp]
  generalize x / 4294967296 * (y / 4294967296) = A at *
  generalize x / 4294967296 * (y % 4294967296) = B at *
  generalize x % 4294967296 * (y / 4294967296) = C at *
  generalize x % 4294967296 * (y % 4294967296) = D at *
  clear ex ey hp
  have t0 : (B % 18446744073709551616 + D % 18446744073709551616 / 4294967296) % 18446744073709551616 = B + D / 4294967296 := by omega
  rw [t0, mask32 _ (by omega) (by omega)]
  generalize hT : B + D / 4294967296 = T at *
  have r1 : (T % 4294967296 + C % 18446744073709551616) % 18446744073709551616 = T % 4294967296 + C := by omega
  rw [r1]
  refine ⟨?_, ?_, ?_, ?_, ?_⟩ <;> omega
end Go.Proofs.YtibfpjeeanppjaaGreat.Fe
namespace Go.Proofs.YtibfpjeeanppjaaGreat.Fe
open Go Go.Sy
theorem VE.lst (k : IntKind) (n : Nat) (l : List Int) : VE (.agg [.ints k n l]) (.agg [.ints k n (lst n l)]) := fun e _ ⟨ys, h1, h2⟩ => ⟨ys, (PE.lst k n l).2 e ys h1, h2⟩
abbrev w64 (n : Int) : Int := IntKind.u64.wrap n
abbrev lo51 (n : Int) : Int := andI .u64 n 2251799813685247
abbrev hi51 (n : Int) : Int := shrI .u64 n 51
def cw0 (l : List Int) : Int := w64 (l.getD 0 0 + 0)
def cw1 (l : List Int) : Int := w64 (l.getD 1 0 + hi51 (cw0 l))
def cw2 (l : List Int) : Int := w64 (l.getD 2 0 + hi51 (cw1 l))
def cw3 (l : List Int) : Int := w64 (l.getD 3 0 + hi51 (cw2 l))
def cw4 (l : List Int) : Int := w64 (l.getD 4 0 + hi51 (cw3 l))
def passW (l : List Int) : List Int := [w64 (lo51 (cw0 l) + w64 (19 * hi51 (cw4 l))), lo51 (cw1 l), lo51 (cw2 l), lo51 (cw3 l), lo51 (cw4 l)]
noncomputable def carF (l : List Int) : List Int := Lock (passW (passW (lst 5 l)))
noncomputable def carEF : List SV → Option (SV × List Blk × Bool)
  | [.agg [.ints .u64 5 l]] => some (.agg [.ints .u64 5 (carF l)], [], true)
  | _ => none
theorem car_fn (l : List Int) : FnTr Tryz.prog 104 [.agg [.ints .u64 5 l]] [] (.agg [.ints .u64 5 (carF l)]) [] := by
  refine FnTr.conv (bs := [.agg [.ints .u64 5 (lst 5 l)]]) (h2 := []) (h1 := []) (v := .agg [.ints .u64 5 (carF l)]) ?_ ⟨VE.lst _ _ _, trivial⟩ trivial (VE.refl _) trivial
  rw [carF, Lock_eq]
  exact call0 ctr0 100 Tryz.func104 (p := true) (by kernel_rfl) rfl rfl
noncomputable def carE : Entry Tryz.prog := .val 104 _ Tryz.func104 (by decide) rfl false 0 carEF fun vs v new e => by
  unfold carEF at e
  split at e
  · cases e; exact car_fn _
  · cases e
def addL (a b : List Int) : List Int := [w64 (a.getD 0 0 + b.getD 0 0), w64 (a.getD 1 0 + b.getD 1 0), w64 (a.getD 2 0 + b.getD 2 0), w64 (a.getD 3 0 + b.getD 3 0), w64 (a.getD 4 0 + b.getD 4 0)]
noncomputable def addFe (a b : List Int) : List Int := carF (addL a b)
noncomputable def addEF : List SV → Option (SV × List Blk × Bool)
  | [.agg [.ints .u64 5 a], .agg [.ints .u64 5 b]] => some (.agg [.ints .u64 5 (addFe a b)], [], true)
  | _ => none
theorem ctrCar : CtrSound Tryz.prog (mk [carE] []) := mk_sound _ InlOK.nil _ _
noncomputable def addE : Entry Tryz.prog := .val 131 _ Tryz.func131 (by decide) rfl false 0 addEF fun vs v new e => by
  unfold addEF at e
  split at e
  · rename_i a b
    cases e
    refine FnTr.conv (bs := [.agg [.ints .u64 5 (lst 5 a)], .agg [.ints .u64 5 (lst 5 b)]]) (h2 := []) (h1 := []) (v := .agg [.ints .u64 5 (addFe a b)]) ?_ ⟨VE.lst _ _ _, VE.lst _ _ _, trivial⟩ trivial (VE.refl _) trivial
    exact call0 ctrCar 100 Tryz.func131 (p := true) (by kernel_rfl) rfl rfl
  · cases e
def subL (a b : List Int) : List Int := [w64 (a.getD 0 0 + w64 (9007199254740916 - b.getD 0 0)), w64 (a.getD 1 0 + w64 (9007199254740988 - b.getD 1 0)), w64 (a.getD 2 0 + w64 (9007199254740988 - b.getD 2 0)), w64 (a.getD 3 0 + w64 (9007199254740988 - b.getD 3 0)), w64 (a.getD 4 0 + w64 (9007199254740988 - b.getD 4 0))]
noncomputable def subFe (a b : List Int) : List Int := carF (subL a b)
noncomputable def subEF : List SV → Option (SV × List Blk × Bool)
  | [.agg [.ints .u64 5 a], .agg [.ints .u64 5 b]] => some (.agg [.ints .u64 5 (subFe a b)], [], true)
  | _ => none
noncomputable def subE : Entry Tryz.prog := .val 103 _ Tryz.func103 (by decide) rfl false 0 subEF fun vs v new e => by
  unfold subEF at e
  split at e
  · rename_i a b
    cases e
    refine FnTr.conv (bs := [.agg [.ints .u64 5 (lst 5 a)], .agg [.ints .u64 5 (lst 5 b)]]) (h2 := []) (h1 := []) (v := .agg [.ints .u64 5 (subFe a b)]) ?_ ⟨VE.lst _ _ _, VE.lst _ _ _, trivial⟩ trivial (VE.refl _) trivial
    exact call0 ctrCar 100 Tryz.func103 (p := true) (by kernel_rfl) rfl rfl
  · cases e
end Go.Proofs.YtibfpjeeanppjaaGreat.Fe
namespace Go.Proofs.YtibfpjeeanppjaaGreat.Fe
open Go Go.Sy
noncomputable def pl (s : Int × Int) (x y : Int) : Int × Int := (w64 (s.1 + w64 (mulH x y + addC s.2 (mulL x y) 0)), addS s.2 (mulL x y) 0)
def yB (b : List Int) (k i : Nat) : Int := if i ≤ k then b.getD (k - i) 0 else w64 (b.getD (k + 5 - i) 0 * 19)
noncomputable def sK (a b : List Int) (k : Nat) : Int × Int := [0, 1, 2, 3, 4].foldl (fun s i => pl s (a.getD i 0) (yB b k i)) (0, 0)
noncomputable def nx (s : Int × Int) (c : Int) : Int := orI .u64 (hi51 (addS s.2 c 0)) (shlI .u64 (w64 (s.1 + addC s.2 c 0)) 13)
noncomputable def mulTail (s0 s1 s2 s3 s4 : Int × Int) : List Int :=
  [lo51 (addS (lo51 (addS s0.2 0 0)) (mulL (nx s4 (nx s3 (nx s2 (nx s1 (nx s0 0))))) 19) 0),
   w64 (lo51 (addS s1.2 (nx s0 0) 0) + orI .u64 (shlI .u64 (w64 (mulH (nx s4 (nx s3 (nx s2 (nx s1 (nx s0 0))))) 19 + addC (lo51 (addS s0.2 0 0)) (mulL (nx s4 (nx s3 (nx s2 (nx s1 (nx s0 0))))) 19) 0)) 13) (hi51 (addS (lo51 (addS s0.2 0 0)) (mulL (nx s4 (nx s3 (nx s2 (nx s1 (nx s0 0))))) 19) 0))),
   lo51 (addS s2.2 (nx s1 (nx s0 0)) 0), lo51 (addS s3.2 (nx s2 (nx s1 (nx s0 0))) 0), lo51 (addS s4.2 (nx s3 (nx s2 (nx s1 (nx s0 0)))) 0)]
noncomputable def mulFe (a b : List Int) : List Int := Lock (carF (mulTail (sK a b 0) (sK a b 1) (sK a b 2) (sK a b 3) (sK a b 4)))
theorem inlPlus : InlOK Tryz.prog [(132, Tryz.f132)] := InlOK.cons Tryz.func132 (by decide) InlOK.nil
noncomputable def mulG := mk (P := Tryz.prog) [carE, mul64E, add64E] [(132, Tryz.f132)]
theorem mulG_ok : CtrSound Tryz.prog mulG := mk_sound _ inlPlus _ _
noncomputable def blk10 (s0 s1 s2 s3 s4 : Int × Int) : Blk := .b [.int .u64 s0.1, .int .u64 s0.2, .int .u64 s1.1, .int .u64 s1.2, .int .u64 s2.1, .int .u64 s2.2, .int .u64 s3.1, .int .u64 s3.2, .int .u64 s4.1, .int .u64 s4.2]
noncomputable def mulS (a b : List Int) (s0 s1 s2 s3 s4 : Int × Int) : St := ⟨slotsOf 127 [(4, .ptr 2 0 0), (5, .ptr 3 0 0)], [.b [.ints .u64 5 (lst 5 a)], .b [.ints .u64 5 (lst 5 b)], .b [.ints .u64 5 [0, 0, 0, 0, 0]], blk10 s0 s1 s2 s3 s4], true⟩
theorem mul_head (a b : List Int) : (execL Tryz.prog mulG 100 0 4 (atoms (bodyOf Tryz.f101)) ⟨slots0 Tryz.f101.ntmps [.agg [.ints .u64 5 (lst 5 a)], .agg [.ints .u64 5 (lst 5 b)]], [], true⟩).bind (St.cut [4, 5] 4) =
  some (mulS a b (sK (lst 5 a) (lst 5 b) 0) (sK (lst 5 a) (lst 5 b) 1) (sK (lst 5 a) (lst 5 b) 2) (sK (lst 5 a) (lst 5 b) 3) (sK (lst 5 a) (lst 5 b) 4)) := by kernel_rfl
noncomputable def mulEF : List SV → Option (SV × List Blk × Bool)
  | [.agg [.ints .u64 5 a], .agg [.ints .u64 5 b]] => some (.agg [.ints .u64 5 (mulFe (lst 5 a) (lst 5 b))], [], true)
  | _ => none
theorem mul_fn (a b : List Int) : FnTr Tryz.prog 101 [.agg [.ints .u64 5 (lst 5 a)], .agg [.ints .u64 5 (lst 5 b)]] [] (.agg [.ints .u64 5 (mulFe (lst 5 a) (lst 5 b))]) [] := by
  rw [mulFe, Lock_eq]
  generalize h0 : sK (lst 5 a) (lst 5 b) 0 = s0
  generalize h1 : sK (lst 5 a) (lst 5 b) 1 = s1
  generalize h2 : sK (lst 5 a) (lst 5 b) 2 = s2
  generalize h3 : sK (lst 5 a) (lst 5 b) 3 = s3
  generalize h4 : sK (lst 5 a) (lst 5 b) 4 = s4
  refine FnTr.restM mulG_ok 100 4 0 Tryz.func101 (by simp) rfl (fun s' x h => ?_) (s := mulS a b s0 s1 s2 s3 s4) (p := true) (by kernel_rfl) rfl rfl rfl
  refine TrL.items mulG_ok 100 4 _ 4 (by simp) (mul_head a b) rfl (by decide) ?_
  rw [h0, h1, h2, h3, h4]
  exact h
noncomputable def mulE : Entry Tryz.prog := .val 101 _ Tryz.func101 (by decide) rfl false 0 mulEF fun vs v new e => by
  unfold mulEF at e
  split at e
  · rename_i a b
    cases e
    exact FnTr.conv (mul_fn a b) ⟨VE.lst _ _ _, VE.lst _ _ _, trivial⟩ trivial (VE.refl _) trivial
  · cases e
end Go.Proofs.YtibfpjeeanppjaaGreat.Fe
namespace Go.Proofs.YtibfpjeeanppjaaGreat.Fe
open Go Go.Sy
def wordS (n x : Int) : Int := orI .u64 (shlI .u64 n 8) (w64 x)
noncomputable def wordF (a b c d e f g h : Int) : Int := Lock (wordS (wordS (wordS (wordS (wordS (wordS (wordS (wordS 0 h) g) f) e) d) c) b) a)
noncomputable def wordAt (l : List Int) (i : Nat) : Int := wordF (l.getD i 0) (l.getD (i + 1) 0) (l.getD (i + 2) 0) (l.getD (i + 3) 0) (l.getD (i + 4) 0) (l.getD (i + 5) 0) (l.getD (i + 6) 0) (l.getD (i + 7) 0)
noncomputable def wordEF : List SV → Option (SV × List Blk × Bool)
  | [.ro _ .u8 l] => some (.int .u64 (wordAt l 0), [], decide (8 ≤ l.length))
  | _ => none
def ix : Nat → Int
  | 0 => 7
  | k + 1 => IntKind.i64.wrap (ix k - 1)
def obW (n : Nat) : Bool := [0, 1, 2, 3, 4, 5, 6, 7].foldl (fun o k => andT (andT o (inB (ix k) n)) (decide ((ix k).toNat < n))) true
theorem obW_iff {n : Nat} (h : 8 ≤ n) : obW n = true := by
  have e : ∀ k, k ≤ 7 → ix k = 7 - k := by decide
  have q : ∀ k : Nat, k ≤ 7 → inB (ix k) n = true ∧ decide ((ix k).toNat < n) = true := fun k hk => by
    rw [e k hk]
    unfold inB
    simp only [Bool.and_eq_true, decide_eq_true_eq]
    omega
  simp [obW, andT, q]
noncomputable def wordE : Entry Tryz.prog := .val 137 _ Tryz.func137 (by decide) rfl true 0 wordEF fun vs v new e => by
  unfold wordEF at e
  split at e
  · rename_i f l
    simp only [Option.some.injEq, Prod.mk.injEq, decide_eq_true_eq] at e
    obtain ⟨rfl, rfl, h8⟩ := e
    rw [wordAt, wordF, Lock_eq]
    exact call0 ctr0 100 Tryz.func137 (p := obW l.length) (by kernel_rfl) (obW_iff h8) rfl
  · cases e
noncomputable def fromW (l : List Int) : List Int :=
  [lo51 (wordAt l 0), lo51 (orI .u64 (shrI .u64 (wordAt l 0) 51) (shlI .u64 (wordAt l 8) 13)), lo51 (orI .u64 (shrI .u64 (wordAt l 8) 38) (shlI .u64 (wordAt l 16) 26)),
   lo51 (orI .u64 (shrI .u64 (wordAt l 16) 25) (shlI .u64 (wordAt l 24) 39)), lo51 (shrI .u64 (wordAt l 24) 12)]
noncomputable def fromFe (l : List Int) : List Int := Lock (fromW (lst 32 l))
noncomputable def fromEF : List SV → Option (SV × List Blk × Bool)
  | [.agg [.ints .u8 32 l]] => some (.agg [.ints .u64 5 (fromFe l)], [], true)
  | _ => none
theorem ctrWord : CtrSound Tryz.prog (mk [wordE] []) := mk_sound _ InlOK.nil _ _
noncomputable def fromE : Entry Tryz.prog := .val 105 _ Tryz.func105 (by decide) rfl false 0 fromEF fun vs v new e => by
  unfold fromEF at e
  split at e
  · rename_i l
    cases e
    refine FnTr.conv (bs := [.agg [.ints .u8 32 (lst 32 l)]]) (h2 := []) (h1 := []) (v := .agg [.ints .u64 5 (fromFe l)]) ?_ ⟨VE.lst _ _ _, trivial⟩ trivial (VE.refl _) trivial
    rw [fromFe, Lock_eq]
    exact call0 ctrWord 100 Tryz.func105 (p := true) (by kernel_rfl) rfl rfl
  · cases e
def z5 : List Int := [0, 0, 0, 0, 0]
def smallW (n : Int) : List Int := [lo51 (w64 n), hi51 (w64 n), 0, 0, 0]
noncomputable def smallFe (n : Int) : List Int := bif decide (n < 0) then subFe (subFe z5 (smallW (IntKind.i64.wrap (0 - IntKind.i64.wrap (n + 1))))) [1, 0, 0, 0, 0] else smallW n
noncomputable def smallEF : List SV → Option (SV × List Blk × Bool)
  | [.int .i64 n] => some (.agg [.ints .u64 5 (smallFe n)], [], true)
  | _ => none
theorem ctrSmall (b : Bool) : CtrSound Tryz.prog (mk [subE] [] fun i => if i = 6 then some b else none) := mk_sound _ InlOK.nil _ _
noncomputable def smallE : Entry Tryz.prog := .val 65 _ Tryz.func65 (by decide) rfl false 0 smallEF fun vs v new e => by
  unfold smallEF at e
  split at e
  · rename_i n
    cases e
    unfold smallFe
    cases hn : decide (n < 0) with
    | true => exact call0 (ctrSmall true) 100 Tryz.func65 (p := andT true (decide (n < 0))) (by kernel_rfl) (by rw [hn]; rfl) rfl
    | false => exact call0 (ctrSmall false) 100 Tryz.func65 (p := andT true (!decide (n < 0))) (by kernel_rfl) (by rw [hn]; rfl) rfl
  · cases e
def t0 (a : List Int) : Int := w64 (a.getD 0 0 + 19)
def t1 (a : List Int) : Int := w64 (a.getD 1 0 + hi51 (t0 a))
def t2 (a : List Int) : Int := w64 (a.getD 2 0 + hi51 (t1 a))
def t3 (a : List Int) : Int := w64 (a.getD 3 0 + hi51 (t2 a))
def t4 (a : List Int) : Int := w64 (a.getD 4 0 + hi51 (t3 a))
def overT (a : List Int) : List Int := [lo51 (t0 a), lo51 (t1 a), lo51 (t2 a), lo51 (t3 a), lo51 (t4 a)]
def bytesW (w : List Int) : List Int :=
  (List.range 32).map fun i => IntKind.u8.wrap (shrI .u64 ([orI .u64 (w.getD 0 0) (shlI .u64 (w.getD 1 0) 51), orI .u64 (shrI .u64 (w.getD 1 0) 13) (shlI .u64 (w.getD 2 0) 38), orI .u64 (shrI .u64 (w.getD 2 0) 26) (shlI .u64 (w.getD 3 0) 25),
    orI .u64 (shrI .u64 (w.getD 3 0) 39) (shlI .u64 (w.getD 4 0) 12)].getD (i / 8) 0) (8 * (i % 8)))
noncomputable def bytesFe (a : List Int) : List Int := Lock (bytesW (bif decide (hi51 (t4 (lst 5 (carF a))) > 0) then overT (lst 5 (carF a)) else lst 5 (carF a)))
noncomputable def carEF2 : List SV → Option (SV × List Blk × Bool)
  | [.agg [.ints .u64 5 l]] => some (.agg [.ints .u64 5 (lst 5 (carF l))], [], true)
  | _ => none
noncomputable def carE2 : Entry Tryz.prog := .val 104 _ Tryz.func104 (by decide) rfl false 0 carEF2 fun vs v new e => by
  unfold carEF2 at e
  split at e
  · rename_i l
    cases e
    exact FnTr.conv (car_fn l) ⟨VE.refl _, trivial⟩ trivial (VE.lst _ _ _) trivial
  · cases e
noncomputable def bytesEF : List SV → Option (SV × List Blk × Bool)
  | [.agg [.ints .u64 5 a]] => some (.agg [.ints .u8 32 (bytesFe a)], [], true)
  | _ => none
theorem ctrBytes (b : Bool) : CtrSound Tryz.prog (mk [carE2] [] fun i => if i = 40 then some b else none) := mk_sound _ InlOK.nil _ _
noncomputable def bytesE : Entry Tryz.prog := .val 66 _ Tryz.func66 (by decide) rfl false 0 bytesEF fun vs v new e => by
  unfold bytesEF at e
  split at e
  · rename_i a
    cases e
    unfold bytesFe
    rw [Lock_eq]
    cases hn : decide (hi51 (t4 (lst 5 (carF a))) > 0) with
    | true => exact call0 (ctrBytes true) 200 Tryz.func66 (p := andT true (decide (hi51 (t4 (lst 5 (carF a))) > 0))) (by kernel_rfl) (by rw [hn]; rfl) rfl
    | false => exact call0 (ctrBytes false) 200 Tryz.func66 (p := andT true (!decide (hi51 (t4 (lst 5 (carF a))) > 0))) (by kernel_rfl) (by rw [hn]; rfl) rfl
  · cases e
end Go.Proofs.YtibfpjeeanppjaaGreat.Fe
namespace Go.Proofs.YtibfpjeeanppjaaGreat.Fe
open Go Go.Sy
noncomputable def bitsEF : List SV → Option (SV × List Blk × Bool)
  | [.agg [.ints .u8 32 e]] => some (.fn (.func 130) [] [.ptr 0 0 0], [.b [.ints .u8 32 e]], true)
  | _ => none
noncomputable def bitsE : Entry Tryz.prog := .val 98 _ Tryz.func98 (by decide) rfl false 1 bitsEF fun vs v new e => by
  unfold bitsEF at e
  split at e
  · cases e
    exact callM ctr0 30 Tryz.func98 1 (by simp) (p := true) (by kernel_rfl) rfl rfl rfl
  · cases e
def bitI (e : List Int) (i : Int) : Int := IntKind.i64.wrap (andI .u8 (shrI .u8 (e.getD (0 + (IntKind.i64.wrap (i.tdiv 8)).toNat) 0) (i.tmod 8).toNat) 1)
def bitO (i : Int) : Bool := andT (andT (andT (andT true (decide (i ≥ 0))) (inB (IntKind.i64.wrap (i.tdiv 8)) 32)) (decide (0 + (IntKind.i64.wrap (i.tdiv 8)).toNat < 32))) (decide (0 ≤ i.tmod 8))
theorem bitO_iff {i : Int} (h0 : 0 ≤ i) (h1 : i < 256) : bitO i = true := by
  have e : i.tdiv 8 = i / 8 := Int.tdiv_eq_ediv_of_nonneg h0
  have e2 : i.tmod 8 = i % 8 := Int.tmod_eq_emod_of_nonneg h0
  have w : IntKind.i64.wrap (i.tdiv 8) = i / 8 := by rw [e]; exact wrap_i64 _ (by omega) (by omega)
  unfold bitO inB
  rw [w, e2]
  simp only [andT_iff, Bool.and_eq_true, decide_eq_true_eq, true_and]
  omega
noncomputable def bitsLoop : Code := inner (inner (nthC 1 (bodyOf Tryz.f130)))
noncomputable def pwN (a e : List Int) : Nat → List Int
  | 0 => smallFe 1
  | j + 1 => bif (bitI e (255 - j) != 0) then mulFe (lst 5 (mulFe (lst 5 (pwN a e j)) (lst 5 (pwN a e j)))) (lst 5 a) else mulFe (lst 5 (pwN a e j)) (lst 5 (pwN a e j))
noncomputable def pwC : Code := nthC 3 (bodyOf Tryz.f135)
def pwT : List (Option SV) := slotsOf 19 [(2, .ptr 1 0 0), (4, .ptr 2 0 0), (5, .ptr 3 0 0), (8, .fn (.func 130) [] [.ptr 0 0 0])]
noncomputable def pwB (e a o : List Int) : List Blk := [.b [.ints .u8 32 e], .b [.ints .u64 5 a], .b [.ints .u64 5 z5], .b [.ints .u64 5 o]]
noncomputable def pwH (e a o : List Int) (l : Nat) : List Blk := [.b [.ints .u8 32 e], .b [.ints .u64 5 a], .b [.ints .u64 5 z5], .b [.ints .u64 5 o], .g (some (rfL pwC pwT l))]
noncomputable def pwS (e a o : List Int) (l : Nat) (i : Int) : St := ⟨slotsOf 20 [(0, .fn (.yield l) [] []), (1, .ptr 0 0 0), (3, .int .i64 i)], pwH e a o l, true⟩
theorem ctrPw (x y : Bool) : CtrSound Tryz.prog (mk [mulE, smallE] [] fun i => if i = 5 then some x else if i = 14 then some y else none) := mk_sound _ InlOK.nil _ _
theorem ctrPw0 : CtrSound Tryz.prog (mk [mulE, smallE] []) := mk_sound _ InlOK.nil _ _
section
variable (e a o : List Int) (l : Nat) (i : Int)
theorem pw_one : (exec Tryz.prog (mk [mulE, smallE] [] fun i => if i = 5 then some true else if i = 14 then some true else none) 60 5 bitsLoop (pwS e a o l i)).bind (fun r => (r.2.cut [0, 1, 3] 5).map fun q => (r.1, q)) =
    some (.normal, ⟨(pwS e a o l (IntKind.i64.wrap (i - 1))).t, pwH e a (mulFe (lst 5 (mulFe (lst 5 o) (lst 5 o))) (lst 5 a)) l, andT (bitO i) (andT (andT (andT (decide (l = l)) (decide (l = l))) (bitI e i != 0)) (decide (l = l)))⟩) := by kernel_rfl
theorem pw_zero : (exec Tryz.prog (mk [mulE, smallE] [] fun i => if i = 5 then some true else if i = 14 then some false else none) 60 5 bitsLoop (pwS e a o l i)).bind (fun r => (r.2.cut [0, 1, 3] 5).map fun q => (r.1, q)) =
    some (.normal, ⟨(pwS e a o l (IntKind.i64.wrap (i - 1))).t, pwH e a (mulFe (lst 5 o) (lst 5 o)) l, andT (bitO i) (andT (andT (andT (decide (l = l)) (decide (l = l))) (!(bitI e i != 0))) (decide (l = l)))⟩) := by kernel_rfl
theorem pw_end : (exec Tryz.prog (mk [mulE, smallE] [] fun i => if i = 5 then some false else if i = 14 then some false else none) 60 5 bitsLoop (pwS e a o l i)).bind (fun r => (r.2.cut [0, 1, 3] 5).map fun q => (r.1, q)) =
    some (.exit 0, ⟨(pwS e a o l i).t, pwH e a o l, andT true (!decide (i ≥ 0))⟩) := by kernel_rfl
theorem pw_first : (execL Tryz.prog (mk [mulE, smallE] []) 60 5 1 (atoms (bodyOf Tryz.f130)) ⟨slots0 Tryz.f130.ntmps [.fn (.yield l) [] [], .ptr 0 0 0], pwH e a o l, true⟩).bind (St.cut [0, 1, 3] 5) = some (pwS e a o l 255) := by kernel_rfl
theorem pw_head : (execL Tryz.prog (mk [mulE, smallE] []) 60 1 3 (atoms (bodyOf Tryz.f135)) ⟨slots0 Tryz.f135.ntmps [.agg [.ints .u64 5 a], .fn (.func 130) [] [.ptr 0 0 0]], [.b [.ints .u8 32 e]], true⟩).bind (St.cut [2, 4, 5, 8] 4) = some ⟨pwT, pwB e a (smallFe 1), true⟩ := by kernel_rfl
end
theorem pw_iter (e a : List Int) (l : Nat) : FnTr Tryz.prog 130 [.fn (.yield l) [] [], .ptr 0 0 0] (pwH e a (smallFe 1) l) (.tup []) (pwH e a (pwN a e 256) l) := by
  have hloop : Tr Tryz.prog none 5 (nthC 1 (bodyOf Tryz.f130)) (pwS e a (smallFe 1) l 255) .normal (pwS e a (pwN a e 256) l (-1)) := by
    have key := Tr.loop (P := Tryz.prog) (ro := none) (k := 5) 0 (c := nthC 1 (bodyOf Tryz.f130)) (by kernel_rfl) (fun j : Nat => pwS e a (pwN a e j) l (255 - j)) 256 (s' := pwS e a (pwN a e 256) l (-1)) (fun j hj => ?_) ?_
    · exact key
    · have e1 : (255 : Int) - j - 1 = 255 - ((j + 1 : Nat) : Int) := by omega
      have hw : IntKind.i64.wrap (255 - (j : Int) - 1) = 255 - ((j + 1 : Nat) : Int) := by rw [wrap_i64 _ (by omega) (by omega), e1]
      have ho := bitO_iff (i := 255 - (j : Int)) (by omega) (by omega)
      cases hb : (bitI e (255 - (j : Int)) != 0) with
      | true =>
        have k := pw_one e a (pwN a e j) l (255 - j)
        rw [hw] at k
        refine Tr.post (Tr.cut (ctrPw true true) 60 _ 5 (by omega) k (by simp [andT, ho, hb])) (Ent.same rfl ?_)
        show pwH _ _ _ _ = pwH _ _ _ _
        rw [pwN, hb]; rfl
      | false =>
        have k := pw_zero e a (pwN a e j) l (255 - j)
        rw [hw] at k
        refine Tr.post (Tr.cut (ctrPw true false) 60 _ 5 (by omega) k (by simp [andT, ho, hb])) (Ent.same rfl ?_)
        show pwH _ _ _ _ = pwH _ _ _ _
        rw [pwN, hb]; rfl
    · have k := pw_end e a (pwN a e 256) l (-1)
      exact Tr.post (Tr.cut (ctrPw false false) 60 _ 5 (by omega) k rfl) (Ent.same rfl rfl)
  refine FnTr.mk (vs := []) Tryz.func130 rfl (x := .normal) (s := pwS e a (pwN a e 256) l (-1)) ?_ (.inr rfl) (by kernel_rfl)
  refine TrL.items ctrPw0 60 1 _ 5 (by simp [pwH]) (pw_first e a (smallFe 1) l) rfl (by decide) ?_
  exact TrL.item 1 (by decide) hloop ⟨rfl, rfl⟩
noncomputable def powFe (a e : List Int) : List Int := Lock (pwN a e 256)
theorem pw_fn (e a : List Int) : FnTr Tryz.prog 135 [.agg [.ints .u64 5 a], .fn (.func 130) [] [.ptr 0 0 0]] [.b [.ints .u8 32 e]] (.agg [.ints .u64 5 (powFe a e)]) [.b [.ints .u8 32 e]] := by
  rw [powFe, Lock_eq]
  refine FnTr.restM ctrPw0 60 4 1 Tryz.func135 (by simp) rfl (fun s' x h => ?_) (s := ⟨pwT, pwB e a (pwN a e 256) ++ [.gap], true⟩) (p := true) (by kernel_rfl) rfl rfl rfl
  refine TrL.items ctrPw0 60 3 _ 4 (by simp) (pw_head e a) rfl (by decide) ?_
  refine TrL.item 3 (by decide) ?_ h
  exact Tr.rangeB 0 (by kernel_rfl) (f := 130) (first := []) (capt := [.ptr 0 0 0]) true Tryz.func130 (by decide) rfl (by kernel_rfl) (fun l => pw_iter e a l)
    (fun l => ⟨_, rfl, rfl, by simp [rfL], rfl⟩) (fun l => rfl)
end Go.Proofs.YtibfpjeeanppjaaGreat.Fe
namespace Go.Proofs.YtibfpjeeanppjaaGreat.Fe
open Go Go.Sy
def pickC (vs : List SV) : List Nat := match vs with
  | [_, .fn _ _ [.ptr b _ _]] => [b]
  | _ => []
noncomputable def powEF : List SV → List Blk → Option (SV × Bool)
  | [.agg [.ints .u64 5 a], .fn (.func 130) [] [.ptr 0 0 0]], [.b [.ints .u8 32 e]] => some (.agg [.ints .u64 5 (powFe a e)], true)
  | _, _ => none
noncomputable def powE : Entry Tryz.prog := .rdm 135 _ Tryz.func135 (by decide) rfl pickC powEF fun vs h0 v e => by
  unfold powEF at e
  split at e
  · cases e; exact pw_fn _ _
  · cases e
def e2 : List Int := 235 :: (List.replicate 30 255 ++ [127])
def e1 : List Int := 251 :: (List.replicate 30 255 ++ [31])
def e5 : List Int := 253 :: (List.replicate 30 255 ++ [15])
noncomputable def lessInl : List (FuncId × Func) := [(65, Tryz.f65), (103, Tryz.f103), (104, Tryz.f104), (66, Tryz.f66)]
theorem lessInl_ok : InlOK Tryz.prog lessInl :=
  InlOK.cons Tryz.func65 (by decide) (InlOK.cons Tryz.func103 (by decide) (InlOK.cons Tryz.func104 (by decide) (InlOK.cons Tryz.func66 (by decide) InlOK.nil)))
theorem ctrLess : CtrSound Tryz.prog (mk (P := Tryz.prog) [] lessInl) := mk_sound _ lessInl_ok _ _
noncomputable def lessEF : List SV → Option (SV × List Blk × Bool)
  | [.int .i64 n, .int .i64 m] => bif n == 2 && m == 0 then some (.agg [.ints .u8 32 e2], [], true) else bif n == 1 && m == 2 then some (.agg [.ints .u8 32 e1], [], true) else bif n == 5 && m == 3 then some (.agg [.ints .u8 32 e5], [], true) else none
  | _ => none
theorem less2 : FnTr Tryz.prog 136 [.int .i64 2, .int .i64 0] [] (.agg [.ints .u8 32 e2]) [] := call0 ctrLess 300 Tryz.func136 (p := true) (by kernel_rfl) rfl rfl
theorem less1 : FnTr Tryz.prog 136 [.int .i64 1, .int .i64 2] [] (.agg [.ints .u8 32 e1]) [] := call0 ctrLess 300 Tryz.func136 (p := true) (by kernel_rfl) rfl rfl
theorem less5 : FnTr Tryz.prog 136 [.int .i64 5, .int .i64 3] [] (.agg [.ints .u8 32 e5]) [] := call0 ctrLess 300 Tryz.func136 (p := true) (by kernel_rfl) rfl rfl
noncomputable def lessE : Entry Tryz.prog := .val 136 _ Tryz.func136 (by decide) rfl false 0 lessEF fun vs v new e => by
  unfold lessEF at e
  split at e
  · rename_i n m
    by_cases h1 : (n == 2 && m == 0) = true
    · rw [h1] at e
      simp only [Bool.and_eq_true, beq_iff_eq] at h1
      obtain ⟨rfl, rfl⟩ := h1
      cases e; exact less2
    · rw [Bool.not_eq_true] at h1
      rw [h1] at e
      by_cases h2 : (n == 1 && m == 2) = true
      · rw [h2] at e
        simp only [Bool.and_eq_true, beq_iff_eq] at h2
        obtain ⟨rfl, rfl⟩ := h2
        cases e; exact less1
      · rw [Bool.not_eq_true] at h2
        rw [h2] at e
        by_cases h3 : (n == 5 && m == 3) = true
        · rw [h3] at e
          simp only [Bool.and_eq_true, beq_iff_eq] at h3
          obtain ⟨rfl, rfl⟩ := h3
          cases e; exact less5
        · rw [Bool.not_eq_true] at h3
          rw [h3] at e
          cases e
  · cases e
end Go.Proofs.YtibfpjeeanppjaaGreat.Fe
