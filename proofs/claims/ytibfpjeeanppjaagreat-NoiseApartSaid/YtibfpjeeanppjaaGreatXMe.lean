/- This file proves what words' operations come to as arithmetic, and the contracts of the library's Add64, Mul64. Conditions: numbers within their kinds. -/
import Derived.Test.YtibfpjeeanppjaaGreatXMd
import Derived.Test.YtibfpjeeanppjaaGreatChecked
import Derived.Laws.Externs
import Derived.Laws.BitsLemmas
import Derived.IntWalk
set_option linter.all false
set_option maxRecDepth 100000
namespace Go.Proofs.YtibfpjeeanppjaaGreat.Fe
open Go Go.Sy
def inU (m : Int) (x : Int) : Bool := decide (0 ≤ x) && decide (x < m)
def u64 (x : Int) : Bool := inU 18446744073709551616 x
def u8 (x : Int) : Bool := inU 256 x
theorem jw {x : Int} : u64 x = true ↔ 0 ≤ x ∧ x < 18446744073709551616 := by simp [u64, inU]
theorem mN {x : Int} : u8 x = true ↔ 0 ≤ x ∧ x < 256 := by simp [u8, inU]
theorem wraps_u64 (n : Int) (h₀ : 0 ≤ n) (h₁ : n < 2 ^ 64) : IntKind.u64.wrap n = n := by
  have e : (2 : Int) ^ 64 = 18446744073709551616 := by decide
  rw [e] at h₁
  rw [show IntKind.u64.wrap n = n % 2 ^ 64 from by simp [IntKind.wrap, IntKind.signed, IntKind.bits], e]
  omega
theorem wrap_u64 (n : Int) : IntKind.u64.wrap n = n % 18446744073709551616 := by simp [IntKind.wrap, IntKind.signed, IntKind.bits]
theorem wrap_u8 (n : Int) : IntKind.u8.wrap n = n % 256 := by simp [IntKind.wrap, IntKind.signed, IntKind.bits]
theorem wrap_i64 (n : Int) (h0 : -9223372036854775808 ≤ n) (h1 : n < 9223372036854775808) : IntKind.i64.wrap n = n := IntWalk.i64_in n (by omega)
theorem tB (i : Nat) (x y : Int) (hx₀ : 0 ≤ x) (hx : x % 2 ^ i = 0) (hx₁ : x < 18446744073709551616) (hy₀ : 0 ≤ y) (hy : y < 2 ^ i) (hi : i ≤ 64) : fT .u64 x y = x + y := by
  have e : (2 : Int) ^ 64 = 18446744073709551616 := by decide
  have h2 : (2 : Int) ^ i ≤ 2 ^ 64 := by exact_mod_cast Nat.pow_le_pow_right (by decide) hi
  exact bits_join .u64 64 (by decide) wraps_u64 i x y hx₀ hx (by rw [e]; exact hx₁) hy₀ hy (by omega)
theorem dj (k : IntKind) (a : Int) (n : Nat) (hn : n ≤ k.bits) : bG k a n = a / 2 ^ n := by
  unfold bG
  rw [Nat.min_eq_left hn, Int.fdiv_eq_ediv_of_nonneg]
  exact_mod_cast Nat.zero_le (2 ^ n)
theorem kO (a : Int) (n : Nat) (hn : n ≤ 64) : cX .u64 a n = a * 2 ^ n % 18446744073709551616 := by
  unfold cX
  rw [show min n IntKind.u64.bits = n from Nat.min_eq_left hn, wrap_u64]
theorem LU (i : Nat) (hi : i ≤ 64) (x : Int) (h0 : 0 ≤ x) (h1 : x < 18446744073709551616) : bO .u64 x (2 ^ i - 1) = x % 2 ^ i := by
  exact (bits_mask .u64 64 (by decide) wraps_u64 i hi x h0 h1 : bits .and .u64 x (2 ^ i - 1) = x % 2 ^ i)
theorem LV (x : Int) (h0 : 0 ≤ x) (h1 : x < 256) : bO .u8 x 1 = x % 2 := by
  exact (bits_mask .u8 8 (by decide) wraps_u8 1 (by decide) x h0 h1 : bits .and .u8 x (2 ^ 1 - 1) = x % 2 ^ 1)
theorem ew (x : Int) (h0 : 0 ≤ x) (h1 : x < 18446744073709551616) : bO .u64 x 2251799813685247 = x % 2251799813685248 := LU 51 (by decide) x h0 h1
theorem DR (x : Int) (h0 : 0 ≤ x) (h1 : x < 18446744073709551616) : bO .u64 x 4294967295 = x % 4294967296 := LU 32 (by decide) x h0 h1
theorem kQ (x : Int) : bG .u64 x 51 = x / 2251799813685248 := by rw [dj _ _ _ (by decide)]; simp
noncomputable def cg (x y c : Int) : Int := gH (Int.ofNat ((x.toNat + y.toNat + c.toNat) % Extern.MathBitsCarry.m64))
noncomputable def bN (x y c : Int) : Int := gH (Int.ofNat ((x.toNat + y.toNat + c.toNat) / Extern.MathBitsCarry.m64))
def cS (c : Int) : Bool := decide (c.toNat ≤ 1)
theorem DS {P : Program} (x y c : Int) (hc : cS c = true) (w : World) :
    (add64Entry #[.int .u64 x, .int .u64 y, .int .u64 c]).run P w = .ok (.tuple #[.int .u64 (cg x y c), .int .u64 (bN x y c)]) w := by
  unfold cg bN
  rw [aC, aC]
  rcases c with (_ | _ | k) | n
  · rfl
  · rfl
  · simp [cS] at hc; omega
  · rfl
theorem p8 {x y c : Int} (hx : 0 ≤ x) (hy : 0 ≤ y) (hc : 0 ≤ c) : cg x y c = (x + y + c) % 18446744073709551616 ∧ bN x y c = (x + y + c) / 18446744073709551616 := by
  unfold cg bN
  rw [aC, aC]
  have : Extern.MathBitsCarry.m64 = 18446744073709551616 := rfl
  rw [this]
  simp only [Int.ofNat_eq_natCast]
  omega
noncomputable def LW : List SV → Option (SV × Bool)
  | [.int .u64 x, .int .u64 y, .int .u64 c] => some (.aQ [.int .u64 (cg x y c), .int .u64 (bN x y c)], cS c)
  | _ => none
noncomputable def uu : Entry Tryz.prog := .ext 133 LW fun vs v e en w args hl => by
  unfold LW at e
  split at e
  · rename_i x y c
    simp only [Option.some.injEq, Prod.mk.injEq] at e
    obtain ⟨rfl, hc⟩ := e
    obtain ⟨_, _, rfl, ⟨_, _, rfl, ⟨_, _, rfl, rfl, rfl⟩, rfl⟩, rfl⟩ := hl
    refine ⟨_, ?_, ⟨_, ⟨_, _, rfl, ⟨_, _, rfl, rfl, rfl⟩, rfl⟩, rfl⟩⟩
    rw [run_callFunc_extern Tryz.func133 (by kernel_rfl) (by kernel_rfl) (by kernel_rfl) (e := add64Entry) (by kernel_rfl), DS x y c hc]
    rfl
  · cases e
theorem mF : ag Tryz.prog (mk (P := Tryz.prog) [] []) := ah [] aq.nil _ _
def WO (x y : Int) : Int := IntKind.u64.wrap (IntKind.u64.wrap (bG .u64 x 32 * bO .u64 y 4294967295) + bG .u64 (IntKind.u64.wrap (bO .u64 x 4294967295 * bO .u64 y 4294967295)) 32)
noncomputable def fq (x y : Int) : Int := gH (IntKind.u64.wrap (IntKind.u64.wrap (IntKind.u64.wrap (bG .u64 x 32 * bG .u64 y 32) + bG .u64 (WO x y) 32) +
  bG .u64 (IntKind.u64.wrap (bO .u64 (WO x y) 4294967295 + IntKind.u64.wrap (bO .u64 x 4294967295 * bG .u64 y 32))) 32))
noncomputable def mulL (x y : Int) : Int := gH (IntKind.u64.wrap (x * y))
noncomputable def LX : List SV → Option (SV × List Blk × Bool)
  | [.int .u64 x, .int .u64 y] => some (.aQ [.int .u64 (fq x y), .int .u64 (mulL x y)], [], true)
  | _ => none
noncomputable def CA : Entry Tryz.prog := .val 134 _ Tryz.func134 (by decide) rfl false 0 LX fun vs v new e => by
  unfold LX at e
  split at e
  · rename_i x y
    cases e
    rw [fq, mulL, aC, aC]
    exact aG mF 60 Tryz.func134 (p := true) (by kernel_rfl) rfl rfl
  · cases e
theorem cK {x y m n : Int} (hx0 : 0 ≤ x) (hx : x ≤ m) (hy0 : 0 ≤ y) (hy : y ≤ n) : 0 ≤ x * y ∧ x * y ≤ m * n :=
  ⟨Int.mul_nonneg hx0 hy0, Int.mul_le_mul hx hy hy0 (by omega)⟩
theorem vP {x y : Int} (hx0 : 0 ≤ x) (hx : x < 18446744073709551616) (hy0 : 0 ≤ y) (hy : y < 18446744073709551616) :
    18446744073709551616 * fq x y + mulL x y = x * y ∧ 0 ≤ fq x y ∧ fq x y ≤ 18446744073709551614 ∧ 0 ≤ mulL x y ∧ mulL x y < 18446744073709551616 := by
  rw [fq, mulL, aC, aC]
  unfold WO
  have s : ∀ z : Int, bG .u64 z 32 = z / 4294967296 := fun z => by rw [dj _ _ _ (by decide)]; simp
  simp only [s, DR x hx0 hx, DR y hy0 hy, wrap_u64]
  have a0 : 0 ≤ x % 4294967296 ∧ x % 4294967296 ≤ 4294967295 := by omega
  have a1 : 0 ≤ x / 4294967296 ∧ x / 4294967296 ≤ 4294967295 := by omega
  have b0 : 0 ≤ y % 4294967296 ∧ y % 4294967296 ≤ 4294967295 := by omega
  have b1 : 0 ≤ y / 4294967296 ∧ y / 4294967296 ≤ 4294967295 := by omega
  have ex : x = 4294967296 * (x / 4294967296) + x % 4294967296 := by omega
  have ey : y = 4294967296 * (y / 4294967296) + y % 4294967296 := by omega
  have hp : x * y = 18446744073709551616 * (x / 4294967296 * (y / 4294967296)) + 4294967296 * (x / 4294967296 * (y % 4294967296)) + 4294967296 * (x % 4294967296 * (y / 4294967296)) + x % 4294967296 * (y % 4294967296) := by
    conv => lhs; rw [ex, ey]
    generalize x / 4294967296 = u
    generalize x % 4294967296 = v
    generalize y / 4294967296 = p
    generalize y % 4294967296 = q
    grind
  have m11 := cK a1.1 a1.2 b1.1 b1.2
  have m10 := cK a1.1 a1.2 b0.1 b0.2
  have m01 := cK a0.1 a0.2 b1.1 b1.2
  have m00 := cK a0.1 a0.2 b0.1 b0.2
  rw [hp]
  generalize x / 4294967296 * (y / 4294967296) = A at *
  generalize x / 4294967296 * (y % 4294967296) = B at *
  generalize x % 4294967296 * (y / 4294967296) = C at *
  generalize x % 4294967296 * (y % 4294967296) = D at *
  clear ex ey hp
  have t0 : (B % 18446744073709551616 + D % 18446744073709551616 / 4294967296) % 18446744073709551616 = B + D / 4294967296 := by omega
  rw [t0, DR _ (by omega) (by omega)]
  generalize hT : B + D / 4294967296 = T at *
  have r1 : (T % 4294967296 + C % 18446744073709551616) % 18446744073709551616 = T % 4294967296 + C := by omega
  rw [r1]
  refine ⟨?_, ?_, ?_, ?_, ?_⟩ <;> omega
end Go.Proofs.YtibfpjeeanppjaaGreat.Fe
namespace Go.Proofs.YtibfpjeeanppjaaGreat.Fe
open Go Go.Sy
theorem VE.aH (k : IntKind) (n : Nat) (l : List Int) : VE (.agg [.ints k n l]) (.agg [.ints k n (aH n l)]) := fun e _ ⟨ys, h1, h2⟩ => ⟨ys, (PE.aH k n l).2 e ys h1, h2⟩
abbrev fS (n : Int) : Int := IntKind.u64.wrap n
abbrev dW (n : Int) : Int := bO .u64 n 2251799813685247
abbrev fm (n : Int) : Int := bG .u64 n 51
def cw0 (l : List Int) : Int := fS (l.getD 0 0 + 0)
def cw1 (l : List Int) : Int := fS (l.getD 1 0 + fm (cw0 l))
def cw2 (l : List Int) : Int := fS (l.getD 2 0 + fm (cw1 l))
def cw3 (l : List Int) : Int := fS (l.getD 3 0 + fm (cw2 l))
def cw4 (l : List Int) : Int := fS (l.getD 4 0 + fm (cw3 l))
def BG (l : List Int) : List Int := [fS (dW (cw0 l) + fS (19 * fm (cw4 l))), dW (cw1 l), dW (cw2 l), dW (cw3 l), dW (cw4 l)]
noncomputable def iZ (l : List Int) : List Int := gH (BG (BG (aH 5 l)))
noncomputable def TS : List SV → Option (SV × List Blk × Bool)
  | [.agg [.ints .u64 5 l]] => some (.agg [.ints .u64 5 (iZ l)], [], true)
  | _ => none
theorem LY (l : List Int) : ai Tryz.prog 104 [.agg [.ints .u64 5 l]] [] (.agg [.ints .u64 5 (iZ l)]) [] := by
  refine ai.conv (bs := [.agg [.ints .u64 5 (aH 5 l)]]) (h2 := []) (h1 := []) (v := .agg [.ints .u64 5 (iZ l)]) ?_ ⟨VE.aH _ _ _, trivial⟩ trivial (VE.refl _) trivial
  rw [iZ, aC]
  exact aG mF 100 Tryz.func104 (p := true) (by kernel_rfl) rfl rfl
noncomputable def ab8 : Entry Tryz.prog := .val 104 _ Tryz.func104 (by decide) rfl false 0 TS fun vs v new e => by
  unfold TS at e
  split at e
  · cases e; exact LY _
  · cases e
def Qx (a b : List Int) : List Int := [fS (a.getD 0 0 + b.getD 0 0), fS (a.getD 1 0 + b.getD 1 0), fS (a.getD 2 0 + b.getD 2 0), fS (a.getD 3 0 + b.getD 3 0), fS (a.getD 4 0 + b.getD 4 0)]
noncomputable def gE (a b : List Int) : List Int := iZ (Qx a b)
noncomputable def BH : List SV → Option (SV × List Blk × Bool)
  | [.agg [.ints .u64 5 a], .agg [.ints .u64 5 b]] => some (.agg [.ints .u64 5 (gE a b)], [], true)
  | _ => none
theorem LZ : ag Tryz.prog (mk [ab8] []) := ah _ aq.nil _ _
noncomputable def uE : Entry Tryz.prog := .val 131 _ Tryz.func131 (by decide) rfl false 0 BH fun vs v new e => by
  unfold BH at e
  split at e
  · rename_i a b
    cases e
    refine ai.conv (bs := [.agg [.ints .u64 5 (aH 5 a)], .agg [.ints .u64 5 (aH 5 b)]]) (h2 := []) (h1 := []) (v := .agg [.ints .u64 5 (gE a b)]) ?_ ⟨VE.aH _ _ _, VE.aH _ _ _, trivial⟩ trivial (VE.refl _) trivial
    exact aG LZ 100 Tryz.func131 (p := true) (by kernel_rfl) rfl rfl
  · cases e
def L0 (a b : List Int) : List Int := [fS (a.getD 0 0 + fS (9007199254740916 - b.getD 0 0)), fS (a.getD 1 0 + fS (9007199254740988 - b.getD 1 0)), fS (a.getD 2 0 + fS (9007199254740988 - b.getD 2 0)), fS (a.getD 3 0 + fS (9007199254740988 - b.getD 3 0)), fS (a.getD 4 0 + fS (9007199254740988 - b.getD 4 0))]
noncomputable def gF (a b : List Int) : List Int := iZ (L0 a b)
noncomputable def BI : List SV → Option (SV × List Blk × Bool)
  | [.agg [.ints .u64 5 a], .agg [.ints .u64 5 b]] => some (.agg [.ints .u64 5 (gF a b)], [], true)
  | _ => none
noncomputable def JN : Entry Tryz.prog := .val 103 _ Tryz.func103 (by decide) rfl false 0 BI fun vs v new e => by
  unfold BI at e
  split at e
  · rename_i a b
    cases e
    refine ai.conv (bs := [.agg [.ints .u64 5 (aH 5 a)], .agg [.ints .u64 5 (aH 5 b)]]) (h2 := []) (h1 := []) (v := .agg [.ints .u64 5 (gF a b)]) ?_ ⟨VE.aH _ _ _, VE.aH _ _ _, trivial⟩ trivial (VE.refl _) trivial
    exact aG LZ 100 Tryz.func103 (p := true) (by kernel_rfl) rfl rfl
  · cases e
end Go.Proofs.YtibfpjeeanppjaaGreat.Fe
namespace Go.Proofs.YtibfpjeeanppjaaGreat.Fe
open Go Go.Sy
noncomputable def pl (s : Int × Int) (x y : Int) : Int × Int := (fS (s.1 + fS (fq x y + bN s.2 (mulL x y) 0)), cg s.2 (mulL x y) 0)
def yB (b : List Int) (k i : Nat) : Int := if i ≤ k then b.getD (k - i) 0 else fS (b.getD (k + 5 - i) 0 * 19)
noncomputable def sK (a b : List Int) (k : Nat) : Int × Int := [0, 1, 2, 3, 4].foldl (fun s i => pl s (a.getD i 0) (yB b k i)) (0, 0)
noncomputable def nx (s : Int × Int) (c : Int) : Int := fT .u64 (fm (cg s.2 c 0)) (cX .u64 (fS (s.1 + bN s.2 c 0)) 13)
noncomputable def jN (s0 s1 s2 s3 s4 : Int × Int) : List Int :=
  [dW (cg (dW (cg s0.2 0 0)) (mulL (nx s4 (nx s3 (nx s2 (nx s1 (nx s0 0))))) 19) 0),
   fS (dW (cg s1.2 (nx s0 0) 0) + fT .u64 (cX .u64 (fS (fq (nx s4 (nx s3 (nx s2 (nx s1 (nx s0 0))))) 19 + bN (dW (cg s0.2 0 0)) (mulL (nx s4 (nx s3 (nx s2 (nx s1 (nx s0 0))))) 19) 0)) 13) (fm (cg (dW (cg s0.2 0 0)) (mulL (nx s4 (nx s3 (nx s2 (nx s1 (nx s0 0))))) 19) 0))),
   dW (cg s2.2 (nx s1 (nx s0 0)) 0), dW (cg s3.2 (nx s2 (nx s1 (nx s0 0))) 0), dW (cg s4.2 (nx s3 (nx s2 (nx s1 (nx s0 0)))) 0)]
noncomputable def gB (a b : List Int) : List Int := gH (iZ (jN (sK a b 0) (sK a b 1) (sK a b 2) (sK a b 3) (sK a b 4)))
theorem Qy : aq Tryz.prog [(132, Tryz.f132)] := aq.cons Tryz.func132 (by decide) aq.nil
noncomputable def ab9 := mk (P := Tryz.prog) [ab8, CA, uu] [(132, Tryz.f132)]
theorem FN : ag Tryz.prog ab9 := ah _ Qy _ _
noncomputable def acd (s0 s1 s2 s3 s4 : Int × Int) : Blk := .b [.int .u64 s0.1, .int .u64 s0.2, .int .u64 s1.1, .int .u64 s1.2, .int .u64 s2.1, .int .u64 s2.2, .int .u64 s3.1, .int .u64 s3.2, .int .u64 s4.1, .int .u64 s4.2]
noncomputable def ace (a b : List Int) (s0 s1 s2 s3 s4 : Int × Int) : St := ⟨slotsOf 127 [(4, .ptr 2 0 0), (5, .ptr 3 0 0)], [.b [.ints .u64 5 (aH 5 a)], .b [.ints .u64 5 (aH 5 b)], .b [.ints .u64 5 [0, 0, 0, 0, 0]], acd s0 s1 s2 s3 s4], true⟩
theorem L3 (a b : List Int) : (aT Tryz.prog ab9 100 0 4 (atoms (aE Tryz.f101)) ⟨aO Tryz.f101.ntmps [.agg [.ints .u64 5 (aH 5 a)], .agg [.ints .u64 5 (aH 5 b)]], [], true⟩).bind (St.cut [4, 5] 4) =
  some (ace a b (sK (aH 5 a) (aH 5 b) 0) (sK (aH 5 a) (aH 5 b) 1) (sK (aH 5 a) (aH 5 b) 2) (sK (aH 5 a) (aH 5 b) 3) (sK (aH 5 a) (aH 5 b) 4)) := by kernel_rfl
noncomputable def BJ : List SV → Option (SV × List Blk × Bool)
  | [.agg [.ints .u64 5 a], .agg [.ints .u64 5 b]] => some (.agg [.ints .u64 5 (gB (aH 5 a) (aH 5 b))], [], true)
  | _ => none
theorem WQ (a b : List Int) : ai Tryz.prog 101 [.agg [.ints .u64 5 (aH 5 a)], .agg [.ints .u64 5 (aH 5 b)]] [] (.agg [.ints .u64 5 (gB (aH 5 a) (aH 5 b))]) [] := by
  rw [gB, aC]
  generalize h0 : sK (aH 5 a) (aH 5 b) 0 = s0
  generalize h1 : sK (aH 5 a) (aH 5 b) 1 = s1
  generalize h2 : sK (aH 5 a) (aH 5 b) 2 = s2
  generalize h3 : sK (aH 5 a) (aH 5 b) 3 = s3
  generalize h4 : sK (aH 5 a) (aH 5 b) 4 = s4
  refine ai.cz FN 100 4 0 Tryz.func101 (by simp) rfl (fun s' x h => ?_) (s := ace a b s0 s1 s2 s3 s4) (p := true) (by kernel_rfl) rfl rfl rfl
  refine aY.items FN 100 4 _ 4 (by simp) (L3 a b) rfl (by decide) ?_
  rw [h0, h1, h2, h3, h4]
  exact h
noncomputable def rJ : Entry Tryz.prog := .val 101 _ Tryz.func101 (by decide) rfl false 0 BJ fun vs v new e => by
  unfold BJ at e
  split at e
  · rename_i a b
    cases e
    exact ai.conv (WQ a b) ⟨VE.aH _ _ _, VE.aH _ _ _, trivial⟩ trivial (VE.refl _) trivial
  · cases e
end Go.Proofs.YtibfpjeeanppjaaGreat.Fe
namespace Go.Proofs.YtibfpjeeanppjaaGreat.Fe
open Go Go.Sy
def oS (n x : Int) : Int := fT .u64 (cX .u64 n 8) (fS x)
noncomputable def FO (a b c d e f g h : Int) : Int := gH (oS (oS (oS (oS (oS (oS (oS (oS 0 h) g) f) e) d) c) b) a)
noncomputable def iF (l : List Int) (i : Nat) : Int := FO (l.getD i 0) (l.getD (i + 1) 0) (l.getD (i + 2) 0) (l.getD (i + 3) 0) (l.getD (i + 4) 0) (l.getD (i + 5) 0) (l.getD (i + 6) 0) (l.getD (i + 7) 0)
noncomputable def L5 : List SV → Option (SV × List Blk × Bool)
  | [.ro _ .u8 l] => some (.int .u64 (iF l 0), [], decide (8 ≤ l.length))
  | _ => none
def ix : Nat → Int
  | 0 => 7
  | k + 1 => IntKind.i64.wrap (ix k - 1)
def obW (n : Nat) : Bool := [0, 1, 2, 3, 4, 5, 6, 7].foldl (fun o k => aa (aa o (cN (ix k) n)) (decide ((ix k).toNat < n))) true
theorem Qz {n : Nat} (h : 8 ≤ n) : obW n = true := by
  have e : ∀ k, k ≤ 7 → ix k = 7 - k := by decide
  have q : ∀ k : Nat, k ≤ 7 → cN (ix k) n = true ∧ decide ((ix k).toNat < n) = true := fun k hk => by
    rw [e k hk]
    unfold cN
    simp only [Bool.and_eq_true, decide_eq_true_eq]
    omega
  simp [obW, aa, q]
noncomputable def acf : Entry Tryz.prog := .val 137 _ Tryz.func137 (by decide) rfl true 0 L5 fun vs v new e => by
  unfold L5 at e
  split at e
  · rename_i f l
    simp only [Option.some.injEq, Prod.mk.injEq, decide_eq_true_eq] at e
    obtain ⟨rfl, rfl, h8⟩ := e
    rw [iF, FO, aC]
    exact aG mF 100 Tryz.func137 (p := obW l.length) (by kernel_rfl) (Qz h8) rfl
  · cases e
noncomputable def TT (l : List Int) : List Int :=
  [dW (iF l 0), dW (fT .u64 (bG .u64 (iF l 0) 51) (cX .u64 (iF l 8) 13)), dW (fT .u64 (bG .u64 (iF l 8) 38) (cX .u64 (iF l 16) 26)),
   dW (fT .u64 (bG .u64 (iF l 16) 25) (cX .u64 (iF l 24) 39)), dW (bG .u64 (iF l 24) 12)]
noncomputable def fW (l : List Int) : List Int := gH (TT (aH 32 l))
noncomputable def vQ : List SV → Option (SV × List Blk × Bool)
  | [.agg [.ints .u8 32 l]] => some (.agg [.ints .u64 5 (fW l)], [], true)
  | _ => none
theorem QA : ag Tryz.prog (mk [acf] []) := ah _ aq.nil _ _
noncomputable def E5 : Entry Tryz.prog := .val 105 _ Tryz.func105 (by decide) rfl false 0 vQ fun vs v new e => by
  unfold vQ at e
  split at e
  · rename_i l
    cases e
    refine ai.conv (bs := [.agg [.ints .u8 32 (aH 32 l)]]) (h2 := []) (h1 := []) (v := .agg [.ints .u64 5 (fW l)]) ?_ ⟨VE.aH _ _ _, trivial⟩ trivial (VE.refl _) trivial
    rw [fW, aC]
    exact aG QA 100 Tryz.func105 (p := true) (by kernel_rfl) rfl rfl
  · cases e
def z5 : List Int := [0, 0, 0, 0, 0]
def sk (n : Int) : List Int := [dW (fS n), fm (fS n), 0, 0, 0]
noncomputable def cw (n : Int) : List Int := bif decide (n < 0) then gF (gF z5 (sk (IntKind.i64.wrap (0 - IntKind.i64.wrap (n + 1))))) [1, 0, 0, 0, 0] else sk n
noncomputable def qQ : List SV → Option (SV × List Blk × Bool)
  | [.int .i64 n] => some (.agg [.ints .u64 5 (cw n)], [], true)
  | _ => none
theorem BK (b : Bool) : ag Tryz.prog (mk [JN] [] fun i => if i = 6 then some b else none) := ah _ aq.nil _ _
noncomputable def fj : Entry Tryz.prog := .val 65 _ Tryz.func65 (by decide) rfl false 0 qQ fun vs v new e => by
  unfold qQ at e
  split at e
  · rename_i n
    cases e
    unfold cw
    cases hn : decide (n < 0) with
    | true => exact aG (BK true) 100 Tryz.func65 (p := aa true (decide (n < 0))) (by kernel_rfl) (by rw [hn]; rfl) rfl
    | false => exact aG (BK false) 100 Tryz.func65 (p := aa true (!decide (n < 0))) (by kernel_rfl) (by rw [hn]; rfl) rfl
  · cases e
def t0 (a : List Int) : Int := fS (a.getD 0 0 + 19)
def t1 (a : List Int) : Int := fS (a.getD 1 0 + fm (t0 a))
def t2 (a : List Int) : Int := fS (a.getD 2 0 + fm (t1 a))
def t3 (a : List Int) : Int := fS (a.getD 3 0 + fm (t2 a))
def t4 (a : List Int) : Int := fS (a.getD 4 0 + fm (t3 a))
def xX (a : List Int) : List Int := [dW (t0 a), dW (t1 a), dW (t2 a), dW (t3 a), dW (t4 a)]
def vS (w : List Int) : List Int :=
  (List.range 32).map fun i => IntKind.u8.wrap (bG .u64 ([fT .u64 (w.getD 0 0) (cX .u64 (w.getD 1 0) 51), fT .u64 (bG .u64 (w.getD 1 0) 13) (cX .u64 (w.getD 2 0) 38), fT .u64 (bG .u64 (w.getD 2 0) 26) (cX .u64 (w.getD 3 0) 25),
    fT .u64 (bG .u64 (w.getD 3 0) 39) (cX .u64 (w.getD 4 0) 12)].getD (i / 8) 0) (8 * (i % 8)))
noncomputable def eW (a : List Int) : List Int := gH (vS (bif decide (fm (t4 (aH 5 (iZ a))) > 0) then xX (aH 5 (iZ a)) else aH 5 (iZ a)))
noncomputable def L6 : List SV → Option (SV × List Blk × Bool)
  | [.agg [.ints .u64 5 l]] => some (.agg [.ints .u64 5 (aH 5 (iZ l))], [], true)
  | _ => none
noncomputable def acg : Entry Tryz.prog := .val 104 _ Tryz.func104 (by decide) rfl false 0 L6 fun vs v new e => by
  unfold L6 at e
  split at e
  · rename_i l
    cases e
    exact ai.conv (LY l) ⟨VE.refl _, trivial⟩ trivial (VE.aH _ _ _) trivial
  · cases e
noncomputable def qR : List SV → Option (SV × List Blk × Bool)
  | [.agg [.ints .u64 5 a]] => some (.agg [.ints .u8 32 (eW a)], [], true)
  | _ => none
theorem BL (b : Bool) : ag Tryz.prog (mk [acg] [] fun i => if i = 40 then some b else none) := ah _ aq.nil _ _
noncomputable def yO : Entry Tryz.prog := .val 66 _ Tryz.func66 (by decide) rfl false 0 qR fun vs v new e => by
  unfold qR at e
  split at e
  · rename_i a
    cases e
    unfold eW
    rw [aC]
    cases hn : decide (fm (t4 (aH 5 (iZ a))) > 0) with
    | true => exact aG (BL true) 200 Tryz.func66 (p := aa true (decide (fm (t4 (aH 5 (iZ a))) > 0))) (by kernel_rfl) (by rw [hn]; rfl) rfl
    | false => exact aG (BL false) 200 Tryz.func66 (p := aa true (!decide (fm (t4 (aH 5 (iZ a))) > 0))) (by kernel_rfl) (by rw [hn]; rfl) rfl
  · cases e
end Go.Proofs.YtibfpjeeanppjaaGreat.Fe
namespace Go.Proofs.YtibfpjeeanppjaaGreat.Fe
open Go Go.Sy
noncomputable def L7 : List SV → Option (SV × List Blk × Bool)
  | [.agg [.ints .u8 32 e]] => some (.fn (.func 130) [] [.ptr 0 0 0], [.b [.ints .u8 32 e]], true)
  | _ => none
noncomputable def Tl : Entry Tryz.prog := .val 98 _ Tryz.func98 (by decide) rfl false 1 L7 fun vs v new e => by
  unfold L7 at e
  split at e
  · cases e
    exact bn mF 30 Tryz.func98 1 (by simp) (p := true) (by kernel_rfl) rfl rfl rfl
  · cases e
def tr (e : List Int) (i : Int) : Int := IntKind.i64.wrap (bO .u8 (bG .u8 (e.getD (0 + (IntKind.i64.wrap (i.tdiv 8)).toNat) 0) (i.tmod 8).toNat) 1)
def JR (i : Int) : Bool := aa (aa (aa (aa true (decide (i ≥ 0))) (cN (IntKind.i64.wrap (i.tdiv 8)) 32)) (decide (0 + (IntKind.i64.wrap (i.tdiv 8)).toNat < 32))) (decide (0 ≤ i.tmod 8))
theorem AN {i : Int} (h0 : 0 ≤ i) (h1 : i < 256) : JR i = true := by
  have e : i.tdiv 8 = i / 8 := Int.tdiv_eq_ediv_of_nonneg h0
  have e2 : i.tmod 8 = i % 8 := Int.tmod_eq_emod_of_nonneg h0
  have w : IntKind.i64.wrap (i.tdiv 8) = i / 8 := by rw [e]; exact wrap_i64 _ (by omega) (by omega)
  unfold JR cN
  rw [w, e2]
  simp only [au, Bool.and_eq_true, decide_eq_true_eq, true_and]
  omega
noncomputable def mU : Code := inner (inner (az 1 (aE Tryz.f130)))
noncomputable def tc (a e : List Int) : Nat → List Int
  | 0 => cw 1
  | j + 1 => bif (tr e (255 - j) != 0) then gB (aH 5 (gB (aH 5 (tc a e j)) (aH 5 (tc a e j)))) (aH 5 a) else gB (aH 5 (tc a e j)) (aH 5 (tc a e j))
noncomputable def pwC : Code := az 3 (aE Tryz.f135)
def pwT : List (Option SV) := slotsOf 19 [(2, .ptr 1 0 0), (4, .ptr 2 0 0), (5, .ptr 3 0 0), (8, .fn (.func 130) [] [.ptr 0 0 0])]
noncomputable def pwB (e a o : List Int) : List Blk := [.b [.ints .u8 32 e], .b [.ints .u64 5 a], .b [.ints .u64 5 z5], .b [.ints .u64 5 o]]
noncomputable def IA (e a o : List Int) (l : Nat) : List Blk := [.b [.ints .u8 32 e], .b [.ints .u64 5 a], .b [.ints .u64 5 z5], .b [.ints .u64 5 o], .g (some (Es pwC pwT l))]
noncomputable def IB (e a o : List Int) (l : Nat) (i : Int) : St := ⟨slotsOf 20 [(0, .fn (.yield l) [] []), (1, .ptr 0 0 0), (3, .int .i64 i)], IA e a o l, true⟩
theorem L8 (x y : Bool) : ag Tryz.prog (mk [rJ, fj] [] fun i => if i = 5 then some x else if i = 14 then some y else none) := ah _ aq.nil _ _
theorem DT : ag Tryz.prog (mk [rJ, fj] []) := ah _ aq.nil _ _
section
variable (e a o : List Int) (l : Nat) (i : Int)
theorem WR : (exec Tryz.prog (mk [rJ, fj] [] fun i => if i = 5 then some true else if i = 14 then some true else none) 60 5 mU (IB e a o l i)).bind (fun r => (r.2.cut [0, 1, 3] 5).map fun q => (r.1, q)) =
    some (.normal, ⟨(IB e a o l (IntKind.i64.wrap (i - 1))).t, IA e a (gB (aH 5 (gB (aH 5 o) (aH 5 o))) (aH 5 a)) l, aa (JR i) (aa (aa (aa (decide (l = l)) (decide (l = l))) (tr e i != 0)) (decide (l = l)))⟩) := by kernel_rfl
theorem QB : (exec Tryz.prog (mk [rJ, fj] [] fun i => if i = 5 then some true else if i = 14 then some false else none) 60 5 mU (IB e a o l i)).bind (fun r => (r.2.cut [0, 1, 3] 5).map fun q => (r.1, q)) =
    some (.normal, ⟨(IB e a o l (IntKind.i64.wrap (i - 1))).t, IA e a (gB (aH 5 o) (aH 5 o)) l, aa (JR i) (aa (aa (aa (decide (l = l)) (decide (l = l))) (!(tr e i != 0))) (decide (l = l)))⟩) := by kernel_rfl
theorem WS : (exec Tryz.prog (mk [rJ, fj] [] fun i => if i = 5 then some false else if i = 14 then some false else none) 60 5 mU (IB e a o l i)).bind (fun r => (r.2.cut [0, 1, 3] 5).map fun q => (r.1, q)) =
    some (.exit 0, ⟨(IB e a o l i).t, IA e a o l, aa true (!decide (i ≥ 0))⟩) := by kernel_rfl
theorem L9 : (aT Tryz.prog (mk [rJ, fj] []) 60 5 1 (atoms (aE Tryz.f130)) ⟨aO Tryz.f130.ntmps [.fn (.yield l) [] [], .ptr 0 0 0], IA e a o l, true⟩).bind (St.cut [0, 1, 3] 5) = some (IB e a o l 255) := by kernel_rfl
theorem QC : (aT Tryz.prog (mk [rJ, fj] []) 60 1 3 (atoms (aE Tryz.f135)) ⟨aO Tryz.f135.ntmps [.agg [.ints .u64 5 a], .fn (.func 130) [] [.ptr 0 0 0]], [.b [.ints .u8 32 e]], true⟩).bind (St.cut [2, 4, 5, 8] 4) = some ⟨pwT, pwB e a (cw 1), true⟩ := by kernel_rfl
end
theorem QD (e a : List Int) (l : Nat) : ai Tryz.prog 130 [.fn (.yield l) [] [], .ptr 0 0 0] (IA e a (cw 1) l) (.aQ []) (IA e a (tc a e 256) l) := by
  have bS : Tr Tryz.prog none 5 (az 1 (aE Tryz.f130)) (IB e a (cw 1) l 255) .normal (IB e a (tc a e 256) l (-1)) := by
    have key := Tr.loop (P := Tryz.prog) (ro := none) (k := 5) 0 (c := az 1 (aE Tryz.f130)) (by kernel_rfl) (fun j : Nat => IB e a (tc a e j) l (255 - j)) 256 (s' := IB e a (tc a e 256) l (-1)) (fun j hj => ?_) ?_
    · exact key
    · have e1 : (255 : Int) - j - 1 = 255 - ((j + 1 : Nat) : Int) := by omega
      have hw : IntKind.i64.wrap (255 - (j : Int) - 1) = 255 - ((j + 1 : Nat) : Int) := by rw [wrap_i64 _ (by omega) (by omega), e1]
      have ho := AN (i := 255 - (j : Int)) (by omega) (by omega)
      cases hb : (tr e (255 - (j : Int)) != 0) with
      | true =>
        have k := WR e a (tc a e j) l (255 - j)
        rw [hw] at k
        refine Tr.post (Tr.cut (L8 true true) 60 _ 5 (by omega) k (by simp [aa, ho, hb])) (bh.same rfl ?_)
        show IA _ _ _ _ = IA _ _ _ _
        rw [tc, hb]; rfl
      | false =>
        have k := QB e a (tc a e j) l (255 - j)
        rw [hw] at k
        refine Tr.post (Tr.cut (L8 true false) 60 _ 5 (by omega) k (by simp [aa, ho, hb])) (bh.same rfl ?_)
        show IA _ _ _ _ = IA _ _ _ _
        rw [tc, hb]; rfl
    · have k := WS e a (tc a e 256) l (-1)
      exact Tr.post (Tr.cut (L8 false false) 60 _ 5 (by omega) k rfl) (bh.same rfl rfl)
  refine ai.mk (vs := []) Tryz.func130 rfl (x := .normal) (s := IB e a (tc a e 256) l (-1)) ?_ (.inr rfl) (by kernel_rfl)
  refine aY.items DT 60 1 _ 5 (by simp [IA]) (L9 e a (cw 1) l) rfl (by decide) ?_
  exact aY.item 1 (by decide) bS ⟨rfl, rfl⟩
noncomputable def vT (a e : List Int) : List Int := gH (tc a e 256)
theorem ach (e a : List Int) : ai Tryz.prog 135 [.agg [.ints .u64 5 a], .fn (.func 130) [] [.ptr 0 0 0]] [.b [.ints .u8 32 e]] (.agg [.ints .u64 5 (vT a e)]) [.b [.ints .u8 32 e]] := by
  rw [vT, aC]
  refine ai.cz DT 60 4 1 Tryz.func135 (by simp) rfl (fun s' x h => ?_) (s := ⟨pwT, pwB e a (tc a e 256) ++ [.gap], true⟩) (p := true) (by kernel_rfl) rfl rfl rfl
  refine aY.items DT 60 3 _ 4 (by simp) (QC e a) rfl (by decide) ?_
  refine aY.item 3 (by decide) ?_ h
  exact Tr.yl 0 (by kernel_rfl) (f := 130) (first := []) (jW := [.ptr 0 0 0]) true Tryz.func130 (by decide) rfl (by kernel_rfl) (fun l => QD e a l)
    (fun l => ⟨_, rfl, rfl, by simp [Es], rfl⟩) (fun l => rfl)
end Go.Proofs.YtibfpjeeanppjaaGreat.Fe
namespace Go.Proofs.YtibfpjeeanppjaaGreat.Fe
open Go Go.Sy
def aci (vs : List SV) : List Nat := match vs with
  | [_, .fn _ _ [.ptr b _ _]] => [b]
  | _ => []
noncomputable def BM : List SV → List Blk → Option (SV × Bool)
  | [.agg [.ints .u64 5 a], .fn (.func 130) [] [.ptr 0 0 0]], [.b [.ints .u8 32 e]] => some (.agg [.ints .u64 5 (vT a e)], true)
  | _, _ => none
noncomputable def WT : Entry Tryz.prog := .YP 135 _ Tryz.func135 (by decide) rfl aci BM fun vs h0 v e => by
  unfold BM at e
  split at e
  · cases e; exact ach _ _
  · cases e
def e2 : List Int := 235 :: (List.replicate 30 255 ++ [127])
def e1 : List Int := 251 :: (List.replicate 30 255 ++ [31])
def e5 : List Int := 253 :: (List.replicate 30 255 ++ [15])
noncomputable def FP : List (FuncId × Func) := [(65, Tryz.f65), (103, Tryz.f103), (104, Tryz.f104), (66, Tryz.f66)]
theorem DU : aq Tryz.prog FP :=
  aq.cons Tryz.func65 (by decide) (aq.cons Tryz.func103 (by decide) (aq.cons Tryz.func104 (by decide) (aq.cons Tryz.func66 (by decide) aq.nil)))
theorem zq : ag Tryz.prog (mk (P := Tryz.prog) [] FP) := ah _ DU _ _
noncomputable def Ma : List SV → Option (SV × List Blk × Bool)
  | [.int .i64 n, .int .i64 m] => bif n == 2 && m == 0 then some (.agg [.ints .u8 32 e2], [], true) else bif n == 1 && m == 2 then some (.agg [.ints .u8 32 e1], [], true) else bif n == 5 && m == 3 then some (.agg [.ints .u8 32 e5], [], true) else none
  | _ => none
theorem acj : ai Tryz.prog 136 [.int .i64 2, .int .i64 0] [] (.agg [.ints .u8 32 e2]) [] := aG zq 300 Tryz.func136 (p := true) (by kernel_rfl) rfl rfl
theorem ack : ai Tryz.prog 136 [.int .i64 1, .int .i64 2] [] (.agg [.ints .u8 32 e1]) [] := aG zq 300 Tryz.func136 (p := true) (by kernel_rfl) rfl rfl
theorem acm : ai Tryz.prog 136 [.int .i64 5, .int .i64 3] [] (.agg [.ints .u8 32 e5]) [] := aG zq 300 Tryz.func136 (p := true) (by kernel_rfl) rfl rfl
noncomputable def acn : Entry Tryz.prog := .val 136 _ Tryz.func136 (by decide) rfl false 0 Ma fun vs v new e => by
  unfold Ma at e
  split at e
  · rename_i n m
    by_cases h1 : (n == 2 && m == 0) = true
    · rw [h1] at e
      simp only [Bool.and_eq_true, beq_iff_eq] at h1
      obtain ⟨rfl, rfl⟩ := h1
      cases e; exact acj
    · rw [Bool.not_eq_true] at h1
      rw [h1] at e
      by_cases h2 : (n == 1 && m == 2) = true
      · rw [h2] at e
        simp only [Bool.and_eq_true, beq_iff_eq] at h2
        obtain ⟨rfl, rfl⟩ := h2
        cases e; exact ack
      · rw [Bool.not_eq_true] at h2
        rw [h2] at e
        by_cases h3 : (n == 5 && m == 3) = true
        · rw [h3] at e
          simp only [Bool.and_eq_true, beq_iff_eq] at h3
          obtain ⟨rfl, rfl⟩ := h3
          cases e; exact acm
        · rw [Bool.not_eq_true] at h3
          rw [h3] at e
          cases e
  · cases e
end Go.Proofs.YtibfpjeeanppjaaGreat.Fe
