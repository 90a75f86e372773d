/- This file proves contracts of math/bits.Mul64 and pieces of point.MulAdd. Conditions: numbers within their kinds. -/
import Derived.Test.YtailgcdcdhhpnaaPtX
namespace Go.Proofs.Ytailgcdcdhhpnaa
open Go Go.Lift

/-! ### Mul64 -/
def mulT (x y : Int) : Int := IntKind.u64.wrap (IntKind.u64.wrap (shrI .u64 x 32 * andI .u64 y 4294967295) + shrI .u64 (IntKind.u64.wrap (andI .u64 x 4294967295 * andI .u64 y 4294967295)) 32)
noncomputable def mulH (x y : Int) : Int := Lock (IntKind.u64.wrap (IntKind.u64.wrap (IntKind.u64.wrap (shrI .u64 x 32 * shrI .u64 y 32) + shrI .u64 (mulT x y) 32) +
  shrI .u64 (IntKind.u64.wrap (andI .u64 (mulT x y) 4294967295 + IntKind.u64.wrap (andI .u64 x 4294967295 * shrI .u64 y 32))) 32))
noncomputable def mulL (x y : Int) : Int := Lock (IntKind.u64.wrap (x * y))
noncomputable def mul64G : List Value → Option (Value × Bool)
  | [.int .u64 x, .int .u64 y] => some (.tuple #[.int .u64 (mulH x y), .int .u64 (mulL x y)], true)
  | _ => none
set_option maxRecDepth 100000 in
noncomputable def mul64E : Entry Try.prog := .val 35 mul64G fun vs v e h => by
  unfold mul64G at e
  split at e
  · rename_i x y
    simp only [Option.some.injEq, Prod.mk.injEq, and_true] at e
    subst e
    rw [mulH, mulL, Lock_eq, Lock_eq]
    have key : (callS Try.prog (mk (P := Try.prog) []) 60 Try.f35 [.int .u64 x, .int .u64 y] []).map (fun x => (x.1, x.2.2)) =
      some (.tuple #[.int .u64 (IntKind.u64.wrap (IntKind.u64.wrap (IntKind.u64.wrap (shrI .u64 x 32 * shrI .u64 y 32) + shrI .u64 (mulT x y) 32) +
        shrI .u64 (IntKind.u64.wrap (andI .u64 (mulT x y) 4294967295 + IntKind.u64.wrap (andI .u64 x 4294967295 * shrI .u64 y 32))) 32)), .int .u64 (IntKind.u64.wrap (x * y))], true) := by kernel_rfl
    exact ctr_val Try.func35 (by decide) (mk_sound _ _) 60 key rfl rfl (by simp [plain, plainL]) h
  · cases e

theorem and32 (x : Int) (h0 : 0 ≤ x) (h1 : x < 18446744073709551616) : andI .u64 x 4294967295 = x % 4294967296 := by
  exact (bits_mask .u64 64 (by decide) wraps_u64 32 (by decide) x h0 h1 : bits .and .u64 x (2 ^ 32 - 1) = x % 2 ^ 32)
theorem mul_bound {x y m n : Int} (hx0 : 0 ≤ x) (hx : x ≤ m) (hy0 : 0 ≤ y) (hy : y ≤ n) : 0 ≤ x * y ∧ x * y ≤ m * n :=
  ⟨Int.mul_nonneg hx0 hy0, Int.mul_le_mul hx hy hy0 (by omega)⟩
/-- The high word times 2^64 and the low one are the product. -/
theorem mul64_eq {x y : Int} (hx0 : 0 ≤ x) (hx : x < 18446744073709551616) (hy0 : 0 ≤ y) (hy : y < 18446744073709551616) :
    18446744073709551616 * mulH x y + mulL x y = x * y ∧ 0 ≤ mulH x y ∧ mulH x y ≤ 18446744073709551614 ∧ 0 ≤ mulL x y ∧ mulL x y < 18446744073709551616 := by
  rw [mulH, mulL, Lock_eq, Lock_eq]
  unfold mulT
  have s : ∀ z : Int, shrI .u64 z 32 = z / 4294967296 := fun z => by rw [shr_eq _ _ _ (by decide)]; simp
  simp only [s, and32 x hx0 hx, and32 y hy0 hy, wrap_u64]
  have a0 : 0 ≤ x % 4294967296 ∧ x % 4294967296 ≤ 4294967295 := by omega
  have a1 : 0 ≤ x / 4294967296 ∧ x / 4294967296 ≤ 4294967295 := by omega
  have b0 : 0 ≤ y % 4294967296 ∧ y % 4294967296 ≤ 4294967295 := by omega
  have b1 : 0 ≤ y / 4294967296 ∧ y / 4294967296 ≤ 4294967295 := by omega
  have ex : x = 4294967296 * (x / 4294967296) + x % 4294967296 := by omega
  have ey : y = 4294967296 * (y / 4294967296) + y % 4294967296 := by omega
  have hp : x * y = 18446744073709551616 * (x / 4294967296 * (y / 4294967296)) + 4294967296 * (x / 4294967296 * (y % 4294967296)) + 4294967296 * (x % 4294967296 * (y / 4294967296)) + x % 4294967296 * (y % 4294967296) := by
    conv => lhs; rw [ex, ey]
    generalize x / 4294967296 = u
    generalize x % 4294967296 = v
    generalize y / 4294967296 = p
    generalize y % 4294967296 = q
    grind
  have m11 := mul_bound a1.1 a1.2 b1.1 b1.2
  have m10 := mul_bound a1.1 a1.2 b0.1 b0.2
  have m01 := mul_bound a0.1 a0.2 b1.1 b1.2
  have m00 := mul_bound a0.1 a0.2 b0.1 b0.2
  rw [hp]
  generalize x / 4294967296 * (y / 4294967296) = A at *
  generalize x / 4294967296 * (y % 4294967296) = B at *
  generalize x % 4294967296 * (y / 4294967296) = C at *
  generalize x % 4294967296 * (y % 4294967296) = D at *
  clear ex ey hp
  have t0 : (B % 18446744073709551616 + D % 18446744073709551616 / 4294967296) % 18446744073709551616 = B + D / 4294967296 := by omega
  rw [t0, and32 _ (by omega) (by omega)]
  generalize hT : B + D / 4294967296 = T at *
  have r1 : (T % 4294967296 + C % 18446744073709551616) % 18446744073709551616 = T % 4294967296 + C := by omega
  rw [r1]
  refine ⟨?_, ?_, ?_, ?_, ?_⟩ <;> omega
end Go.Proofs.Ytailgcdcdhhpnaa
