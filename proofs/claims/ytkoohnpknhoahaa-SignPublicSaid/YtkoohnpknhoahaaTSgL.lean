/- This file proves which bytes given multiples of the base have, and which of them are unlike. No conditions. -/
import Derived.Test.YtkoohnpknhoahaaTPoX
import Derived.Test.YtkoohnpknhoahaaTPoY
set_option linter.all false
namespace Go.Proofs.Ytkoohnpknhoahaa.Sg
open Go Go.Sy Re Fe Po
theorem id_lit {n : Nat} [NeZero n] (x a z i : Fin n) (h : x * z = a * z) (hi : z * i = 1) : a = x := by grobner
theorem pt_lit {v : V4} {A : Pt} (h : RV v A) {x y : Int} (e : (mm x v.2.2.1 == v.1 && mm y v.2.2.1 == v.2.1) = true) : A = (ph x, ph y) := by
  rw [Bool.and_eq_true, beq_iff_eq, beq_iff_eq] at e
  have hx := h.x
  have hy := h.y
  rw [← e.1, ph_mm] at hx
  rw [← e.2, ph_mm] at hy
  have hi := fi_mul h.z
  exact Prod.ext (id_lit _ _ _ _ hx hi) (id_lit _ _ _ _ hy hi)
theorem enc_lit {x y : Int} (hx : 0 ≤ x ∧ x < Pm) (hy : 0 ≤ y ∧ y < Pm) : encA (ph x, ph y) = encB y (decide (x % 2 = 1)) := by
  unfold encA
  rw [ph_val hx.1 hx.2, ph_val hy.1 hy.2]
theorem mul_lit {n : Nat} (hn : n < 2 ^ 256) {x y : Int} (e : (mm x (vtN n baseV 256).2.2.1 == (vtN n baseV 256).1 && mm y (vtN n baseV 256).2.2.1 == (vtN n baseV 256).2.1) = true) : mulA baseA n = (ph x, ph y) := by
  have h := vtN_val hn base_rv 256 (Nat.le_refl _)
  rw [Nat.sub_self, Nat.pow_zero, Nat.div_one] at h
  exact pt_lit h e
def n7 : Nat := 43163622891799361314102505944223169546670986980999473268784120504132559397656
def pub7 : List Int := [162, 250, 47, 74, 53, 91, 162, 233, 7, 165, 48, 9, 233, 227, 124, 173, 223, 122, 199, 230, 106, 8, 186, 7, 99, 31, 85, 48, 114, 179, 242, 76]
def r7 : Nat := 685311167454205173398291671160860818199994811073560760809443716574227952905
def first7 : List Int := [88, 220, 12, 51, 109, 77, 26, 43, 33, 238, 75, 152, 247, 173, 26, 48, 67, 116, 127, 246, 2, 8, 1, 74, 205, 1, 113, 229, 229, 248, 66, 68]
def k7 : Nat := 6350637864705426400859368452948257810749036107759312749356123024373706688959
def k7' : Nat := 2488644889419960533016466894361424560507003981035315819087155512946330490123
theorem pub7_eq : encA (mulA baseA n7) = pub7 := by
  rw [mul_lit (n := n7) (by decide) (x := 20187714700615140322123252784420260477325471643504923403589101600785086395188) (y := 34804591973124617498858403915480461027353086822251904420926902256832544242338) (by decide +kernel), enc_lit (by decide) (by decide)]
  decide +kernel
theorem first7_eq : encA (mulA baseA r7) = first7 := by
  rw [mul_lit (n := r7) (by decide) (x := 31334764600522950466539810408690655280232693241631767212220445267832540044198) (y := 30875603441022281803856730662798123229495602649832929132319990546114122931288) (by decide +kernel), enc_lit (by decide) (by decide)]
  decide +kernel
def d7 : Nat := (k7 + (LN - k7')) * n7 % LN
theorem d7_ne : mulA baseA d7 ≠ zeroA := by
  rw [mul_lit (n := d7) (by decide +kernel) (x := 53584896400289974625102334199783855454093178857464652751029549080698859461031) (y := 43464270959813929789465540482882562661710417823083391599692939657259783446682) (by decide +kernel)]
  intro q
  have h := congrArg (fun A : Pt => A.1.val) q
  revert h
  decide +kernel
end Go.Proofs.Ytkoohnpknhoahaa.Sg
