/- This file proves plain laws for burrownum's Apart, and that a capacity that isn't known is some capacity. No conditions. -/
import Derived.Test.YtibfpjeeanppjaaGreatVShG
import Derived.Test.YtibfpjeeanppjaaGreatVKdB
set_option linter.all false
namespace Go.Sy
open Go
section
variable {P : Program} {e : Env} {B : Base} {h : List Blk} {w : World}
theorem Rel.empty (R : Rel B e h w) : Rel B e (h.map fun _ => .b []) w := {
    os := R.os, tape := R.tape, output := R.output, size := R.size, inj := R.inj, dom := fun i p hi => by simpa using R.dom i p hi, sep := R.sep, zok := R.zok, zfresh := R.zfresh, news := R.news, keepr := R.keepr, keepz := R.keepz, n0 := R.n0, n0le := R.n0le
    blk := fun i qs hi => by
      rw [List.getElem?_map] at hi
      cases hg : h[i]? with
      | none => rw [hg] at hi; cases hi
      | some x =>
        rw [hg] at hi
        simp only [Option.map_some, Option.some.injEq, Blk.b.injEq] at hi
        subst hi
        cases x with
        | b ps =>
          rcases R.blk i ps hg with ⟨g1, g2⟩ | ⟨p, o, g1, g2, c, t, rfl, g3, g4, g5⟩
          · exact .inl ⟨rfl, g2⟩
          · exact .inr ⟨p, _, g1, g2, c, t, rfl, g3, Nat.zero_le _, rfl⟩
        | g o => exact .inl ⟨rfl, (R.gap i o hg).1⟩
    gap := fun i g hi => by
      rw [List.getElem?_map] at hi
      cases hg : h[i]? with
      | none => rw [hg] at hi; cases hi
      | some x => rw [hg] at hi; cases hi
    yi := R.yi, yb := R.yb, old := R.old, win := R.win, kr := R.kr, kle := by simpa using R.kle, mks := R.mks, mnd := R.mnd }
end
end Go.Sy
namespace Go.Proofs.YtibfpjeeanppjaaGreat.Bn
open Go Go.Sy Sh
abbrev J (n : Int) : Int := IntKind.i64.wrap n
theorem J_eq {n : Int} (h0 : 0 ≤ n) (h1 : n < 1000000000000000) : J n = n := wrap_i64 n (by omega) (by omega)
noncomputable def apB : Code := bodyOf Tryz.f17
noncomputable def agW : Code := inner (inner (nthC 5 apB))
def f0 : Nat → Option Bool := fun _ => none
def g0 : Nat → Bool := fun _ => false
def rdO (ob : Bool) (j : Int) (n m : Nat) : Bool := andT (andT ob (inB j n)) (decide (0 + j.toNat < m))
theorem rdO_true {ob : Bool} {j n m : Nat} (h : ob = true) (h1 : j < n) (h2 : n ≤ m) : rdO ob (j : Int) n m = true := by
  unfold rdO
  rw [h, inB_true (by omega) (by omega), decide_eq_true (show 0 + ((j : Int)).toNat < m by omega)]; rfl
def gO (m : Nat) (n : Int) (c : Nat) (l : List Int) : Bool := andT (andT true (decide ((m : Int) < J (n + 10)))) (andT (andT true (decide (m + 1 ≤ c))) (decide (l.length = m) && decide (m = m) && true))
end Go.Proofs.YtibfpjeeanppjaaGreat.Bn
