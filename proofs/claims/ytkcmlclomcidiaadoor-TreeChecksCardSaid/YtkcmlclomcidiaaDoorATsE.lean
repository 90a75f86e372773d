/- This file proves the contract of the reference's upper from its runs. Conditions: a tree of 32 leaves at most. -/
import Derived.Test.YtkcmlclomcidiaaDoorATsD
set_option linter.all false
namespace Go.Sy
open Go
theorem TrL.nil {P : Program} {ro : Option Nat} {k : Nat} {l : List Code} {s : St} (h : l = []) : TrL P ro k l s .normal s := by subst h; exact ⟨rfl, rfl⟩
end Go.Sy
namespace Go.Proofs.YtkcmlclomcidiaaDoor.Tr
open Go Go.Sy
def inJ (t : Nat → Nod) (x : Int) (n : Nat) (i : Int) (j : Nat) : Bool := !(((2 * j + 1 : Nat) : Int) != x && ((t (2 * j + 1)).used && (abvB x ((2 * j + 1 : Nat) : Int) n && (abvB ((2 * j + 1 : Nat) : Int) (2 * i) n && !inQ i (t (2 * j + 1)).un))))
def outJ (t : Nat → Nod) (x : Int) (n : Nat) (un : List Int) (k : Nat) : Bool := !decide (un.getD k 0 < 0) && (!decide (un.getD k 0 ≥ n) && (!(decide ((k : Int) > 0) && decide (un.getD k 0 ≤ un.getD (k - 1) 0)) && ((t (2 * un.getD k 0).toNat).used && abvB x (2 * un.getD k 0) n)))
def upQJ (N : Nat) (t : Nat → Nod) (x : Int) (n : Nat) (un : List Int) (k : Nat) : Bool := outJ t x n un k && (List.range (N / 2)).all (inJ t x n (un.getD k 0))
def upperQ (N : Nat) (t : Nat → Nod) (x : Int) (n : Nat) : Bool := !((t x.toNat).name != 0) && (decide ((t x.toNat).sign = List.replicate 32 0) && (List.range (t x.toNat).un.length).all (upQJ N t x n (t x.toNat).un))
section
variable {N : Nat} {t : Nat → Nod} {x : Int} {n k j : Nat}
theorem leaf_node (hn : n ∈ sizes) {i : Int} (h0 : 0 ≤ i) (h1 : i < n) : nodeB (2 * i) n = true := by
  rw [node_of hn, Bool.and_eq_true, decide_eq_true_eq, decide_eq_true_eq]
  omega
theorem rj_go (hT : TOK N t) (hn : n ∈ sizes) (hN : N = 2 * n - 1) (hx : nodeB x n = true) {i : Int} (h0 : 0 ≤ i) (h1 : i < n) (hj : j < N / 2) (hb : inJ t x n i j = true) :
    Tr Tryd.prog none 0 rpJ (rpY N t x n k i ((2 * j + 1 : Nat) : Int)) .normal (rpY N t x n k i ((2 * (j + 1) + 1 : Nat) : Int)) := by
  have hs := sizes_le hn
  have hlt : 2 * j + 1 < N := by omega
  have hw : IntKind.i64.wrap (((2 * j + 1 : Nat) : Int) + 2) = ((2 * (j + 1) + 1 : Nat) : Int) := by rw [wrapI (by omega) (by omega)]; omega
  have hw2 : IntKind.i64.wrap (2 * i) = 2 * i := wrapI (by omega) (by omega)
  have hy : nodeB ((2 * j + 1 : Nat) : Int) n = true := by
    rw [node_of hn, Bool.and_eq_true, decide_eq_true_eq, decide_eq_true_eq]; omega
  have hn0 : decide ((0 : Int) ≤ (n : Int)) = true := decide_eq_true (by omega)
  unfold inJ at hb
  cases c1 : (((2 * j + 1 : Nat) : Int) != x) with
  | false =>
    have e := rp_ja N t x n k i ((2 * j + 1 : Nat) : Int)
    rw [hw] at e
    exact Tr.cutX (rpC_ok [(77, true), (82, false)]) 60 _ 1 (Nat.zero_le _) (s' := rpY N t x n k i ((2 * (j + 1) + 1 : Nat) : Int)) _ e (rp_ja' N t x n k i _) (by rw [ltN hlt, c1]; rfl)
  | true =>
  rw [c1, Bool.true_and] at hb
  cases c2 : (t (2 * j + 1)).used with
  | false =>
    have e := rp_jb N t x n k i ((2 * j + 1 : Nat) : Int)
    rw [hw] at e
    exact Tr.cutX (rpC_ok [(77, true), (82, true), (88, false)]) 60 _ 1 (Nat.zero_le _) (s' := rpY N t x n k i ((2 * (j + 1) + 1 : Nat) : Int)) _ e (rp_jb' N t x n k i _) (by
      rw [Int.toNat_natCast, ltN hlt, c1, inBN hlt, decide_eq_true hlt, show (t (2 * j + 1)).1 = false from c2]; rfl)
  | true =>
  rw [c2, Bool.true_and] at hb
  cases c3 : abvB x ((2 * j + 1 : Nat) : Int) n with
  | false =>
    have e := rp_jc N t x n k i ((2 * j + 1 : Nat) : Int)
    rw [hw] at e
    exact Tr.cutX (rpC_ok [(77, true), (82, true), (88, true), (94, false)]) 60 _ 1 (Nat.zero_le _) (s' := rpY N t x n k i ((2 * (j + 1) + 1 : Nat) : Int)) _ e (rp_jc' N t x n k i _) (by
      rw [Int.toNat_natCast, Int.toNat_natCast, ltN hlt, c1, inBN hlt, decide_eq_true hlt, show (t (2 * j + 1)).1 = true from c2, hn0, hx, hy, c3]; rfl)
  | true =>
  rw [c3, Bool.true_and] at hb
  cases c4 : abvB ((2 * j + 1 : Nat) : Int) (2 * i) n with
  | false =>
    have e := rp_jd N t x n k i ((2 * j + 1 : Nat) : Int)
    rw [hw] at e
    exact Tr.cutX (rpC_ok [(77, true), (82, true), (88, true), (94, true), (101, false)]) 60 _ 1 (Nat.zero_le _) (s' := rpY N t x n k i ((2 * (j + 1) + 1 : Nat) : Int)) _ e (rp_jd' N t x n k i _) (by
      rw [Int.toNat_natCast, Int.toNat_natCast, hw2, ltN hlt, c1, inBN hlt, decide_eq_true hlt, show (t (2 * j + 1)).1 = true from c2, hn0, hx, hy, c3, leaf_node hn h0 h1, c4]; rfl)
  | true =>
    rw [c4, Bool.true_and] at hb
    have c5 : inQ i (t (2 * j + 1)).un = true := by simpa using hb
    have e := rp_je N t x n k i ((2 * j + 1 : Nat) : Int)
    rw [hw] at e
    exact Tr.cutX (rpC_ok [(77, true), (82, true), (88, true), (94, true), (101, true), (110, true)]) 60 _ 1 (Nat.zero_le _) (s' := rpY N t x n k i ((2 * (j + 1) + 1 : Nat) : Int)) _ e (rp_je' N t x n k i _) (by
      rw [Int.toNat_natCast, Int.toNat_natCast, hw2, ltN hlt, c1, inBN hlt, decide_eq_true hlt, show (t (2 * j + 1)).1 = true from c2, hn0, hx, hy, c3, leaf_node hn h0 h1, c4, decide_eq_true (hT.un _ hlt), c5]; rfl)
theorem rj_no (hT : TOK N t) (hn : n ∈ sizes) (hN : N = 2 * n - 1) (hx : nodeB x n = true) {i : Int} (h0 : 0 ≤ i) (h1 : i < n) (hj : j < N / 2) (hb : inJ t x n i j = false) :
    Tr Tryd.prog none 0 rpJ (rpY N t x n k i ((2 * j + 1 : Nat) : Int)) .ret (bS 113 6 false) := by
  have hs := sizes_le hn
  have hlt : 2 * j + 1 < N := by omega
  have hw2 : IntKind.i64.wrap (2 * i) = 2 * i := wrapI (by omega) (by omega)
  have hy : nodeB ((2 * j + 1 : Nat) : Int) n = true := by
    rw [node_of hn, Bool.and_eq_true, decide_eq_true_eq, decide_eq_true_eq]; omega
  have hn0 : decide ((0 : Int) ≤ (n : Int)) = true := decide_eq_true (by omega)
  unfold inJ at hb
  rw [Bool.not_eq_false'] at hb
  simp only [Bool.and_eq_true] at hb
  obtain ⟨c1, c2, c3, c4, c5⟩ := hb
  exact Tr.cutX (rpC_ok [(77, true), (82, true), (88, true), (94, true), (101, true), (110, false)]) 60 _ 0 (Nat.zero_le _) (s' := bS 113 6 false) _ (rp_jx N t x n k i _) (rp_jx' N t x n k i _) (by
    rw [Int.toNat_natCast, Int.toNat_natCast, hw2, ltN hlt, c1, inBN hlt, decide_eq_true hlt, show (t (2 * j + 1)).1 = true from c2, hn0, hx, hy, c3, leaf_node hn h0 h1, c4, decide_eq_true (hT.un _ hlt), c5]; rfl)
theorem rj_end (hs : N ≤ 71) {i : Int} : Tr Tryd.prog none 0 rpJ (rpY N t x n k i ((2 * (N / 2) + 1 : Nat) : Int)) (.exit 2) (rpS N t x n k) :=
  Tr.cutX (rpC_ok [(77, false)]) 60 _ 1 (Nat.zero_le _) _ (rp_jz N t x n k i _) (rp_jz' N t x n k i _) (by rw [nltN (by omega)]; rfl)
end
end Go.Proofs.YtkcmlclomcidiaaDoor.Tr
