/- This file holds the texts NqE, NqF, a section each. No conditions beyond those in the theorems. -/
import Derived.Test.YtibfpjeeanppjaaGreatXNqD
import Derived.Test.YtibfpjeeanppjaaGreatXBxD
set_option linter.all false
set_option maxRecDepth 100000
section
namespace Go.Proofs.YtibfpjeeanppjaaGreat.Nq
open Go Go.Sy Sh La
open No (K4 eD mc cu meets zJ)
noncomputable def rdC (u : Bool) : br := mk (P := Tryz.prog) [x5, acV, kS, ML u] [] fun i => if i = 24 || i = 28 then some false else none
theorem zN (u : Bool) : ag Tryz.prog (rdC u) := ah _ aq.nil _ _
def rdH (x : List Int) : Bool := aa (aa true (!decide ((x.length : Int) < 48))) (!decide ((x.length : Int) > 1072))
noncomputable def Eo (q : K4) (ch ha x D : List Int) (o : Bool) : Bool :=
  aa (aa (aa (aa (aa (aa (Bx.roD x (rdH x)) (aa true (true && decide ((32 : Int) ≤ (x.length : Int))))) (aa true (decide (ha.length = 32) && bU ha && bU (x.take 32) && decide ((x.take 32).length < 270000000000))))
    (aa true (Re.ak q.1 && Re.ak q.2.1 && !oY q.1 q.2.1 && decide (ch.length = 32)))) (aa true (Re.ak q.2.2.1 && Re.ak q.2.2.2 && !oY q.2.2.1 q.2.2.2 && decide ((Cp.qc (Kd.bP ch (gr q.1 q.2.1))).length = 32))))
    (aa true (aa true (true && decide ((32 : Int) ≤ (x.length : Int))))))
    (aa true (true && decide ((S2.aj (ha ++ x.take 32)).length = 32) && decide ((eD q ch).length = 32) && bU (eD q ch) && bU (S2.aj (ha ++ x.take 32)) && bU (x.drop 32) && decide ((x.drop 32).length ≤ 1048592) && o))
theorem acX (s : List Int) : bU (Cp.xA s) = true ∧ bU (Cp.qc s) = true := by
  have h : ∀ x ∈ Kd.bf s [] 64, 0 ≤ x ∧ x < 256 := by
    rw [Q2.B1]
    intro x hx
    rcases List.mem_append.1 hx with h | h
    · exact Kd.yF _ _ x h
    · exact Kd.yF _ _ x h
  exact ⟨Bx.ld fun x hx => h x (List.mem_of_mem_drop hx), Bx.ld fun x hx => h x (List.mem_of_mem_take hx)⟩
theorem Xx (q : K4) (ch : List Int) : bU (eD q ch) = true := (acX _).1
theorem Rk (q : K4) (ch : List Int) : (eD q ch).length = 32 := No.Q3 _ _ _
theorem jg {q : K4} {ch ha x : List Int} {o : Bool} (h1 : ha.length = 32) (ub : bU ha = true) (h3 : ch.length = 32) (h0 : 48 ≤ x.length) (hx : x.length ≤ 1072) (ux : bU x = true) (hm : cu q = true) (ho : o = true) : Eo q ch ha x (x.take 32) o = true := by
  unfold cu No.iL at hm
  simp only [Bool.and_eq_true, Bool.not_eq_true'] at hm
  obtain ⟨⟨⟨⟨⟨a, b⟩, c⟩, d⟩, e⟩, f⟩ := hm
  have hH : rdH x = true := by
    unfold rdH
    rw [decide_eq_false (show ¬ (x.length : Int) < 48 by omega), decide_eq_false (show ¬ (x.length : Int) > 1072 by omega)]; rfl
  have hD : Bx.roD x true = true := Bx.Ax (by omega) Bx.roI (by decide)
  have ut : bU (x.take 32) = true := Bx.ld fun z hz => by
    have := List.all_eq_true.1 ux z (List.mem_of_mem_take hz)
    simpa using this
  have ud : bU (x.drop 32) = true := Bx.ld fun z hz => by
    have := List.all_eq_true.1 ux z (List.mem_of_mem_drop hz)
    simpa using this
  have hl : (x.take 32).length = 32 := by rw [List.length_take]; omega
  unfold Eo
  rw [hH, hD, h1, ub, ut, hl, h3, a, b, c, d, e, f, (Cp.uU _).1, S2.bz, qW, Xx, Rk, ud, ho, decide_eq_true (show (32 : Int) ≤ (x.length : Int) by omega), decide_eq_true (show (x.drop 32).length ≤ 1048592 by rw [List.length_drop]; omega)]
  rfl
section
variable (ch ha key os op pe mi th x : List Int) (n : Int) (has : Bool)
theorem Xy : (bp Tryz.prog (rdC true) 60 Tryz.f26 [hv ch ha has key n false 0 os op pe mi (aH 32 th), .ro false .u8 x] []).map (fun x => (x.1, x.2.2)) =
    some (.aQ [.ro true .u8 (Ae.b9 (eD (meets false 0 os pe mi (aH 32 x)) ch) (Ae.aD 0) (x.drop 32)), hv (mc (meets false 0 os pe mi (aH 32 x)) ch) (zJ ha (x.take 32) (x.drop 32)) true (eD (meets false 0 os pe mi (aH 32 x)) ch) 1 false 1 os op pe mi (aH 32 x), .int .i64 0],
      Eo (meets false 0 os pe mi (aH 32 x)) ch ha x (aH 32 x) (Ae.bk (eD (meets false 0 os pe mi (aH 32 x)) ch) (Ae.aD 0) (S2.aj (ha ++ x.take 32)) (x.drop 32))) := by kernel_rfl
theorem Xz : (bp Tryz.prog (rdC true) 60 Tryz.f26 [hv ch ha has key n true 1 os op pe mi (aH 32 th), .ro false .u8 x] []).map (fun x => (x.1, x.2.2)) =
    some (.aQ [.ro true .u8 (Ae.b9 (eD (meets false 1 os pe mi (aH 32 x)) ch) (Ae.aD 0) (x.drop 32)), hv (mc (meets false 1 os pe mi (aH 32 x)) ch) (zJ ha (x.take 32) (x.drop 32)) true (eD (meets false 1 os pe mi (aH 32 x)) ch) 1 true 2 os op pe mi (aH 32 x), .int .i64 0],
      Eo (meets false 1 os pe mi (aH 32 x)) ch ha x (aH 32 x) (Ae.bk (eD (meets false 1 os pe mi (aH 32 x)) ch) (Ae.aD 0) (S2.aj (ha ++ x.take 32)) (x.drop 32))) := by kernel_rfl
theorem XA : (bp Tryz.prog (rdC false) 60 Tryz.f26 [hv ch ha has key n false 0 os op pe mi (aH 32 th), .ro false .u8 x] []).map (fun x => (x.1, x.2.2)) =
    some (.aQ [.nl (.slice none 0 0), hv ch ha has key n false 0 os op pe mi (aH 32 th), .int .i64 2],
      Eo (meets false 0 os pe mi (aH 32 x)) ch ha x (aH 32 x) (!Ae.bk (eD (meets false 0 os pe mi (aH 32 x)) ch) (Ae.aD 0) (S2.aj (ha ++ x.take 32)) (x.drop 32))) := by kernel_rfl
theorem XB : (bp Tryz.prog (rdC false) 60 Tryz.f26 [hv ch ha has key n true 1 os op pe mi (aH 32 th), .ro false .u8 x] []).map (fun x => (x.1, x.2.2)) =
    some (.aQ [.nl (.slice none 0 0), hv ch ha has key n true 1 os op pe mi (aH 32 th), .int .i64 2],
      Eo (meets false 1 os pe mi (aH 32 x)) ch ha x (aH 32 x) (!Ae.bk (eD (meets false 1 os pe mi (aH 32 x)) ch) (Ae.aD 0) (S2.aj (ha ++ x.take 32)) (x.drop 32))) := by kernel_rfl
end
section
variable {ch ha key os op pe mi th x : List Int} {n aU : Int} {has bg : Bool} (hs : aU = 0 ∧ bg = false ∨ aU = 1 ∧ bg = true) (h1 : ha.length = 32) (ub : bU ha = true) (h3 : ch.length = 32) (h0 : 48 ≤ x.length) (hx : x.length ≤ 1072) (ux : bU x = true) (ht : th.length = 32) (hm : cu (meets false aU os pe mi (x.take 32)) = true)
include hs h1 ub h3 h0 hx ux ht hm
theorem Rl (ho : Ae.bk (eD (meets false aU os pe mi (x.take 32)) ch) (Ae.aD 0) (S2.aj (ha ++ x.take 32)) (x.drop 32) = true) :
    ai Tryz.prog 26 [hv ch ha has key n bg aU os op pe mi th, .ro false .u8 x] [] (.aQ [.ro true .u8 (Ae.b9 (eD (meets false aU os pe mi (x.take 32)) ch) (Ae.aD 0) (x.drop 32)), hv (mc (meets false aU os pe mi (x.take 32)) ch) (zJ ha (x.take 32) (x.drop 32)) true (eD (meets false aU os pe mi (x.take 32)) ch) 1 bg (aU + 1) os op pe mi (x.take 32), .int .i64 0]) [] := by
  have e : aH 32 x = x.take 32 := Bx.gW (by omega)
  have hO := jg h1 ub h3 h0 hx ux hm ho
  rcases hs with ⟨rfl, rfl⟩ | ⟨rfl, rfl⟩
  · have k := Xy ch ha key os op pe mi th x n has
    rw [e, aF ht] at k
    exact aG (zN true) 60 Tryz.func26 k hO rfl
  · have k := Xz ch ha key os op pe mi th x n has
    rw [e, aF ht] at k
    exact aG (zN true) 60 Tryz.func26 k hO rfl
theorem Rm (ho : Ae.bk (eD (meets false aU os pe mi (x.take 32)) ch) (Ae.aD 0) (S2.aj (ha ++ x.take 32)) (x.drop 32) = false) :
    ai Tryz.prog 26 [hv ch ha has key n bg aU os op pe mi th, .ro false .u8 x] [] (.aQ [.nl (.slice none 0 0), hv ch ha has key n bg aU os op pe mi th, .int .i64 2]) [] := by
  have e : aH 32 x = x.take 32 := Bx.gW (by omega)
  have hO := jg (o := !Ae.bk (eD (meets false aU os pe mi (x.take 32)) ch) (Ae.aD 0) (S2.aj (ha ++ x.take 32)) (x.drop 32)) h1 ub h3 h0 hx ux hm (by rw [ho]; rfl)
  rcases hs with ⟨rfl, rfl⟩ | ⟨rfl, rfl⟩
  · have k := XA ch ha key os op pe mi th x n has
    rw [e, aF ht] at k
    exact aG (zN false) 60 Tryz.func26 k hO rfl
  · have k := XB ch ha key os op pe mi th x n has
    rw [e, aF ht] at k
    exact aG (zN false) 60 Tryz.func26 k hO rfl
end
end Go.Proofs.YtibfpjeeanppjaaGreat.Nq
end
section
namespace Go.Proofs.YtibfpjeeanppjaaGreat.Nq
open Go Go.Sy Sh La
open No (K4 eD mc cu meets zJ)
noncomputable def BX (u : Bool) : List SV → Option (SV × List Blk × Bool)
  | [.agg [.ints .u8 32 ch, .ints .u8 32 ha, .bool has, .ints .u8 32 key, .int .i64 n, .bool bg, .int .i64 aU, .ints .u8 32 os, .ints .u8 32 op, .ints .u8 32 pe, .ints .u8 32 mi, .ints .u8 32 th], .ro false .u8 x] =>
    bif (aU == 0 && !bg) || (aU == 1 && bg) then
      match u with
      | true => some (.aQ [.ro true .u8 (Ae.b9 (eD (meets false aU os pe mi (x.take 32)) ch) (Ae.aD 0) (x.drop 32)), hv (mc (meets false aU os pe mi (x.take 32)) ch) (zJ ha (x.take 32) (x.drop 32)) true (eD (meets false aU os pe mi (x.take 32)) ch) 1 bg (aU + 1) os op pe mi (x.take 32), .int .i64 0], [],
        decide (ha.length = 32) && bU ha && decide (ch.length = 32) && decide (48 ≤ x.length) && decide (x.length ≤ 1072) && bU x && decide (th.length = 32) && cu (meets false aU os pe mi (x.take 32)) && Ae.bk (eD (meets false aU os pe mi (x.take 32)) ch) (Ae.aD 0) (S2.aj (ha ++ x.take 32)) (x.drop 32))
      | false => some (.aQ [.nl (.slice none 0 0), hv ch ha has key n bg aU os op pe mi th, .int .i64 2], [],
        decide (ha.length = 32) && bU ha && decide (ch.length = 32) && decide (48 ≤ x.length) && decide (x.length ≤ 1072) && bU x && decide (th.length = 32) && cu (meets false aU os pe mi (x.take 32)) && !Ae.bk (eD (meets false aU os pe mi (x.take 32)) ch) (Ae.aD 0) (S2.aj (ha ++ x.take 32)) (x.drop 32))
    else none
  | _ => none
noncomputable def F9 (u : Bool) : Entry Tryz.prog := .val 26 _ Tryz.func26 (by decide) rfl true 0 (BX u) fun vs v new e => by
  unfold BX at e
  split at e
  · rename_i ch ha has key n bg aU os op pe mi th x
    cases hs : ((aU == 0 && !bg) || (aU == 1 && bg)) with
    | true =>
      rw [hs] at e
      cases u with
      | true =>
        simp only [cond_true, Option.some.injEq, Prod.mk.injEq, Bool.and_eq_true, decide_eq_true_eq] at e
        obtain ⟨rfl, rfl, ⟨⟨⟨⟨⟨⟨⟨a, b⟩, c⟩, d⟩, f⟩, g⟩, i⟩, m⟩, o⟩ := e
        exact Rl (No.F8 hs) a b c d f g i m o
      | false =>
        simp only [cond_true, Option.some.injEq, Prod.mk.injEq, Bool.and_eq_true, decide_eq_true_eq, Bool.not_eq_true'] at e
        obtain ⟨rfl, rfl, ⟨⟨⟨⟨⟨⟨⟨a, b⟩, c⟩, d⟩, f⟩, g⟩, i⟩, m⟩, o⟩ := e
        exact Rm (No.F8 hs) a b c d f g i m o
    | false => rw [hs] at e; cases e
  · cases e
end Go.Proofs.YtibfpjeeanppjaaGreat.Nq
end
