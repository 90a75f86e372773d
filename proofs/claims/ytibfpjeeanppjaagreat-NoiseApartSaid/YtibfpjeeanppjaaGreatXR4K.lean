/- This file holds the texts R4J, R4K, a section each. No conditions beyond those in the theorems. -/
import Derived.Test.YtibfpjeeanppjaaGreatXR4I
set_option linter.all false
set_option maxRecDepth 100000
section
namespace Go.Proofs.YtibfpjeeanppjaaGreat.R4
open Go Go.Sy Sh
def e1 (n : Int) : Int := J (n.tdiv 256)
def z6 (n : Int) : List Int := [IntKind.u8.wrap (n.tmod 256), IntKind.u8.wrap ((e1 n).tmod 256), IntKind.u8.wrap ((e1 (e1 n)).tmod 256), IntKind.u8.wrap ((e1 (e1 (e1 n))).tmod 256), IntKind.u8.wrap ((e1 (e1 (e1 (e1 n)))).tmod 256), IntKind.u8.wrap ((e1 (e1 (e1 (e1 (e1 n))))).tmod 256), IntKind.u8.wrap ((e1 (e1 (e1 (e1 (e1 (e1 n)))))).tmod 256), IntKind.u8.wrap ((e1 (e1 (e1 (e1 (e1 (e1 (e1 n))))))).tmod 256)]
theorem Nj (n : Int) : ai Tryz.prog 118 [.int .i64 n] [] (.ro true .u8 (z6 n)) [] :=
  ai.frozen (N := 8) (ex := false) (wh := true) (ai.Js [1] (bn (cH fun i => if i = 14 then some true else none) 200 Tryz.func118 (args := [.int .i64 n]) (h := []) 2 (by simp) (v := .sl 1 0 0 1 8 8 false true) (h1 := [.b [.ints .u8 1 [IntKind.u8.wrap (n.tmod 256)]], .b [.ints .u8 8 (z6 n)]]) (p := true) (by kernel_rfl) rfl rfl rfl) (by kernel_rfl)) rfl
theorem wI {n : Int} (h0 : 0 ≤ n) (h1 : n < 9223372036854775808) : e1 n = n / 256 := by
  unfold e1
  rw [ei h0]
  exact wrap_i64 _ (by omega) (by omega)
theorem Nk {n : Int} (h0 : 0 ≤ n) (h1 : n < 9223372036854775808) : z6 n = Ae.eB (Ae.W n) := by
  have t : ∀ {m : Int}, 0 ≤ m → IntKind.u8.wrap (m.tmod 256) = m % 256 := fun h => by rw [Fe.wrap_u8, cU h]; omega
  have a1 := wI h0 h1
  have a2 := wI (n := e1 n) (by omega) (by omega)
  have a3 := wI (n := e1 (e1 n)) (by omega) (by omega)
  have a4 := wI (n := e1 (e1 (e1 n))) (by omega) (by omega)
  have a5 := wI (n := e1 (e1 (e1 (e1 n)))) (by omega) (by omega)
  have a6 := wI (n := e1 (e1 (e1 (e1 (e1 n))))) (by omega) (by omega)
  have a7 := wI (n := e1 (e1 (e1 (e1 (e1 (e1 n)))))) (by omega) (by omega)
  rw [uq, tE]
  unfold z6
  rw [t h0, t (m := e1 n) (by omega), t (m := e1 (e1 n)) (by omega), t (m := e1 (e1 (e1 n))) (by omega), t (m := e1 (e1 (e1 (e1 n)))) (by omega), t (m := e1 (e1 (e1 (e1 (e1 n))))) (by omega), t (m := e1 (e1 (e1 (e1 (e1 (e1 n)))))) (by omega), t (m := e1 (e1 (e1 (e1 (e1 (e1 (e1 n))))))) (by omega)]
  rw [a7, a6, a5, a4, a3, a2, a1]
  simp only [List.cons.injEq, and_true]
  omega
noncomputable def Nl : List SV → Option (SV × List Blk × Bool)
  | [.int .i64 n] => some (.ro true .u8 (Ae.eB (Ae.W n)), [], decide (0 ≤ n) && decide (n.toNat < 9223372036854775808))
  | _ => none
noncomputable def X5 : Entry Tryz.prog := .val 118 _ Tryz.func118 (by decide) rfl false 0 Nl fun vs v new e => by
  unfold Nl at e
  split at e
  · rename_i n
    simp only [Option.some.injEq, Prod.mk.injEq, Bool.and_eq_true, decide_eq_true_eq] at e
    obtain ⟨rfl, rfl, h1, h2⟩ := e
    have k := Nj n
    rwa [Nk h1 (by omega)] at k
  · cases e
noncomputable def Nm : List SV → Option (SV × List Blk × Bool)
  | [.agg [.ints .u8 32 key], .ro false .u8 text] => some (.agg [.ints .u8 16 (Ae.jx key text)], [], decide (key.length = 32) && dL key && dL text && decide (text.length < 100000000))
  | _ => none
noncomputable def X6 : Entry Tryz.prog := .val 119 _ Tryz.func119 (by decide) rfl true 0 Nm fun vs v new e => by
  unfold Nm at e
  split at e
  · simp only [Option.some.injEq, Prod.mk.injEq, Bool.and_eq_true, decide_eq_true_eq, aV] at e
    obtain ⟨rfl, rfl, ⟨⟨h1, h2⟩, h3⟩, h4⟩ := e
    rw [← Ni h1 h2 h3]
    exact Nd h1 h2 h3 h4
  · cases e
def f1 (n : Int) : Int := Ae.W (n.tdiv 256)
def z7 (u : Int) : List Int := [0, 0, 0, 0, IntKind.u8.wrap (u.tmod 256), IntKind.u8.wrap ((f1 u).tmod 256), IntKind.u8.wrap ((f1 (f1 u)).tmod 256), IntKind.u8.wrap ((f1 (f1 (f1 u))).tmod 256), IntKind.u8.wrap ((f1 (f1 (f1 (f1 u)))).tmod 256), IntKind.u8.wrap ((f1 (f1 (f1 (f1 (f1 u))))).tmod 256), IntKind.u8.wrap ((f1 (f1 (f1 (f1 (f1 (f1 u)))))).tmod 256), IntKind.u8.wrap ((f1 (f1 (f1 (f1 (f1 (f1 (f1 u))))))).tmod 256)]
theorem Ib (n : Int) : ai Tryz.prog 45 [.int .i64 n] [] (.ro true .u8 (z7 (Ae.W n))) [] :=
  ai.frozen (N := 12) (ex := false) (wh := true) (bn (cH fun i => if i = 18 then some true else none) 200 Tryz.func45 (args := [.int .i64 n]) (h := []) 1 (by simp) (v := .sl 0 0 0 1 12 12 false true) (h1 := [.b [.ints .u8 12 (z7 (Ae.W n))]]) (p := true) (by kernel_rfl) rfl rfl rfl) rfl
theorem wJ {n : Int} (h0 : 0 ≤ n) (h1 : n < 18446744073709551616) : f1 n = n / 256 := by
  unfold f1
  rw [ei h0, tE]
  omega
theorem Ic {n : Int} (h0 : 0 ≤ n) (h1 : n < 18446744073709551616) : z7 n = [0, 0, 0, 0] ++ Ae.eB n := by
  have t : ∀ {m : Int}, 0 ≤ m → IntKind.u8.wrap (m.tmod 256) = m % 256 := fun h => by rw [Fe.wrap_u8, cU h]; omega
  have a1 := wJ h0 h1
  have a2 := wJ (n := f1 n) (by omega) (by omega)
  have a3 := wJ (n := f1 (f1 n)) (by omega) (by omega)
  have a4 := wJ (n := f1 (f1 (f1 n))) (by omega) (by omega)
  have a5 := wJ (n := f1 (f1 (f1 (f1 n)))) (by omega) (by omega)
  have a6 := wJ (n := f1 (f1 (f1 (f1 (f1 n))))) (by omega) (by omega)
  have a7 := wJ (n := f1 (f1 (f1 (f1 (f1 (f1 n)))))) (by omega) (by omega)
  rw [uq]
  unfold z7
  rw [t h0, t (m := f1 n) (by omega), t (m := f1 (f1 n)) (by omega), t (m := f1 (f1 (f1 n))) (by omega), t (m := f1 (f1 (f1 (f1 n)))) (by omega), t (m := f1 (f1 (f1 (f1 (f1 n))))) (by omega), t (m := f1 (f1 (f1 (f1 (f1 (f1 n)))))) (by omega), t (m := f1 (f1 (f1 (f1 (f1 (f1 (f1 n))))))) (by omega)]
  rw [a7, a6, a5, a4, a3, a2, a1]
  simp only [List.cons_append, List.nil_append, List.cons.injEq, and_true, true_and]
  omega
noncomputable def Gz : List SV → Option (SV × List Blk × Bool)
  | [.int .i64 n] => some (.ro true .u8 (Ae.aD n), [], true)
  | _ => none
noncomputable def yq : Entry Tryz.prog := .val 45 _ Tryz.func45 (by decide) rfl false 0 Gz fun vs v new e => by
  unfold Gz at e
  split at e
  · rename_i n
    cases e
    have k := Ib n
    have h := Ae.Iq n
    rwa [Ic h.1 h.2] at k
  · cases e
end Go.Proofs.YtibfpjeeanppjaaGreat.R4
end
section
namespace Go.Proofs.YtibfpjeeanppjaaGreat.R4
open Go Go.Sy Sh
noncomputable def CE : Code := aE Tryz.f77
noncomputable def Ep (f : Nat → Option Bool) : br := mk (P := Tryz.prog) [R3.sn, X5, X6] [] f
theorem gJ (f : Nat → Option Bool) : ag Tryz.prog (Ep f) := ah _ aq.nil _ _
noncomputable def CF (key p ctx mixed : List Int) : St := ⟨slotsOf 61 [(2, .ro false .u8 ctx), (3, .ro false .u8 mixed), (8, .ptr 1 0 0), (9, .ptr 2 0 0), (11, .ptr 3 0 0), (12, .int .i64 0)], [.b [.ints .u8 32 key], .b [.ints .u8 16 (List.replicate 16 0)], .b [.ints .u8 64 p], .b [.ints .u8 32 (List.replicate 32 0)]], true⟩
noncomputable def sJ (key p k ctx mixed : List Int) (m : Nat) (l : List Int) : St := ⟨slotsOf 61 [(2, .ro false .u8 ctx), (3, .ro false .u8 mixed), (8, .ptr 1 0 0), (11, .ptr 3 0 0), (13, .sl 4 0 0 1 m m false true)], [.b [.ints .u8 32 key], .b [.ints .u8 16 (List.replicate 16 0)], .b [.ints .u8 64 p], .b [.ints .u8 32 k], .b [.ints .u8 m l]], true⟩
def X7 : Nat → Option Bool := fun i => if i = 31 || i = 35 || i = 38 || i = 41 || i = 45 || i = 48 || i = 53 || i = 59 then some true else none
def maZ : Nat → Option Bool := fun i => if i = 35 || i = 45 then some false else none
def Og (l : List Int) (m n : Nat) : Bool := aa (aa (aa true (decide (l.length = m) && (decide (m ≤ m) && true))) (decide (l.length = m))) (decide (m + n ≤ 274877906944))
theorem nL {l : List Int} {m n : Nat} (h : l.length = m) (h2 : m + n ≤ 274877906944) : Og l m n = true := by
  unfold Og
  rw [decide_eq_true h, decide_eq_true h2, decide_eq_true (Nat.le_refl _)]; rfl
def maE (k l : List Int) (m : Nat) (mixed : List Int) : Bool :=
  aa (aa (aa true (aa true (true && decide ((mixed.length : Int).toNat < 9223372036854775808)))) (Og l m (Ae.eB (Ae.W (mixed.length : Int))).length))
    (aa (aa true (aa (decide ((l ++ Ae.eB (Ae.W (mixed.length : Int))).length = m + (Ae.eB (Ae.W (mixed.length : Int))).length) && (decide (m + (Ae.eB (Ae.W (mixed.length : Int))).length ≤ m + (Ae.eB (Ae.W (mixed.length : Int))).length) && true)) (decide ((l ++ Ae.eB (Ae.W (mixed.length : Int))).length = m + (Ae.eB (Ae.W (mixed.length : Int))).length))))
      (decide (k.length = 32) && dL k && dL (l ++ Ae.eB (Ae.W (mixed.length : Int))) && decide ((l ++ Ae.eB (Ae.W (mixed.length : Int))).length < 100000000)))
section
variable (key af ctx mixed p k l : List Int) (m : Nat)
theorem yj : (aT Tryz.prog (Ep X7) 60 0 4 (atoms CE) ⟨aO Tryz.f77.ntmps [.agg [.ints .u8 32 key], .ro false .u8 af, .ro false .u8 ctx, .ro false .u8 mixed], [], true⟩).bind (St.cut [2, 3, 8, 9, 11, 12] 4) =
    some { CF key (Cc.fc key af 0) ctx mixed with ob := aa true (aa true (decide (key.length = 32) && bU key && decide (af.length = 12) && bU af && true && true)) } := by kernel_rfl
theorem ahV : (aT Tryz.prog (Ep X7) 200 0 2 ((atoms CE).drop 4) (CF key p ctx mixed)).bind (St.cut [2, 3, 8, 11, 13] 5) =
    some { sJ key p (aH 32 p) ctx mixed (0 + ctx.length) ([] ++ ctx) with ob := aa true (aa true (decide (0 + ctx.length ≤ 274877906944))) } := by kernel_rfl
theorem ahW : (exec Tryz.prog (Ep X7) 60 0 (inner (inner (az 6 CE))) (sJ key p k ctx mixed m l)).bind (fun r => (r.2.cut [2, 3, 8, 11, 13] 5).map fun q => (r.1, q)) =
    some (.normal, { sJ key p k ctx mixed (m + 1) (l ++ [0]) with ob := aa (aa true ((m : Int).tmod 16 != 0)) (Og l m 1) }) := by kernel_rfl
theorem ads : (exec Tryz.prog (Ep maZ) 60 0 (inner (inner (az 6 CE))) (sJ key p k ctx mixed m l)).bind (fun r => (r.2.cut [2, 3, 8, 11, 13] 5).map fun q => (r.1, q)) =
    some (.exit 2, { sJ key p k ctx mixed m l with ob := aa true (!((m : Int).tmod 16 != 0)) }) := by kernel_rfl
theorem ahX : (exec Tryz.prog (Ep X7) 60 0 (az 7 CE) (sJ key p k ctx mixed m l)).bind (fun r => (r.2.cut [2, 3, 8, 11, 13] 5).map fun q => (r.1, q)) =
    some (.normal, { sJ key p k ctx mixed (m + mixed.length) (l ++ mixed) with ob := aa true (Og l m mixed.length) }) := by kernel_rfl
theorem ahY : (exec Tryz.prog (Ep X7) 60 0 (inner (inner (az 8 CE))) (sJ key p k ctx mixed m l)).bind (fun r => (r.2.cut [2, 3, 8, 11, 13] 5).map fun q => (r.1, q)) =
    some (.normal, { sJ key p k ctx mixed (m + 1) (l ++ [0]) with ob := aa (aa true ((m : Int).tmod 16 != 0)) (Og l m 1) }) := by kernel_rfl
theorem adt : (exec Tryz.prog (Ep maZ) 60 0 (inner (inner (az 8 CE))) (sJ key p k ctx mixed m l)).bind (fun r => (r.2.cut [2, 3, 8, 11, 13] 5).map fun q => (r.1, q)) =
    some (.exit 4, { sJ key p k ctx mixed m l with ob := aa true (!((m : Int).tmod 16 != 0)) }) := by kernel_rfl
theorem ahZ : (exec Tryz.prog (Ep X7) 60 0 (az 9 CE) (sJ key p k ctx mixed m l)).bind (fun r => (r.2.cut [2, 3, 8, 11, 13] 5).map fun q => (r.1, q)) =
    some (.normal, { sJ key p k ctx mixed (m + (Ae.eB (Ae.W (ctx.length : Int))).length) (l ++ Ae.eB (Ae.W (ctx.length : Int))) with ob := aa (aa true (aa true (true && decide ((ctx.length : Int).toNat < 9223372036854775808)))) (Og l m (Ae.eB (Ae.W (ctx.length : Int))).length) }) := by kernel_rfl
end
theorem z8 (m : Nat) : ((m : Int).tmod 16 != 0) = decide (m % 16 ≠ 0) := by
  rw [cU (by omega)]
  by_cases h : m % 16 = 0
  · rw [show (m : Int) % 16 = 0 by omega]; simp [h]
  · have : (m : Int) % 16 ≠ 0 := by omega
    simp [h, this]
theorem sy (m : Nat) : (m + Ae.jy (m : Int)) % 16 = 0 ∧ ∀ j, j < Ae.jy (m : Int) → (m + j) % 16 ≠ 0 := by
  unfold Ae.jy
  refine ⟨by omega, fun j hj => by omega⟩
theorem wK (l : List Int) (j : Nat) : l ++ List.replicate (j + 1) 0 = (l ++ List.replicate j 0) ++ [0] := by rw [List.append_assoc, List.replicate_succ']
theorem Nn {key p k ctx mixed l : List Int} (hl : l.length < 274877000000) : Tr Tryz.prog none 0 (az 6 CE) (sJ key p k ctx mixed l.length l) .normal (sJ key p k ctx mixed (l.length + Ae.jy (l.length : Int)) (l ++ List.replicate (Ae.jy (l.length : Int)) 0)) := by
  obtain ⟨f1, f2⟩ := sy l.length
  have hk : Ae.jy (l.length : Int) < 16 := (Ae.oV (n := (l.length : Int)) (by omega)).2
  have jR := Tr.loop (P := Tryz.prog) (ro := none) (k := 0) 2 (c := az 6 CE) (by kernel_rfl) (fun j : Nat => sJ key p k ctx mixed (l.length + j) (l ++ List.replicate j 0)) (Ae.jy (l.length : Int)) (s' := sJ key p k ctx mixed (l.length + Ae.jy (l.length : Int)) (l ++ List.replicate (Ae.jy (l.length : Int)) 0)) (fun j hj => ?_) ?_
  · rw [List.replicate_zero, List.append_nil] at jR
    exact jR
  · have e := ahW key ctx mixed p k (l ++ List.replicate j 0) (l.length + j)
    rw [z8, decide_eq_true (f2 j hj), nL (by simp) (by omega), ← wK] at e
    exact Tr.post (Tr.cut (gJ _) 60 _ 5 (by omega) e rfl) (bh.same rfl rfl)
  · have e := ads key ctx mixed p k (l ++ List.replicate (Ae.jy (l.length : Int)) 0) (l.length + Ae.jy (l.length : Int))
    rw [z8, decide_eq_false (by rw [f1]; exact fun h => h rfl)] at e
    exact Tr.cut (gJ _) 60 _ 5 (by omega) e rfl
theorem Np {key p k ctx mixed l : List Int} (hl : l.length < 274877000000) : Tr Tryz.prog none 0 (az 8 CE) (sJ key p k ctx mixed l.length l) .normal (sJ key p k ctx mixed (l.length + Ae.jy (l.length : Int)) (l ++ List.replicate (Ae.jy (l.length : Int)) 0)) := by
  obtain ⟨f1, f2⟩ := sy l.length
  have hk : Ae.jy (l.length : Int) < 16 := (Ae.oV (n := (l.length : Int)) (by omega)).2
  have jR := Tr.loop (P := Tryz.prog) (ro := none) (k := 0) 4 (c := az 8 CE) (by kernel_rfl) (fun j : Nat => sJ key p k ctx mixed (l.length + j) (l ++ List.replicate j 0)) (Ae.jy (l.length : Int)) (s' := sJ key p k ctx mixed (l.length + Ae.jy (l.length : Int)) (l ++ List.replicate (Ae.jy (l.length : Int)) 0)) (fun j hj => ?_) ?_
  · rw [List.replicate_zero, List.append_nil] at jR
    exact jR
  · have e := ahY key ctx mixed p k (l ++ List.replicate j 0) (l.length + j)
    rw [z8, decide_eq_true (f2 j hj), nL (by simp) (by omega), ← wK] at e
    exact Tr.post (Tr.cut (gJ _) 60 _ 5 (by omega) e rfl) (bh.same rfl rfl)
  · have e := adt key ctx mixed p k (l ++ List.replicate (Ae.jy (l.length : Int)) 0) (l.length + Ae.jy (l.length : Int))
    rw [z8, decide_eq_false (by rw [f1]; exact fun h => h rfl)] at e
    exact Tr.cut (gJ _) 60 _ 5 (by omega) e rfl
theorem q9 (n : Int) : (Ae.eB n).length = 8 := by simp [Ae.eB]
theorem z9 (n : Int) : Dg (Ae.eB n) := fun z hz => by
  unfold Ae.eB at hz
  obtain ⟨i, _, rfl⟩ := List.mem_map.1 hz
  rw [Fe.wrap_u8]
  omega
theorem RR (a b : Nat) (h : a % 16 = 0) : Ae.jy ((a + b : Nat) : Int) = Ae.jy (b : Int) := by unfold Ae.jy; omega
theorem adu (key af : List Int) (n : Int) : Dg (Cc.fc key af n) := fun z hz => by
  simp only [Cc.fc, aC, Cc.U2, List.mem_map] at hz
  obtain ⟨j, _, rfl⟩ := hz
  show 0 ≤ IntKind.u8.wrap _ ∧ IntKind.u8.wrap _ < 256
  rw [Fe.wrap_u8]
  exact ⟨Int.emod_nonneg _ (by decide), Int.emod_lt_of_pos _ (by decide)⟩
theorem adv {l : List Int} (h : 32 ≤ l.length) : aH 32 l = l.take 32 := by
  have := gW (n := 32) (m := 32) (Nat.le_refl _) l
  rw [aF (show (l.take 32).length = 32 by rw [List.length_take]; omega), List.take_of_length_le (Nat.le_of_eq (aI 32 l))] at this
  exact this.symm
theorem X8 {key p k ctx mixed l : List Int} {m : Nat} {args : List SV} (ho : maE k l m mixed = true)
    (ht : ∀ s' x, aY Tryz.prog none 0 ((atoms (aE Tryz.f77)).drop 10) (sJ key p k ctx mixed m l) x s' → aY Tryz.prog none 0 (atoms (aE Tryz.f77)) ⟨aO Tryz.f77.ntmps args, [], true⟩ x s') :
    ai Tryz.prog 77 args [] (.agg [.ints .u8 16 (Ae.jx k (l ++ Ae.eB (Ae.W (mixed.length : Int))))]) [] :=
  ai.cz (gJ X7) 60 10 0 Tryz.func77 (by simp) rfl ht (p := maE k l m mixed) (by kernel_rfl) ho rfl rfl
theorem Nr {key af ctx mixed : List Int} (hk : key.length = 32) (dk : Dg key) (hn : af.length = 12) (dn : Dg af) (dc : Dg ctx) (dm : Dg mixed) (hl : ctx.length + mixed.length < 50000000) :
    ai Tryz.prog 77 [.agg [.ints .u8 32 key], .ro false .u8 af, .ro false .u8 ctx, .ro false .u8 mixed] [] (.agg [.ints .u8 16 (Ae.tn key af ctx mixed)]) [] := by
  have hp := Cc.Eu key af 0
  have ah0 : ((Cc.fc key af 0).take 32).length = 32 := by rw [List.length_take, hp]; rfl
  have hfc := (Ae.oV (n := (ctx.length : Int)) (by omega)).2
  have hfm := (Ae.oV (n := (mixed.length : Int)) (by omega)).2
  have c1 : (ctx ++ List.replicate (Ae.jy (ctx.length : Int)) 0).length = ctx.length + Ae.jy (ctx.length : Int) := by simp
  have Dj : (ctx.length + Ae.jy (ctx.length : Int)) % 16 = 0 := (sy ctx.length).1
  let l1 := ctx ++ List.replicate (Ae.jy (ctx.length : Int)) 0
  let l2 := l1 ++ mixed
  let l3 := l2 ++ List.replicate (Ae.jy (mixed.length : Int)) 0
  let l4 := l3 ++ Ae.eB (Ae.W (ctx.length : Int))
  have e1 : l1.length = ctx.length + Ae.jy (ctx.length : Int) := c1
  have e2 : l2.length = l1.length + mixed.length := List.length_append
  have e3 : l3.length = l2.length + Ae.jy (mixed.length : Int) := by show (l2 ++ _).length = _; simp
  have e4 : l4.length = l3.length + 8 := by show (l3 ++ _).length = _; rw [List.length_append, q9]
  have hT : Ae.tn key af ctx mixed = Ae.jx ((Cc.fc key af 0).take 32) (l4 ++ Ae.eB (Ae.W (mixed.length : Int))) := by
    unfold Ae.tn Ae.CI
    show _ = Ae.jx _ (((((ctx ++ List.replicate (Ae.jy (ctx.length : Int)) 0) ++ mixed) ++ List.replicate (Ae.jy (mixed.length : Int)) 0) ++ Ae.eB (Ae.W (ctx.length : Int))) ++ Ae.eB (Ae.W (mixed.length : Int)))
    simp only [List.flatten_cons, List.flatten_nil, List.append_nil, List.append_assoc]
  have d4 : Dg l4 := (((dc.app (qX _)).app dm).app (qX _)).app (z9 _)
  rw [hT]
  have ho : maE ((Cc.fc key af 0).take 32) l4 l4.length mixed = true := by
    unfold maE
    rw [nL rfl (by rw [q9]; omega), ah0, aV.2 ((adu key af 0).take 32), aV.2 (d4.app (z9 _)), List.length_append, q9]
    simp [au]
    omega
  refine X8 (key := key) (p := Cc.fc key af 0) (ctx := ctx) ho fun s' x h => ?_
  have hh := yj key af ctx mixed
  have uk : bU key = true := aV.2 dk
  have un : bU af = true := aV.2 dn
  rw [hk, uk, hn, un] at hh
  refine aY.items (gJ _) 60 4 _ 4 (by simp) hh rfl (by decide) ?_
  have hk2 := ahV key ctx mixed (Cc.fc key af 0)
  rw [adv (by omega), Nat.zero_add, List.nil_append, decide_eq_true (show ctx.length ≤ 274877906944 by omega)] at hk2
  refine aY.items (gJ _) 200 2 _ 5 (by omega) hk2 rfl (by decide) ?_
  rw [List.drop_drop]
  refine aY.item 6 (by decide) (Nn (by omega)) ?_
  have k2 := ahX key ctx mixed (Cc.fc key af 0) ((Cc.fc key af 0).take 32) l1 l1.length
  rw [nL rfl (by omega)] at k2
  rw [← e1]
  refine aY.item 7 (by decide) (Tr.cut (gJ _) 60 _ 5 (by omega) k2 rfl) ?_
  have k3 := Np (key := key) (p := Cc.fc key af 0) (k := (Cc.fc key af 0).take 32) (ctx := ctx) (mixed := mixed) (l := l2) (by omega)
  have hf : Ae.jy (l2.length : Int) = Ae.jy (mixed.length : Int) := by
    rw [e2, e1]
    exact RR _ _ Dj
  rw [hf, ← e3, e2] at k3
  refine aY.item 8 (by decide) k3 ?_
  have k4 := ahZ key ctx mixed (Cc.fc key af 0) ((Cc.fc key af 0).take 32) l3 l3.length
  rw [nL rfl (by rw [q9]; omega), q9, Int.toNat_natCast, decide_eq_true (show ctx.length < 9223372036854775808 by omega)] at k4
  refine aY.item 9 (by decide) (Tr.cut (gJ _) 60 _ 5 (by omega) k4 rfl) ?_
  rw [e4] at h
  exact h
noncomputable def uJ : List SV → Option (SV × List Blk × Bool)
  | [.agg [.ints .u8 32 key], .ro false .u8 af, .ro false .u8 ctx, .ro false .u8 mixed] => some (.agg [.ints .u8 16 (Ae.tn key af ctx mixed)], [], decide (key.length = 32) && dL key && decide (af.length = 12) && dL af && dL ctx && dL mixed && decide (ctx.length + mixed.length < 50000000))
  | _ => none
noncomputable def ym : Entry Tryz.prog := .val 77 _ Tryz.func77 (by decide) rfl true 0 uJ fun vs v new e => by
  unfold uJ at e
  split at e
  · simp only [Option.some.injEq, Prod.mk.injEq, Bool.and_eq_true, decide_eq_true_eq, aV] at e
    obtain ⟨rfl, rfl, ⟨⟨⟨⟨⟨h1, h2⟩, h3⟩, h4⟩, h5⟩, h6⟩, h7⟩ := e
    exact Nr h1 h2 h3 h4 h5 h6 h7
  · cases e
end Go.Proofs.YtibfpjeeanppjaaGreat.R4
end
