/- This file holds the texts R4J, R4K, a section each. No conditions beyond those in the theorems. -/
import Derived.Test.YtibfpjeeanppjaaGreatVR4I
set_option linter.all false
set_option maxRecDepth 100000
section
namespace Go.Proofs.YtibfpjeeanppjaaGreat.R4
open Go Go.Sy Sh
def e1 (n : Int) : Int := J (n.tdiv 256)
def eightQ (n : Int) : List Int := [IntKind.u8.wrap (n.tmod 256), IntKind.u8.wrap ((e1 n).tmod 256), IntKind.u8.wrap ((e1 (e1 n)).tmod 256), IntKind.u8.wrap ((e1 (e1 (e1 n))).tmod 256), IntKind.u8.wrap ((e1 (e1 (e1 (e1 n)))).tmod 256), IntKind.u8.wrap ((e1 (e1 (e1 (e1 (e1 n))))).tmod 256), IntKind.u8.wrap ((e1 (e1 (e1 (e1 (e1 (e1 n)))))).tmod 256), IntKind.u8.wrap ((e1 (e1 (e1 (e1 (e1 (e1 (e1 n))))))).tmod 256)]
theorem eight_fn (n : Int) : FnTr Tryz.prog 118 [.int .i64 n] [] (.ro true .u8 (eightQ n)) [] :=
  FnTr.frozen (N := 8) (ex := false) (wh := true) (FnTr.sel [1] (callM (plC_ok fun i => if i = 14 then some true else none) 200 Tryz.func118 (args := [.int .i64 n]) (h := []) 2 (by simp) (v := .sl 1 0 0 1 8 8 false true) (h1 := [.b [.ints .u8 1 [IntKind.u8.wrap (n.tmod 256)]], .b [.ints .u8 8 (eightQ n)]]) (p := true) (by kernel_rfl) rfl rfl rfl) (by kernel_rfl)) rfl
theorem e1_eq {n : Int} (h0 : 0 ≤ n) (h1 : n < 9223372036854775808) : e1 n = n / 256 := by
  unfold e1
  rw [tdiv_pos h0]
  exact wrap_i64 _ (by omega) (by omega)
theorem eight_eq {n : Int} (h0 : 0 ≤ n) (h1 : n < 9223372036854775808) : eightQ n = Ae.putW (Ae.W n) := by
  have t : ∀ {m : Int}, 0 ≤ m → IntKind.u8.wrap (m.tmod 256) = m % 256 := fun h => by rw [Fe.wrap_u8, tmod_pos h]; omega
  have a1 := e1_eq h0 h1
  have a2 := e1_eq (n := e1 n) (by omega) (by omega)
  have a3 := e1_eq (n := e1 (e1 n)) (by omega) (by omega)
  have a4 := e1_eq (n := e1 (e1 (e1 n))) (by omega) (by omega)
  have a5 := e1_eq (n := e1 (e1 (e1 (e1 n)))) (by omega) (by omega)
  have a6 := e1_eq (n := e1 (e1 (e1 (e1 (e1 n))))) (by omega) (by omega)
  have a7 := e1_eq (n := e1 (e1 (e1 (e1 (e1 (e1 n)))))) (by omega) (by omega)
  rw [put_val, W_eq]
  unfold eightQ
  rw [t h0, t (m := e1 n) (by omega), t (m := e1 (e1 n)) (by omega), t (m := e1 (e1 (e1 n))) (by omega), t (m := e1 (e1 (e1 (e1 n)))) (by omega), t (m := e1 (e1 (e1 (e1 (e1 n))))) (by omega), t (m := e1 (e1 (e1 (e1 (e1 (e1 n)))))) (by omega), t (m := e1 (e1 (e1 (e1 (e1 (e1 (e1 n))))))) (by omega)]
  rw [a7, a6, a5, a4, a3, a2, a1]
  simp only [List.cons.injEq, and_true]
  omega
noncomputable def eightF : List SV → Option (SV × List Blk × Bool)
  | [.int .i64 n] => some (.ro true .u8 (Ae.putW (Ae.W n)), [], decide (0 ≤ n) && decide (n.toNat < 9223372036854775808))
  | _ => none
noncomputable def eightE : Entry Tryz.prog := .val 118 _ Tryz.func118 (by decide) rfl false 0 eightF fun vs v new e => by
  unfold eightF at e
  split at e
  · rename_i n
    simp only [Option.some.injEq, Prod.mk.injEq, Bool.and_eq_true, decide_eq_true_eq] at e
    obtain ⟨rfl, rfl, h1, h2⟩ := e
    have k := eight_fn n
    rwa [eight_eq h1 (by omega)] at k
  · cases e
noncomputable def markRF : List SV → Option (SV × List Blk × Bool)
  | [.agg [.ints .u8 32 key], .ro false .u8 text] => some (.agg [.ints .u8 16 (Ae.markW key text)], [], decide (key.length = 32) && dgB key && dgB text && decide (text.length < 100000000))
  | _ => none
noncomputable def markRE : Entry Tryz.prog := .val 119 _ Tryz.func119 (by decide) rfl true 0 markRF fun vs v new e => by
  unfold markRF at e
  split at e
  · simp only [Option.some.injEq, Prod.mk.injEq, Bool.and_eq_true, decide_eq_true_eq, dgB_iff] at e
    obtain ⟨rfl, rfl, ⟨⟨h1, h2⟩, h3⟩, h4⟩ := e
    rw [← markQ_eq h1 h2 h3]
    exact markQ_fn h1 h2 h3 h4
  · cases e
def f1 (n : Int) : Int := Ae.W (n.tdiv 256)
def nonceQ (u : Int) : List Int := [0, 0, 0, 0, IntKind.u8.wrap (u.tmod 256), IntKind.u8.wrap ((f1 u).tmod 256), IntKind.u8.wrap ((f1 (f1 u)).tmod 256), IntKind.u8.wrap ((f1 (f1 (f1 u))).tmod 256), IntKind.u8.wrap ((f1 (f1 (f1 (f1 u)))).tmod 256), IntKind.u8.wrap ((f1 (f1 (f1 (f1 (f1 u))))).tmod 256), IntKind.u8.wrap ((f1 (f1 (f1 (f1 (f1 (f1 u)))))).tmod 256), IntKind.u8.wrap ((f1 (f1 (f1 (f1 (f1 (f1 (f1 u))))))).tmod 256)]
theorem nonceQ_fn (n : Int) : FnTr Tryz.prog 45 [.int .i64 n] [] (.ro true .u8 (nonceQ (Ae.W n))) [] :=
  FnTr.frozen (N := 12) (ex := false) (wh := true) (callM (plC_ok fun i => if i = 18 then some true else none) 200 Tryz.func45 (args := [.int .i64 n]) (h := []) 1 (by simp) (v := .sl 0 0 0 1 12 12 false true) (h1 := [.b [.ints .u8 12 (nonceQ (Ae.W n))]]) (p := true) (by kernel_rfl) rfl rfl rfl) rfl
theorem f1_eq {n : Int} (h0 : 0 ≤ n) (h1 : n < 18446744073709551616) : f1 n = n / 256 := by
  unfold f1
  rw [tdiv_pos h0, W_eq]
  omega
theorem nonceQ_eq {n : Int} (h0 : 0 ≤ n) (h1 : n < 18446744073709551616) : nonceQ n = [0, 0, 0, 0] ++ Ae.putW n := by
  have t : ∀ {m : Int}, 0 ≤ m → IntKind.u8.wrap (m.tmod 256) = m % 256 := fun h => by rw [Fe.wrap_u8, tmod_pos h]; omega
  have a1 := f1_eq h0 h1
  have a2 := f1_eq (n := f1 n) (by omega) (by omega)
  have a3 := f1_eq (n := f1 (f1 n)) (by omega) (by omega)
  have a4 := f1_eq (n := f1 (f1 (f1 n))) (by omega) (by omega)
  have a5 := f1_eq (n := f1 (f1 (f1 (f1 n)))) (by omega) (by omega)
  have a6 := f1_eq (n := f1 (f1 (f1 (f1 (f1 n))))) (by omega) (by omega)
  have a7 := f1_eq (n := f1 (f1 (f1 (f1 (f1 (f1 n)))))) (by omega) (by omega)
  rw [put_val]
  unfold nonceQ
  rw [t h0, t (m := f1 n) (by omega), t (m := f1 (f1 n)) (by omega), t (m := f1 (f1 (f1 n))) (by omega), t (m := f1 (f1 (f1 (f1 n)))) (by omega), t (m := f1 (f1 (f1 (f1 (f1 n))))) (by omega), t (m := f1 (f1 (f1 (f1 (f1 (f1 n)))))) (by omega), t (m := f1 (f1 (f1 (f1 (f1 (f1 (f1 n))))))) (by omega)]
  rw [a7, a6, a5, a4, a3, a2, a1]
  simp only [List.cons_append, List.nil_append, List.cons.injEq, and_true, true_and]
  omega
noncomputable def nonceQF : List SV → Option (SV × List Blk × Bool)
  | [.int .i64 n] => some (.ro true .u8 (Ae.nonceW n), [], true)
  | _ => none
noncomputable def nonceQE : Entry Tryz.prog := .val 45 _ Tryz.func45 (by decide) rfl false 0 nonceQF fun vs v new e => by
  unfold nonceQF at e
  split at e
  · rename_i n
    cases e
    have k := nonceQ_fn n
    have h := Ae.W_R n
    rwa [nonceQ_eq h.1 h.2] at k
  · cases e
end Go.Proofs.YtibfpjeeanppjaaGreat.R4
end
section
namespace Go.Proofs.YtibfpjeeanppjaaGreat.R4
open Go Go.Sy Sh
noncomputable def maB : Code := bodyOf Tryz.f77
noncomputable def maC (f : Nat → Option Bool) : Ctr := mk (P := Tryz.prog) [R3.pieceE, eightE, markRE] [] f
theorem maC_ok (f : Nat → Option Bool) : CtrSound Tryz.prog (maC f) := mk_sound _ InlOK.nil _ _
noncomputable def maS (key p ctx mixed : List Int) : St := ⟨slotsOf 61 [(2, .ro false .u8 ctx), (3, .ro false .u8 mixed), (8, .ptr 1 0 0), (9, .ptr 2 0 0), (11, .ptr 3 0 0), (12, .int .i64 0)], [.b [.ints .u8 32 key], .b [.ints .u8 16 (List.replicate 16 0)], .b [.ints .u8 64 p], .b [.ints .u8 32 (List.replicate 32 0)]], true⟩
noncomputable def maT (key p k ctx mixed : List Int) (m : Nat) (l : List Int) : St := ⟨slotsOf 61 [(2, .ro false .u8 ctx), (3, .ro false .u8 mixed), (8, .ptr 1 0 0), (11, .ptr 3 0 0), (13, .sl 4 0 0 1 m m false true)], [.b [.ints .u8 32 key], .b [.ints .u8 16 (List.replicate 16 0)], .b [.ints .u8 64 p], .b [.ints .u8 32 k], .b [.ints .u8 m l]], true⟩
def maA : Nat → Option Bool := fun i => if i = 31 || i = 35 || i = 38 || i = 41 || i = 45 || i = 48 || i = 53 || i = 59 then some true else none
def maZ : Nat → Option Bool := fun i => if i = 35 || i = 45 then some false else none
def apN (l : List Int) (m n : Nat) : Bool := andT (andT (andT true (decide (l.length = m) && (decide (m ≤ m) && true))) (decide (l.length = m))) (decide (m + n ≤ 274877906944))
theorem apN_true {l : List Int} {m n : Nat} (h : l.length = m) (h2 : m + n ≤ 274877906944) : apN l m n = true := by
  unfold apN
  rw [decide_eq_true h, decide_eq_true h2, decide_eq_true (Nat.le_refl _)]; rfl
def maE (k l : List Int) (m : Nat) (mixed : List Int) : Bool :=
  andT (andT (andT true (andT true (true && decide ((mixed.length : Int).toNat < 9223372036854775808)))) (apN l m (Ae.putW (Ae.W (mixed.length : Int))).length))
    (andT (andT true (andT (decide ((l ++ Ae.putW (Ae.W (mixed.length : Int))).length = m + (Ae.putW (Ae.W (mixed.length : Int))).length) && (decide (m + (Ae.putW (Ae.W (mixed.length : Int))).length ≤ m + (Ae.putW (Ae.W (mixed.length : Int))).length) && true)) (decide ((l ++ Ae.putW (Ae.W (mixed.length : Int))).length = m + (Ae.putW (Ae.W (mixed.length : Int))).length))))
      (decide (k.length = 32) && dgB k && dgB (l ++ Ae.putW (Ae.W (mixed.length : Int))) && decide ((l ++ Ae.putW (Ae.W (mixed.length : Int))).length < 100000000)))
section
variable (key nonce ctx mixed p k l : List Int) (m : Nat)
theorem ma_head : (execL Tryz.prog (maC maA) 60 0 4 (atoms maB) ⟨slots0 Tryz.f77.ntmps [.agg [.ints .u8 32 key], .ro false .u8 nonce, .ro false .u8 ctx, .ro false .u8 mixed], [], true⟩).bind (St.cut [2, 3, 8, 9, 11, 12] 4) =
    some { maS key (Cc.pcW key nonce 0) ctx mixed with ob := andT true (andT true (decide (key.length = 32) && u8R key && decide (nonce.length = 12) && u8R nonce && true && true)) } := by kernel_rfl
theorem ma_k : (execL Tryz.prog (maC maA) 200 0 2 ((atoms maB).drop 4) (maS key p ctx mixed)).bind (St.cut [2, 3, 8, 11, 13] 5) =
    some { maT key p (lst 32 p) ctx mixed (0 + ctx.length) ([] ++ ctx) with ob := andT true (andT true (decide (0 + ctx.length ≤ 274877906944))) } := by kernel_rfl
theorem ma_1 : (exec Tryz.prog (maC maA) 60 0 (inner (inner (nthC 6 maB))) (maT key p k ctx mixed m l)).bind (fun r => (r.2.cut [2, 3, 8, 11, 13] 5).map fun q => (r.1, q)) =
    some (.normal, { maT key p k ctx mixed (m + 1) (l ++ [0]) with ob := andT (andT true ((m : Int).tmod 16 != 0)) (apN l m 1) }) := by kernel_rfl
theorem ma_1z : (exec Tryz.prog (maC maZ) 60 0 (inner (inner (nthC 6 maB))) (maT key p k ctx mixed m l)).bind (fun r => (r.2.cut [2, 3, 8, 11, 13] 5).map fun q => (r.1, q)) =
    some (.exit 2, { maT key p k ctx mixed m l with ob := andT true (!((m : Int).tmod 16 != 0)) }) := by kernel_rfl
theorem ma_2 : (exec Tryz.prog (maC maA) 60 0 (nthC 7 maB) (maT key p k ctx mixed m l)).bind (fun r => (r.2.cut [2, 3, 8, 11, 13] 5).map fun q => (r.1, q)) =
    some (.normal, { maT key p k ctx mixed (m + mixed.length) (l ++ mixed) with ob := andT true (apN l m mixed.length) }) := by kernel_rfl
theorem ma_3 : (exec Tryz.prog (maC maA) 60 0 (inner (inner (nthC 8 maB))) (maT key p k ctx mixed m l)).bind (fun r => (r.2.cut [2, 3, 8, 11, 13] 5).map fun q => (r.1, q)) =
    some (.normal, { maT key p k ctx mixed (m + 1) (l ++ [0]) with ob := andT (andT true ((m : Int).tmod 16 != 0)) (apN l m 1) }) := by kernel_rfl
theorem ma_3z : (exec Tryz.prog (maC maZ) 60 0 (inner (inner (nthC 8 maB))) (maT key p k ctx mixed m l)).bind (fun r => (r.2.cut [2, 3, 8, 11, 13] 5).map fun q => (r.1, q)) =
    some (.exit 4, { maT key p k ctx mixed m l with ob := andT true (!((m : Int).tmod 16 != 0)) }) := by kernel_rfl
theorem ma_4 : (exec Tryz.prog (maC maA) 60 0 (nthC 9 maB) (maT key p k ctx mixed m l)).bind (fun r => (r.2.cut [2, 3, 8, 11, 13] 5).map fun q => (r.1, q)) =
    some (.normal, { maT key p k ctx mixed (m + (Ae.putW (Ae.W (ctx.length : Int))).length) (l ++ Ae.putW (Ae.W (ctx.length : Int))) with ob := andT (andT true (andT true (true && decide ((ctx.length : Int).toNat < 9223372036854775808)))) (apN l m (Ae.putW (Ae.W (ctx.length : Int))).length) }) := by kernel_rfl
end
theorem tmod16 (m : Nat) : ((m : Int).tmod 16 != 0) = decide (m % 16 ≠ 0) := by
  rw [tmod_pos (by omega)]
  by_cases h : m % 16 = 0
  · rw [show (m : Int) % 16 = 0 by omega]; simp [h]
  · have : (m : Int) % 16 ≠ 0 := by omega
    simp [h, this]
theorem fill_stop (m : Nat) : (m + Ae.flK (m : Int)) % 16 = 0 ∧ ∀ j, j < Ae.flK (m : Int) → (m + j) % 16 ≠ 0 := by
  unfold Ae.flK
  refine ⟨by omega, fun j hj => by omega⟩
theorem zeros_succ (l : List Int) (j : Nat) : l ++ List.replicate (j + 1) 0 = (l ++ List.replicate j 0) ++ [0] := by rw [List.append_assoc, List.replicate_succ']
theorem ma_fill1 {key p k ctx mixed l : List Int} (hl : l.length < 274877000000) : Tr Tryz.prog none 0 (nthC 6 maB) (maT key p k ctx mixed l.length l) .normal (maT key p k ctx mixed (l.length + Ae.flK (l.length : Int)) (l ++ List.replicate (Ae.flK (l.length : Int)) 0)) := by
  obtain ⟨f1, f2⟩ := fill_stop l.length
  have hk : Ae.flK (l.length : Int) < 16 := (Ae.flI_eq (n := (l.length : Int)) (by omega)).2
  have key0 := Tr.loop (P := Tryz.prog) (ro := none) (k := 0) 2 (c := nthC 6 maB) (by kernel_rfl) (fun j : Nat => maT key p k ctx mixed (l.length + j) (l ++ List.replicate j 0)) (Ae.flK (l.length : Int)) (s' := maT key p k ctx mixed (l.length + Ae.flK (l.length : Int)) (l ++ List.replicate (Ae.flK (l.length : Int)) 0)) (fun j hj => ?_) ?_
  · rw [List.replicate_zero, List.append_nil] at key0
    exact key0
  · have e := ma_1 key ctx mixed p k (l ++ List.replicate j 0) (l.length + j)
    rw [tmod16, decide_eq_true (f2 j hj), apN_true (by simp) (by omega), ← zeros_succ] at e
    exact Tr.post (Tr.cut (maC_ok _) 60 _ 5 (by omega) e rfl) (Ent.same rfl rfl)
  · have e := ma_1z key ctx mixed p k (l ++ List.replicate (Ae.flK (l.length : Int)) 0) (l.length + Ae.flK (l.length : Int))
    rw [tmod16, decide_eq_false (by rw [f1]; exact fun h => h rfl)] at e
    exact Tr.cut (maC_ok _) 60 _ 5 (by omega) e rfl
theorem ma_fill3 {key p k ctx mixed l : List Int} (hl : l.length < 274877000000) : Tr Tryz.prog none 0 (nthC 8 maB) (maT key p k ctx mixed l.length l) .normal (maT key p k ctx mixed (l.length + Ae.flK (l.length : Int)) (l ++ List.replicate (Ae.flK (l.length : Int)) 0)) := by
  obtain ⟨f1, f2⟩ := fill_stop l.length
  have hk : Ae.flK (l.length : Int) < 16 := (Ae.flI_eq (n := (l.length : Int)) (by omega)).2
  have key0 := Tr.loop (P := Tryz.prog) (ro := none) (k := 0) 4 (c := nthC 8 maB) (by kernel_rfl) (fun j : Nat => maT key p k ctx mixed (l.length + j) (l ++ List.replicate j 0)) (Ae.flK (l.length : Int)) (s' := maT key p k ctx mixed (l.length + Ae.flK (l.length : Int)) (l ++ List.replicate (Ae.flK (l.length : Int)) 0)) (fun j hj => ?_) ?_
  · rw [List.replicate_zero, List.append_nil] at key0
    exact key0
  · have e := ma_3 key ctx mixed p k (l ++ List.replicate j 0) (l.length + j)
    rw [tmod16, decide_eq_true (f2 j hj), apN_true (by simp) (by omega), ← zeros_succ] at e
    exact Tr.post (Tr.cut (maC_ok _) 60 _ 5 (by omega) e rfl) (Ent.same rfl rfl)
  · have e := ma_3z key ctx mixed p k (l ++ List.replicate (Ae.flK (l.length : Int)) 0) (l.length + Ae.flK (l.length : Int))
    rw [tmod16, decide_eq_false (by rw [f1]; exact fun h => h rfl)] at e
    exact Tr.cut (maC_ok _) 60 _ 5 (by omega) e rfl
theorem put_len (n : Int) : (Ae.putW n).length = 8 := by simp [Ae.putW]
theorem put_dg (n : Int) : Dg (Ae.putW n) := fun z hz => by
  unfold Ae.putW at hz
  obtain ⟨i, _, rfl⟩ := List.mem_map.1 hz
  rw [Fe.wrap_u8]
  omega
theorem flK_add (a b : Nat) (h : a % 16 = 0) : Ae.flK ((a + b : Nat) : Int) = Ae.flK (b : Int) := by unfold Ae.flK; omega
theorem pc_dg (key nonce : List Int) (n : Int) : Dg (Cc.pcW key nonce n) := fun z hz => by
  simp only [Cc.pcW, Lock_eq, Cc.pcO, List.mem_map] at hz
  obtain ⟨j, _, rfl⟩ := hz
  show 0 ≤ IntKind.u8.wrap _ ∧ IntKind.u8.wrap _ < 256
  rw [Fe.wrap_u8]
  exact ⟨Int.emod_nonneg _ (by decide), Int.emod_lt_of_pos _ (by decide)⟩
theorem lst32 {l : List Int} (h : 32 ≤ l.length) : lst 32 l = l.take 32 := by
  have := lst_take (n := 32) (m := 32) (Nat.le_refl _) l
  rw [lst_eq (show (l.take 32).length = 32 by rw [List.length_take]; omega), List.take_of_length_le (Nat.le_of_eq (lst_length 32 l))] at this
  exact this.symm
theorem ma_end {key p k ctx mixed l : List Int} {m : Nat} {args : List SV} (ho : maE k l m mixed = true)
    (ht : ∀ s' x, TrL Tryz.prog none 0 ((atoms (bodyOf Tryz.f77)).drop 10) (maT key p k ctx mixed m l) x s' → TrL Tryz.prog none 0 (atoms (bodyOf Tryz.f77)) ⟨slots0 Tryz.f77.ntmps args, [], true⟩ x s') :
    FnTr Tryz.prog 77 args [] (.agg [.ints .u8 16 (Ae.markW k (l ++ Ae.putW (Ae.W (mixed.length : Int))))]) [] :=
  FnTr.restM (maC_ok maA) 60 10 0 Tryz.func77 (by simp) rfl ht (p := maE k l m mixed) (by kernel_rfl) ho rfl rfl
theorem markR_fn {key nonce ctx mixed : List Int} (hk : key.length = 32) (dk : Dg key) (hn : nonce.length = 12) (dn : Dg nonce) (dc : Dg ctx) (dm : Dg mixed) (hl : ctx.length + mixed.length < 50000000) :
    FnTr Tryz.prog 77 [.agg [.ints .u8 32 key], .ro false .u8 nonce, .ro false .u8 ctx, .ro false .u8 mixed] [] (.agg [.ints .u8 16 (Ae.mkW key nonce ctx mixed)]) [] := by
  have hp := Cc.pcW_len key nonce 0
  have hk32 : ((Cc.pcW key nonce 0).take 32).length = 32 := by rw [List.length_take, hp]; rfl
  have hfc := (Ae.flI_eq (n := (ctx.length : Int)) (by omega)).2
  have hfm := (Ae.flI_eq (n := (mixed.length : Int)) (by omega)).2
  have c1 : (ctx ++ List.replicate (Ae.flK (ctx.length : Int)) 0).length = ctx.length + Ae.flK (ctx.length : Int) := by simp
  have hl0 : (ctx.length + Ae.flK (ctx.length : Int)) % 16 = 0 := (fill_stop ctx.length).1
  let l1 := ctx ++ List.replicate (Ae.flK (ctx.length : Int)) 0
  let l2 := l1 ++ mixed
  let l3 := l2 ++ List.replicate (Ae.flK (mixed.length : Int)) 0
  let l4 := l3 ++ Ae.putW (Ae.W (ctx.length : Int))
  have e1 : l1.length = ctx.length + Ae.flK (ctx.length : Int) := c1
  have e2 : l2.length = l1.length + mixed.length := List.length_append
  have e3 : l3.length = l2.length + Ae.flK (mixed.length : Int) := by show (l2 ++ _).length = _; simp
  have e4 : l4.length = l3.length + 8 := by show (l3 ++ _).length = _; rw [List.length_append, put_len]
  have hT : Ae.mkW key nonce ctx mixed = Ae.markW ((Cc.pcW key nonce 0).take 32) (l4 ++ Ae.putW (Ae.W (mixed.length : Int))) := by
    unfold Ae.mkW Ae.mkT
    show _ = Ae.markW _ (((((ctx ++ List.replicate (Ae.flK (ctx.length : Int)) 0) ++ mixed) ++ List.replicate (Ae.flK (mixed.length : Int)) 0) ++ Ae.putW (Ae.W (ctx.length : Int))) ++ Ae.putW (Ae.W (mixed.length : Int)))
    simp only [List.flatten_cons, List.flatten_nil, List.append_nil, List.append_assoc]
  have d4 : Dg l4 := (((dc.app (Dg_zeros _)).app dm).app (Dg_zeros _)).app (put_dg _)
  rw [hT]
  have ho : maE ((Cc.pcW key nonce 0).take 32) l4 l4.length mixed = true := by
    unfold maE
    rw [apN_true rfl (by rw [put_len]; omega), hk32, dgB_iff.2 ((pc_dg key nonce 0).take 32), dgB_iff.2 (d4.app (put_dg _)), List.length_append, put_len]
    simp [andT_iff]
    omega
  refine ma_end (key := key) (p := Cc.pcW key nonce 0) (ctx := ctx) ho fun s' x h => ?_
  have hh := ma_head key nonce ctx mixed
  have uk : u8R key = true := dgB_iff.2 dk
  have un : u8R nonce = true := dgB_iff.2 dn
  rw [hk, uk, hn, un] at hh
  refine TrL.items (maC_ok _) 60 4 _ 4 (by simp) hh rfl (by decide) ?_
  have hk2 := ma_k key ctx mixed (Cc.pcW key nonce 0)
  rw [lst32 (by omega), Nat.zero_add, List.nil_append, decide_eq_true (show ctx.length ≤ 274877906944 by omega)] at hk2
  refine TrL.items (maC_ok _) 200 2 _ 5 (by omega) hk2 rfl (by decide) ?_
  rw [List.drop_drop]
  refine TrL.item 6 (by decide) (ma_fill1 (by omega)) ?_
  have k2 := ma_2 key ctx mixed (Cc.pcW key nonce 0) ((Cc.pcW key nonce 0).take 32) l1 l1.length
  rw [apN_true rfl (by omega)] at k2
  rw [← e1]
  refine TrL.item 7 (by decide) (Tr.cut (maC_ok _) 60 _ 5 (by omega) k2 rfl) ?_
  have k3 := ma_fill3 (key := key) (p := Cc.pcW key nonce 0) (k := (Cc.pcW key nonce 0).take 32) (ctx := ctx) (mixed := mixed) (l := l2) (by omega)
  have hf : Ae.flK (l2.length : Int) = Ae.flK (mixed.length : Int) := by
    rw [e2, e1]
    exact flK_add _ _ hl0
  rw [hf, ← e3, e2] at k3
  refine TrL.item 8 (by decide) k3 ?_
  have k4 := ma_4 key ctx mixed (Cc.pcW key nonce 0) ((Cc.pcW key nonce 0).take 32) l3 l3.length
  rw [apN_true rfl (by rw [put_len]; omega), put_len, Int.toNat_natCast, decide_eq_true (show ctx.length < 9223372036854775808 by omega)] at k4
  refine TrL.item 9 (by decide) (Tr.cut (maC_ok _) 60 _ 5 (by omega) k4 rfl) ?_
  rw [e4] at h
  exact h
noncomputable def mark0F : List SV → Option (SV × List Blk × Bool)
  | [.agg [.ints .u8 32 key], .ro false .u8 nonce, .ro false .u8 ctx, .ro false .u8 mixed] => some (.agg [.ints .u8 16 (Ae.mkW key nonce ctx mixed)], [], decide (key.length = 32) && dgB key && decide (nonce.length = 12) && dgB nonce && dgB ctx && dgB mixed && decide (ctx.length + mixed.length < 50000000))
  | _ => none
noncomputable def mark0E : Entry Tryz.prog := .val 77 _ Tryz.func77 (by decide) rfl true 0 mark0F fun vs v new e => by
  unfold mark0F at e
  split at e
  · simp only [Option.some.injEq, Prod.mk.injEq, Bool.and_eq_true, decide_eq_true_eq, dgB_iff] at e
    obtain ⟨rfl, rfl, ⟨⟨⟨⟨⟨h1, h2⟩, h3⟩, h4⟩, h5⟩, h6⟩, h7⟩ := e
    exact markR_fn h1 h2 h3 h4 h5 h6 h7
  · cases e
end Go.Proofs.YtibfpjeeanppjaaGreat.R4
end
