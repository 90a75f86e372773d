/- This file holds the texts S2D, S2E, S2F, a section each. No conditions beyond those in the theorems. -/
import Derived.Test.YtibfpjeeanppjaaGreatXS2C
import Derived.Test.YtibfpjeeanppjaaGreatXShK
import Derived.Test.YtibfpjeeanppjaaGreatXR3C
set_option linter.all false
set_option maxRecDepth 100000
section
namespace Go.Proofs.YtibfpjeeanppjaaGreat.Q2
open Go Go.Sy Sh
abbrev V (n : Int) : Int := IntKind.u32.wrap n
def wP (x n : Int) : Int := V (bG .u32 x n.toNat + cX .u32 x (Sh.W (32 - n)).toNat)
def Um : List SV → Option (SV × List Blk × Bool)
  | [.int .u32 x, .int .u64 n] => some (.int .u32 (wP x n), [], decide (0 ≤ n))
  | _ => none
noncomputable def adH : Entry Tryz.prog := .val 123 _ Tryz.func123 (by decide) rfl false 0 Um fun vs v new e => by
  unfold Um at e
  split at e
  · rename_i x n
    simp only [Option.some.injEq, Prod.mk.injEq, decide_eq_true_eq] at e
    obtain ⟨rfl, rfl, h⟩ := e
    exact aG mF 60 Tryz.func123 (p := aa (aa true (decide (0 ≤ n))) (W0 (32 - n))) (by kernel_rfl) (by rw [GA, decide_eq_true h]; rfl) rfl
  · cases e
noncomputable def X9 : br := mk (P := Tryz.prog) [Sa] []
theorem sE : ag Tryz.prog X9 := ah _ aq.nil _ _
theorem Eh : ai Tryz.prog 121 [] [] (.ro true .u32 S2.gA) [] :=
  ai.frozen (N := 64) (ex := false) (wh := true) (ai.Js [1] (bn sE 200 Tryz.func121 2 (by simp) (v := .sl 1 0 0 1 64 64 false true) (h1 := [.b [.ints .u32 1 [1116352408]], .b [.ints .u32 64 S2.gA]]) (p := true) (by kernel_rfl) rfl rfl rfl) (by kernel_rfl)) (by kernel_rfl)
noncomputable def Cl : List SV → Option (SV × List Blk × Bool)
  | [] => some (.ro true .u32 S2.gA, [], true)
  | _ => none
noncomputable def NF : Entry Tryz.prog := .val 121 _ Tryz.func121 (by decide) rfl false 0 Cl fun vs v new e => by
  unfold Cl at e
  split at e
  · cases e; exact Eh
  · cases e
noncomputable def rB : Code := aE Tryz.f78
noncomputable def rO : Code := inner (inner (az 8 rB))
noncomputable def r3 : Code := inner (az 2 rO)
noncomputable def rC (a b c d : Bool) : br := mk (P := Tryz.prog) [NF, Sb, adH, adI] [] fun i => if i = 42 then some a else if i = 46 then some b else if i = 86 then some c else if i = 133 then some d else if i = 130 then some true else if i = 84 then some true else none
theorem gm (a b c d : Bool) : ag Tryz.prog (rC a b c d) := ah _ aq.nil _ _
def chQ (e f g : Int) : Int := cj .u32 (bO .u32 e f) (bO .u32 (V (4294967295 - e)) g)
def Zo (x a b c : Int) : Int := cj .u32 (cj .u32 (wP x a) (wP x b)) (wP x c)
def t1Q (s : List Int) (k w : Int) : Int := V (V (V (V (s.getD 7 0 + Zo (s.getD 4 0) 6 11 25) + chQ (s.getD 4 0) (s.getD 5 0) (s.getD 6 0)) + k) + w)
def t2Q (s : List Int) : Int := V (Zo (s.getD 0 0) 2 13 22 + S2.mjW (s.getD 0 0) (s.getD 1 0) (s.getD 2 0))
def Ei (s : List Int) (k w : Int) : List Int := [V (t1Q s k w + t2Q s), s.getD 0 0, s.getD 1 0, s.getD 2 0, V (s.getD 3 0 + t1Q s k w), s.getD 4 0, s.getD 5 0, s.getD 6 0]
def nxQ (y x a b : Int) : Int := V (V (V (cj .u32 (cj .u32 (wP y 17) (wP y 19)) (bG .u32 y 10) + a) + cj .u32 (cj .u32 (wP x 7) (wP x 18)) (bG .u32 x 3)) + b)
def ix (a i : Int) : Int := IntKind.i64.wrap (a + IntKind.i64.wrap (4 * i))
def wq (p : List Int) (q : Int) : Int := V (V (V (V (V (p.getD q.toNat 0) * 16777216) + V (V (p.getD (IntKind.i64.wrap (q + 1)).toNat 0) * 65536)) + V (V (p.getD (IntKind.i64.wrap (q + 2)).toNat 0) * 256)) + V (p.getD (IntKind.i64.wrap (q + 3)).toNat 0))
def nxJ (w : List Int) (i : Int) : Int := nxQ (w.getD (0 + (IntKind.i64.wrap (i - 2)).toNat) 0) (w.getD (0 + (IntKind.i64.wrap (i - 15)).toNat) 0) (w.getD (0 + (IntKind.i64.wrap (i - 7)).toNat) 0) (w.getD (0 + (IntKind.i64.wrap (i - 16)).toNat) 0)
def nxP (i : Int) (n _l : Nat) : Bool := aa (aa (aa (aa (aa (aa (aa (aa (aa (aa true (decide (i < 64))) (cN (IntKind.i64.wrap (i - 15)) n)) (decide (0 + (IntKind.i64.wrap (i - 15)).toNat < n))) (cN (IntKind.i64.wrap (i - 2)) n)) (decide (0 + (IntKind.i64.wrap (i - 2)).toNat < n)))
  (cN (IntKind.i64.wrap (i - 7)) n)) (decide (0 + (IntKind.i64.wrap (i - 7)).toNat < n))) (cN (IntKind.i64.wrap (i - 16)) n)) (decide (0 + (IntKind.i64.wrap (i - 16)).toNat < n))) (tD _l n)
noncomputable def sO (p kk h : List Int) (i : Int) : St := ⟨slotsOf 252 [(2, .ptr 0 0 0), (4, .ptr 1 0 0), (6, .ro true .u32 kk), (7, .ro true .u8 p), (8, .int .i64 i)], [.b [.ints .u8 32 S2.iA], .b [.ints .u32 8 (aH 8 h)]], true⟩
noncomputable def sN (p kk h : List Int) (a : Int) : St := ⟨slotsOf 252 [(2, .ptr 0 0 0), (4, .ptr 1 0 0), (6, .ro true .u32 kk), (7, .ro true .u8 p), (8, .int .i64 a), (9, .nl (.slice none 0 0)), (10, .int .i64 0)], [.b [.ints .u8 32 S2.iA], .b [.ints .u32 8 (aH 8 h)]], true⟩
noncomputable def sA (p kk h : List Int) (a : Int) (n : Nat) (w : List Int) (i : Int) : St := ⟨slotsOf 252 [(2, .ptr 0 0 0), (4, .ptr 1 0 0), (6, .ro true .u32 kk), (7, .ro true .u8 p), (8, .int .i64 a), (9, .sl 2 0 0 1 n n false true), (10, .int .i64 i)], [.b [.ints .u8 32 S2.iA], .b [.ints .u32 8 (aH 8 h)], .b [.ints .u32 n w]], true⟩
noncomputable def sB (p kk h : List Int) (a : Int) (n : Nat) (w : List Int) (i : Int) : St := ⟨slotsOf 252 [(2, .ptr 0 0 0), (4, .ptr 1 0 0), (6, .ro true .u32 kk), (7, .ro true .u8 p), (8, .int .i64 a), (9, .sl 2 0 0 1 n n false true), (12, .int .i64 i)], [.b [.ints .u8 32 S2.iA], .b [.ints .u32 8 (aH 8 h)], .b [.ints .u32 n w]], true⟩
noncomputable def sC (p kk h : List Int) (a : Int) (n : Nat) (w s : List Int) (i : Int) : St := ⟨slotsOf 252 [(2, .ptr 0 0 0), (4, .ptr 1 0 0), (6, .ro true .u32 kk), (7, .ro true .u8 p), (8, .int .i64 a), (9, .sl 2 0 0 1 n n false true), (15, .ptr 3 0 0), (16, .int .i64 i)], [.b [.ints .u8 32 S2.iA], .b [.ints .u32 8 (aH 8 h)], .b [.ints .u32 n w], .b [.ints .u32 8 (aH 8 s)]], true⟩
noncomputable def sD (p kk h : List Int) (a : Int) (n : Nat) (w s : List Int) : St := ⟨slotsOf 252 [(2, .ptr 0 0 0), (4, .ptr 1 0 0), (6, .ro true .u32 kk), (7, .ro true .u8 p), (8, .int .i64 a), (15, .ptr 3 0 0), (20, .int .i64 0)], [.b [.ints .u8 32 S2.iA], .b [.ints .u32 8 (aH 8 h)], .b [.ints .u32 n w], .b [.ints .u32 8 (aH 8 s)]], true⟩
def oq (p : List Int) (q i : Int) : Bool := aa (aa (aa (aa (aa (aa (aa (aa (aa true (decide (i < 16))) (cN q p.length)) (decide (q.toNat < p.length))) (cN (IntKind.i64.wrap (q + 1)) p.length)) (decide ((IntKind.i64.wrap (q + 1)).toNat < p.length)))
  (cN (IntKind.i64.wrap (q + 2)) p.length)) (decide ((IntKind.i64.wrap (q + 2)).toNat < p.length))) (cN (IntKind.i64.wrap (q + 3)) p.length)) (decide ((IntKind.i64.wrap (q + 3)).toNat < p.length))
section
variable (p kk h w s : List Int) (n : Nat) (a i : Int)
theorem Sd : (aT Tryz.prog (rC true true true true) 60 0 2 (atoms rO) (sO p kk h a)).bind (St.cut [2, 4, 6, 7, 8] 2) = some { sO p kk h a with ob := aa true (decide (a < p.length)) } := by kernel_rfl
theorem Se : (exec Tryz.prog (rC true true true true) 60 0 (az 3 rO) (sO p kk h a)).bind (fun r => (r.2.cut [2, 4, 6, 7, 8] 2).map fun q => (r.1, q)) = some (.normal, sO p kk h (IntKind.i64.wrap (a + 64))) := by kernel_rfl
theorem Ym : (exec Tryz.prog (rC false true true true) 60 0 rO (sO p kk h a)).bind (fun r => (r.2.cut [2, 4, 6, 7, 8] 2).map fun q => (r.1, q)) = some (.exit 2, { sO p kk h a with ob := aa true (!decide (a < p.length)) }) := by kernel_rfl
theorem Sf : (aT Tryz.prog (rC true true true true) 60 0 2 (atoms r3) (sO p kk h a)).bind (St.cut [2, 4, 6, 7, 8, 9, 10] 2) = some (sN p kk h a) := by kernel_rfl
theorem Yn : (exec Tryz.prog (rC true true true true) 60 0 (inner (inner (az 2 r3))) (sA p kk h a n w i)).bind (fun r => (r.2.cut [2, 4, 6, 7, 8, 9, 10] 3).map fun q => (r.1, q)) =
    some (.normal, { sA p kk h a (n + 1) (w ++ [wq p (ix a i)]) (IntKind.i64.wrap (i + 1)) with ob := aa (oq p (ix a i) i) (tD w.length n) }) := by kernel_rfl
theorem Yo : (exec Tryz.prog (rC true false true true) 60 0 (inner (inner (az 2 r3))) (sA p kk h a n w i)).bind (fun r => (r.2.cut [2, 4, 6, 7, 8, 9, 10] 3).map fun q => (r.1, q)) =
    some (.exit 4, { sA p kk h a n w i with ob := aa true (!decide (i < 16)) }) := by kernel_rfl
theorem Sg : (aT Tryz.prog (rC true true true true) 60 0 1 ((atoms r3).drop 3) (sA p kk h a n w i)).bind (St.cut [2, 4, 6, 7, 8, 9, 12] 3) = some (sB p kk h a n w 16) := by kernel_rfl
theorem Yp : (exec Tryz.prog (rC true true true true) 60 0 (inner (inner (az 4 r3))) (sB p kk h a n w i)).bind (fun r => (r.2.cut [2, 4, 6, 7, 8, 9, 12] 3).map fun q => (r.1, q)) =
    some (.normal, { sB p kk h a (n + 1) (w ++ [nxJ w i]) (IntKind.i64.wrap (i + 1)) with ob := nxP i n w.length }) := by kernel_rfl
theorem Yq : (exec Tryz.prog (rC true true false true) 60 0 (inner (inner (az 4 r3))) (sB p kk h a n w i)).bind (fun r => (r.2.cut [2, 4, 6, 7, 8, 9, 12] 3).map fun q => (r.1, q)) =
    some (.exit 6, { sB p kk h a n w i with ob := aa true (!decide (i < 64)) }) := by kernel_rfl
theorem NG : (aT Tryz.prog (rC true true true true) 60 0 2 ((atoms r3).drop 5) (sB p kk h a n w i)).bind (St.cut [2, 4, 6, 7, 8, 9, 15, 16] 4) = some (sC p kk h a n w h 0) := by kernel_rfl
theorem Si : (exec Tryz.prog (rC true true true true) 60 0 (inner (inner (az 7 r3))) (sC p kk h a n w s i)).bind (fun r => (r.2.cut [2, 4, 6, 7, 8, 9, 15, 16] 4).map fun q => (r.1, q)) =
    some (.normal, { sC p kk h a n w (Ei (aH 8 s) (kk.getD i.toNat 0) (w.getD (0 + i.toNat) 0)) (IntKind.i64.wrap (i + 1)) with ob := aa (aa (aa (aa (aa true (decide (i < 64))) (cN i kk.length)) (decide (i.toNat < kk.length))) (cN i n)) (decide (0 + i.toNat < n)) }) := by kernel_rfl
theorem Sj : (exec Tryz.prog (rC true true true false) 60 0 (inner (inner (az 7 r3))) (sC p kk h a n w s i)).bind (fun r => (r.2.cut [2, 4, 6, 7, 8, 9, 15, 16] 4).map fun q => (r.1, q)) =
    some (.exit 8, { sC p kk h a n w s i with ob := aa true (!decide (i < 64)) }) := by kernel_rfl
theorem NH : (aT Tryz.prog (rC true true true true) 60 0 1 ((atoms r3).drop 8) (sC p kk h a n w s i)).bind (St.cut [2, 4, 6, 7, 8, 15, 20] 4) = some (sD p kk h a n w s) := by kernel_rfl
theorem Sk : (exec Tryz.prog (rC true true true true) 60 0 (az 9 r3) (sD p kk h a n w s)).bind (fun r => (r.2.cut [2, 4, 6, 7, 8] 2).map fun q => (r.1, q)) = some (.normal, sO p kk (S2.Cj (aH 8 h) (aH 8 s)) a) := by kernel_rfl
end
end Go.Proofs.YtibfpjeeanppjaaGreat.Q2
end
section
namespace Go.Proofs.YtibfpjeeanppjaaGreat.Q2
open Go Go.Sy Sh
def wA (p : List Int) (a : Int) : Nat → List Int
  | 0 => []
  | j + 1 => wA p a j ++ [wq p (ix a j)]
def wG (w : List Int) : Nat → List Int
  | 0 => w
  | j + 1 => wG w j ++ [nxJ (wG w j) (16 + j)]
def IF (s k w : List Int) : Nat → List Int
  | 0 => s
  | j + 1 => Ei (aH 8 (IF s k w j)) (k.getD j 0) (w.getD j 0)
def pX (p kk h : List Int) (a : Int) : List Int := S2.Cj (aH 8 h) (aH 8 (IF h kk (wG (wA p a 16) 48) 64))
def hN (p kk h : List Int) : Nat → List Int
  | 0 => h
  | j + 1 => pX p kk (hN p kk h j) (64 * j : Nat)
theorem Ad (p : List Int) (a : Int) : ∀ j, (wA p a j).length = j
  | 0 => rfl
  | j + 1 => by rw [wA, List.length_append, Ad p a j]; rfl
theorem Ej (w : List Int) : ∀ j, (wG w j).length = w.length + j
  | 0 => rfl
  | j + 1 => by rw [wG, List.length_append, Ej w j]; rfl
theorem Un {a i : Nat} (ha : a < 10000000000000) (hi : i < 16) : ix a i = ((a + 4 * i : Nat) : Int) := by
  unfold ix
  rw [wrap_i64 (4 * (i : Int)) (by omega) (by omega), wrap_i64 _ (by omega) (by omega)]
  omega
theorem Sl {p : List Int} {a i : Nat} (ha : a < 10000000000000) (hp : a + 64 ≤ p.length) (hi : i < 16) : oq p (ix a i) i = true := by
  rw [Un ha hi]
  unfold oq
  rw [wrap_i64 _ (by omega) (by omega), wrap_i64 _ (by omega) (by omega), wrap_i64 _ (by omega) (by omega), aM (by omega) (by omega), aM (by omega) (by omega), aM (by omega) (by omega), aM (by omega) (by omega)]
  simp only [au, decide_eq_true_eq, true_and, and_true]
  omega
theorem NI {j : Nat} (hj : j < 48) : nxP (16 + j) (16 + j) (16 + j) = true := by
  unfold nxP
  rw [wrap_i64 _ (by omega) (by omega), wrap_i64 _ (by omega) (by omega), wrap_i64 _ (by omega) (by omega), wrap_i64 _ (by omega) (by omega), cA (by omega)]
  simp only [au, decide_eq_true_eq, true_and, and_true]
  refine ⟨⟨⟨⟨⟨⟨⟨⟨?_, aM (by omega) (by omega)⟩, ?_⟩, aM (by omega) (by omega)⟩, ?_⟩, aM (by omega) (by omega)⟩, ?_⟩, aM (by omega) (by omega)⟩, ?_⟩ <;> omega
section
variable (p kk h : List Int) {a : Nat} (ha : a < 10000000000000) (hp : a + 64 ≤ p.length) (hk : kk.length = 64)
include ha hp in
theorem So : Tr Tryz.prog none 0 (az 2 r3) (sA p kk h a 0 [] 0) .normal (sA p kk h a 16 (wA p a 16) 16) := by
  have key := Tr.loop (P := Tryz.prog) (ro := none) (k := 0) 4 (c := az 2 r3) (by kernel_rfl) (fun j : Nat => sA p kk h a j (wA p a j) j) 16 (s' := sA p kk h a 16 (wA p a 16) 16) (fun j hj => ?_) ?_
  · exact key
  · have k := Yn p kk h (wA p a j) j a j
    rw [Sl ha hp hj, Ad, cA (by omega), wrap_i64 _ (by omega) (by omega)] at k
    refine Tr.post (Tr.cut (gm true true true true) 60 _ 3 (by omega) k rfl) (bh.same ?_ rfl)
    show (sA _ _ h _ _ [] _).t = (sA _ _ h _ _ [] _).t
    rw [show ((j : Int) + 1) = ((j + 1 : Nat) : Int) by omega]
  · exact Tr.post (Tr.cut (gm true false true true) 60 _ 3 (by omega) (Yo p kk h (wA p a 16) 16 a 16) rfl) (bh.same rfl rfl)
theorem Sp {w : List Int} (hw : w.length = 16) (a : Int) : Tr Tryz.prog none 0 (az 4 r3) (sB p kk h a 16 w 16) .normal (sB p kk h a 64 (wG w 48) 64) := by
  have key := Tr.loop (P := Tryz.prog) (ro := none) (k := 0) 6 (c := az 4 r3) (by kernel_rfl) (fun j : Nat => sB p kk h a (16 + j) (wG w j) (16 + j)) 48 (s' := sB p kk h a 64 (wG w 48) 64) (fun j hj => ?_) ?_
  · exact key
  · have k := Yp p kk h (wG w j) (16 + j) a (16 + j)
    rw [Ej, hw, NI hj, wrap_i64 _ (by omega) (by omega)] at k
    refine Tr.post (Tr.cut (gm true true true true) 60 _ 3 (by omega) k rfl) (bh.same ?_ rfl)
    show (sB _ _ h _ _ [] _).t = (sB _ _ h _ _ [] _).t
    rw [show ((16 : Int) + (j : Int) + 1) = 16 + ((j + 1 : Nat) : Int) by omega, show 16 + j + 1 = 16 + (j + 1) by omega]
  · exact Tr.post (Tr.cut (gm true true false true) 60 _ 3 (by omega) (Yq p kk h (wG w 48) 64 a 64) rfl) (bh.same rfl rfl)
include hk in
theorem NJ (w : List Int) (a : Int) : Tr Tryz.prog none 0 (az 7 r3) (sC p kk h a 64 w h 0) .normal (sC p kk h a 64 w (IF h kk w 64) 64) := by
  have key := Tr.loop (P := Tryz.prog) (ro := none) (k := 0) 8 (c := az 7 r3) (by kernel_rfl) (fun j : Nat => sC p kk h a 64 w (IF h kk w j) j) 64 (s' := sC p kk h a 64 w (IF h kk w 64) 64) (fun j hj => ?_) ?_
  · exact key
  · have k := Si p kk h w (IF h kk w j) 64 a j
    rw [hk, wrap_i64 _ (by omega) (by omega), show 0 + (j : Int).toNat = j by omega, show (j : Int).toNat = j by omega] at k
    refine Tr.post (Tr.cut (gm true true true true) 60 _ 4 (by omega) k ?_) (bh.same ?_ rfl)
    · simp only [au, decide_eq_true_eq, true_and]
      exact ⟨⟨⟨⟨by omega, aM (by omega) (by omega)⟩, by omega⟩, aM (by omega) (by omega)⟩, by omega⟩
    · show (sC _ _ h _ _ [] [] _).t = (sC _ _ h _ _ [] [] _).t
      rw [show ((j : Int) + 1) = ((j + 1 : Nat) : Int) by omega]
  · exact Tr.post (Tr.cut (gm true true true false) 60 _ 4 (by omega) (Sj p kk h w (IF h kk w 64) 64 a 64) rfl) (bh.same rfl rfl)
theorem adJ (a : Int) : bh 0 (sN p kk h a) (sA p kk h a 0 [] 0) :=
  (bh.nothing (k := 0) (t := (sN p kk h a).t) (h := (sN p kk h a).h) (o := true) (o' := true) 9 .u32 false true (by kernel_rfl)).trans (bh.same (by kernel_rfl) (by kernel_rfl))
include ha hp hk in
theorem Yr : Tr Tryz.prog none 0 r3 (sO p kk h a) .normal (sO p kk (pX p kk h a) a) := by
  refine Tr.ee ?_
  refine aY.items (gm true true true true) 60 2 _ 2 (by omega) (Sf p kk h a) rfl (by decide) ?_
  refine aY.pre (s1 := sA p kk h a 0 [] 0) ?_ (adJ p kk h a) (by decide)
  refine aY.item 2 (by decide) (So p kk h ha hp) ?_
  refine aY.items (gm true true true true) 60 1 _ 3 (by omega) (Sg p kk h (wA p a 16) 16 a 16) rfl (by decide) ?_
  refine aY.item 4 (by decide) (Sp p kk h (Ad p a 16) a) ?_
  refine aY.items (gm true true true true) 60 2 _ 4 (by omega) (NG p kk h (wG (wA p a 16) 48) 64 a 64) rfl (by decide) ?_
  refine aY.item 7 (by decide) (NJ p kk h hk (wG (wA p a 16) 48) a) ?_
  refine aY.items (gm true true true true) 60 1 _ 4 (by omega) (NH p kk h (wG (wA p a 16) 48) (IF h kk (wG (wA p a 16) 48) 64) 64 a 64) rfl (by decide) ?_
  exact aY.item 9 (by decide) (Tr.cut (gm true true true true) 60 _ 2 (by omega) (Sk p kk h (wG (wA p a 16) 48) (IF h kk (wG (wA p a 16) 48) 64) 64 a) rfl) ⟨rfl, rfl⟩
theorem NK : az 2 rO = .block 3 r3 := by kernel_rfl
include ha hp hk in
theorem Sq : Tr Tryz.prog none 0 rO (sO p kk h a) .normal (sO p kk (pX p kk h a) (a + 64 : Nat)) := by
  refine Tr.ee ?_
  refine aY.items (gm true true true true) 60 2 _ 2 (by omega) (Sd p kk h a) ?_ (by decide) ?_
  · simp only [au, decide_eq_true_eq, true_and]; omega
  refine aY.item 2 (by decide) (s1 := sO p kk (pX p kk h a) a) ?_ ?_
  · rw [NK]
    exact Tr.fE (Tr.pre (Yr p kk h ha hp hk) (bh.same rfl rfl)) (by simp)
  · have k := Se p kk (pX p kk h a) a
    rw [wrap_i64 _ (by omega) (by omega)] at k
    refine aY.item 3 (by decide) (Tr.post (Tr.cut (gm true true true true) 60 _ 2 (by omega) k rfl) (bh.same ?_ rfl)) ⟨rfl, rfl⟩
    show (sO _ _ h _).t = (sO _ _ h _).t
    rw [show ((a : Int) + 64) = ((a + 64 : Nat) : Int) by omega]
end
theorem Ys {p kk : List Int} (h : List Int) {N : Nat} (hp : p.length = 64 * N) (hk : kk.length = 64) (hb : N < 10000000000) : Tr Tryz.prog none 0 (az 8 rB) (sO p kk h 0) .normal (sO p kk (hN p kk h N) (64 * N : Nat)) := by
  have key := Tr.loop (P := Tryz.prog) (ro := none) (k := 0) 2 (c := az 8 rB) (by kernel_rfl) (fun j : Nat => sO p kk (hN p kk h j) (64 * j : Nat)) N (s' := sO p kk (hN p kk h N) (64 * N : Nat)) (fun j hj => ?_) ?_
  · exact key
  · exact Sq p kk (hN p kk h j) (a := 64 * j) (by omega) (by omega) hk
  · exact Tr.post (Tr.cut (gm false true true true) 60 _ 2 (by omega) (Ym p kk (hN p kk h N) (64 * N : Nat)) (by rw [hp]; simp [aa])) (bh.same rfl rfl)
theorem Ij (xs : List Int) : (fQ xs).length = 64 * ((fQ xs).length / 64) := by
  have h := (ri (len := xs.length) (show 56 < 64 by omega)).1
  have hl : (fQ xs).length = xs.length + 1 + cR xs.length 64 56 + 8 := by unfold fQ; rw [List.length_append, ir]; rfl
  rw [hl]; omega
noncomputable def gL (xs : List Int) : List Int := gH (S2.C5 (aH 8 (hN (fQ xs) S2.gA S2.qd ((fQ xs).length / 64))))
theorem Sr : S2.gA.length = 64 := by kernel_rfl
theorem Ss (xs : List Int) : (aT Tryz.prog (rC true true true true) 60 0 8 (atoms rB) ⟨aO Tryz.f78.ntmps [.ro false .u8 xs], [], true⟩).bind (St.cut [2, 4, 6, 7, 8] 2) =
    some { sO (fQ xs) S2.gA S2.qd 0 with ob := aa true (aa true (decide (xs.length < 274877900000))) } := by kernel_rfl
theorem uN {xs : List Int} (h1 : xs.length < 274877900000) : ai Tryz.prog 78 [.ro false .u8 xs] [] (.agg [.ints .u8 32 (gL xs)]) [] := by
  have hp := Ij xs
  generalize hn : (fQ xs).length / 64 = N at hp
  have hb : N < 10000000000 := by
    have hK : cR xs.length 64 56 < 64 := Nat.mod_lt _ (by omega)
    have hl : (fQ xs).length = xs.length + 1 + cR xs.length 64 56 + 8 := by unfold fQ; rw [List.length_append, ir]; rfl
    omega
  rw [gL, aC, hn]
  refine ai.cz (gm true true true true) 400 9 0 Tryz.func78 (by simp) rfl (fun s' x h => ?_) (s := sO (fQ xs) S2.gA (hN (fQ xs) S2.gA S2.qd N) (64 * N : Nat)) (p := true) (by kernel_rfl) rfl rfl rfl
  refine aY.items (gm true true true true) 60 8 _ 2 (by simp) (Ss xs) (by rw [decide_eq_true h1]; rfl) (by decide) ?_
  exact aY.item 8 (by decide) (Tr.pre (Ys S2.qd hp Sr hb) (bh.same rfl rfl)) h
noncomputable def Cm : List SV → Option (SV × List Blk × Bool)
  | [.ro false .u8 xs] => some (.agg [.ints .u8 32 (gL xs)], [], decide (xs.length < 274877900000))
  | _ => none
noncomputable def JI : Entry Tryz.prog := .val 78 _ Tryz.func78 (by decide) rfl true 0 Cm fun vs v new e => by
  unfold Cm at e
  split at e
  · simp only [Option.some.injEq, Prod.mk.injEq, decide_eq_true_eq] at e
    obtain ⟨rfl, rfl, h1⟩ := e
    exact uN h1
  · cases e
end Go.Proofs.YtibfpjeeanppjaaGreat.Q2
end
section
namespace Go.Proofs.YtibfpjeeanppjaaGreat.Q2
open Go Go.Sy Sh
open R3 (nJ D7 Ro B7 tg Ud D8 oo)
def Cn (l : List Int) : Prop := ∀ x ∈ l, nJ x
theorem Cn.getD {l : List Int} (h : Cn l) (i : Nat) : nJ (l.getD i 0) := by
  rw [List.getD_eq_getElem?_getD]
  cases e : l[i]? with
  | none => exact ⟨by decide, by decide⟩
  | some x => exact h x (List.mem_of_getElem? e)
theorem amp {x : Int} (h : nJ x) : V x = x := by
  have : V x = x % 4294967296 := Ro x
  rw [this]
  exact Int.emod_eq_of_lt h.1 h.2
theorem Yt {x : Int} (h : 0 ≤ x ∧ x < 18446744073709551616) : Sh.W x = x := by
  unfold Sh.W
  rw [wrap_u64]
  exact Int.emod_eq_of_lt h.1 h.2
theorem rm {x : Int} (hx : nJ x) (a b : Int) (n m : Nat) (h : n + m = 32) (e1 : (bO .u64 (Sh.W a) 31).toNat = m) (e2 : (Sh.W (32 - bO .u64 (Sh.W a) 31)).toNat = n)
    (e3 : b.toNat = n) (e4 : (Sh.W (32 - b)).toNat = m) : S2.mB x a = wP x b := by
  unfold S2.mB wP
  rw [e1, e2, e3, e4]
  refine (D8 hx n m h).trans ?_
  rw [Int.add_comm]
theorem ov {x : Int} (hx : nJ x) (a : Int) (n m : Nat) (h : n + m = 32) (e1 : (bO .u64 (Sh.W (IntKind.i64.wrap (0 - a))) 31).toNat = m) (e2 : (Sh.W (32 - bO .u64 (Sh.W (IntKind.i64.wrap (0 - a))) 31)).toNat = n)
    (e3 : a.toNat = n) (e4 : (Sh.W (32 - a)).toNat = m) : S2.Ci x a = wP x a := rm hx _ a n m h e1 e2 e3 e4
theorem Yu {x : Int} (hx : nJ x) : S2.Ul x 6 11 25 = Zo x 6 11 25 := by
  unfold S2.Ul Zo
  rw [ov hx 6 6 26 rfl (by decide) (by decide) rfl (by decide), ov hx 11 11 21 rfl (by decide) (by decide) rfl (by decide), ov hx 25 25 7 rfl (by decide) (by decide) rfl (by decide)]
theorem Yv {x : Int} (hx : nJ x) : S2.Ul x 2 13 22 = Zo x 2 13 22 := by
  unfold S2.Ul Zo
  rw [ov hx 2 2 30 rfl (by decide) (by decide) rfl (by decide), ov hx 13 13 19 rfl (by decide) (by decide) rfl (by decide), ov hx 22 22 10 rfl (by decide) (by decide) rfl (by decide)]
theorem adK {x y : Int} (hx : nJ x) (hy : nJ y) (a b : Int) : S2.nxW y x a b = nxQ y x a b := by
  unfold S2.nxW nxQ
  rw [rm hy (-17) 17 17 15 rfl (by decide) (by decide) rfl (by decide), rm hy (-19) 19 19 13 rfl (by decide) (by decide) rfl (by decide), rm hx (-7) 7 7 25 rfl (by decide) (by decide) rfl (by decide), rm hx (-18) 18 18 14 rfl (by decide) (by decide) rfl (by decide)]
theorem not_eq {e : Int} (h : nJ e) : cj .u32 IntKind.u32.max e = V (4294967295 - e) := by
  obtain ⟨n, rfl⟩ := Int.eq_ofNat_of_zero_le h.1
  have hn : n < 2 ^ 32 := by have := h.2; omega
  unfold cj jh
  rw [show IntKind.u32.max = ((2 ^ 32 - 1 : Nat) : Int) by decide]
  have e1 : BitVec.ofInt 32 ((2 ^ 32 - 1 : Nat) : Int) = BitVec.allOnes 32 := by decide
  show IntKind.u32.wrap ((BitVec.ofInt 32 ((2 ^ 32 - 1 : Nat) : Int) ^^^ BitVec.ofInt 32 (n : Int)).toNat : Int) = _
  rw [e1, BitVec.allOnes_xor, BitVec.toNat_not, BitVec.ofInt_natCast, BitVec.toNat_ofNat, Nat.mod_eq_of_lt hn]
  unfold V
  congr 1
  omega
theorem adL {e : Int} (h : nJ e) (f g : Int) : S2.Mp e f g = chQ e f g := by unfold S2.Mp chQ; rw [not_eq h]
theorem Yw {s : List Int} (hs : Cn s) (k w : Int) : S2.Ih s k w = Ei s k w := by
  unfold S2.Ih Ei S2.t1W S2.t2W t1Q t2Q
  rw [Yu (hs.getD 4), Yv (hs.getD 0), adL (hs.getD 4)]
theorem Yx {s : List Int} (hs : Cn s) (k w : Int) : Cn (Ei s k w) := by
  intro x hx
  simp only [Ei, List.mem_cons, List.not_mem_nil, or_false] at hx
  rcases hx with rfl | rfl | rfl | rfl | rfl | rfl | rfl | rfl <;> first | exact D7 _ | exact hs.getD _
theorem GD {h : List Int} (hh : Cn (aH 8 h)) (k w : List Int) : ∀ j, aH 8 (IF h k w j) = S2.dK (aH 8 h) k w j ∧ Cn (S2.dK (aH 8 h) k w j)
  | 0 => ⟨rfl, hh⟩
  | j + 1 => by
    obtain ⟨h1, h2⟩ := GD hh k w j
    have e : aH 8 (IF h k w (j + 1)) = Ei (aH 8 (IF h k w j)) (k.getD j 0) (w.getD j 0) := rfl
    rw [e, h1, S2.dK, Yw h2]
    exact ⟨rfl, Yx h2 _ _⟩
theorem Yy {w : List Int} {j : Nat} (hj : j < 48) : nxJ w (16 + j) = nxQ (w.getD (14 + j) 0) (w.getD (1 + j) 0) (w.getD (9 + j) 0) (w.getD j 0) := by
  unfold nxJ
  rw [wrap_i64 _ (by omega) (by omega), wrap_i64 _ (by omega) (by omega), wrap_i64 _ (by omega) (by omega), wrap_i64 _ (by omega) (by omega)]
  rw [show 0 + ((16 : Int) + j - 2).toNat = 14 + j by omega, show 0 + ((16 : Int) + j - 15).toNat = 1 + j by omega, show 0 + ((16 : Int) + j - 7).toNat = 9 + j by omega, show 0 + ((16 : Int) + j - 16).toNat = j by omega]
theorem ow {a b : List Int} {i : Nat} (h : i < a.length) : (a ++ b).getD i 0 = a.getD i 0 := by
  rw [List.getD_eq_getElem?_getD, List.getD_eq_getElem?_getD, List.getElem?_append_left h]
theorem Co {w : List Int} (hw : w.length = 16) (hi : Cn w) : ∀ j, j ≤ 48 → S2.sched (w ++ List.replicate 48 0) j = wG w j ++ List.replicate (48 - j) 0 ∧ Cn (wG w j)
  | 0, _ => ⟨rfl, hi⟩
  | j + 1, hj => by
    obtain ⟨h1, h2⟩ := Co hw hi j (by omega)
    have hl : (wG w j).length = 16 + j := by rw [Ej, hw]
    refine ⟨?_, ?_⟩
    · rw [S2.sched, h1, ow (by omega), ow (by omega), ow (by omega), ow (by omega), adK (h2.getD _) (h2.getD _), wG, Yy (by omega)]
      rw [List.set_append_right _ _ (by omega), hl, show 16 + j - (16 + j) = 0 by omega, show 48 - j = (48 - (j + 1)) + 1 by omega, List.replicate_succ, List.set_cons_zero, List.append_assoc]
      rfl
    · intro x hx
      rw [wG, List.mem_append, List.mem_singleton] at hx
      rcases hx with hx | rfl
      · exact h2 x hx
      · exact D7 _
def By (l : List Int) : Prop := ∀ x ∈ l, 0 ≤ x ∧ x < 256
theorem By.getD {l : List Int} (h : By l) (i : Nat) : 0 ≤ l.getD i 0 ∧ l.getD i 0 < 256 := by
  rw [List.getD_eq_getElem?_getD]
  cases e : l[i]? with
  | none => exact ⟨by decide, by decide⟩
  | some x => exact h x (List.mem_of_getElem? e)
theorem mj (p : List Int) (a : Nat) {i : Nat} (hi : i < 64) : ((p.drop a).take 64).getD i 0 = p.getD (a + i) 0 := by
  rw [List.getD_eq_getElem?_getD, List.getD_eq_getElem?_getD, List.getElem?_take_of_lt hi, List.getElem?_drop]
theorem adM {p : List Int} (hp : By p) {a i : Nat} (ha : a < 10000000000000) (hi : i < 16) : wq p (ix a i) = S2.wd ((p.drop a).take 64) i := by
  rw [Un ha hi]
  unfold wq S2.wd
  rw [wrap_i64 _ (by omega) (by omega), wrap_i64 _ (by omega) (by omega), wrap_i64 _ (by omega) (by omega), mj p a (by omega), mj p a (by omega), mj p a (by omega), mj p a (by omega)]
  rw [show ((a + 4 * i : Nat) : Int).toNat = a + 4 * i by omega, show (((a + 4 * i : Nat) : Int) + 1).toNat = a + (4 * i + 1) by omega, show (((a + 4 * i : Nat) : Int) + 2).toNat = a + (4 * i + 2) by omega, show (((a + 4 * i : Nat) : Int) + 3).toNat = a + (4 * i + 3) by omega]
  have b0 := hp.getD (a + 4 * i)
  have b1 := hp.getD (a + (4 * i + 1))
  have b2 := hp.getD (a + (4 * i + 2))
  have b3 := hp.getD (a + (4 * i + 3))
  generalize p.getD (a + 4 * i) 0 = p0 at *
  generalize p.getD (a + (4 * i + 1)) 0 = p1 at *
  generalize p.getD (a + (4 * i + 2)) 0 = p2 at *
  generalize p.getD (a + (4 * i + 3)) 0 = p3 at *
  rw [tg _ _ (by decide), tg _ _ (by decide), tg _ _ (by decide)]
  simp only [S2.V, V, S2.wrap_u32]
  have e0 : p0 % 4294967296 * 2 ^ 24 % 4294967296 = 16777216 * p0 := by omega
  have e1 : p1 % 4294967296 * 2 ^ 16 % 4294967296 = 65536 * p1 := by omega
  have e2 : p2 % 4294967296 * 2 ^ 8 % 4294967296 = 256 * p2 := by omega
  have e3 : p3 % 4294967296 = p3 := by omega
  rw [e0, e1, e2, e3, B7 24 (16777216 * p0) (65536 * p1) (by omega) (by omega) (by omega) (by omega) (by omega) (by decide), B7 16 (16777216 * p0 + 65536 * p1) (256 * p2) (by omega) (by omega) (by omega) (by omega) (by omega) (by decide), B7 8 (16777216 * p0 + 65536 * p1 + 256 * p2) p3 (by omega) (by omega) (by omega) (by omega) (by omega) (by decide)]
  omega
theorem adN (p : List Int) (q : Int) : nJ (wq p q) := D7 _
theorem Uo {p : List Int} (hp : By p) {a : Nat} (ha : a < 10000000000000) : ∀ n, n ≤ 16 → wA p a n = (List.range n).map (S2.wd ((p.drop a).take 64))
  | 0, _ => rfl
  | n + 1, hn => by rw [wA, Uo hp ha n (by omega), List.range_succ, List.map_append, adM hp ha (show n < 16 by omega)]; rfl
theorem Up (p : List Int) (a : Int) : ∀ n, Cn (wA p a n)
  | 0 => fun x hx => absurd hx (by simp [wA])
  | n + 1 => by
    intro x hx
    rw [wA, List.mem_append, List.mem_singleton] at hx
    rcases hx with hx | rfl
    · exact Up p a n x hx
    · exact adN _ _
theorem Yz {h : List Int} (hh : Cn h) (n : Nat) : Cn (aH n h) := by
  intro x hx
  simp only [aH, List.mem_map] at hx
  obtain ⟨i, _, rfl⟩ := hx
  exact hh.getD i
theorem NL {p : List Int} (hp : By p) (kk : List Int) {h : List Int} (hl : h.length = 8) (hh : Cn h) {a : Nat} (ha : a < 10000000000000) : S2.gR h ((p.drop a).take 64) kk = pX p kk h a := by
  have e := Uo hp ha 16 (by omega)
  have e2 := (Co (Ad p a 16) (Up p a 16) 48 (by omega)).1
  rw [e] at e2
  have hq := (GD (Yz hh 8) kk (wG (wA p a 16) 48) 64).1
  unfold S2.gR pX
  rw [aC, hq, aF hl]
  unfold S2.Ig
  rw [e2, e, show 48 - 48 = 0 from rfl, List.replicate_zero, List.append_nil]
theorem YA (s t : List Int) : Cn (S2.Cj s t) := by
  intro x hx
  simp only [S2.Cj, List.mem_map] at hx
  obtain ⟨i, _, rfl⟩ := hx
  exact D7 _
theorem Su (s t : List Int) : (S2.Cj s t).length = 8 := by simp [S2.Cj]
theorem NM {p : List Int} (hp : By p) (kk : List Int) {h : List Int} (hl : h.length = 8) (hh : Cn h) : ∀ j, j < 10000000000 → S2.iy p kk h j = hN p kk h j ∧ Cn (hN p kk h j) ∧ (hN p kk h j).length = 8
  | 0, _ => ⟨rfl, hh, hl⟩
  | j + 1, hj => by
    obtain ⟨h1, h2, h3⟩ := NM hp kk hl hh j (by omega)
    rw [S2.iy, hN, h1, NL hp kk h3 h2 (show 64 * j < 10000000000000 by omega)]
    exact ⟨rfl, YA _ _, Su _ _⟩
theorem Uq {n : Nat} (hn : n < 9223372036854775808) : ∀ i, dQ n i = ((n / 32 / 256 ^ i : Nat) : Int)
  | 0 => by
    rw [dQ, Int.tdiv_eq_ediv_of_nonneg (by omega), wrap_i64 _ (by omega) (by omega), Nat.pow_zero, Nat.div_one]
    omega
  | i + 1 => by
    have hle : n / 32 / 256 ^ i ≤ n / 32 := Nat.div_le_self _ _
    have e : n / 32 / 256 ^ (i + 1) = n / 32 / 256 ^ i / 256 := by rw [Nat.pow_succ, ← Nat.div_div_eq_div_mul]
    rw [dQ, Uq hn i, e]
    generalize n / 32 / 256 ^ i = q at *
    rw [Int.tdiv_eq_ediv_of_nonneg (by omega), wrap_i64 _ (by omega) (by omega)]
    omega
theorem wrap_u8 (n : Int) : IntKind.u8.wrap n = n % 256 := by simp [IntKind.wrap, IntKind.signed, IntKind.bits]
theorem NN {n : Nat} (hn : n < 1000000000000000000) (i : Nat) : nN n i = ((8 * n / 256 ^ i % 256 : Nat) : Int) := by
  cases i with
  | zero =>
    rw [nN, Int.tmod_eq_emod_of_nonneg (by omega), wrap_i64 _ (by omega) (by omega), wrap_u8, Nat.pow_zero, Nat.div_one]
    omega
  | succ i =>
    have : 8 * n / 256 ^ (i + 1) = n / 32 / 256 ^ i := by
      rw [Nat.pow_succ, Nat.mul_comm (256 ^ i), ← Nat.div_div_eq_div_mul]
      congr 1
      omega
    rw [nN, Uq (by omega), this]
    generalize n / 32 / 256 ^ i = q
    rw [Int.tmod_eq_emod_of_nonneg (by omega), wrap_u8]
    omega
theorem adO {n : Nat} (hn : n < 1000000000000000000) (i : Nat) (hi : i < 8) : Af n i = ((8 * n / 256 ^ i % 256 : Nat) : Int) := by
  unfold Af
  rw [Yt ⟨by omega, by omega⟩, Fe.kO _ _ (by decide), Fe.dj _ _ _ (show 8 * i ≤ 64 by omega), wrap_u8]
  rw [Int.emod_eq_of_lt (a := (n : Int) * 2 ^ 3) (by omega) (by omega), show (n : Int) * 2 ^ 3 = ((8 * n : Nat) : Int) by omega, Int.pow_mul, show ((2 : Int) ^ 8) = ((256 : Nat) : Int) by decide]
  rw [← Int.natCast_pow, ← Int.natCast_ediv]
  generalize 8 * n / 256 ^ i = q
  omega
theorem Sv {n : Nat} (hn : n < 1000000000000000000) : Ii n = Ik n 8 := by
  have hl : ∀ i, i < 8 → nN n i = Af n i := fun i hi => by rw [NN hn, adO hn i hi]
  show _ = [nN n 7, nN n 6, nN n 5, nN n 4, nN n 3, nN n 2, nN n 1, nN n 0]
  rw [hl 7 (by decide), hl 6 (by decide), hl 5 (by decide), hl 4 (by decide), hl 3 (by decide), hl 2 (by decide), hl 1 (by decide), hl 0 (by decide)]
  rfl
theorem Sw {xs : List Int} (h : By xs) (pc q : Nat) : By (eC xs pc q) := by
  intro x hx
  simp only [eC, List.mem_append, List.mem_singleton, List.mem_replicate] at hx
  rcases hx with (hx | rfl) | ⟨_, rfl⟩
  · exact h x hx
  · decide
  · decide
theorem YB {xs : List Int} (h : xs.length < 1000000000000000000) : S2.rj xs = fQ xs := by unfold S2.rj S2.nM fQ; rw [Sv h]
theorem YC {xs : List Int} (hn : xs.length < 1000000000000000000) (h : By xs) : By (fQ xs) := by
  intro x hx
  rw [fQ, List.mem_append] at hx
  rcases hx with hx | hx
  · exact Sw h _ _ x hx
  · simp only [Ik, List.mem_map] at hx
    obtain ⟨i, _, rfl⟩ := hx
    rw [NN hn]; omega
theorem YD : Cn S2.qd := by
  intro x hx
  simp only [S2.qd, List.mem_map] at hx
  obtain ⟨i, _, rfl⟩ := hx
  exact D7 _
theorem jX {xs : List Int} (h : By xs) (hn : xs.length < 274877900000) : S2.aj xs = gL xs := by
  have hK : cR xs.length 64 56 < 64 := Nat.mod_lt _ (by omega)
  have hl : (fQ xs).length = xs.length + 1 + cR xs.length 64 56 + 8 := by unfold fQ; rw [List.length_append, ir]; rfl
  obtain ⟨h1, _, h3⟩ := NM (YC (by omega) h) S2.gA S2.qe YD ((fQ xs).length / 64) (by omega)
  unfold S2.aj gL
  rw [YB (by omega), h1, aC, aC, aF h3]
end Go.Proofs.YtibfpjeeanppjaaGreat.Q2
end
