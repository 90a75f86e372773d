/- This file proves the contracts of chacha's Pieces and Mix: a text and a stream. Conditions: nonces of 12 bytes; numbers that don't run out. -/
import Derived.Test.YtibfpjeeanppjaaGreatXCcA
import Derived.Test.YtibfpjeeanppjaaGreatXSxB
set_option linter.all false
set_option maxRecDepth 100000
namespace Go.Proofs.YtibfpjeeanppjaaGreat.Cc
open Go Go.Sy Sh
noncomputable def Jj : br := mk (P := Tryz.prog) [] []
theorem Ve : ag Tryz.prog Jj := ah _ aq.nil _ _
def psF : List SV → Option (SV × List Blk × Bool)
  | [.agg [.ints .u8 32 key], .ro false .u8 af, .int .i64 n] => some (.fn (.func 146) [] [.ptr 2 0 0, .ptr 0 0 0, .ptr 1 0 0], [.b [.ints .u8 32 key], .b [.ro false .u8 af], .b [.int .i64 n]], true)
  | _ => none
noncomputable def psE : Entry Tryz.prog := .val 113 _ Tryz.func113 (by decide) rfl true 3 psF fun vs v new e => by
  unfold psF at e
  split at e
  · cases e
    exact bn Ve 30 Tryz.func113 3 (by simp) (p := true) (by kernel_rfl) rfl rfl rfl
  · cases e
noncomputable def Cr (key af : List Int) (n : Int) (text : List Int) (i : Nat) : Int := cj .u8 (text.getD i 0) ((fc key af (n + (i / 64 : Nat))).getD (i % 64) 0)
noncomputable def jT (key af : List Int) (n : Int) (text : List Int) (m : Nat) : List Int := (List.range m).map (Cr key af n text) ++ List.replicate (text.length - m) 0
noncomputable def cv (key af : List Int) (n : Int) (text : List Int) : List Int := (List.range text.length).map (Cr key af n text)
theorem OS (key af : List Int) (n : Int) (text : List Int) : jT key af n text text.length = cv key af n text := by unfold jT cv; simp
theorem OT (key af : List Int) (n : Int) (text : List Int) {m : Nat} (h : m ≤ text.length) : (jT key af n text m).length = text.length := by unfold jT; simp; omega
theorem Jk (key af : List Int) (n : Int) (text : List Int) (m : Nat) : p9 (jT key af n text m) m [Cr key af n text m] 1 = jT key af n text (m + 1) := by
  have hr : ((List.range m).map (Cr key af n text)).length = m := by simp
  have hd : (jT key af n text m).drop (m + 1) = List.replicate (text.length - (m + 1)) 0 := by
    unfold jT
    rw [← List.drop_drop, List.drop_left' hr, List.drop_replicate]
    congr 1
  unfold p9
  rw [hd]
  unfold jT
  rw [List.take_left' hr, List.range_succ, List.map_append]
  rfl
noncomputable def mxB : Code := aE Tryz.f71
noncomputable def ZV : Code := inner (az 1 mxB)
noncomputable def Jl : Code := az 8 ZV
noncomputable def ZW : Code := inner (ZX (inner Jl))
noncomputable def OU : Code := az 1 ZW
noncomputable def ZY : Code := aE Tryz.f146
noncomputable def YT (a b : Bool) : br := mk (P := Tryz.prog) [] [] (fun i => if i = 43 then some a else if i = 49 then some b else none)
theorem oZ (a b : Bool) : ag Tryz.prog (YT a b) := ah _ aq.nil _ _
noncomputable def S8 : List (Option SV) := slotsOf 62 [(4, .ptr 0 0 0), (7, .ptr 1 0 0), (11, .ptr 3 0 0), (38, .fn (.func 146) [] [.ptr 6 0 0, .ptr 4 0 0, .ptr 5 0 0])]
noncomputable def wU (l : Nat) : Lp := Es Jl S8 l
noncomputable def GX (l : Nat) : Lp := { Es Jl S8 l with st := .busy }
noncomputable def N2 (l : Nat) : Lp := { Es Jl S8 l with st := .done, fh := some (.exit 0) }
noncomputable def ZZ (key af text l : List Int) (m : Nat) (n : Int) : List Blk := [.b [.ints .u8 32 key], .b [.ro false .u8 text], .b [.ints .u8 text.length l], .b [.sl 2 0 0 1 m text.length false false], .b [.ints .u8 32 key], .b [.ro false .u8 af], .b [.int .i64 n]]
noncomputable def uQ (key af text l : List Int) (m : Nat) (n : Int) (g : Option Lp) : List Blk := [.b [.ints .u8 32 key], .b [.ro false .u8 text], .b [.ints .u8 text.length l], .b [.sl 2 0 0 1 m text.length false false], .b [.ints .u8 32 key], .b [.ro false .u8 af], .b [.int .i64 n], .g g]
noncomputable def Ct (key af text l p : List Int) (m : Nat) (n : Int) (g : Option Lp) : List Blk := [.b [.ints .u8 32 key], .b [.ro false .u8 text], .b [.ints .u8 text.length l], .b [.sl 2 0 0 1 m text.length false false], .b [.ints .u8 32 key], .b [.ro false .u8 af], .b [.int .i64 n], .g g, .b [.ints .u8 64 p]]
noncomputable def Z0 (key af text l p q : List Int) (m : Nat) (n : Int) (g : Option Lp) : List Blk := [.b [.ints .u8 32 key], .b [.ro false .u8 text], .b [.ints .u8 text.length l], .b [.sl 2 0 0 1 m text.length false false], .b [.ints .u8 32 key], .b [.ro false .u8 af], .b [.int .i64 n], .g g, .b [.ints .u8 64 p], .b [.ints .u8 64 q]]
noncomputable def mxA (key af text l p q : List Int) (m : Nat) (n : Int) (g : Option Lp) : St := ⟨slotsOf 62 [(7, .ptr 1 0 0), (11, .ptr 3 0 0), (13, .ptr 9 0 0)], Z0 key af text l p q m n g, true⟩
noncomputable def GY (key af text l p q : List Int) (m : Nat) (n i : Int) (k : Nat) : St := ⟨slotsOf 62 [(7, .ptr 1 0 0), (11, .ptr 3 0 0), (41, .agg [.ints .u8 64 q]), (42, .int .i64 i)], Z0 key af text l p q m n (some (GX k)), true⟩
def N3 (i : Int) (m L n : Nat) : Bool := aa (aa (aa (aa (aa (aa true (decide (i < 64))) (decide (i.toNat < 64) && cN i 64)) (!(m : Int) == (L : Int))) (cN (m : Int) L)) (decide ((m : Int).toNat < L))) (aa (aa true (decide (m + 1 ≤ L))) (decide (n = L) && decide (0 + m + 1 ≤ L) && true))
section
variable (key af text l p q : List Int) (m k : Nat) (n i v : Int)
theorem Jm : (exec Tryz.prog (YT true true) 60 9 (wU k).qb ⟨uR (wU k).t (wU k).ps.toList [.int .i64 v, .agg [.ints .u8 64 q]], Ct key af text l p m n (some (wU k)), true⟩).bind (fun r => (r.2.cut [7, 11, 13] 10).map fun q => (r.1, q)) =
    some (.normal, mxA key af text l p q m n (some (wU k))) := by kernel_rfl
theorem S9 : (exec Tryz.prog (YT true true) 60 9 (az 0 ZW) (mxA key af text l p q m n (some (GX k)))).bind (fun r => (r.2.cut [7, 11, 41, 42] 10).map fun q => (r.1, q)) =
    some (.normal, GY key af text l p q m n 0 k) := by kernel_rfl
theorem Vf : (exec Tryz.prog (YT true false) 60 9 (inner (inner OU)) (GY key af text l p q m n i k)).bind (fun r => (r.2.cut [7, 11, 41, 42] 10).map fun q => (r.1, q)) =
    some (.normal, { GY key af text (p9 l (0 + m) [cj .u8 (text.getD (m : Int).toNat 0) (q.getD i.toNat 0)] 1) p q (m + 1) n (IntKind.i64.wrap (i + 1)) k with ob := N3 i m text.length l.length }) := by kernel_rfl
theorem Vg : (exec Tryz.prog (YT true true) 60 9 (inner (inner OU)) (GY key af text l p q m n i k)).bind (fun r => (r.2.cut [] 9).map fun q => (r.1, q)) =
    some (.exit 0, { t := slotsOf 62 [], h := Ct key af text l p m n (some (GX k)), ob := aa (aa (aa true (decide (i < 64))) (decide (i.toNat < 64) && cN i 64)) ((m : Int) == (text.length : Int)) }) := by kernel_rfl
theorem Vh : (exec Tryz.prog (YT false true) 60 9 (inner (inner OU)) (GY key af text l p q m n i k)).bind (fun r => (r.2.cut [] 9).map fun q => (r.1, q)) =
    some (.exit 2, { t := slotsOf 62 [], h := Ct key af text l p m n (some (GX k)), ob := aa true (!decide (i < 64)) }) := by kernel_rfl
end
theorem OV {P : Program} {ro : Option Nat} {k : Nat} (id j : Nat) (hj : j ≠ id) {c : Code} {s s' : St} (hc : lf id c = true) (h : iH P ro k (inner (inner c)) s (.exit j) s') : Tr P ro k c s (.exit j) s' := by
  cases c <;> simp [lf] at hc
  rename_i i b
  cases b <;> simp at hc
  subst hc
  exact Tr.rH (iH.loop h) hj
section
variable {key af text p : List Int} {n v : Int} {j k : Nat}
theorem EE (i : Nat) (hi : i < 64) (h : 64 * j + i < text.length) (k : Nat) :
    Tr Tryz.prog (some k) 9 (inner (inner OU)) (GY key af text (jT key af n text (64 * j + i)) p (fc key af (n + j)) (64 * j + i) n i k) .normal (GY key af text (jT key af n text (64 * j + (i + 1))) p (fc key af (n + j)) (64 * j + (i + 1)) n ((i + 1 : Nat) : Int) k) := by
  have e := Vf key af text (jT key af n text (64 * j + i)) p (fc key af (n + j)) (64 * j + i) k n i
  have ef : cj .u8 (text.getD (((64 * j + i : Nat) : Int)).toNat 0) ((fc key af (n + j)).getD (i : Int).toNat 0) = Cr key af n text (64 * j + i) := by
    unfold Cr
    rw [Int.toNat_natCast, Int.toNat_natCast, show (64 * j + i) / 64 = j by omega, show (64 * j + i) % 64 = i by omega]
  have ho : N3 i (64 * j + i) text.length text.length = true := by
    unfold N3
    have h1 : (!(((64 * j + i : Nat) : Int) == (text.length : Int))) = true := by simp; omega
    rw [h1, aM (by omega) (by omega), aM (by omega) (by omega)]
    simp only [au, Bool.and_eq_true, decide_eq_true_eq, true_and, and_true, Int.toNat_natCast]
    omega
  rw [ef, Nat.zero_add, Jk, OT _ _ _ _ (by omega), ho, wrap_i64 _ (by omega) (by omega)] at e
  refine Tr.post (Tr.cut (oZ true false) 60 _ 10 (by omega) e rfl) (bh.same ?_ ?_)
  · show (GY key af text [] p (fc key af (n + j)) 0 n _ k).t = (GY key af text [] p (fc key af (n + j)) 0 n _ k).t
    rw [show ((i : Int) + 1) = ((i + 1 : Nat) : Int) by omega]
  · rfl
theorem Jn : ZX (inner Jl) = .block 1 ZW := by kernel_rfl
theorem EF : lf 2 OU = true := by kernel_rfl
theorem OW (h : 64 * j + 64 ≤ text.length) (k : Nat) : OX Tryz.prog k [.int .i64 v, .agg [.ints .u8 64 (fc key af (n + j))]] (Ct key af text (jT key af n text (64 * j)) p (64 * j) n (some (wU k))) (.bool true)
    (Ct key af text (jT key af n text (64 * j + 64)) p (64 * j + 64) n (some (wU k))) := by
  have b1 : Tr Tryz.prog (some k) 9 OU (GY key af text (jT key af n text (64 * j)) p (fc key af (n + j)) (64 * j) n 0 k) .normal ⟨slotsOf 62 [], Ct key af text (jT key af n text (64 * j + 64)) p (64 * j + 64) n (some (GX k)), true⟩ := by
    have jR := Tr.loop (P := Tryz.prog) (ro := some k) (k := 9) 2 (c := OU) EF (fun i : Nat => GY key af text (jT key af n text (64 * j + i)) p (fc key af (n + j)) (64 * j + i) n i k) 64 (fun i hi => EE i hi (by omega) k)
      (Tr.cut (oZ false true) 60 _ 9 (Nat.le_refl _) (Vh key af text (jT key af n text (64 * j + 64)) p (fc key af (n + j)) (64 * j + 64) k n 64) rfl)
    exact Tr.post jR (bh.same rfl rfl)
  have b2 : Tr Tryz.prog (some k) 9 ZW (mxA key af text (jT key af n text (64 * j)) p (fc key af (n + j)) (64 * j) n (some (GX k))) .normal ⟨slotsOf 62 [], Ct key af text (jT key af n text (64 * j + 64)) p (64 * j + 64) n (some (GX k)), true⟩ := by
    refine Tr.ee ?_
    exact aY.item 0 (by decide) (Tr.cut (oZ true true) 60 _ 10 (by omega) (S9 ..) rfl) (aY.item 1 (by decide) b1 ⟨rfl, rfl⟩)
  have b3 := Tr.fE (id := 1) b2 (by simp)
  rw [← Jn] at b3
  have b0 := Tr.cut (ro := some k) (k := 9) (oZ true true) 60 _ 10 (by omega) (Jm key af text (jT key af n text (64 * j)) p (fc key af (n + j)) (64 * j) k n v) rfl
  exact OX.mk (i := 7) (L := wU k) (L1 := wU k) (L2 := GX k) (vs := [.int .i64 v, .agg [.ints .u8 64 (fc key af (n + j))]]) (h := Ct key af text (jT key af n text (64 * j)) p (64 * j) n (some (wU k)))
    (q := none) (x := .normal) (by kernel_rfl) rfl (by kernel_rfl) b0 rfl rfl rfl b3 rfl rfl rfl rfl
theorem OY (h0 : 64 * j ≤ text.length) (h : text.length < 64 * j + 64) (k : Nat) : OX Tryz.prog k [.int .i64 v, .agg [.ints .u8 64 (fc key af (n + j))]] (Ct key af text (jT key af n text (64 * j)) p (64 * j) n (some (wU k))) (.bool false)
    (Ct key af text (cv key af n text) p text.length n (some (N2 k))) := by
  obtain ⟨K, hK⟩ : ∃ K, text.length = 64 * j + K := ⟨text.length - 64 * j, by omega⟩
  have b1 : Tr Tryz.prog (some k) 9 OU (GY key af text (jT key af n text (64 * j)) p (fc key af (n + j)) (64 * j) n 0 k) (.exit 0) ⟨slotsOf 62 [], Ct key af text (cv key af n text) p text.length n (some (GX k)), true⟩ := by
    have ho : aa (aa (aa true (decide ((K : Int) < 64))) (decide ((K : Int).toNat < 64) && cN (K : Int) 64)) (((64 * j + K : Nat) : Int) == (text.length : Int)) = true := by
      rw [aM (by omega) (by omega), decide_eq_true (show (K : Int) < 64 by omega), decide_eq_true (show (K : Int).toNat < 64 by omega), hK, beq_self_eq_true]
      rfl
    have jR := iH.for (P := Tryz.prog) (ro := some k) (k := 9) (b := inner (inner OU)) (x := .exit 0) (by simp) (fun i : Nat => GY key af text (jT key af n text (64 * j + i)) p (fc key af (n + j)) (64 * j + i) n i k) K (fun i hi => EE i (by omega) (by omega) k)
      (Tr.cut (oZ true true) 60 _ 9 (Nat.le_refl _) (Vg key af text (jT key af n text (64 * j + K)) p (fc key af (n + j)) (64 * j + K) k n K) ho)
    have := OV 2 0 (by decide) EF jR
    refine Tr.post this (bh.same rfl ?_)
    show Ct key af text (jT key af n text (64 * j + K)) p (64 * j + K) n (some (GX k)) = _
    rw [← hK, OS]
  have b2 : Tr Tryz.prog (some k) 9 ZW (mxA key af text (jT key af n text (64 * j)) p (fc key af (n + j)) (64 * j) n (some (GX k))) (.exit 0) ⟨slotsOf 62 [], Ct key af text (cv key af n text) p text.length n (some (GX k)), true⟩ := by
    refine Tr.ee ?_
    exact aY.item 0 (by decide) (Tr.cut (oZ true true) 60 _ 10 (by omega) (S9 ..) rfl) (aY.leave 1 (by decide) (by simp) b1)
  have b3 := Tr.rH (id := 1) b2 (by decide)
  rw [← Jn] at b3
  have b0 := Tr.cut (ro := some k) (k := 9) (oZ true true) 60 _ 10 (by omega) (Jm key af text (jT key af n text (64 * j)) p (fc key af (n + j)) (64 * j) k n v) rfl
  exact OX.mk (i := 7) (L := wU k) (L1 := wU k) (L2 := GX k) (vs := [.int .i64 v, .agg [.ints .u8 64 (fc key af (n + j))]]) (h := Ct key af text (jT key af n text (64 * j)) p (64 * j) n (some (wU k)))
    (q := some (.exit 0)) (x := .exit 0) (by kernel_rfl) rfl (by kernel_rfl) b0 rfl rfl rfl b3 rfl rfl rfl rfl
end
noncomputable def Z1 (full : Bool) (_ : Int) (q key af text : List Int) (L : Nat) (l0 : List Int) (m L2 : Nat) (yu : List Int) (n : Int) (R : Lp) (k : Nat) : Bool :=
  @decide (∃ j : Nat, q = fc key af (n + j) ∧ m = 64 * j ∧ L = text.length ∧ L2 = text.length ∧ yu = key ∧ l0 = jT key af n text m ∧ R = wU k ∧ m ≤ text.length ∧ (full = true → m + 64 ≤ text.length) ∧ (full = false → text.length < m + 64)) (Classical.propDecidable _)
noncomputable def mxY (full : Bool) : Nat → List SV → List Blk → Option (SV × List Blk × Bool)
  | k, [.int .i64 v, .agg [.ints .u8 64 q]], [.b [.ints .u8 32 key], .b [.ro false .u8 text], .b [.ints .u8 L l0], .b [.sl 2 0 0 1 m L2 false false], .b [.ints .u8 32 yu], .b [.ro false .u8 af], .b [.int .i64 n], .g (some R), .b [.ints .u8 64 p]] =>
    match full with
    | true => some (.bool true, Ct key af text (jT key af n text (m + 64)) p (m + 64) n (some (wU k)), Z1 true v q key af text L l0 m L2 yu n R k)
    | false => some (.bool false, Ct key af text (cv key af n text) p text.length n (some (N2 k)), Z1 false v q key af text L l0 m L2 yu n R k)
  | _, _, _ => none
theorem Vi (full : Bool) : ∀ k vs h v h', mxY full k vs h = some (v, h', true) → OX Tryz.prog k vs h v h' := by
  intro k vs h v h' e
  unfold mxY at e
  split at e
  · split at e
    · simp only [Option.some.injEq, Prod.mk.injEq] at e
      obtain ⟨rfl, rfl, hx⟩ := e
      have hx := @of_decide_eq_true _ (Classical.propDecidable _) hx
      obtain ⟨j, rfl, rfl, rfl, rfl, rfl, rfl, rfl, h1, h2, h3⟩ := hx
      exact OW (h2 rfl) k
    · simp only [Option.some.injEq, Prod.mk.injEq] at e
      obtain ⟨rfl, rfl, hx⟩ := e
      have hx := @of_decide_eq_true _ (Classical.propDecidable _) hx
      obtain ⟨j, rfl, rfl, rfl, rfl, rfl, rfl, rfl, h1, h2, h3⟩ := hx
      exact OY h1 (h3 rfl) k
  · cases e
noncomputable def itC (full : Bool) : br := (mk (P := Tryz.prog) [pcE] []).Ta (mxY full)
theorem CQ (full : Bool) : ag Tryz.prog (itC full) := br.Jo (ah _ aq.nil _ _) (Vi full)
noncomputable def N4 (key af text l : List Int) (m : Nat) (n v : Int) (k : Nat) : St := ⟨slotsOf 27 [(0, .fn (.yield k) [] []), (1, .ptr 6 0 0), (2, .ptr 4 0 0), (3, .ptr 5 0 0), (5, .int .i64 v)], uQ key af text l m n (some (wU k)), true⟩
theorem AB {full : Bool} {key af text : List Int} {n v : Int} {j k : Nat} (hv : v = n + j) (h1 : 64 * j ≤ text.length) (h2 : full = true → 64 * j + 64 ≤ text.length) (h3 : full = false → text.length < 64 * j + 64) :
    Z1 full v (fc key af v) key af text text.length (jT key af n text (64 * j)) (64 * j) text.length key n (wU k) k = true :=
  @decide_eq_true _ (Classical.propDecidable _) ⟨j, by rw [hv], rfl, rfl, rfl, rfl, rfl, rfl, h1, h2, h3⟩
section
variable (key af text l : List Int) (m k : Nat) (n v : Int)
def itO (af : List Int) (v : Int) : Bool := decide (af.length = 12) && decide (0 ≤ v) && decide (v ≤ 4294967295)
theorem OZ : (aT Tryz.prog (itC true) 60 8 1 (atoms ZY) ⟨aO Tryz.f146.ntmps [.fn (.yield k) [] [], .ptr 6 0 0, .ptr 4 0 0, .ptr 5 0 0], uQ key af text l m n (some (wU k)), true⟩).bind (St.cut [0, 1, 2, 3, 5] 8) = some (N4 key af text l m n n k) := by kernel_rfl
theorem Vj : (exec Tryz.prog (itC true) 60 8 (inner (inner (az 1 ZY))) (N4 key af text l m n v k)).bind (fun r => (r.2.cut [0, 1, 2, 3, 5] 8).map fun q => (r.1, q)) =
    some (.normal, { N4 key af text (jT key af n text (m + 64)) (m + 64) n (IntKind.i64.wrap (v + 1)) k with ob := aa (aa true (aa true (itO af v))) (Z1 true v (fc key af v) key af text text.length l m text.length key n (wU k) k) }) := by kernel_rfl
theorem O5 : (exec Tryz.prog (itC false) 60 8 (inner (inner (az 1 ZY))) (N4 key af text l m n v k)).bind (fun r => (r.2.cut [] 8).map fun q => (r.1, q)) =
    some (.ret, ⟨slotsOf 27 [], uQ key af text (cv key af n text) text.length n (some (N2 k)), aa (aa true (aa true (itO af v))) (Z1 false v (fc key af v) key af text text.length l m text.length key n (wU k) k)⟩) := by kernel_rfl
end
theorem Z2 {key af text : List Int} {n : Int} (hn : af.length = 12) (h0 : 0 ≤ n) (h1 : n + (text.length / 64 : Nat) ≤ 4294967295) (k : Nat) :
    ai Tryz.prog 146 [.fn (.yield k) [] [], .ptr 6 0 0, .ptr 4 0 0, .ptr 5 0 0] (uQ key af text (jT key af n text 0) 0 n (some (wU k))) (.aQ []) (uQ key af text (cv key af n text) text.length n (some (N2 k))) := by
  have hO : ∀ j : Nat, j ≤ text.length / 64 → itO af (n + j) = true := fun j hj => by
    unfold itO
    rw [hn, decide_eq_true (show 0 ≤ n + (j : Int) by omega), decide_eq_true (show n + (j : Int) ≤ 4294967295 by omega)]
    rfl
  have bS : Tr Tryz.prog none 8 (az 1 ZY) (N4 key af text (jT key af n text 0) 0 n n k) .ret ⟨slotsOf 27 [], uQ key af text (cv key af n text) text.length n (some (N2 k)), true⟩ := by
    refine Tr.tI 0 (by kernel_rfl) ?_
    have jR := iH.for (P := Tryz.prog) (ro := none) (k := 8) (b := inner (inner (az 1 ZY))) (x := .ret) (s' := ⟨slotsOf 27 [], uQ key af text (cv key af n text) text.length n (some (N2 k)), true⟩) (by simp)
      (fun j : Nat => N4 key af text (jT key af n text (64 * j)) (64 * j) n (n + j) k) (text.length / 64) (fun j hj => ?_) ?_
    · refine iH.pre jR (bh.same ?_ rfl)
      show (N4 key af text [] 0 n _ k).t = (N4 key af text [] 0 n _ k).t
      rw [show n + ((0 : Nat) : Int) = n by omega]
    · have e := Vj key af text (jT key af n text (64 * j)) (64 * j) k n (n + j)
      rw [hO j (by omega), AB rfl (by omega) (fun _ => by omega) (fun h => by cases h), wrap_i64 _ (by omega) (by omega)] at e
      refine Tr.post (Tr.cut (CQ true) 60 _ 8 (by omega) e rfl) (bh.same ?_ rfl)
      show (N4 key af text [] 0 n _ k).t = (N4 key af text [] 0 n _ k).t
      rw [show n + (j : Int) + 1 = n + ((j + 1 : Nat) : Int) by omega]
    · have e := O5 key af text (jT key af n text (64 * (text.length / 64))) (64 * (text.length / 64)) k n (n + (text.length / 64 : Nat))
      rw [hO _ (Nat.le_refl _), AB rfl (by omega) (fun h => by cases h) (fun _ => by omega)] at e
      exact Tr.cut (CQ false) 60 _ 8 (by omega) e rfl
  refine ai.mk (vs := []) Tryz.func146 rfl (x := .ret) (s := ⟨slotsOf 27 [], uQ key af text (cv key af n text) text.length n (some (N2 k)), true⟩) ?_ (.inl rfl) (by kernel_rfl)
  refine aY.items (CQ true) 60 1 _ 8 (by show 8 ≤ 8; omega) (OZ key af text _ 0 k n) rfl (by decide) ?_
  exact aY.leave 1 (by decide) (by simp) bS
noncomputable def Z3 : br := mk (P := Tryz.prog) [chE, psE] [] (fun i => if i = 30 then some false else none)
theorem yw : ag Tryz.prog Z3 := ah _ aq.nil _ _
noncomputable def mx1 (key af text : List Int) (n : Int) : St := ⟨slotsOf 62 [(1, .ro false .u8 af), (2, .int .i64 n), (4, .ptr 0 0 0), (7, .ptr 1 0 0)], [.b [.ints .u8 32 key], .b [.ro false .u8 text]], true⟩
noncomputable def mx2 (key af text : List Int) (n : Int) : St := ⟨S8, [.b [.ints .u8 32 key], .b [.ro false .u8 text], .b [.ints .u8 text.length (List.replicate text.length 0)], .b [.sl 2 0 0 1 0 text.length true false], .b [.ints .u8 32 key], .b [.ro false .u8 af], .b [.int .i64 n]], true⟩
section
variable (key af text l : List Int) (n : Int)
theorem Z4 : (aT Tryz.prog Z3 60 0 1 (atoms mxB) ⟨aO Tryz.f71.ntmps [.agg [.ints .u8 32 key], .ro false .u8 af, .int .i64 n, .ro false .u8 text], [], true⟩).bind (St.cut [1, 2, 4, 7] 2) = some (mx1 key af text n) := by kernel_rfl
def mhO (af text : List Int) (n : Int) : Bool := aa (aa (aa true (aa true (decide (af.length = 12) && decide (0 ≤ n) && decide (n ≤ 4294967295)))) (!decide (IntKind.i64.wrap ((IntKind.i64.wrap (IntKind.i64.wrap ((text.length : Int) + 64) - 1)).tdiv 64) > IntKind.i64.wrap (IntKind.i64.wrap (4294967295 - n) + 1))))
  (true && IntKind.i64.wrap (text.length : Int) == (text.length : Int) && (true && decide ((1 : Int) * (text.length : Int) ≤ 281474976710656)))
theorem Z5 : (aT Tryz.prog Z3 60 0 8 (atoms ZV) (mx1 key af text n)).bind (St.cut [4, 7, 11, 38] 7) = some { mx2 key af text n with ob := mhO af text n } := by kernel_rfl
noncomputable def Z6 (key af text l : List Int) : St := ⟨slotsOf 62 [(8, .sl 2 0 0 1 text.length text.length false false), (9, .nl .nilIface)], [.b [.ints .u8 32 key], .b [.ro false .u8 text], .b [.ints .u8 text.length l]], true⟩
theorem Z7 : (aT Tryz.prog Z3 60 0 1 ((atoms ZV).drop 9) ⟨S8, uQ key af text l text.length n none, true⟩).bind (St.cut [8, 9] 3) = some (Z6 key af text l) := by kernel_rfl
theorem Z8 : oI Tryz.prog Z3 60 0 (((atoms ZV).drop 9).drop 1) (Z6 key af text l) = some (.ret, Z6 key af text l) := by kernel_rfl
end
theorem Vk : Jl = .block 0 (.rangeFunc (rfG (inner Jl)) (rfP (inner Jl)) (rfA (inner Jl)) (ZX (inner Jl))) := by kernel_rfl
theorem Jp : az 1 mxB = .scope ZV := by kernel_rfl
theorem O6 (key af text : List Int) (n : Int) : bh 0 (mx2 key af text n) ⟨S8, ZZ key af text (jT key af n text 0) 0 n, true⟩ := by
  have e : List.replicate text.length (0 : Int) = jT key af n text 0 := by simp [jT]
  unfold mx2
  rw [e]
  refine bh.Z9 ⟨PE.refl _, PE.refl _, PE.refl _, ⟨rfl, ?_⟩, PE.refl _, PE.refl _, PE.refl _, trivial⟩
  rintro e xs ⟨y, zs, hy, hz, rfl⟩
  refine ⟨y, zs, ?_, hz, rfl⟩
  rcases hy with h | ⟨p, c, a, h1, h2, h3, h4, _, h6, h7⟩
  · exact .inl h
  · exact .inr ⟨p, c, a, h1, h2, h3, h4, (by simp), h6, h7⟩
theorem Jq {af text : List Int} {n : Int} (hn : af.length = 12) (h0 : 0 ≤ n) (h1 : n + (text.length / 64 : Nat) ≤ 4294967295) (hl : text.length ≤ 281474976710656) : mhO af text n = true := by
  unfold mhO
  have e1 : ((text.length : Int) + 64 - 1).tdiv 64 = (((text.length + 63) / 64 : Nat) : Int) := by
    rw [show (text.length : Int) + 64 - 1 = ((text.length + 63 : Nat) : Int) by omega, Int.tdiv_eq_ediv_of_nonneg (by omega)]
    omega
  rw [wrap_i64 ((text.length : Int) + 64) (by omega) (by omega), wrap_i64 ((text.length : Int) + 64 - 1) (by omega) (by omega), e1, wrap_i64 (((text.length + 63) / 64 : Nat) : Int) (by omega) (by omega), wrap_i64 (4294967295 - n) (by omega) (by omega), wrap_i64 (4294967295 - n + 1) (by omega) (by omega), wrap_i64 (text.length : Int) (by omega) (by omega)]
  rw [hn, decide_eq_true h0, decide_eq_true (show n ≤ 4294967295 by omega), decide_eq_false (show ¬ ((((text.length + 63) / 64 : Nat) : Int) > 4294967295 - n + 1) by omega), decide_eq_true (show (1 : Int) * (text.length : Int) ≤ 281474976710656 by omega), beq_self_eq_true]
  rfl
theorem Jr {key af text : List Int} {n : Int} (hn : af.length = 12) (h0 : 0 ≤ n) (h1 : n + (text.length / 64 : Nat) ≤ 4294967295) (hl : text.length ≤ 281474976710656) :
    ai Tryz.prog 71 [.agg [.ints .u8 32 key], .ro false .u8 af, .int .i64 n, .ro false .u8 text] [] (.aQ [.sl 2 0 0 1 text.length text.length false false, .nl .nilIface]) [.b [.ints .u8 32 key], .b [.ro false .u8 text], .b [.ints .u8 text.length (cv key af n text)]] := by
  have CR : Tr Tryz.prog none 0 Jl ⟨S8, ZZ key af text (jT key af n text 0) 0 n, true⟩ .normal ⟨S8, uQ key af text (cv key af n text) text.length n none, true⟩ := by
    rw [Vk]
    refine Tr.block ?_
    exact Tr.range (q := some (.exit 0)) (first := []) (jW := [.ptr 6 0 0, .ptr 4 0 0, .ptr 5 0 0]) (v := .aQ []) true Tryz.func146 (by decide) rfl (by kernel_rfl) (h1 := fun l => uQ key af text (cv key af n text) text.length n (some (N2 l))) (fun l => Z2 hn h0 h1 l) (fun l => ⟨N2 l, by kernel_rfl, by kernel_rfl, by simp [N2], by kernel_rfl⟩) (fun l => rfl) rfl
  have hin : Tr Tryz.prog none 0 (az 1 mxB) (mx1 key af text n) .ret (Z6 key af text (cv key af n text)) := by
    rw [Jp]
    refine Tr.scope (Tr.ee ?_) (by simp)
    refine aY.items yw 60 8 _ 7 (by simp) (Z5 key af text n) (Jq hn h0 h1 hl) (by decide) ?_
    refine aY.pre ?_ (O6 key af text n) (by decide)
    refine aY.item 8 (by decide) CR ?_
    refine aY.items yw 60 1 _ 3 (by simp) (Z7 key af text _ n) rfl (by decide) ?_
    exact aY.rest yw 60 (Z8 key af text _) rfl
  have k : ai Tryz.prog 71 [.agg [.ints .u8 32 key], .ro false .u8 af, .int .i64 n, .ro false .u8 text] [] (.aQ [.sl 2 0 0 1 text.length text.length false false, .nl .nilIface]) [.b [.ints .u8 32 key], .b [.ro false .u8 text], .b [.ints .u8 text.length (cv key af n text)]] := by
    refine ai.mk (vs := [.sl 2 0 0 1 text.length text.length false false, .nl .nilIface]) Tryz.func71 rfl (x := .ret) (s := Z6 key af text (cv key af n text)) ?_ (.inl rfl) (by kernel_rfl)
    refine aY.items yw 60 1 _ 2 (by simp) (Z4 key af text n) rfl (by decide) ?_
    exact aY.leave 1 (by decide) (by simp) hin
  exact k
theorem CS {key af text : List Int} {n : Int} (hn : af.length = 12) (h0 : 0 ≤ n) (h1 : n + (text.length / 64 : Nat) ≤ 4294967295) (hl : text.length ≤ 281474976710656) :
    ai Tryz.prog 71 [.agg [.ints .u8 32 key], .ro false .u8 af, .int .i64 n, .ro false .u8 text] [] (.aQ [.ro true .u8 (cv key af n text), .nl .nilIface]) [] := by
  have hw : (cv key af n text).length = text.length := by simp [cv]
  have k := Jr (key := key) hn h0 h1 hl
  have k3 := ai.fz 2 0 (by simp) (by simp) k (u := .aQ [.ro true .u8 (((cv key af n text).drop 0).take text.length), .nl .nilIface]) (h2 := []) (p := aa (decide ((cv key af n text).length = text.length)) (decide (0 + text.length ≤ text.length) && true)) (by kernel_rfl) (by rw [hw, Nat.zero_add, decide_eq_true rfl, decide_eq_true (Nat.le_refl _)]; rfl)
  rw [List.drop_zero, List.take_of_length_le (by omega)] at k3
  exact k3
noncomputable def Tb : List SV → Option (SV × List Blk × Bool)
  | [.agg [.ints .u8 32 key], .ro false .u8 af, .int .i64 n, .ro false .u8 text] => some (.aQ [.sl 0 0 0 1 text.length text.length false false, .nl .nilIface], [.b [.ints .u8 text.length (cv key af n text)]], decide (af.length = 12) && decide (0 ≤ n) && decide (n + (text.length / 64 : Nat) ≤ 4294967295) && decide (text.length ≤ 281474976710656))
  | _ => none
noncomputable def aiB : Entry Tryz.prog := .val 71 _ Tryz.func71 (by decide) rfl true 1 Tb fun vs v new e => by
  unfold Tb at e
  split at e
  · simp only [Option.some.injEq, Prod.mk.injEq, Bool.and_eq_true, decide_eq_true_eq] at e
    obtain ⟨rfl, rfl, ⟨⟨h1, h2⟩, h3⟩, h4⟩ := e
    exact ai.Js [2] (Jr h1 h2 h3 h4) (by kernel_rfl)
  · cases e
noncomputable def AD : List SV → Option (SV × List Blk × Bool)
  | [.agg [.ints .u8 32 key], .ro false .u8 af, .int .i64 n, .ro false .u8 text] => some (.aQ [.ro true .u8 (cv key af n text), .nl .nilIface], [], decide (af.length = 12) && decide (0 ≤ n) && decide (n + (text.length / 64 : Nat) ≤ 4294967295) && decide (text.length ≤ 281474976710656))
  | _ => none
noncomputable def Au : Entry Tryz.prog := .val 71 _ Tryz.func71 (by decide) rfl true 0 AD fun vs v new e => by
  unfold AD at e
  split at e
  · simp only [Option.some.injEq, Prod.mk.injEq, Bool.and_eq_true, decide_eq_true_eq] at e
    obtain ⟨rfl, rfl, ⟨⟨h1, h2⟩, h3⟩, h4⟩ := e
    exact CS h1 h2 h3 h4
  · cases e
end Go.Proofs.YtibfpjeeanppjaaGreat.Cc
