/- This file holds the texts AeA, AeB, AeC, a section each. No conditions beyond those in the theorems. -/
import Derived.Test.YtibfpjeeanppjaaGreatXMe
import Derived.Test.YtibfpjeeanppjaaGreatXShG
set_option linter.all false
set_option maxRecDepth 100000
section
namespace Go.Proofs.YtibfpjeeanppjaaGreat.Ae
open Go Go.Sy
abbrev W (n : Int) : Int := IntKind.u64.wrap n
noncomputable def c0 : br := mk (P := Tryz.prog) [] []
theorem xp : ag Tryz.prog c0 := ah _ aq.nil _ _
def eE (l : List Int) : Int := [7, 6, 5, 4, 3, 2, 1, 0].foldl (fun n i => fT .u64 (cX .u64 n 8) (W (l.getD i 0))) 0
theorem Uv {l : List Int} (h : 8 ≤ l.length) : ai Tryz.prog 150 [.ro false .u8 l] [] (.int .u64 (eE l)) [] := by
  have i8 : ∀ i : Nat, i < 8 → cN (i : Int) l.length = true := fun i hi => by
    unfold cN
    simp only [Bool.and_eq_true, decide_eq_true_eq]
    omega
  have d8 : ∀ i : Nat, i < 8 → decide (i < l.length) = true := fun i hi => decide_eq_true (by omega)
  exact aG xp 200 Tryz.func150 (p := [7, 6, 5, 4, 3, 2, 1, 0].foldl (fun o i => aa (aa o (cN ((i : Nat) : Int) l.length)) (decide (i < l.length))) true) (by kernel_rfl)
    (by simp only [List.foldl, i8 7 (by decide), i8 6 (by decide), i8 5 (by decide), i8 4 (by decide), i8 3 (by decide), i8 2 (by decide), i8 1 (by decide), i8 0 (by decide), d8 7 (by decide), d8 6 (by decide), d8 5 (by decide), d8 4 (by decide), d8 3 (by decide), d8 2 (by decide), d8 1 (by decide), d8 0 (by decide)]; rfl) rfl
def Zp : List SV → Option (SV × List Blk × Bool)
  | [.ro false .u8 l] => some (.int .u64 (eE l), [], decide (8 ≤ l.length))
  | _ => none
noncomputable def Oo : Entry Tryz.prog := .val 150 _ Tryz.func150 (by decide) rfl true 0 Zp fun vs v new e => by
  unfold Zp at e
  split at e
  · simp only [Option.some.injEq, Prod.mk.injEq, decide_eq_true_eq] at e
    obtain ⟨rfl, rfl, h⟩ := e
    exact Uv h
  · cases e
def eB (n : Int) : List Int := (List.range 8).map fun i => IntKind.u8.wrap (bG .u64 n (8 * i))
theorem Uw (n : Int) : ai Tryz.prog 73 [.int .u64 n] [] (.ro true .u8 (eB n)) [] :=
  ai.frozen (N := 8) (ex := true) (wh := true) (ai.dD xp Tryz.func73 (n := 200) (by kernel_rfl)) rfl
def Zq : List SV → Option (SV × List Blk × Bool)
  | [.int .u64 n] => some (.ro true .u8 (eB n), [], true)
  | _ => none
noncomputable def Ux : Entry Tryz.prog := .val 73 _ Tryz.func73 (by decide) rfl false 0 Zq fun vs v new e => by
  unfold Zq at e
  split at e
  · cases e; exact Uw _
  · cases e
def g (m : List Int) (i : Nat) : Int := m.getD i 0
noncomputable def Uy (x y : Int) (m : List Int) : List Int := [g m 0, Fe.cg (g m 1) (Fe.mulL x y) 0, Fe.cg (g m 2) (Fe.fq x y) (Fe.bN (g m 1) (Fe.mulL x y) 0), W (g m 3 + Fe.bN (g m 2) (Fe.fq x y) (Fe.bN (g m 1) (Fe.mulL x y) 0))]
noncomputable def Uz (x y : Int) (m : List Int) : List Int := [g m 0, g m 1, Fe.cg (g m 2) (Fe.mulL x y) 0, Fe.cg (g m 3) (Fe.fq x y) (Fe.bN (g m 2) (Fe.mulL x y) 0)]
noncomputable def atC : br := mk (P := Tryz.prog) [Fe.uu, Fe.CA] []
theorem IG : ag Tryz.prog atC := ah _ aq.nil _ _
noncomputable def atF : List SV → List Blk → Option (SV × List Blk × Bool)
  | [.int .i64 i, .int .u64 x, .int .u64 y, .ptr 0 0 0], [.b [.ints .u64 4 m]] => bif i == 1 then some (.aQ [], [.b [.ints .u64 4 (Uy x y m)]], decide (m.length = 4) && Fe.cS (Fe.bN (g m 1) (Fe.mulL x y) 0)) else
    bif i == 2 then some (.aQ [], [.b [.ints .u64 4 (Uz x y m)]], decide (m.length = 4) && Fe.cS (Fe.bN (g m 2) (Fe.mulL x y) 0)) else none
  | _, _ => none
def SE (vs : List SV) (_ : List Blk) : List Nat := match vs with
  | [_, _, _, .ptr b _ _] => [b]
  | _ => []
theorem UA {x y : Int} {m : List Int} (hm : m.length = 4) (hc : Fe.cS (Fe.bN (g m 1) (Fe.mulL x y) 0) = true) : ai Tryz.prog 169 [.int .i64 1, .int .u64 x, .int .u64 y, .ptr 0 0 0] [.b [.ints .u64 4 m]] (.aQ []) [.b [.ints .u64 4 (Uy x y m)]] := by
  have k : ai Tryz.prog 169 [.int .i64 1, .int .u64 x, .int .u64 y, .ptr 0 0 0] [.b [.ints .u64 4 (aH 4 m)]] (.aQ []) [.b [.ints .u64 4 (Uy x y m)]] :=
    bn IG 60 Tryz.func169 1 (by simp) (p := aa true (Fe.cS (Fe.bN (g m 1) (Fe.mulL x y) 0))) (by kernel_rfl) (by rw [hc]; rfl) rfl rfl
  rw [aF hm] at k
  exact k
theorem UB {x y : Int} {m : List Int} (hm : m.length = 4) (hc : Fe.cS (Fe.bN (g m 2) (Fe.mulL x y) 0) = true) : ai Tryz.prog 169 [.int .i64 2, .int .u64 x, .int .u64 y, .ptr 0 0 0] [.b [.ints .u64 4 m]] (.aQ []) [.b [.ints .u64 4 (Uz x y m)]] := by
  have k : ai Tryz.prog 169 [.int .i64 2, .int .u64 x, .int .u64 y, .ptr 0 0 0] [.b [.ints .u64 4 (aH 4 m)]] (.aQ []) [.b [.ints .u64 4 (Uz x y m)]] :=
    bn IG 60 Tryz.func169 1 (by simp) (p := aa true (Fe.cS (Fe.bN (g m 2) (Fe.mulL x y) 0))) (by kernel_rfl) (by rw [hc]; rfl) rfl rfl
  rw [aF hm] at k
  exact k
noncomputable def atE : Entry Tryz.prog := .mut 169 _ Tryz.func169 (by decide) rfl SE 0 atF fun vs h0 v h1 e => by
  unfold atF at e
  split at e
  · rename_i i x y m
    by_cases h1 : i = 1
    · subst h1
      simp only [beq_self_eq_true, cond_true, Option.some.injEq, Prod.mk.injEq, Bool.and_eq_true, decide_eq_true_eq] at e
      obtain ⟨rfl, rfl, hm, hc⟩ := e
      exact UA hm hc
    · rw [beq_false_of_ne h1] at e
      by_cases h2 : i = 2
      · subst h2
        simp only [beq_self_eq_true, cond_true, cond_false, Option.some.injEq, Prod.mk.injEq, Bool.and_eq_true, decide_eq_true_eq] at e
        obtain ⟨rfl, rfl, hm, hc⟩ := e
        exact UB hm hc
      · rw [beq_false_of_ne h2] at e; cases e
  · cases e
end Go.Proofs.YtibfpjeeanppjaaGreat.Ae
end
section
namespace Go.Proofs.YtibfpjeeanppjaaGreat.Ae
open Go Go.Sy
def R (x : Int) : Prop := 0 ≤ x ∧ x < 18446744073709551616
theorem Iq (n : Int) : R (W n) := by
  unfold W R
  rw [Fe.wrap_u64]
  exact ⟨Int.emod_nonneg _ (by decide), Int.emod_lt_of_pos _ (by decide)⟩
theorem kW (x y c : Int) : R (Fe.cg x y c) := by
  unfold Fe.cg R
  rw [aC]
  have e : Extern.MathBitsCarry.m64 = 18446744073709551616 := rfl
  rw [e]
  have := Nat.mod_lt (x.toNat + y.toNat + c.toNat) (show 0 < 18446744073709551616 by decide)
  simp only [Int.ofNat_eq_natCast]
  omega
theorem uv (x y : Int) : R (Fe.mulL x y) := by rw [Fe.mulL, aC]; exact Iq _
theorem UC (x y : Int) : R (Fe.fq x y) := by rw [Fe.fq, aC]; exact Iq _
theorem UD (a b : Int) : R (fT .u64 a b) := Iq _
theorem Zr (a b : Int) : R (bO .u64 a b) := Iq _
theorem Ar (a b : Int) : R (gS .u64 a b) := Iq _
theorem ec {x y : Int} (hx : R x) (hy : R y) : Fe.cS (Fe.bN x y 0) = true := by
  obtain ⟨_, h⟩ := Fe.p8 hx.1 hy.1 (Int.le_refl 0)
  unfold Fe.cS
  rw [h]
  have := hx.2
  have := hy.2
  exact decide_eq_true (by omega)
theorem eF : R 0 := ⟨by decide, by decide⟩
theorem mI (l : List Int) : R (eE l) := by
  unfold eE
  simp only [List.foldl]
  exact UD _ _
noncomputable def YM (h : List Int) (r : Int) : List Int := [Fe.mulL (g h 0) r, Fe.fq (g h 0) r, 0, 0]
noncomputable def ti1 (h : List Int) (r s : Int) : List Int := Uy (g h 0) s (YM h r)
noncomputable def ti2 (h : List Int) (r s : Int) : List Int := Uy (g h 1) r (ti1 h r s)
noncomputable def YN (h : List Int) (r s : Int) : List Int := Uz (g h 1) s (ti2 h r s)
noncomputable def uy (h : List Int) (r s : Int) : List Int := Uz (g h 2) r (YN h r s)
noncomputable def xq (h : List Int) (r s : Int) : List Int := [g (uy h r s) 0, g (uy h r s) 1, g (uy h r s) 2, W (g (uy h r s) 3 + W (g h 2 * s))]
noncomputable def UE (h : List Int) (r s : Int) : Bool := aa (aa (aa (aa true (aa true (Fe.cS (Fe.bN (g (YM h r) 1) (Fe.mulL (g h 0) s) 0)))) (aa true (Fe.cS (Fe.bN (g (ti1 h r s) 1) (Fe.mulL (g h 1) r) 0)))) (aa true (Fe.cS (Fe.bN (g (ti2 h r s) 2) (Fe.mulL (g h 1) s) 0)))) (aa true (Fe.cS (Fe.bN (g (YN h r s) 2) (Fe.mulL (g h 2) r) 0)))
noncomputable def rd (h : List Int) (x y : Int) : List Int := [Fe.cg (g h 0) x 0, Fe.cg (g h 1) y (Fe.bN (g h 0) x 0), W (g h 2 + Fe.bN (g h 1) y (Fe.bN (g h 0) x 0))]
noncomputable def UF (m : List Int) : List Int := rd (rd [g m 0, g m 1, bO .u64 (g m 2) 3] (gS .u64 (g m 2) 3) (g m 3)) (fT .u64 (bG .u64 (g m 2) 2) (cX .u64 (g m 3) 62)) (bG .u64 (g m 3) 2)
noncomputable def Eo (m : List Int) : Bool := aa (aa true (Fe.cS (Fe.bN (g m 0) (gS .u64 (g m 2) 3) 0))) (Fe.cS (Fe.bN (Fe.cg (g m 0) (gS .u64 (g m 2) 3) 0) (fT .u64 (bG .u64 (g m 2) 2) (cX .u64 (g m 3) 62)) 0))
noncomputable def mJ (h : List Int) (r s : Int) : List Int := gH (UF (xq h r s))
noncomputable def tiC : br := mk (P := Tryz.prog) [Fe.uu, Fe.CA, atE] []
theorem II : ag Tryz.prog tiC := ah _ aq.nil _ _
noncomputable def YO : Code := aE Tryz.f167
noncomputable def su (h : List Int) (r s : Int) : Blk := .b [.ints .u64 3 h, .int .u64 r, .int .u64 s]
noncomputable def wY (h m : List Int) (r s : Int) : St := ⟨slotsOf 164 [(0, .ptr 0 0 0), (4, .ptr 1 0 0)], [su h r s, .b [.ints .u64 4 m]], true⟩
theorem yf (h : List Int) (r s : Int) : (aT Tryz.prog tiC 60 1 8 (atoms YO) ⟨aO Tryz.f167.ntmps [.ptr 0 0 0], [su h r s], true⟩).bind (St.cut [0, 4] 2) = some { wY h (xq h r s) r s with ob := UE h r s } := by kernel_rfl
theorem SF {x y : Int} {m : List Int} (h : R (g m 0)) : ∀ i, R (g (Uy x y m) i) := fun i => by
  match i with
  | 0 => exact h
  | 1 => exact kW _ _ _
  | 2 => exact kW _ _ _
  | 3 => exact Iq _
  | n + 4 => exact eF
theorem SG {x y : Int} {m : List Int} (h : R (g m 0)) (h1 : R (g m 1)) : ∀ i, R (g (Uz x y m) i) := fun i => by
  match i with
  | 0 => exact h
  | 1 => exact h1
  | 2 => exact kW _ _ _
  | 3 => exact kW _ _ _
  | n + 4 => exact eF
theorem UG (h : List Int) (r s : Int) : (∀ i, R (g (YM h r) i)) ∧ (∀ i, R (g (ti1 h r s) i)) ∧ (∀ i, R (g (ti2 h r s) i)) ∧ (∀ i, R (g (YN h r s) i)) ∧ (∀ i, R (g (uy h r s) i)) := by
  have h0 : ∀ i, R (g (YM h r) i) := fun i => by
    match i with
    | 0 => exact uv _ _
    | 1 => exact UC _ _
    | 2 => exact eF
    | 3 => exact eF
    | n + 4 => exact eF
  have h1 : ∀ i, R (g (ti1 h r s) i) := SF (h0 0)
  have h2 : ∀ i, R (g (ti2 h r s) i) := SF (h1 0)
  have h3 : ∀ i, R (g (YN h r s) i) := SG (h2 0) (h2 1)
  exact ⟨h0, h1, h2, h3, SG (h3 0) (h3 1)⟩
theorem IJ (h : List Int) (r s : Int) : UE h r s = true := by
  obtain ⟨h0, h1, h2, h3, _⟩ := UG h r s
  unfold UE
  rw [ec (h0 1) (uv _ _), ec (h1 1) (uv _ _), ec (h2 2) (uv _ _), ec (h3 2) (uv _ _)]
  rfl
theorem SH (h : List Int) (r s : Int) : ∀ i, R (g (xq h r s) i) := fun i => by
  obtain ⟨_, _, _, _, h4⟩ := UG h r s
  match i with
  | 0 => exact h4 0
  | 1 => exact h4 1
  | 2 => exact h4 2
  | 3 => exact Iq _
  | n + 4 => exact eF
theorem jg {m : List Int} (h : ∀ i, R (g m i)) : Eo m = true := by
  unfold Eo
  rw [ec (h 0) (Ar _ _), ec (kW _ _ _) (UD _ _)]
  rfl
theorem Zs (m : List Int) : ∀ i, R (g (UF m) i) := fun i => by
  match i with
  | 0 => exact kW _ _ _
  | 1 => exact kW _ _ _
  | 2 => exact Iq _
  | n + 3 => exact eF
theorem IK (h : List Int) (r s : Int) : (mJ h r s).length = 3 ∧ ∀ i, R (g (mJ h r s) i) := by
  rw [mJ, aC]
  exact ⟨rfl, Zs _⟩
theorem uz {h : List Int} (r s : Int) (hl : h.length = 3) : ai Tryz.prog 167 [.ptr 0 0 0] [su h r s] (.aQ []) [su (mJ h r s) r s] := by
  have k : ai Tryz.prog 167 [.ptr 0 0 0] [su (aH 3 h) r s] (.aQ []) [su (UF (aH 4 (xq (aH 3 h) r s))) r s] := by
    refine ai.cz II 60 8 1 Tryz.func167 (by simp) rfl (fun s' x hh => ?_) (s := wY (aH 3 h) (aH 4 (xq (aH 3 h) r s)) r s) (p := Eo (aH 4 (xq (aH 3 h) r s))) ?_ ?_ rfl rfl
    · refine aY.items II 60 8 _ 2 (by simp) (yf (aH 3 h) r s) (IJ _ _ _) (by decide) ?_
      rw [aF (show (xq (aH 3 h) r s).length = 4 from rfl)] at hh
      exact aY.pre hh (bh.same rfl rfl) (by decide)
    · generalize xq (aH 3 h) r s = m
      kernel_rfl
    · rw [aF (show (xq (aH 3 h) r s).length = 4 from rfl)]
      exact jg (SH _ _ _)
  rw [aF hl, aF (show (xq h r s).length = 4 from rfl)] at k
  rw [mJ, aC]
  exact k
def SI (vs : List SV) (_ : List Blk) : List Nat := match vs with
  | .ptr b _ _ :: _ => [b]
  | _ => []
noncomputable def uD : List SV → List Blk → Option (SV × List Blk × Bool)
  | [.ptr 0 0 0], [.b [.ints .u64 3 h, .int .u64 r, .int .u64 s]] => some (.aQ [], [su (mJ h r s) r s], decide (h.length = 3))
  | _, _ => none
noncomputable def yg : Entry Tryz.prog := .mut 167 _ Tryz.func167 (by decide) rfl SI 0 uD fun vs h0 v h1 e => by
  unfold uD at e
  split at e
  · simp only [Option.some.injEq, Prod.mk.injEq, decide_eq_true_eq] at e
    obtain ⟨rfl, rfl, h⟩ := e
    exact uz _ _ h
  · cases e
end Go.Proofs.YtibfpjeeanppjaaGreat.Ae
end
section
namespace Go.Proofs.YtibfpjeeanppjaaGreat.Ae
open Go Go.Sy
def bW (p : List Int) : List Int := (p9 (List.replicate 17 0) 0 p (Nat.min p.length 17)).set (0 + (p.length : Int).toNat) 1
def bH (p : List Int) : List Int := ((bW p).drop 8).take 9
noncomputable def CC (h p : List Int) : List Int := [Fe.cg (g h 0) (eE (bW p)) 0, Fe.cg (g h 1) (eE (bH p)) (Fe.bN (g h 0) (eE (bW p)) 0), W (g h 2 + W (W ((bW p).getD 16 0) + Fe.bN (g h 1) (eE (bH p)) (Fe.bN (g h 0) (eE (bW p)) 0)))]
noncomputable def Zt : br := mk (P := Tryz.prog) [Fe.uu, Oo, yg] []
theorem IL : ag Tryz.prog Zt := ah _ aq.nil _ _
noncomputable def UH (h p : List Int) : Bool :=
  let L := p.length
  let b0 := p9 (List.replicate 17 0) 0 p (Nat.min L 17)
  let o1 := aa (aa (aa true (aa true (true && decide (0 + Nat.min L 17 ≤ 17) && decide (Nat.min L 17 ≤ L)))) (cN (L : Int) 17)) (decide (0 + (L : Int).toNat < 17) && decide (b0.length = 17))
  let o2 := aa o1 (aa (aa (decide ((bW p).length = 17) && true) (decide ((bW p).length = 17))) (decide (8 ≤ (bW p).length)))
  let o3 := aa o2 (aa (aa (true && decide (17 ≤ (bW p).length)) (decide ((bH p).length = 9))) (decide (8 ≤ (bH p).length)))
  aa (aa o3 (Fe.cS (Fe.bN (g h 0) (eE (bW p)) 0))) (aa true (decide (3 = 3)))
theorem UI {p : List Int} (hp : p.length ≤ 16) : (p9 (List.replicate 17 0) 0 p (Nat.min p.length 17)).length = 17 ∧ (bW p).length = 17 ∧ (bH p).length = 9 := by
  have e : Nat.min p.length 17 = p.length := Nat.min_eq_left (by omega)
  have h1 : (p9 (List.replicate 17 (0 : Int)) 0 p (Nat.min p.length 17)).length = 17 := oT (by simp) (by rw [e]; omega) (by rw [e]; exact Nat.le_refl _)
  have h2 : (bW p).length = 17 := by unfold bW; rw [List.length_set]; exact h1
  exact ⟨h1, h2, by unfold bH; rw [List.length_take, List.length_drop, h2]; rfl⟩
theorem GP {h p : List Int} (h0 : R (g h 0)) (hp : p.length ≤ 16) : UH h p = true := by
  obtain ⟨h1, h2, h3⟩ := UI hp
  have e : Nat.min p.length 17 = p.length := Nat.min_eq_left (by omega)
  have hi : cN (p.length : Int) 17 = true := by
    unfold cN
    simp only [Bool.and_eq_true, decide_eq_true_eq]
    omega
  unfold UH
  simp only [h1, h2, h3, hi, ec h0 (mI _)]
  rw [e, decide_eq_true (show 0 + p.length ≤ 17 by omega), decide_eq_true (Nat.le_refl _), decide_eq_true (show 0 + (p.length : Int).toNat < 17 by omega)]
  rfl
noncomputable def rD (h p : List Int) (r s : Int) : List Int := mJ (CC h p) r s
theorem CD {h p : List Int} (r s : Int) (hl : h.length = 3) (h0 : R (g h 0)) (hp : p.length ≤ 16) : ai Tryz.prog 151 [.ptr 0 0 0, .ro false .u8 p] [su h r s] (.aQ []) [su (rD h p r s) r s] := by
  have k : ai Tryz.prog 151 [.ptr 0 0 0, .ro false .u8 p] [su (aH 3 h) r s] (.aQ []) [su (rD (aH 3 h) p r s) r s] :=
    bn IL 60 Tryz.func151 1 (by simp) (p := UH (aH 3 h) p) (by kernel_rfl) (GP (by rw [aF hl]; exact h0) hp) rfl rfl
  rw [aF hl] at k
  exact k
theorem UJ (h p : List Int) (r s : Int) : (rD h p r s).length = 3 ∧ ∀ i, R (g (rD h p r s) i) := IK _ _ _
noncomputable def IM : List SV → List Blk → Option (SV × List Blk × Bool)
  | [.ptr 0 0 0, .ro false .u8 p], [.b [.ints .u64 3 h, .int .u64 r, .int .u64 s]] => some (.aQ [], [su (rD h p r s) r s], decide (h.length = 3) && Fe.u64 (g h 0) && decide (p.length ≤ 16))
  | _, _ => none
noncomputable def uE : Entry Tryz.prog := .mut 151 _ Tryz.func151 (by decide) rfl SI 0 IM fun vs h0 v h1 e => by
  unfold IM at e
  split at e
  · simp only [Option.some.injEq, Prod.mk.injEq, Bool.and_eq_true, decide_eq_true_eq] at e
    obtain ⟨rfl, rfl, ⟨h1, h2⟩, h3⟩ := e
    exact CD _ _ h1 (Fe.jw.1 h2) h3
  · cases e
noncomputable def IN (l : List Int) : Int := W (g l 2 + Fe.bN (g l 1) 0 (Fe.bN (g l 0) 5 0))
noncomputable def UK (l : List Int) : List Int := [Fe.cg (g l 0) 5 0, Fe.cg (g l 1) 0 (Fe.bN (g l 0) 5 0), W (IN l - 4)]
noncomputable def nP (l : List Int) : List Int := if IN l ≥ 4 then UK l else l
noncomputable def UL (a : Bool) : br := mk (P := Tryz.prog) [Fe.uu, Oo, Ux, Sh.iO] [] fun i => if i = 38 then some a else none
theorem oU (a : Bool) : ag Tryz.prog (UL a) := ah _ aq.nil _ _
noncomputable def Oq : Code := aE Tryz.f152
noncomputable def Ah (h key l : List Int) (r s i : Int) : St := ⟨slotsOf 71 [(3, .ptr 1 0 0), (4, .ptr 2 0 0), (5, .ptr 3 0 0), (18, .int .i64 i)], [su h r s, .b [.ints .u8 32 key], .b [.ints .u8 16 (List.replicate 16 0)], .b [.ints .u64 3 (aH 3 l)]], true⟩
def mK (key : List Int) : List Int := (key.drop 16).take 16
def IP (key : List Int) : List Int := (key.drop 24).take 8
noncomputable def enW (l key : List Int) : List Int := eB (Fe.cg (g l 0) (eE (mK key)) 0) ++ eB (Fe.cg (g l 1) (eE (IP key)) (Fe.bN (g l 0) (eE (mK key)) 0))
noncomputable def enO (l key : List Int) : Bool := aa (aa (aa true (aa (aa (true && decide (32 ≤ key.length)) (decide ((mK key).length = 16))) (decide (8 ≤ (mK key).length)))) (aa (aa (true && decide (32 ≤ key.length)) (decide ((IP key).length = 8))) (decide (8 ≤ (IP key).length)))) (Fe.cS (Fe.bN (g l 0) (eE (mK key)) 0))
section
variable (h key l : List Int) (r s : Int)
theorem Ot : (aT Tryz.prog (UL true) 60 1 3 (atoms Oq) ⟨aO Tryz.f152.ntmps [.ptr 0 0 0, .agg [.ints .u8 32 key]], [su (aH 3 h) r s], true⟩).bind (St.cut [3, 4, 5, 18] 4) = some (Ah (aH 3 h) key h r s 0) := by kernel_rfl
theorem Zu : (exec Tryz.prog (UL true) 60 1 (inner (inner (az 3 Oq))) (Ah h key l r s 0)).bind (fun r => (r.2.cut [3, 4, 5, 18] 4).map fun q => (r.1, q)) =
    some (.normal, { Ah h key (UK (aH 3 l)) r s 1 with ob := aa (aa true (Fe.cS (Fe.bN (g (aH 3 l) 0) 5 0))) (decide (IN (aH 3 l) ≥ 4)) }) := by kernel_rfl
theorem Zv : (exec Tryz.prog (UL false) 60 1 (inner (inner (az 3 Oq))) (Ah h key l r s 0)).bind (fun r => (r.2.cut [3, 4, 5, 18] 4).map fun q => (r.1, q)) =
    some (.normal, { Ah h key l r s 1 with ob := aa (aa true (Fe.cS (Fe.bN (g (aH 3 l) 0) 5 0))) (!decide (IN (aH 3 l) ≥ 4)) }) := by kernel_rfl
theorem Zw : (exec Tryz.prog (UL true) 60 1 (inner (inner (az 3 Oq))) (Ah h key l r s 1)).bind (fun r => (r.2.cut [3, 4, 5, 18] 4).map fun q => (r.1, q)) =
    some (.normal, { Ah h key (UK (aH 3 l)) r s 2 with ob := aa (aa true (Fe.cS (Fe.bN (g (aH 3 l) 0) 5 0))) (decide (IN (aH 3 l) ≥ 4)) }) := by kernel_rfl
theorem Zx : (exec Tryz.prog (UL false) 60 1 (inner (inner (az 3 Oq))) (Ah h key l r s 1)).bind (fun r => (r.2.cut [3, 4, 5, 18] 4).map fun q => (r.1, q)) =
    some (.normal, { Ah h key l r s 2 with ob := aa (aa true (Fe.cS (Fe.bN (g (aH 3 l) 0) 5 0))) (!decide (IN (aH 3 l) ≥ 4)) }) := by kernel_rfl
theorem UM : (exec Tryz.prog (UL true) 60 1 (inner (inner (az 3 Oq))) (Ah h key l r s 2)).bind (fun r => (r.2.cut [3, 4, 5, 18] 4).map fun q => (r.1, q)) =
    some (.exit 0, Ah h key l r s 2) := by kernel_rfl
end
theorem uF : R 5 := ⟨by decide, by decide⟩
theorem SJ (l : List Int) : ∀ i, R (g (UK l) i) := fun i => by
  match i with
  | 0 => exact kW _ _ _
  | 1 => exact kW _ _ _
  | 2 => exact Iq _
  | n + 3 => exact eF
theorem SK {l : List Int} (hl : l.length = 3) (h : ∀ i, R (g l i)) : (nP l).length = 3 ∧ ∀ i, R (g (nP l) i) := by
  unfold nP
  split
  · exact ⟨rfl, SJ l⟩
  · exact ⟨hl, h⟩
theorem Ou (h key : List Int) {l : List Int} (r s : Int) (hl : l.length = 3) (h0 : R (g l 0)) : Tr Tryz.prog none 1 (inner (inner (az 3 Oq))) (Ah h key l r s 0) .normal (Ah h key (nP l) r s 1) := by
  have e := aF hl
  unfold nP
  split
  · rename_i ht
    have k := Zu h key l r s
    rw [e, ec h0 uF, decide_eq_true ht] at k
    exact Tr.post (Tr.cut (oU true) 60 _ 4 (by omega) k rfl) (bh.same rfl rfl)
  · rename_i ht
    have k := Zv h key l r s
    rw [e, ec h0 uF, decide_eq_false ht] at k
    exact Tr.post (Tr.cut (oU false) 60 _ 4 (by omega) k rfl) (bh.same rfl rfl)
theorem Ov (h key : List Int) {l : List Int} (r s : Int) (hl : l.length = 3) (h0 : R (g l 0)) : Tr Tryz.prog none 1 (inner (inner (az 3 Oq))) (Ah h key l r s 1) .normal (Ah h key (nP l) r s 2) := by
  have e := aF hl
  unfold nP
  split
  · rename_i ht
    have k := Zw h key l r s
    rw [e, ec h0 uF, decide_eq_true ht] at k
    exact Tr.post (Tr.cut (oU true) 60 _ 4 (by omega) k rfl) (bh.same rfl rfl)
  · rename_i ht
    have k := Zx h key l r s
    rw [e, ec h0 uF, decide_eq_false ht] at k
    exact Tr.post (Tr.cut (oU false) 60 _ 4 (by omega) k rfl) (bh.same rfl rfl)
noncomputable def Ow (h key : List Int) : List Int := enW (nP (nP h)) key
theorem UN {h key : List Int} (r s : Int) (hl : h.length = 3) (hh : ∀ i, R (g h i)) (hk : key.length = 32) : ai Tryz.prog 152 [.ptr 0 0 0, .agg [.ints .u8 32 key]] [su h r s] (.agg [.ints .u8 16 (Ow h key)]) [su h r s] := by
  obtain ⟨l1, r1⟩ := SK hl hh
  obtain ⟨l2, r2⟩ := SK l1 r1
  have bS : Tr Tryz.prog none 1 (az 3 Oq) (Ah (aH 3 h) key h r s 0) .normal (Ah (aH 3 h) key (nP (nP h)) r s 2) :=
    Tr.As 0 (by kernel_rfl) (iH.step (Ou _ key r s hl (hh 0)) (iH.step (Ov _ key r s l1 (r1 0)) (iH.leave (Tr.cut (oU true) 60 _ 4 (by omega) (UM (aH 3 h) key (nP (nP h)) r s) rfl) (by simp))))
  have k : ai Tryz.prog 152 [.ptr 0 0 0, .agg [.ints .u8 32 key]] [su (aH 3 h) r s] (.agg [.ints .u8 16 (enW (aH 3 (nP (nP h))) key)]) [su (aH 3 h) r s] := by
    refine ai.cz (oU true) 60 4 1 Tryz.func152 (by simp) rfl (fun s' x hx => ?_) (s := Ah (aH 3 h) key (nP (nP h)) r s 2) (p := enO (aH 3 (nP (nP h))) key) ?_ ?_ rfl rfl
    · refine aY.items (oU true) 60 3 _ 4 (by simp) (Ot h key r s) rfl (by decide) ?_
      exact aY.item 3 (by decide) bS hx
    · generalize nP (nP h) = l
      kernel_rfl
    · unfold enO mK IP
      rw [aF l2, ec (r2 0) (mI _)]
      simp [hk, aa]
  rw [aF hl, aF l2] at k
  exact k
noncomputable def Zy : List SV → List Blk → Option (SV × Bool)
  | [.ptr 0 0 0, .agg [.ints .u8 32 key]], [.b [.ints .u64 3 h, .int .u64 r, .int .u64 s]] => some (.agg [.ints .u8 16 (Ow h key)], decide (h.length = 3) && Fe.u64 (g h 0) && Fe.u64 (g h 1) && Fe.u64 (g h 2) && decide (key.length = 32))
  | _, _ => none
def ZA (vs : List SV) : List Nat := match vs with
  | .ptr b _ _ :: _ => [b]
  | _ => []
noncomputable def ZB : Entry Tryz.prog := .YP 152 _ Tryz.func152 (by decide) rfl ZA Zy fun vs h0 v e => by
  unfold Zy at e
  split at e
  · rename_i key h r s
    simp only [Option.some.injEq, Prod.mk.injEq, Bool.and_eq_true, decide_eq_true_eq] at e
    obtain ⟨rfl, ⟨⟨⟨h1, h2⟩, h3⟩, h4⟩, h5⟩ := e
    refine UN _ _ h1 (fun i => ?_) h5
    match i with
    | 0 => exact Fe.jw.1 h2
    | 1 => exact Fe.jw.1 h3
    | 2 => exact Fe.jw.1 h4
    | n + 3 =>
      have : g h (n + 3) = 0 := by
        unfold g
        rw [List.getD_eq_getElem?_getD, List.getElem?_eq_none (by omega)]; rfl
      rw [this]; exact eF
  · cases e
end Go.Proofs.YtibfpjeeanppjaaGreat.Ae
end
