/- This file holds the texts LaC, LaD, LaE, LaF, a section each. No conditions beyond those in the theorems. -/
import Derived.Test.YtibfpjeeanppjaaGreatXLaB
set_option linter.all false
set_option maxRecDepth 100000
section
namespace Go.Proofs.YtibfpjeeanppjaaGreat.La
open Go Go.Sy Re Fe
theorem Pn {x : Int} : u8 x = true ↔ 0 ≤ x ∧ x < 256 := Fe.mN
theorem JU : ∀ n : Fin 256, bO .u8 ((n.val : Nat) : Int) 248 = IntKind.u8.wrap (IntKind.u8.wrap (((n.val : Nat) : Int).tdiv 8) * 8) ∧ u8 (bO .u8 ((n.val : Nat) : Int) 248) = true := by decide +kernel
theorem Po : ∀ n : Fin 256, fT .u8 (bO .u8 ((n.val : Nat) : Int) 127) 64 = IntKind.u8.wrap (((n.val : Nat) : Int).tmod 64 + 64) ∧ u8 (fT .u8 (bO .u8 ((n.val : Nat) : Int) 127) 64) = true ∧
    IntKind.i64.wrap (bO .u8 (bG .u8 (fT .u8 (bO .u8 ((n.val : Nat) : Int) 127) 64) 7) 1) = 0 := by decide +kernel
theorem mV {P : Int → Prop} (h : ∀ n : Fin 256, P ((n.val : Nat) : Int)) {x : Int} (hx : u8 x = true) : P x := by
  obtain ⟨h0, h1⟩ := Pn.1 hx
  have := h ⟨x.toNat, by omega⟩
  rwa [show (((⟨x.toNat, by omega⟩ : Fin 256).val : Nat) : Int) = x by show ((x.toNat : Nat) : Int) = x; omega] at this
theorem yI {l : List Int} (h : l.all u8 = true) (i : Nat) {a : Int} (ha : u8 a = true) : (l.set i a).all u8 = true := by
  rw [List.all_eq_true] at h ⊢
  intro x hx
  rcases List.mem_or_eq_of_mem_set hx with hx | rfl
  · exact h x hx
  · exact ha
theorem qi {l : List Int} (h : l.all u8 = true) (i : Nat) : u8 (l.getD i 0) = true := by
  rw [List.getD_eq_getElem?_getD]
  cases e : l[i]? with
  | none => rfl
  | some x => exact List.all_eq_true.1 h x (List.mem_of_getElem? e)
theorem Tn {l : List Int} (h : l.all u8 = true) (hn : l.length = 32) : rq l = clR l ∧ (rq l).all u8 = true ∧ (rq l).length = 32 ∧ aW (rq l) / 2 ^ 255 % 2 = 0 := by
  have e0 := mV (P := fun x => bO .u8 x 248 = IntKind.u8.wrap (IntKind.u8.wrap (x.tdiv 8) * 8) ∧ u8 (bO .u8 x 248) = true) JU (qi h 0)
  have hs := yI h 0 e0.2
  have e1 := mV (P := fun x => fT .u8 (bO .u8 x 127) 64 = IntKind.u8.wrap (x.tmod 64 + 64) ∧ u8 (fT .u8 (bO .u8 x 127) 64) = true ∧ IntKind.i64.wrap (bO .u8 (bG .u8 (fT .u8 (bO .u8 x 127) 64) 7) 1) = 0) Po (qi hs 31)
  have hl : (rq l).length = 32 := by unfold rq; rw [List.length_set, List.length_set, hn]
  have ha : (rq l).all u8 = true := yI hs 31 e1.2.1
  refine ⟨?_, ha, hl, ?_⟩
  · unfold rq clR
    rw [e1.1, e0.1]
  · have hb := yJ ha hl (i := 255) (by omega)
    rw [← hb]
    unfold tr
    have hg : (rq l).getD 31 0 = fT .u8 (bO .u8 ((l.set 0 (bO .u8 (l.getD 0 0) 248)).getD 31 0) 127) 64 := by
      unfold rq
      rw [List.getD_eq_getElem?_getD, List.getElem?_set_self (by rw [List.length_set, hn]; omega)]; rfl
    show IntKind.i64.wrap (bO .u8 (bG .u8 ((rq l).getD 31 0) 7) 1) = 0
    rw [hg]
    exact e1.2.2
def bt (e : List Int) (j : Nat) : Bool := decide (aW e / 2 ^ (255 - j) % 2 = 1)
theorem JV (x : Int) : C7 (decide (x % 2 = 1)) = x % 2 := by
  by_cases h : x % 2 = 1
  · rw [decide_eq_true h, h]; rfl
  · rw [decide_eq_false h]
    show (0 : Int) = _
    omega
theorem Pp {e : List Int} (h : e.all u8 = true) (hn : e.length = 32) {j : Nat} (hj : j < 256) : tr e (255 - j) = C7 (bt e j) := by
  rw [show (255 : Int) - j = ((255 - j : Nat) : Int) by omega, yJ h hn (by omega)]
  exact (JV _).symm
theorem JW {e : List Int} (he : e.all u8 = true) (hn : e.length = 32) {i : Nat} (h1 : i < 256) : w6 e i = aW e / 2 ^ i % 2 := by
  have hd := j5 e he
  rw [hn] at hd
  have v0 := dr he
  generalize aW e = v at *
  have e1 : (i : Int).tdiv 8 = ((i / 8 : Nat) : Int) := by rw [Int.tdiv_eq_ediv_of_nonneg (by omega)]; omega
  have e2 : (i : Int).tmod 8 = ((i % 8 : Nat) : Int) := by rw [Int.tmod_eq_emod_of_nonneg (by omega)]; omega
  have w1 : IntKind.i64.wrap ((i / 8 : Nat) : Int) = ((i / 8 : Nat) : Int) := wrap_i64 _ (by omega) (by omega)
  have w2 : IntKind.u64.wrap ((i % 8 : Nat) : Int) = ((i % 8 : Nat) : Int) := by rw [wrap_u64]; omega
  unfold w6
  rw [e1, e2, w1, w2, Int.toNat_natCast, Int.toNat_natCast, Nat.zero_add, hd, fI _ _ _ (by omega)]
  rw [dj _ _ _ (by show i % 8 ≤ 8; omega)]
  have hs : v / 256 ^ (i / 8) / 2 ^ (i % 8) = v / 2 ^ i := by
    rw [Int.ediv_ediv_of_nonneg (Int.pow_nonneg (by omega)), show (256 : Int) = 2 ^ 8 from rfl, ← Int.pow_mul, ← Int.pow_add]
    congr 2
    omega
  rw [← hs]
  generalize v / 256 ^ (i / 8) = Y
  have hr : i % 8 = 0 ∨ i % 8 = 1 ∨ i % 8 = 2 ∨ i % 8 = 3 ∨ i % 8 = 4 ∨ i % 8 = 5 ∨ i % 8 = 6 ∨ i % 8 = 7 := by omega
  rcases hr with h | h | h | h | h | h | h | h <;> rw [h] <;> simp only [Int.reducePow] <;> rw [Int.tmod_eq_emod_of_nonneg (by omega)] <;> omega
theorem jA {a b : List Int} (ha : Bd a) (hb : Bd b) : Bd (fM a b) ∧ fv (fM a b) = mm (fv a) (fv b) := yK ha hb
theorem uZ {a b : List Int} (ha : Bd a) (hb : Bd b) : Bd (gE a b) ∧ fv (gE a b) = ma (fv a) (fv b) := yL ha hb
theorem xC {a b : List Int} (ha : Bd a) (hb : Bd b) : Bd (gF a b) ∧ fv (gF a b) = ms (fv a) (fv b) := Pq ha hb
structure BW (s : W4) : Prop where
  x0 : Bd s.1
  z0 : Bd s.2.1
  x1 : Bd s.2.2.1
  z1 : Bd s.2.2.2
def fvs (s : W4) : S4 := (fv s.1, fv s.2.1, fv s.2.2.1, fv s.2.2.2)
theorem To : Bd (cw 121665) ∧ fv (cw 121665) = 121665 := by
  obtain ⟨h1, h2⟩ := nT (n := 121665) (by decide) (by decide)
  exact ⟨h1, by unfold fv; rw [h2]; decide⟩
section
variable {u x z x' z' : List Int} (hu : Bd u) (hx : Bd x) (hz : Bd z) (hx' : Bd x') (j4 : Bd z')
include hx hz in
theorem EX : Bd (wdX x z) ∧ fv (wdX x z) = dX (fv x) (fv z) := by
  obtain ⟨a1, a2⟩ := uZ hx hz
  obtain ⟨b1, b2⟩ := xC hx hz
  obtain ⟨c1, c2⟩ := jA a1 a1
  obtain ⟨d1, d2⟩ := jA b1 b1
  obtain ⟨e1, e2⟩ := jA c1 d1
  exact ⟨e1, by unfold wdX dX; rw [e2, c2, d2, a2, b2]⟩
include hx hz in
theorem Pr : Bd (wdE x z) ∧ fv (wdE x z) = dE (fv x) (fv z) := by
  obtain ⟨a1, a2⟩ := uZ hx hz
  obtain ⟨b1, b2⟩ := xC hx hz
  obtain ⟨c1, c2⟩ := jA a1 a1
  obtain ⟨d1, d2⟩ := jA b1 b1
  obtain ⟨e1, e2⟩ := xC c1 d1
  exact ⟨e1, by unfold wdE dE; rw [e2, c2, d2, a2, b2]⟩
include hx hz in
theorem EY : Bd (wdZ x z) ∧ fv (wdZ x z) = dZ (fv x) (fv z) := by
  obtain ⟨a1, a2⟩ := uZ hx hz
  obtain ⟨c1, c2⟩ := jA a1 a1
  obtain ⟨e1, e2⟩ := Pr hx hz
  obtain ⟨f1, f2⟩ := jA To.1 e1
  obtain ⟨g1, g2⟩ := uZ c1 f1
  obtain ⟨h1, h2⟩ := jA e1 g1
  exact ⟨h1, by unfold wdZ dZ; rw [h2, g2, f2, e2, c2, a2, To.2]⟩
include hx hz hx' j4 in
theorem EZ : Bd (VK x z x' z') ∧ fv (VK x z x' z') = aL (fv x) (fv z) (fv x') (fv z') := by
  obtain ⟨a1, a2⟩ := uZ hx hz
  obtain ⟨b1, b2⟩ := xC hx' j4
  obtain ⟨c1, c2⟩ := jA b1 a1
  exact ⟨c1, by unfold VK aL; rw [c2, a2, b2]⟩
include hx hz hx' j4 in
theorem E0 : Bd (VL x z x' z') ∧ fv (VL x z x' z') = aR (fv x) (fv z) (fv x') (fv z') := by
  obtain ⟨a1, a2⟩ := xC hx hz
  obtain ⟨b1, b2⟩ := uZ hx' j4
  obtain ⟨c1, c2⟩ := jA b1 a1
  exact ⟨c1, by unfold VL aR; rw [c2, a2, b2]⟩
include hx hz hx' j4 in
theorem E2 : Bd (waX x z x' z') ∧ fv (waX x z x' z') = aX (fv x) (fv z) (fv x') (fv z') := by
  obtain ⟨a1, a2⟩ := EZ hx hz hx' j4
  obtain ⟨b1, b2⟩ := E0 hx hz hx' j4
  obtain ⟨c1, c2⟩ := uZ a1 b1
  obtain ⟨d1, d2⟩ := jA c1 c1
  exact ⟨d1, by unfold waX aX; rw [d2, c2, a2, b2]⟩
include hu hx hz hx' j4 in
theorem E3 : Bd (waZ u x z x' z') ∧ fv (waZ u x z x' z') = aZ (fv u) (fv x) (fv z) (fv x') (fv z') := by
  obtain ⟨a1, a2⟩ := EZ hx hz hx' j4
  obtain ⟨b1, b2⟩ := E0 hx hz hx' j4
  obtain ⟨c1, c2⟩ := xC a1 b1
  obtain ⟨d1, d2⟩ := jA c1 c1
  obtain ⟨e1, e2⟩ := jA hu d1
  exact ⟨e1, by unfold waZ aZ; rw [e2, d2, c2, a2, b2]⟩
end
theorem JX {u : List Int} (hu : Bd u) (b : Bool) {s : W4} (h : BW s) : BW (G4 u b s) ∧ fvs (G4 u b s) = Pu (fv u) b (fvs s) := by
  cases b with
  | true =>
    have a := E2 h.x1 h.z1 h.x0 h.z0
    have c := E3 hu h.x1 h.z1 h.x0 h.z0
    have d := EX h.x1 h.z1
    have e := EY h.x1 h.z1
    exact ⟨⟨a.1, c.1, d.1, e.1⟩, Prod.ext a.2 (Prod.ext c.2 (Prod.ext d.2 e.2))⟩
  | false =>
    have a := E2 h.x0 h.z0 h.x1 h.z1
    have c := E3 hu h.x0 h.z0 h.x1 h.z1
    have d := EX h.x0 h.z0
    have e := EY h.x0 h.z0
    exact ⟨⟨d.1, e.1, a.1, c.1⟩, Prod.ext d.2 (Prod.ext e.2 (Prod.ext a.2 c.2))⟩
theorem yM : Bd (cw 1) ∧ fv (cw 1) = 1 := by
  obtain ⟨h1, h2⟩ := nT (n := 1) (by decide) (by decide)
  exact ⟨h1, by unfold fv; rw [h2]; decide⟩
theorem JY {u : List Int} (hu : Bd u) (bits : Nat → Bool) : ∀ j, BW (wN u bits j) ∧ fvs (wN u bits j) = run (fv u) bits (Cw (fv u)) j
  | 0 => by
    refine ⟨⟨yM.1, Bd.z5, hu, yM.1⟩, ?_⟩
    show (fv (cw 1), fv z5, fv u, fv (cw 1)) = (1, 0, fv u, 1)
    rw [yM.2, show fv z5 = 0 by decide]
  | j + 1 => by
    obtain ⟨h1, h2⟩ := JY hu bits j
    obtain ⟨h3, h4⟩ := JX hu (bits j) h1
    exact ⟨h3, by rw [wN, h4, h2]; rfl⟩
theorem Pv {u : List Int} (hu : Bd u) (bits : Nat → Bool) : Bd (EV u bits) ∧ fv (EV u bits) = fin (run (fv u) bits (Cw (fv u)) 256) := by
  obtain ⟨h1, h2⟩ := JY hu bits 256
  obtain ⟨h3, h4⟩ := Pw h1.z0
  obtain ⟨h5, h6⟩ := jA h1.x0 h3
  rw [EV, aC]
  refine ⟨h5, ?_⟩
  rw [h6, h4, ← h2]
  rfl
structure OL (s : L4) : Prop where
  x0 : j3 s.1 = true
  z0 : j3 s.2.1 = true
  x1 : j3 s.2.2.1 = true
  z1 : j3 s.2.2.2 = true
noncomputable def vrs (s : L4) : S4 := (vR s.1, vR s.2.1, vR s.2.2.1, vR s.2.2.2)
theorem o7 (a b : List Int) : vR (rA a b) = ma (vR a) (vR b) := tN _
theorem rK (a b : List Int) : vR (rS a b) = ms (vR a) (vR b) := tN _
theorem fV (a b : List Int) : vR (rM a b) = mm (vR a) (vR b) := tN _
theorem Px (u k : List Int) (b : Bool) (s : L4) : OL (JT u k b s) := by
  cases b with
  | true => exact ⟨eJ _, eJ _, eJ _, eJ _⟩
  | false => exact ⟨eJ _, eJ _, eJ _, eJ _⟩
theorem aaJ (x z : List Int) : vR (YW x z) = dX (vR x) (vR z) := by unfold YW dX; rw [fV, fV, fV, o7, rK]
theorem afM (x z : List Int) : vR (qdE x z) = dE (vR x) (vR z) := by unfold qdE dE; rw [rK, fV, fV, o7, rK]
theorem aaK {k : List Int} (hk : vR k = 121665) (x z : List Int) : vR (YX k x z) = dZ (vR x) (vR z) := by unfold YX dZ; rw [fV, o7, fV, fV, o7, afM, hk]
theorem aaL (x z x' z' : List Int) : vR (YY x z x' z') = aL (vR x) (vR z) (vR x') (vR z') := by unfold YY aL; rw [fV, rK, o7]
theorem aaM (x z x' z' : List Int) : vR (YZ x z x' z') = aR (vR x) (vR z) (vR x') (vR z') := by unfold YZ aR; rw [fV, o7, rK]
theorem aaN (x z x' z' : List Int) : vR (Y0 x z x' z') = aX (vR x) (vR z) (vR x') (vR z') := by unfold Y0 aX; rw [fV, o7, aaL, aaM]
theorem aaO (u x z x' z' : List Int) : vR (Y1 u x z x' z') = aZ (vR u) (vR x) (vR z) (vR x') (vR z') := by unfold Y1 aZ; rw [fV, fV, rK, aaL, aaM]
theorem JZ {k : List Int} (hk : vR k = 121665) (u : List Int) (b : Bool) (s : L4) : vrs (JT u k b s) = Pu (vR u) b (vrs s) := by
  cases b with
  | true =>
    show (vR (Y0 _ _ _ _), vR (Y1 _ _ _ _ _), vR (YW _ _), vR (YX _ _ _)) = (_, _, _, _)
    rw [aaN, aaO, aaJ, aaK hk]; rfl
  | false =>
    show (vR (YW _ _), vR (YX _ _ _), vR (Y0 _ _ _ _), vR (Y1 _ _ _ _ _)) = (_, _, _, _)
    rw [aaN, aaO, aaJ, aaK hk]; rfl
end Go.Proofs.YtibfpjeeanppjaaGreat.La
end
section
namespace Go.Proofs.YtibfpjeeanppjaaGreat.La
open Go Go.Sy Re Fe
noncomputable def Al (sec : List Int) (n : Int) : Int := fin (run n (fun j => bt (rq sec) (j + 1)) (Cw n) 255)
noncomputable def aK (sec : List Int) (n : Int) : List Int := gH (fR 32 (Al sec n))
theorem cI (sec : List Int) (n : Int) : (aK sec n).length = 32 := by rw [aK, aC, mW]
theorem j6 (sec : List Int) (n : Int) : ak (aK sec n) = true := bK.2 ⟨cI _ _, by rw [aK, aC]; exact E4 _ _⟩
theorem nU (sec : List Int) (n : Int) : 0 ≤ Al sec n ∧ Al sec n < Pm := mod_range _
theorem yN {sec : List Int} (h : ak sec = true) : (gX sec).all u8 = true ∧ (gX sec).length = 32 ∧ aW (gX sec) / 2 ^ 255 % 2 = 0 ∧ gX sec = clR sec := by
  obtain ⟨h1, h2⟩ := bK.1 h
  obtain ⟨a, b, c, d⟩ := Tn h2 h1
  rw [gX, aC]
  exact ⟨b, c, d, a⟩
noncomputable def J0 : List SV → Option (SV × List Blk × Bool)
  | [.agg [.ints .u8 32 sec], .agg [.ints .u64 5 u]] => some (.agg [.ints .u64 5 (EV u (bt (gX sec)))], [], ak sec)
  | _ => none
noncomputable def J1 : Entry Tryz.prog := .val 64 _ Tryz.func64 (by decide) rfl false 0 J0 fun vs v new e => by
  unfold J0 at e
  split at e
  · simp only [Option.some.injEq, Prod.mk.injEq] at e
    obtain ⟨rfl, rfl, h⟩ := e
    obtain ⟨a, b, _⟩ := yN h
    exact JS (bK.1 h).1 fun j hj => Pp a b hj
  · cases e
theorem xD {sec u : List Int} (h : ak sec = true) (hu : Bd u) : eW (EV u (bt (gX sec))) = aK sec (fv u) := by
  obtain ⟨h1, h2⟩ := Pv hu (bt (gX sec))
  obtain ⟨_, _, c, _⟩ := yN h
  have hb : bt (gX sec) 0 = false := by
    unfold bt
    rw [show 255 - 0 = 255 from rfl, c]; rfl
  rw [h1.bytes, h2, VT _ _ hb 254, aK, aC, Al, gX, aC]
theorem AO : Bd (cw 9) ∧ fv (cw 9) = 9 := by
  obtain ⟨h1, h2⟩ := nT (n := 9) (by decide) (by decide)
  exact ⟨h1, by unfold fv; rw [h2]; decide⟩
noncomputable def pbC : br := mk (P := Tryz.prog) [J1, Fe.fj, Fe.yO, Fe.E5] []
theorem VU : ag Tryz.prog pbC := ah _ aq.nil _ _
noncomputable def E6 : List SV → Option (SV × List Blk × Bool)
  | [.agg [.ints .u8 32 sec]] => some (.agg [.ints .u8 32 (aK sec 9)], [], ak sec)
  | _ => none
theorem G5 {sec : List Int} (h : ak sec = true) : ai Tryz.prog 37 [.agg [.ints .u8 32 sec]] [] (.agg [.ints .u8 32 (aK sec 9)]) [] := by
  have k : ai Tryz.prog 37 [.agg [.ints .u8 32 sec]] [] (.agg [.ints .u8 32 (eW (EV (cw 9) (bt (gX sec))))]) [] :=
    aG VU 60 Tryz.func37 (p := aa true (aa true (ak sec))) (by kernel_rfl) (by rw [h]; rfl) rfl
  rw [xD h AO.1, AO.2] at k
  exact k
noncomputable def Ez : Entry Tryz.prog := .val 37 _ Tryz.func37 (by decide) rfl false 0 E6 fun vs v new e => by
  unfold E6 at e
  split at e
  · simp only [Option.some.injEq, Prod.mk.injEq] at e
    obtain ⟨rfl, rfl, h⟩ := e
    exact G5 h
  · cases e
noncomputable def aaP : List SV → Option (SV × List Blk × Bool)
  | [.agg [.ints .u8 32 l]] => some (.agg [.ints .u8 32 (gX l)], [], ak l)
  | _ => none
theorem VV {l : List Int} (h : ak l = true) : ai Tryz.prog 85 [.agg [.ints .u8 32 l]] [] (.agg [.ints .u8 32 (gX l)]) [] := by
  rw [(yN h).2.2.2]
  have hl := (bK.1 h).1
  exact aG VQ 60 Tryz.func85 (p := aa (aa true (true && decide (l.length = 32))) (true && decide ((l.set 0 (IntKind.u8.wrap (IntKind.u8.wrap ((l.getD 0 0).tdiv 8) * 8))).length = 32))) (by kernel_rfl) (by rw [List.length_set, hl]; rfl) rfl
noncomputable def afN : Entry Tryz.prog := .val 85 _ Tryz.func85 (by decide) rfl false 0 aaP fun vs v new e => by
  unfold aaP at e
  split at e
  · simp only [Option.some.injEq, Prod.mk.injEq] at e
    obtain ⟨rfl, rfl, h⟩ := e
    exact VV h
  · cases e
noncomputable def afO : br := mk (P := Tryz.prog) [Re.fj] [] fun i => if i = 7 then some false else none
theorem E7 : ag Tryz.prog afO := ah _ aq.nil _ _
def E8 : List SV → Option Int
  | [.int .i64 n] => bif n == 9 then some 9 else bif n == 121665 then some 121665 else none
  | _ => none
noncomputable def aaQ (vs : List SV) : Option (SV × List Blk × Bool) := (E8 vs).map fun n => (.agg [.ints .i64 16 (cn n)], [], true)
def sm9 : List Int := 9 :: List.replicate 31 0
def smK : List Int := 56129 :: 1 :: List.replicate 30 0
theorem Py : AP sm9 = cn 9 := by unfold AP; rw [show sB (gD sm9) 32 % Pm = 9 by decide]
theorem Pz : AP smK = cn 121665 := by unfold AP; rw [show sB (gD smK) 32 % Pm = 121665 by decide]
theorem G6 : ai Tryz.prog 54 [.int .i64 9] [] (.agg [.ints .i64 16 (cn 9)]) [] := by
  rw [← Py]
  exact aG E7 60 Tryz.func54 (p := true) (by kernel_rfl) rfl rfl
theorem G7 : ai Tryz.prog 54 [.int .i64 121665] [] (.agg [.ints .i64 16 (cn 121665)]) [] := by
  rw [← Pz]
  exact aG E7 60 Tryz.func54 (p := true) (by kernel_rfl) rfl rfl
noncomputable def E9 : Entry Tryz.prog := .val 54 _ Tryz.func54 (by decide) rfl false 0 aaQ fun vs v new e => by
  unfold aaQ E8 at e
  split at e
  · rename_i n
    by_cases h1 : n = 9
    · subst h1
      cases e
      exact G6
    · by_cases h2 : n = 121665
      · subst h2
        cases e
        exact G7
      · rw [show (n == 9) = false by simpa using h1, show (n == 121665) = false by simpa using h2] at e
        cases e
  · cases e
noncomputable def cfC (b : Bool) : br := mk (P := Tryz.prog) [Re.uE, Re.JN, Re.rJ, Re.VM, Re.yO, afN, E9] [] fun i => if i = 32 then some b else none
theorem J2 (b : Bool) : ag Tryz.prog (cfC b) := ah _ aq.nil _ _
noncomputable def l0 (u : List Int) : L4 := (oJ, Ix, u, oJ)
noncomputable def kR : List Int := cn 121665
theorem C9 : vR kR = 121665 ∧ j3 kR = true := ⟨iR (by decide) (by decide), u5 (by decide) (by decide)⟩
theorem yP (sec u : List Int) : (aT Tryz.prog (cfC true) 60 0 8 (atoms (aE Tryz.f53)) ⟨aO Tryz.f53.ntmps [.agg [.ints .u8 32 sec], .agg [.ints .i64 16 u]], [], true⟩).bind (St.cut [2, 3, 4, 5, 6, 7, 8, 9, 10, 11] 9) = some { Ak sec u (gX sec) (l0 u) kR 254 with ob := aa true (aa true (ak sec)) } := by kernel_rfl
noncomputable def qN (u : List Int) (bits : Nat → Bool) : Nat → L4
  | 0 => l0 u
  | j + 1 => JT u kR (bits j) (qN u bits j)
theorem yQ {u : List Int} (hu : j3 u = true) (bits : Nat → Bool) : ∀ j, OL (qN u bits j) ∧ vrs (qN u bits j) = run (vR u) bits (Cw (vR u)) j
  | 0 => ⟨⟨show j3 oJ = true by decide, show j3 Ix = true by decide, hu, show j3 oJ = true by decide⟩, by
    show (vR oJ, vR Ix, vR u, vR oJ) = (1, 0, vR u, 1)
    rw [show vR oJ = 1 by decide, show vR Ix = 0 by decide]⟩
  | j + 1 => ⟨Px _ _ _ _, by rw [qN, JZ C9.1, (yQ hu bits j).2]; rfl⟩
theorem J3 {i : Int} (h0 : 0 ≤ i) (h1 : i < 256) : qbO i = true := by
  have e : i.tdiv 8 = i / 8 := Int.tdiv_eq_ediv_of_nonneg h0
  have e2 : i.tmod 8 = i % 8 := Int.tmod_eq_emod_of_nonneg h0
  have w : IntKind.i64.wrap (i.tdiv 8) = i / 8 := by rw [e]; exact wrap_i64 _ (by omega) (by omega)
  have w2 : IntKind.u64.wrap (i.tmod 8) = i % 8 := by rw [e2, wrap_u64]; omega
  unfold qbO cN
  rw [w, w2]
  simp only [au, Bool.and_eq_true, decide_eq_true_eq, true_and]
  omega
theorem VW (sec u cl k : List Int) (s : L4) (i : Int) (h : i = -1) : Tr Tryz.prog none 0 coB (Ak sec u cl s k i) (.exit 0) (Ak sec u cl s k (-1)) := by
  subst h
  exact Tr.post (Tr.cut (jl false false false) 60 _ 9 (by omega) (VS sec u cl k s (-1)) rfl) (bh.same rfl rfl)
theorem PA {sec u : List Int} (h : ak sec = true) (hu : j3 u = true) : Tr Tryz.prog none 0 (az 8 (aE Tryz.f53)) (Ak sec u (gX sec) (l0 u) kR 254) .normal (Ak sec u (gX sec) (qN u (fun j => bt (gX sec) (j + 1)) 255) kR (-1)) := by
  obtain ⟨a, b, _, _⟩ := yN h
  have key := Tr.loop (P := Tryz.prog) (ro := none) (k := 0) 0 (c := az 8 (aE Tryz.f53)) (by kernel_rfl) (fun j : Nat => Ak sec u (gX sec) (qN u (fun j => bt (gX sec) (j + 1)) j) kR (254 - j)) 255 (s' := Ak sec u (gX sec) (qN u (fun j => bt (gX sec) (j + 1)) 255) kR (-1)) (fun j hj => ?_) ?_
  · exact key
  · have e1 : (254 : Int) - j - 1 = 254 - ((j + 1 : Nat) : Int) := by omega
    have hw : IntKind.i64.wrap (254 - (j : Int) - 1) = 254 - ((j + 1 : Nat) : Int) := by rw [wrap_i64 _ (by omega) (by omega), e1]
    obtain ⟨o0, o1, o2, o3⟩ := (yQ hu (fun j => bt (gX sec) (j + 1)) j).1
    have ho := J3 (i := 254 - (j : Int)) (by omega) (by omega)
    have hq : w6 (gX sec) (254 - (j : Int)) = aW (gX sec) / 2 ^ (255 - (j + 1)) % 2 := by
      rw [show (254 : Int) - j = ((255 - (j + 1) : Nat) : Int) by omega]
      exact JW a b (by omega)
    cases hb : bt (gX sec) (j + 1) with
    | true =>
      have Y2 : w6 (gX sec) (254 - (j : Int)) = 1 := by rw [hq]; exact of_decide_eq_true hb
      have k := C8 sec u (gX sec) kR (qN u (fun j => bt (gX sec) (j + 1)) j) (254 - j)
      rw [hw, nS (by rw [ho, Y2]; rfl) hu C9.2 o2 o3 o0 o1, Y2] at k
      refine Tr.post (Tr.cut (jl true true true) 60 _ 9 (by omega) k rfl) (bh.same rfl ?_)
      show (Ak _ _ _ _ _ _).h = (Ak _ _ _ _ _ _).h
      rw [qN, hb]
    | false =>
      have Y2 : ¬ w6 (gX sec) (254 - (j : Int)) = 1 := by rw [hq]; exact of_decide_eq_false hb
      have hq2 : (w6 (gX sec) (254 - (j : Int)) == 1) = false := by simpa using Y2
      have k := Pk sec u (gX sec) kR (qN u (fun j => bt (gX sec) (j + 1)) j) (254 - j)
      rw [hw, nS (by rw [ho, hq2]; rfl) hu C9.2 o0 o1 o2 o3, hq2] at k
      refine Tr.post (Tr.cut (jl true false false) 60 _ 9 (by omega) k rfl) (bh.same rfl ?_)
      show (Ak _ _ _ _ _ _).h = (Ak _ _ _ _ _ _).h
      rw [qN, hb]
  · exact VW _ _ _ _ _ _ (by decide)
end Go.Proofs.YtibfpjeeanppjaaGreat.La
end
section
namespace Go.Proofs.YtibfpjeeanppjaaGreat.La
open Go Go.Sy Re Fe
theorem PB {sec u : List Int} (hu : j3 u = true) : vR (rM (qN u (fun j => bt (gX sec) (j + 1)) 255).1 (cn (sR (vR (qN u (fun j => bt (gX sec) (j + 1)) 255).2.1) (Pm - 2).toNat))) = Al sec (vR u) := by
  obtain ⟨h1, h2⟩ := yQ hu (fun j => bt (gX sec) (j + 1)) 255
  generalize hq : qN u (fun j => bt (gX sec) (j + 1)) 255 = q at h1 h2 ⊢
  have hi := j7 (vR q.2.1) (Pm - 2).toNat
  rw [fV, iR hi.1 hi.2]
  have e : Al sec (vR u) = fin (run (vR u) (fun j => bt (gX sec) (j + 1)) (Cw (vR u)) 255) := by unfold Al gX; rw [aC]
  rw [e, ← h2]
  rfl
noncomputable def Tp : List SV → Option (SV × List Blk × Bool)
  | [.agg [.ints .u8 32 sec], .agg [.ints .i64 16 u]] => some (.agg [.ints .u8 32 (aK sec (vR u))], [], ak sec && j3 u)
  | _ => none
theorem PC {sec u : List Int} (h : ak sec = true) (hu : j3 u = true) : ai Tryz.prog 53 [.agg [.ints .u8 32 sec], .agg [.ints .i64 16 u]] [] (.agg [.ints .u8 32 (aK sec (vR u))]) [] := by
  have hl := PA h hu
  have hv := PB (sec := sec) hu
  have hok := (yQ hu (fun j => bt (gX sec) (j + 1)) 255).1
  generalize qN u (fun j => bt (gX sec) (j + 1)) 255 = q at hl hv hok
  unfold aK
  rw [← hv]
  refine ai.cz (J2 true) 60 9 0 Tryz.func53 (by simp) rfl (fun s' x hh => ?_) (s := Ak sec u (gX sec) q kR (-1)) (p := aa (aa (aa true (aa true (j3 q.2.1))) (aa true (cD q.1 && cD (cn (sR (vR q.2.1) (Pm - 2).toNat))))) (aa true (cD (rM q.1 (cn (sR (vR q.2.1) (Pm - 2).toNat)))))) (by kernel_rfl) ?_ rfl rfl
  · refine aY.items (J2 true) 60 8 _ 9 (by simp) (yP sec u) (by rw [h]; rfl) (by decide) ?_
    exact aY.item 8 (by decide) hl hh
  · rw [hok.z0, (ez.1 hok.x0).1, bI, bI]; rfl
noncomputable def aaS : Entry Tryz.prog := .val 53 _ Tryz.func53 (by decide) rfl false 0 Tp fun vs v new e => by
  unfold Tp at e
  split at e
  · simp only [Option.some.injEq, Prod.mk.injEq, Bool.and_eq_true] at e
    obtain ⟨rfl, rfl, h1, h2⟩ := e
    exact PC h1 h2
  · cases e
noncomputable def Y3 (x : Bool) : br := mk (P := Tryz.prog) [aaS, E9, Re.E5] [] fun i => if i = 13 then some x else none
theorem mX (x : Bool) : ag Tryz.prog (Y3 x) := ah _ aq.nil _ _
theorem J4 : vR (cn 9) = 9 ∧ j3 (cn 9) = true := ⟨iR (by decide) (by decide), u5 (by decide) (by decide)⟩
noncomputable def AQ : List SV → Option (SV × List Blk × Bool)
  | [.agg [.ints .u8 32 sec]] => some (.agg [.ints .u8 32 (aK sec 9)], [], ak sec)
  | _ => none
theorem Da {sec : List Int} (h : ak sec = true) : ai Tryz.prog 25 [.agg [.ints .u8 32 sec]] [] (.agg [.ints .u8 32 (aK sec 9)]) [] := by
  have k : ai Tryz.prog 25 [.agg [.ints .u8 32 sec]] [] (.agg [.ints .u8 32 (aK sec (vR (cn 9)))]) [] :=
    aG (mX true) 60 Tryz.func25 (p := aa true (aa true (ak sec && j3 (cn 9)))) (by kernel_rfl) (by rw [h, J4.2]; rfl) rfl
  rw [J4.1] at k
  exact k
noncomputable def AR : Entry Tryz.prog := .val 25 _ Tryz.func25 (by decide) rfl false 0 AQ fun vs v new e => by
  unfold AQ at e
  split at e
  · simp only [Option.some.injEq, Prod.mk.injEq] at e
    obtain ⟨rfl, rfl, h⟩ := e
    exact Da h
  · cases e
def uP (l : List Int) : Int := aW l % 57896044618658097711785492504343953926634992332820282019728792003956564819968 % Pm
noncomputable def gr (sec cJ : List Int) : List Int := aK sec (uP cJ)
theorem Fa {l : List Int} (h : ak l = true) : Bd (fW l) ∧ fv (fW l) = uP l := by
  obtain ⟨h1, h2⟩ := bK.1 h
  obtain ⟨a, b⟩ := J5 h2 h1
  exact ⟨a, by unfold fv uP; rw [b]⟩
theorem J6 (l : List Int) : vR (cn (uP l)) = uP l ∧ j3 (cn (uP l)) = true := ⟨tN _, eJ _⟩
def gA : List Int := List.replicate 32 0
noncomputable def agC (x : Bool) : br := mk (P := Tryz.prog) [J1, Fe.yO, Fe.E5] [] fun i => if i = 14 then some x else none
theorem J7 (x : Bool) : ag Tryz.prog (agC x) := ah _ aq.nil _ _
def rF : SV := .iface 78 (.int .i64 4)
theorem u6 {sec cJ : List Int} (h : ak sec = true) (hp : ak cJ = true) : eW (EV (fW cJ) (bt (gX sec))) = gr sec cJ := by
  rw [xD h (Fa hp).1, (Fa hp).2]; rfl
theorem jz (sec cJ : List Int) : (gr sec cJ).length = 32 := cI _ _
theorem PD (sec cJ : List Int) : ak (gr sec cJ) = true := j6 _ _
noncomputable def oY (sec cJ : List Int) : Bool := decide (gr sec cJ = gA)
noncomputable def J8 (b : Bool) : List SV → Option (SV × List Blk × Bool)
  | [.agg [.ints .u8 32 sec], .agg [.ints .u8 32 cJ]] => match b with
    | true => some (.aQ [.agg [.ints .u8 32 gA], rF], [], ak sec && ak cJ && oY sec cJ)
    | false => some (.aQ [.agg [.ints .u8 32 (gr sec cJ)], .nl .nilIface], [], ak sec && ak cJ && !oY sec cJ)
  | _ => none
theorem PG {sec cJ : List Int} (h : ak sec = true) (hp : ak cJ = true) (hz : oY sec cJ = true) : ai Tryz.prog 67 [.agg [.ints .u8 32 sec], .agg [.ints .u8 32 cJ]] [] (.aQ [.agg [.ints .u8 32 gA], rF]) [] :=
  aG (J7 true) 60 Tryz.func67 (p := aa (aa (aa true (aa true (ak sec))) (decide ((eW (EV (fW cJ) (bt (gX sec)))).length = 32))) (decide (eW (EV (fW cJ) (bt (gX sec))) = gA))) (by kernel_rfl)
    (by rw [u6 h hp, h, decide_eq_true (jz sec cJ), decide_eq_true (of_decide_eq_true hz)]; rfl) rfl
theorem PI {sec cJ : List Int} (h : ak sec = true) (hp : ak cJ = true) (hz : oY sec cJ = false) : ai Tryz.prog 67 [.agg [.ints .u8 32 sec], .agg [.ints .u8 32 cJ]] [] (.aQ [.agg [.ints .u8 32 (gr sec cJ)], .nl .nilIface]) [] := by
  have k : ai Tryz.prog 67 [.agg [.ints .u8 32 sec], .agg [.ints .u8 32 cJ]] [] (.aQ [.agg [.ints .u8 32 (eW (EV (fW cJ) (bt (gX sec))))], .nl .nilIface]) [] :=
    aG (J7 false) 60 Tryz.func67 (p := aa (aa (aa true (aa true (ak sec))) (decide ((eW (EV (fW cJ) (bt (gX sec)))).length = 32))) (!decide (eW (EV (fW cJ) (bt (gX sec))) = gA))) (by kernel_rfl)
      (by rw [u6 h hp, h, decide_eq_true (jz sec cJ), decide_eq_false (of_decide_eq_false hz)]; rfl) rfl
  rw [u6 h hp] at k
  exact k
noncomputable def I4 (b : Bool) : Entry Tryz.prog := .val 67 _ Tryz.func67 (by decide) rfl false 0 (J8 b) fun vs v new e => by
  unfold J8 at e
  split at e
  · split at e
    · simp only [Option.some.injEq, Prod.mk.injEq, Bool.and_eq_true] at e
      obtain ⟨rfl, rfl, ⟨h1, h2⟩, h3⟩ := e
      exact PG h1 h2 h3
    · simp only [Option.some.injEq, Prod.mk.injEq, Bool.and_eq_true, Bool.not_eq_true'] at e
      obtain ⟨rfl, rfl, ⟨h1, h2⟩, h3⟩ := e
      exact PI h1 h2 h3
  · cases e
noncomputable def Fb (b : Bool) : List SV → Option (SV × List Blk × Bool)
  | [.agg [.ints .u8 32 sec], .agg [.ints .u8 32 cJ]] => match b with
    | true => some (.aQ [.agg [.ints .u8 32 (gr sec cJ)], .int .i64 4], [], ak sec && ak cJ && oY sec cJ)
    | false => some (.aQ [.agg [.ints .u8 32 (gr sec cJ)], .int .i64 0], [], ak sec && ak cJ && !oY sec cJ)
  | _ => none
theorem yR (sec cJ : List Int) : aK sec (vR (cn (uP cJ))) = gr sec cJ := by rw [(J6 cJ).1]; rfl
theorem J9 {sec cJ : List Int} (h : ak sec = true) (hp : ak cJ = true) (hz : oY sec cJ = true) : ai Tryz.prog 42 [.agg [.ints .u8 32 sec], .agg [.ints .u8 32 cJ]] [] (.aQ [.agg [.ints .u8 32 (gr sec cJ)], .int .i64 4]) [] := by
  have k : ai Tryz.prog 42 [.agg [.ints .u8 32 sec], .agg [.ints .u8 32 cJ]] [] (.aQ [.agg [.ints .u8 32 (aK sec (vR (cn (uP cJ))))], .int .i64 4]) [] :=
    aG (mX true) 60 Tryz.func42 (p := aa (aa (aa (aa true (aa true (ak cJ))) (aa true (ak sec && j3 (cn (uP cJ))))) (decide ((aK sec (vR (cn (uP cJ)))).length = 32))) (decide (aK sec (vR (cn (uP cJ))) = gA))) (by kernel_rfl)
      (by rw [yR, h, hp, (J6 cJ).2, decide_eq_true (jz sec cJ), decide_eq_true (of_decide_eq_true hz)]; rfl) rfl
  rw [yR] at k
  exact k
theorem Ka {sec cJ : List Int} (h : ak sec = true) (hp : ak cJ = true) (hz : oY sec cJ = false) : ai Tryz.prog 42 [.agg [.ints .u8 32 sec], .agg [.ints .u8 32 cJ]] [] (.aQ [.agg [.ints .u8 32 (gr sec cJ)], .int .i64 0]) [] := by
  have k : ai Tryz.prog 42 [.agg [.ints .u8 32 sec], .agg [.ints .u8 32 cJ]] [] (.aQ [.agg [.ints .u8 32 (aK sec (vR (cn (uP cJ))))], .int .i64 0]) [] :=
    aG (mX false) 60 Tryz.func42 (p := aa (aa (aa (aa true (aa true (ak cJ))) (aa true (ak sec && j3 (cn (uP cJ))))) (decide ((aK sec (vR (cn (uP cJ)))).length = 32))) (!decide (aK sec (vR (cn (uP cJ))) = gA))) (by kernel_rfl)
      (by rw [yR, h, hp, (J6 cJ).2, decide_eq_true (jz sec cJ), decide_eq_false (of_decide_eq_false hz)]; rfl) rfl
  rw [yR] at k
  exact k
noncomputable def EC (b : Bool) : Entry Tryz.prog := .val 42 _ Tryz.func42 (by decide) rfl false 0 (Fb b) fun vs v new e => by
  unfold Fb at e
  split at e
  · split at e
    · simp only [Option.some.injEq, Prod.mk.injEq, Bool.and_eq_true] at e
      obtain ⟨rfl, rfl, ⟨h1, h2⟩, h3⟩ := e
      exact J9 h1 h2 h3
    · simp only [Option.some.injEq, Prod.mk.injEq, Bool.and_eq_true, Bool.not_eq_true'] at e
      obtain ⟨rfl, rfl, ⟨h1, h2⟩, h3⟩ := e
      exact Ka h1 h2 h3
  · cases e
end Go.Proofs.YtibfpjeeanppjaaGreat.La
end
section
namespace Go.Proofs.YtibfpjeeanppjaaGreat.La
open Go Go.Sy Re Fe
end Go.Proofs.YtibfpjeeanppjaaGreat.La
end
