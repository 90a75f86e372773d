/- This file holds the texts S2A, S2B, a section each. No conditions beyond those in the theorems. -/
import Derived.Test.YtibfpjeeanppjaaGreatXShG
import Derived.Test.YtibfpjeeanppjaaGreatXShI
set_option linter.all false
set_option maxRecDepth 100000
section
namespace Go.Proofs.YtibfpjeeanppjaaGreat.S2
open Go Go.Sy Sh
abbrev V (n : Int) : Int := IntKind.u32.wrap n
theorem wrap_u32 (n : Int) : IntKind.u32.wrap n = n % 4294967296 := by simp [IntKind.wrap, IntKind.signed, IntKind.bits]
def mB (x a : Int) : Int := fT .u32 (cX .u32 x (bO .u64 (W a) 31).toNat) (bG .u32 x (W (32 - bO .u64 (W a) 31)).toNat)
def Ci (x a : Int) : Int := mB x (IntKind.i64.wrap (0 - a))
def Ul (x a b c : Int) : Int := cj .u32 (cj .u32 (Ci x a) (Ci x b)) (Ci x c)
def adx : List SV → Option (SV × List Blk × Bool)
  | [.int .u32 x, .int .i64 a] => some (.int .u32 (mB x a), [], true)
  | _ => none
noncomputable def OO : Entry Tryz.prog := .val 162 _ Tryz.func162 (by decide) rfl false 0 adx fun vs v new e => by
  unfold adx at e
  split at e
  · rename_i x a
    cases e
    exact aG mF 60 Tryz.func162 (p := aa true (W0 (32 - bO .u64 (W a) 31))) (by kernel_rfl) (by simp only [GA, au, and_self]) rfl
  · cases e
noncomputable def tuC : br := mk (P := Tryz.prog) [OO] []
theorem Yb : ag Tryz.prog tuC := ah _ aq.nil _ _
def Nw : List SV → Option (SV × List Blk × Bool)
  | [.int .u32 x, .int .i64 a, .int .i64 b, .int .i64 c] => some (.int .u32 (Ul x a b c), [], true)
  | _ => none
noncomputable def Nx : Entry Tryz.prog := .val 163 _ Tryz.func163 (by decide) rfl false 0 Nw fun vs v new e => by
  unfold Nw at e
  split at e
  · rename_i x a b c
    cases e
    exact aG Yb 60 Tryz.func163 (p := true) (by kernel_rfl) rfl rfl
  · cases e
noncomputable def gA : List Int := (List.range 64).map fun i => V (bG .u64 (kL.getD i 0) 32)
noncomputable def shC : br := mk (P := Tryz.prog) [Yc] []
theorem yy : ag Tryz.prog shC := ah _ aq.nil _ _
noncomputable def GB : List SV → Option (SV × List Blk × Bool)
  | [] => some (.agg [.ints .u32 64 gA], [], true)
  | _ => none
noncomputable def Aa : Entry Tryz.prog := .val 139 _ Tryz.func139 (by decide) rfl false 0 GB fun vs v new e => by
  unfold GB at e
  split at e
  · cases e
    exact aG yy 200 Tryz.func139 (p := true) (by kernel_rfl) rfl rfl
  · cases e
def wd (p : List Int) (i : Nat) : Int := fT .u32 (fT .u32 (fT .u32 (cX .u32 (V (p.getD (4 * i) 0)) 24) (cX .u32 (V (p.getD (4 * i + 1) 0)) 16)) (cX .u32 (V (p.getD (4 * i + 2) 0)) 8)) (V (p.getD (4 * i + 3) 0))
def Ig (p : List Int) : List Int := (List.range 16).map (wd p) ++ List.replicate 48 0
def nxW (y x a b : Int) : Int := V (V (V (cj .u32 (cj .u32 (mB y (-17)) (mB y (-19))) (bG .u32 y 10) + a) + cj .u32 (cj .u32 (mB x (-7)) (mB x (-18))) (bG .u32 x 3)) + b)
def sched (w : List Int) : Nat → List Int
  | 0 => w
  | j + 1 => (sched w j).set (16 + j) (nxW ((sched w j).getD (14 + j) 0) ((sched w j).getD (1 + j) 0) ((sched w j).getD (9 + j) 0) ((sched w j).getD j 0))
def Mp (e f g : Int) : Int := cj .u32 (bO .u32 e f) (bO .u32 (cj .u32 IntKind.u32.max e) g)
def mjW (a b c : Int) : Int := cj .u32 (cj .u32 (bO .u32 a b) (bO .u32 a c)) (bO .u32 b c)
def t1W (s : List Int) (k w : Int) : Int := V (V (V (V (s.getD 7 0 + Ul (s.getD 4 0) 6 11 25) + Mp (s.getD 4 0) (s.getD 5 0) (s.getD 6 0)) + k) + w)
def t2W (s : List Int) : Int := V (Ul (s.getD 0 0) 2 13 22 + mjW (s.getD 0 0) (s.getD 1 0) (s.getD 2 0))
def Ih (s : List Int) (k w : Int) : List Int := [V (t1W s k w + t2W s), s.getD 0 0, s.getD 1 0, s.getD 2 0, V (s.getD 3 0 + t1W s k w), s.getD 4 0, s.getD 5 0, s.getD 6 0]
def dK (s k w : List Int) : Nat → List Int
  | 0 => s
  | j + 1 => Ih (dK s k w j) (k.getD j 0) (w.getD j 0)
def Cj (s t : List Int) : List Int := (List.range 8).map fun i => V (s.getD i 0 + t.getD i 0)
noncomputable def gR (s p k : List Int) : List Int := gH (Cj s (dK s k (sched (Ig p) 48) 64))
noncomputable def wC (b c : Bool) : br := mk (P := Tryz.prog) [Nx, OO] [] fun i => if i = 58 then some b else if i = 105 then some c else none
theorem wk (b c : Bool) : ag Tryz.prog (wC b c) := ah _ aq.nil _ _
noncomputable def wC0 : br := mk (P := Tryz.prog) [Nx, OO] []
theorem Ef : ag Tryz.prog wC0 := ah _ aq.nil _ _
noncomputable def wB : Code := aE Tryz.f140
noncomputable def dg (st r : List Int) (n : Int) : Blk := .b [.ints .u32 8 st, .ro true .u8 r, .int .i64 n]
noncomputable def wS (st r : List Int) (n : Int) (kk w : List Int) (i : Int) : St := ⟨slotsOf 195 [(0, .ptr 0 0 0), (2, .ptr 1 0 0), (6, .ptr 2 0 0), (8, .int .i64 i)], [dg st r n, .b [.ints .u32 64 kk], .b [.ints .u32 64 w]], true⟩
noncomputable def wR (st r : List Int) (n : Int) (kk w s : List Int) (i : Int) : St := ⟨slotsOf 195 [(0, .ptr 0 0 0), (2, .ptr 1 0 0), (6, .ptr 2 0 0), (13, .ptr 3 0 0), (104, .int .i64 i)], [dg st r n, .b [.ints .u32 64 kk], .b [.ints .u32 64 w], .b [.ints .u32 8 (aH 8 s)]], true⟩
section
variable (st r p kk w s : List Int) (n i : Int)
theorem Yd : (aT Tryz.prog wC0 200 2 4 (atoms wB) ⟨aO Tryz.f140.ntmps [.ptr 0 0 0, .ro false .u8 (aH 64 p), .ptr 1 0 0], [dg st r n, .b [.ints .u32 64 kk]], true⟩).bind (St.cut [0, 2, 6, 8] 3) = some (wS st r n kk (Ig p) 16) := by kernel_rfl
def nxI (w : List Int) (i : Int) : Int := nxW (w.getD (0 + (IntKind.i64.wrap (i - 2)).toNat) 0) (w.getD (0 + (IntKind.i64.wrap (i - 15)).toNat) 0) (w.getD (0 + (IntKind.i64.wrap (i - 7)).toNat) 0) (w.getD (0 + (IntKind.i64.wrap (i - 16)).toNat) 0)
def nxO (i : Int) (n : Nat) : Bool := aa (aa (aa (aa (aa (aa (aa (aa (aa (aa (aa true (decide (i < 64))) (cN (IntKind.i64.wrap (i - 15)) 64)) (decide (0 + (IntKind.i64.wrap (i - 15)).toNat < 64))) (cN (IntKind.i64.wrap (i - 2)) 64)) (decide (0 + (IntKind.i64.wrap (i - 2)).toNat < 64)))
  (cN (IntKind.i64.wrap (i - 7)) 64)) (decide (0 + (IntKind.i64.wrap (i - 7)).toNat < 64))) (cN (IntKind.i64.wrap (i - 16)) 64)) (decide (0 + (IntKind.i64.wrap (i - 16)).toNat < 64))) (cN i 64)) (decide (0 + i.toNat < 64) && decide (n = 64))
theorem Ye : (exec Tryz.prog (wC true true) 200 2 (inner (inner (az 4 wB))) (wS st r n kk w i)).bind (fun r => (r.2.cut [0, 2, 6, 8] 3).map fun q => (r.1, q)) = some (.normal, { wS st r n kk (w.set (0 + i.toNat) (nxI w i)) (IntKind.i64.wrap (i + 1)) with ob := nxO i w.length }) := by kernel_rfl
theorem RW : (exec Tryz.prog (wC false true) 200 2 (inner (inner (az 4 wB))) (wS st r n kk w i)).bind (fun r => (r.2.cut [0, 2, 6, 8] 3).map fun q => (r.1, q)) = some (.exit 2, { wS st r n kk w i with ob := aa true (!decide (i < 64)) }) := by kernel_rfl
theorem adz : (aT Tryz.prog wC0 200 2 2 ((atoms wB).drop 5) (wS (aH 8 st) r n kk w i)).bind (St.cut [0, 2, 6, 13, 104] 4) = some (wR (aH 8 st) r n kk w st 0) := by kernel_rfl
def rnO (i : Int) : Bool := aa (aa (aa (aa (aa true (decide (i < 64))) (cN i 64)) (decide (0 + i.toNat < 64))) (cN i 64)) (decide (0 + i.toNat < 64))
theorem adA : (exec Tryz.prog (wC true true) 200 2 (inner (inner (az 7 wB))) (wR st r n kk w s i)).bind (fun r => (r.2.cut [0, 2, 6, 13, 104] 4).map fun q => (r.1, q)) = some (.normal, { wR st r n kk w (Ih (aH 8 s) (kk.getD (0 + i.toNat) 0) (w.getD (0 + i.toNat) 0)) (IntKind.i64.wrap (i + 1)) with ob := rnO i }) := by kernel_rfl
theorem Yf : (exec Tryz.prog (wC true false) 200 2 (inner (inner (az 7 wB))) (wR st r n kk w s i)).bind (fun r => (r.2.cut [0, 2, 6, 13, 104] 4).map fun q => (r.1, q)) = some (.exit 4, { wR st r n kk w s i with ob := aa true (!decide (i < 64)) }) := by kernel_rfl
end
theorem ya (w : List Int) : ∀ j, (sched w j).length = w.length
  | 0 => rfl
  | j + 1 => by rw [sched, List.length_set]; exact ya w j
theorem RX (p : List Int) : (Ig p).length = 64 := by simp [Ig]
theorem Yg {w : List Int} {j : Nat} (hj : j < 48) : nxI w (16 + j) = nxW (w.getD (14 + j) 0) (w.getD (1 + j) 0) (w.getD (9 + j) 0) (w.getD j 0) := by
  unfold nxI
  rw [wrap_i64 _ (by omega) (by omega), wrap_i64 _ (by omega) (by omega), wrap_i64 _ (by omega) (by omega), wrap_i64 _ (by omega) (by omega)]
  rw [show 0 + ((16 : Int) + j - 2).toNat = 14 + j by omega, show 0 + ((16 : Int) + j - 15).toNat = 1 + j by omega, show 0 + ((16 : Int) + j - 7).toNat = 9 + j by omega, show 0 + ((16 : Int) + j - 16).toNat = j by omega]
theorem Ny {j : Nat} (hj : j < 48) : nxO (16 + j) 64 = true := by
  unfold nxO
  rw [wrap_i64 _ (by omega) (by omega), wrap_i64 _ (by omega) (by omega), wrap_i64 _ (by omega) (by omega), wrap_i64 _ (by omega) (by omega)]
  simp only [au, Bool.and_eq_true, decide_eq_true_eq, true_and]
  refine ⟨⟨⟨⟨⟨⟨⟨⟨⟨⟨?_, aM (by omega) (by omega)⟩, ?_⟩, aM (by omega) (by omega)⟩, ?_⟩, aM (by omega) (by omega)⟩, ?_⟩, aM (by omega) (by omega)⟩, ?_⟩, aM (by omega) (by omega)⟩, ?_⟩ <;> first | omega | exact ⟨by omega, trivial⟩
theorem Nz {j : Nat} (hj : j < 64) : rnO (j : Int) = true := by
  unfold rnO
  simp only [au, decide_eq_true_eq, true_and]
  refine ⟨⟨⟨⟨?_, aM (by omega) (by omega)⟩, ?_⟩, aM (by omega) (by omega)⟩, ?_⟩ <;> omega
theorem RY (s : List Int) (k w : Int) : aH 8 (Ih s k w) = Ih s k w := rfl
theorem Ck (s k w : List Int) : ∀ j, aH 8 (dK (aH 8 s) k w j) = dK (aH 8 s) k w j
  | 0 => aF (aI _ _)
  | _ + 1 => RY _ _ _
theorem Yh (st r p kk : List Int) (n : Int) : Tr Tryz.prog none 2 (az 4 wB) (wS (aH 8 st) r n kk (Ig p) 16) .normal (wS (aH 8 st) r n kk (sched (Ig p) 48) 64) := by
  have key := Tr.loop (P := Tryz.prog) (ro := none) (k := 2) 2 (c := az 4 wB) (by kernel_rfl) (fun j : Nat => wS (aH 8 st) r n kk (sched (Ig p) j) (16 + j)) 48 (s' := wS (aH 8 st) r n kk (sched (Ig p) 48) 64) (fun j hj => ?_) ?_
  · exact key
  · have k := Ye (aH 8 st) r kk (sched (Ig p) j) n (16 + j)
    rw [ya, RX, Ny hj, Yg hj, wrap_i64 _ (by omega) (by omega)] at k
    refine Tr.post (Tr.cut (wk true true) 200 _ 3 (by omega) k rfl) (bh.same ?_ ?_)
    · show (wS _ _ _ _ _ _).t = (wS _ _ _ _ _ _).t
      rw [show ((16 : Int) + (j : Int) + 1) = 16 + ((j + 1 : Nat) : Int) by omega]; rfl
    · show (wS _ _ _ _ _ _).h = (wS _ _ _ _ _ _).h
      rw [show 0 + ((16 : Int) + (j : Int)).toNat = 16 + j by omega]; rfl
  · have k := RW (aH 8 st) r kk (sched (Ig p) 48) n 64
    exact Tr.post (Tr.cut (wk false true) 200 _ 3 (by omega) k rfl) (bh.same rfl rfl)
theorem RZ (st r kk w : List Int) (n : Int) : Tr Tryz.prog none 2 (az 7 wB) (wR (aH 8 st) r n kk w st 0) .normal (wR (aH 8 st) r n kk w (dK (aH 8 st) kk w 64) 64) := by
  have key := Tr.loop (P := Tryz.prog) (ro := none) (k := 2) 4 (c := az 7 wB) (by kernel_rfl) (fun j : Nat => wR (aH 8 st) r n kk w (dK (aH 8 st) kk w j) j) 64 (s' := wR (aH 8 st) r n kk w (dK (aH 8 st) kk w 64) 64) (fun j hj => ?_) ?_
  · refine Tr.pre key (bh.same rfl ?_)
    show (wR _ _ _ _ _ _ _).h = (wR _ _ _ _ _ _ _).h
    unfold wR
    simp only [dK]
    rw [aF (aI 8 st)]
  · have k := adA (aH 8 st) r kk w (dK (aH 8 st) kk w j) n j
    rw [Nz hj, wrap_i64 _ (by omega) (by omega), Ck] at k
    refine Tr.post (Tr.cut (wk true true) 200 _ 4 (by omega) k rfl) (bh.same ?_ ?_)
    · show (wR _ _ _ _ _ _ _).t = (wR _ _ _ _ _ _ _).t
      rw [show ((j : Int) + 1) = ((j + 1 : Nat) : Int) by omega]; rfl
    · show (wR _ _ _ _ _ _ _).h = (wR _ _ _ _ _ _ _).h
      rw [show 0 + (j : Int).toNat = j by omega]; rfl
  · have k := Yf (aH 8 st) r kk w (dK (aH 8 st) kk w 64) n 64
    exact Tr.post (Tr.cut (wk true false) 200 _ 4 (by omega) k rfl) (bh.same rfl rfl)
theorem mO {st p kk : List Int} (r : List Int) (n : Int) (hs : st.length = 8) (hp : p.length = 64) : ai Tryz.prog 140 [.ptr 0 0 0, .ro false .u8 p, .ptr 1 0 0] [dg st r n, .b [.ints .u32 64 kk]] (.aQ []) [dg (gR st p kk) r n, .b [.ints .u32 64 kk]] := by
  have key : ai Tryz.prog 140 [.ptr 0 0 0, .ro false .u8 (aH 64 p), .ptr 1 0 0] [dg (aH 8 st) r n, .b [.ints .u32 64 kk]] (.aQ []) [dg (gR (aH 8 st) p kk) r n, .b [.ints .u32 64 kk]] := by
    rw [gR, aC]
    refine ai.cz Ef 200 8 2 Tryz.func140 (by simp) rfl (fun s' x h => ?_) (s := wR (aH 8 st) r n kk (sched (Ig p) 48) (dK (aH 8 st) kk (sched (Ig p) 48) 64) 64) (p := true) (by rw [← Ck]; kernel_rfl) rfl rfl rfl
    refine aY.items Ef 200 4 _ 3 (by simp) (Yd (aH 8 st) r p kk n) rfl (by decide) ?_
    refine aY.item 4 (by decide) (Yh st r p kk n) ?_
    refine aY.items Ef 200 2 _ 4 (by simp) (adz st r kk _ n 64) rfl (by decide) ?_
    exact aY.item 7 (by decide) (RZ st r kk _ n) h
  rw [aF hp, aF hs] at key
  exact key
def SU (vs : List SV) (_ : List Blk) : List Nat := match vs with
  | [.ptr a _ _, _, .ptr b _ _] => [a, b]
  | _ => []
noncomputable def wv : List SV → List Blk → Option (SV × List Blk × Bool)
  | [.ptr 0 0 0, .ro false .u8 p, .ptr 1 0 0], [.b [.ints .u32 8 st, .ro true .u8 r, .int .i64 n], .b [.ints .u32 64 kk]] => some (.aQ [], [dg (gR st p kk) r n, .b [.ints .u32 64 kk]], decide (st.length = 8) && decide (p.length = 64))
  | _, _ => none
noncomputable def sn : Entry Tryz.prog := .mut 140 _ Tryz.func140 (by decide) rfl SU 0 wv fun vs h0 v h1 e => by
  unfold wv at e
  split at e
  · simp only [Option.some.injEq, Prod.mk.injEq, Bool.and_eq_true, decide_eq_true_eq] at e
    obtain ⟨rfl, rfl, hs, hp⟩ := e
    exact mO _ _ hs hp
  · cases e
end Go.Proofs.YtibfpjeeanppjaaGreat.S2
end
section
namespace Go.Proofs.YtibfpjeeanppjaaGreat.S2
open Go Go.Sy Sh
noncomputable def iy (p kk st : List Int) : Nat → List Int
  | 0 => st
  | j + 1 => gR (iy p kk st j) ((p.drop (64 * j)).take 64) kk
theorem Eg (s p k : List Int) : (gR s p k).length = 8 := by rw [gR, aC]; simp [Cj]
theorem nR {p kk st : List Int} (h : st.length = 8) : ∀ j, (iy p kk st j).length = 8
  | 0 => h
  | _ + 1 => Eg _ _ _
noncomputable def qd : List Int := (List.range 8).map fun i => V (bG .u64 (bL.getD i 0) 32)
theorem qe : qd.length = 8 := by simp [qd]
noncomputable def nwC : br := mk (P := Tryz.prog) [uW] []
theorem zM : ag Tryz.prog nwC := ah _ aq.nil _ _
theorem mQ : ai Tryz.prog 106 [] [] (.ptr 0 0 0) [dg qd [] 0] := by
  have k : ai Tryz.prog 106 [] [] (.ptr 0 0 0) [.b [.ints .u32 8 qd, .nl (.slice none 0 0), .int .i64 0]] :=
    bn zM 200 Tryz.func106 1 (by simp) (p := true) (by kernel_rfl) rfl rfl rfl
  refine ai.conv k trivial trivial (VE.refl _) ⟨⟨rfl, ?_⟩, trivial⟩
  rintro e xs ⟨zs, ⟨y, us, hy, h2, rfl⟩, rfl⟩
  have hy' : y = .slice none 0 0 := hy
  subst hy'
  exact ⟨_, ⟨.slice none 0 0, us, .inl ⟨rfl, none, 0, rfl, fun _ => rfl⟩, h2, rfl⟩, rfl⟩
noncomputable def newF : List SV → Option (SV × List Blk × Bool)
  | [] => some (.ptr 0 0 0, [dg qd [] 0], true)
  | _ => none
noncomputable def CZ : Entry Tryz.prog := .val 106 _ Tryz.func106 (by decide) rfl false 1 newF fun vs v new e => by
  unfold newF at e
  split at e
  · cases e; exact mQ
  · cases e
noncomputable def adC (b : Bool) : br := mk (P := Tryz.prog) [iO, Aa, sn, NA] [] fun i => if i = 27 then some b else none
theorem Ab (b : Bool) : ag Tryz.prog (adC b) := ah _ aq.nil _ _
noncomputable def aB : Code := aE Tryz.f107
noncomputable def aS (st r b : List Int) (n : Int) (kk all : List Int) : St := ⟨slotsOf 39 [(0, .ptr 0 0 0), (4, .ro true .u8 all), (5, .ptr 2 0 0)], [dg st r n, .b [.ro true .u8 r, .ro false .u8 b], .b [.ints .u32 64 kk]], true⟩
section
variable (st r b kk all : List Int) (n : Int)
theorem R5 : (aT Tryz.prog (adC true) 60 1 5 (atoms aB) ⟨aO Tryz.f107.ntmps [.ptr 0 0 0, .ro false .u8 b], [dg st r n], true⟩).bind (St.cut [0, 4, 5] 3) =
    some { aS st r b (IntKind.i64.wrap (n + b.length)) gA [r, b].flatten with ob := aa true (aa true (decide ([r, b].flatten.length ≤ 274877906944) && true)) } := by kernel_rfl
theorem Yi : (exec Tryz.prog (adC true) 60 1 (inner (inner (az 5 aB))) (aS st r b n kk all)).bind (fun r => (r.2.cut [0, 4, 5] 3).map fun q => (r.1, q)) =
    some (.normal, { aS (gR st (all.take 64) kk) r b n kk (all.drop 64) with ob := aa (aa (aa (aa true (decide ((all.length : Int) ≥ 64))) (aa true (true && decide ((64 : Int) ≤ all.length)))) (aa true (decide (st.length = 8) && decide ((all.take 64).length = 64)))) (aa true (aa true (true && decide ((64 : Int) ≤ all.length)))) }) := by kernel_rfl
theorem Yj : (exec Tryz.prog (adC false) 60 1 (inner (inner (az 5 aB))) (aS st r b n kk all)).bind (fun r => (r.2.cut [0, 4, 5] 3).map fun q => (r.1, q)) =
    some (.exit 0, { aS st r b n kk all with ob := aa true (!decide ((all.length : Int) ≥ 64)) }) := by kernel_rfl
end
theorem R6 {st r b kk all : List Int} (n : Int) (hs : st.length = 8) : Tr Tryz.prog none 1 (az 5 aB) (aS st r b n kk all) .normal (aS (iy all kk st (all.length / 64)) r b n kk (all.drop (64 * (all.length / 64)))) := by
  have key := Tr.loop (P := Tryz.prog) (ro := none) (k := 1) 0 (c := az 5 aB) (by kernel_rfl) (fun j : Nat => aS (iy all kk st j) r b n kk (all.drop (64 * j))) (all.length / 64) (s' := aS (iy all kk st (all.length / 64)) r b n kk (all.drop (64 * (all.length / 64)))) (fun j hj => ?_) ?_
  · exact key
  · have k := Yi (iy all kk st j) r b kk (all.drop (64 * j)) n
    have hl : 64 ≤ (all.drop (64 * j)).length := by rw [List.length_drop]; omega
    rw [List.drop_drop, decide_eq_true (show ((all.drop (64 * j)).length : Int) ≥ 64 by omega), decide_eq_true (nR hs j), decide_eq_true (show ((all.drop (64 * j)).take 64).length = 64 by rw [List.length_take]; omega)] at k
    refine Tr.post (Tr.cut (Ab true) 60 _ 3 (by omega) k rfl) (bh.same ?_ rfl)
    show (aS [] r b 0 kk _).t = (aS [] r b 0 kk _).t
    rw [show 64 * j + 64 = 64 * (j + 1) by omega]
  · have k := Yj (iy all kk st (all.length / 64)) r b kk (all.drop (64 * (all.length / 64))) n
    have hl : ¬ ((all.drop (64 * (all.length / 64))).length : Int) ≥ 64 := by rw [List.length_drop]; omega
    exact Tr.post (Tr.cut (Ab false) 60 _ 3 (by omega) k (by rw [decide_eq_false hl]; rfl)) (bh.same rfl rfl)
theorem CD {st r b : List Int} (n : Int) (hs : st.length = 8) (hb : r.length + b.length < 274877900000) : ai Tryz.prog 107 [.ptr 0 0 0, .ro false .u8 b] [dg st r n] (.aQ [])
    [dg (iy (r ++ b) gA st ((r ++ b).length / 64)) ((r ++ b).drop (64 * ((r ++ b).length / 64))) (IntKind.i64.wrap (n + b.length))] := by
  have hl : (r ++ b).length = r.length + b.length := List.length_append
  have hh := R5 st r b n
  have e : [r, b].flatten = r ++ b := by simp
  rw [e, decide_eq_true (show (r ++ b).length ≤ 274877906944 by omega)] at hh
  generalize r ++ b = all at *
  have hd : (all.drop (64 * (all.length / 64))).length ≤ 274877906944 := by rw [List.length_drop]; omega
  have k2 : ai Tryz.prog 107 [.ptr 0 0 0, .ro false .u8 b] [dg st r n] (.aQ [])
      [.b [.ints .u32 8 (iy all gA st (all.length / 64)), .sl 3 0 0 1 (all.drop (64 * (all.length / 64))).length (all.drop (64 * (all.length / 64))).length false true, .int .i64 (IntKind.i64.wrap (n + b.length))], .b [.ro true .u8 r, .ro false .u8 b], .b [.ints .u32 64 gA], .b [.ints .u8 (all.drop (64 * (all.length / 64))).length (all.drop (64 * (all.length / 64)))]] := by
    refine ai.cz (Ab true) 60 6 4 Tryz.func107 (by simp) rfl (fun s' x h => ?_) (s := aS (iy all gA st (all.length / 64)) r b (IntKind.i64.wrap (n + b.length)) gA (all.drop (64 * (all.length / 64))))
      (p := aa (aa true (aa true (decide ((all.drop (64 * (all.length / 64))).length ≤ 274877906944)))) true) (by kernel_rfl) (by rw [decide_eq_true hd]; rfl) rfl rfl
    refine aY.items (Ab true) 60 5 _ 3 (by simp) hh rfl (by decide) ?_
    exact aY.item 5 (by decide) (Tr.pre (R6 _ hs) (bh.same rfl rfl)) h
  generalize all.drop (64 * (all.length / 64)) = al at *
  have k3 := ai.fz 3 1 (by simp) (by simp) k2 (u := .aQ []) (h2 := [dg (iy all gA st (all.length / 64)) al (IntKind.i64.wrap (n + b.length))]) (p := aa (decide (al.length = al.length)) (aa true (aa true (true && (true && decide (al.length = al.length)))))) (by kernel_rfl) (by rw [decide_eq_true rfl]; rfl)
  exact k3
def adB (vs : List SV) (_ : List Blk) : List Nat := match vs with
  | .ptr a _ _ :: _ => [a]
  | _ => []
noncomputable def IM : List SV → List Blk → Option (SV × List Blk × Bool)
  | [.ptr 0 0 0, .ro false .u8 b], [.b [.ints .u32 8 st, .ro true .u8 r, .int .i64 n]] => some (.aQ [], [dg (iy (r ++ b) gA st ((r ++ b).length / 64)) ((r ++ b).drop (64 * ((r ++ b).length / 64))) (IntKind.i64.wrap (n + b.length))], decide (st.length = 8) && decide (r.length + b.length < 274877900000))
  | _, _ => none
noncomputable def uE : Entry Tryz.prog := .mut 107 _ Tryz.func107 (by decide) rfl adB 0 IM fun vs h0 v h1 e => by
  unfold IM at e
  split at e
  · simp only [Option.some.injEq, Prod.mk.injEq, Bool.and_eq_true, decide_eq_true_eq] at e
    obtain ⟨rfl, rfl, hs, hb⟩ := e
    exact CD _ hs hb
  · cases e
noncomputable def suC (x : Bool) : br := mk (P := Tryz.prog) [GC, yh, Aa, sn] [] fun i => if i = 9 then some x else none
theorem Ac (x : Bool) : ag Tryz.prog (suC x) := ah _ aq.nil _ _
noncomputable def ah9 : br := mk (P := Tryz.prog) [GC, yh, Aa, sn] []
theorem R7 : ag Tryz.prog ah9 := ah _ aq.nil _ _
noncomputable def uB : Code := aE Tryz.f108
noncomputable def uC : Code := az 6 uB
noncomputable def iA : List Int := List.replicate 32 0
noncomputable def uT : List (Option SV) := slotsOf 52 [(2, .ptr 1 0 0), (3, .ptr 2 0 0), (4, .ptr 3 0 0), (25, .fn (.func 164) [] [.ptr 4 0 0, .ptr 5 0 0])]
noncomputable def uK (tF r : List Int) (n : Int) (p kk st : List Int) : List Blk := [dg tF r n, .b [.ints .u8 32 iA], dg st r n, .b [.ints .u32 64 kk], .b [.ro false .u8 p], .b [.int .i64 64]]
noncomputable def uH (tF r : List Int) (n : Int) (p kk st : List Int) (l : Nat) : List Blk := [dg tF r n, .b [.ints .u8 32 iA], dg st r n, .b [.ints .u32 64 kk], .b [.ro false .u8 p], .b [.int .i64 64], .g (some (Es uC uT l))]
noncomputable def uS (tF r : List Int) (n : Int) (p kk st : List Int) (l : Nat) (i : Int) : St := ⟨slotsOf 31 [(0, .fn (.yield l) [] []), (1, .ptr 4 0 0), (2, .ptr 5 0 0), (4, .int .i64 i)], uH tF r n p kk st l, true⟩
def wZ (p : List Int) (i : Int) : Int := IntKind.i64.wrap (i + if ((p.drop i.toNat).length : Int) < 64 then ((p.drop i.toNat).length : Int) else 64)
def Ir (p : List Int) (i : Int) : List Int := (p.drop i.toNat).take ((wZ p i).toNat - i.toNat)
def UO (p st : List Int) (i : Int) (l : Nat) : Bool :=
  aa (aa (aa (aa true (decide (i < p.length))) (aa true (aa true (decide (0 ≤ i) && decide (i ≤ p.length)))))
    (aa (decide (0 ≤ wZ p i) && decide (wZ p i ≤ p.length)) (aa (decide (0 ≤ wZ p i) && decide (wZ p i ≤ (wZ p i).toNat)) (decide (0 ≤ i) && decide (i ≤ (wZ p i).toNat)))))
    (aa (aa (aa (decide (l = l)) (decide (l = l))) (aa true (decide (st.length = 8) && decide ((Ir p i).length = 64)))) (decide (l = l)))
section
variable (tF r p kk st : List Int) (n : Int) (l : Nat) (i : Int)
theorem CG : (exec Tryz.prog (suC true) 60 7 (inner (inner (az 1 N0))) (uS tF r n p kk st l i)).bind (fun r => (r.2.cut [0, 1, 2, 4] 7).map fun q => (r.1, q)) =
    some (.normal, { uS tF r n p kk (gR st (Ir p i) kk) l (IntKind.i64.wrap (i + 64)) with ob := UO p st i l }) := by kernel_rfl
theorem CH : (exec Tryz.prog (suC false) 60 7 (inner (inner (az 1 N0))) (uS tF r n p kk st l i)).bind (fun r => (r.2.cut [0, 1, 2, 4] 7).map fun q => (r.1, q)) =
    some (.exit 0, { uS tF r n p kk st l i with ob := aa true (!decide (i < p.length)) }) := by kernel_rfl
theorem uI : (aT Tryz.prog (suC true) 60 7 1 (atoms N0) ⟨aO Tryz.f164.ntmps [.fn (.yield l) [] [], .ptr 4 0 0, .ptr 5 0 0], uH tF r n p kk st l, true⟩).bind (St.cut [0, 1, 2, 4] 7) = some (uS tF r n p kk st l 0) := by kernel_rfl
end
theorem IQ {p st : List Int} (hs : st.length = 8) {N j : Nat} (hp : p.length = 64 * N) (hj : j < N) (hb : N < 10000000000) (l : Nat) : Ir p (64 * j : Nat) = (p.drop (64 * j)).take 64 ∧ UO p st (64 * j : Nat) l = true := by
  have hd : (p.drop (64 * j)).length = 64 * N - 64 * j := by rw [List.length_drop, hp]
  have he : wZ p (64 * j : Nat) = ((64 * j + 64 : Nat) : Int) := by
    unfold wZ
    rw [Int.toNat_natCast, hd, if_neg (by omega), wrap_i64 _ (by omega) (by omega)]; omega
  have hw : Ir p (64 * j : Nat) = (p.drop (64 * j)).take 64 := by
    unfold Ir
    rw [he, Int.toNat_natCast, Int.toNat_natCast, Nat.add_sub_cancel_left]
  refine ⟨hw, ?_⟩
  have hl : ((p.drop (64 * j)).take 64).length = 64 := by rw [List.length_take, hd]; omega
  unfold UO
  rw [hw, he, hl, hs]
  simp only [au, Bool.and_eq_true, decide_eq_true_eq, true_and, and_true, Int.toNat_natCast, hp]
  repeat' apply And.intro
  all_goals omega
theorem R8 (tF r : List Int) (n : Int) {p : List Int} {N : Nat} (hp : p.length = 64 * N) (hb : N < 10000000000) (kk : List Int) {st : List Int} (hs : st.length = 8) (l : Nat) :
    ai Tryz.prog 164 [.fn (.yield l) [] [], .ptr 4 0 0, .ptr 5 0 0] (uH tF r n p kk st l) (.aQ []) (uH tF r n p kk (iy p kk st N) l) := by
  have bS : Tr Tryz.prog none 7 (az 1 N0) (uS tF r n p kk st l 0) .normal (uS tF r n p kk (iy p kk st N) l (64 * N : Nat)) := by
    have key := Tr.loop (P := Tryz.prog) (ro := none) (k := 7) 0 (c := az 1 N0) (by kernel_rfl) (fun j : Nat => uS tF r n p kk (iy p kk st j) l (64 * j : Nat)) N (s' := uS tF r n p kk (iy p kk st N) l (64 * N : Nat)) (fun j hj => ?_) ?_
    · exact key
    · obtain ⟨h1, h2⟩ := IQ (nR (p := p) (kk := kk) hs j) hp hj hb l
      have k := CG tF r p kk (iy p kk st j) n l (64 * j : Nat)
      rw [h1, h2, wrap_i64 _ (by omega) (by omega)] at k
      refine Tr.post (Tr.cut (Ac true) 60 _ 7 (by omega) k rfl) (bh.same ?_ rfl)
      show (uS tF r n p kk st l _).t = (uS tF r n p kk st l _).t
      rw [show ((64 * j : Nat) : Int) + 64 = ((64 * (j + 1) : Nat) : Int) by omega]
    · have k := CH tF r p kk (iy p kk st N) n l (64 * N : Nat)
      exact Tr.post (Tr.cut (Ac false) 60 _ 7 (by omega) k (by rw [hp]; simp [aa])) (bh.same rfl rfl)
  refine ai.mk (vs := []) Tryz.func164 rfl (x := .normal) (s := uS tF r n p kk (iy p kk st N) l (64 * N : Nat)) ?_ (.inr rfl) (by kernel_rfl)
  refine aY.items (Ac true) 60 1 _ 7 (by simp [uH]) (uI tF r p kk st n l) rfl (by decide) ?_
  exact aY.item 1 (by decide) bS ⟨rfl, rfl⟩
def C5 (s : List Int) : List Int := (List.range 32).map fun i => IntKind.u8.wrap (bG .u32 (s.getD (i / 4) 0) (24 - 8 * (i % 4)))
def nM (r : List Int) (n : Int) : List Int := eC r 64 56 ++ Ii n
theorem NB (r : List Int) (n : Int) : (nM r n).length = 64 * ((nM r n).length / 64) ∧ (nM r n).length ≤ r.length + 73 := by
  have h := (ri (len := r.length) (show 56 < 64 by omega)).1
  have hK : cR r.length 64 56 < 64 := Nat.mod_lt _ (by omega)
  have hl : (nM r n).length = r.length + 1 + cR r.length 64 56 + 8 := by unfold nM; rw [List.length_append, ir]; rfl
  rw [hl]; omega
noncomputable def mT (st r : List Int) (n : Int) : List Int := C5 (iy (nM r n) gA st ((nM r n).length / 64))
theorem G0 (st r : List Int) (n : Int) : (mT st r n).length = 32 := by simp [mT, C5]
theorem R9 (st r : List Int) (n : Int) : (aT Tryz.prog (suC true) 60 1 6 (atoms uB) ⟨aO Tryz.f108.ntmps [.ptr 0 0 0], [dg st r n], true⟩).bind (St.cut [2, 3, 4, 25] 6) =
    some ⟨uT, uK st r n (nM r n) gA st, aa true (aa true (decide (r.length < 274877900000)))⟩ := by kernel_rfl
theorem Yk {st r : List Int} (n : Int) (hs : st.length = 8) (hr : r.length < 274877900000) : ai Tryz.prog 108 [.ptr 0 0 0] [dg st r n] (.agg [.ints .u8 32 (mT st r n)]) [dg st r n] := by
  obtain ⟨hp, hq⟩ := NB r n
  unfold mT
  generalize hN : (nM r n).length / 64 = N at hp
  refine ai.cz R7 60 7 1 Tryz.func108 (by simp) rfl (fun s' x h => ?_) (s := ⟨uT, uK st r n (nM r n) gA (iy (nM r n) gA st N) ++ [.gap], true⟩) (p := true) (by kernel_rfl) rfl rfl rfl
  refine aY.items (Ac true) 60 6 _ 6 (by simp) (R9 st r n) (by rw [decide_eq_true hr]; rfl) (by decide) ?_
  refine aY.item 6 (by decide) ?_ h
  exact Tr.yl 0 (by kernel_rfl) (f := 164) (first := []) (jW := [.ptr 4 0 0, .ptr 5 0 0]) true Tryz.func164 (by decide) rfl (by kernel_rfl) (fun l => R8 st r n hp (by omega) gA hs l)
    (fun l => ⟨_, rfl, rfl, by simp [Es], rfl⟩) (fun l => rfl)
def jZ (vs : List SV) : List Nat := match vs with
  | [.ptr a _ _] => [a]
  | _ => []
noncomputable def adE : List SV → List Blk → Option (SV × Bool)
  | [.ptr 0 0 0], [.b [.ints .u32 8 st, .ro true .u8 r, .int .i64 n]] => some (.agg [.ints .u8 32 (mT st r n)], decide (st.length = 8) && decide (r.length < 274877900000))
  | _, _ => none
noncomputable def aah : Entry Tryz.prog := .YP 108 _ Tryz.func108 (by decide) rfl jZ adE fun vs h0 v e => by
  unfold adE at e
  split at e
  · simp only [Option.some.injEq, Prod.mk.injEq, Bool.and_eq_true, decide_eq_true_eq] at e
    obtain ⟨rfl, hs, hb⟩ := e
    exact Yk _ hs hb
  · cases e
end Go.Proofs.YtibfpjeeanppjaaGreat.S2
end
