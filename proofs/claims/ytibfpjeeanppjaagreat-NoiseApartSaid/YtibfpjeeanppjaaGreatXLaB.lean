/- This file holds the texts LaA, LaB, a section each. No conditions beyond those in the theorems. -/
import Derived.Test.YtibfpjeeanppjaaGreatXMf
import Derived.Test.YtibfpjeeanppjaaGreatXMh
import Derived.Test.YtibfpjeeanppjaaGreatXLaL
set_option linter.all false
set_option maxRecDepth 100000
section
namespace Go.Proofs.YtibfpjeeanppjaaGreat.La
open Go Go.Sy Fe
noncomputable def cl0 : br := mk (P := Tryz.prog) [] []
theorem VI : ag Tryz.prog cl0 := ah _ aq.nil _ _
def rq (l : List Int) : List Int := (l.set 0 (bO .u8 (l.getD 0 0) 248)).set 31 (fT .u8 (bO .u8 ((l.set 0 (bO .u8 (l.getD 0 0) 248)).getD 31 0) 127) 64)
noncomputable def gX (l : List Int) : List Int := gH (rq l)
noncomputable def clF : List SV → Option (SV × List Blk × Bool)
  | [.agg [.ints .u8 32 l]] => some (.agg [.ints .u8 32 (gX l)], [], decide (l.length = 32))
  | _ => none
theorem aaz {l : List Int} (h : l.length = 32) : ai Tryz.prog 99 [.agg [.ints .u8 32 l]] [] (.agg [.ints .u8 32 (gX l)]) [] := by
  rw [gX, aC]
  exact aG VI 60 Tryz.func99 (p := aa (aa true (true && decide (l.length = 32))) (true && decide ((l.set 0 (bO .u8 (l.getD 0 0) 248)).length = 32))) (by kernel_rfl) (by rw [List.length_set, h]; rfl) rfl
noncomputable def VJ : Entry Tryz.prog := .val 99 _ Tryz.func99 (by decide) rfl false 0 clF fun vs v new e => by
  unfold clF at e
  split at e
  · simp only [Option.some.injEq, Prod.mk.injEq, decide_eq_true_eq] at e
    obtain ⟨rfl, rfl, h⟩ := e
    exact aaz h
  · cases e
noncomputable abbrev fM (a b : List Int) : List Int := gB (aH 5 a) (aH 5 b)
noncomputable def wdX (x z : List Int) : List Int := fM (fM (gE x z) (gE x z)) (fM (gF x z) (gF x z))
noncomputable def wdE (x z : List Int) : List Int := gF (fM (gE x z) (gE x z)) (fM (gF x z) (gF x z))
noncomputable def wdZ (x z : List Int) : List Int := fM (wdE x z) (gE (fM (gE x z) (gE x z)) (fM (cw 121665) (wdE x z)))
noncomputable def VK (x z x' z' : List Int) : List Int := fM (gF x' z') (gE x z)
noncomputable def VL (x z x' z' : List Int) : List Int := fM (gE x' z') (gF x z)
noncomputable def waX (x z x' z' : List Int) : List Int := fM (gE (VK x z x' z') (VL x z x' z')) (gE (VK x z x' z') (VL x z x' z'))
noncomputable def waZ (u x z x' z' : List Int) : List Int := fM u (fM (gF (VK x z x' z') (VL x z x' z')) (gF (VK x z x' z') (VL x z x' z')))
abbrev W4 := List Int × List Int × List Int × List Int
noncomputable def G4 (u : List Int) (bit : Bool) (s : W4) : W4 :=
  bif bit then (waX s.2.2.1 s.2.2.2 s.1 s.2.1, waZ u s.2.2.1 s.2.2.2 s.1 s.2.1, wdX s.2.2.1 s.2.2.2, wdZ s.2.2.1 s.2.2.2)
  else (wdX s.1 s.2.1, wdZ s.1 s.2.1, waX s.1 s.2.1 s.2.2.1 s.2.2.2, waZ u s.1 s.2.1 s.2.2.1 s.2.2.2)
noncomputable def rg (u : List Int) (s : W4) : Blk := .b [.ints .u64 5 u, .ints .u64 5 s.1, .ints .u64 5 s.2.1, .ints .u64 5 s.2.2.1, .ints .u64 5 s.2.2.2]
noncomputable def stC : br := mk (P := Tryz.prog) [uE, JN, rJ, fj] []
theorem JO : ag Tryz.prog stC := ah _ aq.nil _ _
def C7 (b : Bool) : Int := bif b then 1 else 0
theorem Pg (u : List Int) (b : Bool) (s : W4) : ai Tryz.prog 100 [.ptr 0 0 0, .int .i64 (C7 b)] [rg u s] (.aQ []) [rg u (G4 u b s)] := by
  obtain ⟨x0, z0, x1, z1⟩ := s
  cases b with
  | true => exact bn JO 60 Tryz.func100 1 (by simp) (p := true) (by kernel_rfl) rfl rfl rfl
  | false => exact bn JO 60 Tryz.func100 1 (by simp) (p := true) (by kernel_rfl) rfl rfl rfl
def aaF (vs : List SV) (_ : List Blk) : List Nat := match vs with
  | .ptr b _ _ :: _ => [b]
  | _ => []
noncomputable def Tk (b : Bool) : List SV → List Blk → Option (SV × List Blk × Bool)
  | [.ptr 0 0 0, .int .i64 i], [.b [.ints .u64 5 u, .ints .u64 5 x0, .ints .u64 5 z0, .ints .u64 5 x1, .ints .u64 5 z1]] => some (.aQ [], [rg u (G4 u b (x0, z0, x1, z1))], decide (i = C7 b))
  | _, _ => none
noncomputable def aaG (b : Bool) : Entry Tryz.prog := .mut 100 _ Tryz.func100 (by decide) rfl aaF 0 (Tk b) fun vs h0 v h1 e => by
  unfold Tk at e
  split at e
  · rename_i i u x0 z0 x1 z1
    simp only [Option.some.injEq, Prod.mk.injEq, decide_eq_true_eq] at e
    obtain ⟨rfl, rfl, rfl⟩ := e
    exact Pg u b (x0, z0, x1, z1)
  · cases e
noncomputable def cmC (b : Bool) (x : Bool) : br := mk (P := Tryz.prog) [fj, VJ, Tl, aaG b, VM, rJ] [] fun i => if i = 5 then some x else none
theorem uY (b x : Bool) : ag Tryz.prog (cmC b x) := ah _ aq.nil _ _
noncomputable def cmB : Code := aE Tryz.f64
noncomputable def cmR : Code := az 3 (aE Tryz.f64)
def cmT : List (Option SV) := slotsOf 38 [(4, .ptr 2 0 0), (5, .ptr 4 0 0), (19, .fn (.func 130) [] [.ptr 5 0 0])]
noncomputable def cmK (sec u e : List Int) (s : W4) : List Blk := [.b [.ints .u8 32 sec], .b [.ints .u64 5 u], .b [.ints .u64 5 z5], rg u s, .b [.ptr 3 0 0], .b [.ints .u8 32 e]]
noncomputable def cmH (sec u e : List Int) (s : W4) (l : Nat) : List Blk := [.b [.ints .u8 32 sec], .b [.ints .u64 5 u], .b [.ints .u64 5 z5], rg u s, .b [.ptr 3 0 0], .b [.ints .u8 32 e], .g (some (Es cmR cmT l))]
noncomputable def N5 (sec u e : List Int) (s : W4) (l : Nat) (i : Int) : St := ⟨slotsOf 20 [(0, .fn (.yield l) [] []), (1, .ptr 5 0 0), (3, .int .i64 i)], cmH sec u e s l, true⟩
noncomputable def w0 (u : List Int) : W4 := (cw 1, z5, u, cw 1)
section
variable (sec u e : List Int) (s : W4) (l : Nat) (i : Int)
theorem Ph : (aT Tryz.prog (cmC true true) 60 0 3 (atoms cmB) ⟨aO Tryz.f64.ntmps [.agg [.ints .u8 32 sec], .agg [.ints .u64 5 u]], [], true⟩).bind (St.cut [4, 5, 19] 6) = some ⟨cmT, cmK sec u (gX sec) (w0 u), aa true (aa true (decide (sec.length = 32)))⟩ := by kernel_rfl
theorem JP (b : Bool) : (aT Tryz.prog (cmC b true) 60 7 1 (atoms (aE Tryz.f130)) ⟨aO Tryz.f130.ntmps [.fn (.yield l) [] [], .ptr 5 0 0], cmH sec u e s l, true⟩).bind (St.cut [0, 1, 3] 7) = some (N5 sec u e s l 255) := by kernel_rfl
theorem VN : (exec Tryz.prog (cmC true false) 60 7 mU (N5 sec u e s l i)).bind (fun r => (r.2.cut [0, 1, 3] 7).map fun q => (r.1, q)) = some (.exit 0, { N5 sec u e s l i with ob := aa true (!decide (i ≥ 0)) }) := by kernel_rfl
theorem JQ (b : Bool) : (exec Tryz.prog (cmC b true) 60 7 mU (N5 sec u e s l i)).bind (fun r => (r.2.cut [0, 1, 3] 7).map fun q => (r.1, q)) =
    some (.normal, { N5 sec u e (G4 u b s) l (IntKind.i64.wrap (i - 1)) with ob := aa (JR i) (aa (aa (aa (decide (l = l)) (decide (l = l))) (aa true (decide (tr e i = C7 b)))) (decide (l = l))) }) := by kernel_rfl
end
noncomputable def wN (u : List Int) (bits : Nat → Bool) : Nat → W4
  | 0 => w0 u
  | j + 1 => G4 u (bits j) (wN u bits j)
theorem Pj {sec u e : List Int} {bits : Nat → Bool} (hb : ∀ j : Nat, j < 256 → tr e (255 - j) = C7 (bits j)) (l : Nat) : ai Tryz.prog 130 [.fn (.yield l) [] [], .ptr 5 0 0] (cmH sec u e (w0 u) l) (.aQ []) (cmH sec u e (wN u bits 256) l) := by
  have bS : Tr Tryz.prog none 7 (az 1 (aE Tryz.f130)) (N5 sec u e (w0 u) l 255) .normal (N5 sec u e (wN u bits 256) l (-1)) := by
    have key := Tr.loop (P := Tryz.prog) (ro := none) (k := 7) 0 (c := az 1 (aE Tryz.f130)) (by kernel_rfl) (fun j : Nat => N5 sec u e (wN u bits j) l (255 - j)) 256 (s' := N5 sec u e (wN u bits 256) l (-1)) (fun j hj => ?_) ?_
    · exact key
    · have e1 : (255 : Int) - j - 1 = 255 - ((j + 1 : Nat) : Int) := by omega
      have hw : IntKind.i64.wrap (255 - (j : Int) - 1) = 255 - ((j + 1 : Nat) : Int) := by rw [wrap_i64 _ (by omega) (by omega), e1]
      have ho := AN (i := 255 - (j : Int)) (by omega) (by omega)
      have k := JQ sec u e (wN u bits j) l (255 - j) (bits j)
      rw [hw] at k
      exact Tr.post (Tr.cut (uY (bits j) true) 60 _ 7 (by omega) k (by simp [aa, ho, hb j hj])) (bh.same rfl rfl)
    · have k := VN sec u e (wN u bits 256) l (-1)
      exact Tr.post (Tr.cut (uY true false) 60 _ 7 (by omega) k rfl) (bh.same rfl rfl)
  refine ai.mk (vs := []) Tryz.func130 rfl (x := .normal) (s := N5 sec u e (wN u bits 256) l (-1)) ?_ (.inr rfl) (by kernel_rfl)
  refine aY.items (uY true true) 60 1 _ 7 (by simp [cmH]) (JP sec u e (w0 u) l true) rfl (by decide) ?_
  exact aY.item 1 (by decide) bS ⟨rfl, rfl⟩
noncomputable def EV (u : List Int) (bits : Nat → Bool) : List Int := gH (fM (wN u bits 256).1 (EW (wN u bits 256).2.1))
theorem JS {sec u : List Int} {bits : Nat → Bool} (hs : sec.length = 32) (hb : ∀ j : Nat, j < 256 → tr (gX sec) (255 - j) = C7 (bits j)) : ai Tryz.prog 64 [.agg [.ints .u8 32 sec], .agg [.ints .u64 5 u]] [] (.agg [.ints .u64 5 (EV u bits)]) [] := by
  rw [EV, aC]
  refine ai.cz (uY true true) 60 4 0 Tryz.func64 (by simp) rfl (fun s' x h => ?_) (s := ⟨cmT, cmK sec u (gX sec) (wN u bits 256) ++ [.gap], true⟩) (p := true) (by kernel_rfl) rfl rfl rfl
  refine aY.items (uY true true) 60 3 _ 6 (by simp) (Ph sec u) (by rw [decide_eq_true hs]; rfl) (by decide) ?_
  refine aY.item 3 (by decide) ?_ h
  exact Tr.yl 0 (by kernel_rfl) (f := 130) (first := []) (jW := [.ptr 5 0 0]) true Tryz.func130 (by decide) rfl (by kernel_rfl) (fun l => Pj hb l)
    (fun l => ⟨_, rfl, rfl, by simp [Es], rfl⟩) (fun l => rfl)
end Go.Proofs.YtibfpjeeanppjaaGreat.La
end
section
namespace Go.Proofs.YtibfpjeeanppjaaGreat.La
open Go Go.Sy Re Fe
def clR (l : List Int) : List Int := (l.set 0 (IntKind.u8.wrap (IntKind.u8.wrap ((l.getD 0 0).tdiv 8) * 8))).set 31 (IntKind.u8.wrap (((l.set 0 (IntKind.u8.wrap (IntKind.u8.wrap ((l.getD 0 0).tdiv 8) * 8))).getD 31 0).tmod 64 + 64))
noncomputable def rc0 : br := mk (P := Tryz.prog) [] []
theorem VQ : ag Tryz.prog rc0 := ah _ aq.nil _ _
noncomputable abbrev rA (a b : List Int) : List Int := cn ((vR a + vR b) % Pm)
noncomputable abbrev rS (a b : List Int) : List Int := cn ((vR a - vR b) % Pm)
noncomputable abbrev rM (a b : List Int) : List Int := cn (vR a * vR b % Pm)
noncomputable def YW (x z : List Int) : List Int := rM (rM (rA x z) (rA x z)) (rM (rS x z) (rS x z))
noncomputable def qdE (x z : List Int) : List Int := rS (rM (rA x z) (rA x z)) (rM (rS x z) (rS x z))
noncomputable def YX (k x z : List Int) : List Int := rM (qdE x z) (rA (rM (rA x z) (rA x z)) (rM k (qdE x z)))
noncomputable def YY (x z x' z' : List Int) : List Int := rM (rS x' z') (rA x z)
noncomputable def YZ (x z x' z' : List Int) : List Int := rM (rA x' z') (rS x z)
noncomputable def Y0 (x z x' z' : List Int) : List Int := rM (rA (YY x z x' z') (YZ x z x' z')) (rA (YY x z x' z') (YZ x z x' z'))
noncomputable def Y1 (u x z x' z' : List Int) : List Int := rM u (rM (rS (YY x z x' z') (YZ x z x' z')) (rS (YY x z x' z') (YZ x z x' z')))
abbrev L4 := List Int × List Int × List Int × List Int
noncomputable def JT (u k : List Int) (bit : Bool) (s : L4) : L4 :=
  bif bit then (Y0 s.2.2.1 s.2.2.2 s.1 s.2.1, Y1 u s.2.2.1 s.2.2.2 s.1 s.2.1, YW s.2.2.1 s.2.2.2, YX k s.2.2.1 s.2.2.2)
  else (YW s.1 s.2.1, YX k s.1 s.2.1, Y0 s.1 s.2.1 s.2.2.1 s.2.2.2, Y1 u s.1 s.2.1 s.2.2.1 s.2.2.2)
noncomputable def Iw (x y z : Bool) : br := mk (P := Tryz.prog) [Re.uE, Re.JN, Re.rJ] [] fun i => if i = 32 then some x else if i = 45 then some y else if i = 102 then some z else none
theorem jl (x y z : Bool) : ag Tryz.prog (Iw x y z) := ah _ aq.nil _ _
noncomputable def coH (sec u cl : List Int) (s : L4) (k : List Int) : List Blk := [.b [.ints .u8 32 sec], .b [.ints .i64 16 u], .b [.ints .u8 32 (List.replicate 32 0)], .b [.ints .u8 32 cl], .b [.ints .i64 16 s.1], .b [.ints .i64 16 s.2.1], .b [.ints .i64 16 s.2.2.1], .b [.ints .i64 16 s.2.2.2], .b [.ints .i64 16 k]]
noncomputable def Ak (sec u cl : List Int) (s : L4) (k : List Int) (i : Int) : St := ⟨slotsOf 112 [(2, .ptr 0 0 0), (3, .ptr 1 0 0), (4, .ptr 2 0 0), (5, .ptr 3 0 0), (6, .ptr 4 0 0), (7, .ptr 5 0 0), (8, .ptr 6 0 0), (9, .ptr 7 0 0), (10, .ptr 8 0 0), (11, .int .i64 i)], coH sec u cl s k, true⟩
noncomputable def coB : Code := inner (inner (az 8 (aE Tryz.f53)))
noncomputable def qO (o : Bool) (u k x z x' z' : List Int) : Bool :=
  let P := fun (o a b : Bool) => aa o (aa true (a && b))
  let A := rA x z; let B := rS x z; let C := rA x' z'; let D := rS x' z'
  let AA := rM A A; let BB := rM B B; let E := rS AA BB; let DA := rM D A; let CB := rM C B
  let F := rA DA CB; let G := rS DA CB
  P (P (P (P (P (P (P (P (P (P (P (P (P (P (P (P (P (P o (cD x) (cD z)) (cD x) (j3 z)) (cD x') (cD z')) (cD x') (j3 z')) (cD A) (cD A)) (cD B) (cD B)) (cD AA) (j3 BB)) (cD D) (cD A)) (cD C) (cD B)) (cD DA) (cD CB)) (cD DA) (j3 CB)) (cD F) (cD F)) (cD G) (cD G)) (cD u) (cD (rM G G))) (cD AA) (cD BB)) (cD k) (cD E)) (cD AA) (cD (rM k E))) (cD E) (cD (rA AA (rM k E)))
theorem nS {o : Bool} {u k x z x' z' : List Int} (ho : o = true) (hu : j3 u = true) (hk : j3 k = true) (hx : j3 x = true) (hz : j3 z = true) (hx' : j3 x' = true) (j4 : j3 z' = true) : qO o u k x z x' z' = true := by
  have pp : ∀ o a b : Bool, o = true → a = true → b = true → aa o (aa true (a && b)) = true := fun o a b h1 h2 h3 => by rw [h1, h2, h3]; rfl
  unfold qO
  simp only
  refine pp _ _ _ ?_ (bI _) (bI _)
  refine pp _ _ _ ?_ (bI _) (bI _)
  refine pp _ _ _ ?_ (ez.1 hk).1 (bI _)
  refine pp _ _ _ ?_ (bI _) (bI _)
  refine pp _ _ _ ?_ (ez.1 hu).1 (bI _)
  refine pp _ _ _ ?_ (bI _) (bI _)
  refine pp _ _ _ ?_ (bI _) (bI _)
  refine pp _ _ _ ?_ (bI _) (eJ _)
  refine pp _ _ _ ?_ (bI _) (bI _)
  refine pp _ _ _ ?_ (bI _) (bI _)
  refine pp _ _ _ ?_ (bI _) (bI _)
  refine pp _ _ _ ?_ (bI _) (eJ _)
  refine pp _ _ _ ?_ (bI _) (bI _)
  refine pp _ _ _ ?_ (bI _) (bI _)
  refine pp _ _ _ ?_ (ez.1 hx').1 j4
  refine pp _ _ _ ?_ (ez.1 hx').1 (ez.1 j4).1
  refine pp _ _ _ ?_ (ez.1 hx).1 hz
  exact pp _ _ _ ho (ez.1 hx).1 (ez.1 hz).1
def w6 (e : List Int) (i : Int) : Int := (bG .u8 (e.getD (0 + (IntKind.i64.wrap (i.tdiv 8)).toNat) 0) (IntKind.u64.wrap (i.tmod 8)).toNat).tmod 2
def qbO (i : Int) : Bool := aa (aa (aa (aa true (decide (i ≥ 0))) (cN (IntKind.i64.wrap (i.tdiv 8)) 32)) (decide (0 + (IntKind.i64.wrap (i.tdiv 8)).toNat < 32))) (decide (0 ≤ IntKind.u64.wrap (i.tmod 8)))
section
variable (sec u cl k : List Int) (s : L4) (i : Int)
theorem Pk : (exec Tryz.prog (Iw true false false) 60 0 coB (Ak sec u cl s k i)).bind (fun r => (r.2.cut [2, 3, 4, 5, 6, 7, 8, 9, 10, 11] 9).map fun q => (r.1, q)) =
    some (.normal, { Ak sec u cl (JT u k false s) k (IntKind.i64.wrap (i - 1)) with ob := aa (qO (aa (qbO i) (!(w6 cl i == 1))) u k s.1 s.2.1 s.2.2.1 s.2.2.2) (!(w6 cl i == 1)) }) := by kernel_rfl
theorem C8 : (exec Tryz.prog (Iw true true true) 60 0 coB (Ak sec u cl s k i)).bind (fun r => (r.2.cut [2, 3, 4, 5, 6, 7, 8, 9, 10, 11] 9).map fun q => (r.1, q)) =
    some (.normal, { Ak sec u cl (JT u k true s) k (IntKind.i64.wrap (i - 1)) with ob := aa (qO (aa (qbO i) (w6 cl i == 1)) u k s.2.2.1 s.2.2.2 s.1 s.2.1) (w6 cl i == 1) }) := by kernel_rfl
theorem VS : (exec Tryz.prog (Iw false false false) 60 0 coB (Ak sec u cl s k i)).bind (fun r => (r.2.cut [2, 3, 4, 5, 6, 7, 8, 9, 10, 11] 9).map fun q => (r.1, q)) =
    some (.exit 0, { Ak sec u cl s k i with ob := aa true (!decide (i ≥ 0)) }) := by kernel_rfl
end
end Go.Proofs.YtibfpjeeanppjaaGreat.La
end
