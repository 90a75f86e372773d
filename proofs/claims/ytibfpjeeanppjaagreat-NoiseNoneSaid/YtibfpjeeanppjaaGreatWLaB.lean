/- This file holds the texts LaA, LaB, a section each. No conditions beyond those in the theorems. -/
import Derived.Test.YtibfpjeeanppjaaGreatWMf
import Derived.Test.YtibfpjeeanppjaaGreatWMh
import Derived.Test.YtibfpjeeanppjaaGreatWLaL
set_option linter.all false
set_option maxRecDepth 100000
section
namespace Go.Proofs.YtibfpjeeanppjaaGreat.La
open Go Go.Sy Fe
noncomputable def cl0 : Ctr := mk (P := Tryz.prog) [] []
theorem cl0_ok : CtrSound Tryz.prog cl0 := mk_sound _ InlOK.nil _ _
def clL (l : List Int) : List Int := (l.set 0 (andI .u8 (l.getD 0 0) 248)).set 31 (orI .u8 (andI .u8 ((l.set 0 (andI .u8 (l.getD 0 0) 248)).getD 31 0) 127) 64)
noncomputable def clW (l : List Int) : List Int := Lock (clL l)
noncomputable def clF : List SV → Option (SV × List Blk × Bool)
  | [.agg [.ints .u8 32 l]] => some (.agg [.ints .u8 32 (clW l)], [], decide (l.length = 32))
  | _ => none
theorem cl_fn {l : List Int} (h : l.length = 32) : FnTr Tryz.prog 99 [.agg [.ints .u8 32 l]] [] (.agg [.ints .u8 32 (clW l)]) [] := by
  rw [clW, Lock_eq]
  exact call0 cl0_ok 60 Tryz.func99 (p := andT (andT true (true && decide (l.length = 32))) (true && decide ((l.set 0 (andI .u8 (l.getD 0 0) 248)).length = 32))) (by kernel_rfl) (by rw [List.length_set, h]; rfl) rfl
noncomputable def clampE : Entry Tryz.prog := .val 99 _ Tryz.func99 (by decide) rfl false 0 clF fun vs v new e => by
  unfold clF at e
  split at e
  · simp only [Option.some.injEq, Prod.mk.injEq, decide_eq_true_eq] at e
    obtain ⟨rfl, rfl, h⟩ := e
    exact cl_fn h
  · cases e
noncomputable abbrev fM (a b : List Int) : List Int := mulFe (lst 5 a) (lst 5 b)
noncomputable def wdX (x z : List Int) : List Int := fM (fM (addFe x z) (addFe x z)) (fM (subFe x z) (subFe x z))
noncomputable def wdE (x z : List Int) : List Int := subFe (fM (addFe x z) (addFe x z)) (fM (subFe x z) (subFe x z))
noncomputable def wdZ (x z : List Int) : List Int := fM (wdE x z) (addFe (fM (addFe x z) (addFe x z)) (fM (smallFe 121665) (wdE x z)))
noncomputable def waL (x z x' z' : List Int) : List Int := fM (subFe x' z') (addFe x z)
noncomputable def waR (x z x' z' : List Int) : List Int := fM (addFe x' z') (subFe x z)
noncomputable def waX (x z x' z' : List Int) : List Int := fM (addFe (waL x z x' z') (waR x z x' z')) (addFe (waL x z x' z') (waR x z x' z'))
noncomputable def waZ (u x z x' z' : List Int) : List Int := fM u (fM (subFe (waL x z x' z') (waR x z x' z')) (subFe (waL x z x' z') (waR x z x' z')))
abbrev W4 := List Int × List Int × List Int × List Int
noncomputable def wstp (u : List Int) (bit : Bool) (s : W4) : W4 :=
  bif bit then (waX s.2.2.1 s.2.2.2 s.1 s.2.1, waZ u s.2.2.1 s.2.2.2 s.1 s.2.1, wdX s.2.2.1 s.2.2.2, wdZ s.2.2.1 s.2.2.2)
  else (wdX s.1 s.2.1, wdZ s.1 s.2.1, waX s.1 s.2.1 s.2.2.1 s.2.2.2, waZ u s.1 s.2.1 s.2.2.1 s.2.2.2)
noncomputable def rg (u : List Int) (s : W4) : Blk := .b [.ints .u64 5 u, .ints .u64 5 s.1, .ints .u64 5 s.2.1, .ints .u64 5 s.2.2.1, .ints .u64 5 s.2.2.2]
noncomputable def stC : Ctr := mk (P := Tryz.prog) [addE, subE, mulE, smallE] []
theorem stC_ok : CtrSound Tryz.prog stC := mk_sound _ InlOK.nil _ _
def bitN (b : Bool) : Int := bif b then 1 else 0
theorem step_fn (u : List Int) (b : Bool) (s : W4) : FnTr Tryz.prog 100 [.ptr 0 0 0, .int .i64 (bitN b)] [rg u s] (.tup []) [rg u (wstp u b s)] := by
  obtain ⟨x0, z0, x1, z1⟩ := s
  cases b with
  | true => exact callM stC_ok 60 Tryz.func100 1 (by simp) (p := true) (by kernel_rfl) rfl rfl rfl
  | false => exact callM stC_ok 60 Tryz.func100 1 (by simp) (p := true) (by kernel_rfl) rfl rfl rfl
def pickR (vs : List SV) (_ : List Blk) : List Nat := match vs with
  | .ptr b _ _ :: _ => [b]
  | _ => []
noncomputable def stepF (b : Bool) : List SV → List Blk → Option (SV × List Blk × Bool)
  | [.ptr 0 0 0, .int .i64 i], [.b [.ints .u64 5 u, .ints .u64 5 x0, .ints .u64 5 z0, .ints .u64 5 x1, .ints .u64 5 z1]] => some (.tup [], [rg u (wstp u b (x0, z0, x1, z1))], decide (i = bitN b))
  | _, _ => none
noncomputable def stepE (b : Bool) : Entry Tryz.prog := .mut 100 _ Tryz.func100 (by decide) rfl pickR 0 (stepF b) fun vs h0 v h1 e => by
  unfold stepF at e
  split at e
  · rename_i i u x0 z0 x1 z1
    simp only [Option.some.injEq, Prod.mk.injEq, decide_eq_true_eq] at e
    obtain ⟨rfl, rfl, rfl⟩ := e
    exact step_fn u b (x0, z0, x1, z1)
  · cases e
noncomputable def cmC (b : Bool) (x : Bool) : Ctr := mk (P := Tryz.prog) [smallE, clampE, bitsE, stepE b, invE, mulE] [] fun i => if i = 5 then some x else none
theorem cmC_ok (b x : Bool) : CtrSound Tryz.prog (cmC b x) := mk_sound _ InlOK.nil _ _
noncomputable def cmB : Code := bodyOf Tryz.f64
noncomputable def cmR : Code := nthC 3 (bodyOf Tryz.f64)
def cmT : List (Option SV) := slotsOf 38 [(4, .ptr 2 0 0), (5, .ptr 4 0 0), (19, .fn (.func 130) [] [.ptr 5 0 0])]
noncomputable def cmK (sec u e : List Int) (s : W4) : List Blk := [.b [.ints .u8 32 sec], .b [.ints .u64 5 u], .b [.ints .u64 5 z5], rg u s, .b [.ptr 3 0 0], .b [.ints .u8 32 e]]
noncomputable def cmH (sec u e : List Int) (s : W4) (l : Nat) : List Blk := [.b [.ints .u8 32 sec], .b [.ints .u64 5 u], .b [.ints .u64 5 z5], rg u s, .b [.ptr 3 0 0], .b [.ints .u8 32 e], .g (some (rfL cmR cmT l))]
noncomputable def cmS (sec u e : List Int) (s : W4) (l : Nat) (i : Int) : St := ⟨slotsOf 20 [(0, .fn (.yield l) [] []), (1, .ptr 5 0 0), (3, .int .i64 i)], cmH sec u e s l, true⟩
noncomputable def w0 (u : List Int) : W4 := (smallFe 1, z5, u, smallFe 1)
section
variable (sec u e : List Int) (s : W4) (l : Nat) (i : Int)
theorem cm_head : (execL Tryz.prog (cmC true true) 60 0 3 (atoms cmB) ⟨slots0 Tryz.f64.ntmps [.agg [.ints .u8 32 sec], .agg [.ints .u64 5 u]], [], true⟩).bind (St.cut [4, 5, 19] 6) = some ⟨cmT, cmK sec u (clW sec) (w0 u), andT true (andT true (decide (sec.length = 32)))⟩ := by kernel_rfl
theorem cm_first (b : Bool) : (execL Tryz.prog (cmC b true) 60 7 1 (atoms (bodyOf Tryz.f130)) ⟨slots0 Tryz.f130.ntmps [.fn (.yield l) [] [], .ptr 5 0 0], cmH sec u e s l, true⟩).bind (St.cut [0, 1, 3] 7) = some (cmS sec u e s l 255) := by kernel_rfl
theorem cm_end : (exec Tryz.prog (cmC true false) 60 7 bitsLoop (cmS sec u e s l i)).bind (fun r => (r.2.cut [0, 1, 3] 7).map fun q => (r.1, q)) = some (.exit 0, { cmS sec u e s l i with ob := andT true (!decide (i ≥ 0)) }) := by kernel_rfl
theorem cm_round (b : Bool) : (exec Tryz.prog (cmC b true) 60 7 bitsLoop (cmS sec u e s l i)).bind (fun r => (r.2.cut [0, 1, 3] 7).map fun q => (r.1, q)) =
    some (.normal, { cmS sec u e (wstp u b s) l (IntKind.i64.wrap (i - 1)) with ob := andT (bitO i) (andT (andT (andT (decide (l = l)) (decide (l = l))) (andT true (decide (bitI e i = bitN b)))) (decide (l = l))) }) := by kernel_rfl
end
noncomputable def wN (u : List Int) (bits : Nat → Bool) : Nat → W4
  | 0 => w0 u
  | j + 1 => wstp u (bits j) (wN u bits j)
theorem cm_iter {sec u e : List Int} {bits : Nat → Bool} (hb : ∀ j : Nat, j < 256 → bitI e (255 - j) = bitN (bits j)) (l : Nat) : FnTr Tryz.prog 130 [.fn (.yield l) [] [], .ptr 5 0 0] (cmH sec u e (w0 u) l) (.tup []) (cmH sec u e (wN u bits 256) l) := by
  have hloop : Tr Tryz.prog none 7 (nthC 1 (bodyOf Tryz.f130)) (cmS sec u e (w0 u) l 255) .normal (cmS sec u e (wN u bits 256) l (-1)) := by
    have key := Tr.loop (P := Tryz.prog) (ro := none) (k := 7) 0 (c := nthC 1 (bodyOf Tryz.f130)) (by kernel_rfl) (fun j : Nat => cmS sec u e (wN u bits j) l (255 - j)) 256 (s' := cmS sec u e (wN u bits 256) l (-1)) (fun j hj => ?_) ?_
    · exact key
    · have e1 : (255 : Int) - j - 1 = 255 - ((j + 1 : Nat) : Int) := by omega
      have hw : IntKind.i64.wrap (255 - (j : Int) - 1) = 255 - ((j + 1 : Nat) : Int) := by rw [wrap_i64 _ (by omega) (by omega), e1]
      have ho := bitO_iff (i := 255 - (j : Int)) (by omega) (by omega)
      have k := cm_round sec u e (wN u bits j) l (255 - j) (bits j)
      rw [hw] at k
      exact Tr.post (Tr.cut (cmC_ok (bits j) true) 60 _ 7 (by omega) k (by simp [andT, ho, hb j hj])) (Ent.same rfl rfl)
    · have k := cm_end sec u e (wN u bits 256) l (-1)
      exact Tr.post (Tr.cut (cmC_ok true false) 60 _ 7 (by omega) k rfl) (Ent.same rfl rfl)
  refine FnTr.mk (vs := []) Tryz.func130 rfl (x := .normal) (s := cmS sec u e (wN u bits 256) l (-1)) ?_ (.inr rfl) (by kernel_rfl)
  refine TrL.items (cmC_ok true true) 60 1 _ 7 (by simp [cmH]) (cm_first sec u e (w0 u) l true) rfl (by decide) ?_
  exact TrL.item 1 (by decide) hloop ⟨rfl, rfl⟩
noncomputable def cmW (u : List Int) (bits : Nat → Bool) : List Int := Lock (fM (wN u bits 256).1 (invFe (wN u bits 256).2.1))
theorem climb_fn {sec u : List Int} {bits : Nat → Bool} (hs : sec.length = 32) (hb : ∀ j : Nat, j < 256 → bitI (clW sec) (255 - j) = bitN (bits j)) : FnTr Tryz.prog 64 [.agg [.ints .u8 32 sec], .agg [.ints .u64 5 u]] [] (.agg [.ints .u64 5 (cmW u bits)]) [] := by
  rw [cmW, Lock_eq]
  refine FnTr.restM (cmC_ok true true) 60 4 0 Tryz.func64 (by simp) rfl (fun s' x h => ?_) (s := ⟨cmT, cmK sec u (clW sec) (wN u bits 256) ++ [.gap], true⟩) (p := true) (by kernel_rfl) rfl rfl rfl
  refine TrL.items (cmC_ok true true) 60 3 _ 6 (by simp) (cm_head sec u) (by rw [decide_eq_true hs]; rfl) (by decide) ?_
  refine TrL.item 3 (by decide) ?_ h
  exact Tr.rangeB 0 (by kernel_rfl) (f := 130) (first := []) (capt := [.ptr 5 0 0]) true Tryz.func130 (by decide) rfl (by kernel_rfl) (fun l => cm_iter hb l)
    (fun l => ⟨_, rfl, rfl, by simp [rfL], rfl⟩) (fun l => rfl)
end Go.Proofs.YtibfpjeeanppjaaGreat.La
end
section
namespace Go.Proofs.YtibfpjeeanppjaaGreat.La
open Go Go.Sy Re Fe
def clR (l : List Int) : List Int := (l.set 0 (IntKind.u8.wrap (IntKind.u8.wrap ((l.getD 0 0).tdiv 8) * 8))).set 31 (IntKind.u8.wrap (((l.set 0 (IntKind.u8.wrap (IntKind.u8.wrap ((l.getD 0 0).tdiv 8) * 8))).getD 31 0).tmod 64 + 64))
noncomputable def rc0 : Ctr := mk (P := Tryz.prog) [] []
theorem rc0_ok : CtrSound Tryz.prog rc0 := mk_sound _ InlOK.nil _ _
noncomputable abbrev rA (a b : List Int) : List Int := refN ((vR a + vR b) % Pm)
noncomputable abbrev rS (a b : List Int) : List Int := refN ((vR a - vR b) % Pm)
noncomputable abbrev rM (a b : List Int) : List Int := refN (vR a * vR b % Pm)
noncomputable def qdX (x z : List Int) : List Int := rM (rM (rA x z) (rA x z)) (rM (rS x z) (rS x z))
noncomputable def qdE (x z : List Int) : List Int := rS (rM (rA x z) (rA x z)) (rM (rS x z) (rS x z))
noncomputable def qdZ (k x z : List Int) : List Int := rM (qdE x z) (rA (rM (rA x z) (rA x z)) (rM k (qdE x z)))
noncomputable def qaL (x z x' z' : List Int) : List Int := rM (rS x' z') (rA x z)
noncomputable def qaR (x z x' z' : List Int) : List Int := rM (rA x' z') (rS x z)
noncomputable def qaX (x z x' z' : List Int) : List Int := rM (rA (qaL x z x' z') (qaR x z x' z')) (rA (qaL x z x' z') (qaR x z x' z'))
noncomputable def qaZ (u x z x' z' : List Int) : List Int := rM u (rM (rS (qaL x z x' z') (qaR x z x' z')) (rS (qaL x z x' z') (qaR x z x' z')))
abbrev L4 := List Int × List Int × List Int × List Int
noncomputable def qstp (u k : List Int) (bit : Bool) (s : L4) : L4 :=
  bif bit then (qaX s.2.2.1 s.2.2.2 s.1 s.2.1, qaZ u s.2.2.1 s.2.2.2 s.1 s.2.1, qdX s.2.2.1 s.2.2.2, qdZ k s.2.2.1 s.2.2.2)
  else (qdX s.1 s.2.1, qdZ k s.1 s.2.1, qaX s.1 s.2.1 s.2.2.1 s.2.2.2, qaZ u s.1 s.2.1 s.2.2.1 s.2.2.2)
noncomputable def coC (x y z : Bool) : Ctr := mk (P := Tryz.prog) [Re.addE, Re.subE, Re.mulE] [] fun i => if i = 32 then some x else if i = 45 then some y else if i = 102 then some z else none
theorem coC_ok (x y z : Bool) : CtrSound Tryz.prog (coC x y z) := mk_sound _ InlOK.nil _ _
noncomputable def coH (sec u cl : List Int) (s : L4) (k : List Int) : List Blk := [.b [.ints .u8 32 sec], .b [.ints .i64 16 u], .b [.ints .u8 32 (List.replicate 32 0)], .b [.ints .u8 32 cl], .b [.ints .i64 16 s.1], .b [.ints .i64 16 s.2.1], .b [.ints .i64 16 s.2.2.1], .b [.ints .i64 16 s.2.2.2], .b [.ints .i64 16 k]]
noncomputable def coS (sec u cl : List Int) (s : L4) (k : List Int) (i : Int) : St := ⟨slotsOf 112 [(2, .ptr 0 0 0), (3, .ptr 1 0 0), (4, .ptr 2 0 0), (5, .ptr 3 0 0), (6, .ptr 4 0 0), (7, .ptr 5 0 0), (8, .ptr 6 0 0), (9, .ptr 7 0 0), (10, .ptr 8 0 0), (11, .int .i64 i)], coH sec u cl s k, true⟩
noncomputable def coB : Code := inner (inner (nthC 8 (bodyOf Tryz.f53)))
noncomputable def qO (o : Bool) (u k x z x' z' : List Int) : Bool :=
  let P := fun (o a b : Bool) => andT o (andT true (a && b))
  let A := rA x z; let B := rS x z; let C := rA x' z'; let D := rS x' z'
  let AA := rM A A; let BB := rM B B; let E := rS AA BB; let DA := rM D A; let CB := rM C B
  let F := rA DA CB; let G := rS DA CB
  P (P (P (P (P (P (P (P (P (P (P (P (P (P (P (P (P (P o (okP x) (okP z)) (okP x) (okN z)) (okP x') (okP z')) (okP x') (okN z')) (okP A) (okP A)) (okP B) (okP B)) (okP AA) (okN BB)) (okP D) (okP A)) (okP C) (okP B)) (okP DA) (okP CB)) (okP DA) (okN CB)) (okP F) (okP F)) (okP G) (okP G)) (okP u) (okP (rM G G))) (okP AA) (okP BB)) (okP k) (okP E)) (okP AA) (okP (rM k E))) (okP E) (okP (rA AA (rM k E)))
theorem qO_true {o : Bool} {u k x z x' z' : List Int} (ho : o = true) (hu : okN u = true) (hk : okN k = true) (hx : okN x = true) (hz : okN z = true) (hx' : okN x' = true) (hz' : okN z' = true) : qO o u k x z x' z' = true := by
  have pp : ∀ o a b : Bool, o = true → a = true → b = true → andT o (andT true (a && b)) = true := fun o a b h1 h2 h3 => by rw [h1, h2, h3]; rfl
  unfold qO
  simp only
  refine pp _ _ _ ?_ (refN_ok _) (refN_ok _)
  refine pp _ _ _ ?_ (refN_ok _) (refN_ok _)
  refine pp _ _ _ ?_ (okN_iff.1 hk).1 (refN_ok _)
  refine pp _ _ _ ?_ (refN_ok _) (refN_ok _)
  refine pp _ _ _ ?_ (okN_iff.1 hu).1 (refN_ok _)
  refine pp _ _ _ ?_ (refN_ok _) (refN_ok _)
  refine pp _ _ _ ?_ (refN_ok _) (refN_ok _)
  refine pp _ _ _ ?_ (refN_ok _) (refM_okN _)
  refine pp _ _ _ ?_ (refN_ok _) (refN_ok _)
  refine pp _ _ _ ?_ (refN_ok _) (refN_ok _)
  refine pp _ _ _ ?_ (refN_ok _) (refN_ok _)
  refine pp _ _ _ ?_ (refN_ok _) (refM_okN _)
  refine pp _ _ _ ?_ (refN_ok _) (refN_ok _)
  refine pp _ _ _ ?_ (refN_ok _) (refN_ok _)
  refine pp _ _ _ ?_ (okN_iff.1 hx').1 hz'
  refine pp _ _ _ ?_ (okN_iff.1 hx').1 (okN_iff.1 hz').1
  refine pp _ _ _ ?_ (okN_iff.1 hx).1 hz
  exact pp _ _ _ ho (okN_iff.1 hx).1 (okN_iff.1 hz).1
def qbit (e : List Int) (i : Int) : Int := (shrI .u8 (e.getD (0 + (IntKind.i64.wrap (i.tdiv 8)).toNat) 0) (IntKind.u64.wrap (i.tmod 8)).toNat).tmod 2
def qbO (i : Int) : Bool := andT (andT (andT (andT true (decide (i ≥ 0))) (inB (IntKind.i64.wrap (i.tdiv 8)) 32)) (decide (0 + (IntKind.i64.wrap (i.tdiv 8)).toNat < 32))) (decide (0 ≤ IntKind.u64.wrap (i.tmod 8)))
section
variable (sec u cl k : List Int) (s : L4) (i : Int)
theorem co_zero : (exec Tryz.prog (coC true false false) 60 0 coB (coS sec u cl s k i)).bind (fun r => (r.2.cut [2, 3, 4, 5, 6, 7, 8, 9, 10, 11] 9).map fun q => (r.1, q)) =
    some (.normal, { coS sec u cl (qstp u k false s) k (IntKind.i64.wrap (i - 1)) with ob := andT (qO (andT (qbO i) (!(qbit cl i == 1))) u k s.1 s.2.1 s.2.2.1 s.2.2.2) (!(qbit cl i == 1)) }) := by kernel_rfl
theorem co_one : (exec Tryz.prog (coC true true true) 60 0 coB (coS sec u cl s k i)).bind (fun r => (r.2.cut [2, 3, 4, 5, 6, 7, 8, 9, 10, 11] 9).map fun q => (r.1, q)) =
    some (.normal, { coS sec u cl (qstp u k true s) k (IntKind.i64.wrap (i - 1)) with ob := andT (qO (andT (qbO i) (qbit cl i == 1)) u k s.2.2.1 s.2.2.2 s.1 s.2.1) (qbit cl i == 1) }) := by kernel_rfl
theorem co_end : (exec Tryz.prog (coC false false false) 60 0 coB (coS sec u cl s k i)).bind (fun r => (r.2.cut [2, 3, 4, 5, 6, 7, 8, 9, 10, 11] 9).map fun q => (r.1, q)) =
    some (.exit 0, { coS sec u cl s k i with ob := andT true (!decide (i ≥ 0)) }) := by kernel_rfl
end
end Go.Proofs.YtibfpjeeanppjaaGreat.La
end
