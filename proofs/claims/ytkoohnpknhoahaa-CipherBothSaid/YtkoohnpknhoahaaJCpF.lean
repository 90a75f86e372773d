/- This file proves the law CipherBoth: two states that mixed in the same show what the other one hides. Conditions: texts of bytes. -/
import Derived.Test.YtkoohnpknhoahaaJCpE
set_option linter.all false
namespace Go.Proofs.Ytkoohnpknhoahaa.Cp
open Go Go.Sy Sh
theorem TrL.cutA {P : Program} {ro : Option Nat} {k : Nat} {Γ : Ctr} (hΓ : CtrSound P Γ) (n m : Nat) (live : List Nat) (j : Nat) (hj : k ≤ j) {c : Code} {s s1 s' : St} {x : Exit} (pre : ∀ s2, TrL P ro k ((atoms c).drop m) s1 x s2 → TrL P ro k (atoms c) s x s2)
    (e : (execA P Γ n k ((atoms c).drop m) s1).bind (fun r => (r.2.cut live j).map fun q => (r.1, q)) = some (x, s')) (hob : s'.ob = true) : Tr P ro k c s x s' := by
  obtain ⟨⟨y, s2⟩, h1, e⟩ := Option.bind_eq_some_iff.1 e
  obtain ⟨s3, h2, q⟩ := Option.map_eq_some_iff.1 e
  cases q
  refine (Tr.of_atoms (pre s2 (TrL.rest hΓ n h1 ?_))).post (Ent.cut hj h2)
  simp only at h2
  unfold St.cut St.trunc at h2
  split at h2
  · cases h2; exact hob
  · cases h2
noncomputable def largeF (k n : Nat → Int) (t : Nat → List Int) (N : Nat) : List SV → Option (SV × List Blk × Bool)
  | [.rol false 3 N' g] => some (.bool (lgW N t), [], @decide (N' = N ∧ g = opg k n t) (Classical.propDecidable _))
  | _ => none
noncomputable def largeE (k n : Nat → Int) (t : Nat → List Int) (N : Nat) : Entry Try.prog := .val 20 _ Try.func20 (by decide) rfl false 0 (largeF k n t N) fun vs v new e => by
  unfold largeF at e
  split at e
  · simp only [Option.some.injEq, Prod.mk.injEq, @decide_eq_true_eq _ (Classical.propDecidable _)] at e
    obtain ⟨rfl, rfl, rfl, rfl⟩ := e
    exact large_fn _ _ _ _
  · cases e
noncomputable def lgD (k n : Nat → Int) (t : Nat → List Int) (N : Nat) : Bool := @decide (N = N ∧ (fun i => coolL (opg k n t i)) = opg k n t) (Classical.propDecidable _)
theorem lgD_true (k n : Nat → Int) (t : Nat → List Int) (N : Nat) : lgD k n t N = true := @decide_eq_true _ (Classical.propDecidable _) ⟨rfl, by funext i; rfl⟩
noncomputable def inlB : List (FuncId × Func) := [(39, Try.f39), (35, Try.f35), (40, Try.f40), (31, Try.f31), (41, Try.f41), (30, Try.f30)]
theorem inlB_ok : InlOK Try.prog inlB := InlOK.cons Try.func39 (by decide) (InlOK.cons Try.func35 (by decide) (InlOK.cons Try.func40 (by decide) (InlOK.cons Try.func31 (by decide) (InlOK.cons Try.func41 (by decide) (InlOK.cons Try.func30 (by decide) (InlOK.nil))))))
noncomputable def boC (k n : Nat → Int) (t : Nat → List Int) (N : Nat) (f : Nat → Option Bool) : Ctr := mk (P := Try.prog) [aliveE, beginE, mixSecretE, hide2E, show2E, largeE k n t N, twoE, S2.shortE] inlB f
theorem boC_ok (k n : Nat → Int) (t : Nat → List Int) (N : Nat) (f : Nat → Option Bool) : CtrSound Try.prog (boC k n t N f) := mk_sound _ inlB_ok _ _
noncomputable def boB : Code := bodyOf Try.f9
noncomputable def boL : Code := inner (inner (nthC 7 boB))
noncomputable def boR : Code := inner (nthC 2 boL)
noncomputable def boS (k n : Nat → Int) (t : Nat → List Int) (N : Nat) (key ch ha : List Int) (h : Bool) (m : Int) (i : Int) : St := ⟨slotsOf 128 [(4, .bool false), (5, .ptr 2 0 0), (31, .rol false 3 N (opg k n t)), (32, .int .i64 N), (33, .int .i64 i)], [st key h m ch ha, st key h m ch ha, .b [.ptr 0 0 0, .ptr 1 0 0]], true⟩
noncomputable def boT (k n : Nat → Int) (t : Nat → List Int) (N : Nat) (key ch ha : List Int) (h : Bool) (m : Int) (i : Int) (p q : Nat) (kd c : Int) (x : List Int) : St := ⟨slotsOf 128 [(4, .bool false), (5, .ptr 2 0 0), (7, .ptr 3 0 0), (8, .ptr p 0 0), (9, .ptr q 0 0), (31, .rol false 3 N (opg k n t)), (32, .int .i64 N), (33, .int .i64 i)], [st key h m ch ha, st key h m ch ha, .b [.ptr 0 0 0, .ptr 1 0 0], .b [.int .i64 kd, .ro false .u8 x, .int .i64 c]], true⟩
def f0 : Nat → Option Bool := fun i => if i = 73 then some true else if i = 106 || i = 100 then some false else none
def f1 : Nat → Option Bool := fun i => if i = 73 || i = 106 || i = 100 then some false else if i = 85 then some true else none
def f2 : Nat → Option Bool := fun i => if i = 73 || i = 85 || i = 106 || i = 100 || i = 72 then some false else none
noncomputable def oH (ob : Bool) (H : List Int) (m : Int) : Bool := andT (andT (andT ob (andT (decide (H.length = 32)) (decide (H.length = 32)))) (!(!decide (H = H)))) (!(m != m))
noncomputable def o0 (ha x H : List Int) (kd m : Int) : Bool := oH (andT (andT (andT true (kd == 0)) (hiX ha x)) (hiX ha x)) H m
noncomputable def o1 (ch ha x : List Int) (kd : Int) : Bool := andT (andT (andT (andT (andT (andT true (!(kd == 0))) (kd == 1)) (andT true (decide (ch.length = 32) && decide (x.length < 274877890000)))) (andT true (decide (ch.length = 32) && decide (x.length < 274877890000)))) (andT (decide (ha.length = 32)) (decide (ha.length = 32)))) (!(!decide (ha = ha)))
noncomputable def oS (ob : Bool) (y x H : List Int) (m : Int) : Bool := oH (andT (andT ob (andT (andT true (andT (andT true (true && decide (y.length = y.length))) (u8R y))) (andT (andT true (true && decide (x.length = x.length))) (u8R x)))) (!(!decide (y = x)))) H m
noncomputable def o2 (key ha x : List Int) (kd m : Int) : Bool := oS (andT (andT (andT (andT true (!(kd == 0))) (!(kd == 1))) (andT true (decide (ha.length = 32) && decide (0 ≤ m) && decide (m < 4294967295) && decide (x.length ≤ 1048576)))) (andT true (decide (ha.length = 32) && decide (0 ≤ m) && decide (m < 4294967295) && decide ((hiW key ha m x).length ≤ 1048592) && Ae.openB key (Ae.nonceW m) ha (hiW key ha m x)))) (Ae.openW key (Ae.nonceW m) (hiW key ha m x)) x (S2.shortW (ha ++ hiW key ha m x)) (m + 1)
noncomputable def o3 (ha x : List Int) (kd m : Int) : Bool := oS (andT (andT (andT (andT true (!(kd == 0))) (!(kd == 1))) (andT true (decide (ha.length = 32) && decide (x.length ≤ 1048592)))) (andT true (decide (ha.length = 32) && decide (x.length ≤ 1048592)))) x x (S2.shortW (ha ++ x)) m
section
variable (k n : Nat → Int) (t : Nat → List Int) (N : Nat) (key ch ha : List Int) (h : Bool) (m i kd c : Int) (x nm : List Int)
noncomputable def hdO : Bool := andT (andT (andT (andT (andT true (andT true (lgD k n t N))) (!lgW N t)) (!decide ((nm.length : Int) > 1000))) (andT true (decide (nm.length < 274877900000)))) (andT true (decide (nm.length < 274877900000)))
set_option maxRecDepth 100000 in
theorem bo_head : (execL Try.prog (boC k n t N fun i => if i = 21 || i = 25 then some false else none) 60 0 7 (atoms boB) ⟨slots0 Try.f9.ntmps [.str nm, .rol false 3 N (opg k n t)], [], true⟩).bind (St.cut [4, 5, 31, 32, 33] 3) =
    some { boS k n t N z32 (S2.shortW nm) (S2.shortW nm) false 0 0 with ob := hdO k n t N nm } := by kernel_rfl
set_option maxRecDepth 100000 in
theorem bo_a : (execL Try.prog (boC k n t N fun i => if i = 34 then some true else none) 60 0 2 (atoms boL) (boS k n t N key ch ha h m i)).bind (St.cut [4, 5, 31, 32, 33] 3) =
    some { boS k n t N key ch ha h m i with ob := andT true (decide (i < (N : Int))) } := by kernel_rfl
set_option maxRecDepth 100000 in
theorem bo_z : (exec Try.prog (boC k n t N fun _ => none) 60 0 (nthC 3 boL) (boS k n t N key ch ha h m i)).bind (fun r => (r.2.cut [4, 5, 31, 32, 33] 3).map fun q => (r.1, q)) =
    some (.normal, boS k n t N key ch ha h m (IntKind.i64.wrap (i + 1))) := by kernel_rfl
set_option maxRecDepth 100000 in
theorem bo_end : (exec Try.prog (boC k n t N fun i => if i = 34 then some false else none) 60 0 boL (boS k n t N key ch ha h m i)).bind (fun r => (r.2.cut [4, 5, 31, 32, 33] 3).map fun q => (r.1, q)) =
    some (.exit 0, { boS k n t N key ch ha h m i with ob := andT true (!decide (i < (N : Int))) }) := by kernel_rfl
set_option maxRecDepth 100000 in
theorem bo_pre : ∀ i : Nat, i < 61 → (execL Try.prog (boC k n t N fun _ => none) 60 0 2 (atoms boR) (boS k n t N key ch ha h m i)).bind (St.cut [4, 5, 7, 8, 9, 31, 32, 33] 4) =
    some { boT k n t N key ch ha h m i (if i % 2 = 0 then 0 else 1) (if i % 2 = 0 then 1 else 0) (k i) (n i) (t i) with ob := andT (andT true (inB i N)) (true && (decide (i < N) && true)) }
  | 0, _ => by kernel_rfl
  | 1, _ => by kernel_rfl
  | 2, _ => by kernel_rfl
  | 3, _ => by kernel_rfl
  | 4, _ => by kernel_rfl
  | 5, _ => by kernel_rfl
  | 6, _ => by kernel_rfl
  | 7, _ => by kernel_rfl
  | 8, _ => by kernel_rfl
  | 9, _ => by kernel_rfl
  | 10, _ => by kernel_rfl
  | 11, _ => by kernel_rfl
  | 12, _ => by kernel_rfl
  | 13, _ => by kernel_rfl
  | 14, _ => by kernel_rfl
  | 15, _ => by kernel_rfl
  | 16, _ => by kernel_rfl
  | 17, _ => by kernel_rfl
  | 18, _ => by kernel_rfl
  | 19, _ => by kernel_rfl
  | 20, _ => by kernel_rfl
  | 21, _ => by kernel_rfl
  | 22, _ => by kernel_rfl
  | 23, _ => by kernel_rfl
  | 24, _ => by kernel_rfl
  | 25, _ => by kernel_rfl
  | 26, _ => by kernel_rfl
  | 27, _ => by kernel_rfl
  | 28, _ => by kernel_rfl
  | 29, _ => by kernel_rfl
  | 30, _ => by kernel_rfl
  | 31, _ => by kernel_rfl
  | 32, _ => by kernel_rfl
  | 33, _ => by kernel_rfl
  | 34, _ => by kernel_rfl
  | 35, _ => by kernel_rfl
  | 36, _ => by kernel_rfl
  | 37, _ => by kernel_rfl
  | 38, _ => by kernel_rfl
  | 39, _ => by kernel_rfl
  | 40, _ => by kernel_rfl
  | 41, _ => by kernel_rfl
  | 42, _ => by kernel_rfl
  | 43, _ => by kernel_rfl
  | 44, _ => by kernel_rfl
  | 45, _ => by kernel_rfl
  | 46, _ => by kernel_rfl
  | 47, _ => by kernel_rfl
  | 48, _ => by kernel_rfl
  | 49, _ => by kernel_rfl
  | 50, _ => by kernel_rfl
  | 51, _ => by kernel_rfl
  | 52, _ => by kernel_rfl
  | 53, _ => by kernel_rfl
  | 54, _ => by kernel_rfl
  | 55, _ => by kernel_rfl
  | 56, _ => by kernel_rfl
  | 57, _ => by kernel_rfl
  | 58, _ => by kernel_rfl
  | 59, _ => by kernel_rfl
  | 60, _ => by kernel_rfl
  | _ + 61, h => absurd h (by omega)
set_option maxRecDepth 100000 in
theorem bo_00 : (execA Try.prog (boC k n t N f0) 60 0 ((atoms boR).drop 2) (boT k n t N key ch ha h m i 0 1 kd c x)).bind (fun r => (r.2.cut [4, 5, 31, 32, 33] 3).map fun q => (r.1, q)) =
    some (.normal, { boS k n t N key ch (S2.shortW [ha, x].flatten) h m i with ob := o0 ha x (S2.shortW [ha, x].flatten) kd m }) := by kernel_rfl
set_option maxRecDepth 100000 in
theorem bo_10 : (execA Try.prog (boC k n t N f1) 60 0 ((atoms boR).drop 2) (boT k n t N key ch ha h m i 0 1 kd c x)).bind (fun r => (r.2.cut [4, 5, 31, 32, 33] 3).map fun q => (r.1, q)) =
    some (.normal, { boS k n t N (tw2 (Kd.tagW ch x)) (tw1 (Kd.tagW ch x)) ha true 0 i with ob := o1 ch ha x kd }) := by kernel_rfl
set_option maxRecDepth 100000 in
theorem bo_20 : (execA Try.prog (boC k n t N f2) 60 0 ((atoms boR).drop 2) (boT k n t N key ch ha true m i 0 1 kd c x)).bind (fun r => (r.2.cut [4, 5, 31, 32, 33] 3).map fun q => (r.1, q)) =
    some (.normal, { boS k n t N key ch (S2.shortW (ha ++ hiW key ha m x)) true (m + 1) i with ob := o2 key ha x kd m }) := by kernel_rfl
set_option maxRecDepth 100000 in
theorem bo_30 : (execA Try.prog (boC k n t N f2) 60 0 ((atoms boR).drop 2) (boT k n t N key ch ha false m i 0 1 kd c x)).bind (fun r => (r.2.cut [4, 5, 31, 32, 33] 3).map fun q => (r.1, q)) =
    some (.normal, { boS k n t N key ch (S2.shortW (ha ++ x)) false m i with ob := o3 ha x kd m }) := by kernel_rfl
set_option maxRecDepth 100000 in
theorem bo_01 : (execA Try.prog (boC k n t N f0) 60 0 ((atoms boR).drop 2) (boT k n t N key ch ha h m i 1 0 kd c x)).bind (fun r => (r.2.cut [4, 5, 31, 32, 33] 3).map fun q => (r.1, q)) =
    some (.normal, { boS k n t N key ch (S2.shortW [ha, x].flatten) h m i with ob := o0 ha x (S2.shortW [ha, x].flatten) kd m }) := by kernel_rfl
set_option maxRecDepth 100000 in
theorem bo_11 : (execA Try.prog (boC k n t N f1) 60 0 ((atoms boR).drop 2) (boT k n t N key ch ha h m i 1 0 kd c x)).bind (fun r => (r.2.cut [4, 5, 31, 32, 33] 3).map fun q => (r.1, q)) =
    some (.normal, { boS k n t N (tw2 (Kd.tagW ch x)) (tw1 (Kd.tagW ch x)) ha true 0 i with ob := o1 ch ha x kd }) := by kernel_rfl
set_option maxRecDepth 100000 in
theorem bo_21 : (execA Try.prog (boC k n t N f2) 60 0 ((atoms boR).drop 2) (boT k n t N key ch ha true m i 1 0 kd c x)).bind (fun r => (r.2.cut [4, 5, 31, 32, 33] 3).map fun q => (r.1, q)) =
    some (.normal, { boS k n t N key ch (S2.shortW (ha ++ hiW key ha m x)) true (m + 1) i with ob := o2 key ha x kd m }) := by kernel_rfl
set_option maxRecDepth 100000 in
theorem bo_31 : (execA Try.prog (boC k n t N f2) 60 0 ((atoms boR).drop 2) (boT k n t N key ch ha false m i 1 0 kd c x)).bind (fun r => (r.2.cut [4, 5, 31, 32, 33] 3).map fun q => (r.1, q)) =
    some (.normal, { boS k n t N key ch (S2.shortW (ha ++ x)) false m i with ob := o3 ha x kd m }) := by kernel_rfl
end
end Go.Proofs.Ytkoohnpknhoahaa.Cp
