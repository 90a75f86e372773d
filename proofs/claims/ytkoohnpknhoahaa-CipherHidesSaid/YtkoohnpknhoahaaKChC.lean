/- This file proves the runs of the law CipherHides: its head, and a round for each outcome. Conditions: texts of bytes. -/
import Derived.Test.YtkoohnpknhoahaaKChB
import Derived.Test.YtkoohnpknhoahaaKCpE
set_option linter.all false
namespace Go.Proofs.Ytkoohnpknhoahaa.Ch
open Go Go.Sy Sh R4
open Cp (opg lgW large_fn badP)
noncomputable def largeF (k n : Nat → Int) (t : Nat → List Int) (N : Nat) : List SV → Option (SV × List Blk × Bool)
  | [.rol false 3 N' g] => some (.bool (lgW N t), [], @decide (N' = N ∧ g = opg k n t) (Classical.propDecidable _))
  | _ => none
noncomputable def largeE (k n : Nat → Int) (t : Nat → List Int) (N : Nat) : Entry Try.prog := .val 20 _ Try.func20 (by decide) rfl false 0 (largeF k n t N) fun vs v new e => by
  unfold largeF at e
  split at e
  · simp only [Option.some.injEq, Prod.mk.injEq, @decide_eq_true_eq _ (Classical.propDecidable _)] at e
    obtain ⟨rfl, rfl, rfl, rfl⟩ := e
    exact large_fn _ _ _ _
  · cases e
noncomputable def lgD (k n : Nat → Int) (t : Nat → List Int) (N : Nat) : Bool := @decide (N = N ∧ (fun i => Go.Sy.coolL (opg k n t i)) = opg k n t) (Classical.propDecidable _)
theorem lgD_true (k n : Nat → Int) (t : Nat → List Int) (N : Nat) : lgD k n t N = true := @decide_eq_true _ (Classical.propDecidable _) ⟨rfl, by funext i; rfl⟩
noncomputable def inlD : List (FuncId × Func) := [(22, Try.f22)]
theorem inlD_ok : InlOK Try.prog inlD := InlOK.cons Try.func22 (by decide) InlOK.nil
noncomputable def hdC (j : Bool) (k n : Nat → Int) (t : Nat → List Int) (N : Nat) (f : Nat → Option Bool) : Ctr := mk (P := Try.prog) [Cp.aliveE, largeE k n t N, newE, jumpE j] inlD f
theorem hdC_ok (j : Bool) (k n : Nat → Int) (t : Nat → List Int) (N : Nat) (f : Nat → Option Bool) : CtrSound Try.prog (hdC j k n t N f) := mk_sound _ inlD_ok _ _
noncomputable def hdB : Code := bodyOf Try.f8
noncomputable def hdL : Code := inner (inner (nthC 11 hdB))
noncomputable def hdR : Code := inner (nthC 2 hdL)
noncomputable def rdC (u : Bool) (m : Nat) (f : Nat → Option Bool) : Ctr := mk (P := Try.prog) [Bn.copyE, hideE u, showE m, hideQE u, showQE m, Bn.keptE, Bn.apartE, Bn.numE, Bn.sameE, Bn.numberE] [] f
theorem rdC_ok (u : Bool) (m : Nat) (f : Nat → Option Bool) : CtrSound Try.prog (rdC u m f) := mk_sound _ InlOK.nil _ _
noncomputable def z32 : List Int := List.replicate 32 0
noncomputable def hdH (key : List Int) (m : Int) : List Blk := [.b [.ints .u8 32 key], ci key m, .b [.ints .u8 32 z32, .ints .u8 32 z32, .bool true, .ints .u8 32 key, .int .i64 m]]
noncomputable def hdS (k n : Nat → Int) (t : Nat → List Int) (N : Nat) (key : List Int) (m i : Int) : St := ⟨slotsOf 132 [(7, .ptr 1 0 0), (8, .ptr 2 0 0), (52, .rol false 3 N (opg k n t)), (53, .int .i64 N), (54, .int .i64 i)], hdH key m, true⟩
def Yx (x : List Int) : List Int := ((x ++ [165, 90]).drop 0).take x.length
def Cx (c : Int) : List Int := [IntKind.u8.wrap c]
def oC (c : Int) : Bool := andT (decide ((Cx c).length = 1) && true) (decide ((Cx c).length = 1))
def oP (i : Int) (N : Nat) (x : List Int) (c : Int) (kd P1 P2 : Bool) : Bool :=
  let A := andT (andT (andT (andT true (inB i N)) (true && (decide (i.toNat < N) && true))) (andT true (decide (x.length < 1000000)))) kd
  let B := andT A (andT (andT true (andT (oC c) (andT (decide (0 + x.length ≤ x.length + 2) && decide (0 + x.length ≤ (x ++ [165, 90]).length)) (decide ((Yx x).length = x.length))))) P1)
  andT B (andT (andT true (oC c)) P2)
def oS (ob : Bool) (L : Nat) (out want : List Int) : Bool :=
  andT (andT ob (andT (andT (decide (0 + L ≤ L) && decide (0 + L ≤ out.length)) (decide (((out.drop 0).take L).length = L))) (u8R ((out.drop 0).take L) && u8R want))) (decide ((out.drop 0).take L = want))
def oT (ob : Bool) (m : Int) (x : List Int) (Q : Bool) : Bool :=
  let A := andT ob (!(m != m))
  let B := andT A (andT true (decide (x.length = x.length) && decide (x.length + 2 = x.length + 2) && decide (x.length + 2 = x.length + 2) && decide (x ++ [165, 90] = x ++ [165, 90]) && decide (x.length < 1000000) && u8R x))
  let C := andT B (decide (x ++ [165, 90] = x ++ [165, 90]))
  andT (andT C (andT true Q)) (decide ((x ++ [(165 : Int), 90]).length = x.length + 2))
def oQ (x : List Int) (L : Nat) (out : List Int) : Bool := decide (x.length + 2 = x.length + 2) && decide (L = L) && decide (x.length + 2 = x.length + 2) && decide (out.length = L) && decide ((x ++ [(165 : Int), 90]).length = x.length + 2) && decide (L < 1000000) && decide (x.length < 1000000)
def oQ0 (x : List Int) : Bool := decide (x.length + 2 = x.length + 2) && decide (x.length + 2 = x.length + 2) && decide ((x ++ [(165 : Int), 90]).length = x.length + 2) && decide (x.length < 1000000)
noncomputable def oHide (i : Int) (N : Nat) (x : List Int) (c : Int) (kd : Bool) (key : List Int) (m : Int) : Bool :=
  oT (oS (oP i N x c kd (decide (0 ≤ m) && decide (m < 4294967295) && decide ((Cx c).length ≤ 1048576) && decide ((Yx x).length ≤ 1048576)) (decide (0 ≤ m) && decide (m < 4294967295) && decide (key.length = 32) && dgB key && dgB (Cx c) && decide ((Cx c).length ≤ 1048576) && decide (x.length ≤ 1048576)))
    ((Yx x).length + 16) (Ae.sealW key (Ae.nonceW m) (Cx c) (Yx x)) (Ae.sealW key (Ae.nonceW m) (Cx c) x)) (m + 1) x (oQ x ((Yx x).length + 16) (Ae.sealW key (Ae.nonceW m) (Cx c) (Yx x)))
noncomputable def oShow (i : Int) (N : Nat) (x : List Int) (c : Int) (kd : Bool) (key : List Int) (m : Int) : Bool :=
  oT (oS (oP i N x c kd (decide (0 ≤ m) && decide (m < 4294967295) && decide ((Cx c).length ≤ 1048592) && decide ((Yx x).length ≤ 1048592) && Ae.openB key (Ae.nonceW m) (Cx c) (Yx x)) (decide (0 ≤ m) && decide (m < 4294967295) && decide (key.length = 32) && dgB key && dgB (Cx c) && dgB x && decide ((Cx c).length ≤ 1048592) && decide (x.length ≤ 1048592) && Ae.openB key (Ae.nonceW m) (Cx c) x))
    ((Yx x).length - 16) (Ae.openW key (Ae.nonceW m) (Yx x)) (Ae.openW key (Ae.nonceW m) x)) (m + 1) x (oQ x ((Yx x).length - 16) (Ae.openW key (Ae.nonceW m) (Yx x)))
noncomputable def oBad (i : Int) (N : Nat) (x : List Int) (c : Int) (kd : Bool) (key : List Int) (m : Int) : Bool :=
  oT (oP i N x c kd (decide (m < 4294967295) && decide ((Cx c).length ≤ 1048592) && decide ((Yx x).length ≤ 1048592) && !Ae.openB key (Ae.nonceW m) (Cx c) (Yx x)) (decide (m < 4294967295) && decide (key.length = 32) && dgB key && dgB (Cx c) && dgB x && decide ((Cx c).length ≤ 1048592) && decide (x.length ≤ 1048592) && !Ae.openB key (Ae.nonceW m) (Cx c) x)) m x (oQ0 x)
def oUsed (i : Int) (N : Nat) (x : List Int) (c : Int) (kd : Bool) (m : Int) : Bool := oT (oP i N x c kd (decide (4294967295 ≤ m)) (decide (4294967295 ≤ m))) m x (oQ0 x)
def fR (b : Bool) : Nat → Option Bool := fun i => if i = 67 then some b else if i = 107 || i = 121 || i = 128 then some true else if i = 115 then some false else none
def fA : Nat → Option Bool := fun i => if i = 20 then some false else if i = 37 || i = 40 || i = 45 || i = 48 then some true else none
def fB : Nat → Option Bool := fun i => if i = 20 || i = 37 || i = 45 then some false else none
def fC : Nat → Option Bool := fun i => if i = 20 || i = 40 || i = 48 then some false else if i = 37 || i = 45 then some true else none
section
variable (k n : Nat → Int) (t : Nat → List Int) (N : Nat) (key : List Int) (m i num : Int)
noncomputable def oH (j : Bool) : Bool := andT (andT (andT true (andT true (lgD k n t N))) (!lgW N t)) (andT true j)
set_option maxRecDepth 100000 in
theorem hd_a : (execL Try.prog (hdC true k n t N fA) 60 0 11 (atoms hdB) ⟨slots0 Try.f8.ntmps [.agg [.ints .u8 32 key], .int .i64 num, .rol false 3 N (opg k n t)], [], true⟩).bind (St.cut [7, 8, 52, 53, 54] 3) =
    some { hdS k n t N key num 0 with ob := andT (andT (andT (andT (oH k n t N (inR 0 num)) (decide (num ≥ 0))) (decide (num ≤ 4294967295))) (decide (num ≥ 0))) (decide (num ≤ 4294967295)) } := by kernel_rfl
set_option maxRecDepth 100000 in
theorem hd_b : (execL Try.prog (hdC false k n t N fB) 60 0 11 (atoms hdB) ⟨slots0 Try.f8.ntmps [.agg [.ints .u8 32 key], .int .i64 num, .rol false 3 N (opg k n t)], [], true⟩).bind (St.cut [7, 8, 52, 53, 54] 3) =
    some { hdS k n t N key 0 0 with ob := andT (andT (oH k n t N (!inR 0 num)) (!decide (num ≥ 0))) (!decide (num ≥ 0)) } := by kernel_rfl
set_option maxRecDepth 100000 in
theorem hd_c : (execL Try.prog (hdC false k n t N fC) 60 0 11 (atoms hdB) ⟨slots0 Try.f8.ntmps [.agg [.ints .u8 32 key], .int .i64 num, .rol false 3 N (opg k n t)], [], true⟩).bind (St.cut [7, 8, 52, 53, 54] 3) =
    some { hdS k n t N key 0 0 with ob := andT (andT (andT (andT (oH k n t N (!inR 0 num)) (decide (num ≥ 0))) (!decide (num ≤ 4294967295))) (decide (num ≥ 0))) (!decide (num ≤ 4294967295)) } := by kernel_rfl
set_option maxRecDepth 100000 in
theorem rd_a : (execL Try.prog (rdC true 0 fun i => if i = 55 then some true else none) 60 0 2 (atoms hdL) (hdS k n t N key m i)).bind (St.cut [7, 8, 52, 53, 54] 3) = some { hdS k n t N key m i with ob := andT true (decide (i < (N : Int))) } := by kernel_rfl
set_option maxRecDepth 100000 in
theorem rd_z : (exec Try.prog (rdC true 0 fun _ => none) 60 0 (nthC 3 hdL) (hdS k n t N key m i)).bind (fun r => (r.2.cut [7, 8, 52, 53, 54] 3).map fun q => (r.1, q)) = some (.normal, hdS k n t N key m (J (i + 1))) := by kernel_rfl
set_option maxRecDepth 100000 in
theorem rd_end : (exec Try.prog (rdC true 0 fun i => if i = 55 then some false else none) 60 0 hdL (hdS k n t N key m i)).bind (fun r => (r.2.cut [7, 8, 52, 53, 54] 3).map fun q => (r.1, q)) = some (.exit 0, { hdS k n t N key m i with ob := andT true (!decide (i < (N : Int))) }) := by kernel_rfl
set_option maxRecDepth 100000 in
theorem rd_hide : (exec Try.prog (rdC false 0 (fR true)) 60 0 hdR (hdS k n t N key m i)).bind (fun r => (r.2.cut [7, 8, 52, 53, 54] 3).map fun q => (r.1, q)) =
    some (.normal, { hdS k n t N key (m + 1) i with ob := oHide i N (t i.toNat) (n i.toNat) (k i.toNat == 2) key m }) := by kernel_rfl
set_option maxRecDepth 100000 in
theorem rd_hused : (exec Try.prog (rdC true 2 (fR true)) 60 0 hdR (hdS k n t N key m i)).bind (fun r => (r.2.cut [7, 8, 52, 53, 54] 3).map fun q => (r.1, q)) =
    some (.normal, { hdS k n t N key m i with ob := oUsed i N (t i.toNat) (n i.toNat) (k i.toNat == 2) m }) := by kernel_rfl
set_option maxRecDepth 100000 in
theorem rd_show : (exec Try.prog (rdC false 0 (fR false)) 60 0 hdR (hdS k n t N key m i)).bind (fun r => (r.2.cut [7, 8, 52, 53, 54] 3).map fun q => (r.1, q)) =
    some (.normal, { hdS k n t N key (m + 1) i with ob := oShow i N (t i.toNat) (n i.toNat) (!(k i.toNat == 2)) key m }) := by kernel_rfl
set_option maxRecDepth 100000 in
theorem rd_bad : (exec Try.prog (rdC false 1 (fR false)) 60 0 hdR (hdS k n t N key m i)).bind (fun r => (r.2.cut [7, 8, 52, 53, 54] 3).map fun q => (r.1, q)) =
    some (.normal, { hdS k n t N key m i with ob := oBad i N (t i.toNat) (n i.toNat) (!(k i.toNat == 2)) key m }) := by kernel_rfl
set_option maxRecDepth 100000 in
theorem rd_sused : (exec Try.prog (rdC false 2 (fR false)) 60 0 hdR (hdS k n t N key m i)).bind (fun r => (r.2.cut [7, 8, 52, 53, 54] 3).map fun q => (r.1, q)) =
    some (.normal, { hdS k n t N key m i with ob := oUsed i N (t i.toNat) (n i.toNat) (!(k i.toNat == 2)) m }) := by kernel_rfl
end
end Go.Proofs.Ytkoohnpknhoahaa.Ch
