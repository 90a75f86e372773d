/- This file holds the texts AeD, AeE, AeF, a section each. No conditions beyond those in the theorems. -/
import Derived.Test.YtibfpjeeanppjaaGreatXAeC
import Derived.Test.YtibfpjeeanppjaaGreatXShI
import Derived.Test.YtibfpjeeanppjaaGreatXCcB
set_option linter.all false
set_option maxRecDepth 100000
section
namespace Go.Proofs.YtibfpjeeanppjaaGreat.Ae
open Go Go.Sy Sh
noncomputable def Ep (a : Bool) : br := mk (P := Tryz.prog) [Oo, Sh.iO, Sh.yh, uE, ZB] [] fun i => if i = 9 then some a else none
theorem gJ (a : Bool) : ag Tryz.prog (Ep a) := ah _ aq.nil _ _
noncomputable def ZC : br := mk (P := Tryz.prog) [Oo, Sh.iO, Sh.yh, uE, ZB] []
theorem Er : ag Tryz.prog ZC := ah _ aq.nil _ _
noncomputable def CE : Code := aE Tryz.f115
noncomputable def maR : Code := az 3 CE
def k8 (key : List Int) : List Int := (key.drop 8).take 24
def tG (key : List Int) : Int := bO .u64 (eE key) 1152921487695413247
def tH (key : List Int) : Int := bO .u64 (eE (k8 key)) 1152921487695413244
noncomputable def sJ : List (Option SV) := slotsOf 25 [(2, .ptr 0 0 0), (4, .ptr 1 0 0), (5, .ptr 3 0 0), (17, .fn (.func 164) [] [.ptr 4 0 0, .ptr 5 0 0])]
noncomputable def maK (key p h : List Int) (r s : Int) : List Blk := [.b [.ints .u8 32 key], .b [.ints .u8 16 (List.replicate 16 0)], su h r s, .b [.ptr 2 0 0], .b [.ro false .u8 p], .b [.int .i64 16]]
noncomputable def maH (key p h : List Int) (r s : Int) (l : Nat) : List Blk := [.b [.ints .u8 32 key], .b [.ints .u8 16 (List.replicate 16 0)], su h r s, .b [.ptr 2 0 0], .b [.ro false .u8 p], .b [.int .i64 16], .g (some (Es maR sJ l))]
noncomputable def CF (key p h : List Int) (r s : Int) (l : Nat) (i : Int) : St := ⟨slotsOf 31 [(0, .fn (.yield l) [] []), (1, .ptr 4 0 0), (2, .ptr 5 0 0), (4, .int .i64 i)], maH key p h r s l, true⟩
def wZ (p : List Int) (i : Int) : Int := IntKind.i64.wrap (i + if ((p.drop i.toNat).length : Int) < 16 then ((p.drop i.toNat).length : Int) else 16)
def Ir (p : List Int) (i : Int) : List Int := (p.drop i.toNat).take ((wZ p i).toNat - i.toNat)
def UO (p h : List Int) (i : Int) (l : Nat) : Bool :=
  aa (aa (aa (aa true (decide (i < p.length))) (aa true (aa true (decide (0 ≤ i) && decide (i ≤ p.length)))))
    (aa (decide (0 ≤ wZ p i) && decide (wZ p i ≤ p.length)) (aa (decide (0 ≤ wZ p i) && decide (wZ p i ≤ (wZ p i).toNat)) (decide (0 ≤ i) && decide (i ≤ (wZ p i).toNat)))))
    (aa (aa (aa (decide (l = l)) (decide (l = l))) (aa true (decide (h.length = 3) && Fe.u64 (g h 0) && decide ((Ir p i).length ≤ 16)))) (decide (l = l)))
section
variable (key p h : List Int) (r s : Int) (l : Nat) (i : Int)
theorem CG : (exec Tryz.prog (Ep true) 60 7 (inner (inner (az 1 N0))) (CF key p h r s l i)).bind (fun r => (r.2.cut [0, 1, 2, 4] 7).map fun q => (r.1, q)) =
    some (.normal, { CF key p (rD h (Ir p i) r s) r s l (IntKind.i64.wrap (i + 16)) with ob := UO p h i l }) := by kernel_rfl
theorem CH : (exec Tryz.prog (Ep false) 60 7 (inner (inner (az 1 N0))) (CF key p h r s l i)).bind (fun r => (r.2.cut [0, 1, 2, 4] 7).map fun q => (r.1, q)) =
    some (.exit 0, { CF key p h r s l i with ob := aa true (!decide (i < p.length)) }) := by kernel_rfl
theorem uI : (aT Tryz.prog (Ep true) 60 7 1 (atoms N0) ⟨aO Tryz.f164.ntmps [.fn (.yield l) [] [], .ptr 4 0 0, .ptr 5 0 0], maH key p h r s l, true⟩).bind (St.cut [0, 1, 2, 4] 7) = some (CF key p h r s l 0) := by kernel_rfl
def maO (key : List Int) (xss : List (List Int)) : Bool := aa (aa (aa true (aa (aa (decide (key.length = 32) && true) (decide (key.length = 32))) (decide (8 ≤ key.length)))) (aa (aa (true && decide (32 ≤ key.length)) (decide ((k8 key).length = 24))) (decide (8 ≤ (k8 key).length)))) (aa true (decide (xss.flatten.length ≤ 274877906944) && decide (xss.length ≤ 274877906944)))
theorem yj (xss : List (List Int)) : (aT Tryz.prog ZC 60 0 3 (atoms CE) ⟨aO Tryz.f115.ntmps [.agg [.ints .u8 32 key], .iu false xss], [], true⟩).bind (St.cut [2, 4, 5, 17] 6) =
    some ⟨sJ, maK key xss.flatten [0, 0, 0] (tG key) (tH key), maO key xss⟩ := by kernel_rfl
end
noncomputable def hN (p : List Int) (r s : Int) : Nat → List Int
  | 0 => [0, 0, 0]
  | j + 1 => rD (hN p r s j) ((p.drop (16 * j)).take 16) r s
theorem UP (p : List Int) (r s : Int) : ∀ j, (hN p r s j).length = 3 ∧ ∀ i, R (g (hN p r s j) i)
  | 0 => ⟨rfl, fun i => by
      match i with
      | 0 => exact eF
      | 1 => exact eF
      | 2 => exact eF
      | n + 3 => exact eF⟩
  | _ + 1 => UJ _ _ _ _
theorem IQ {p h : List Int} (hl : h.length = 3) (h0 : R (g h 0)) {j : Nat} (hj : 16 * j < p.length) (hb : p.length < 274877906945) (l : Nat) : Ir p (16 * j : Nat) = (p.drop (16 * j)).take 16 ∧ UO p h (16 * j : Nat) l = true := by
  have hd : (p.drop (16 * j)).length = p.length - 16 * j := List.length_drop ..
  have he : wZ p (16 * j : Nat) = ((16 * j + min 16 (p.length - 16 * j) : Nat) : Int) := by
    unfold wZ
    rw [Int.toNat_natCast, hd]
    split
    · rw [wrap_i64 _ (by omega) (by omega)]; omega
    · rw [wrap_i64 _ (by omega) (by omega)]; omega
  have hw : Ir p (16 * j : Nat) = (p.drop (16 * j)).take 16 := by
    unfold Ir
    rw [he, Int.toNat_natCast, Int.toNat_natCast, Nat.add_sub_cancel_left]
    by_cases hc : 16 ≤ p.length - 16 * j
    · rw [Nat.min_eq_left hc]
    · rw [Nat.min_eq_right (by omega), List.take_of_length_le (by omega), List.take_of_length_le (by omega)]
  refine ⟨hw, ?_⟩
  have hlw : ((p.drop (16 * j)).take 16).length ≤ 16 := by rw [List.length_take]; omega
  unfold UO
  rw [hw, he, hl, Fe.jw.2 h0, decide_eq_true hlw]
  simp only [au, Bool.and_eq_true, decide_eq_true_eq, true_and, and_true, Int.toNat_natCast]
  omega
theorem Ox (key : List Int) {p : List Int} (hb : p.length < 274877906945) (r s : Int) (l : Nat) :
    ai Tryz.prog 164 [.fn (.yield l) [] [], .ptr 4 0 0, .ptr 5 0 0] (maH key p [0, 0, 0] r s l) (.aQ []) (maH key p (hN p r s ((p.length + 15) / 16)) r s l) := by
  have bS : Tr Tryz.prog none 7 (az 1 N0) (CF key p [0, 0, 0] r s l 0) .normal (CF key p (hN p r s ((p.length + 15) / 16)) r s l (16 * ((p.length + 15) / 16) : Nat)) := by
    have jR := Tr.loop (P := Tryz.prog) (ro := none) (k := 7) 0 (c := az 1 N0) (by kernel_rfl) (fun j : Nat => CF key p (hN p r s j) r s l (16 * j : Nat)) ((p.length + 15) / 16) (s' := CF key p (hN p r s ((p.length + 15) / 16)) r s l (16 * ((p.length + 15) / 16) : Nat)) (fun j hj => ?_) ?_
    · exact jR
    · obtain ⟨a1, a2⟩ := UP p r s j
      obtain ⟨h1, h2⟩ := IQ a1 (a2 0) (p := p) (j := j) (by omega) hb l
      have k := CG key p (hN p r s j) r s l (16 * j : Nat)
      rw [h1, h2, wrap_i64 _ (by omega) (by omega)] at k
      refine Tr.post (Tr.cut (gJ true) 60 _ 7 (by omega) k rfl) (bh.same ?_ rfl)
      show (CF key p [] r s l _).t = (CF key p [] r s l _).t
      rw [show ((16 * j : Nat) : Int) + 16 = ((16 * (j + 1) : Nat) : Int) by omega]
    · have k := CH key p (hN p r s ((p.length + 15) / 16)) r s l (16 * ((p.length + 15) / 16) : Nat)
      exact Tr.post (Tr.cut (gJ false) 60 _ 7 (by omega) k (by rw [decide_eq_false (by omega)]; rfl)) (bh.same rfl rfl)
  refine ai.mk (vs := []) Tryz.func164 rfl (x := .normal) (s := CF key p (hN p r s ((p.length + 15) / 16)) r s l (16 * ((p.length + 15) / 16) : Nat)) ?_ (.inr rfl) (by kernel_rfl)
  refine aY.items (gJ true) 60 1 _ 7 (by show 7 ≤ 7; omega) (uI key p _ r s l) rfl (by decide) ?_
  exact aY.item 1 (by decide) bS ⟨rfl, rfl⟩
noncomputable def jx (key xs : List Int) : List Int := gH (Ow (hN xs (tG key) (tH key) ((xs.length + 15) / 16)) key)
theorem GQ (key xs : List Int) : (jx key xs).length = 16 := by rw [jx, aC]; rfl
theorem Oy {key : List Int} {xss : List (List Int)} (hk : key.length = 32) (h1 : xss.flatten.length ≤ 274877906944) (h2 : xss.length ≤ 274877906944) : ai Tryz.prog 115 [.agg [.ints .u8 32 key], .iu false xss] [] (.agg [.ints .u8 16 (jx key xss.flatten)]) [] := by
  obtain ⟨a1, a2⟩ := UP xss.flatten (tG key) (tH key) ((xss.flatten.length + 15) / 16)
  have ho : maO key xss = true := by
    unfold maO k8
    rw [decide_eq_true h1, decide_eq_true h2]
    simp [hk, aa]
  rw [jx, aC]
  generalize hH : hN xss.flatten (tG key) (tH key) ((xss.flatten.length + 15) / 16) = H at a1 a2
  refine ai.cz Er 60 4 0 Tryz.func115 (by simp) rfl (fun s' x h => ?_) (s := ⟨sJ, maK key xss.flatten H (tG key) (tH key) ++ [.gap], true⟩)
    (p := aa true (aa true (decide (H.length = 3) && Fe.u64 (g H 0) && Fe.u64 (g H 1) && Fe.u64 (g H 2) && decide (key.length = 32)))) (by kernel_rfl) (by rw [a1, hk, Fe.jw.2 (a2 0), Fe.jw.2 (a2 1), Fe.jw.2 (a2 2)]; rfl) rfl rfl
  refine aY.items Er 60 3 _ 6 (by simp) (yj key xss) ho (by decide) ?_
  refine aY.item 3 (by decide) ?_ h
  rw [← hH]
  exact Tr.yl 0 (by kernel_rfl) (f := 164) (first := []) (jW := [.ptr 4 0 0, .ptr 5 0 0]) true Tryz.func164 (by decide) rfl (by kernel_rfl) (fun l => Ox key (by omega) (tG key) (tH key) l)
    (fun l => ⟨_, rfl, rfl, by simp [Es], rfl⟩) (fun l => rfl)
noncomputable def SL : List SV → Option (SV × List Blk × Bool)
  | [.agg [.ints .u8 32 key], .iu false xss] => some (.agg [.ints .u8 16 (jx key xss.flatten)], [], decide (key.length = 32) && decide (xss.flatten.length ≤ 274877906944) && decide (xss.length ≤ 274877906944))
  | _ => none
noncomputable def ZD : Entry Tryz.prog := .val 115 _ Tryz.func115 (by decide) rfl true 0 SL fun vs v new e => by
  unfold SL at e
  split at e
  · simp only [Option.some.injEq, Prod.mk.injEq, Bool.and_eq_true, decide_eq_true_eq] at e
    obtain ⟨rfl, rfl, ⟨h0, h1⟩, h2⟩ := e
    exact Oy h0 h1 h2
  · cases e
def jy (n : Int) : Nat := ((16 - n % 16) % 16).toNat
def Et (n : Int) : Int := (IntKind.i64.wrap (16 - n.tmod 16)).tmod 16
theorem oV {n : Int} (h : 0 ≤ n) : Et n = (jy n : Int) ∧ jy n < 16 := by
  unfold Et jy
  rw [Int.tmod_eq_emod_of_nonneg h, wrap_i64 _ (by omega) (by omega), Int.tmod_eq_emod_of_nonneg (by omega)]
  omega
noncomputable def flC : br := mk (P := Tryz.prog) [] []
theorem UQ : ag Tryz.prog flC := ah _ aq.nil _ _
theorem IS (n : Int) : bp Tryz.prog flC 60 Tryz.f116 [.int .i64 n] [] = some (.sl 0 0 0 1 (Et n).toNat (Et n).toNat true true, [.b [.ints .u8 (Et n).toNat (List.replicate (Et n).toNat 0)]],
    aa true (IntKind.i64.wrap (Et n) == Et n && IntKind.i64.wrap (Et n) == Et n && (decide (0 ≤ Et n) && decide (Et n ≤ Et n) && decide ((1 : Int) * Et n ≤ 281474976710656)))) := by kernel_rfl
theorem Oz {n : Int} (h : 0 ≤ n) : ai Tryz.prog 116 [.int .i64 n] [] (.ro true .u8 (List.replicate (jy n) 0)) [] := by
  obtain ⟨e, hb⟩ := oV h
  have k := IS n
  rw [e, wrap_i64 _ (by omega) (by omega), beq_self_eq_true, decide_eq_true (show (0 : Int) ≤ jy n by omega), decide_eq_true (show (1 : Int) * jy n ≤ 281474976710656 by omega), decide_eq_true (Int.le_refl _), Int.toNat_natCast] at k
  exact ai.frozen (ai.dD UQ Tryz.func116 k) (by simp)
def SM : List SV → Option (SV × List Blk × Bool)
  | [.int .i64 n] => some (.ro true .u8 (List.replicate (jy n) 0), [], decide (0 ≤ n))
  | _ => none
noncomputable def ZE : Entry Tryz.prog := .val 116 _ Tryz.func116 (by decide) rfl false 0 SM fun vs v new e => by
  unfold SM at e
  split at e
  · simp only [Option.some.injEq, Prod.mk.injEq, decide_eq_true_eq] at e
    obtain ⟨rfl, rfl, h⟩ := e
    exact Oz h
  · cases e
end Go.Proofs.YtibfpjeeanppjaaGreat.Ae
end
section
namespace Go.Proofs.YtibfpjeeanppjaaGreat.Ae
open Go Go.Sy Sh
noncomputable def mkC : br := mk (P := Tryz.prog) [Cc.pcE, Ux, ZE, ZD] []
theorem UR : ag Tryz.prog mkC := ah _ aq.nil _ _
noncomputable def CI (ctx mixed : List Int) : List (List Int) := [ctx, List.replicate (jy (ctx.length : Int)) 0, mixed, List.replicate (jy (mixed.length : Int)) 0, eB (W (ctx.length : Int)), eB (W (mixed.length : Int))]
noncomputable def tn (key af ctx mixed : List Int) : List Int := jx ((Cc.fc key af 0).take 32) (CI ctx mixed).flatten
theorem qa (key af ctx mixed : List Int) : (tn key af ctx mixed).length = 16 := GQ _ _
theorem OA (ctx mixed : List Int) : (CI ctx mixed).flatten.length ≤ ctx.length + mixed.length + 48 := by
  have h1 := (oV (n := (ctx.length : Int)) (by omega)).2
  have h2 := (oV (n := (mixed.length : Int)) (by omega)).2
  have h3 : ∀ n, (eB n).length = 8 := fun n => by simp [eB]
  unfold CI
  simp only [List.flatten_cons, List.flatten_nil, List.length_append, List.length_replicate, h3, List.length_nil]
  omega
theorem IT {key af ctx mixed : List Int} (hn : af.length = 12) (h1 : ctx.length + mixed.length ≤ 274877906000) :
    ai Tryz.prog 72 [.agg [.ints .u8 32 key], .ro false .u8 af, .ro false .u8 ctx, .ro false .u8 mixed] [] (.aQ [.ro true .u8 (tn key af ctx mixed), .nl .nilIface]) [] := by
  have ht := OA ctx mixed
  have k := bn UR 60 Tryz.func72 (args := [.agg [.ints .u8 32 key], .ro false .u8 af, .ro false .u8 ctx, .ro false .u8 mixed]) (h := []) 4 (by simp) (v := .aQ [.sl 3 0 0 1 16 16 true true, .nl .nilIface])
    (h1 := [.b [.ints .u8 32 key], .b [.ints .u8 64 (Cc.fc key af 0)], .b [.ro false .u8 ctx, .ro true .u8 (List.replicate (jy (ctx.length : Int)) 0), .ro false .u8 mixed, .ro true .u8 (List.replicate (jy (mixed.length : Int)) 0), .ro true .u8 (eB (W (ctx.length : Int))), .ro true .u8 (eB (W (mixed.length : Int)))], .b [.ints .u8 16 (tn key af ctx mixed)]])
    (p := aa (aa true (aa true (decide (af.length = 12) && true && true))) (aa true (decide (((Cc.fc key af 0).take 32).length = 32) && decide ((CI ctx mixed).flatten.length ≤ 274877906944) && true))) (by kernel_rfl)
    (by rw [hn, decide_eq_true (show ((Cc.fc key af 0).take 32).length = 32 by rw [List.length_take, Cc.Eu]; rfl), decide_eq_true (show (CI ctx mixed).flatten.length ≤ 274877906944 by omega)]; rfl) rfl rfl
  exact ai.fz 3 0 (by simp) (by simp) k (u := .aQ [.ro true .u8 (tn key af ctx mixed), .nl .nilIface]) (h2 := []) (p := aa (decide ((tn key af ctx mixed).length = 16)) true) (by kernel_rfl) (by rw [qa]; rfl)
noncomputable def uJ : List SV → Option (SV × List Blk × Bool)
  | [.agg [.ints .u8 32 key], .ro false .u8 af, .ro false .u8 ctx, .ro false .u8 mixed] => some (.aQ [.ro true .u8 (tn key af ctx mixed), .nl .nilIface], [], decide (af.length = 12) && decide (ctx.length + mixed.length ≤ 274877906000))
  | _ => none
noncomputable def ym : Entry Tryz.prog := .val 72 _ Tryz.func72 (by decide) rfl true 0 uJ fun vs v new e => by
  unfold uJ at e
  split at e
  · simp only [Option.some.injEq, Prod.mk.injEq, Bool.and_eq_true, decide_eq_true_eq] at e
    obtain ⟨rfl, rfl, h1, h2⟩ := e
    exact IT h1 h2
  · cases e
noncomputable def noC : br := mk (P := Tryz.prog) [Ux] [] fun i => if i = 7 then some true else none
theorem US : ag Tryz.prog noC := ah _ aq.nil _ _
def aD (n : Int) : List Int := [0, 0, 0, 0] ++ eB (W n)
theorem IU (n : Int) : ai Tryz.prog 40 [.int .i64 n] [] (.ro true .u8 (aD n)) [] :=
  ai.frozen (N := 12) (ex := false) (wh := true) (ai.dD US Tryz.func40 (n := 200) (by kernel_rfl)) rfl
def IV : List SV → Option (SV × List Blk × Bool)
  | [.int .i64 n] => some (.ro true .u8 (aD n), [], true)
  | _ => none
noncomputable def uL : Entry Tryz.prog := .val 40 _ Tryz.func40 (by decide) rfl false 0 IV fun vs v new e => by
  unfold IV at e
  split at e
  · cases e; exact IU _
  · cases e
noncomputable def YQ (a b c : Bool) : br := mk (P := Tryz.prog) [] [] fun i => if i = 10 then some a else if i = 14 then some b else if i = 24 then some c else none
theorem oW (a b c : Bool) : ag Tryz.prog (YQ a b c) := ah _ aq.nil _ _
noncomputable def SN : Code := aE Tryz.f81
noncomputable def Ai (xs ys : List Int) (i : Int) : St := ⟨slotsOf 26 [(0, .ro false .u8 xs), (1, .ro false .u8 ys), (12, .int .i64 xs.length), (13, .int .i64 i)], [], true⟩
section
variable (xs ys : List Int) (i : Int)
theorem UT : (bp Tryz.prog (YQ true true true) 60 Tryz.f81 [.ro false .u8 xs, .ro false .u8 ys] []).map (fun x => (x.1, x.2.2)) = some (.bool false, aa true ((xs.length : Int) != (ys.length : Int))) := by kernel_rfl
theorem OB : (aT Tryz.prog (YQ false true true) 60 0 4 (atoms SN) ⟨aO Tryz.f81.ntmps [.ro false .u8 xs, .ro false .u8 ys], [], true⟩).bind (St.cut [0, 1, 12, 13] 0) = some { Ai xs ys 0 with ob := aa true (!((xs.length : Int) != (ys.length : Int))) } := by kernel_rfl
def eqO (i : Int) (n m : Nat) : Bool := aa (aa (aa (aa (aa true (decide (i < n))) (cN i n)) (decide (i.toNat < n))) (cN i m)) (decide (i.toNat < m))
theorem UU : (exec Tryz.prog (YQ false true false) 60 0 (inner (inner (az 4 SN))) (Ai xs ys i)).bind (fun r => (r.2.cut [0, 1, 12, 13] 0).map fun q => (r.1, q)) =
    some (.normal, { Ai xs ys (IntKind.i64.wrap (i + 1)) with ob := aa (eqO i xs.length ys.length) (!(xs.getD i.toNat 0 != ys.getD i.toNat 0)) }) := by kernel_rfl
theorem UW : (exec Tryz.prog (YQ false true true) 60 0 (inner (inner (az 4 SN))) (Ai xs ys i)).bind (fun r => (r.2.cut [4] 0).map fun q => (r.1, q)) =
    some (.ret, ⟨slotsOf 26 [(4, .bool false)], [], aa (eqO i xs.length ys.length) (xs.getD i.toNat 0 != ys.getD i.toNat 0)⟩) := by kernel_rfl
theorem UX : (exec Tryz.prog (YQ false false true) 60 0 (inner (inner (az 4 SN))) (Ai xs ys i)).bind (fun r => (r.2.cut [] 0).map fun q => (r.1, q)) =
    some (.exit 0, ⟨slotsOf 26 [], [], aa true (!decide (i < xs.length))⟩) := by kernel_rfl
end
theorem At {i n m : Nat} (h1 : i < n) (h2 : i < m) : eqO i n m = true := by
  unfold eqO
  rw [aM (by omega) (by omega), aM (by omega) (by omega), decide_eq_true (show (i : Int) < n by omega), decide_eq_true (show (i : Int).toNat < n by omega), decide_eq_true (show (i : Int).toNat < m by omega)]
  rfl
theorem Ev {xs ys : List Int} (hl : xs.length = ys.length) (hn : xs.length < 4611686018427387904) {i : Nat} (hi : i < xs.length) (h : xs.getD i 0 = ys.getD i 0) : Tr Tryz.prog none 0 (inner (inner (az 4 SN))) (Ai xs ys i) .normal (Ai xs ys ((i + 1 : Nat) : Int)) := by
  have k := UU xs ys i
  rw [At hi (by omega), Int.toNat_natCast, h, wrap_i64 _ (by omega) (by omega)] at k
  refine Tr.post (Tr.cut (oW false true false) 60 _ 0 (by omega) k (by simp [aa])) (bh.same ?_ rfl)
  show (Ai xs ys _).t = (Ai xs ys _).t
  rw [show ((i : Int) + 1) = ((i + 1 : Nat) : Int) by omega]
theorem xu : ∀ {xs ys : List Int}, xs.length = ys.length → xs ≠ ys → ∃ k, k < xs.length ∧ (∀ i, i < k → xs.getD i 0 = ys.getD i 0) ∧ xs.getD k 0 ≠ ys.getD k 0
  | [], [], _, h => absurd rfl h
  | [], _ :: _, h, _ => by simp at h
  | _ :: _, [], h, _ => by simp at h
  | x :: xs, y :: ys, hl, h => by
    by_cases hx : x = y
    · subst hx
      obtain ⟨k, h1, h2, h3⟩ := xu (xs := xs) (ys := ys) (by simpa using hl) (fun q => h (by rw [q]))
      refine ⟨k + 1, by simp; omega, fun i hi => ?_, by simpa using h3⟩
      cases i with
      | zero => rfl
      | succ i => simpa using h2 i (by omega)
    · exact ⟨0, by simp, fun i hi => by omega, by simpa using hx⟩
theorem IW {xs ys : List Int} (hn : xs.length < 4611686018427387904) : ai Tryz.prog 81 [.ro false .u8 xs, .ro false .u8 ys] [] (.bool (decide (xs = ys))) [] := by
  by_cases hl : xs.length = ys.length
  · have hne : ((xs.length : Int) != (ys.length : Int)) = false := by rw [hl]; simp
    have hh := OB xs ys
    rw [hne] at hh
    by_cases he : xs = ys
    · rw [decide_eq_true he]
      have bS : Tr Tryz.prog none 0 (az 4 SN) (Ai xs ys 0) .normal ⟨slotsOf 26 [], [], true⟩ := by
        refine Tr.loop (P := Tryz.prog) (ro := none) (k := 0) 0 (c := az 4 SN) (by kernel_rfl) (fun j : Nat => Ai xs ys j) xs.length (fun j hj => Ev hl hn hj (by rw [he])) ?_
        exact Tr.post (Tr.cut (oW false false true) 60 _ 0 (by omega) (UX xs ys xs.length) (by simp [aa])) (bh.same rfl rfl)
      refine ai.cz (oW false true true) 60 5 0 Tryz.func81 (by simp) rfl (fun s' x h => ?_) (s := ⟨slotsOf 26 [], [], true⟩) (p := true) (by kernel_rfl) rfl rfl rfl
      refine aY.items (oW false true true) 60 4 _ 0 (by simp) hh rfl (by decide) ?_
      exact aY.item 4 (by decide) (Tr.pre bS (bh.same rfl rfl)) h
    · rw [decide_eq_false he]
      obtain ⟨k, h1, h2, h3⟩ := xu hl he
      have kd := UW xs ys k
      rw [At h1 (by omega), Int.toNat_natCast, bne_iff_ne.2 h3] at kd
      have bS : Tr Tryz.prog none 0 (az 4 SN) (Ai xs ys 0) .ret ⟨slotsOf 26 [(4, .bool false)], [], true⟩ :=
        Tr.tI 0 (by kernel_rfl) (iH.for (by simp) (fun j : Nat => Ai xs ys j) k (fun j hj => Ev hl hn (by omega) (h2 j hj)) (Tr.cut (oW false true true) 60 _ 0 (by omega) kd rfl))
      refine ai.mk (vs := [.bool false]) Tryz.func81 rfl (x := .ret) (s := ⟨slotsOf 26 [(4, .bool false)], [], true⟩) ?_ (.inl rfl) (by kernel_rfl)
      refine aY.items (oW false true true) 60 4 _ 0 (by simp) hh rfl (by decide) ?_
      exact aY.leave 4 (by decide) (by simp) (Tr.pre bS (bh.same rfl rfl))
  · rw [decide_eq_false (fun q => hl (by rw [q]))]
    exact aG (oW true true true) 60 Tryz.func81 (UT xs ys) (by rw [bne_iff_ne.2 (by omega)]; rfl) rfl
noncomputable def IX : List SV → Option (SV × List Blk × Bool)
  | [.ro false .u8 xs, .ro false .u8 ys] => some (.bool (decide (xs = ys)), [], decide (xs.length < 4611686018427387904))
  | _ => none
noncomputable def UY : Entry Tryz.prog := .val 81 _ Tryz.func81 (by decide) rfl true 0 IX fun vs v new e => by
  unfold IX at e
  split at e
  · simp only [Option.some.injEq, Prod.mk.injEq, decide_eq_true_eq] at e
    obtain ⟨rfl, rfl, h⟩ := e
    exact IW h
  · cases e
end Go.Proofs.YtibfpjeeanppjaaGreat.Ae
end
section
namespace Go.Proofs.YtibfpjeeanppjaaGreat.Ae
open Go Go.Sy Sh
noncomputable def seC : br := mk (P := Tryz.prog) [Cc.Au, ym, Sh.iO] [] fun i => if i = 15 || i = 19 || i = 24 then some false else none
theorem UZ : ag Tryz.prog seC := ah _ aq.nil _ _
noncomputable def fG (key af ctx text : List Int) : List Int := Cc.cv key af 1 text ++ tn key af ctx (Cc.cv key af 1 text)
theorem gV (key af : List Int) (n : Int) (text : List Int) : (Cc.cv key af n text).length = text.length := by simp [Cc.cv]
theorem fH (key af ctx text : List Int) : (fG key af ctx text).length = text.length + 16 := by unfold fG; rw [List.length_append, gV, qa]
noncomputable def seO (key af ctx text : List Int) : Bool := aa (aa (aa (aa (aa (aa true (!((af.length : Int) != 12))) (!decide ((ctx.length : Int) > 1048576))) (!decide ((text.length : Int) > 1048576))) (aa true (decide (af.length = 12) && true && decide ((1 : Int) + (text.length / 64 : Nat) ≤ 4294967295) && decide (text.length ≤ 281474976710656))))
  (aa true (decide (af.length = 12) && decide (ctx.length + (Cc.cv key af 1 text).length ≤ 274877906000)))) (aa true (decide ([Cc.cv key af 1 text, tn key af ctx (Cc.cv key af 1 text)].flatten.length ≤ 274877906944) && true))
theorem IY (key af ctx text : List Int) : (bp Tryz.prog seC 60 Tryz.f39 [.agg [.ints .u8 32 key], .ro false .u8 af, .ro false .u8 ctx, .ro false .u8 text] []).map (fun x => (x.1, x.2.2)) =
    some (.aQ [.ro true .u8 [Cc.cv key af 1 text, tn key af ctx (Cc.cv key af 1 text)].flatten, .nl .nilIface], seO key af ctx text) := by kernel_rfl
theorem OC {key af ctx text : List Int} (hn : af.length = 12) (h1 : ctx.length ≤ 1048576) (h2 : text.length ≤ 1048576) :
    ai Tryz.prog 39 [.agg [.ints .u8 32 key], .ro false .u8 af, .ro false .u8 ctx, .ro false .u8 text] [] (.aQ [.ro true .u8 (fG key af ctx text), .nl .nilIface]) [] := by
  have e : [Cc.cv key af 1 text, tn key af ctx (Cc.cv key af 1 text)].flatten = fG key af ctx text := by simp [fG]
  have k := aG UZ 60 Tryz.func39 (IY key af ctx text) (by
    unfold seO
    rw [e, fH, gV, hn, decide_eq_false (show ¬ ((ctx.length : Int) > 1048576) by omega), decide_eq_false (show ¬ ((text.length : Int) > 1048576) by omega), decide_eq_true (show (1 : Int) + (text.length / 64 : Nat) ≤ 4294967295 by omega), decide_eq_true (show text.length ≤ 281474976710656 by omega), decide_eq_true (show ctx.length + text.length ≤ 274877906000 by omega), decide_eq_true (show text.length + 16 ≤ 274877906944 by omega)]
    rfl) rfl
  rw [e] at k
  exact k
noncomputable def SO : List SV → Option (SV × List Blk × Bool)
  | [.agg [.ints .u8 32 key], .ro false .u8 af, .ro false .u8 ctx, .ro false .u8 text] => some (.aQ [.ro true .u8 (fG key af ctx text), .nl .nilIface], [], decide (af.length = 12) && decide (ctx.length ≤ 1048576) && decide (text.length ≤ 1048576))
  | _ => none
noncomputable def SP : Entry Tryz.prog := .val 39 _ Tryz.func39 (by decide) rfl true 0 SO fun vs v new e => by
  unfold SO at e
  split at e
  · simp only [Option.some.injEq, Prod.mk.injEq, Bool.and_eq_true, decide_eq_true_eq] at e
    obtain ⟨rfl, rfl, ⟨h1, h2⟩, h3⟩ := e
    exact OC h1 h2 h3
  · cases e
noncomputable def opC (a b : Bool) : br := mk (P := Tryz.prog) [Cc.Au, ym, UY] [] fun i => if i = 19 || i = 23 || i = 28 then some false else if i = 33 then some a else if i = 53 then some b else none
theorem CJ (a b : Bool) : ag Tryz.prog (opC a b) := ah _ aq.nil _ _
def Is (x : List Int) : Int := IntKind.i64.wrap ((x.length : Int) - 16)
def oA (x : List Int) : List Int := x.take (Is x).toNat
def IZ (x : List Int) : List Int := x.drop (Is x).toNat
def U0 (af ctx x : List Int) : Bool := aa (aa (aa true (!((af.length : Int) != 12))) (!decide ((ctx.length : Int) > 1048592))) (!decide ((x.length : Int) > 1048592))
def OD (x : List Int) : Bool := aa true (decide (0 ≤ Is x) && decide (Is x ≤ (x.length : Int)))
noncomputable def op2 (key af ctx x : List Int) : Bool := aa (aa (aa (aa (aa (U0 af ctx x) (!decide (Is x < 0))) (OD x)) (aa true (decide (af.length = 12) && decide (ctx.length + (oA x).length ≤ 274877906000)))) (aa true (OD x))) (aa true (decide ((tn key af ctx (oA x)).length < 4611686018427387904)))
noncomputable def op3 (key af ctx x : List Int) : Bool := aa (aa (aa (op2 key af ctx x) (!!decide (tn key af ctx (oA x) = IZ x))) (OD x)) (aa true (decide (af.length = 12) && true && decide ((1 : Int) + ((oA x).length / 64 : Nat) ≤ 4294967295) && decide ((oA x).length ≤ 281474976710656)))
noncomputable def xw : SV := .aQ [.nl (.slice none 0 0), .iface 78 (.int .i64 2)]
section
variable (key af ctx x : List Int)
theorem GR : (bp Tryz.prog (opC true true) 60 Tryz.f46 [.agg [.ints .u8 32 key], .ro false .u8 af, .ro false .u8 ctx, .ro false .u8 x] []).map (fun x => (x.1, x.2.2)) = some (xw, aa (U0 af ctx x) (decide (Is x < 0))) := by kernel_rfl
theorem GS : (bp Tryz.prog (opC false true) 60 Tryz.f46 [.agg [.ints .u8 32 key], .ro false .u8 af, .ro false .u8 ctx, .ro false .u8 x] []).map (fun x => (x.1, x.2.2)) = some (xw, aa (op2 key af ctx x) (!decide (tn key af ctx (oA x) = IZ x))) := by kernel_rfl
theorem GU : (bp Tryz.prog (opC false false) 60 Tryz.f46 [.agg [.ints .u8 32 key], .ro false .u8 af, .ro false .u8 ctx, .ro false .u8 x] []).map (fun x => (x.1, x.2.2)) = some (.aQ [.ro true .u8 (Cc.cv key af 1 (oA x)), .nl .nilIface], op3 key af ctx x) := by kernel_rfl
end
noncomputable def bk (key af ctx x : List Int) : Bool := decide (16 ≤ x.length) && decide (tn key af ctx (x.take (x.length - 16)) = x.drop (x.length - 16))
noncomputable def b9 (key af x : List Int) : List Int := Cc.cv key af 1 (x.take (x.length - 16))
theorem mL {key af ctx x : List Int} (hn : af.length = 12) (h1 : ctx.length ≤ 1048592) (h2 : x.length ≤ 1048592) : U0 af ctx x = true ∧ (16 ≤ x.length → oA x = x.take (x.length - 16) ∧ IZ x = x.drop (x.length - 16) ∧ op2 key af ctx x = true ∧ OD x = true) ∧ (decide (Is x < 0) = !decide (16 ≤ x.length)) := by
  have hA : Is x = (x.length : Int) - 16 := by unfold Is; rw [wrap_i64 _ (by omega) (by omega)]
  have ho : U0 af ctx x = true := by
    unfold U0
    rw [hn, decide_eq_false (show ¬ ((ctx.length : Int) > 1048592) by omega), decide_eq_false (show ¬ ((x.length : Int) > 1048592) by omega)]
    rfl
  refine ⟨ho, fun h => ?_, ?_⟩
  · have e : (Is x).toNat = x.length - 16 := by rw [hA]; omega
    have hb : OD x = true := by
      unfold OD
      rw [hA, decide_eq_true (show (0 : Int) ≤ (x.length : Int) - 16 by omega), decide_eq_true (show (x.length : Int) - 16 ≤ (x.length : Int) by omega)]
      rfl
    refine ⟨by unfold oA; rw [e], by unfold IZ; rw [e], ?_, hb⟩
    unfold op2
    rw [ho, hb, hA, hn, qa, decide_eq_false (show ¬ ((x.length : Int) - 16 < 0) by omega), decide_eq_true (show ctx.length + (oA x).length ≤ 274877906000 by unfold oA; rw [List.length_take]; omega)]
    rfl
  · rw [hA]
    by_cases h : 16 ≤ x.length
    · rw [decide_eq_true h, decide_eq_false (by omega)]; rfl
    · rw [decide_eq_false h, decide_eq_true (by omega)]; rfl
theorem OE {key af ctx x : List Int} (hn : af.length = 12) (h1 : ctx.length ≤ 1048592) (h2 : x.length ≤ 1048592) (ok : bk key af ctx x = true) :
    ai Tryz.prog 46 [.agg [.ints .u8 32 key], .ro false .u8 af, .ro false .u8 ctx, .ro false .u8 x] [] (.aQ [.ro true .u8 (b9 key af x), .nl .nilIface]) [] := by
  obtain ⟨a1, a2, a3⟩ := mL (key := key) hn h1 h2
  unfold bk at ok
  simp only [Bool.and_eq_true, decide_eq_true_eq] at ok
  obtain ⟨b1, b2, b3, b4⟩ := a2 ok.1
  have k := aG (CJ false false) 60 Tryz.func46 (GU key af ctx x) (by
    unfold op3
    rw [b3, b4, b1, b2, hn, decide_eq_true ok.2, decide_eq_true (show (1 : Int) + ((x.take (x.length - 16)).length / 64 : Nat) ≤ 4294967295 by rw [List.length_take]; omega), decide_eq_true (show (x.take (x.length - 16)).length ≤ 281474976710656 by rw [List.length_take]; omega)]
    rfl) rfl
  rw [b1] at k
  exact k
theorem I0 {key af ctx x : List Int} (hn : af.length = 12) (h1 : ctx.length ≤ 1048592) (h2 : x.length ≤ 1048592) (ok : bk key af ctx x = false) :
    ai Tryz.prog 46 [.agg [.ints .u8 32 key], .ro false .u8 af, .ro false .u8 ctx, .ro false .u8 x] [] xw [] := by
  obtain ⟨a1, a2, a3⟩ := mL (key := key) hn h1 h2
  unfold bk at ok
  by_cases h : 16 ≤ x.length
  · obtain ⟨b1, b2, b3, b4⟩ := a2 h
    rw [decide_eq_true h, Bool.true_and] at ok
    exact aG (CJ false true) 60 Tryz.func46 (GS key af ctx x) (by rw [b1, b2, ok, b3]; rfl) rfl
  · rw [decide_eq_false h] at a3
    exact aG (CJ true true) 60 Tryz.func46 (GR key af ctx x) (by rw [a1, a3]; rfl) rfl
noncomputable def SR (ok : Bool) : List SV → Option (SV × List Blk × Bool)
  | [.agg [.ints .u8 32 key], .ro false .u8 af, .ro false .u8 ctx, .ro false .u8 x] => match ok with
    | true => some (.aQ [.ro true .u8 (b9 key af x), .nl .nilIface], [], decide (af.length = 12) && decide (ctx.length ≤ 1048592) && decide (x.length ≤ 1048592) && bk key af ctx x)
    | false => some (xw, [], decide (af.length = 12) && decide (ctx.length ≤ 1048592) && decide (x.length ≤ 1048592) && !bk key af ctx x)
  | _ => none
noncomputable def Ew (ok : Bool) : Entry Tryz.prog := .val 46 _ Tryz.func46 (by decide) rfl true 0 (SR ok) fun vs v new e => by
  unfold SR at e
  split at e
  · split at e
    · simp only [Option.some.injEq, Prod.mk.injEq, Bool.and_eq_true, decide_eq_true_eq] at e
      obtain ⟨rfl, rfl, ⟨⟨h1, h2⟩, h3⟩, h4⟩ := e
      exact OE h1 h2 h3 h4
    · simp only [Option.some.injEq, Prod.mk.injEq, Bool.and_eq_true, decide_eq_true_eq, Bool.not_eq_true'] at e
      obtain ⟨rfl, rfl, ⟨⟨h1, h2⟩, h3⟩, h4⟩ := e
      exact I0 h1 h2 h3 h4
  · cases e
theorem uM (key af ctx text : List Int) : bk key af ctx (fG key af ctx text) = true := by
  unfold bk
  have hl := fH key af ctx text
  have hm := gV key af 1 text
  rw [hl, Nat.add_sub_cancel]
  unfold fG
  rw [List.take_left' hm, List.drop_left' hm, decide_eq_true rfl, decide_eq_true (show 16 ≤ text.length + 16 by omega)]
  rfl
theorem Ex {a b : Nat} (ha : a < 2 ^ 8) (hb : b < 2 ^ 8) : cj .u8 (a : Int) (b : Int) = ((a ^^^ b : Nat) : Int) := by
  unfold cj jh
  show IntKind.u8.wrap ((BitVec.ofInt 8 (a : Int) ^^^ BitVec.ofInt 8 (b : Int)).toNat : Int) = _
  rw [BitVec.ofInt_natCast, BitVec.ofInt_natCast, BitVec.toNat_xor, BitVec.toNat_ofNat, BitVec.toNat_ofNat, Nat.mod_eq_of_lt ha, Nat.mod_eq_of_lt hb, Fe.wrap_u8]
  have := Nat.xor_lt_two_pow ha hb
  omega
theorem I1 (a b : Fin 256) : cj .u8 (cj .u8 (a.val : Int) (b.val : Int)) (b.val : Int) = (a.val : Int) := by
  rw [Ex (show a.val < 2 ^ 8 from a.isLt) (show b.val < 2 ^ 8 from b.isLt), Ex (Nat.xor_lt_two_pow (show a.val < 2 ^ 8 from a.isLt) (show b.val < 2 ^ 8 from b.isLt)) (show b.val < 2 ^ 8 from b.isLt), Nat.xor_assoc, Nat.xor_self, Nat.xor_zero]
theorem U1 (key af : List Int) (n : Int) (i : Nat) : 0 ≤ (Cc.fc key af n).getD i 0 ∧ (Cc.fc key af n).getD i 0 < 256 := by
  rw [List.getD_eq_getElem?_getD]
  cases e : (Cc.fc key af n)[i]? with
  | none => exact ⟨by decide, by decide⟩
  | some x =>
    have hx := List.mem_of_getElem? e
    simp only [Cc.fc, aC, Cc.U2, List.mem_map] at hx
    obtain ⟨j, _, rfl⟩ := hx
    show 0 ≤ IntKind.u8.wrap _ ∧ IntKind.u8.wrap _ < 256
    rw [Fe.wrap_u8]
    exact ⟨Int.emod_nonneg _ (by decide), Int.emod_lt_of_pos _ (by decide)⟩
theorem I2 {key af text : List Int} (n : Int) (h : ∀ x ∈ text, 0 ≤ x ∧ x < 256) : Cc.cv key af n (Cc.cv key af n text) = text := by
  have hl := gV key af n text
  apply List.ext_getElem?
  intro i
  by_cases hi : i < text.length
  · have e1 : (Cc.cv key af n text).getD i 0 = Cc.Cr key af n text i := by
      unfold Cc.cv
      rw [List.getD_eq_getElem?_getD, List.getElem?_map, List.getElem?_range hi]; rfl
    have ht := h text[i] (List.getElem_mem _)
    have hp := U1 key af (n + (i / 64 : Nat)) (i % 64)
    rw [Cc.cv, hl, List.getElem?_map, List.getElem?_range hi, List.getElem?_eq_getElem hi, Option.map_some]
    congr 1
    show cj .u8 ((Cc.cv key af n text).getD i 0) _ = _
    rw [e1, Cc.Cr, List.getD_eq_getElem?_getD, List.getElem?_eq_getElem hi, Option.getD_some]
    generalize (Cc.fc key af (n + (i / 64 : Nat))).getD (i % 64) 0 = p at *
    generalize text[i] = t at *
    have := I1 ⟨t.toNat, by omega⟩ ⟨p.toNat, by omega⟩
    simp only [Int.toNat_of_nonneg ht.1, Int.toNat_of_nonneg hp.1] at this
    exact this
  · rw [List.getElem?_eq_none (by rw [gV, hl]; omega), List.getElem?_eq_none (by omega)]
theorem xx {key af ctx text : List Int} (h : ∀ x ∈ text, 0 ≤ x ∧ x < 256) : b9 key af (fG key af ctx text) = text := by
  unfold b9
  have hm := gV key af 1 text
  rw [fH, Nat.add_sub_cancel]
  unfold fG
  rw [List.take_left' hm]
  exact I2 1 h
end Go.Proofs.YtibfpjeeanppjaaGreat.Ae
end
