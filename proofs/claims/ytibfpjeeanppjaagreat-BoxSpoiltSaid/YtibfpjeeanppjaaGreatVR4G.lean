/- This file proves the contract of Mark of the reference's chapter 4. Conditions: keys of 32 bytes; texts of bytes; lengths that memory bears. -/
import Derived.Test.YtibfpjeeanppjaaGreatVR4F
import Derived.Test.YtibfpjeeanppjaaGreatVKdB
set_option linter.all false
set_option maxRecDepth 100000
namespace Go.Proofs.YtibfpjeeanppjaaGreat.R4
open Go Go.Sy Sh
noncomputable def mkB : Code := bodyOf Tryz.f119
noncomputable def mk1 (f : Nat → Option Bool) : Ctr := mk (P := Tryz.prog) [numbersE, plusRE, trimE, timesE, smallE] [] f
theorem mk1_ok (f : Nat → Option Bool) : CtrSound Tryz.prog (mk1 f) := mk_sound _ InlOK.nil _ _
noncomputable def mk2 (f : Nat → Option Bool) : Ctr := mk (P := Tryz.prog) [plusE] [] f
theorem mk2_ok (f : Nat → Option Bool) : CtrSound Tryz.prog (mk2 f) := mk_sound _ InlOK.nil _ _
def rQ (k : List Int) : List Int := [k.getD 0 0, k.getD 1 0, k.getD 2 0, (k.getD 3 0).tmod 16, J (J ((k.getD 4 0).tdiv 4) * 4), k.getD 5 0, k.getD 6 0, (k.getD 7 0).tmod 16, J (J ((k.getD 8 0).tdiv 4) * 4), k.getD 9 0, k.getD 10 0, (k.getD 11 0).tmod 16, J (J ((k.getD 12 0).tdiv 4) * 4), k.getD 13 0, k.getD 14 0, (k.getD 15 0).tmod 16]
noncomputable def mkS (key text r s : List Int) (i : Int) : St := ⟨slotsOf 113 [(1, .ro false .u8 text), (2, .ptr 0 0 0), (4, .ptr 1 0 0), (5, .sl 2 0 0 1 16 16 false true), (8, .ro false .i64 s), (9, .int .i64 i)], [.b [.ints .u8 32 key], .b [.ints .u8 16 (List.replicate 16 0)], .b [.ints .i64 16 r]], true⟩
noncomputable def mkS0 (key text r : List Int) : St := ⟨slotsOf 113 [(1, .ro false .u8 text), (2, .ptr 0 0 0), (4, .ptr 1 0 0), (5, .sl 2 0 0 1 16 16 false true), (8, .nl (.slice none 0 0)), (9, .int .i64 0)], [.b [.ints .u8 32 key], .b [.ints .u8 16 (List.replicate 16 0)], .b [.ints .i64 16 r]], true⟩
noncomputable def mkT (s p r : List Int) : List Int := smW (tmL (tiL (tmL (plL s (p ++ [1]))) r))
noncomputable def mkO (ob : Bool) (s p r : List Int) : Bool :=
  let A := andT ob (andT true (dgB p && decide (p.length < 1000000)))
  let B := andT A (apO p.length p.length)
  let C := andT B (andT (andT true (andT (decide ((p ++ [1]).length = p.length + 1) && (decide (p.length + 1 ≤ p.length + 1) && true)) (decide ((p ++ [1]).length = p.length + 1)))) (dgB s && dgB (p ++ [1]) && decide (s.length < 1000000) && decide ((p ++ [1]).length < 1000000)))
  let D := andT C (andT true (decide ((plL s (p ++ [1])).length < 1000000)))
  let E := andT D (andT (andT true (andT (decide (r.length = 16) && true) (decide (r.length = 16)))) (dgB (tmL (plL s (p ++ [1]))) && dgB r && decide ((tmL (plL s (p ++ [1]))).length < 1000000) && decide (r.length < 1000000)))
  let F := andT E (andT true (decide ((tiL (tmL (plL s (p ++ [1]))) r).length < 1000000)))
  andT F (andT true (dgB (tmL (tiL (tmL (plL s (p ++ [1]))) r)) && tmB' (tmL (tiL (tmL (plL s (p ++ [1]))) r)) && decide ((tmL (tiL (tmL (plL s (p ++ [1]))) r)).length < 100000)))
def pcA (t : List Int) (i : Int) : List Int := (t.drop i.toNat).take ((J (i + 16)).toNat - i.toNat)
def pcZ (t : List Int) (i : Int) : List Int := (t.drop i.toNat).take (t.length - i.toNat)
def slA (ob : Bool) (t : List Int) (i : Int) : Bool := andT ob (andT true (andT (decide (0 ≤ J (i + 16)) && decide (J (i + 16) ≤ (t.length : Int))) (decide (0 ≤ i) && decide (i ≤ ((J (i + 16)).toNat : Int)))))
def slZ (ob : Bool) (t : List Int) (i : Int) : Bool := andT ob (andT true (andT (true && decide ((t.length : Int) ≤ (t.length : Int))) (decide (0 ≤ i) && decide (i ≤ ((t.length : Int).toNat : Int)))))
section
variable (key text r s : List Int) (i : Int)
theorem mk_head : (execL Tryz.prog (mk1 fun _ => none) 60 0 8 (atoms mkB) ⟨slots0 Tryz.f119.ntmps [.agg [.ints .u8 32 (lst 32 key)], .ro false .u8 text], [], true⟩).bind (St.cut [1, 2, 4, 5, 8, 9] 3) =
    some { mkS0 (lst 32 key) text (rQ (lst 32 key)) with ob := andT true (andT true (dgB ((lst 32 key).take 16) && true)) } := by kernel_rfl
theorem mk_a : (exec Tryz.prog (mk1 fun i => if i = 46 || i = 63 then some true else if i = 54 then some false else none) 60 0 (inner (inner (nthC 8 mkB))) (mkS key text r s i)).bind (fun r => (r.2.cut [1, 2, 4, 5, 8, 9] 3).map fun q => (r.1, q)) =
    some (.normal, { mkS key text r (mkT s (pcA text i) r) (J (i + 16)) with ob := mkO (slA (andT (andT true (decide (i < text.length))) (!decide (J (i + 16) > text.length))) text i) s (pcA text i) r }) := by kernel_rfl
theorem mk_z : (exec Tryz.prog (mk1 fun i => if i = 46 || i = 63 || i = 54 then some true else none) 60 0 (inner (inner (nthC 8 mkB))) (mkS key text r s i)).bind (fun r => (r.2.cut [1, 2, 4, 5, 8, 9] 3).map fun q => (r.1, q)) =
    some (.normal, { mkS key text r (mkT s (pcZ text i) r) (J (i + 16)) with ob := mkO (slZ (andT (andT true (decide (i < text.length))) (decide (J (i + 16) > text.length))) text i) s (pcZ text i) r }) := by kernel_rfl
theorem mk_end : (exec Tryz.prog (mk1 fun i => if i = 46 then some false else none) 60 0 (inner (inner (nthC 8 mkB))) (mkS key text r s i)).bind (fun r => (r.2.cut [1, 2, 4, 5, 8, 9] 3).map fun q => (r.1, q)) =
    some (.exit 4, { mkS key text r s i with ob := andT true (!decide (i < text.length)) }) := by kernel_rfl
end
noncomputable def mkV (key r s : List Int) : St := ⟨slotsOf 113 [(2, .ptr 0 0 0), (4, .ptr 1 0 0), (8, .sl 4 0 0 1 (plN s [5]) (plN s [5]) false true)], [.b [.ints .u8 32 key], .b [.ints .u8 16 (List.replicate 16 0)], .b [.ints .i64 16 r], .b [.ints .i64 1 [5]], .b [.ints .i64 (plN s [5]) ((plL s [5]).set 16 (((plL s [5]).getD 16 0).tmod 4))]], true⟩
noncomputable def mkU (f : Bool) (key s : List Int) : St := ⟨slotsOf 113 [(2, .ptr 0 0 0), (4, .ptr 1 0 0), (8, .ro f .i64 s)], [.b [.ints .u8 32 key], .b [.ints .u8 16 (List.replicate 16 0)]], true⟩
noncomputable def mkW (key k a : List Int) : St := ⟨slotsOf 113 [(4, .ptr 1 0 0), (13, .ro true .i64 a), (14, .ptr 3 0 0), (15, .int .i64 0)], [.b [.ints .u8 32 key], .b [.ints .u8 16 (List.replicate 16 0)], .b [.ints .i64 k.length k], .b [.ints .u8 16 (List.replicate 16 0)]], true⟩
def k16 (key : List Int) : List Int := (key.drop 16).take 16
def mvO (s : List Int) : Bool := andT (andT (andT (andT true (andT true (dgB s && true && decide (s.length < 1000000) && true))) (decide (((plN s [5] : Nat) : Int) ≥ 17))) (inB 16 (plN s [5]))) (decide (16 < plN s [5]))
def muO (key s k : List Int) : Bool := andT (andT true (andT (andT (true && decide (32 ≤ key.length)) (decide (k.length = 16))) (dgB k && decide (k.length < 1000000))))
  (andT (andT true (andT (decide (k.length = k.length) && (decide (k.length ≤ k.length) && true)) (decide (k.length = k.length)))) (dgB s && dgB k && decide (s.length < 1000000) && decide (k.length < 1000000)))
section
variable (key r s a : List Int) (i : Int) (f : Bool)
theorem mv_a (text : List Int) : (execL Tryz.prog (mk2 fun i => if i = 77 || i = 82 then some true else none) 60 0 3 ((atoms mkB).drop 9) (mkS key text r s i)).bind (St.cut [2, 4, 8] 5) =
    some { mkV key r s with ob := andT (andT (andT (andT (andT (mvO s) (decide ((plL s [5]).getD 16 0 ≥ 4))) (inB 16 (plN s [5]))) (decide (16 < plN s [5]))) (inB 16 (plN s [5]))) (decide (16 < plN s [5]) && decide ((plL s [5]).length = plN s [5])) } := by kernel_rfl
theorem mv_b (text : List Int) : (execL Tryz.prog (mk2 fun i => if i = 77 then some true else if i = 82 then some false else none) 60 0 3 ((atoms mkB).drop 9) (mkS key text r s i)).bind (St.cut [2, 4, 8] 2) =
    some { mkU false key s with ob := andT (mvO s) (!decide ((plL s [5]).getD 16 0 ≥ 4)) } := by kernel_rfl
theorem mv_c (text : List Int) : (execL Tryz.prog (mk2 fun i => if i = 77 then some false else none) 60 0 3 ((atoms mkB).drop 9) (mkS key text r s i)).bind (St.cut [2, 4, 8] 2) =
    some { mkU false key s with ob := andT (andT true (andT true (dgB s && true && decide (s.length < 1000000) && true))) (!decide (((plN s [5] : Nat) : Int) ≥ 17)) } := by kernel_rfl
theorem mv_f : fzT 4 2 (mkV key r s) = some (mkU true key ((plL s [5]).set 16 (((plL s [5]).getD 16 0).tmod 4)), andT (decide (((plL s [5]).set 16 (((plL s [5]).getD 16 0).tmod 4)).length = plN s [5])) (decide (plN s [5] = plN s [5]) && true)) := by kernel_rfl
theorem mu_a : (execL Tryz.prog (mk1 fun i => none) 60 0 3 ((atoms mkB).drop 12) (mkU f key s)).bind (St.cut [4, 13, 14, 15] 4) =
    some { mkW key (k16 key) (plL s (k16 key)) with ob := muO key s (k16 key) } := by kernel_rfl
end
def finQ (s : List Int) : List Int := if 17 ≤ plN s [5] ∧ 4 ≤ (plL s [5]).getD 16 0 then (plL s [5]).set 16 (((plL s [5]).getD 16 0).tmod 4) else s
def outQ (a : List Int) : List Int := (List.range 16).map fun i => IntKind.u8.wrap (a.getD i 0)
noncomputable def sumQ (key text : List Int) : Nat → List Int
  | 0 => []
  | j + 1 => mkT (sumQ key text j) ((text.drop (16 * j)).take 16) (rQ key)
noncomputable def markQ (key text : List Int) : List Int := outQ (plL (finQ (sumQ key text ((text.length + 15) / 16))) (k16 key))
theorem rQ_len (k : List Int) : (rQ k).length = 16 := rfl
theorem rQ_dg {k : List Int} (d : Dg k) : Dg (rQ k) := by
  have h := fun i => d.getD i
  have m : ∀ i, 0 ≤ (k.getD i 0).tmod 16 ∧ (k.getD i 0).tmod 16 < 256 := fun i => by rw [tmod_pos (h i).1]; have := h i; omega
  have q : ∀ i, 0 ≤ J (J ((k.getD i 0).tdiv 4) * 4) ∧ J (J ((k.getD i 0).tdiv 4) * 4) < 256 := fun i => by
    have := h i
    rw [tdiv_pos (h i).1, J_eq (n := k.getD i 0 / 4) (by omega) (by omega), J_eq (by omega) (by omega)]; omega
  unfold rQ
  simp only [Dg.cons]
  exact ⟨h 0, h 1, h 2, m 3, q 4, h 5, h 6, m 7, q 8, h 9, h 10, m 11, q 12, h 13, h 14, m 15, Dg.nil⟩
theorem dgt_ok {v : Int} {l : List Int} (d : Dg l) (h : nv l = v) : Dg (dgt v) ∧ Tm (dgt v) ∧ nv (dgt v) = v := by
  obtain ⟨h1, h2, h3⟩ := tmL_ok d
  rw [← h, ← dgt_tmL d]
  exact ⟨h1, h2, h3⟩
theorem dgs_any : ∀ (n : Nat) (v : Int), 0 ≤ v → v < 256 ^ n → ∃ l, Dg l ∧ nv l = v
  | 0, v, h0, h1 => ⟨[], Dg.nil, by simp at h1; simp [nv]; omega⟩
  | n + 1, v, h0, h1 => by
    rw [Int.pow_succ] at h1
    obtain ⟨l, d, e⟩ := dgs_any n (v / 256) (by omega) (by omega)
    exact ⟨v % 256 :: l, Dg.cons.2 ⟨by omega, d⟩, by rw [nv, e]; omega⟩
theorem sm_ok (v : Nat) : Dg (dgt (smV v : Nat)) ∧ Tm (dgt (smV v : Nat)) ∧ nv (dgt (smV v : Nat)) = (smV v : Nat) := by
  have h := smV_lt v
  obtain ⟨l, d, e⟩ := dgs_any 17 (smV v : Nat) (by omega) (by
    have : (256 : Int) ^ 17 = 87112285931760246646623899502532662132736 := by decide
    omega)
  exact dgt_ok d e
theorem len17 {l : List Int} (d : Dg l) (t : Tm l) (h : nv l < 1361129467683753853853498429727072845824) : l.length ≤ 17 := by
  by_cases q : l = []
  · rw [q]; simp
  · have h1 := Tm_low d t q
    apply Classical.byContradiction
    intro hn
    have := pow_le256 (show 17 ≤ l.length - 1 by omega)
    have : (256 : Int) ^ 17 = 87112285931760246646623899502532662132736 := by decide
    omega
theorem d1 {p : List Int} (d : Dg p) : Dg (p ++ [1]) := d.app (Dg.cons.2 ⟨by decide, Dg.nil⟩)
def SQ (s : List Int) : Prop := Dg s ∧ Tm s ∧ nv s < 1361129467683753853853498429727072845824
theorem mkT_ok {s p r : List Int} (hs : Dg s) (hp : Dg p) (hr : Dg r) : SQ (mkT s p r) ∧ nv (mkT s p r) % 1361129467683753853853498429727072845819 = (nv s + nv (p ++ [1])) * nv r % 1361129467683753853853498429727072845819 := by
  obtain ⟨a1, a2⟩ := plL_ok hs (d1 hp)
  obtain ⟨b1, b2, b3⟩ := tmL_ok a1
  obtain ⟨c1, c2⟩ := tiL_ok b1 hr
  obtain ⟨e1, e2, e3⟩ := tmL_ok c1
  obtain ⟨f1, f2, f3⟩ := sm_ok (nv (tmL (tiL (tmL (plL s (p ++ [1]))) r))).toNat
  have hl := smV_lt (nv (tmL (tiL (tmL (plL s (p ++ [1]))) r))).toNat
  have hm := smV_mod (nv (tmL (tiL (tmL (plL s (p ++ [1]))) r))).toNat
  have hn := nv_nonneg e1
  unfold mkT smW
  refine ⟨⟨f1, f2, by rw [f3]; omega⟩, ?_⟩
  rw [f3, ← a2, ← b3, ← c2, ← e3]
  omega
theorem SQ.nil : SQ [] := ⟨Dg.nil, trivial, by decide⟩
theorem sumQ_ok {key text : List Int} (dk : Dg key) (dt : Dg text) : ∀ j, SQ (sumQ key text j)
  | 0 => SQ.nil
  | j + 1 => (mkT_ok (sumQ_ok dk dt j).1 ((dt.drop _).take _) (rQ_dg dk)).1
theorem tmL_len (l : List Int) : (tmL l).length ≤ l.length := by unfold tmL; rw [List.length_take]; omega
theorem mkO_true {ob : Bool} {s p r : List Int} (h : ob = true) (hs : SQ s) (hp : Dg p) (hl : p.length ≤ 16) (hr : Dg r) (hrl : r.length = 16) : mkO ob s p r = true := by
  obtain ⟨ds, ts, vs⟩ := hs
  have ls := len17 ds ts vs
  obtain ⟨a1, a2⟩ := plL_ok ds (d1 hp)
  obtain ⟨b1, b2, b3⟩ := tmL_ok a1
  obtain ⟨c1, c2⟩ := tiL_ok b1 hr
  obtain ⟨e1, e2, e3⟩ := tmL_ok c1
  have hpl : (plL s (p ++ [1])).length ≤ 18 := by
    rw [plL_len]
    have := (plM_le s (p ++ [1])).2
    have hm : plM s (p ++ [1]) = max s.length (p.length + 1) := by unfold plM; rw [List.length_append]; rfl
    omega
  have l1 := tmL_len (plL s (p ++ [1]))
  have l2 := tiL_len b1 hr
  have l3 := tmL_len (tiL (tmL (plL s (p ++ [1]))) r)
  have ht : tmB' (tmL (tiL (tmL (plL s (p ++ [1]))) r)) = true := by unfold tmB'; exact @decide_eq_true _ (Classical.propDecidable _) e2
  unfold mkO
  simp only [h, dgB_iff.2 hp, dgB_iff.2 ds, dgB_iff.2 (d1 hp), dgB_iff.2 b1, dgB_iff.2 hr, dgB_iff.2 e1, ht, apO_true (show p.length < 274877906944 by omega), hrl]
  simp [andT_iff]
  omega
theorem mk_loop {key text : List Int} (hk : key.length = 32) (dk : Dg key) (dt : Dg text) (ht : text.length < 100000000) :
    Tr Tryz.prog none 0 (nthC 8 mkB) (mkS key text (rQ key) [] 0) .normal (mkS key text (rQ key) (sumQ key text ((text.length + 15) / 16)) ((16 * ((text.length + 15) / 16) : Nat) : Int)) := by
  have key0 := Tr.loop (P := Tryz.prog) (ro := none) (k := 0) 4 (c := nthC 8 mkB) (by kernel_rfl) (fun j : Nat => mkS key text (rQ key) (sumQ key text j) ((16 * j : Nat) : Int)) ((text.length + 15) / 16)
    (s' := mkS key text (rQ key) (sumQ key text ((text.length + 15) / 16)) ((16 * ((text.length + 15) / 16) : Nat) : Int)) (fun j hj => ?_) ?_
  · exact key0
  · have hs := sumQ_ok dk dt j
    have hJ : J (((16 * j : Nat) : Int) + 16) = ((16 * (j + 1) : Nat) : Int) := by rw [J_eq (by omega) (by omega)]; omega
    have hp : Dg ((text.drop (16 * j)).take 16) := (dt.drop _).take _
    have hpl : ((text.drop (16 * j)).take 16).length ≤ 16 := by rw [List.length_take]; omega
    have hst : sumQ key text (j + 1) = mkT (sumQ key text j) ((text.drop (16 * j)).take 16) (rQ key) := rfl
    by_cases q : 16 * (j + 1) ≤ text.length
    · have e := mk_a key text (rQ key) (sumQ key text j) ((16 * j : Nat) : Int)
      have hA : pcA text ((16 * j : Nat) : Int) = (text.drop (16 * j)).take 16 := by
        unfold pcA
        rw [hJ, Int.toNat_natCast, Int.toNat_natCast, show 16 * (j + 1) - 16 * j = 16 by omega]
      rw [hJ, hA, mkO_true (ob := slA _ _ _) (by
        unfold slA
        rw [hJ]
        simp [andT_iff]
        omega) hs hp hpl (rQ_dg dk) (rQ_len key)] at e
      rw [hst]
      exact Tr.post (Tr.cut (mk1_ok _) 60 _ 3 (by omega) e rfl) (Ent.same rfl rfl)
    · have e := mk_z key text (rQ key) (sumQ key text j) ((16 * j : Nat) : Int)
      have hA : pcZ text ((16 * j : Nat) : Int) = (text.drop (16 * j)).take 16 := by
        unfold pcZ
        rw [Int.toNat_natCast, List.take_of_length_le (by rw [List.length_drop]; omega), List.take_of_length_le (by rw [List.length_drop]; omega)]
      rw [hJ, hA, mkO_true (ob := slZ _ _ _) (by
        unfold slZ
        simp [andT_iff]
        omega) hs hp hpl (rQ_dg dk) (rQ_len key)] at e
      rw [hst]
      exact Tr.post (Tr.cut (mk1_ok _) 60 _ 3 (by omega) e rfl) (Ent.same rfl rfl)
  · have e := mk_end key text (rQ key) (sumQ key text ((text.length + 15) / 16)) ((16 * ((text.length + 15) / 16) : Nat) : Int)
    rw [decide_eq_false (show ¬ ((16 * ((text.length + 15) / 16) : Nat) : Int) < text.length by omega)] at e
    exact Tr.cut (mk1_ok _) 60 _ 3 (by omega) e rfl
theorem finQ_ok {s : List Int} (h : SQ s) : Dg (finQ s) ∧ (finQ s).length < 1000 := by
  obtain ⟨ds, ts, vs⟩ := h
  have ls := len17 ds ts vs
  obtain ⟨a1, a2⟩ := plL_ok ds d5
  have hm := (plM_le s [5]).2
  have hm2 : plM s [5] = max s.length 1 := rfl
  unfold finQ
  split
  · have h16 := a1.getD 16
    rw [tmod_pos h16.1]
    exact ⟨a1.set _ (by omega), by rw [List.length_set, plL_len]; omega⟩
  · exact ⟨ds, by omega⟩
theorem mark_tail {key k a : List Int} (ha : 16 ≤ a.length) {args : List SV} (ht : ∀ s' x, TrL Tryz.prog none 0 ((atoms (bodyOf Tryz.f119)).drop 15) (mkW key k a) x s' → TrL Tryz.prog none 0 (atoms (bodyOf Tryz.f119)) ⟨slots0 Tryz.f119.ntmps args, [], true⟩ x s') :
    FnTr Tryz.prog 119 args [] (.agg [.ints .u8 16 (outQ a)]) [] :=
  FnTr.restM (mk1_ok fun i => if i = 101 then some true else none) 200 15 0 Tryz.func119 (by simp) rfl ht
    (p := [0, 1, 2, 3, 4, 5, 6, 7, 8, 9, 10, 11, 12, 13, 14, 15].foldl (fun o i => andT (andT (andT o (decide (((i : Nat) : Int) < (a.length : Int)))) (inB ((i : Nat) : Int) a.length)) (decide (i < a.length))) true) (by kernel_rfl)
    (by
      have h : ∀ i : Nat, i < 16 → decide ((i : Int) < (a.length : Int)) = true ∧ inB (i : Int) a.length = true ∧ decide (i < a.length) = true := fun i hi => ⟨decide_eq_true (by omega), inB_true (by omega) (by omega), decide_eq_true (by omega)⟩
      simp only [List.foldl, (h 0 (by decide)).1, (h 0 (by decide)).2.1, (h 0 (by decide)).2.2, (h 1 (by decide)).1, (h 1 (by decide)).2.1, (h 1 (by decide)).2.2, (h 2 (by decide)).1, (h 2 (by decide)).2.1, (h 2 (by decide)).2.2, (h 3 (by decide)).1, (h 3 (by decide)).2.1, (h 3 (by decide)).2.2, (h 4 (by decide)).1, (h 4 (by decide)).2.1, (h 4 (by decide)).2.2, (h 5 (by decide)).1, (h 5 (by decide)).2.1, (h 5 (by decide)).2.2, (h 6 (by decide)).1, (h 6 (by decide)).2.1, (h 6 (by decide)).2.2, (h 7 (by decide)).1, (h 7 (by decide)).2.1, (h 7 (by decide)).2.2, (h 8 (by decide)).1, (h 8 (by decide)).2.1, (h 8 (by decide)).2.2, (h 9 (by decide)).1, (h 9 (by decide)).2.1, (h 9 (by decide)).2.2, (h 10 (by decide)).1, (h 10 (by decide)).2.1, (h 10 (by decide)).2.2, (h 11 (by decide)).1, (h 11 (by decide)).2.1, (h 11 (by decide)).2.2, (h 12 (by decide)).1, (h 12 (by decide)).2.1, (h 12 (by decide)).2.2, (h 13 (by decide)).1, (h 13 (by decide)).2.1, (h 13 (by decide)).2.2, (h 14 (by decide)).1, (h 14 (by decide)).2.1, (h 14 (by decide)).2.2, (h 15 (by decide)).1, (h 15 (by decide)).2.1, (h 15 (by decide)).2.2]; rfl) rfl rfl
theorem markQ_fn {key text : List Int} (hk : key.length = 32) (dk : Dg key) (dt : Dg text) (ht : text.length < 100000000) :
    FnTr Tryz.prog 119 [.agg [.ints .u8 32 key], .ro false .u8 text] [] (.agg [.ints .u8 16 (markQ key text)]) [] := by
  have hs := sumQ_ok dk dt ((text.length + 15) / 16)
  have hl := mk_loop hk dk dt ht
  have hh := mk_head key text
  rw [lst_eq hk, dgB_iff.2 (dk.take 16)] at hh
  unfold markQ
  generalize sumQ key text ((text.length + 15) / 16) = s at hs hl
  obtain ⟨f1, f2⟩ := finQ_ok hs
  obtain ⟨ds, ts, vs⟩ := hs
  have ls := len17 ds ts vs
  have hk16 : (k16 key).length = 16 := by unfold k16; rw [List.length_take, List.length_drop, hk]; rfl
  have dk16 : Dg (k16 key) := (dk.drop 16).take 16
  have ha : 16 ≤ (plL (finQ s) (k16 key)).length := by
    rw [plL_len]
    have := (plM_le (finQ s) (k16 key)).1
    unfold plM at this
    omega
  have hpl := plL_len s [5]
  have hgt : dgB s = true := dgB_iff.2 ds
  refine mark_tail (key := key) (k := k16 key) ha fun s' x h => ?_
  refine TrL.items (mk1_ok _) 60 8 _ 3 (by simp) hh rfl (by decide) ?_
  refine TrL.pre (s1 := mkS key text (rQ key) [] 0) (TrL.item 8 (by decide) hl ?_) ((Ent.nilRo 8 false .i64 rfl).trans (Ent.same rfl rfl)) (by decide)
  have tail : ∀ f, TrL Tryz.prog none 0 ((atoms mkB).drop 12) (mkU f key (finQ s)) x s' := fun f => by
    have e := mu_a key (finQ s) f
    have ho : muO key (finQ s) (k16 key) = true := by
      unfold muO
      rw [hk16, hk, dgB_iff.2 f1, dgB_iff.2 dk16, decide_eq_true (show (finQ s).length < 1000000 by omega)]; rfl
    rw [ho] at e
    refine TrL.items (mk1_ok _) 60 3 _ 4 (by omega) e rfl (by decide) ?_
    rw [List.drop_drop]
    exact h
  by_cases q : 17 ≤ plN s [5]
  · have hmv : mvO s = true := by
      unfold mvO
      rw [hgt, decide_eq_true (show s.length < 1000000 by omega), decide_eq_true (show ((plN s [5] : Nat) : Int) ≥ 17 by omega), inB_true (by omega) (by omega), decide_eq_true (show 16 < plN s [5] by omega)]; rfl
    by_cases q4 : 4 ≤ (plL s [5]).getD 16 0
    · have hfin : finQ s = (plL s [5]).set 16 (((plL s [5]).getD 16 0).tmod 4) := by unfold finQ; rw [if_pos ⟨q, q4⟩]
      have e := mv_a key (rQ key) s ((16 * ((text.length + 15) / 16) : Nat) : Int) text
      rw [hmv, decide_eq_true (show (plL s [5]).getD 16 0 ≥ 4 from q4), inB_true (by omega) (by omega), decide_eq_true (show 16 < plN s [5] by omega), decide_eq_true hpl] at e
      refine TrL.items (mk2_ok _) 60 3 _ 5 (by omega) e rfl (by decide) ?_
      rw [List.drop_drop]
      have t := tail true
      rw [hfin] at t
      exact TrL.pre t (Ent.fzT (by omega) (by omega) (mv_f key (rQ key) s) (by rw [List.length_set, hpl, decide_eq_true rfl]; rfl)) (by decide)
    · have hfin : finQ s = s := by unfold finQ; rw [if_neg (fun h => q4 h.2)]
      have e := mv_b key (rQ key) s ((16 * ((text.length + 15) / 16) : Nat) : Int) text
      rw [hmv, decide_eq_false (show ¬ (plL s [5]).getD 16 0 ≥ 4 from q4)] at e
      refine TrL.items (mk2_ok _) 60 3 _ 2 (by omega) e rfl (by decide) ?_
      rw [List.drop_drop]
      have t := tail false
      rw [hfin] at t
      exact t
  · have hfin : finQ s = s := by unfold finQ; rw [if_neg (fun h => q h.1)]
    have e := mv_c key (rQ key) s ((16 * ((text.length + 15) / 16) : Nat) : Int) text
    rw [hgt, decide_eq_true (show s.length < 1000000 by omega), decide_eq_false (show ¬ ((plN s [5] : Nat) : Int) ≥ 17 by omega)] at e
    refine TrL.items (mk2_ok _) 60 3 _ 2 (by omega) e rfl (by decide) ?_
    rw [List.drop_drop]
    have t := tail false
    rw [hfin] at t
    exact t
end Go.Proofs.YtibfpjeeanppjaaGreat.R4
