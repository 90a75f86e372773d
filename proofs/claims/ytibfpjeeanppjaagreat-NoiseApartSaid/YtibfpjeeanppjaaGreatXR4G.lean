/- This file proves the contract of Mark of the reference's chapter 4. Conditions: keys of 32 bytes; texts of bytes; lengths that memory bears. -/
import Derived.Test.YtibfpjeeanppjaaGreatXR4F
import Derived.Test.YtibfpjeeanppjaaGreatXKdB
set_option linter.all false
set_option maxRecDepth 100000
namespace Go.Proofs.YtibfpjeeanppjaaGreat.R4
open Go Go.Sy Sh
noncomputable def M9 : Code := aE Tryz.f119
noncomputable def Zn (f : Nat → Option Bool) : br := mk (P := Tryz.prog) [M5, M4, Uj, yg, fj] [] f
theorem sx (f : Nat → Option Bool) : ag Tryz.prog (Zn f) := ah _ aq.nil _ _
noncomputable def mk2 (f : Nat → Option Bool) : br := mk (P := Tryz.prog) [ac7] [] f
theorem Ed (f : Nat → Option Bool) : ag Tryz.prog (mk2 f) := ah _ aq.nil _ _
def rQ (k : List Int) : List Int := [k.getD 0 0, k.getD 1 0, k.getD 2 0, (k.getD 3 0).tmod 16, J (J ((k.getD 4 0).tdiv 4) * 4), k.getD 5 0, k.getD 6 0, (k.getD 7 0).tmod 16, J (J ((k.getD 8 0).tdiv 4) * 4), k.getD 9 0, k.getD 10 0, (k.getD 11 0).tmod 16, J (J ((k.getD 12 0).tdiv 4) * 4), k.getD 13 0, k.getD 14 0, (k.getD 15 0).tmod 16]
noncomputable def Gr (key text r s : List Int) (i : Int) : St := ⟨slotsOf 113 [(1, .ro false .u8 text), (2, .ptr 0 0 0), (4, .ptr 1 0 0), (5, .sl 2 0 0 1 16 16 false true), (8, .ro false .i64 s), (9, .int .i64 i)], [.b [.ints .u8 32 key], .b [.ints .u8 16 (List.replicate 16 0)], .b [.ints .i64 16 r]], true⟩
noncomputable def ahE (key text r : List Int) : St := ⟨slotsOf 113 [(1, .ro false .u8 text), (2, .ptr 0 0 0), (4, .ptr 1 0 0), (5, .sl 2 0 0 1 16 16 false true), (8, .nl (.slice none 0 0)), (9, .int .i64 0)], [.b [.ints .u8 32 key], .b [.ints .u8 16 (List.replicate 16 0)], .b [.ints .i64 16 r]], true⟩
noncomputable def CI (s p r : List Int) : List Int := Od (mH (tj (mH (iN s (p ++ [1]))) r))
noncomputable def mkO (ob : Bool) (s p r : List Int) : Bool :=
  let A := aa ob (aa true (dL p && decide (p.length < 1000000)))
  let B := aa A (tD p.length p.length)
  let C := aa B (aa (aa true (aa (decide ((p ++ [1]).length = p.length + 1) && (decide (p.length + 1 ≤ p.length + 1) && true)) (decide ((p ++ [1]).length = p.length + 1)))) (dL s && dL (p ++ [1]) && decide (s.length < 1000000) && decide ((p ++ [1]).length < 1000000)))
  let D := aa C (aa true (decide ((iN s (p ++ [1])).length < 1000000)))
  let E := aa D (aa (aa true (aa (decide (r.length = 16) && true) (decide (r.length = 16)))) (dL (mH (iN s (p ++ [1]))) && dL r && decide ((mH (iN s (p ++ [1]))).length < 1000000) && decide (r.length < 1000000)))
  let F := aa E (aa true (decide ((tj (mH (iN s (p ++ [1]))) r).length < 1000000)))
  aa F (aa true (dL (mH (tj (mH (iN s (p ++ [1]))) r)) && RM (mH (tj (mH (iN s (p ++ [1]))) r)) && decide ((mH (tj (mH (iN s (p ++ [1]))) r)).length < 100000)))
def pcA (t : List Int) (i : Int) : List Int := (t.drop i.toNat).take ((J (i + 16)).toNat - i.toNat)
def pcZ (t : List Int) (i : Int) : List Int := (t.drop i.toNat).take (t.length - i.toNat)
def slA (ob : Bool) (t : List Int) (i : Int) : Bool := aa ob (aa true (aa (decide (0 ≤ J (i + 16)) && decide (J (i + 16) ≤ (t.length : Int))) (decide (0 ≤ i) && decide (i ≤ ((J (i + 16)).toNat : Int)))))
def slZ (ob : Bool) (t : List Int) (i : Int) : Bool := aa ob (aa true (aa (true && decide ((t.length : Int) ≤ (t.length : Int))) (decide (0 ≤ i) && decide (i ≤ ((t.length : Int).toNat : Int)))))
section
variable (key text r s : List Int) (i : Int)
theorem RN : (aT Tryz.prog (Zn fun _ => none) 60 0 8 (atoms M9) ⟨aO Tryz.f119.ntmps [.agg [.ints .u8 32 (aH 32 key)], .ro false .u8 text], [], true⟩).bind (St.cut [1, 2, 4, 5, 8, 9] 3) =
    some { ahE (aH 32 key) text (rQ (aH 32 key)) with ob := aa true (aa true (dL ((aH 32 key).take 16) && true)) } := by kernel_rfl
theorem ahH : (exec Tryz.prog (Zn fun i => if i = 46 || i = 63 then some true else if i = 54 then some false else none) 60 0 (inner (inner (az 8 M9))) (Gr key text r s i)).bind (fun r => (r.2.cut [1, 2, 4, 5, 8, 9] 3).map fun q => (r.1, q)) =
    some (.normal, { Gr key text r (CI s (pcA text i) r) (J (i + 16)) with ob := mkO (slA (aa (aa true (decide (i < text.length))) (!decide (J (i + 16) > text.length))) text i) s (pcA text i) r }) := by kernel_rfl
theorem ahI : (exec Tryz.prog (Zn fun i => if i = 46 || i = 63 || i = 54 then some true else none) 60 0 (inner (inner (az 8 M9))) (Gr key text r s i)).bind (fun r => (r.2.cut [1, 2, 4, 5, 8, 9] 3).map fun q => (r.1, q)) =
    some (.normal, { Gr key text r (CI s (pcZ text i) r) (J (i + 16)) with ob := mkO (slZ (aa (aa true (decide (i < text.length))) (decide (J (i + 16) > text.length))) text i) s (pcZ text i) r }) := by kernel_rfl
theorem XY : (exec Tryz.prog (Zn fun i => if i = 46 then some false else none) 60 0 (inner (inner (az 8 M9))) (Gr key text r s i)).bind (fun r => (r.2.cut [1, 2, 4, 5, 8, 9] 3).map fun q => (r.1, q)) =
    some (.exit 4, { Gr key text r s i with ob := aa true (!decide (i < text.length)) }) := by kernel_rfl
end
noncomputable def mkV (key r s : List Int) : St := ⟨slotsOf 113 [(2, .ptr 0 0 0), (4, .ptr 1 0 0), (8, .sl 4 0 0 1 (iM s [5]) (iM s [5]) false true)], [.b [.ints .u8 32 key], .b [.ints .u8 16 (List.replicate 16 0)], .b [.ints .i64 16 r], .b [.ints .i64 1 [5]], .b [.ints .i64 (iM s [5]) ((iN s [5]).set 16 (((iN s [5]).getD 16 0).tmod 4))]], true⟩
noncomputable def mkU (f : Bool) (key s : List Int) : St := ⟨slotsOf 113 [(2, .ptr 0 0 0), (4, .ptr 1 0 0), (8, .ro f .i64 s)], [.b [.ints .u8 32 key], .b [.ints .u8 16 (List.replicate 16 0)]], true⟩
noncomputable def tn (key k a : List Int) : St := ⟨slotsOf 113 [(4, .ptr 1 0 0), (13, .ro true .i64 a), (14, .ptr 3 0 0), (15, .int .i64 0)], [.b [.ints .u8 32 key], .b [.ints .u8 16 (List.replicate 16 0)], .b [.ints .i64 k.length k], .b [.ints .u8 16 (List.replicate 16 0)]], true⟩
def mK (key : List Int) : List Int := (key.drop 16).take 16
def mvO (s : List Int) : Bool := aa (aa (aa (aa true (aa true (dL s && true && decide (s.length < 1000000) && true))) (decide (((iM s [5] : Nat) : Int) ≥ 17))) (cN 16 (iM s [5]))) (decide (16 < iM s [5]))
def muO (key s k : List Int) : Bool := aa (aa true (aa (aa (true && decide (32 ≤ key.length)) (decide (k.length = 16))) (dL k && decide (k.length < 1000000))))
  (aa (aa true (aa (decide (k.length = k.length) && (decide (k.length ≤ k.length) && true)) (decide (k.length = k.length)))) (dL s && dL k && decide (s.length < 1000000) && decide (k.length < 1000000)))
section
variable (key r s a : List Int) (i : Int) (f : Bool)
theorem ahK (text : List Int) : (aT Tryz.prog (mk2 fun i => if i = 77 || i = 82 then some true else none) 60 0 3 ((atoms M9).drop 9) (Gr key text r s i)).bind (St.cut [2, 4, 8] 5) =
    some { mkV key r s with ob := aa (aa (aa (aa (aa (mvO s) (decide ((iN s [5]).getD 16 0 ≥ 4))) (cN 16 (iM s [5]))) (decide (16 < iM s [5]))) (cN 16 (iM s [5]))) (decide (16 < iM s [5]) && decide ((iN s [5]).length = iM s [5])) } := by kernel_rfl
theorem ahL (text : List Int) : (aT Tryz.prog (mk2 fun i => if i = 77 then some true else if i = 82 then some false else none) 60 0 3 ((atoms M9).drop 9) (Gr key text r s i)).bind (St.cut [2, 4, 8] 2) =
    some { mkU false key s with ob := aa (mvO s) (!decide ((iN s [5]).getD 16 0 ≥ 4)) } := by kernel_rfl
theorem ahM (text : List Int) : (aT Tryz.prog (mk2 fun i => if i = 77 then some false else none) 60 0 3 ((atoms M9).drop 9) (Gr key text r s i)).bind (St.cut [2, 4, 8] 2) =
    some { mkU false key s with ob := aa (aa true (aa true (dL s && true && decide (s.length < 1000000) && true))) (!decide (((iM s [5] : Nat) : Int) ≥ 17)) } := by kernel_rfl
theorem ahN : Vp 4 2 (mkV key r s) = some (mkU true key ((iN s [5]).set 16 (((iN s [5]).getD 16 0).tmod 4)), aa (decide (((iN s [5]).set 16 (((iN s [5]).getD 16 0).tmod 4)).length = iM s [5])) (decide (iM s [5] = iM s [5]) && true)) := by kernel_rfl
theorem ahO : (aT Tryz.prog (Zn fun i => none) 60 0 3 ((atoms M9).drop 12) (mkU f key s)).bind (St.cut [4, 13, 14, 15] 4) =
    some { tn key (mK key) (iN s (mK key)) with ob := muO key s (mK key) } := by kernel_rfl
end
def kV (s : List Int) : List Int := if 17 ≤ iM s [5] ∧ 4 ≤ (iN s [5]).getD 16 0 then (iN s [5]).set 16 (((iN s [5]).getD 16 0).tmod 4) else s
def XZ (a : List Int) : List Int := (List.range 16).map fun i => IntKind.u8.wrap (a.getD i 0)
noncomputable def pW (key text : List Int) : Nat → List Int
  | 0 => []
  | j + 1 => CI (pW key text j) ((text.drop (16 * j)).take 16) (rQ key)
noncomputable def Gs (key text : List Int) : List Int := XZ (iN (kV (pW key text ((text.length + 15) / 16))) (mK key))
theorem Na (k : List Int) : (rQ k).length = 16 := rfl
theorem Gt {k : List Int} (d : Dg k) : Dg (rQ k) := by
  have h := fun i => d.getD i
  have m : ∀ i, 0 ≤ (k.getD i 0).tmod 16 ∧ (k.getD i 0).tmod 16 < 256 := fun i => by rw [cU (h i).1]; have := h i; omega
  have q : ∀ i, 0 ≤ J (J ((k.getD i 0).tdiv 4) * 4) ∧ J (J ((k.getD i 0).tdiv 4) * 4) < 256 := fun i => by
    have := h i
    rw [ei (h i).1, dY (n := k.getD i 0 / 4) (by omega) (by omega), dY (by omega) (by omega)]; omega
  unfold rQ
  simp only [Dg.cons]
  exact ⟨h 0, h 1, h 2, m 3, q 4, h 5, h 6, m 7, q 8, h 9, h 10, m 11, q 12, h 13, h 14, m 15, Dg.nil⟩
theorem X0 {v : Int} {l : List Int} (d : Dg l) (h : nv l = v) : Dg (MZ v) ∧ Tm (MZ v) ∧ nv (MZ v) = v := by
  obtain ⟨h1, h2, h3⟩ := pT d
  rw [← h, ← Ry d]
  exact ⟨h1, h2, h3⟩
theorem Gu : ∀ (n : Nat) (v : Int), 0 ≤ v → v < 256 ^ n → ∃ l, Dg l ∧ nv l = v
  | 0, v, h0, h1 => ⟨[], Dg.nil, by simp at h1; simp [nv]; omega⟩
  | n + 1, v, h0, h1 => by
    rw [Int.pow_succ] at h1
    obtain ⟨l, d, e⟩ := Gu n (v / 256) (by omega) (by omega)
    exact ⟨v % 256 :: l, Dg.cons.2 ⟨by omega, d⟩, by rw [nv, e]; omega⟩
theorem adn (v : Nat) : Dg (MZ (Gl v : Nat)) ∧ Tm (MZ (Gl v : Nat)) ∧ nv (MZ (Gl v : Nat)) = (Gl v : Nat) := by
  have h := MY v
  obtain ⟨l, d, e⟩ := Gu 17 (Gl v : Nat) (by omega) (by
    have : (256 : Int) ^ 17 = 87112285931760246646623899502532662132736 := by decide
    omega)
  exact X0 d e
theorem Nb {l : List Int} (d : Dg l) (t : Tm l) (h : nv l < 1361129467683753853853498429727072845824) : l.length ≤ 17 := by
  by_cases q : l = []
  · rw [q]; simp
  · have h1 := Ec d t q
    apply Classical.byContradiction
    intro hn
    have := kT (show 17 ≤ l.length - 1 by omega)
    have : (256 : Int) ^ 17 = 87112285931760246646623899502532662132736 := by decide
    omega
theorem d1 {p : List Int} (d : Dg p) : Dg (p ++ [1]) := d.app (Dg.cons.2 ⟨by decide, Dg.nil⟩)
def SQ (s : List Int) : Prop := Dg s ∧ Tm s ∧ nv s < 1361129467683753853853498429727072845824
theorem Nc {s p r : List Int} (hs : Dg s) (hp : Dg p) (hr : Dg r) : SQ (CI s p r) ∧ nv (CI s p r) % 1361129467683753853853498429727072845819 = (nv s + nv (p ++ [1])) * nv r % 1361129467683753853853498429727072845819 := by
  obtain ⟨a1, a2⟩ := sr hs (d1 hp)
  obtain ⟨b1, b2, b3⟩ := pT a1
  obtain ⟨c1, c2⟩ := zV b1 hr
  obtain ⟨e1, e2, e3⟩ := pT c1
  obtain ⟨f1, f2, f3⟩ := adn (nv (mH (tj (mH (iN s (p ++ [1]))) r))).toNat
  have hl := MY (nv (mH (tj (mH (iN s (p ++ [1]))) r))).toNat
  have hm := Rx (nv (mH (tj (mH (iN s (p ++ [1]))) r))).toNat
  have hn := ep e1
  unfold CI Od
  refine ⟨⟨f1, f2, by rw [f3]; omega⟩, ?_⟩
  rw [f3, ← a2, ← b3, ← c2, ← e3]
  omega
theorem SQ.nil : SQ [] := ⟨Dg.nil, trivial, by decide⟩
theorem q8 {key text : List Int} (dk : Dg key) (dt : Dg text) : ∀ j, SQ (pW key text j)
  | 0 => SQ.nil
  | j + 1 => (Nc (q8 dk dt j).1 ((dt.drop _).take _) (Gt dk)).1
theorem Gv (l : List Int) : (mH l).length ≤ l.length := by unfold mH; rw [List.length_take]; omega
theorem Cf {ob : Bool} {s p r : List Int} (h : ob = true) (hs : SQ s) (hp : Dg p) (hl : p.length ≤ 16) (hr : Dg r) (hrl : r.length = 16) : mkO ob s p r = true := by
  obtain ⟨ds, ts, vs⟩ := hs
  have ls := Nb ds ts vs
  obtain ⟨a1, a2⟩ := sr ds (d1 hp)
  obtain ⟨b1, b2, b3⟩ := pT a1
  obtain ⟨c1, c2⟩ := zV b1 hr
  obtain ⟨e1, e2, e3⟩ := pT c1
  have Cx : (iN s (p ++ [1])).length ≤ 18 := by
    rw [jP]
    have := (pU s (p ++ [1])).2
    have hm : zU s (p ++ [1]) = max s.length (p.length + 1) := by unfold zU; rw [List.length_append]; rfl
    omega
  have l1 := Gv (iN s (p ++ [1]))
  have l2 := zW b1 hr
  have l3 := Gv (tj (mH (iN s (p ++ [1]))) r)
  have ht : RM (mH (tj (mH (iN s (p ++ [1]))) r)) = true := by unfold RM; exact @decide_eq_true _ (Classical.propDecidable _) e2
  unfold mkO
  simp only [h, aV.2 hp, aV.2 ds, aV.2 (d1 hp), aV.2 b1, aV.2 hr, aV.2 e1, ht, cA (show p.length < 274877906944 by omega), hrl]
  simp [au]
  omega
theorem RO {key text : List Int} (hk : key.length = 32) (dk : Dg key) (dt : Dg text) (ht : text.length < 100000000) :
    Tr Tryz.prog none 0 (az 8 M9) (Gr key text (rQ key) [] 0) .normal (Gr key text (rQ key) (pW key text ((text.length + 15) / 16)) ((16 * ((text.length + 15) / 16) : Nat) : Int)) := by
  have jR := Tr.loop (P := Tryz.prog) (ro := none) (k := 0) 4 (c := az 8 M9) (by kernel_rfl) (fun j : Nat => Gr key text (rQ key) (pW key text j) ((16 * j : Nat) : Int)) ((text.length + 15) / 16)
    (s' := Gr key text (rQ key) (pW key text ((text.length + 15) / 16)) ((16 * ((text.length + 15) / 16) : Nat) : Int)) (fun j hj => ?_) ?_
  · exact jR
  · have hs := q8 dk dt j
    have hJ : J (((16 * j : Nat) : Int) + 16) = ((16 * (j + 1) : Nat) : Int) := by rw [dY (by omega) (by omega)]; omega
    have hp : Dg ((text.drop (16 * j)).take 16) := (dt.drop _).take _
    have Cx : ((text.drop (16 * j)).take 16).length ≤ 16 := by rw [List.length_take]; omega
    have hst : pW key text (j + 1) = CI (pW key text j) ((text.drop (16 * j)).take 16) (rQ key) := rfl
    by_cases q : 16 * (j + 1) ≤ text.length
    · have e := ahH key text (rQ key) (pW key text j) ((16 * j : Nat) : Int)
      have hA : pcA text ((16 * j : Nat) : Int) = (text.drop (16 * j)).take 16 := by
        unfold pcA
        rw [hJ, Int.toNat_natCast, Int.toNat_natCast, show 16 * (j + 1) - 16 * j = 16 by omega]
      rw [hJ, hA, Cf (ob := slA _ _ _) (by
        unfold slA
        rw [hJ]
        simp [au]
        omega) hs hp Cx (Gt dk) (Na key)] at e
      rw [hst]
      exact Tr.post (Tr.cut (sx _) 60 _ 3 (by omega) e rfl) (bh.same rfl rfl)
    · have e := ahI key text (rQ key) (pW key text j) ((16 * j : Nat) : Int)
      have hA : pcZ text ((16 * j : Nat) : Int) = (text.drop (16 * j)).take 16 := by
        unfold pcZ
        rw [Int.toNat_natCast, List.take_of_length_le (by rw [List.length_drop]; omega), List.take_of_length_le (by rw [List.length_drop]; omega)]
      rw [hJ, hA, Cf (ob := slZ _ _ _) (by
        unfold slZ
        simp [au]
        omega) hs hp Cx (Gt dk) (Na key)] at e
      rw [hst]
      exact Tr.post (Tr.cut (sx _) 60 _ 3 (by omega) e rfl) (bh.same rfl rfl)
  · have e := XY key text (rQ key) (pW key text ((text.length + 15) / 16)) ((16 * ((text.length + 15) / 16) : Nat) : Int)
    rw [decide_eq_false (show ¬ ((16 * ((text.length + 15) / 16) : Nat) : Int) < text.length by omega)] at e
    exact Tr.cut (sx _) 60 _ 3 (by omega) e rfl
theorem Gw {s : List Int} (h : SQ s) : Dg (kV s) ∧ (kV s).length < 1000 := by
  obtain ⟨ds, ts, vs⟩ := h
  have ls := Nb ds ts vs
  obtain ⟨a1, a2⟩ := sr ds d5
  have hm := (pU s [5]).2
  have hm2 : zU s [5] = max s.length 1 := rfl
  unfold kV
  split
  · have zD := a1.getD 16
    rw [cU zD.1]
    exact ⟨a1.set _ (by omega), by rw [List.length_set, jP]; omega⟩
  · exact ⟨ds, by omega⟩
theorem H9 {key k a : List Int} (ha : 16 ≤ a.length) {args : List SV} (ht : ∀ s' x, aY Tryz.prog none 0 ((atoms (aE Tryz.f119)).drop 15) (tn key k a) x s' → aY Tryz.prog none 0 (atoms (aE Tryz.f119)) ⟨aO Tryz.f119.ntmps args, [], true⟩ x s') :
    ai Tryz.prog 119 args [] (.agg [.ints .u8 16 (XZ a)]) [] :=
  ai.cz (sx fun i => if i = 101 then some true else none) 200 15 0 Tryz.func119 (by simp) rfl ht
    (p := [0, 1, 2, 3, 4, 5, 6, 7, 8, 9, 10, 11, 12, 13, 14, 15].foldl (fun o i => aa (aa (aa o (decide (((i : Nat) : Int) < (a.length : Int)))) (cN ((i : Nat) : Int) a.length)) (decide (i < a.length))) true) (by kernel_rfl)
    (by
      have h : ∀ i : Nat, i < 16 → decide ((i : Int) < (a.length : Int)) = true ∧ cN (i : Int) a.length = true ∧ decide (i < a.length) = true := fun i hi => ⟨decide_eq_true (by omega), aM (by omega) (by omega), decide_eq_true (by omega)⟩
      simp only [List.foldl, (h 0 (by decide)).1, (h 0 (by decide)).2.1, (h 0 (by decide)).2.2, (h 1 (by decide)).1, (h 1 (by decide)).2.1, (h 1 (by decide)).2.2, (h 2 (by decide)).1, (h 2 (by decide)).2.1, (h 2 (by decide)).2.2, (h 3 (by decide)).1, (h 3 (by decide)).2.1, (h 3 (by decide)).2.2, (h 4 (by decide)).1, (h 4 (by decide)).2.1, (h 4 (by decide)).2.2, (h 5 (by decide)).1, (h 5 (by decide)).2.1, (h 5 (by decide)).2.2, (h 6 (by decide)).1, (h 6 (by decide)).2.1, (h 6 (by decide)).2.2, (h 7 (by decide)).1, (h 7 (by decide)).2.1, (h 7 (by decide)).2.2, (h 8 (by decide)).1, (h 8 (by decide)).2.1, (h 8 (by decide)).2.2, (h 9 (by decide)).1, (h 9 (by decide)).2.1, (h 9 (by decide)).2.2, (h 10 (by decide)).1, (h 10 (by decide)).2.1, (h 10 (by decide)).2.2, (h 11 (by decide)).1, (h 11 (by decide)).2.1, (h 11 (by decide)).2.2, (h 12 (by decide)).1, (h 12 (by decide)).2.1, (h 12 (by decide)).2.2, (h 13 (by decide)).1, (h 13 (by decide)).2.1, (h 13 (by decide)).2.2, (h 14 (by decide)).1, (h 14 (by decide)).2.1, (h 14 (by decide)).2.2, (h 15 (by decide)).1, (h 15 (by decide)).2.1, (h 15 (by decide)).2.2]; rfl) rfl rfl
theorem Nd {key text : List Int} (hk : key.length = 32) (dk : Dg key) (dt : Dg text) (ht : text.length < 100000000) :
    ai Tryz.prog 119 [.agg [.ints .u8 32 key], .ro false .u8 text] [] (.agg [.ints .u8 16 (Gs key text)]) [] := by
  have hs := q8 dk dt ((text.length + 15) / 16)
  have hl := RO hk dk dt ht
  have hh := RN key text
  rw [aF hk, aV.2 (dk.take 16)] at hh
  unfold Gs
  generalize pW key text ((text.length + 15) / 16) = s at hs hl
  obtain ⟨f1, f2⟩ := Gw hs
  obtain ⟨ds, ts, vs⟩ := hs
  have ls := Nb ds ts vs
  have ahP : (mK key).length = 16 := by unfold mK; rw [List.length_take, List.length_drop, hk]; rfl
  have ahQ : Dg (mK key) := (dk.drop 16).take 16
  have ha : 16 ≤ (iN (kV s) (mK key)).length := by
    rw [jP]
    have := (pU (kV s) (mK key)).1
    unfold zU at this
    omega
  have Cx := jP s [5]
  have hgt : dL s = true := aV.2 ds
  refine H9 (key := key) (k := mK key) ha fun s' x h => ?_
  refine aY.items (sx _) 60 8 _ 3 (by simp) hh rfl (by decide) ?_
  refine aY.pre (s1 := Gr key text (rQ key) [] 0) (aY.item 8 (by decide) hl ?_) ((bh.ac4 8 false .i64 rfl).trans (bh.same rfl rfl)) (by decide)
  have tail : ∀ f, aY Tryz.prog none 0 ((atoms M9).drop 12) (mkU f key (kV s)) x s' := fun f => by
    have e := ahO key (kV s) f
    have ho : muO key (kV s) (mK key) = true := by
      unfold muO
      rw [ahP, hk, aV.2 f1, aV.2 ahQ, decide_eq_true (show (kV s).length < 1000000 by omega)]; rfl
    rw [ho] at e
    refine aY.items (sx _) 60 3 _ 4 (by omega) e rfl (by decide) ?_
    rw [List.drop_drop]
    exact h
  by_cases q : 17 ≤ iM s [5]
  · have hmv : mvO s = true := by
      unfold mvO
      rw [hgt, decide_eq_true (show s.length < 1000000 by omega), decide_eq_true (show ((iM s [5] : Nat) : Int) ≥ 17 by omega), aM (by omega) (by omega), decide_eq_true (show 16 < iM s [5] by omega)]; rfl
    by_cases q4 : 4 ≤ (iN s [5]).getD 16 0
    · have Nf : kV s = (iN s [5]).set 16 (((iN s [5]).getD 16 0).tmod 4) := by unfold kV; rw [if_pos ⟨q, q4⟩]
      have e := ahK key (rQ key) s ((16 * ((text.length + 15) / 16) : Nat) : Int) text
      rw [hmv, decide_eq_true (show (iN s [5]).getD 16 0 ≥ 4 from q4), aM (by omega) (by omega), decide_eq_true (show 16 < iM s [5] by omega), decide_eq_true Cx] at e
      refine aY.items (Ed _) 60 3 _ 5 (by omega) e rfl (by decide) ?_
      rw [List.drop_drop]
      have t := tail true
      rw [Nf] at t
      exact aY.pre t (bh.Vp (by omega) (by omega) (ahN key (rQ key) s) (by rw [List.length_set, Cx, decide_eq_true rfl]; rfl)) (by decide)
    · have Nf : kV s = s := by unfold kV; rw [if_neg (fun h => q4 h.2)]
      have e := ahL key (rQ key) s ((16 * ((text.length + 15) / 16) : Nat) : Int) text
      rw [hmv, decide_eq_false (show ¬ (iN s [5]).getD 16 0 ≥ 4 from q4)] at e
      refine aY.items (Ed _) 60 3 _ 2 (by omega) e rfl (by decide) ?_
      rw [List.drop_drop]
      have t := tail false
      rw [Nf] at t
      exact t
  · have Nf : kV s = s := by unfold kV; rw [if_neg (fun h => q h.1)]
    have e := ahM key (rQ key) s ((16 * ((text.length + 15) / 16) : Nat) : Int) text
    rw [hgt, decide_eq_true (show s.length < 1000000 by omega), decide_eq_false (show ¬ ((iM s [5] : Nat) : Int) ≥ 17 by omega)] at e
    refine aY.items (Ed _) 60 3 _ 2 (by omega) e rfl (by decide) ?_
    rw [List.drop_drop]
    have t := tail false
    rw [Nf] at t
    exact t
end Go.Proofs.YtibfpjeeanppjaaGreat.R4
