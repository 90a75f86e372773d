/- This file holds the texts R4E, R4F, a section each. No conditions beyond those in the theorems. -/
import Derived.Test.YtibfpjeeanppjaaGreatVR4D
set_option linter.all false
set_option maxRecDepth 100000
section
namespace Go.Proofs.YtibfpjeeanppjaaGreat.R4
open Go Go.Sy Sh
noncomputable def tiB : Code := bodyOf Tryz.f158
noncomputable def tiP : Code := inner (inner (nthC 3 tiB))
noncomputable def tiI : Code := inner (nthC 2 tiP)
noncomputable def tiQ : Code := inner (inner (nthC 2 tiI))
noncomputable def tiS (a b : List Int) (m : Nat) (o : List Int) (i : Int) : St := ⟨slotsOf 66 [(0, .ro false .i64 a), (1, .ro false .i64 b), (5, .sl 0 0 0 1 m m true true), (6, .int .i64 i)], [.b [.ints .i64 m o]], true⟩
noncomputable def tjS (a b : List Int) (m : Nat) (o : List Int) (i c j : Int) : St := ⟨slotsOf 66 [(0, .ro false .i64 a), (1, .ro false .i64 b), (5, .sl 0 0 0 1 m m true true), (6, .int .i64 i), (7, .int .i64 c), (8, .int .i64 j)], [.b [.ints .i64 m o]], true⟩
def tiA (b : Bool) : Nat → Option Bool := fun i => if i = 20 then some b else none
def tjA : Nat → Option Bool := fun i => if i = 26 || i = 44 then some true else none
def tjD : Nat → Option Bool := fun i => if i = 29 then some true else if i = 26 || i = 44 then some false else none
def tjE : Nat → Option Bool := fun i => if i = 26 || i = 29 then some false else none
def ijO (ob : Bool) (i j : Int) (m : Nat) : Bool := andT (andT ob (inB (J (i + j)) m)) (decide (0 + (J (i + j)).toNat < m))
def stO (ob : Bool) (i j : Int) (o : List Int) (m : Nat) : Bool := andT (andT ob (inB (J (i + j)) m)) (decide (0 + (J (i + j)).toNat < m) && decide (o.length = m))
def tiM (a b : List Int) : Int := J (J ((a.length : Int) + b.length) + 1)
def tiO (n : Int) : Bool := andT true (J n == n && J n == n && (decide (0 ≤ n) && decide (n ≤ n) && decide ((8 : Int) * n ≤ 281474976710656)))
section
variable (a b o : List Int) (m : Nat) (i c j : Int)
theorem ti_head : (execL Tryz.prog (plC fun _ => none) 60 0 3 (atoms tiB) ⟨slots0 Tryz.f158.ntmps [.ro false .i64 a, .ro false .i64 b], [], true⟩).bind (St.cut [0, 1, 5, 6] 1) = some { tiS a b (tiM a b).toNat (List.replicate (tiM a b).toNat 0) 0 with ob := tiO (tiM a b) } := by kernel_rfl
theorem ti_a : (execL Tryz.prog (plC (tiA true)) 60 0 2 (atoms tiP) (tiS a b m o i)).bind (St.cut [0, 1, 5, 6] 1) = some { tiS a b m o i with ob := andT true (decide (i < a.length)) } := by kernel_rfl
theorem ti_i : (execL Tryz.prog (plC fun _ => none) 60 0 2 (atoms tiI) (tiS a b m o i)).bind (St.cut [0, 1, 5, 6, 7, 8] 1) = some (tjS a b m o i 0 0) := by kernel_rfl
theorem ti_z : (exec Tryz.prog (plC fun _ => none) 60 0 (nthC 3 tiP) (tiS a b m o i)).bind (fun r => (r.2.cut [0, 1, 5, 6] 1).map fun q => (r.1, q)) = some (.normal, tiS a b m o (J (i + 1))) := by kernel_rfl
theorem ti_end : (exec Tryz.prog (plC (tiA false)) 60 0 tiP (tiS a b m o i)).bind (fun r => (r.2.cut [0, 1, 5, 6] 1).map fun q => (r.1, q)) = some (.exit 0, { tiS a b m o i with ob := andT true (!decide (i < a.length)) }) := by kernel_rfl
theorem tj_a : (exec Tryz.prog (plC tjA) 60 0 tiQ (tjS a b m o i c j)).bind (fun r => (r.2.cut [0, 1, 5, 6, 7, 8] 1).map fun q => (r.1, q)) =
    some (.normal, { tjS a b m (o.set (0 + (J (i + j)).toNat) ((J (J (o.getD (0 + (J (i + j)).toNat) 0 + c) + J (a.getD i.toNat 0 * b.getD j.toNat 0))).tmod 256)) i (J ((J (J (o.getD (0 + (J (i + j)).toNat) 0 + c) + J (a.getD i.toNat 0 * b.getD j.toNat 0))).tdiv 256)) (J (j + 1)) with
      ob := stO (andT (andT (andT (andT (andT (ijO (andT true (decide (j < b.length))) i j m) (decide (j < b.length))) (inB i a.length)) (decide (i.toNat < a.length))) (inB j b.length)) (decide (j.toNat < b.length))) i j o m }) := by kernel_rfl
theorem tj_d : (exec Tryz.prog (plC tjD) 60 0 tiQ (tjS a b m o i c j)).bind (fun r => (r.2.cut [0, 1, 5, 6, 7, 8] 1).map fun q => (r.1, q)) =
    some (.normal, { tjS a b m (o.set (0 + (J (i + j)).toNat) ((J (o.getD (0 + (J (i + j)).toNat) 0 + c)).tmod 256)) i (J ((J (o.getD (0 + (J (i + j)).toNat) 0 + c)).tdiv 256)) (J (j + 1)) with
      ob := stO (andT (ijO (andT (andT true (!decide (j < b.length))) (decide (c > 0))) i j m) (!decide (j < b.length))) i j o m }) := by kernel_rfl
theorem tj_end : (exec Tryz.prog (plC tjE) 60 0 tiQ (tjS a b m o i c j)).bind (fun r => (r.2.cut [0, 1, 5, 6, 7, 8] 1).map fun q => (r.1, q)) =
    some (.exit 2, { tjS a b m o i c j with ob := andT (andT true (!decide (j < b.length))) (!decide (c > 0)) }) := by kernel_rfl
end
theorem ij_true {ob : Bool} {i j : Nat} {m : Nat} (h1 : ob = true) (h : i + j < m) (hm : m < 10000000) : ijO ob i j m = true := by
  unfold ijO
  rw [h1, J_eq (by omega) (by omega), inB_true (by omega) (by omega), decide_eq_true (show 0 + (((i : Int) + j)).toNat < m by omega)]; rfl
theorem st_true {ob : Bool} {i j : Nat} {m : Nat} {o : List Int} (h1 : ob = true) (h : i + j < m) (hm : m < 10000000) (ho : o.length = m) : stO ob i j o m = true := by
  unfold stO
  rw [h1, J_eq (by omega) (by omega), inB_true (by omega) (by omega), decide_eq_true (show 0 + (((i : Int) + j)).toNat < m by omega), decide_eq_true ho]; rfl
theorem times_row {a b o : List Int} (da : Dg a) (db : Dg b) (d : Dg o) (ho : o.length = a.length + b.length + 1) (ha : a.length < 1000000) (hb : b.length < 1000000) {i : Nat} (hi : i < a.length) (h0 : (tR (a.getD i 0) b i o (trN (a.getD i 0) b i o)).2 = 0) :
    Tr Tryz.prog none 0 (nthC 2 tiI) (tjS a b o.length o i 0 0) .normal (tjS a b o.length (tR (a.getD i 0) b i o (trN (a.getD i 0) b i o)).1 i (tR (a.getD i 0) b i o (trN (a.getD i 0) b i o)).2 (trN (a.getD i 0) b i o : Nat)) := by
  have hn := trN_bd (a.getD i 0) b i o
  have hx := da.getD i
  have key := Tr.loop (P := Tryz.prog) (ro := none) (k := 0) 2 (c := nthC 2 tiI) (by kernel_rfl) (fun j : Nat => tjS a b o.length (tR (a.getD i 0) b i o j).1 i (tR (a.getD i 0) b i o j).2 j) (trN (a.getD i 0) b i o)
    (s' := tjS a b o.length (tR (a.getD i 0) b i o (trN (a.getD i 0) b i o)).1 i (tR (a.getD i 0) b i o (trN (a.getD i 0) b i o)).2 (trN (a.getD i 0) b i o : Nat)) (fun j hj => ?_) ?_
  · exact key
  · obtain ⟨t1, t2, t3, t4, _⟩ := tR_ok hx db d (show i + b.length < o.length by omega) j (by omega)
    have hs : (tR (a.getD i 0) b i o (j + 1)) = tS (a.getD i 0) b i j (tR (a.getD i 0) b i o j) := rfl
    have hq : ∀ q, trN (a.getD i 0) b i o = q → j < q := fun q e => e ▸ hj
    show Tr _ _ _ _ (tjS a b o.length (tR (a.getD i 0) b i o j).1 i (tR (a.getD i 0) b i o j).2 j) _ (tjS a b o.length (tR (a.getD i 0) b i o (j + 1)).1 i (tR (a.getD i 0) b i o (j + 1)).2 ((j + 1 : Nat) : Int))
    have hc : ¬ j < b.length → j = b.length ∧ 0 < (tR (a.getD i 0) b i o b.length).2 := fun h => by
      unfold trN at hj
      split at hj
      · rename_i q; exact ⟨by omega, q⟩
      · omega
    rw [hs]
    by_cases ib : j < b.length
    · generalize tR (a.getD i 0) b i o j = s at *
      obtain ⟨l, c⟩ := s
      simp only at t1 t2 t3 t4
      have hy := db.getD j
      have p0 : 0 ≤ a.getD i 0 * b.getD j 0 := Int.mul_nonneg hx.1 hy.1
      have p1 : a.getD i 0 * b.getD j 0 ≤ 255 * 255 := Int.mul_le_mul (by omega) (by omega) hy.1 (by decide)
      have hg := t2.getD (i + j)
      have e := tj_a a b l o.length i c j
      have hO : stO (andT (andT (andT (andT (andT (ijO (andT true (decide ((j : Int) < b.length))) i j o.length) (decide ((j : Int) < b.length))) (inB (i : Int) a.length)) (decide ((i : Int).toNat < a.length))) (inB (j : Int) b.length)) (decide ((j : Int).toNat < b.length))) i j l o.length = true := by
        refine st_true ?_ (by omega) (by omega) t1
        rw [ij_true (by rw [decide_eq_true (show (j : Int) < b.length by omega)]; rfl) (by omega) (by omega), decide_eq_true (show (j : Int) < b.length by omega), inB_true (by omega) (by omega), inB_true (by omega) (by omega), decide_eq_true (show (i : Int).toNat < a.length by omega), decide_eq_true (show (j : Int).toNat < b.length by omega)]; rfl
      rw [hO] at e
      rw [Int.toNat_natCast, Int.toNat_natCast, J_eq (n := (i : Int) + j) (by omega) (by omega), show 0 + ((i : Int) + j).toNat = i + j by omega, J_eq (n := a.getD i 0 * b.getD j 0) (by omega) (by omega), J_eq (n := l.getD (i + j) 0 + c) (by omega) (by omega), J_eq (n := l.getD (i + j) 0 + c + a.getD i 0 * b.getD j 0) (by omega) (by omega), tmod_pos (by omega), tdiv_pos (by omega), J_eq (n := (l.getD (i + j) 0 + c + a.getD i 0 * b.getD j 0) / 256) (by omega) (by omega), J_eq (n := (j : Int) + 1) (by omega) (by omega)] at e
      exact Tr.post (Tr.cut (plC_ok _) 60 _ 1 (by omega) e rfl) (Ent.same rfl rfl)
    · obtain ⟨hjb, hpos⟩ := hc ib
      rw [← hjb] at hpos
      generalize tR (a.getD i 0) b i o j = s at *
      obtain ⟨l, c⟩ := s
      simp only at t1 t2 t3 t4 hpos
      have hg := t2.getD (i + j)
      have hz := getD_out (l := b) (i := j) (by omega)
      have e := tj_d a b l o.length i c j
      have hO : stO (andT (ijO (andT (andT true (!decide ((j : Int) < b.length))) (decide (c > 0))) i j o.length) (!decide ((j : Int) < b.length))) i j l o.length = true := by
        refine st_true ?_ (by omega) (by omega) t1
        rw [decide_eq_false (show ¬ (j : Int) < b.length by omega), decide_eq_true (show c > 0 by omega), ij_true (ob := andT (andT true (!false)) true) rfl (by omega) (by omega)]; rfl
      rw [hO] at e
      rw [J_eq (n := (i : Int) + j) (by omega) (by omega), show 0 + ((i : Int) + j).toNat = i + j by omega, J_eq (n := l.getD (i + j) 0 + c) (by omega) (by omega), tmod_pos (by omega), tdiv_pos (by omega), J_eq (n := (l.getD (i + j) 0 + c) / 256) (by omega) (by omega), J_eq (n := (j : Int) + 1) (by omega) (by omega)] at e
      have e2 : tS (a.getD i 0) b i j (l, c) = (l.set (i + j) ((l.getD (i + j) 0 + c) % 256), (l.getD (i + j) 0 + c) / 256) := by unfold tS; simp only [hz, Int.mul_zero, Int.add_zero]
      rw [e2]
      exact Tr.post (Tr.cut (plC_ok _) 60 _ 1 (by omega) e rfl) (Ent.same rfl rfl)
  · have e := tj_end a b (tR (a.getD i 0) b i o (trN (a.getD i 0) b i o)).1 o.length i (tR (a.getD i 0) b i o (trN (a.getD i 0) b i o)).2 (trN (a.getD i 0) b i o : Nat)
    rw [decide_eq_false (show ¬ ((trN (a.getD i 0) b i o : Nat) : Int) < b.length by omega), decide_eq_false (show ¬ (tR (a.getD i 0) b i o (trN (a.getD i 0) b i o)).2 > 0 by omega)] at e
    exact Tr.cut (plC_ok _) 60 _ 1 (by omega) e rfl
theorem times_step {a b : List Int} (da : Dg a) (db : Dg b) (ha : a.length < 1000000) (hb : b.length < 1000000) {i : Nat} (hi : i < a.length) :
    Tr Tryz.prog none 0 tiP (tiS a b (a.length + b.length + 1) (tO a b i) i) .normal (tiS a b (a.length + b.length + 1) (tO a b (i + 1)) ((i + 1 : Nat) : Int)) := by
  obtain ⟨h1, h2, h3⟩ := tO_ok da db i (by omega)
  obtain ⟨_, _, h0, _⟩ := tr_sum da db hi h1 h2 h3
  have hrow := times_row da db h2 h1 ha hb hi h0
  rw [h1] at hrow
  have e := ti_a a b (tO a b i) (a.length + b.length + 1) i
  rw [decide_eq_true (show (i : Int) < a.length by omega)] at e
  have z := ti_z a b (tO a b (i + 1)) (a.length + b.length + 1) i
  rw [J_eq (n := (i : Int) + 1) (by omega) (by omega)] at z
  have hblk : nthC 2 tiP = .block 1 tiI := by kernel_rfl
  refine Tr.of_atoms (TrL.items (plC_ok _) 60 2 _ 1 (by omega) e rfl (by decide) ?_)
  refine TrL.item 2 (by decide) (s1 := tiS a b (a.length + b.length + 1) (tO a b (i + 1)) i) ?_ (TrL.item 3 (by decide) (s1 := tiS a b (a.length + b.length + 1) (tO a b (i + 1)) ((i + 1 : Nat) : Int)) (Tr.cut (plC_ok _) 60 _ 1 (by omega) z rfl) ⟨rfl, rfl⟩)
  rw [hblk]
  refine Tr.block_pass ?_ (by simp)
  refine Tr.of_atoms (TrL.items (plC_ok _) 60 2 _ 1 (by omega) (ti_i a b (tO a b i) (a.length + b.length + 1) i) rfl (by decide) ?_)
  refine TrL.item 2 (by decide) (s1 := tiS a b (a.length + b.length + 1) (tO a b (i + 1)) i) (Tr.post hrow ?_) ⟨rfl, rfl⟩
  exact Ent.cut (n := 1) (live := [0, 1, 5, 6]) (by omega) (by kernel_rfl)
theorem times_fn {a b : List Int} (da : Dg a) (db : Dg b) (ha : a.length < 1000000) (hb : b.length < 1000000) :
    FnTr Tryz.prog 158 [.ro false .i64 a, .ro false .i64 b] [] (.sl 0 0 0 1 (a.length + b.length + 1) (a.length + b.length + 1) true true) [.b [.ints .i64 (a.length + b.length + 1) (tiL a b)]] := by
  have hM : tiM a b = ((a.length + b.length + 1 : Nat) : Int) := by unfold tiM; rw [J_eq (n := (a.length : Int) + b.length) (by omega) (by omega), J_eq (by omega) (by omega)]; omega
  have hh := ti_head a b
  have ho : tiO (tiM a b) = true := by
    unfold tiO
    rw [hM, J_eq (by omega) (by omega), beq_self_eq_true, decide_eq_true (show (0 : Int) ≤ ((a.length + b.length + 1 : Nat) : Int) by omega), decide_eq_true (Int.le_refl _), decide_eq_true (show (8 : Int) * ((a.length + b.length + 1 : Nat) : Int) ≤ 281474976710656 by omega)]; rfl
  rw [ho, hM, Int.toNat_natCast] at hh
  have hloop : Tr Tryz.prog none 0 (nthC 3 tiB) (tiS a b (a.length + b.length + 1) (tO a b 0) 0) .normal (tiS a b (a.length + b.length + 1) (tiL a b) a.length) := by
    have key := Tr.loop (P := Tryz.prog) (ro := none) (k := 0) 0 (c := nthC 3 tiB) (by kernel_rfl) (fun i : Nat => tiS a b (a.length + b.length + 1) (tO a b i) i) a.length (s' := tiS a b (a.length + b.length + 1) (tiL a b) a.length) (fun i hi => times_step da db ha hb hi) ?_
    · exact key
    · have e := ti_end a b (tO a b a.length) (a.length + b.length + 1) a.length
      rw [decide_eq_false (show ¬ ((a.length : Int) < a.length) by omega)] at e
      exact Tr.cut (plC_ok _) 60 _ 1 (by omega) e rfl
  refine FnTr.restM (plC_ok fun _ => none) 60 4 1 Tryz.func158 (by simp) rfl (fun s' x h => ?_) (s := tiS a b (a.length + b.length + 1) (tiL a b) a.length) (p := true) (by kernel_rfl) rfl rfl rfl
  exact TrL.items (plC_ok fun _ => none) 60 3 _ 1 (by simp) hh rfl (by decide) (TrL.item 3 (by decide) hloop h)
def timesF : List SV → Option (SV × List Blk × Bool)
  | [.ro false .i64 a, .ro false .i64 b] => some (.ro true .i64 (tiL a b), [], dgB a && dgB b && decide (a.length < 1000000) && decide (b.length < 1000000))
  | _ => none
noncomputable def timesE : Entry Tryz.prog := .val 158 _ Tryz.func158 (by decide) rfl true 0 timesF fun vs v new e => by
  unfold timesF at e
  split at e
  · rename_i a b
    simp only [Option.some.injEq, Prod.mk.injEq, Bool.and_eq_true, decide_eq_true_eq, dgB_iff] at e
    obtain ⟨rfl, rfl, ⟨⟨h1, h2⟩, h3⟩, h4⟩ := e
    exact FnTr.frozen (N := a.length + b.length + 1) (ex := true) (wh := true) (times_fn h1 h2 h3 h4) (tiL_len h1 h2)
  · cases e
end Go.Proofs.YtibfpjeeanppjaaGreat.R4
end
section
namespace Go.Proofs.YtibfpjeeanppjaaGreat.R4
open Go Go.Sy Sh
theorem Tm_low : ∀ {l : List Int}, Dg l → Tm l → l ≠ [] → (256 : Int) ^ (l.length - 1) ≤ nv l
  | [], _, _, h => absurd rfl h
  | [x], d, t, _ => by
    have := (Dg.cons.1 d).1
    have : x ≠ 0 := t
    simp only [List.length_cons, List.length_nil, nv]
    omega
  | x :: y :: l, d, t, _ => by
    have ih := Tm_low (l := y :: l) (Dg.cons.1 d).2 t (by simp)
    have hx := (Dg.cons.1 d).1
    rw [nv]
    simp only [List.length_cons, Nat.add_sub_cancel] at ih ⊢
    rw [Int.pow_succ]
    omega
theorem Tm_len {a b : List Int} (da : Dg a) (db : Dg b) (t : Tm b) (h : nv b ≤ nv a) : b.length ≤ a.length := by
  by_cases q : b = []
  · rw [q]; simp
  · have h1 := Tm_low db t q
    have h2 := nv_lt da
    apply Classical.byContradiction
    intro hn
    have := pow_le256 (show a.length ≤ b.length - 1 by omega)
    omega
noncomputable def smB : Code := bodyOf Tryz.f156
noncomputable def smL : Code := inner (inner (nthC 1 smB))
noncomputable def smI : Code := inner (nthC 2 smL)
noncomputable def smP : Code := inner (inner (nthC 3 smI))
noncomputable def smQ : Code := inner (inner (nthC 6 smI))
noncomputable def smC (f : Nat → Option Bool) : Ctr := mk (P := Tryz.prog) [plusRE, timesE, trimE] [] f
theorem smC_ok (f : Nat → Option Bool) : CtrSound Tryz.prog (smC f) := mk_sound _ InlOK.nil _ _
noncomputable def smT (a : List Int) : St := ⟨slotsOf 80 [(0, .ro false .i64 a)], [], true⟩
noncomputable def smM (a : List Int) (m : Nat) (l : List Int) (i : Int) : St := ⟨slotsOf 80 [(0, .ro false .i64 a), (3, .sl 0 0 0 1 m m false true), (4, .nl (.slice none 0 0)), (5, .int .i64 i)], [.b [.ints .i64 m l]], true⟩
noncomputable def smM0 (a : List Int) : St := ⟨slotsOf 80 [(0, .ro false .i64 a), (3, .nl (.slice none 0 0)), (4, .nl (.slice none 0 0)), (5, .int .i64 0)], [], true⟩
noncomputable def smK (a : List Int) (m : Nat) (l : List Int) : St := ⟨slotsOf 80 [(0, .ro false .i64 a), (3, .sl 0 0 0 1 m m false true), (4, .nl (.slice none 0 0)), (6, .int .i64 16)], [.b [.ints .i64 m l]], true⟩
noncomputable def smN (a : List Int) (m : Nat) (l : List Int) (n : Nat) (h : List Int) (i : Int) : St := ⟨slotsOf 80 [(0, .ro false .i64 a), (3, .sl 0 0 0 1 m m false true), (4, .sl 1 0 0 1 n n false true), (6, .int .i64 i)], [.b [.ints .i64 m l], .b [.ints .i64 n h]], true⟩
def sm1 : Nat → Option Bool := fun i => if i = 10 then some true else none
def sm2 : Nat → Option Bool := fun i => if i = 10 then some false else if i = 14 || i = 19 then some true else none
def sm3 : Nat → Option Bool := fun i => if i = 10 || i = 14 then some false else none
def sm4 : Nat → Option Bool := fun i => if i = 10 || i = 19 then some false else if i = 14 then some true else none
def smO16 (ob : Bool) (a : List Int) : Bool := andT (andT ob (inB 16 a.length)) (decide (16 < a.length))
def smF (l h : List Int) (m n : Nat) : Bool := andT (andT (andT true (andT (andT (decide (h.length = n) && (decide (n ≤ n) && true)) (decide (h.length = n))) (dgB h && true && decide (h.length < 1000000) && true)))
  (andT (andT (decide (l.length = m) && (decide (m ≤ m) && true)) (decide (l.length = m))) (dgB l && dgB (tiL h [5]) && decide (l.length < 1000000) && decide ((tiL h [5]).length < 1000000)))) (andT true (decide ((plL l (tiL h [5])).length < 1000000)))
section
variable (a l h : List Int) (m n : Nat) (i : Int)
theorem sm_head : (execL Tryz.prog (smC sm1) 60 0 1 (atoms smB) ⟨slots0 Tryz.f156.ntmps [.ro false .i64 a], [], true⟩).bind (St.cut [0] 0) = some (smT a) := by kernel_rfl
theorem sm_in1 : (execL Tryz.prog (smC sm1) 60 0 2 (atoms smL) (smT a)).bind (St.cut [0] 0) = some { smT a with ob := andT true (decide ((a.length : Int) > 17)) } := by kernel_rfl
theorem sm_in2 : (execL Tryz.prog (smC sm2) 60 0 2 (atoms smL) (smT a)).bind (St.cut [0] 0) = some { smT a with ob := andT (smO16 (andT (andT true (!decide ((a.length : Int) > 17))) ((a.length : Int) == 17)) a) (decide (a.getD 16 0 > 3)) } := by kernel_rfl
theorem sm_out3 : (exec Tryz.prog (smC sm3) 60 0 smL (smT a)).bind (fun r => (r.2.cut [0] 0).map fun q => (r.1, q)) = some (.exit 0, { smT a with ob := andT (andT true (!decide ((a.length : Int) > 17))) (!((a.length : Int) == 17)) }) := by kernel_rfl
theorem sm_out4 : (exec Tryz.prog (smC sm4) 60 0 smL (smT a)).bind (fun r => (r.2.cut [0] 0).map fun q => (r.1, q)) = some (.exit 0, { smT a with ob := andT (smO16 (andT (andT true (!decide ((a.length : Int) > 17))) ((a.length : Int) == 17)) a) (!decide (a.getD 16 0 > 3)) }) := by kernel_rfl
theorem sm_i : (execL Tryz.prog (smC sm1) 60 0 3 (atoms smI) (smT a)).bind (St.cut [0, 3, 4, 5] 0) = some (smM0 a) := by kernel_rfl
theorem sm_p1 : (exec Tryz.prog (smC fun i => if i = 25 || i = 29 || i = 36 then some true else none) 60 0 smP (smM a m l i)).bind (fun r => (r.2.cut [0, 3, 4, 5] 1).map fun q => (r.1, q)) =
    some (.normal, { smM a (m + 1) (l ++ [a.getD i.toNat 0]) (J (i + 1)) with ob := andT (andT (andT (andT (andT true (decide (i < a.length))) (decide (i < 16))) (inB i a.length)) (decide (i.toNat < a.length))) (apO l.length m) }) := by kernel_rfl
theorem sm_p2 : (exec Tryz.prog (smC fun i => if i = 25 then some true else if i = 29 then some false else none) 60 0 smP (smM a m l i)).bind (fun r => (r.2.cut [0, 3, 4, 5] 1).map fun q => (r.1, q)) =
    some (.normal, { smM a m l (J (i + 1)) with ob := andT (andT true (decide (i < a.length))) (!decide (i < 16)) }) := by kernel_rfl
theorem sm_p3 : (exec Tryz.prog (smC fun i => if i = 25 then some false else none) 60 0 smP (smM a m l i)).bind (fun r => (r.2.cut [0, 3, 4, 5] 1).map fun q => (r.1, q)) =
    some (.exit 2, { smM a m l i with ob := andT true (!decide (i < a.length)) }) := by kernel_rfl
theorem sm_k : (execL Tryz.prog (smC fun i => if i = 43 then some true else none) 60 0 2 ((atoms smI).drop 4) (smM a m l i)).bind (St.cut [0, 3, 4, 6] 1) =
    some { smK a (m + 1) (l ++ [(a.getD 16 0).tmod 4]) with ob := andT (smO16 true a) (apO l.length m) } := by kernel_rfl
theorem sm_q1 : (exec Tryz.prog (smC fun i => if i = 47 || i = 59 || i = 72 then some true else none) 60 0 smQ (smN a m l n h i)).bind (fun r => (r.2.cut [0, 3, 4, 6] 2).map fun q => (r.1, q)) =
    some (.normal, { smN a m l (n + 1) (h ++ [J (J ((a.getD i.toNat 0).tdiv 4) + J ((a.getD (J (i + 1)).toNat 0).tmod 4 * 64))]) (J (i + 1)) with
      ob := andT (andT (andT (andT (dO true i a.length) (decide (J (i + 1) < a.length))) (inB (J (i + 1)) a.length)) (decide ((J (i + 1)).toNat < a.length))) (apO h.length n) }) := by kernel_rfl
theorem sm_q2 : (exec Tryz.prog (smC fun i => if i = 47 || i = 72 then some true else if i = 59 then some false else none) 60 0 smQ (smN a m l n h i)).bind (fun r => (r.2.cut [0, 3, 4, 6] 2).map fun q => (r.1, q)) =
    some (.normal, { smN a m l (n + 1) (h ++ [J ((a.getD i.toNat 0).tdiv 4)]) (J (i + 1)) with ob := andT (andT (dO true i a.length) (!decide (J (i + 1) < a.length))) (apO h.length n) }) := by kernel_rfl
theorem sm_q3 : (exec Tryz.prog (smC fun i => if i = 47 then some false else none) 60 0 smQ (smN a m l n h i)).bind (fun r => (r.2.cut [0, 3, 4, 6] 2).map fun q => (r.1, q)) =
    some (.exit 4, { smN a m l n h i with ob := andT true (!decide (i < a.length)) }) := by kernel_rfl
theorem sm_r : (exec Tryz.prog (smC sm1) 60 0 (nthC 7 smI) (smN a m l n h i)).bind (fun r => (r.2.cut [0] 0).map fun q => (r.1, q)) =
    some (.normal, { smT (tmL (plL l (tiL h [5]))) with ob := smF l h m n }) := by kernel_rfl
end
theorem sm16_true {ob : Bool} {a : List Int} (h1 : ob = true) (h : 16 < a.length) : smO16 ob a = true := by
  unfold smO16
  rw [h1, inB_true (by omega) (by omega), decide_eq_true h]; rfl
theorem sm_low {a : List Int} (ha : 16 < a.length) (hb : a.length < 100000) : Tr Tryz.prog none 0 (nthC 3 smI) (smM a 0 [] 0) .normal (smM a 16 (a.take 16) a.length) := by
  have key := Tr.loop (P := Tryz.prog) (ro := none) (k := 0) 2 (c := nthC 3 smI) (by kernel_rfl) (fun j : Nat => smM a (min j 16) (a.take (min j 16)) j) a.length (s' := smM a 16 (a.take 16) a.length) (fun j hj => ?_) ?_
  · exact key
  · show Tr _ _ _ smP _ _ _
    have hJ : J ((j : Int) + 1) = ((j + 1 : Nat) : Int) := by rw [J_eq (by omega) (by omega)]; rfl
    by_cases q : j < 16
    · have e := sm_p1 a (a.take j) j j
      have hl : (a.take j).length = j := by rw [List.length_take]; omega
      rw [hl, hJ, Int.toNat_natCast, ← take_succ' hj, apO_true (by omega), decide_eq_true (show (j : Int) < a.length by omega), decide_eq_true (show (j : Int) < 16 by omega), inB_true (by omega) (by omega), decide_eq_true hj] at e
      rw [Nat.min_eq_left (show j ≤ 16 by omega), Nat.min_eq_left (show j + 1 ≤ 16 by omega)]
      exact Tr.post (Tr.cut (smC_ok _) 60 _ 1 (by omega) e rfl) (Ent.same rfl rfl)
    · have e := sm_p2 a (a.take 16) 16 j
      rw [hJ, decide_eq_true (show (j : Int) < a.length by omega), decide_eq_false (show ¬ (j : Int) < 16 by omega)] at e
      rw [Nat.min_eq_right (show 16 ≤ j by omega), Nat.min_eq_right (show 16 ≤ j + 1 by omega)]
      exact Tr.post (Tr.cut (smC_ok _) 60 _ 1 (by omega) e rfl) (Ent.same rfl rfl)
  · show Tr _ _ _ smP _ _ _
    have e := sm_p3 a (a.take 16) 16 a.length
    rw [decide_eq_false (show ¬ (a.length : Int) < a.length by omega)] at e
    rw [Nat.min_eq_right (show 16 ≤ a.length by omega)]
    exact Tr.cut (smC_ok _) 60 _ 1 (by omega) e rfl
theorem sm_high {a l : List Int} {m : Nat} (d : Dg a) (ha : 16 < a.length) (hb : a.length < 100000) : Tr Tryz.prog none 0 (nthC 6 smI) (smN a m l 0 [] 16) .normal (smN a m l (a.length - 16) (hiL a) a.length) := by
  have key := Tr.loop (P := Tryz.prog) (ro := none) (k := 0) 4 (c := nthC 6 smI) (by kernel_rfl) (fun j : Nat => smN a m l j ((List.range j).map (hiF a)) ((16 + j : Nat) : Int)) (a.length - 16) (s' := smN a m l (a.length - 16) (hiL a) a.length) (fun j hj => ?_) ?_
  · exact key
  · show Tr _ _ _ smQ _ _ _
    have hJ : J (((16 + j : Nat) : Int) + 1) = ((16 + (j + 1) : Nat) : Int) := by rw [J_eq (by omega) (by omega)]; rfl
    have hl : ((List.range j).map (hiF a)).length = j := by simp
    have h1 := d.getD (16 + j)
    have h2 := d.getD (17 + j)
    have hr : (List.range (j + 1)).map (hiF a) = (List.range j).map (hiF a) ++ [hiF a j] := by rw [List.range_succ, List.map_append]; rfl
    rw [hr]
    by_cases q : 17 + j < a.length
    · have e := sm_q1 a l ((List.range j).map (hiF a)) m j ((16 + j : Nat) : Int)
      rw [hl, hJ, dO_true rfl (by omega), apO_true (by omega), inB_true (by omega) (by omega), decide_eq_true (show ((16 + (j + 1) : Nat) : Int) < a.length by omega), Int.toNat_natCast, Int.toNat_natCast, show 16 + (j + 1) = 17 + j by omega, tdiv_pos h1.1, tmod_pos h2.1, decide_eq_true q, J_eq (n := a.getD (16 + j) 0 / 4) (by omega) (by omega), J_eq (n := a.getD (17 + j) 0 % 4 * 64) (by omega) (by omega), J_eq (n := a.getD (16 + j) 0 / 4 + a.getD (17 + j) 0 % 4 * 64) (by omega) (by omega)] at e
      rw [show 16 + (j + 1) = 17 + j by omega]
      exact Tr.post (Tr.cut (smC_ok _) 60 _ 2 (by omega) e rfl) (Ent.same rfl rfl)
    · have e := sm_q2 a l ((List.range j).map (hiF a)) m j ((16 + j : Nat) : Int)
      have z := getD_out (l := a) (i := 17 + j) (by omega)
      have hf : hiF a j = a.getD (16 + j) 0 / 4 := by unfold hiF; rw [z]; rw [show (0 : Int) % 4 * 64 = 0 from rfl, Int.add_zero]
      rw [hl, hJ, dO_true rfl (by omega), apO_true (by omega), decide_eq_false (show ¬ ((16 + (j + 1) : Nat) : Int) < a.length by omega), Int.toNat_natCast, tdiv_pos h1.1, J_eq (n := a.getD (16 + j) 0 / 4) (by omega) (by omega)] at e
      rw [hf]
      exact Tr.post (Tr.cut (smC_ok _) 60 _ 2 (by omega) e rfl) (Ent.same rfl rfl)
  · show Tr _ _ _ smQ _ _ _
    have e := sm_q3 a l (hiL a) m (a.length - 16) a.length
    rw [decide_eq_false (show ¬ (a.length : Int) < a.length by omega)] at e
    rw [show 16 + (a.length - 16) = a.length by omega]
    exact Tr.cut (smC_ok _) 60 _ 2 (by omega) e rfl
theorem sm_round {a : List Int} (d : Dg a) (t : Tm a) (hg : big a = true) (hb : a.length < 100000) : Tr Tryz.prog none 0 smL (smT a) .normal (smT (smS a)) := by
  have h16 : 16 < a.length := by
    unfold big at hg
    simp only [Bool.or_eq_true, decide_eq_true_eq] at hg
    omega
  obtain ⟨l1, l2, _, _⟩ := lo_hi d h16
  have g16 := d.getD 16
  have hblk : nthC 2 smL = .block 1 smI := by kernel_rfl
  have hll : (loL a).length = 17 := by unfold loL; rw [List.length_append, List.length_take, Nat.min_eq_left (by omega)]; rfl
  have hhl : (hiL a).length = a.length - 16 := by simp [hiL]
  have htl : (tiL (hiL a) [5]).length = a.length - 16 + 1 + 1 := by rw [tiL_len l2 d5, hhl]; rfl
  have body : Tr Tryz.prog none 0 smI (smT a) .normal (smT (smS a)) := by
    refine Tr.of_atoms (TrL.items (smC_ok _) 60 3 _ 0 (by omega) (sm_i a) rfl (by decide) ?_)
    refine TrL.pre (s1 := smM a 0 [] 0) (TrL.item 3 (by decide) (sm_low h16 hb) ?_) ((Ent.nothing 3 .i64 false true rfl).trans (Ent.same rfl rfl)) (by decide)
    have k := sm_k a (a.take 16) 16 a.length
    rw [sm16_true rfl h16, List.length_take, Nat.min_eq_left (by omega), apO_true (by omega), tmod_pos g16.1] at k
    refine TrL.items (smC_ok _) 60 2 _ 1 (by omega) k rfl (by decide) ?_
    rw [List.drop_drop]
    refine TrL.pre (s1 := smN a 17 (loL a) 0 [] 16) (TrL.item 6 (by decide) (sm_high d h16 hb) ?_) ((Ent.nothing 4 .i64 false true rfl).trans (Ent.same rfl rfl)) (by decide)
    have r := sm_r a (loL a) (hiL a) 17 (a.length - 16) a.length
    have ho : smF (loL a) (hiL a) 17 (a.length - 16) = true := by
      unfold smF
      rw [hll, hhl, dgB_iff.2 l1, dgB_iff.2 l2, dgB_iff.2 (tiL_ok l2 d5).1, htl, plL_len]
      have := plM_le (loL a) (tiL (hiL a) [5])
      have hpm : plM (loL a) (tiL (hiL a) [5]) = max 17 (a.length - 16 + 1 + 1) := by unfold plM; rw [hll, htl]
      simp [andT_iff]
      omega
    rw [ho] at r
    exact TrL.item 7 (by decide) (s1 := smT (smS a)) (Tr.cut (smC_ok _) 60 _ 0 (by omega) r rfl) ⟨rfl, rfl⟩
  have e : TrL Tryz.prog none 0 ((atoms smL).drop 2) (smT a) .normal (smT (smS a)) := by
    refine TrL.item 2 (by decide) (s1 := smT (smS a)) ?_ ⟨rfl, rfl⟩
    rw [hblk]
    exact Tr.block_pass body (by simp)
  by_cases q : 17 < a.length
  · have i1 := sm_in1 a
    rw [decide_eq_true (show (a.length : Int) > 17 by omega)] at i1
    exact Tr.of_atoms (TrL.items (smC_ok _) 60 2 _ 0 (by omega) i1 rfl (by decide) e)
  · have h17 : a.length = 17 ∧ 3 < a.getD 16 0 := by
      unfold big at hg
      simp only [Bool.or_eq_true, decide_eq_true_eq] at hg
      omega
    have i2 := sm_in2 a
    rw [decide_eq_true (show a.getD 16 0 > 3 from h17.2), sm16_true (by rw [h17.1]; rfl) h16] at i2
    exact Tr.of_atoms (TrL.items (smC_ok _) 60 2 _ 0 (by omega) i2 rfl (by decide) e)
theorem sm_rounds : ∀ (v : Nat) {a : List Int}, nv a = v → Dg a → Tm a → a.length < 100000 → TrR Tryz.prog none 0 smL (smT a) (.exit 0) (smT (dgt (smV v : Nat))) := fun v => by
  induction v using Nat.strongRecOn with
  | ind v ih =>
    intro a hv d t hb
    cases hg : big a with
    | true =>
      have hbig := (big_iff d t).1 hg
      have h16 : 16 < a.length := by
        unfold big at hg
        simp only [Bool.or_eq_true, decide_eq_true_eq] at hg
        omega
      obtain ⟨s1, s2, s3⟩ := smS_ok d h16
      have hs : nv (smS a) = ((v % 1361129467683753853853498429727072845824 + 5 * (v / 1361129467683753853853498429727072845824) : Nat) : Int) := by rw [s3, hv]; omega
      have hlt : v % 1361129467683753853853498429727072845824 + 5 * (v / 1361129467683753853853498429727072845824) < v := by omega
      rw [smV, dif_neg (by omega)]
      exact TrR.step (sm_round d t hg hb) (ih _ hlt hs s1 s2 (by have := Tm_len d s1 s2 (by omega); omega))
    | false =>
      have hbig : ¬ 1361129467683753853853498429727072845824 ≤ nv a := fun q => by
        have := (big_iff d t).2 q
        rw [hg] at this
        cases this
      rw [smV, dif_pos (by omega), ← hv, dgt_of d t]
      unfold big at hg
      rw [Bool.or_eq_false_iff, decide_eq_false_iff_not, decide_eq_false_iff_not] at hg
      by_cases q : a.length = 17
      · have e := sm_out4 a
        rw [decide_eq_false (show ¬ a.getD 16 0 > 3 by omega), sm16_true (by rw [q]; rfl) (by omega)] at e
        exact TrR.leave (Tr.cut (k := 0) (smC_ok _) 60 _ 0 (Nat.le_refl _) e rfl) (by simp)
      · have e := sm_out3 a
        rw [decide_eq_false (show ¬ (a.length : Int) > 17 by omega), beq_false_of_ne (show (a.length : Int) ≠ 17 by omega)] at e
        exact TrR.leave (Tr.cut (k := 0) (smC_ok _) 60 _ 0 (Nat.le_refl _) e rfl) (by simp)
noncomputable def smW (a : List Int) : List Int := dgt (smV (nv a).toNat : Nat)
theorem small_fn {a : List Int} (d : Dg a) (t : Tm a) (hb : a.length < 100000) : FnTr Tryz.prog 156 [.ro false .i64 a] [] (.ro false .i64 (smW a)) [] := by
  have h0 := nv_nonneg d
  refine FnTr.restM (smC_ok sm1) 60 2 0 Tryz.func156 (by simp) rfl (fun s' x h => ?_) (s := smT (smW a)) (p := true) (by kernel_rfl) rfl rfl rfl
  refine TrL.items (smC_ok sm1) 60 1 _ 0 (by simp) (sm_head a) rfl (by decide) ?_
  exact TrL.item 1 (by decide) (Tr.loopR 0 (by kernel_rfl) (sm_rounds (nv a).toNat (by omega) d t hb)) h
noncomputable def tmB' (a : List Int) : Bool := @decide (Tm a) (Classical.propDecidable _)
noncomputable def smallF : List SV → Option (SV × List Blk × Bool)
  | [.ro false .i64 a] => some (.ro false .i64 (smW a), [], dgB a && tmB' a && decide (a.length < 100000))
  | _ => none
noncomputable def smallE : Entry Tryz.prog := .val 156 _ Tryz.func156 (by decide) rfl false 0 smallF fun vs v new e => by
  unfold smallF at e
  split at e
  · simp only [Option.some.injEq, Prod.mk.injEq, Bool.and_eq_true, decide_eq_true_eq, dgB_iff] at e
    obtain ⟨rfl, rfl, ⟨h1, h2⟩, h3⟩ := e
    exact small_fn h1 (@of_decide_eq_true _ (Classical.propDecidable _) h2) h3
  · cases e
end Go.Proofs.YtibfpjeeanppjaaGreat.R4
end
