/- This file holds the texts R4E, R4F, a section each. No conditions beyond those in the theorems. -/
import Derived.Test.YtibfpjeeanppjaaGreatXR4D
set_option linter.all false
set_option maxRecDepth 100000
section
namespace Go.Proofs.YtibfpjeeanppjaaGreat.R4
open Go Go.Sy Sh
noncomputable def YO : Code := aE Tryz.f158
noncomputable def Zk : Code := inner (inner (az 3 YO))
noncomputable def tiI : Code := inner (az 2 Zk)
noncomputable def tiQ : Code := inner (inner (az 2 tiI))
noncomputable def wY (a b : List Int) (m : Nat) (o : List Int) (i : Int) : St := ⟨slotsOf 66 [(0, .ro false .i64 a), (1, .ro false .i64 b), (5, .sl 0 0 0 1 m m true true), (6, .int .i64 i)], [.b [.ints .i64 m o]], true⟩
noncomputable def HZ (a b : List Int) (m : Nat) (o : List Int) (i c j : Int) : St := ⟨slotsOf 66 [(0, .ro false .i64 a), (1, .ro false .i64 b), (5, .sl 0 0 0 1 m m true true), (6, .int .i64 i), (7, .int .i64 c), (8, .int .i64 j)], [.b [.ints .i64 m o]], true⟩
def tiA (b : Bool) : Nat → Option Bool := fun i => if i = 20 then some b else none
def tjA : Nat → Option Bool := fun i => if i = 26 || i = 44 then some true else none
def tjD : Nat → Option Bool := fun i => if i = 29 then some true else if i = 26 || i = 44 then some false else none
def tjE : Nat → Option Bool := fun i => if i = 26 || i = 29 then some false else none
def Zl (ob : Bool) (i j : Int) (m : Nat) : Bool := aa (aa ob (cN (J (i + j)) m)) (decide (0 + (J (i + j)).toNat < m))
def Zm (ob : Bool) (i j : Int) (o : List Int) (m : Nat) : Bool := aa (aa ob (cN (J (i + j)) m)) (decide (0 + (J (i + j)).toNat < m) && decide (o.length = m))
def xq (a b : List Int) : Int := J (J ((a.length : Int) + b.length) + 1)
def UE (n : Int) : Bool := aa true (J n == n && J n == n && (decide (0 ≤ n) && decide (n ≤ n) && decide ((8 : Int) * n ≤ 281474976710656)))
section
variable (a b o : List Int) (m : Nat) (i c j : Int)
theorem yf : (aT Tryz.prog (wW fun _ => none) 60 0 3 (atoms YO) ⟨aO Tryz.f158.ntmps [.ro false .i64 a, .ro false .i64 b], [], true⟩).bind (St.cut [0, 1, 5, 6] 1) = some { wY a b (xq a b).toNat (List.replicate (xq a b).toNat 0) 0 with ob := UE (xq a b) } := by kernel_rfl
theorem ahv : (aT Tryz.prog (wW (tiA true)) 60 0 2 (atoms Zk) (wY a b m o i)).bind (St.cut [0, 1, 5, 6] 1) = some { wY a b m o i with ob := aa true (decide (i < a.length)) } := by kernel_rfl
theorem ahw : (aT Tryz.prog (wW fun _ => none) 60 0 2 (atoms tiI) (wY a b m o i)).bind (St.cut [0, 1, 5, 6, 7, 8] 1) = some (HZ a b m o i 0 0) := by kernel_rfl
theorem ahx : (exec Tryz.prog (wW fun _ => none) 60 0 (az 3 Zk) (wY a b m o i)).bind (fun r => (r.2.cut [0, 1, 5, 6] 1).map fun q => (r.1, q)) = some (.normal, wY a b m o (J (i + 1))) := by kernel_rfl
theorem XS : (exec Tryz.prog (wW (tiA false)) 60 0 Zk (wY a b m o i)).bind (fun r => (r.2.cut [0, 1, 5, 6] 1).map fun q => (r.1, q)) = some (.exit 0, { wY a b m o i with ob := aa true (!decide (i < a.length)) }) := by kernel_rfl
theorem ahy : (exec Tryz.prog (wW tjA) 60 0 tiQ (HZ a b m o i c j)).bind (fun r => (r.2.cut [0, 1, 5, 6, 7, 8] 1).map fun q => (r.1, q)) =
    some (.normal, { HZ a b m (o.set (0 + (J (i + j)).toNat) ((J (J (o.getD (0 + (J (i + j)).toNat) 0 + c) + J (a.getD i.toNat 0 * b.getD j.toNat 0))).tmod 256)) i (J ((J (J (o.getD (0 + (J (i + j)).toNat) 0 + c) + J (a.getD i.toNat 0 * b.getD j.toNat 0))).tdiv 256)) (J (j + 1)) with
      ob := Zm (aa (aa (aa (aa (aa (Zl (aa true (decide (j < b.length))) i j m) (decide (j < b.length))) (cN i a.length)) (decide (i.toNat < a.length))) (cN j b.length)) (decide (j.toNat < b.length))) i j o m }) := by kernel_rfl
theorem ahz : (exec Tryz.prog (wW tjD) 60 0 tiQ (HZ a b m o i c j)).bind (fun r => (r.2.cut [0, 1, 5, 6, 7, 8] 1).map fun q => (r.1, q)) =
    some (.normal, { HZ a b m (o.set (0 + (J (i + j)).toNat) ((J (o.getD (0 + (J (i + j)).toNat) 0 + c)).tmod 256)) i (J ((J (o.getD (0 + (J (i + j)).toNat) 0 + c)).tdiv 256)) (J (j + 1)) with
      ob := Zm (aa (Zl (aa (aa true (!decide (j < b.length))) (decide (c > 0))) i j m) (!decide (j < b.length))) i j o m }) := by kernel_rfl
theorem XT : (exec Tryz.prog (wW tjE) 60 0 tiQ (HZ a b m o i c j)).bind (fun r => (r.2.cut [0, 1, 5, 6, 7, 8] 1).map fun q => (r.1, q)) =
    some (.exit 2, { HZ a b m o i c j with ob := aa (aa true (!decide (j < b.length))) (!decide (c > 0)) }) := by kernel_rfl
end
theorem Gp {ob : Bool} {i j : Nat} {m : Nat} (h1 : ob = true) (h : i + j < m) (hm : m < 10000000) : Zl ob i j m = true := by
  unfold Zl
  rw [h1, dY (by omega) (by omega), aM (by omega) (by omega), decide_eq_true (show 0 + (((i : Int) + j)).toNat < m by omega)]; rfl
theorem Gq {ob : Bool} {i j : Nat} {m : Nat} {o : List Int} (h1 : ob = true) (h : i + j < m) (hm : m < 10000000) (ho : o.length = m) : Zm ob i j o m = true := by
  unfold Zm
  rw [h1, dY (by omega) (by omega), aM (by omega) (by omega), decide_eq_true (show 0 + (((i : Int) + j)).toNat < m by omega), decide_eq_true ho]; rfl
theorem H6 {a b o : List Int} (da : Dg a) (db : Dg b) (d : Dg o) (ho : o.length = a.length + b.length + 1) (ha : a.length < 1000000) (hb : b.length < 1000000) {i : Nat} (hi : i < a.length) (h0 : (tR (a.getD i 0) b i o (qY (a.getD i 0) b i o)).2 = 0) :
    Tr Tryz.prog none 0 (az 2 tiI) (HZ a b o.length o i 0 0) .normal (HZ a b o.length (tR (a.getD i 0) b i o (qY (a.getD i 0) b i o)).1 i (tR (a.getD i 0) b i o (qY (a.getD i 0) b i o)).2 (qY (a.getD i 0) b i o : Nat)) := by
  have hn := MU (a.getD i 0) b i o
  have hx := da.getD i
  have key := Tr.loop (P := Tryz.prog) (ro := none) (k := 0) 2 (c := az 2 tiI) (by kernel_rfl) (fun j : Nat => HZ a b o.length (tR (a.getD i 0) b i o j).1 i (tR (a.getD i 0) b i o j).2 j) (qY (a.getD i 0) b i o)
    (s' := HZ a b o.length (tR (a.getD i 0) b i o (qY (a.getD i 0) b i o)).1 i (tR (a.getD i 0) b i o (qY (a.getD i 0) b i o)).2 (qY (a.getD i 0) b i o : Nat)) (fun j hj => ?_) ?_
  · exact key
  · obtain ⟨t1, t2, t3, t4, _⟩ := MT hx db d (show i + b.length < o.length by omega) j (by omega)
    have hs : (tR (a.getD i 0) b i o (j + 1)) = tS (a.getD i 0) b i j (tR (a.getD i 0) b i o j) := rfl
    have hq : ∀ q, qY (a.getD i 0) b i o = q → j < q := fun q e => e ▸ hj
    show Tr _ _ _ _ (HZ a b o.length (tR (a.getD i 0) b i o j).1 i (tR (a.getD i 0) b i o j).2 j) _ (HZ a b o.length (tR (a.getD i 0) b i o (j + 1)).1 i (tR (a.getD i 0) b i o (j + 1)).2 ((j + 1 : Nat) : Int))
    have hc : ¬ j < b.length → j = b.length ∧ 0 < (tR (a.getD i 0) b i o b.length).2 := fun h => by
      unfold qY at hj
      split at hj
      · rename_i q; exact ⟨by omega, q⟩
      · omega
    rw [hs]
    by_cases ib : j < b.length
    · generalize tR (a.getD i 0) b i o j = s at *
      obtain ⟨l, c⟩ := s
      simp only at t1 t2 t3 t4
      have hy := db.getD j
      have p0 : 0 ≤ a.getD i 0 * b.getD j 0 := Int.mul_nonneg hx.1 hy.1
      have p1 : a.getD i 0 * b.getD j 0 ≤ 255 * 255 := Int.mul_le_mul (by omega) (by omega) hy.1 (by decide)
      have hg := t2.getD (i + j)
      have e := ahy a b l o.length i c j
      have hO : Zm (aa (aa (aa (aa (aa (Zl (aa true (decide ((j : Int) < b.length))) i j o.length) (decide ((j : Int) < b.length))) (cN (i : Int) a.length)) (decide ((i : Int).toNat < a.length))) (cN (j : Int) b.length)) (decide ((j : Int).toNat < b.length))) i j l o.length = true := by
        refine Gq ?_ (by omega) (by omega) t1
        rw [Gp (by rw [decide_eq_true (show (j : Int) < b.length by omega)]; rfl) (by omega) (by omega), decide_eq_true (show (j : Int) < b.length by omega), aM (by omega) (by omega), aM (by omega) (by omega), decide_eq_true (show (i : Int).toNat < a.length by omega), decide_eq_true (show (j : Int).toNat < b.length by omega)]; rfl
      rw [hO] at e
      rw [Int.toNat_natCast, Int.toNat_natCast, dY (n := (i : Int) + j) (by omega) (by omega), show 0 + ((i : Int) + j).toNat = i + j by omega, dY (n := a.getD i 0 * b.getD j 0) (by omega) (by omega), dY (n := l.getD (i + j) 0 + c) (by omega) (by omega), dY (n := l.getD (i + j) 0 + c + a.getD i 0 * b.getD j 0) (by omega) (by omega), cU (by omega), ei (by omega), dY (n := (l.getD (i + j) 0 + c + a.getD i 0 * b.getD j 0) / 256) (by omega) (by omega), dY (n := (j : Int) + 1) (by omega) (by omega)] at e
      exact Tr.post (Tr.cut (cH _) 60 _ 1 (by omega) e rfl) (bh.same rfl rfl)
    · obtain ⟨hjb, hpos⟩ := hc ib
      rw [← hjb] at hpos
      generalize tR (a.getD i 0) b i o j = s at *
      obtain ⟨l, c⟩ := s
      simp only at t1 t2 t3 t4 hpos
      have hg := t2.getD (i + j)
      have hz := kU (l := b) (i := j) (by omega)
      have e := ahz a b l o.length i c j
      have hO : Zm (aa (Zl (aa (aa true (!decide ((j : Int) < b.length))) (decide (c > 0))) i j o.length) (!decide ((j : Int) < b.length))) i j l o.length = true := by
        refine Gq ?_ (by omega) (by omega) t1
        rw [decide_eq_false (show ¬ (j : Int) < b.length by omega), decide_eq_true (show c > 0 by omega), Gp (ob := aa (aa true (!false)) true) rfl (by omega) (by omega)]; rfl
      rw [hO] at e
      rw [dY (n := (i : Int) + j) (by omega) (by omega), show 0 + ((i : Int) + j).toNat = i + j by omega, dY (n := l.getD (i + j) 0 + c) (by omega) (by omega), cU (by omega), ei (by omega), dY (n := (l.getD (i + j) 0 + c) / 256) (by omega) (by omega), dY (n := (j : Int) + 1) (by omega) (by omega)] at e
      have e2 : tS (a.getD i 0) b i j (l, c) = (l.set (i + j) ((l.getD (i + j) 0 + c) % 256), (l.getD (i + j) 0 + c) / 256) := by unfold tS; simp only [hz, Int.mul_zero, Int.add_zero]
      rw [e2]
      exact Tr.post (Tr.cut (cH _) 60 _ 1 (by omega) e rfl) (bh.same rfl rfl)
  · have e := XT a b (tR (a.getD i 0) b i o (qY (a.getD i 0) b i o)).1 o.length i (tR (a.getD i 0) b i o (qY (a.getD i 0) b i o)).2 (qY (a.getD i 0) b i o : Nat)
    rw [decide_eq_false (show ¬ ((qY (a.getD i 0) b i o : Nat) : Int) < b.length by omega), decide_eq_false (show ¬ (tR (a.getD i 0) b i o (qY (a.getD i 0) b i o)).2 > 0 by omega)] at e
    exact Tr.cut (cH _) 60 _ 1 (by omega) e rfl
theorem Eb {a b : List Int} (da : Dg a) (db : Dg b) (ha : a.length < 1000000) (hb : b.length < 1000000) {i : Nat} (hi : i < a.length) :
    Tr Tryz.prog none 0 Zk (wY a b (a.length + b.length + 1) (tO a b i) i) .normal (wY a b (a.length + b.length + 1) (tO a b (i + 1)) ((i + 1 : Nat) : Int)) := by
  obtain ⟨h1, h2, h3⟩ := Gh da db i (by omega)
  obtain ⟨_, _, h0, _⟩ := MV da db hi h1 h2 h3
  have hrow := H6 da db h2 h1 ha hb hi h0
  rw [h1] at hrow
  have e := ahv a b (tO a b i) (a.length + b.length + 1) i
  rw [decide_eq_true (show (i : Int) < a.length by omega)] at e
  have z := ahx a b (tO a b (i + 1)) (a.length + b.length + 1) i
  rw [dY (n := (i : Int) + 1) (by omega) (by omega)] at z
  have H7 : az 2 Zk = .block 1 tiI := by kernel_rfl
  refine Tr.ee (aY.items (cH _) 60 2 _ 1 (by omega) e rfl (by decide) ?_)
  refine aY.item 2 (by decide) (s1 := wY a b (a.length + b.length + 1) (tO a b (i + 1)) i) ?_ (aY.item 3 (by decide) (s1 := wY a b (a.length + b.length + 1) (tO a b (i + 1)) ((i + 1 : Nat) : Int)) (Tr.cut (cH _) 60 _ 1 (by omega) z rfl) ⟨rfl, rfl⟩)
  rw [H7]
  refine Tr.fE ?_ (by simp)
  refine Tr.ee (aY.items (cH _) 60 2 _ 1 (by omega) (ahw a b (tO a b i) (a.length + b.length + 1) i) rfl (by decide) ?_)
  refine aY.item 2 (by decide) (s1 := wY a b (a.length + b.length + 1) (tO a b (i + 1)) i) (Tr.post hrow ?_) ⟨rfl, rfl⟩
  exact bh.cut (n := 1) (live := [0, 1, 5, 6]) (by omega) (by kernel_rfl)
theorem uz {a b : List Int} (da : Dg a) (db : Dg b) (ha : a.length < 1000000) (hb : b.length < 1000000) :
    ai Tryz.prog 158 [.ro false .i64 a, .ro false .i64 b] [] (.sl 0 0 0 1 (a.length + b.length + 1) (a.length + b.length + 1) true true) [.b [.ints .i64 (a.length + b.length + 1) (tj a b)]] := by
  have hM : xq a b = ((a.length + b.length + 1 : Nat) : Int) := by unfold xq; rw [dY (n := (a.length : Int) + b.length) (by omega) (by omega), dY (by omega) (by omega)]; omega
  have hh := yf a b
  have ho : UE (xq a b) = true := by
    unfold UE
    rw [hM, dY (by omega) (by omega), beq_self_eq_true, decide_eq_true (show (0 : Int) ≤ ((a.length + b.length + 1 : Nat) : Int) by omega), decide_eq_true (Int.le_refl _), decide_eq_true (show (8 : Int) * ((a.length + b.length + 1 : Nat) : Int) ≤ 281474976710656 by omega)]; rfl
  rw [ho, hM, Int.toNat_natCast] at hh
  have bS : Tr Tryz.prog none 0 (az 3 YO) (wY a b (a.length + b.length + 1) (tO a b 0) 0) .normal (wY a b (a.length + b.length + 1) (tj a b) a.length) := by
    have key := Tr.loop (P := Tryz.prog) (ro := none) (k := 0) 0 (c := az 3 YO) (by kernel_rfl) (fun i : Nat => wY a b (a.length + b.length + 1) (tO a b i) i) a.length (s' := wY a b (a.length + b.length + 1) (tj a b) a.length) (fun i hi => Eb da db ha hb hi) ?_
    · exact key
    · have e := XS a b (tO a b a.length) (a.length + b.length + 1) a.length
      rw [decide_eq_false (show ¬ ((a.length : Int) < a.length) by omega)] at e
      exact Tr.cut (cH _) 60 _ 1 (by omega) e rfl
  refine ai.cz (cH fun _ => none) 60 4 1 Tryz.func158 (by simp) rfl (fun s' x h => ?_) (s := wY a b (a.length + b.length + 1) (tj a b) a.length) (p := true) (by kernel_rfl) rfl rfl rfl
  exact aY.items (cH fun _ => none) 60 3 _ 1 (by simp) hh rfl (by decide) (aY.item 3 (by decide) bS h)
def uD : List SV → Option (SV × List Blk × Bool)
  | [.ro false .i64 a, .ro false .i64 b] => some (.ro true .i64 (tj a b), [], dL a && dL b && decide (a.length < 1000000) && decide (b.length < 1000000))
  | _ => none
noncomputable def yg : Entry Tryz.prog := .val 158 _ Tryz.func158 (by decide) rfl true 0 uD fun vs v new e => by
  unfold uD at e
  split at e
  · rename_i a b
    simp only [Option.some.injEq, Prod.mk.injEq, Bool.and_eq_true, decide_eq_true_eq, aV] at e
    obtain ⟨rfl, rfl, ⟨⟨h1, h2⟩, h3⟩, h4⟩ := e
    exact ai.frozen (N := a.length + b.length + 1) (ex := true) (wh := true) (uz h1 h2 h3 h4) (zW h1 h2)
  · cases e
end Go.Proofs.YtibfpjeeanppjaaGreat.R4
end
section
namespace Go.Proofs.YtibfpjeeanppjaaGreat.R4
open Go Go.Sy Sh
theorem Ec : ∀ {l : List Int}, Dg l → Tm l → l ≠ [] → (256 : Int) ^ (l.length - 1) ≤ nv l
  | [], _, _, h => absurd rfl h
  | [x], d, t, _ => by
    have := (Dg.cons.1 d).1
    have : x ≠ 0 := t
    simp only [List.length_cons, List.length_nil, nv]
    omega
  | x :: y :: l, d, t, _ => by
    have ih := Ec (l := y :: l) (Dg.cons.1 d).2 t (by simp)
    have hx := (Dg.cons.1 d).1
    rw [nv]
    simp only [List.length_cons, Nat.add_sub_cancel] at ih ⊢
    rw [Int.pow_succ]
    omega
theorem XU {a b : List Int} (da : Dg a) (db : Dg b) (t : Tm b) (h : nv b ≤ nv a) : b.length ≤ a.length := by
  by_cases q : b = []
  · rw [q]; simp
  · have h1 := Ec db t q
    have h2 := wz da
    apply Classical.byContradiction
    intro hn
    have := kT (show a.length ≤ b.length - 1 by omega)
    omega
noncomputable def smB : Code := aE Tryz.f156
noncomputable def RI : Code := inner (inner (az 1 smB))
noncomputable def M6 : Code := inner (az 2 RI)
noncomputable def smP : Code := inner (inner (az 3 M6))
noncomputable def Ao : Code := inner (inner (az 6 M6))
noncomputable def xm (f : Nat → Option Bool) : br := mk (P := Tryz.prog) [M4, yg, Uj] [] f
theorem dz (f : Nat → Option Bool) : ag Tryz.prog (xm f) := ah _ aq.nil _ _
noncomputable def wX (a : List Int) : St := ⟨slotsOf 80 [(0, .ro false .i64 a)], [], true⟩
noncomputable def ID (a : List Int) (m : Nat) (l : List Int) (i : Int) : St := ⟨slotsOf 80 [(0, .ro false .i64 a), (3, .sl 0 0 0 1 m m false true), (4, .nl (.slice none 0 0)), (5, .int .i64 i)], [.b [.ints .i64 m l]], true⟩
noncomputable def ahA (a : List Int) : St := ⟨slotsOf 80 [(0, .ro false .i64 a), (3, .nl (.slice none 0 0)), (4, .nl (.slice none 0 0)), (5, .int .i64 0)], [], true⟩
noncomputable def smK (a : List Int) (m : Nat) (l : List Int) : St := ⟨slotsOf 80 [(0, .ro false .i64 a), (3, .sl 0 0 0 1 m m false true), (4, .nl (.slice none 0 0)), (6, .int .i64 16)], [.b [.ints .i64 m l]], true⟩
noncomputable def IE (a : List Int) (m : Nat) (l : List Int) (n : Nat) (h : List Int) (i : Int) : St := ⟨slotsOf 80 [(0, .ro false .i64 a), (3, .sl 0 0 0 1 m m false true), (4, .sl 1 0 0 1 n n false true), (6, .int .i64 i)], [.b [.ints .i64 m l], .b [.ints .i64 n h]], true⟩
def HS : Nat → Option Bool := fun i => if i = 10 then some true else none
def T9 : Nat → Option Bool := fun i => if i = 10 then some false else if i = 14 || i = 19 then some true else none
def sm3 : Nat → Option Bool := fun i => if i = 10 || i = 14 then some false else none
def sm4 : Nat → Option Bool := fun i => if i = 10 || i = 19 then some false else if i = 14 then some true else none
def Ce (ob : Bool) (a : List Int) : Bool := aa (aa ob (cN 16 a.length)) (decide (16 < a.length))
def AP (l h : List Int) (m n : Nat) : Bool := aa (aa (aa true (aa (aa (decide (h.length = n) && (decide (n ≤ n) && true)) (decide (h.length = n))) (dL h && true && decide (h.length < 1000000) && true)))
  (aa (aa (decide (l.length = m) && (decide (m ≤ m) && true)) (decide (l.length = m))) (dL l && dL (tj h [5]) && decide (l.length < 1000000) && decide ((tj h [5]).length < 1000000)))) (aa true (decide ((iN l (tj h [5])).length < 1000000)))
section
variable (a l h : List Int) (m n : Nat) (i : Int)
theorem zB : (aT Tryz.prog (xm HS) 60 0 1 (atoms smB) ⟨aO Tryz.f156.ntmps [.ro false .i64 a], [], true⟩).bind (St.cut [0] 0) = some (wX a) := by kernel_rfl
theorem XV : (aT Tryz.prog (xm HS) 60 0 2 (atoms RI) (wX a)).bind (St.cut [0] 0) = some { wX a with ob := aa true (decide ((a.length : Int) > 17)) } := by kernel_rfl
theorem XW : (aT Tryz.prog (xm T9) 60 0 2 (atoms RI) (wX a)).bind (St.cut [0] 0) = some { wX a with ob := aa (Ce (aa (aa true (!decide ((a.length : Int) > 17))) ((a.length : Int) == 17)) a) (decide (a.getD 16 0 > 3)) } := by kernel_rfl
theorem RJ : (exec Tryz.prog (xm sm3) 60 0 RI (wX a)).bind (fun r => (r.2.cut [0] 0).map fun q => (r.1, q)) = some (.exit 0, { wX a with ob := aa (aa true (!decide ((a.length : Int) > 17))) (!((a.length : Int) == 17)) }) := by kernel_rfl
theorem RK : (exec Tryz.prog (xm sm4) 60 0 RI (wX a)).bind (fun r => (r.2.cut [0] 0).map fun q => (r.1, q)) = some (.exit 0, { wX a with ob := aa (Ce (aa (aa true (!decide ((a.length : Int) > 17))) ((a.length : Int) == 17)) a) (!decide (a.getD 16 0 > 3)) }) := by kernel_rfl
theorem ahB : (aT Tryz.prog (xm HS) 60 0 3 (atoms M6) (wX a)).bind (St.cut [0, 3, 4, 5] 0) = some (ahA a) := by kernel_rfl
theorem adg : (exec Tryz.prog (xm fun i => if i = 25 || i = 29 || i = 36 then some true else none) 60 0 smP (ID a m l i)).bind (fun r => (r.2.cut [0, 3, 4, 5] 1).map fun q => (r.1, q)) =
    some (.normal, { ID a (m + 1) (l ++ [a.getD i.toNat 0]) (J (i + 1)) with ob := aa (aa (aa (aa (aa true (decide (i < a.length))) (decide (i < 16))) (cN i a.length)) (decide (i.toNat < a.length))) (tD l.length m) }) := by kernel_rfl
theorem adh : (exec Tryz.prog (xm fun i => if i = 25 then some true else if i = 29 then some false else none) 60 0 smP (ID a m l i)).bind (fun r => (r.2.cut [0, 3, 4, 5] 1).map fun q => (r.1, q)) =
    some (.normal, { ID a m l (J (i + 1)) with ob := aa (aa true (decide (i < a.length))) (!decide (i < 16)) }) := by kernel_rfl
theorem adi : (exec Tryz.prog (xm fun i => if i = 25 then some false else none) 60 0 smP (ID a m l i)).bind (fun r => (r.2.cut [0, 3, 4, 5] 1).map fun q => (r.1, q)) =
    some (.exit 2, { ID a m l i with ob := aa true (!decide (i < a.length)) }) := by kernel_rfl
theorem ahC : (aT Tryz.prog (xm fun i => if i = 43 then some true else none) 60 0 2 ((atoms M6).drop 4) (ID a m l i)).bind (St.cut [0, 3, 4, 6] 1) =
    some { smK a (m + 1) (l ++ [(a.getD 16 0).tmod 4]) with ob := aa (Ce true a) (tD l.length m) } := by kernel_rfl
theorem adj : (exec Tryz.prog (xm fun i => if i = 47 || i = 59 || i = 72 then some true else none) 60 0 Ao (IE a m l n h i)).bind (fun r => (r.2.cut [0, 3, 4, 6] 2).map fun q => (r.1, q)) =
    some (.normal, { IE a m l (n + 1) (h ++ [J (J ((a.getD i.toNat 0).tdiv 4) + J ((a.getD (J (i + 1)).toNat 0).tmod 4 * 64))]) (J (i + 1)) with
      ob := aa (aa (aa (aa (dO true i a.length) (decide (J (i + 1) < a.length))) (cN (J (i + 1)) a.length)) (decide ((J (i + 1)).toNat < a.length))) (tD h.length n) }) := by kernel_rfl
theorem adk : (exec Tryz.prog (xm fun i => if i = 47 || i = 72 then some true else if i = 59 then some false else none) 60 0 Ao (IE a m l n h i)).bind (fun r => (r.2.cut [0, 3, 4, 6] 2).map fun q => (r.1, q)) =
    some (.normal, { IE a m l (n + 1) (h ++ [J ((a.getD i.toNat 0).tdiv 4)]) (J (i + 1)) with ob := aa (aa (dO true i a.length) (!decide (J (i + 1) < a.length))) (tD h.length n) }) := by kernel_rfl
theorem adl : (exec Tryz.prog (xm fun i => if i = 47 then some false else none) 60 0 Ao (IE a m l n h i)).bind (fun r => (r.2.cut [0, 3, 4, 6] 2).map fun q => (r.1, q)) =
    some (.exit 4, { IE a m l n h i with ob := aa true (!decide (i < a.length)) }) := by kernel_rfl
theorem ahD : (exec Tryz.prog (xm HS) 60 0 (az 7 M6) (IE a m l n h i)).bind (fun r => (r.2.cut [0] 0).map fun q => (r.1, q)) =
    some (.normal, { wX (mH (iN l (tj h [5]))) with ob := AP l h m n }) := by kernel_rfl
end
theorem sw {ob : Bool} {a : List Int} (h1 : ob = true) (h : 16 < a.length) : Ce ob a = true := by
  unfold Ce
  rw [h1, aM (by omega) (by omega), decide_eq_true h]; rfl
theorem XX {a : List Int} (ha : 16 < a.length) (hb : a.length < 100000) : Tr Tryz.prog none 0 (az 3 M6) (ID a 0 [] 0) .normal (ID a 16 (a.take 16) a.length) := by
  have key := Tr.loop (P := Tryz.prog) (ro := none) (k := 0) 2 (c := az 3 M6) (by kernel_rfl) (fun j : Nat => ID a (min j 16) (a.take (min j 16)) j) a.length (s' := ID a 16 (a.take 16) a.length) (fun j hj => ?_) ?_
  · exact key
  · show Tr _ _ _ smP _ _ _
    have hJ : J ((j : Int) + 1) = ((j + 1 : Nat) : Int) := by rw [dY (by omega) (by omega)]; rfl
    by_cases q : j < 16
    · have e := adg a (a.take j) j j
      have hl : (a.take j).length = j := by rw [List.length_take]; omega
      rw [hl, hJ, Int.toNat_natCast, ← wH hj, cA (by omega), decide_eq_true (show (j : Int) < a.length by omega), decide_eq_true (show (j : Int) < 16 by omega), aM (by omega) (by omega), decide_eq_true hj] at e
      rw [Nat.min_eq_left (show j ≤ 16 by omega), Nat.min_eq_left (show j + 1 ≤ 16 by omega)]
      exact Tr.post (Tr.cut (dz _) 60 _ 1 (by omega) e rfl) (bh.same rfl rfl)
    · have e := adh a (a.take 16) 16 j
      rw [hJ, decide_eq_true (show (j : Int) < a.length by omega), decide_eq_false (show ¬ (j : Int) < 16 by omega)] at e
      rw [Nat.min_eq_right (show 16 ≤ j by omega), Nat.min_eq_right (show 16 ≤ j + 1 by omega)]
      exact Tr.post (Tr.cut (dz _) 60 _ 1 (by omega) e rfl) (bh.same rfl rfl)
  · show Tr _ _ _ smP _ _ _
    have e := adi a (a.take 16) 16 a.length
    rw [decide_eq_false (show ¬ (a.length : Int) < a.length by omega)] at e
    rw [Nat.min_eq_right (show 16 ≤ a.length by omega)]
    exact Tr.cut (dz _) 60 _ 1 (by omega) e rfl
theorem RL {a l : List Int} {m : Nat} (d : Dg a) (ha : 16 < a.length) (hb : a.length < 100000) : Tr Tryz.prog none 0 (az 6 M6) (IE a m l 0 [] 16) .normal (IE a m l (a.length - 16) (p7 a) a.length) := by
  have key := Tr.loop (P := Tryz.prog) (ro := none) (k := 0) 4 (c := az 6 M6) (by kernel_rfl) (fun j : Nat => IE a m l j ((List.range j).map (MX a)) ((16 + j : Nat) : Int)) (a.length - 16) (s' := IE a m l (a.length - 16) (p7 a) a.length) (fun j hj => ?_) ?_
  · exact key
  · show Tr _ _ _ Ao _ _ _
    have hJ : J (((16 + j : Nat) : Int) + 1) = ((16 + (j + 1) : Nat) : Int) := by rw [dY (by omega) (by omega)]; rfl
    have hl : ((List.range j).map (MX a)).length = j := by simp
    have h1 := d.getD (16 + j)
    have h2 := d.getD (17 + j)
    have hr : (List.range (j + 1)).map (MX a) = (List.range j).map (MX a) ++ [MX a j] := by rw [List.range_succ, List.map_append]; rfl
    rw [hr]
    by_cases q : 17 + j < a.length
    · have e := adj a l ((List.range j).map (MX a)) m j ((16 + j : Nat) : Int)
      rw [hl, hJ, mg rfl (by omega), cA (by omega), aM (by omega) (by omega), decide_eq_true (show ((16 + (j + 1) : Nat) : Int) < a.length by omega), Int.toNat_natCast, Int.toNat_natCast, show 16 + (j + 1) = 17 + j by omega, ei h1.1, cU h2.1, decide_eq_true q, dY (n := a.getD (16 + j) 0 / 4) (by omega) (by omega), dY (n := a.getD (17 + j) 0 % 4 * 64) (by omega) (by omega), dY (n := a.getD (16 + j) 0 / 4 + a.getD (17 + j) 0 % 4 * 64) (by omega) (by omega)] at e
      rw [show 16 + (j + 1) = 17 + j by omega]
      exact Tr.post (Tr.cut (dz _) 60 _ 2 (by omega) e rfl) (bh.same rfl rfl)
    · have e := adk a l ((List.range j).map (MX a)) m j ((16 + j : Nat) : Int)
      have z := kU (l := a) (i := 17 + j) (by omega)
      have hf : MX a j = a.getD (16 + j) 0 / 4 := by unfold MX; rw [z]; rw [show (0 : Int) % 4 * 64 = 0 from rfl, Int.add_zero]
      rw [hl, hJ, mg rfl (by omega), cA (by omega), decide_eq_false (show ¬ ((16 + (j + 1) : Nat) : Int) < a.length by omega), Int.toNat_natCast, ei h1.1, dY (n := a.getD (16 + j) 0 / 4) (by omega) (by omega)] at e
      rw [hf]
      exact Tr.post (Tr.cut (dz _) 60 _ 2 (by omega) e rfl) (bh.same rfl rfl)
  · show Tr _ _ _ Ao _ _ _
    have e := adl a l (p7 a) m (a.length - 16) a.length
    rw [decide_eq_false (show ¬ (a.length : Int) < a.length by omega)] at e
    rw [show 16 + (a.length - 16) = a.length by omega]
    exact Tr.cut (dz _) 60 _ 2 (by omega) e rfl
theorem v8 {a : List Int} (d : Dg a) (t : Tm a) (hg : Uf a = true) (hb : a.length < 100000) : Tr Tryz.prog none 0 RI (wX a) .normal (wX (xl a)) := by
  have zD : 16 < a.length := by
    unfold Uf at hg
    simp only [Bool.or_eq_true, decide_eq_true_eq] at hg
    omega
  obtain ⟨l1, l2, _, _⟩ := Ug d zD
  have g16 := d.getD 16
  have H7 : az 2 RI = .block 1 M6 := by kernel_rfl
  have hll : (MW a).length = 17 := by unfold MW; rw [List.length_append, List.length_take, Nat.min_eq_left (by omega)]; rfl
  have hhl : (p7 a).length = a.length - 16 := by simp [p7]
  have htl : (tj (p7 a) [5]).length = a.length - 16 + 1 + 1 := by rw [zW l2 d5, hhl]; rfl
  have body : Tr Tryz.prog none 0 M6 (wX a) .normal (wX (xl a)) := by
    refine Tr.ee (aY.items (dz _) 60 3 _ 0 (by omega) (ahB a) rfl (by decide) ?_)
    refine aY.pre (s1 := ID a 0 [] 0) (aY.item 3 (by decide) (XX zD hb) ?_) ((bh.nothing 3 .i64 false true rfl).trans (bh.same rfl rfl)) (by decide)
    have k := ahC a (a.take 16) 16 a.length
    rw [sw rfl zD, List.length_take, Nat.min_eq_left (by omega), cA (by omega), cU g16.1] at k
    refine aY.items (dz _) 60 2 _ 1 (by omega) k rfl (by decide) ?_
    rw [List.drop_drop]
    refine aY.pre (s1 := IE a 17 (MW a) 0 [] 16) (aY.item 6 (by decide) (RL d zD hb) ?_) ((bh.nothing 4 .i64 false true rfl).trans (bh.same rfl rfl)) (by decide)
    have r := ahD a (MW a) (p7 a) 17 (a.length - 16) a.length
    have ho : AP (MW a) (p7 a) 17 (a.length - 16) = true := by
      unfold AP
      rw [hll, hhl, aV.2 l1, aV.2 l2, aV.2 (zV l2 d5).1, htl, jP]
      have := pU (MW a) (tj (p7 a) [5])
      have hpm : zU (MW a) (tj (p7 a) [5]) = max 17 (a.length - 16 + 1 + 1) := by unfold zU; rw [hll, htl]
      simp [au]
      omega
    rw [ho] at r
    exact aY.item 7 (by decide) (s1 := wX (xl a)) (Tr.cut (dz _) 60 _ 0 (by omega) r rfl) ⟨rfl, rfl⟩
  have e : aY Tryz.prog none 0 ((atoms RI).drop 2) (wX a) .normal (wX (xl a)) := by
    refine aY.item 2 (by decide) (s1 := wX (xl a)) ?_ ⟨rfl, rfl⟩
    rw [H7]
    exact Tr.fE body (by simp)
  by_cases q : 17 < a.length
  · have i1 := XV a
    rw [decide_eq_true (show (a.length : Int) > 17 by omega)] at i1
    exact Tr.ee (aY.items (dz _) 60 2 _ 0 (by omega) i1 rfl (by decide) e)
  · have h17 : a.length = 17 ∧ 3 < a.getD 16 0 := by
      unfold Uf at hg
      simp only [Bool.or_eq_true, decide_eq_true_eq] at hg
      omega
    have i2 := XW a
    rw [decide_eq_true (show a.getD 16 0 > 3 from h17.2), sw (by rw [h17.1]; rfl) zD] at i2
    exact Tr.ee (aY.items (dz _) 60 2 _ 0 (by omega) i2 rfl (by decide) e)
theorem H8 : ∀ (v : Nat) {a : List Int}, nv a = v → Dg a → Tm a → a.length < 100000 → iH Tryz.prog none 0 RI (wX a) (.exit 0) (wX (MZ (Gl v : Nat))) := fun v => by
  induction v using Nat.strongRecOn with
  | ind v ih =>
    intro a hv d t hb
    cases hg : Uf a with
    | true =>
      have w9 := (Gk d t).1 hg
      have zD : 16 < a.length := by
        unfold Uf at hg
        simp only [Bool.or_eq_true, decide_eq_true_eq] at hg
        omega
      obtain ⟨s1, s2, s3⟩ := XN d zD
      have hs : nv (xl a) = ((v % 1361129467683753853853498429727072845824 + 5 * (v / 1361129467683753853853498429727072845824) : Nat) : Int) := by rw [s3, hv]; omega
      have hlt : v % 1361129467683753853853498429727072845824 + 5 * (v / 1361129467683753853853498429727072845824) < v := by omega
      rw [Gl, dif_neg (by omega)]
      exact iH.step (v8 d t hg hb) (ih _ hlt hs s1 s2 (by have := XU d s1 s2 (by omega); omega))
    | false =>
      have w9 : ¬ 1361129467683753853853498429727072845824 ≤ nv a := fun q => by
        have := (Gk d t).2 q
        rw [hg] at this
        cases this
      rw [Gl, dif_pos (by omega), ← hv, M0 d t]
      unfold Uf at hg
      rw [Bool.or_eq_false_iff, decide_eq_false_iff_not, decide_eq_false_iff_not] at hg
      by_cases q : a.length = 17
      · have e := RK a
        rw [decide_eq_false (show ¬ a.getD 16 0 > 3 by omega), sw (by rw [q]; rfl) (by omega)] at e
        exact iH.leave (Tr.cut (k := 0) (dz _) 60 _ 0 (Nat.le_refl _) e rfl) (by simp)
      · have e := RJ a
        rw [decide_eq_false (show ¬ (a.length : Int) > 17 by omega), beq_false_of_ne (show (a.length : Int) ≠ 17 by omega)] at e
        exact iH.leave (Tr.cut (k := 0) (dz _) 60 _ 0 (Nat.le_refl _) e rfl) (by simp)
noncomputable def Od (a : List Int) : List Int := MZ (Gl (nv a).toNat : Nat)
theorem M7 {a : List Int} (d : Dg a) (t : Tm a) (hb : a.length < 100000) : ai Tryz.prog 156 [.ro false .i64 a] [] (.ro false .i64 (Od a)) [] := by
  have h0 := ep d
  refine ai.cz (dz HS) 60 2 0 Tryz.func156 (by simp) rfl (fun s' x h => ?_) (s := wX (Od a)) (p := true) (by kernel_rfl) rfl rfl rfl
  refine aY.items (dz HS) 60 1 _ 0 (by simp) (zB a) rfl (by decide) ?_
  exact aY.item 1 (by decide) (Tr.As 0 (by kernel_rfl) (H8 (nv a).toNat (by omega) d t hb)) h
noncomputable def RM (a : List Int) : Bool := @decide (Tm a) (Classical.propDecidable _)
noncomputable def M8 : List SV → Option (SV × List Blk × Bool)
  | [.ro false .i64 a] => some (.ro false .i64 (Od a), [], dL a && RM a && decide (a.length < 100000))
  | _ => none
noncomputable def fj : Entry Tryz.prog := .val 156 _ Tryz.func156 (by decide) rfl false 0 M8 fun vs v new e => by
  unfold M8 at e
  split at e
  · simp only [Option.some.injEq, Prod.mk.injEq, Bool.and_eq_true, decide_eq_true_eq, aV] at e
    obtain ⟨rfl, rfl, ⟨h1, h2⟩, h3⟩ := e
    exact M7 h1 (@of_decide_eq_true _ (Classical.propDecidable _) h2) h3
  · cases e
end Go.Proofs.YtibfpjeeanppjaaGreat.R4
end
