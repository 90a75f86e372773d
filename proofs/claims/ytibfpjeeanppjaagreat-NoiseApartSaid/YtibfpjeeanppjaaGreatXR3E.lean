/- This file holds the texts R3D, R3E, a section each. No conditions beyond those in the theorems. -/
import Derived.Test.YtibfpjeeanppjaaGreatXR3C
import Derived.Test.YtibfpjeeanppjaaGreatXCcB
set_option linter.all false
set_option maxRecDepth 100000
section
namespace Go.Proofs.YtibfpjeeanppjaaGreat.R3
open Go Go.Sy Sh
noncomputable def pqB : Code := aE Tryz.f117
noncomputable def Y3 (f : Nat → Option Bool) : br := mk (P := Tryz.prog) [quE, woE] [] f
theorem mX (f : Nat → Option Bool) : ag Tryz.prog (Y3 f) := ah _ aq.nil _ _
noncomputable def Oi (key k2 k3 : List Int) (n : Int) (s : List Int) : List Blk := [.b [.ints .u8 32 key], .b [.ints .u8 64 Cc.z64], .b [.ints .u8 64 Cc.z64], .g none, .b [.ints .u32 16 s], .b [.ints .u32 8 k2], .b [.ints .u32 1 [V n]], .b [.ints .u32 3 k3]]
noncomputable def Oj (bs : List Blk) (x : List Int) (i : Int) : St := ⟨slotsOf 105 [(6, .ptr 1 0 0), (7, .int .i64 0), (8, .ptr 2 0 0), (9, .sl 4 0 0 1 16 16 false true), (10, .sl 8 0 0 1 16 16 false true), (11, .int .i64 i)], bs ++ [.b [.ints .u32 16 x]], true⟩
def Rp (key af : List Int) (n : Int) : List Int := [1634760805, 857760878, 2036477234, 1797285236] ++ (List.range 8).map (Zj key) ++ [V n] ++ (List.range 3).map (Zj af)
def Eo : List (Nat × Nat × Nat × Nat) → List Int → Bool → Bool
  | [], _, ob => ob
  | q :: qs, x, ob => Eo qs (mG x q) (aa ob (aa true (decide (x.length = 16) && true)))
def Rq (x : List Int) : List Int := Cc.S7.foldl mG x
def f3 : Nat → Option Bool := fun i => if i = 17 || i = 21 || i = 24 then some false else none
section
variable (key af k2 k3 s x : List Int) (n i : Int)
theorem Rt : (aT Tryz.prog (Y3 f3) 60 0 12 (atoms pqB) ⟨aO Tryz.f117.ntmps [.agg [.ints .u8 32 (aH 32 key)], .ro false .u8 (aH 12 af), .int .i64 n], [], true⟩).bind (St.cut [6, 7, 8, 9, 10, 11] 9) =
    some { Oj (Oi (aH 32 key) (gn (aH 32 key) 8) (gn (aH 12 af) 3) n (Rp (aH 32 key) (aH 12 af) n)) (Rp (aH 32 key) (aH 12 af) n) 0 with ob := aa (aa true (!decide (n < 0))) (!decide (n > 4294967295)) } := by kernel_rfl
theorem XG : (exec Tryz.prog (Y3 fun i => if i = 46 then some true else none) 60 0 (inner (inner (az 12 pqB))) (Oj (Oi key k2 k3 n s) x i)).bind (fun r => (r.2.cut [6, 7, 8, 9, 10, 11] 9).map fun q => (r.1, q)) =
    some (.normal, { Oj (Oi key k2 k3 n s) (Rq x) (IntKind.i64.wrap (i + 1)) with ob := Eo Cc.S7 x (aa true (decide (i < 10))) }) := by kernel_rfl
theorem XH : (exec Tryz.prog (Y3 fun i => if i = 46 then some false else none) 60 0 (inner (inner (az 12 pqB))) (Oj (Oi key k2 k3 n s) x i)).bind (fun r => (r.2.cut [6, 7, 8, 9, 10, 11] 9).map fun q => (r.1, q)) =
    some (.exit 0, { Oj (Oi key k2 k3 n s) x i with ob := aa true (!decide (i < 10)) }) := by kernel_rfl
end
theorem B8 (x : List Int) (q : Nat × Nat × Nat × Nat) : (mG x q).length = x.length := by simp [mG]
theorem jg : ∀ (qs : List (Nat × Nat × Nat × Nat)) {x : List Int} {ob : Bool}, x.length = 16 → ob = true → Eo qs x ob = true
  | [], _, _, _, h => h
  | q :: qs, x, ob, hx, h => jg qs (by rw [B8, hx]) (by rw [h, hx]; rfl)
theorem MN (x : List Int) : Rq x = Cc.dbl x := by
  have : ∀ (qs : List (Nat × Nat × Nat × Nat)) (x : List Int), qs.foldl mG x = qs.foldl Cc.YS x := fun qs => by
    induction qs with
    | nil => intro x; rfl
    | cons q qs ih => intro x; rw [List.foldl_cons, List.foldl_cons, XF, ih]
  unfold Rq Cc.dbl
  rw [this Cc.S7 x]
theorem yt (x : List Int) : (Cc.dbl x).length = x.length := by
  have : ∀ (qs : List (Nat × Nat × Nat × Nat)) (x : List Int), (qs.foldl mG x).length = x.length := fun qs => by
    induction qs with
    | nil => intro x; rfl
    | cons q qs ih => intro x; rw [List.foldl_cons, ih, B8]
  rw [← MN]
  unfold Rq
  rw [this Cc.S7 x]
theorem jk (x : List Int) : ∀ j, (Cc.iz x j).length = x.length
  | 0 => rfl
  | j + 1 => by rw [Cc.iz, yt, jk x j]
theorem XI {key af : List Int} (hk : ∀ z ∈ key, 0 ≤ z ∧ z < 256) (hn : ∀ z ∈ af, 0 ≤ z ∧ z < 256) (n : Int) : Rp key af n = Cc.Cs key af n := by
  unfold Rp Cc.Cs
  rw [List.map_congr_left (fun j _ => Ue hk j), List.map_congr_left (fun j _ => Ue hn j)]
theorem tK (key af : List Int) (n : Int) : (Cc.Cs key af n).length = 16 := by simp [Cc.Cs]
theorem HX {key af k2 k3 s x : List Int} {n : Int} (ht : ∀ s' y, aY Tryz.prog none 0 ((atoms (aE Tryz.f117)).drop 13) (Oj (Oi key k2 k3 n (aH 16 s)) (aH 16 x) 10) y s' →
      aY Tryz.prog none 0 (atoms (aE Tryz.f117)) ⟨aO Tryz.f117.ntmps [.agg [.ints .u8 32 key], .ro false .u8 af, .int .i64 n], [], true⟩ y s') :
    ai Tryz.prog 117 [.agg [.ints .u8 32 key], .ro false .u8 af, .int .i64 n] [] (.aQ [.agg [.ints .u8 64 (Cc.U2 (aH 16 s) (aH 16 x))], .int .i64 0]) [] :=
  ai.cz (mX fun _ => none) 200 13 0 Tryz.func117 (by simp) rfl ht (p := true) (by kernel_rfl) rfl rfl rfl
theorem mO {key af : List Int} {n : Int} (hk : key.length = 32) (Lf : ∀ z ∈ key, 0 ≤ z ∧ z < 256) (hn : af.length = 12) (hnb : ∀ z ∈ af, 0 ≤ z ∧ z < 256) (h0 : 0 ≤ n) (h1 : n ≤ 4294967295) :
    ai Tryz.prog 117 [.agg [.ints .u8 32 key], .ro false .u8 af, .int .i64 n] [] (.aQ [.agg [.ints .u8 64 (Cc.fc key af n)], .int .i64 0]) [] := by
  have ek : aH 32 key = key := aF hk
  have en : aH 12 af = af := aF hn
  have hh := Rt key af n
  rw [ek, en, XI Lf hnb, decide_eq_false (show ¬ n < 0 by omega), decide_eq_false (show ¬ n > 4294967295 by omega)] at hh
  have hs := tK key af n
  generalize hS : Cc.Cs key af n = s at hh hs
  have hX := jk s 10
  have bS : Tr Tryz.prog none 0 (az 12 pqB) (Oj (Oi key (gn key 8) (gn af 3) n s) s 0) .normal (Oj (Oi key (gn key 8) (gn af 3) n s) (Cc.iz s 10) 10) := by
    refine Tr.loop (P := Tryz.prog) (ro := none) (k := 0) 0 (c := az 12 pqB) (by kernel_rfl) (fun j : Nat => Oj (Oi key (gn key 8) (gn af 3) n s) (Cc.iz s j) j) 10 (s' := Oj (Oi key (gn key 8) (gn af 3) n s) (Cc.iz s 10) 10) (fun j hj => ?_) ?_
    · have e := XG key (gn key 8) (gn af 3) s (Cc.iz s j) n j
      rw [jg _ (by rw [jk, hs]) (by rw [decide_eq_true (show (j : Int) < 10 by omega)]; rfl), MN, wrap_i64 _ (by omega) (by omega)] at e
      exact Tr.cut (mX _) 60 _ 9 (by omega) e rfl
    · have e := XH key (gn key 8) (gn af 3) s (Cc.iz s 10) n 10
      exact Tr.cut (mX _) 60 _ 9 (by omega) e rfl
  have eX : aH 16 (Cc.iz s 10) = Cc.iz s 10 := aF (by rw [hX, hs])
  have eS : aH 16 s = s := aF hs
  have hpc : Cc.fc key af n = Cc.U2 s (Cc.iz s 10) := by rw [Cc.fc, aC, hS]
  rw [hpc]
  have yu := HX (key := key) (af := af) (k2 := gn key 8) (k3 := gn af 3) (s := s) (x := Cc.iz s 10) (n := n) (fun s' y h => by
    rw [eX, eS] at h
    exact aY.items (mX f3) 60 12 _ 9 (by simp) hh rfl (by decide) (aY.item 12 (by decide) bS h))
  rw [eX, eS] at yu
  exact yu
theorem D3 {x : List Int} (h : bU x = true) : ∀ z ∈ x, 0 ≤ z ∧ z < 256 := fun z hz => by
  unfold bU at h
  rw [List.all_eq_true] at h
  simpa using h z hz
noncomputable def wv : List SV → Option (SV × List Blk × Bool)
  | [.agg [.ints .u8 32 key], .ro false .u8 af, .int .i64 n] => some (.aQ [.agg [.ints .u8 64 (Cc.fc key af n)], .int .i64 0], [], decide (key.length = 32) && bU key && decide (af.length = 12) && bU af && decide (0 ≤ n) && decide (n ≤ 4294967295))
  | _ => none
noncomputable def sn : Entry Tryz.prog := .val 117 _ Tryz.func117 (by decide) rfl true 0 wv fun vs v new e => by
  unfold wv at e
  split at e
  · simp only [Option.some.injEq, Prod.mk.injEq, Bool.and_eq_true, decide_eq_true_eq] at e
    obtain ⟨rfl, rfl, ⟨⟨⟨⟨h1, h2⟩, h3⟩, h4⟩, h5⟩, h6⟩ := e
    exact mO h1 (D3 h2) h3 (D3 h4) h5 h6
  · cases e
end Go.Proofs.YtibfpjeeanppjaaGreat.R3
end
section
namespace Go.Proofs.YtibfpjeeanppjaaGreat.R3
open Go Go.Sy Sh
noncomputable def miB : Code := aE Tryz.f76
noncomputable def miC (b : Bool) : br := mk (P := Tryz.prog) [sn] [] fun i => if i = 29 then some b else if i = 56 then some true else none
theorem zQ (b : Bool) : ag Tryz.prog (miC b) := ah _ aq.nil _ _
noncomputable def Ok (m : Nat) (key af text p l : List Int) (n i : Int) : St := ⟨slotsOf 58 [(1, .ro false .u8 af), (2, .int .i64 n), (3, .ro false .u8 text), (4, .ptr 0 0 0), (12, .sl 2 0 0 1 m m false true), (13, .int .i64 i)], [.b [.ints .u8 32 key], .b [.ints .u8 64 p], .b [.ints .u8 m l]], true⟩
noncomputable def ahj (key af text p : List Int) (n : Int) : St := ⟨slotsOf 58 [(1, .ro false .u8 af), (2, .int .i64 n), (3, .ro false .u8 text), (4, .ptr 0 0 0), (12, .nl (.slice none 0 0)), (13, .int .i64 0)], [.b [.ints .u8 32 key], .b [.ints .u8 64 p]], true⟩
def zR (key af : List Int) (n : Int) : Bool := decide (key.length = 32) && bU key && decide (af.length = 12) && bU af && decide (0 ≤ n) && decide (n ≤ 4294967295)
def miN (n i : Int) : Int := J (n + J (i.tdiv 64))
noncomputable def miV (key af text : List Int) (n i : Int) : Int := cj .u8 (text.getD i.toNat 0) ((Cc.fc key af (miN n i)).getD (0 + (i.tmod 64).toNat) 0)
def miO (key af : List Int) (k : Nat) (n i : Int) : Bool := aa (aa (aa (aa (aa (aa true (decide (i < (k : Int)))) (aa true (zR key af (miN n i)))) (cN i k)) (decide (i.toNat < k))) (cN (i.tmod 64) 64)) (decide (0 + (i.tmod 64).toNat < 64))
section
variable (m : Nat) (key af text p l : List Int) (n i : Int)
theorem Ru : (aT Tryz.prog (miC true) 60 0 6 (atoms miB) ⟨aO Tryz.f76.ntmps [.agg [.ints .u8 32 key], .ro false .u8 af, .int .i64 n, .ro false .u8 text], [], true⟩).bind (St.cut [1, 2, 3, 4, 12, 13] 2) =
    some { ahj key af text (Cc.fc key af n) n with ob := aa true (aa true (zR key af n)) } := by kernel_rfl
theorem XJ : (exec Tryz.prog (miC true) 60 0 (inner (inner (az 6 miB))) (Ok m key af text p l n i)).bind (fun r => (r.2.cut [1, 2, 3, 4, 12, 13] 3).map fun q => (r.1, q)) =
    some (.normal, { Ok (m + 1) key af text p (l ++ [miV key af text n i]) n (J (i + 1)) with ob := aa (miO key af text.length n i) (tD l.length m) }) := by kernel_rfl
theorem XK : (exec Tryz.prog (miC false) 60 0 (inner (inner (az 6 miB))) (Ok m key af text p l n i)).bind (fun r => (r.2.cut [1, 2, 3, 4, 12, 13] 3).map fun q => (r.1, q)) =
    some (.exit 0, { Ok m key af text p l n i with ob := aa true (!decide (i < (text.length : Int))) }) := by kernel_rfl
end
theorem CS {key af text : List Int} {n : Int} (hk : key.length = 32) (Lf : bU key = true) (hn : af.length = 12) (hnb : bU af = true) (h0 : 0 ≤ n) (h1 : n + (text.length / 64 : Nat) ≤ 4294967295) (ht : text.length < 274877906000) :
    ai Tryz.prog 76 [.agg [.ints .u8 32 key], .ro false .u8 af, .int .i64 n, .ro false .u8 text] [] (.aQ [.sl 0 0 0 1 text.length text.length false true, .int .i64 0]) [.b [.ints .u8 text.length (Cc.cv key af n text)]] := by
  have hpo : ∀ q : Int, 0 ≤ q → q ≤ 4294967295 → zR key af q = true := fun q a b => by unfold zR; rw [hk, Lf, hn, hnb, decide_eq_true a, decide_eq_true b]; rfl
  have hM : ∀ j : Nat, ((List.range j).map (Cc.Cr key af n text)).length = j := fun j => by simp
  have bS : Tr Tryz.prog none 0 (az 6 miB) (Ok 0 key af text (Cc.fc key af n) [] n 0) .normal (Ok text.length key af text (Cc.fc key af n) (Cc.cv key af n text) n text.length) := by
    have yu := Tr.loop (P := Tryz.prog) (ro := none) (k := 0) 0 (c := az 6 miB) (by kernel_rfl) (fun j : Nat => Ok j key af text (Cc.fc key af n) ((List.range j).map (Cc.Cr key af n text)) n j) text.length (s' := Ok text.length key af text (Cc.fc key af n) (Cc.cv key af n text) n text.length) (fun j hj => ?_) ?_
    · exact yu
    · have e := XJ j key af text (Cc.fc key af n) ((List.range j).map (Cc.Cr key af n text)) n j
      have ed : ((j : Nat) : Int).tdiv 64 = ((j / 64 : Nat) : Int) := rfl
      have em : ((j : Nat) : Int).tmod 64 = ((j % 64 : Nat) : Int) := rfl
      have eN : miN n j = n + (j / 64 : Nat) := by unfold miN J; rw [ed, wrap_i64 ((j / 64 : Nat) : Int) (by omega) (by omega), wrap_i64 (n + ((j / 64 : Nat) : Int)) (by omega) (by omega)]
      have hv : miV key af text n j = Cc.Cr key af n text j := by unfold miV Cc.Cr; rw [eN, em, Int.toNat_natCast, Int.toNat_natCast, Nat.zero_add]
      have ho : miO key af text.length n j = true := by
        unfold miO
        rw [eN, hpo (n + ((j / 64 : Nat) : Int)) (by omega) (by omega), em]
        simp only [au, decide_eq_true_eq, true_and, and_true, Int.toNat_natCast]
        have al4 : j % 64 < 64 := Nat.mod_lt _ (by decide)
        refine ⟨⟨⟨⟨by omega, aM (by omega) (by omega)⟩, by omega⟩, aM (by omega) (by omega)⟩, ?_⟩
        omega
      rw [hv, ho, hM, cA (by omega), show J ((j : Int) + 1) = ((j + 1 : Nat) : Int) from wrap_i64 _ (by omega) (by omega)] at e
      refine Tr.post (Tr.cut (zQ true) 60 _ 3 (by omega) e rfl) (bh.same rfl ?_)
      show [_, _, Blk.b [SV.ints .u8 (j + 1) ((List.range j).map (Cc.Cr key af n text) ++ [Cc.Cr key af n text j])]] = [_, _, Blk.b [SV.ints .u8 (j + 1) ((List.range (j + 1)).map (Cc.Cr key af n text))]]
      rw [List.range_succ, List.map_append]; rfl
    · have e := XK text.length key af text (Cc.fc key af n) (Cc.cv key af n text) n text.length
      rw [decide_eq_false (show ¬ ((text.length : Int) < text.length) by omega)] at e
      exact Tr.cut (zQ false) 60 _ 3 (by omega) e rfl
  have k : ai Tryz.prog 76 [.agg [.ints .u8 32 key], .ro false .u8 af, .int .i64 n, .ro false .u8 text] [] (.aQ [.sl 2 0 0 1 text.length text.length false true, .int .i64 0]) [.b [.ints .u8 32 key], .b [.ints .u8 64 (Cc.fc key af n)], .b [.ints .u8 text.length (Cc.cv key af n text)]] := by
    refine ai.cz (zQ true) 60 7 3 Tryz.func76 (by simp) rfl (fun s' x h => ?_) (s := Ok text.length key af text (Cc.fc key af n) (Cc.cv key af n text) n text.length) (p := true) (by kernel_rfl) rfl rfl rfl
    have e := Ru key af text n
    rw [hpo n h0 (by omega)] at e
    refine aY.items (zQ true) 60 6 _ 2 (by simp) e rfl (by decide) ?_
    exact aY.pre (s1 := Ok 0 key af text (Cc.fc key af n) [] n 0) (aY.item 6 (by decide) bS h) ((bh.nothing 12 .u8 false true rfl).trans (bh.same rfl rfl)) (by decide)
  exact ai.Js [2] k (by kernel_rfl)
end Go.Proofs.YtibfpjeeanppjaaGreat.R3
end
