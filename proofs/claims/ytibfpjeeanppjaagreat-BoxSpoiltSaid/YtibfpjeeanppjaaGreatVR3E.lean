/- This file holds the texts R3D, R3E, a section each. No conditions beyond those in the theorems. -/
import Derived.Test.YtibfpjeeanppjaaGreatVR3C
import Derived.Test.YtibfpjeeanppjaaGreatVCcB
set_option linter.all false
set_option maxRecDepth 100000
section
namespace Go.Proofs.YtibfpjeeanppjaaGreat.R3
open Go Go.Sy Sh
noncomputable def pqB : Code := bodyOf Tryz.f117
noncomputable def pqC (f : Nat → Option Bool) : Ctr := mk (P := Tryz.prog) [quE, woE] [] f
theorem pqC_ok (f : Nat → Option Bool) : CtrSound Tryz.prog (pqC f) := mk_sound _ InlOK.nil _ _
noncomputable def pqH (key k2 k3 : List Int) (n : Int) (s : List Int) : List Blk := [.b [.ints .u8 32 key], .b [.ints .u8 64 Cc.z64], .b [.ints .u8 64 Cc.z64], .g none, .b [.ints .u32 16 s], .b [.ints .u32 8 k2], .b [.ints .u32 1 [V n]], .b [.ints .u32 3 k3]]
noncomputable def pqS (bs : List Blk) (x : List Int) (i : Int) : St := ⟨slotsOf 105 [(6, .ptr 1 0 0), (7, .int .i64 0), (8, .ptr 2 0 0), (9, .sl 4 0 0 1 16 16 false true), (10, .sl 8 0 0 1 16 16 false true), (11, .int .i64 i)], bs ++ [.b [.ints .u32 16 x]], true⟩
def s16Q (key nonce : List Int) (n : Int) : List Int := [1634760805, 857760878, 2036477234, 1797285236] ++ (List.range 8).map (wdQ key) ++ [V n] ++ (List.range 3).map (wdQ nonce)
def rdO : List (Nat × Nat × Nat × Nat) → List Int → Bool → Bool
  | [], _, ob => ob
  | q :: qs, x, ob => rdO qs (qstQ x q) (andT ob (andT true (decide (x.length = 16) && true)))
def dblQ (x : List Int) : List Int := Cc.qRd.foldl qstQ x
def f3 : Nat → Option Bool := fun i => if i = 17 || i = 21 || i = 24 then some false else none
section
variable (key nonce k2 k3 s x : List Int) (n i : Int)
theorem pq_head : (execL Tryz.prog (pqC f3) 60 0 12 (atoms pqB) ⟨slots0 Tryz.f117.ntmps [.agg [.ints .u8 32 (lst 32 key)], .ro false .u8 (lst 12 nonce), .int .i64 n], [], true⟩).bind (St.cut [6, 7, 8, 9, 10, 11] 9) =
    some { pqS (pqH (lst 32 key) (wdsQ (lst 32 key) 8) (wdsQ (lst 12 nonce) 3) n (s16Q (lst 32 key) (lst 12 nonce) n)) (s16Q (lst 32 key) (lst 12 nonce) n) 0 with ob := andT (andT true (!decide (n < 0))) (!decide (n > 4294967295)) } := by kernel_rfl
theorem pq_one : (exec Tryz.prog (pqC fun i => if i = 46 then some true else none) 60 0 (inner (inner (nthC 12 pqB))) (pqS (pqH key k2 k3 n s) x i)).bind (fun r => (r.2.cut [6, 7, 8, 9, 10, 11] 9).map fun q => (r.1, q)) =
    some (.normal, { pqS (pqH key k2 k3 n s) (dblQ x) (IntKind.i64.wrap (i + 1)) with ob := rdO Cc.qRd x (andT true (decide (i < 10))) }) := by kernel_rfl
theorem pq_end : (exec Tryz.prog (pqC fun i => if i = 46 then some false else none) 60 0 (inner (inner (nthC 12 pqB))) (pqS (pqH key k2 k3 n s) x i)).bind (fun r => (r.2.cut [6, 7, 8, 9, 10, 11] 9).map fun q => (r.1, q)) =
    some (.exit 0, { pqS (pqH key k2 k3 n s) x i with ob := andT true (!decide (i < 10)) }) := by kernel_rfl
end
theorem qstQ_len (x : List Int) (q : Nat × Nat × Nat × Nat) : (qstQ x q).length = x.length := by simp [qstQ]
theorem rdO_true : ∀ (qs : List (Nat × Nat × Nat × Nat)) {x : List Int} {ob : Bool}, x.length = 16 → ob = true → rdO qs x ob = true
  | [], _, _, _, h => h
  | q :: qs, x, ob, hx, h => rdO_true qs (by rw [qstQ_len, hx]) (by rw [h, hx]; rfl)
theorem dbl_eq (x : List Int) : dblQ x = Cc.dbl x := by
  have : ∀ (qs : List (Nat × Nat × Nat × Nat)) (x : List Int), qs.foldl qstQ x = qs.foldl Cc.qst x := fun qs => by
    induction qs with
    | nil => intro x; rfl
    | cons q qs ih => intro x; rw [List.foldl_cons, List.foldl_cons, qst_eq, ih]
  unfold dblQ Cc.dbl
  rw [this Cc.qRd x]
theorem dbl_len (x : List Int) : (Cc.dbl x).length = x.length := by
  have : ∀ (qs : List (Nat × Nat × Nat × Nat)) (x : List Int), (qs.foldl qstQ x).length = x.length := fun qs => by
    induction qs with
    | nil => intro x; rfl
    | cons q qs ih => intro x; rw [List.foldl_cons, ih, qstQ_len]
  rw [← dbl_eq]
  unfold dblQ
  rw [this Cc.qRd x]
theorem dbls_len (x : List Int) : ∀ j, (Cc.dbls x j).length = x.length
  | 0 => rfl
  | j + 1 => by rw [Cc.dbls, dbl_len, dbls_len x j]
theorem s16_eq {key nonce : List Int} (hk : ∀ z ∈ key, 0 ≤ z ∧ z < 256) (hn : ∀ z ∈ nonce, 0 ≤ z ∧ z < 256) (n : Int) : s16Q key nonce n = Cc.s16 key nonce n := by
  unfold s16Q Cc.s16
  rw [List.map_congr_left (fun j _ => wd_eq hk j), List.map_congr_left (fun j _ => wd_eq hn j)]
theorem s16_len (key nonce : List Int) (n : Int) : (Cc.s16 key nonce n).length = 16 := by simp [Cc.s16]
theorem piece_end {key nonce k2 k3 s x : List Int} {n : Int} (ht : ∀ s' y, TrL Tryz.prog none 0 ((atoms (bodyOf Tryz.f117)).drop 13) (pqS (pqH key k2 k3 n (lst 16 s)) (lst 16 x) 10) y s' →
      TrL Tryz.prog none 0 (atoms (bodyOf Tryz.f117)) ⟨slots0 Tryz.f117.ntmps [.agg [.ints .u8 32 key], .ro false .u8 nonce, .int .i64 n], [], true⟩ y s') :
    FnTr Tryz.prog 117 [.agg [.ints .u8 32 key], .ro false .u8 nonce, .int .i64 n] [] (.tup [.agg [.ints .u8 64 (Cc.pcO (lst 16 s) (lst 16 x))], .int .i64 0]) [] :=
  FnTr.restM (pqC_ok fun _ => none) 200 13 0 Tryz.func117 (by simp) rfl ht (p := true) (by kernel_rfl) rfl rfl rfl
theorem piece_fn {key nonce : List Int} {n : Int} (hk : key.length = 32) (hkb : ∀ z ∈ key, 0 ≤ z ∧ z < 256) (hn : nonce.length = 12) (hnb : ∀ z ∈ nonce, 0 ≤ z ∧ z < 256) (h0 : 0 ≤ n) (h1 : n ≤ 4294967295) :
    FnTr Tryz.prog 117 [.agg [.ints .u8 32 key], .ro false .u8 nonce, .int .i64 n] [] (.tup [.agg [.ints .u8 64 (Cc.pcW key nonce n)], .int .i64 0]) [] := by
  have ek : lst 32 key = key := lst_eq hk
  have en : lst 12 nonce = nonce := lst_eq hn
  have hh := pq_head key nonce n
  rw [ek, en, s16_eq hkb hnb, decide_eq_false (show ¬ n < 0 by omega), decide_eq_false (show ¬ n > 4294967295 by omega)] at hh
  have hs := s16_len key nonce n
  generalize hS : Cc.s16 key nonce n = s at hh hs
  have hX := dbls_len s 10
  have hloop : Tr Tryz.prog none 0 (nthC 12 pqB) (pqS (pqH key (wdsQ key 8) (wdsQ nonce 3) n s) s 0) .normal (pqS (pqH key (wdsQ key 8) (wdsQ nonce 3) n s) (Cc.dbls s 10) 10) := by
    refine Tr.loop (P := Tryz.prog) (ro := none) (k := 0) 0 (c := nthC 12 pqB) (by kernel_rfl) (fun j : Nat => pqS (pqH key (wdsQ key 8) (wdsQ nonce 3) n s) (Cc.dbls s j) j) 10 (s' := pqS (pqH key (wdsQ key 8) (wdsQ nonce 3) n s) (Cc.dbls s 10) 10) (fun j hj => ?_) ?_
    · have e := pq_one key (wdsQ key 8) (wdsQ nonce 3) s (Cc.dbls s j) n j
      rw [rdO_true _ (by rw [dbls_len, hs]) (by rw [decide_eq_true (show (j : Int) < 10 by omega)]; rfl), dbl_eq, wrap_i64 _ (by omega) (by omega)] at e
      exact Tr.cut (pqC_ok _) 60 _ 9 (by omega) e rfl
    · have e := pq_end key (wdsQ key 8) (wdsQ nonce 3) s (Cc.dbls s 10) n 10
      exact Tr.cut (pqC_ok _) 60 _ 9 (by omega) e rfl
  have eX : lst 16 (Cc.dbls s 10) = Cc.dbls s 10 := lst_eq (by rw [hX, hs])
  have eS : lst 16 s = s := lst_eq hs
  have hpc : Cc.pcW key nonce n = Cc.pcO s (Cc.dbls s 10) := by rw [Cc.pcW, Lock_eq, hS]
  rw [hpc]
  have key2 := piece_end (key := key) (nonce := nonce) (k2 := wdsQ key 8) (k3 := wdsQ nonce 3) (s := s) (x := Cc.dbls s 10) (n := n) (fun s' y h => by
    rw [eX, eS] at h
    exact TrL.items (pqC_ok f3) 60 12 _ 9 (by simp) hh rfl (by decide) (TrL.item 12 (by decide) hloop h))
  rw [eX, eS] at key2
  exact key2
theorem u8R_by {x : List Int} (h : u8R x = true) : ∀ z ∈ x, 0 ≤ z ∧ z < 256 := fun z hz => by
  unfold u8R at h
  rw [List.all_eq_true] at h
  simpa using h z hz
noncomputable def pieceF : List SV → Option (SV × List Blk × Bool)
  | [.agg [.ints .u8 32 key], .ro false .u8 nonce, .int .i64 n] => some (.tup [.agg [.ints .u8 64 (Cc.pcW key nonce n)], .int .i64 0], [], decide (key.length = 32) && u8R key && decide (nonce.length = 12) && u8R nonce && decide (0 ≤ n) && decide (n ≤ 4294967295))
  | _ => none
noncomputable def pieceE : Entry Tryz.prog := .val 117 _ Tryz.func117 (by decide) rfl true 0 pieceF fun vs v new e => by
  unfold pieceF at e
  split at e
  · simp only [Option.some.injEq, Prod.mk.injEq, Bool.and_eq_true, decide_eq_true_eq] at e
    obtain ⟨rfl, rfl, ⟨⟨⟨⟨h1, h2⟩, h3⟩, h4⟩, h5⟩, h6⟩ := e
    exact piece_fn h1 (u8R_by h2) h3 (u8R_by h4) h5 h6
  · cases e
end Go.Proofs.YtibfpjeeanppjaaGreat.R3
end
section
namespace Go.Proofs.YtibfpjeeanppjaaGreat.R3
open Go Go.Sy Sh
noncomputable def miB : Code := bodyOf Tryz.f76
noncomputable def miC (b : Bool) : Ctr := mk (P := Tryz.prog) [pieceE] [] fun i => if i = 29 then some b else if i = 56 then some true else none
theorem miC_ok (b : Bool) : CtrSound Tryz.prog (miC b) := mk_sound _ InlOK.nil _ _
noncomputable def miS (m : Nat) (key nonce text p l : List Int) (n i : Int) : St := ⟨slotsOf 58 [(1, .ro false .u8 nonce), (2, .int .i64 n), (3, .ro false .u8 text), (4, .ptr 0 0 0), (12, .sl 2 0 0 1 m m false true), (13, .int .i64 i)], [.b [.ints .u8 32 key], .b [.ints .u8 64 p], .b [.ints .u8 m l]], true⟩
noncomputable def miS0 (key nonce text p : List Int) (n : Int) : St := ⟨slotsOf 58 [(1, .ro false .u8 nonce), (2, .int .i64 n), (3, .ro false .u8 text), (4, .ptr 0 0 0), (12, .nl (.slice none 0 0)), (13, .int .i64 0)], [.b [.ints .u8 32 key], .b [.ints .u8 64 p]], true⟩
def pieceO (key nonce : List Int) (n : Int) : Bool := decide (key.length = 32) && u8R key && decide (nonce.length = 12) && u8R nonce && decide (0 ≤ n) && decide (n ≤ 4294967295)
def miN (n i : Int) : Int := J (n + J (i.tdiv 64))
noncomputable def miV (key nonce text : List Int) (n i : Int) : Int := xorI .u8 (text.getD i.toNat 0) ((Cc.pcW key nonce (miN n i)).getD (0 + (i.tmod 64).toNat) 0)
def miO (key nonce : List Int) (k : Nat) (n i : Int) : Bool := andT (andT (andT (andT (andT (andT true (decide (i < (k : Int)))) (andT true (pieceO key nonce (miN n i)))) (inB i k)) (decide (i.toNat < k))) (inB (i.tmod 64) 64)) (decide (0 + (i.tmod 64).toNat < 64))
section
variable (m : Nat) (key nonce text p l : List Int) (n i : Int)
theorem mi_head : (execL Tryz.prog (miC true) 60 0 6 (atoms miB) ⟨slots0 Tryz.f76.ntmps [.agg [.ints .u8 32 key], .ro false .u8 nonce, .int .i64 n, .ro false .u8 text], [], true⟩).bind (St.cut [1, 2, 3, 4, 12, 13] 2) =
    some { miS0 key nonce text (Cc.pcW key nonce n) n with ob := andT true (andT true (pieceO key nonce n)) } := by kernel_rfl
theorem mi_one : (exec Tryz.prog (miC true) 60 0 (inner (inner (nthC 6 miB))) (miS m key nonce text p l n i)).bind (fun r => (r.2.cut [1, 2, 3, 4, 12, 13] 3).map fun q => (r.1, q)) =
    some (.normal, { miS (m + 1) key nonce text p (l ++ [miV key nonce text n i]) n (J (i + 1)) with ob := andT (miO key nonce text.length n i) (apO l.length m) }) := by kernel_rfl
theorem mi_end : (exec Tryz.prog (miC false) 60 0 (inner (inner (nthC 6 miB))) (miS m key nonce text p l n i)).bind (fun r => (r.2.cut [1, 2, 3, 4, 12, 13] 3).map fun q => (r.1, q)) =
    some (.exit 0, { miS m key nonce text p l n i with ob := andT true (!decide (i < (text.length : Int))) }) := by kernel_rfl
end
theorem mix_fn {key nonce text : List Int} {n : Int} (hk : key.length = 32) (hkb : u8R key = true) (hn : nonce.length = 12) (hnb : u8R nonce = true) (h0 : 0 ≤ n) (h1 : n + (text.length / 64 : Nat) ≤ 4294967295) (ht : text.length < 274877906000) :
    FnTr Tryz.prog 76 [.agg [.ints .u8 32 key], .ro false .u8 nonce, .int .i64 n, .ro false .u8 text] [] (.tup [.sl 0 0 0 1 text.length text.length false true, .int .i64 0]) [.b [.ints .u8 text.length (Cc.mixW key nonce n text)]] := by
  have hpo : ∀ q : Int, 0 ≤ q → q ≤ 4294967295 → pieceO key nonce q = true := fun q a b => by unfold pieceO; rw [hk, hkb, hn, hnb, decide_eq_true a, decide_eq_true b]; rfl
  have hM : ∀ j : Nat, ((List.range j).map (Cc.mxF key nonce n text)).length = j := fun j => by simp
  have hloop : Tr Tryz.prog none 0 (nthC 6 miB) (miS 0 key nonce text (Cc.pcW key nonce n) [] n 0) .normal (miS text.length key nonce text (Cc.pcW key nonce n) (Cc.mixW key nonce n text) n text.length) := by
    have key2 := Tr.loop (P := Tryz.prog) (ro := none) (k := 0) 0 (c := nthC 6 miB) (by kernel_rfl) (fun j : Nat => miS j key nonce text (Cc.pcW key nonce n) ((List.range j).map (Cc.mxF key nonce n text)) n j) text.length (s' := miS text.length key nonce text (Cc.pcW key nonce n) (Cc.mixW key nonce n text) n text.length) (fun j hj => ?_) ?_
    · exact key2
    · have e := mi_one j key nonce text (Cc.pcW key nonce n) ((List.range j).map (Cc.mxF key nonce n text)) n j
      have ed : ((j : Nat) : Int).tdiv 64 = ((j / 64 : Nat) : Int) := rfl
      have em : ((j : Nat) : Int).tmod 64 = ((j % 64 : Nat) : Int) := rfl
      have eN : miN n j = n + (j / 64 : Nat) := by unfold miN J; rw [ed, wrap_i64 ((j / 64 : Nat) : Int) (by omega) (by omega), wrap_i64 (n + ((j / 64 : Nat) : Int)) (by omega) (by omega)]
      have hv : miV key nonce text n j = Cc.mxF key nonce n text j := by unfold miV Cc.mxF; rw [eN, em, Int.toNat_natCast, Int.toNat_natCast, Nat.zero_add]
      have ho : miO key nonce text.length n j = true := by
        unfold miO
        rw [eN, hpo (n + ((j / 64 : Nat) : Int)) (by omega) (by omega), em]
        simp only [andT_iff, decide_eq_true_eq, true_and, and_true, Int.toNat_natCast]
        have hj64 : j % 64 < 64 := Nat.mod_lt _ (by decide)
        refine ⟨⟨⟨⟨by omega, inB_true (by omega) (by omega)⟩, by omega⟩, inB_true (by omega) (by omega)⟩, ?_⟩
        omega
      rw [hv, ho, hM, apO_true (by omega), show J ((j : Int) + 1) = ((j + 1 : Nat) : Int) from wrap_i64 _ (by omega) (by omega)] at e
      refine Tr.post (Tr.cut (miC_ok true) 60 _ 3 (by omega) e rfl) (Ent.same rfl ?_)
      show [_, _, Blk.b [SV.ints .u8 (j + 1) ((List.range j).map (Cc.mxF key nonce n text) ++ [Cc.mxF key nonce n text j])]] = [_, _, Blk.b [SV.ints .u8 (j + 1) ((List.range (j + 1)).map (Cc.mxF key nonce n text))]]
      rw [List.range_succ, List.map_append]; rfl
    · have e := mi_end text.length key nonce text (Cc.pcW key nonce n) (Cc.mixW key nonce n text) n text.length
      rw [decide_eq_false (show ¬ ((text.length : Int) < text.length) by omega)] at e
      exact Tr.cut (miC_ok false) 60 _ 3 (by omega) e rfl
  have k : FnTr Tryz.prog 76 [.agg [.ints .u8 32 key], .ro false .u8 nonce, .int .i64 n, .ro false .u8 text] [] (.tup [.sl 2 0 0 1 text.length text.length false true, .int .i64 0]) [.b [.ints .u8 32 key], .b [.ints .u8 64 (Cc.pcW key nonce n)], .b [.ints .u8 text.length (Cc.mixW key nonce n text)]] := by
    refine FnTr.restM (miC_ok true) 60 7 3 Tryz.func76 (by simp) rfl (fun s' x h => ?_) (s := miS text.length key nonce text (Cc.pcW key nonce n) (Cc.mixW key nonce n text) n text.length) (p := true) (by kernel_rfl) rfl rfl rfl
    have e := mi_head key nonce text n
    rw [hpo n h0 (by omega)] at e
    refine TrL.items (miC_ok true) 60 6 _ 2 (by simp) e rfl (by decide) ?_
    exact TrL.pre (s1 := miS 0 key nonce text (Cc.pcW key nonce n) [] n 0) (TrL.item 6 (by decide) hloop h) ((Ent.nothing 12 .u8 false true rfl).trans (Ent.same rfl rfl)) (by decide)
  exact FnTr.sel [2] k (by kernel_rfl)
end Go.Proofs.YtibfpjeeanppjaaGreat.R3
end
