/- This file proves the contracts of field's word, From, Small, Bytes, Equal, Odd: which words and bytes come out. Conditions: those of Small's sign. -/
import Derived.Test.YtailgcdcdhhpnaaFeC
namespace Go.Proofs.Ytailgcdcdhhpnaa.Fe
open Go Go.Sy

/-! ### word, From -/
def wordS (n x : Int) : Int := orI .u64 (shlI .u64 n 8) (w64 x)
noncomputable def wordF (a b c d e f g h : Int) : Int := Lock (wordS (wordS (wordS (wordS (wordS (wordS (wordS (wordS 0 h) g) f) e) d) c) b) a)
noncomputable def wordAt (l : List Int) (i : Nat) : Int := wordF (l.getD i 0) (l.getD (i + 1) 0) (l.getD (i + 2) 0) (l.getD (i + 3) 0) (l.getD (i + 4) 0) (l.getD (i + 5) 0) (l.getD (i + 6) 0) (l.getD (i + 7) 0)
noncomputable def wordEF : List SV → Option (SV × List Blk × Bool)
  | [.ro _ .u8 l] => some (.int .u64 (wordAt l 0), [], decide (8 ≤ l.length))
  | _ => none
def ix : Nat → Int
  | 0 => 7
  | k + 1 => IntKind.i64.wrap (ix k - 1)
def obW (n : Nat) : Bool := [0, 1, 2, 3, 4, 5, 6, 7].foldl (fun o k => andT (andT o (inB (ix k) n)) (decide ((ix k).toNat < n))) true
theorem obW_iff {n : Nat} (h : 8 ≤ n) : obW n = true := by
  have e : ∀ k, k ≤ 7 → ix k = 7 - k := by decide
  have q : ∀ k : Nat, k ≤ 7 → inB (ix k) n = true ∧ decide ((ix k).toNat < n) = true := fun k hk => by
    rw [e k hk]
    unfold inB
    simp only [Bool.and_eq_true, decide_eq_true_eq]
    omega
  simp [obW, andT, q]
set_option maxRecDepth 100000 in
noncomputable def wordE : Entry Try.prog := .val 62 _ Try.func62 (by decide) rfl true 0 wordEF fun vs v new e => by
  unfold wordEF at e
  split at e
  · rename_i f l
    simp only [Option.some.injEq, Prod.mk.injEq, decide_eq_true_eq] at e
    obtain ⟨rfl, rfl, h8⟩ := e
    rw [wordAt, wordF, Lock_eq]
    exact call0 ctr0 100 Try.func62 (p := obW l.length) (by kernel_rfl) (obW_iff h8) rfl
  · cases e
noncomputable def fromW (l : List Int) : List Int :=
  [lo51 (wordAt l 0), lo51 (orI .u64 (shrI .u64 (wordAt l 0) 51) (shlI .u64 (wordAt l 8) 13)), lo51 (orI .u64 (shrI .u64 (wordAt l 8) 38) (shlI .u64 (wordAt l 16) 26)),
   lo51 (orI .u64 (shrI .u64 (wordAt l 16) 25) (shlI .u64 (wordAt l 24) 39)), lo51 (shrI .u64 (wordAt l 24) 12)]
noncomputable def fromFe (l : List Int) : List Int := Lock (fromW (lst 32 l))
noncomputable def fromEF : List SV → Option (SV × List Blk × Bool)
  | [.agg [.ints .u8 32 l]] => some (.agg [.ints .u64 5 (fromFe l)], [], true)
  | _ => none
theorem ctrWord : CtrSound Try.prog (mk [wordE] []) := mk_sound _ InlOK.nil _ _
set_option maxRecDepth 100000 in
noncomputable def fromE : Entry Try.prog := .val 37 _ Try.func37 (by decide) rfl false 0 fromEF fun vs v new e => by
  unfold fromEF at e
  split at e
  · rename_i l
    cases e
    refine FnTr.conv (bs := [.agg [.ints .u8 32 (lst 32 l)]]) (h2 := []) (h1 := []) (v := .agg [.ints .u64 5 (fromFe l)]) ?_ ⟨VE.lst _ _ _, trivial⟩ trivial (VE.refl _) trivial
    rw [fromFe, Lock_eq]
    exact call0 ctrWord 100 Try.func37 (p := true) (by kernel_rfl) rfl rfl
  · cases e

/-! ### Small -/
def z5 : List Int := [0, 0, 0, 0, 0]
def smallW (n : Int) : List Int := [lo51 (w64 n), hi51 (w64 n), 0, 0, 0]
noncomputable def smallFe (n : Int) : List Int := bif decide (n < 0) then subFe (subFe z5 (smallW (IntKind.i64.wrap (0 - IntKind.i64.wrap (n + 1))))) [1, 0, 0, 0, 0] else smallW n
noncomputable def smallEF : List SV → Option (SV × List Blk × Bool)
  | [.int .i64 n] => some (.agg [.ints .u64 5 (smallFe n)], [], true)
  | _ => none
theorem ctrSmall (b : Bool) : CtrSound Try.prog (mk [subE] [] fun i => if i = 6 then some b else none) := mk_sound _ InlOK.nil _ _
set_option maxRecDepth 100000 in
noncomputable def smallE : Entry Try.prog := .val 58 _ Try.func58 (by decide) rfl false 0 smallEF fun vs v new e => by
  unfold smallEF at e
  split at e
  · rename_i n
    cases e
    unfold smallFe
    cases hn : decide (n < 0) with
    | true => exact call0 (ctrSmall true) 100 Try.func58 (p := andT true (decide (n < 0))) (by kernel_rfl) (by rw [hn]; rfl) rfl
    | false => exact call0 (ctrSmall false) 100 Try.func58 (p := andT true (!decide (n < 0))) (by kernel_rfl) (by rw [hn]; rfl) rfl
  · cases e

/-! ### Bytes -/
def t0 (a : List Int) : Int := w64 (a.getD 0 0 + 19)
def t1 (a : List Int) : Int := w64 (a.getD 1 0 + hi51 (t0 a))
def t2 (a : List Int) : Int := w64 (a.getD 2 0 + hi51 (t1 a))
def t3 (a : List Int) : Int := w64 (a.getD 3 0 + hi51 (t2 a))
def t4 (a : List Int) : Int := w64 (a.getD 4 0 + hi51 (t3 a))
def overT (a : List Int) : List Int := [lo51 (t0 a), lo51 (t1 a), lo51 (t2 a), lo51 (t3 a), lo51 (t4 a)]
def bytesW (w : List Int) : List Int :=
  (List.range 32).map fun i => IntKind.u8.wrap (shrI .u64 ([orI .u64 (w.getD 0 0) (shlI .u64 (w.getD 1 0) 51), orI .u64 (shrI .u64 (w.getD 1 0) 13) (shlI .u64 (w.getD 2 0) 38), orI .u64 (shrI .u64 (w.getD 2 0) 26) (shlI .u64 (w.getD 3 0) 25),
    orI .u64 (shrI .u64 (w.getD 3 0) 39) (shlI .u64 (w.getD 4 0) 12)].getD (i / 8) 0) (8 * (i % 8)))
noncomputable def bytesFe (a : List Int) : List Int := Lock (bytesW (bif decide (hi51 (t4 (lst 5 (carF a))) > 0) then overT (lst 5 (carF a)) else lst 5 (carF a)))
/-- carry, its words one by one. -/
noncomputable def carEF2 : List SV → Option (SV × List Blk × Bool)
  | [.agg [.ints .u64 5 l]] => some (.agg [.ints .u64 5 (lst 5 (carF l))], [], true)
  | _ => none
noncomputable def carE2 : Entry Try.prog := .val 63 _ Try.func63 (by decide) rfl false 0 carEF2 fun vs v new e => by
  unfold carEF2 at e
  split at e
  · rename_i l
    cases e
    exact FnTr.conv (car_fn l) ⟨VE.refl _, trivial⟩ trivial (VE.lst _ _ _) trivial
  · cases e
noncomputable def bytesEF : List SV → Option (SV × List Blk × Bool)
  | [.agg [.ints .u64 5 a]] => some (.agg [.ints .u8 32 (bytesFe a)], [], true)
  | _ => none
theorem ctrBytes (b : Bool) : CtrSound Try.prog (mk [carE2] [] fun i => if i = 40 then some b else none) := mk_sound _ InlOK.nil _ _
set_option maxRecDepth 100000 in
noncomputable def bytesE : Entry Try.prog := .val 38 _ Try.func38 (by decide) rfl false 0 bytesEF fun vs v new e => by
  unfold bytesEF at e
  split at e
  · rename_i a
    cases e
    unfold bytesFe
    rw [Lock_eq]
    cases hn : decide (hi51 (t4 (lst 5 (carF a))) > 0) with
    | true => exact call0 (ctrBytes true) 200 Try.func38 (p := andT true (decide (hi51 (t4 (lst 5 (carF a))) > 0))) (by kernel_rfl) (by rw [hn]; rfl) rfl
    | false => exact call0 (ctrBytes false) 200 Try.func38 (p := andT true (!decide (hi51 (t4 (lst 5 (carF a))) > 0))) (by kernel_rfl) (by rw [hn]; rfl) rfl
  · cases e

/-! ### Equal, Odd -/
theorem bytesFe_length (a : List Int) : (bytesFe a).length = 32 := by rw [bytesFe, Lock_eq, bytesW]; simp
noncomputable def equalEF : List SV → Option (SV × List Blk × Bool)
  | [.agg [.ints .u64 5 a], .agg [.ints .u64 5 b]] => some (.bool (decide (bytesFe a = bytesFe b)), [], true)
  | _ => none
theorem ctrEq : CtrSound Try.prog (mk [bytesE] []) := mk_sound _ InlOK.nil _ _
set_option maxRecDepth 100000 in
noncomputable def equalE : Entry Try.prog := .val 56 _ Try.func56 (by decide) rfl false 0 equalEF fun vs v new e => by
  unfold equalEF at e
  split at e
  · rename_i a b
    cases e
    exact call0 ctrEq 60 Try.func56 (p := andT true (andT (decide ((bytesFe a).length = 32)) (decide ((bytesFe b).length = 32)))) (by kernel_rfl) (by simp [andT, bytesFe_length]) rfl
  · cases e
noncomputable def oddEF : List SV → Option (SV × List Blk × Bool)
  | [.agg [.ints .u64 5 a]] => some (.bool (andI .u8 ((bytesFe a).getD 0 0) 1 == 1), [], true)
  | _ => none
set_option maxRecDepth 100000 in
noncomputable def oddE : Entry Try.prog := .val 52 _ Try.func52 (by decide) rfl false 0 oddEF fun vs v new e => by
  unfold oddEF at e
  split at e
  · rename_i a
    cases e
    exact call0 ctrEq 60 Try.func52 (p := true) (by kernel_rfl) (by simp [andT, bytesFe_length]) rfl
  · cases e
end Go.Proofs.Ytailgcdcdhhpnaa.Fe
