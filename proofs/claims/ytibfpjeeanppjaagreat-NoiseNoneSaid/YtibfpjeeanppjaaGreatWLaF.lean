/- This file holds the texts LaC, LaD, LaE, LaF, a section each. No conditions beyond those in the theorems. -/
import Derived.Test.YtibfpjeeanppjaaGreatWLaB
set_option linter.all false
set_option maxRecDepth 100000
section
namespace Go.Proofs.YtibfpjeeanppjaaGreat.La
open Go Go.Sy Re Fe
theorem u8_iff' {x : Int} : u8 x = true ↔ 0 ≤ x ∧ x < 256 := Fe.u8_iff
theorem cl0_eq : ∀ n : Fin 256, andI .u8 ((n.val : Nat) : Int) 248 = IntKind.u8.wrap (IntKind.u8.wrap (((n.val : Nat) : Int).tdiv 8) * 8) ∧ u8 (andI .u8 ((n.val : Nat) : Int) 248) = true := by decide +kernel
theorem cl31_eq : ∀ n : Fin 256, orI .u8 (andI .u8 ((n.val : Nat) : Int) 127) 64 = IntKind.u8.wrap (((n.val : Nat) : Int).tmod 64 + 64) ∧ u8 (orI .u8 (andI .u8 ((n.val : Nat) : Int) 127) 64) = true ∧
    IntKind.i64.wrap (andI .u8 (shrI .u8 (orI .u8 (andI .u8 ((n.val : Nat) : Int) 127) 64) 7) 1) = 0 := by decide +kernel
theorem byte_fin {P : Int → Prop} (h : ∀ n : Fin 256, P ((n.val : Nat) : Int)) {x : Int} (hx : u8 x = true) : P x := by
  obtain ⟨h0, h1⟩ := u8_iff'.1 hx
  have := h ⟨x.toNat, by omega⟩
  rwa [show (((⟨x.toNat, by omega⟩ : Fin 256).val : Nat) : Int) = x by show ((x.toNat : Nat) : Int) = x; omega] at this
theorem all_set {l : List Int} (h : l.all u8 = true) (i : Nat) {a : Int} (ha : u8 a = true) : (l.set i a).all u8 = true := by
  rw [List.all_eq_true] at h ⊢
  intro x hx
  rcases List.mem_or_eq_of_mem_set hx with hx | rfl
  · exact h x hx
  · exact ha
theorem all_get {l : List Int} (h : l.all u8 = true) (i : Nat) : u8 (l.getD i 0) = true := by
  rw [List.getD_eq_getElem?_getD]
  cases e : l[i]? with
  | none => rfl
  | some x => exact List.all_eq_true.1 h x (List.mem_of_getElem? e)
theorem cl_eq {l : List Int} (h : l.all u8 = true) (hn : l.length = 32) : clL l = clR l ∧ (clL l).all u8 = true ∧ (clL l).length = 32 ∧ val256 (clL l) / 2 ^ 255 % 2 = 0 := by
  have e0 := byte_fin (P := fun x => andI .u8 x 248 = IntKind.u8.wrap (IntKind.u8.wrap (x.tdiv 8) * 8) ∧ u8 (andI .u8 x 248) = true) cl0_eq (all_get h 0)
  have hs := all_set h 0 e0.2
  have e1 := byte_fin (P := fun x => orI .u8 (andI .u8 x 127) 64 = IntKind.u8.wrap (x.tmod 64 + 64) ∧ u8 (orI .u8 (andI .u8 x 127) 64) = true ∧ IntKind.i64.wrap (andI .u8 (shrI .u8 (orI .u8 (andI .u8 x 127) 64) 7) 1) = 0) cl31_eq (all_get hs 31)
  have hl : (clL l).length = 32 := by unfold clL; rw [List.length_set, List.length_set, hn]
  have ha : (clL l).all u8 = true := all_set hs 31 e1.2.1
  refine ⟨?_, ha, hl, ?_⟩
  · unfold clL clR
    rw [e1.1, e0.1]
  · have hb := bit_val ha hl (i := 255) (by omega)
    rw [← hb]
    unfold bitI
    have hg : (clL l).getD 31 0 = orI .u8 (andI .u8 ((l.set 0 (andI .u8 (l.getD 0 0) 248)).getD 31 0) 127) 64 := by
      unfold clL
      rw [List.getD_eq_getElem?_getD, List.getElem?_set_self (by rw [List.length_set, hn]; omega)]; rfl
    show IntKind.i64.wrap (andI .u8 (shrI .u8 ((clL l).getD 31 0) 7) 1) = 0
    rw [hg]
    exact e1.2.2
def bt (e : List Int) (j : Nat) : Bool := decide (val256 e / 2 ^ (255 - j) % 2 = 1)
theorem bitN_dec (x : Int) : bitN (decide (x % 2 = 1)) = x % 2 := by
  by_cases h : x % 2 = 1
  · rw [decide_eq_true h, h]; rfl
  · rw [decide_eq_false h]
    show (0 : Int) = _
    omega
theorem bitI_bt {e : List Int} (h : e.all u8 = true) (hn : e.length = 32) {j : Nat} (hj : j < 256) : bitI e (255 - j) = bitN (bt e j) := by
  rw [show (255 : Int) - j = ((255 - j : Nat) : Int) by omega, bit_val h hn (by omega)]
  exact (bitN_dec _).symm
theorem qbit_val {e : List Int} (he : e.all u8 = true) (hn : e.length = 32) {i : Nat} (h1 : i < 256) : qbit e i = val256 e / 2 ^ i % 2 := by
  have hd := digN_val e he
  rw [hn] at hd
  have v0 := val256_nonneg he
  generalize val256 e = v at *
  have e1 : (i : Int).tdiv 8 = ((i / 8 : Nat) : Int) := by rw [Int.tdiv_eq_ediv_of_nonneg (by omega)]; omega
  have e2 : (i : Int).tmod 8 = ((i % 8 : Nat) : Int) := by rw [Int.tmod_eq_emod_of_nonneg (by omega)]; omega
  have w1 : IntKind.i64.wrap ((i / 8 : Nat) : Int) = ((i / 8 : Nat) : Int) := wrap_i64 _ (by omega) (by omega)
  have w2 : IntKind.u64.wrap ((i % 8 : Nat) : Int) = ((i % 8 : Nat) : Int) := by rw [wrap_u64]; omega
  unfold qbit
  rw [e1, e2, w1, w2, Int.toNat_natCast, Int.toNat_natCast, Nat.zero_add, hd, digN_getD _ _ _ (by omega)]
  rw [shr_eq _ _ _ (by show i % 8 ≤ 8; omega)]
  have hs : v / 256 ^ (i / 8) / 2 ^ (i % 8) = v / 2 ^ i := by
    rw [Int.ediv_ediv_of_nonneg (Int.pow_nonneg (by omega)), show (256 : Int) = 2 ^ 8 from rfl, ← Int.pow_mul, ← Int.pow_add]
    congr 2
    omega
  rw [← hs]
  generalize v / 256 ^ (i / 8) = Y
  have hr : i % 8 = 0 ∨ i % 8 = 1 ∨ i % 8 = 2 ∨ i % 8 = 3 ∨ i % 8 = 4 ∨ i % 8 = 5 ∨ i % 8 = 6 ∨ i % 8 = 7 := by omega
  rcases hr with h | h | h | h | h | h | h | h <;> rw [h] <;> simp only [Int.reducePow] <;> rw [Int.tmod_eq_emod_of_nonneg (by omega)] <;> omega
theorem M_val {a b : List Int} (ha : Bd a) (hb : Bd b) : Bd (fM a b) ∧ fv (fM a b) = mm (fv a) (fv b) := mul_val ha hb
theorem A_val {a b : List Int} (ha : Bd a) (hb : Bd b) : Bd (addFe a b) ∧ fv (addFe a b) = ma (fv a) (fv b) := add_val ha hb
theorem S_val {a b : List Int} (ha : Bd a) (hb : Bd b) : Bd (subFe a b) ∧ fv (subFe a b) = ms (fv a) (fv b) := sub_val ha hb
structure BW (s : W4) : Prop where
  x0 : Bd s.1
  z0 : Bd s.2.1
  x1 : Bd s.2.2.1
  z1 : Bd s.2.2.2
def fvs (s : W4) : S4 := (fv s.1, fv s.2.1, fv s.2.2.1, fv s.2.2.2)
theorem k_val : Bd (smallFe 121665) ∧ fv (smallFe 121665) = 121665 := by
  obtain ⟨h1, h2⟩ := small_val (n := 121665) (by decide) (by decide)
  exact ⟨h1, by unfold fv; rw [h2]; decide⟩
section
variable {u x z x' z' : List Int} (hu : Bd u) (hx : Bd x) (hz : Bd z) (hx' : Bd x') (hz' : Bd z')
include hx hz in
theorem wdX_val : Bd (wdX x z) ∧ fv (wdX x z) = dX (fv x) (fv z) := by
  obtain ⟨a1, a2⟩ := A_val hx hz
  obtain ⟨b1, b2⟩ := S_val hx hz
  obtain ⟨c1, c2⟩ := M_val a1 a1
  obtain ⟨d1, d2⟩ := M_val b1 b1
  obtain ⟨e1, e2⟩ := M_val c1 d1
  exact ⟨e1, by unfold wdX dX; rw [e2, c2, d2, a2, b2]⟩
include hx hz in
theorem wdE_val : Bd (wdE x z) ∧ fv (wdE x z) = dE (fv x) (fv z) := by
  obtain ⟨a1, a2⟩ := A_val hx hz
  obtain ⟨b1, b2⟩ := S_val hx hz
  obtain ⟨c1, c2⟩ := M_val a1 a1
  obtain ⟨d1, d2⟩ := M_val b1 b1
  obtain ⟨e1, e2⟩ := S_val c1 d1
  exact ⟨e1, by unfold wdE dE; rw [e2, c2, d2, a2, b2]⟩
include hx hz in
theorem wdZ_val : Bd (wdZ x z) ∧ fv (wdZ x z) = dZ (fv x) (fv z) := by
  obtain ⟨a1, a2⟩ := A_val hx hz
  obtain ⟨c1, c2⟩ := M_val a1 a1
  obtain ⟨e1, e2⟩ := wdE_val hx hz
  obtain ⟨f1, f2⟩ := M_val k_val.1 e1
  obtain ⟨g1, g2⟩ := A_val c1 f1
  obtain ⟨h1, h2⟩ := M_val e1 g1
  exact ⟨h1, by unfold wdZ dZ; rw [h2, g2, f2, e2, c2, a2, k_val.2]⟩
include hx hz hx' hz' in
theorem waL_val : Bd (waL x z x' z') ∧ fv (waL x z x' z') = aL (fv x) (fv z) (fv x') (fv z') := by
  obtain ⟨a1, a2⟩ := A_val hx hz
  obtain ⟨b1, b2⟩ := S_val hx' hz'
  obtain ⟨c1, c2⟩ := M_val b1 a1
  exact ⟨c1, by unfold waL aL; rw [c2, a2, b2]⟩
include hx hz hx' hz' in
theorem waR_val : Bd (waR x z x' z') ∧ fv (waR x z x' z') = aR (fv x) (fv z) (fv x') (fv z') := by
  obtain ⟨a1, a2⟩ := S_val hx hz
  obtain ⟨b1, b2⟩ := A_val hx' hz'
  obtain ⟨c1, c2⟩ := M_val b1 a1
  exact ⟨c1, by unfold waR aR; rw [c2, a2, b2]⟩
include hx hz hx' hz' in
theorem waX_val : Bd (waX x z x' z') ∧ fv (waX x z x' z') = aX (fv x) (fv z) (fv x') (fv z') := by
  obtain ⟨a1, a2⟩ := waL_val hx hz hx' hz'
  obtain ⟨b1, b2⟩ := waR_val hx hz hx' hz'
  obtain ⟨c1, c2⟩ := A_val a1 b1
  obtain ⟨d1, d2⟩ := M_val c1 c1
  exact ⟨d1, by unfold waX aX; rw [d2, c2, a2, b2]⟩
include hu hx hz hx' hz' in
theorem waZ_val : Bd (waZ u x z x' z') ∧ fv (waZ u x z x' z') = aZ (fv u) (fv x) (fv z) (fv x') (fv z') := by
  obtain ⟨a1, a2⟩ := waL_val hx hz hx' hz'
  obtain ⟨b1, b2⟩ := waR_val hx hz hx' hz'
  obtain ⟨c1, c2⟩ := S_val a1 b1
  obtain ⟨d1, d2⟩ := M_val c1 c1
  obtain ⟨e1, e2⟩ := M_val hu d1
  exact ⟨e1, by unfold waZ aZ; rw [e2, d2, c2, a2, b2]⟩
end
theorem wstp_val {u : List Int} (hu : Bd u) (b : Bool) {s : W4} (h : BW s) : BW (wstp u b s) ∧ fvs (wstp u b s) = stp (fv u) b (fvs s) := by
  cases b with
  | true =>
    have a := waX_val h.x1 h.z1 h.x0 h.z0
    have c := waZ_val hu h.x1 h.z1 h.x0 h.z0
    have d := wdX_val h.x1 h.z1
    have e := wdZ_val h.x1 h.z1
    exact ⟨⟨a.1, c.1, d.1, e.1⟩, Prod.ext a.2 (Prod.ext c.2 (Prod.ext d.2 e.2))⟩
  | false =>
    have a := waX_val h.x0 h.z0 h.x1 h.z1
    have c := waZ_val hu h.x0 h.z0 h.x1 h.z1
    have d := wdX_val h.x0 h.z0
    have e := wdZ_val h.x0 h.z0
    exact ⟨⟨d.1, e.1, a.1, c.1⟩, Prod.ext d.2 (Prod.ext e.2 (Prod.ext a.2 c.2))⟩
theorem one_val : Bd (smallFe 1) ∧ fv (smallFe 1) = 1 := by
  obtain ⟨h1, h2⟩ := small_val (n := 1) (by decide) (by decide)
  exact ⟨h1, by unfold fv; rw [h2]; decide⟩
theorem wN_val {u : List Int} (hu : Bd u) (bits : Nat → Bool) : ∀ j, BW (wN u bits j) ∧ fvs (wN u bits j) = run (fv u) bits (beg (fv u)) j
  | 0 => by
    refine ⟨⟨one_val.1, Bd.z5, hu, one_val.1⟩, ?_⟩
    show (fv (smallFe 1), fv z5, fv u, fv (smallFe 1)) = (1, 0, fv u, 1)
    rw [one_val.2, show fv z5 = 0 by decide]
  | j + 1 => by
    obtain ⟨h1, h2⟩ := wN_val hu bits j
    obtain ⟨h3, h4⟩ := wstp_val hu (bits j) h1
    exact ⟨h3, by rw [wN, h4, h2]; rfl⟩
theorem cmW_val {u : List Int} (hu : Bd u) (bits : Nat → Bool) : Bd (cmW u bits) ∧ fv (cmW u bits) = fin (run (fv u) bits (beg (fv u)) 256) := by
  obtain ⟨h1, h2⟩ := wN_val hu bits 256
  obtain ⟨h3, h4⟩ := inv_val h1.z0
  obtain ⟨h5, h6⟩ := M_val h1.x0 h3
  rw [cmW, Lock_eq]
  refine ⟨h5, ?_⟩
  rw [h6, h4, ← h2]
  rfl
structure OL (s : L4) : Prop where
  x0 : okN s.1 = true
  z0 : okN s.2.1 = true
  x1 : okN s.2.2.1 = true
  z1 : okN s.2.2.2 = true
noncomputable def vrs (s : L4) : S4 := (vR s.1, vR s.2.1, vR s.2.2.1, vR s.2.2.2)
theorem rA_val (a b : List Int) : vR (rA a b) = ma (vR a) (vR b) := vR_refM _
theorem rS_val (a b : List Int) : vR (rS a b) = ms (vR a) (vR b) := vR_refM _
theorem rM_val (a b : List Int) : vR (rM a b) = mm (vR a) (vR b) := vR_refM _
theorem qstp_ok (u k : List Int) (b : Bool) (s : L4) : OL (qstp u k b s) := by
  cases b with
  | true => exact ⟨refM_okN _, refM_okN _, refM_okN _, refM_okN _⟩
  | false => exact ⟨refM_okN _, refM_okN _, refM_okN _, refM_okN _⟩
theorem q_dX (x z : List Int) : vR (qdX x z) = dX (vR x) (vR z) := by unfold qdX dX; rw [rM_val, rM_val, rM_val, rA_val, rS_val]
theorem q_dE (x z : List Int) : vR (qdE x z) = dE (vR x) (vR z) := by unfold qdE dE; rw [rS_val, rM_val, rM_val, rA_val, rS_val]
theorem q_dZ {k : List Int} (hk : vR k = 121665) (x z : List Int) : vR (qdZ k x z) = dZ (vR x) (vR z) := by unfold qdZ dZ; rw [rM_val, rA_val, rM_val, rM_val, rA_val, q_dE, hk]
theorem q_aL (x z x' z' : List Int) : vR (qaL x z x' z') = aL (vR x) (vR z) (vR x') (vR z') := by unfold qaL aL; rw [rM_val, rS_val, rA_val]
theorem q_aR (x z x' z' : List Int) : vR (qaR x z x' z') = aR (vR x) (vR z) (vR x') (vR z') := by unfold qaR aR; rw [rM_val, rA_val, rS_val]
theorem q_aX (x z x' z' : List Int) : vR (qaX x z x' z') = aX (vR x) (vR z) (vR x') (vR z') := by unfold qaX aX; rw [rM_val, rA_val, q_aL, q_aR]
theorem q_aZ (u x z x' z' : List Int) : vR (qaZ u x z x' z') = aZ (vR u) (vR x) (vR z) (vR x') (vR z') := by unfold qaZ aZ; rw [rM_val, rM_val, rS_val, q_aL, q_aR]
theorem qstp_val {k : List Int} (hk : vR k = 121665) (u : List Int) (b : Bool) (s : L4) : vrs (qstp u k b s) = stp (vR u) b (vrs s) := by
  cases b with
  | true =>
    show (vR (qaX _ _ _ _), vR (qaZ _ _ _ _ _), vR (qdX _ _), vR (qdZ _ _ _)) = (_, _, _, _)
    rw [q_aX, q_aZ, q_dX, q_dZ hk]; rfl
  | false =>
    show (vR (qdX _ _), vR (qdZ _ _ _), vR (qaX _ _ _ _), vR (qaZ _ _ _ _ _)) = (_, _, _, _)
    rw [q_aX, q_aZ, q_dX, q_dZ hk]; rfl
end Go.Proofs.YtibfpjeeanppjaaGreat.La
end
section
namespace Go.Proofs.YtibfpjeeanppjaaGreat.La
open Go Go.Sy Re Fe
noncomputable def lad (sec : List Int) (n : Int) : Int := fin (run n (fun j => bt (clL sec) (j + 1)) (beg n) 255)
noncomputable def ladW (sec : List Int) (n : Int) : List Int := Lock (digN 32 (lad sec n))
theorem ladW_len (sec : List Int) (n : Int) : (ladW sec n).length = 32 := by rw [ladW, Lock_eq, digN_length]
theorem ladW_key (sec : List Int) (n : Int) : keyOK (ladW sec n) = true := keyOK_iff.2 ⟨ladW_len _ _, by rw [ladW, Lock_eq]; exact digN_u8 _ _⟩
theorem lad_range (sec : List Int) (n : Int) : 0 ≤ lad sec n ∧ lad sec n < Pm := mod_range _
theorem clW_ok {sec : List Int} (h : keyOK sec = true) : (clW sec).all u8 = true ∧ (clW sec).length = 32 ∧ val256 (clW sec) / 2 ^ 255 % 2 = 0 ∧ clW sec = clR sec := by
  obtain ⟨h1, h2⟩ := keyOK_iff.1 h
  obtain ⟨a, b, c, d⟩ := cl_eq h2 h1
  rw [clW, Lock_eq]
  exact ⟨b, c, d, a⟩
noncomputable def climbF : List SV → Option (SV × List Blk × Bool)
  | [.agg [.ints .u8 32 sec], .agg [.ints .u64 5 u]] => some (.agg [.ints .u64 5 (cmW u (bt (clW sec)))], [], keyOK sec)
  | _ => none
noncomputable def climbE : Entry Tryz.prog := .val 64 _ Tryz.func64 (by decide) rfl false 0 climbF fun vs v new e => by
  unfold climbF at e
  split at e
  · simp only [Option.some.injEq, Prod.mk.injEq] at e
    obtain ⟨rfl, rfl, h⟩ := e
    obtain ⟨a, b, _⟩ := clW_ok h
    exact climb_fn (keyOK_iff.1 h).1 fun j hj => bitI_bt a b hj
  · cases e
theorem bytes_lad {sec u : List Int} (h : keyOK sec = true) (hu : Bd u) : bytesFe (cmW u (bt (clW sec))) = ladW sec (fv u) := by
  obtain ⟨h1, h2⟩ := cmW_val hu (bt (clW sec))
  obtain ⟨_, _, c, _⟩ := clW_ok h
  have hb : bt (clW sec) 0 = false := by
    unfold bt
    rw [show 255 - 0 = 255 from rfl, c]; rfl
  rw [h1.bytes, h2, lad_eq _ _ hb 254, ladW, Lock_eq, lad, clW, Lock_eq]
theorem nine_val : Bd (smallFe 9) ∧ fv (smallFe 9) = 9 := by
  obtain ⟨h1, h2⟩ := small_val (n := 9) (by decide) (by decide)
  exact ⟨h1, by unfold fv; rw [h2]; decide⟩
noncomputable def pbC : Ctr := mk (P := Tryz.prog) [climbE, Fe.smallE, Fe.bytesE, Fe.fromE] []
theorem pbC_ok : CtrSound Tryz.prog pbC := mk_sound _ InlOK.nil _ _
noncomputable def publicF : List SV → Option (SV × List Blk × Bool)
  | [.agg [.ints .u8 32 sec]] => some (.agg [.ints .u8 32 (ladW sec 9)], [], keyOK sec)
  | _ => none
theorem public_fn {sec : List Int} (h : keyOK sec = true) : FnTr Tryz.prog 37 [.agg [.ints .u8 32 sec]] [] (.agg [.ints .u8 32 (ladW sec 9)]) [] := by
  have k : FnTr Tryz.prog 37 [.agg [.ints .u8 32 sec]] [] (.agg [.ints .u8 32 (bytesFe (cmW (smallFe 9) (bt (clW sec))))]) [] :=
    call0 pbC_ok 60 Tryz.func37 (p := andT true (andT true (keyOK sec))) (by kernel_rfl) (by rw [h]; rfl) rfl
  rw [bytes_lad h nine_val.1, nine_val.2] at k
  exact k
noncomputable def publicE : Entry Tryz.prog := .val 37 _ Tryz.func37 (by decide) rfl false 0 publicF fun vs v new e => by
  unfold publicF at e
  split at e
  · simp only [Option.some.injEq, Prod.mk.injEq] at e
    obtain ⟨rfl, rfl, h⟩ := e
    exact public_fn h
  · cases e
noncomputable def rclF : List SV → Option (SV × List Blk × Bool)
  | [.agg [.ints .u8 32 l]] => some (.agg [.ints .u8 32 (clW l)], [], keyOK l)
  | _ => none
theorem rcl_fn {l : List Int} (h : keyOK l = true) : FnTr Tryz.prog 85 [.agg [.ints .u8 32 l]] [] (.agg [.ints .u8 32 (clW l)]) [] := by
  rw [(clW_ok h).2.2.2]
  have hl := (keyOK_iff.1 h).1
  exact call0 rc0_ok 60 Tryz.func85 (p := andT (andT true (true && decide (l.length = 32))) (true && decide ((l.set 0 (IntKind.u8.wrap (IntKind.u8.wrap ((l.getD 0 0).tdiv 8) * 8))).length = 32))) (by kernel_rfl) (by rw [List.length_set, hl]; rfl) rfl
noncomputable def rclE : Entry Tryz.prog := .val 85 _ Tryz.func85 (by decide) rfl false 0 rclF fun vs v new e => by
  unfold rclF at e
  split at e
  · simp only [Option.some.injEq, Prod.mk.injEq] at e
    obtain ⟨rfl, rfl, h⟩ := e
    exact rcl_fn h
  · cases e
noncomputable def smC1 : Ctr := mk (P := Tryz.prog) [Re.smallE] [] fun i => if i = 7 then some false else none
theorem smC1_ok : CtrSound Tryz.prog smC1 := mk_sound _ InlOK.nil _ _
def smallsF : List SV → Option Int
  | [.int .i64 n] => bif n == 9 then some 9 else bif n == 121665 then some 121665 else none
  | _ => none
noncomputable def smaF (vs : List SV) : Option (SV × List Blk × Bool) := (smallsF vs).map fun n => (.agg [.ints .i64 16 (refN n)], [], true)
def sm9 : List Int := 9 :: List.replicate 31 0
def smK : List Int := 56129 :: 1 :: List.replicate 30 0
theorem sm9_val : smF sm9 = refN 9 := by unfold smF; rw [show sB (gD sm9) 32 % Pm = 9 by decide]
theorem smK_val : smF smK = refN 121665 := by unfold smF; rw [show sB (gD smK) 32 % Pm = 121665 by decide]
theorem small9_fn : FnTr Tryz.prog 54 [.int .i64 9] [] (.agg [.ints .i64 16 (refN 9)]) [] := by
  rw [← sm9_val]
  exact call0 smC1_ok 60 Tryz.func54 (p := true) (by kernel_rfl) rfl rfl
theorem smallK_fn : FnTr Tryz.prog 54 [.int .i64 121665] [] (.agg [.ints .i64 16 (refN 121665)]) [] := by
  rw [← smK_val]
  exact call0 smC1_ok 60 Tryz.func54 (p := true) (by kernel_rfl) rfl rfl
noncomputable def smallRE : Entry Tryz.prog := .val 54 _ Tryz.func54 (by decide) rfl false 0 smaF fun vs v new e => by
  unfold smaF smallsF at e
  split at e
  · rename_i n
    by_cases h1 : n = 9
    · subst h1
      cases e
      exact small9_fn
    · by_cases h2 : n = 121665
      · subst h2
        cases e
        exact smallK_fn
      · rw [show (n == 9) = false by simpa using h1, show (n == 121665) = false by simpa using h2] at e
        cases e
  · cases e
noncomputable def cfC (b : Bool) : Ctr := mk (P := Tryz.prog) [Re.addE, Re.subE, Re.mulE, Re.invE, Re.bytesE, rclE, smallRE] [] fun i => if i = 32 then some b else none
theorem cfC_ok (b : Bool) : CtrSound Tryz.prog (cfC b) := mk_sound _ InlOK.nil _ _
noncomputable def l0 (u : List Int) : L4 := (one16, z16, u, one16)
noncomputable def kR : List Int := refN 121665
theorem kR_val : vR kR = 121665 ∧ okN kR = true := ⟨vR_refN (by decide) (by decide), refN_okN (by decide) (by decide)⟩
theorem co_head (sec u : List Int) : (execL Tryz.prog (cfC true) 60 0 8 (atoms (bodyOf Tryz.f53)) ⟨slots0 Tryz.f53.ntmps [.agg [.ints .u8 32 sec], .agg [.ints .i64 16 u]], [], true⟩).bind (St.cut [2, 3, 4, 5, 6, 7, 8, 9, 10, 11] 9) = some { coS sec u (clW sec) (l0 u) kR 254 with ob := andT true (andT true (keyOK sec)) } := by kernel_rfl
noncomputable def qN (u : List Int) (bits : Nat → Bool) : Nat → L4
  | 0 => l0 u
  | j + 1 => qstp u kR (bits j) (qN u bits j)
theorem qN_val {u : List Int} (hu : okN u = true) (bits : Nat → Bool) : ∀ j, OL (qN u bits j) ∧ vrs (qN u bits j) = run (vR u) bits (beg (vR u)) j
  | 0 => ⟨⟨show okN one16 = true by decide, show okN z16 = true by decide, hu, show okN one16 = true by decide⟩, by
    show (vR one16, vR z16, vR u, vR one16) = (1, 0, vR u, 1)
    rw [show vR one16 = 1 by decide, show vR z16 = 0 by decide]⟩
  | j + 1 => ⟨qstp_ok _ _ _ _, by rw [qN, qstp_val kR_val.1, (qN_val hu bits j).2]; rfl⟩
theorem qbO_true {i : Int} (h0 : 0 ≤ i) (h1 : i < 256) : qbO i = true := by
  have e : i.tdiv 8 = i / 8 := Int.tdiv_eq_ediv_of_nonneg h0
  have e2 : i.tmod 8 = i % 8 := Int.tmod_eq_emod_of_nonneg h0
  have w : IntKind.i64.wrap (i.tdiv 8) = i / 8 := by rw [e]; exact wrap_i64 _ (by omega) (by omega)
  have w2 : IntKind.u64.wrap (i.tmod 8) = i % 8 := by rw [e2, wrap_u64]; omega
  unfold qbO inB
  rw [w, w2]
  simp only [andT_iff, Bool.and_eq_true, decide_eq_true_eq, true_and]
  omega
theorem co_fin (sec u cl k : List Int) (s : L4) (i : Int) (h : i = -1) : Tr Tryz.prog none 0 coB (coS sec u cl s k i) (.exit 0) (coS sec u cl s k (-1)) := by
  subst h
  exact Tr.post (Tr.cut (coC_ok false false false) 60 _ 9 (by omega) (co_end sec u cl k s (-1)) rfl) (Ent.same rfl rfl)
theorem co_loop {sec u : List Int} (h : keyOK sec = true) (hu : okN u = true) : Tr Tryz.prog none 0 (nthC 8 (bodyOf Tryz.f53)) (coS sec u (clW sec) (l0 u) kR 254) .normal (coS sec u (clW sec) (qN u (fun j => bt (clW sec) (j + 1)) 255) kR (-1)) := by
  obtain ⟨a, b, _, _⟩ := clW_ok h
  have key := Tr.loop (P := Tryz.prog) (ro := none) (k := 0) 0 (c := nthC 8 (bodyOf Tryz.f53)) (by kernel_rfl) (fun j : Nat => coS sec u (clW sec) (qN u (fun j => bt (clW sec) (j + 1)) j) kR (254 - j)) 255 (s' := coS sec u (clW sec) (qN u (fun j => bt (clW sec) (j + 1)) 255) kR (-1)) (fun j hj => ?_) ?_
  · exact key
  · have e1 : (254 : Int) - j - 1 = 254 - ((j + 1 : Nat) : Int) := by omega
    have hw : IntKind.i64.wrap (254 - (j : Int) - 1) = 254 - ((j + 1 : Nat) : Int) := by rw [wrap_i64 _ (by omega) (by omega), e1]
    obtain ⟨o0, o1, o2, o3⟩ := (qN_val hu (fun j => bt (clW sec) (j + 1)) j).1
    have ho := qbO_true (i := 254 - (j : Int)) (by omega) (by omega)
    have hq : qbit (clW sec) (254 - (j : Int)) = val256 (clW sec) / 2 ^ (255 - (j + 1)) % 2 := by
      rw [show (254 : Int) - j = ((255 - (j + 1) : Nat) : Int) by omega]
      exact qbit_val a b (by omega)
    cases hb : bt (clW sec) (j + 1) with
    | true =>
      have hq1 : qbit (clW sec) (254 - (j : Int)) = 1 := by rw [hq]; exact of_decide_eq_true hb
      have k := co_one sec u (clW sec) kR (qN u (fun j => bt (clW sec) (j + 1)) j) (254 - j)
      rw [hw, qO_true (by rw [ho, hq1]; rfl) hu kR_val.2 o2 o3 o0 o1, hq1] at k
      refine Tr.post (Tr.cut (coC_ok true true true) 60 _ 9 (by omega) k rfl) (Ent.same rfl ?_)
      show (coS _ _ _ _ _ _).h = (coS _ _ _ _ _ _).h
      rw [qN, hb]
    | false =>
      have hq1 : ¬ qbit (clW sec) (254 - (j : Int)) = 1 := by rw [hq]; exact of_decide_eq_false hb
      have hq2 : (qbit (clW sec) (254 - (j : Int)) == 1) = false := by simpa using hq1
      have k := co_zero sec u (clW sec) kR (qN u (fun j => bt (clW sec) (j + 1)) j) (254 - j)
      rw [hw, qO_true (by rw [ho, hq2]; rfl) hu kR_val.2 o0 o1 o2 o3, hq2] at k
      refine Tr.post (Tr.cut (coC_ok true false false) 60 _ 9 (by omega) k rfl) (Ent.same rfl ?_)
      show (coS _ _ _ _ _ _).h = (coS _ _ _ _ _ _).h
      rw [qN, hb]
  · exact co_fin _ _ _ _ _ _ (by decide)
end Go.Proofs.YtibfpjeeanppjaaGreat.La
end
section
namespace Go.Proofs.YtibfpjeeanppjaaGreat.La
open Go Go.Sy Re Fe
theorem fin_lad {sec u : List Int} (hu : okN u = true) : vR (rM (qN u (fun j => bt (clW sec) (j + 1)) 255).1 (refN (pwm (vR (qN u (fun j => bt (clW sec) (j + 1)) 255).2.1) (Pm - 2).toNat))) = lad sec (vR u) := by
  obtain ⟨h1, h2⟩ := qN_val hu (fun j => bt (clW sec) (j + 1)) 255
  generalize hq : qN u (fun j => bt (clW sec) (j + 1)) 255 = q at h1 h2 ⊢
  have hi := pwm_range (vR q.2.1) (Pm - 2).toNat
  rw [rM_val, vR_refN hi.1 hi.2]
  have e : lad sec (vR u) = fin (run (vR u) (fun j => bt (clW sec) (j + 1)) (beg (vR u)) 255) := by unfold lad clW; rw [Lock_eq]
  rw [e, ← h2]
  rfl
noncomputable def comeF : List SV → Option (SV × List Blk × Bool)
  | [.agg [.ints .u8 32 sec], .agg [.ints .i64 16 u]] => some (.agg [.ints .u8 32 (ladW sec (vR u))], [], keyOK sec && okN u)
  | _ => none
theorem come_fn {sec u : List Int} (h : keyOK sec = true) (hu : okN u = true) : FnTr Tryz.prog 53 [.agg [.ints .u8 32 sec], .agg [.ints .i64 16 u]] [] (.agg [.ints .u8 32 (ladW sec (vR u))]) [] := by
  have hl := co_loop h hu
  have hv := fin_lad (sec := sec) hu
  have hok := (qN_val hu (fun j => bt (clW sec) (j + 1)) 255).1
  generalize qN u (fun j => bt (clW sec) (j + 1)) 255 = q at hl hv hok
  unfold ladW
  rw [← hv]
  refine FnTr.restM (cfC_ok true) 60 9 0 Tryz.func53 (by simp) rfl (fun s' x hh => ?_) (s := coS sec u (clW sec) q kR (-1)) (p := andT (andT (andT true (andT true (okN q.2.1))) (andT true (okP q.1 && okP (refN (pwm (vR q.2.1) (Pm - 2).toNat))))) (andT true (okP (rM q.1 (refN (pwm (vR q.2.1) (Pm - 2).toNat)))))) (by kernel_rfl) ?_ rfl rfl
  · refine TrL.items (cfC_ok true) 60 8 _ 9 (by simp) (co_head sec u) (by rw [h]; rfl) (by decide) ?_
    exact TrL.item 8 (by decide) hl hh
  · rw [hok.z0, (okN_iff.1 hok.x0).1, refN_ok, refN_ok]; rfl
noncomputable def comeE : Entry Tryz.prog := .val 53 _ Tryz.func53 (by decide) rfl false 0 comeF fun vs v new e => by
  unfold comeF at e
  split at e
  · simp only [Option.some.injEq, Prod.mk.injEq, Bool.and_eq_true] at e
    obtain ⟨rfl, rfl, h1, h2⟩ := e
    exact come_fn h1 h2
  · cases e
noncomputable def pqC (x : Bool) : Ctr := mk (P := Tryz.prog) [comeE, smallRE, Re.fromE] [] fun i => if i = 13 then some x else none
theorem pqC_ok (x : Bool) : CtrSound Tryz.prog (pqC x) := mk_sound _ InlOK.nil _ _
theorem n9_val : vR (refN 9) = 9 ∧ okN (refN 9) = true := ⟨vR_refN (by decide) (by decide), refN_okN (by decide) (by decide)⟩
noncomputable def publicRF : List SV → Option (SV × List Blk × Bool)
  | [.agg [.ints .u8 32 sec]] => some (.agg [.ints .u8 32 (ladW sec 9)], [], keyOK sec)
  | _ => none
theorem publicR_fn {sec : List Int} (h : keyOK sec = true) : FnTr Tryz.prog 25 [.agg [.ints .u8 32 sec]] [] (.agg [.ints .u8 32 (ladW sec 9)]) [] := by
  have k : FnTr Tryz.prog 25 [.agg [.ints .u8 32 sec]] [] (.agg [.ints .u8 32 (ladW sec (vR (refN 9)))]) [] :=
    call0 (pqC_ok true) 60 Tryz.func25 (p := andT true (andT true (keyOK sec && okN (refN 9)))) (by kernel_rfl) (by rw [h, n9_val.2]; rfl) rfl
  rw [n9_val.1] at k
  exact k
noncomputable def publicRE : Entry Tryz.prog := .val 25 _ Tryz.func25 (by decide) rfl false 0 publicRF fun vs v new e => by
  unfold publicRF at e
  split at e
  · simp only [Option.some.injEq, Prod.mk.injEq] at e
    obtain ⟨rfl, rfl, h⟩ := e
    exact publicR_fn h
  · cases e
def uP (l : List Int) : Int := val256 l % 57896044618658097711785492504343953926634992332820282019728792003956564819968 % Pm
noncomputable def agW (sec pub : List Int) : List Int := ladW sec (uP pub)
theorem from_uP {l : List Int} (h : keyOK l = true) : Bd (fromFe l) ∧ fv (fromFe l) = uP l := by
  obtain ⟨h1, h2⟩ := keyOK_iff.1 h
  obtain ⟨a, b⟩ := from_val h2 h1
  exact ⟨a, by unfold fv uP; rw [b]⟩
def k32 : List Int := List.replicate 32 0
noncomputable def agC (x : Bool) : Ctr := mk (P := Tryz.prog) [climbE, Fe.bytesE, Fe.fromE] [] fun i => if i = 14 then some x else none
theorem agC_ok (x : Bool) : CtrSound Tryz.prog (agC x) := mk_sound _ InlOK.nil _ _
def rangeX : SV := .iface 78 (.int .i64 4)
theorem bytes_ag {sec pub : List Int} (h : keyOK sec = true) (hp : keyOK pub = true) : bytesFe (cmW (fromFe pub) (bt (clW sec))) = agW sec pub := by
  rw [bytes_lad h (from_uP hp).1, (from_uP hp).2]; rfl
theorem agW_len (sec pub : List Int) : (agW sec pub).length = 32 := ladW_len _ _
noncomputable def agZ (sec pub : List Int) : Bool := decide (agW sec pub = k32)
noncomputable def agreeF (b : Bool) : List SV → Option (SV × List Blk × Bool)
  | [.agg [.ints .u8 32 sec], .agg [.ints .u8 32 pub]] => match b with
    | true => some (.tup [.agg [.ints .u8 32 k32], rangeX], [], keyOK sec && keyOK pub && agZ sec pub)
    | false => some (.tup [.agg [.ints .u8 32 (agW sec pub)], .nl .nilIface], [], keyOK sec && keyOK pub && !agZ sec pub)
  | _ => none
theorem agree_t {sec pub : List Int} (h : keyOK sec = true) (hp : keyOK pub = true) (hz : agZ sec pub = true) : FnTr Tryz.prog 67 [.agg [.ints .u8 32 sec], .agg [.ints .u8 32 pub]] [] (.tup [.agg [.ints .u8 32 k32], rangeX]) [] :=
  call0 (agC_ok true) 60 Tryz.func67 (p := andT (andT (andT true (andT true (keyOK sec))) (decide ((bytesFe (cmW (fromFe pub) (bt (clW sec)))).length = 32))) (decide (bytesFe (cmW (fromFe pub) (bt (clW sec))) = k32))) (by kernel_rfl)
    (by rw [bytes_ag h hp, h, decide_eq_true (agW_len sec pub), decide_eq_true (of_decide_eq_true hz)]; rfl) rfl
theorem agree_f {sec pub : List Int} (h : keyOK sec = true) (hp : keyOK pub = true) (hz : agZ sec pub = false) : FnTr Tryz.prog 67 [.agg [.ints .u8 32 sec], .agg [.ints .u8 32 pub]] [] (.tup [.agg [.ints .u8 32 (agW sec pub)], .nl .nilIface]) [] := by
  have k : FnTr Tryz.prog 67 [.agg [.ints .u8 32 sec], .agg [.ints .u8 32 pub]] [] (.tup [.agg [.ints .u8 32 (bytesFe (cmW (fromFe pub) (bt (clW sec))))], .nl .nilIface]) [] :=
    call0 (agC_ok false) 60 Tryz.func67 (p := andT (andT (andT true (andT true (keyOK sec))) (decide ((bytesFe (cmW (fromFe pub) (bt (clW sec)))).length = 32))) (!decide (bytesFe (cmW (fromFe pub) (bt (clW sec))) = k32))) (by kernel_rfl)
      (by rw [bytes_ag h hp, h, decide_eq_true (agW_len sec pub), decide_eq_false (of_decide_eq_false hz)]; rfl) rfl
  rw [bytes_ag h hp] at k
  exact k
noncomputable def agreeE (b : Bool) : Entry Tryz.prog := .val 67 _ Tryz.func67 (by decide) rfl false 0 (agreeF b) fun vs v new e => by
  unfold agreeF at e
  split at e
  · split at e
    · simp only [Option.some.injEq, Prod.mk.injEq, Bool.and_eq_true] at e
      obtain ⟨rfl, rfl, ⟨h1, h2⟩, h3⟩ := e
      exact agree_t h1 h2 h3
    · simp only [Option.some.injEq, Prod.mk.injEq, Bool.and_eq_true, Bool.not_eq_true'] at e
      obtain ⟨rfl, rfl, ⟨h1, h2⟩, h3⟩ := e
      exact agree_f h1 h2 h3
  · cases e
end Go.Proofs.YtibfpjeeanppjaaGreat.La
end
section
namespace Go.Proofs.YtibfpjeeanppjaaGreat.La
open Go Go.Sy Re Fe
end Go.Proofs.YtibfpjeeanppjaaGreat.La
end
