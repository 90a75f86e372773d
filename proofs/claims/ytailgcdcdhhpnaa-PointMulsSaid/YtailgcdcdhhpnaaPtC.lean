/- This file proves contracts of the reference's ints and atLeast (burrowref07). Conditions: bytes within their kind, slices of at most 2^40 integers. -/
import Derived.Test.YtailgcdcdhhpnaaPtM
namespace Go.Proofs.Ytailgcdcdhhpnaa
open Go Go.Lift

/-- A counter that goes up, as the loop reckons it. -/
def cu : Nat → Int
  | 0 => 0
  | j + 1 => IntKind.i64.wrap (cu j + 1)
theorem cu_eq : ∀ j : Nat, j ≤ 1099511627776 → cu j = j
  | 0, _ => rfl
  | j + 1, h => by rw [cu, cu_eq j (by omega), IntWalk.i64_in _ (by omega)]; omega

def sliceArg (b n c : Nat) : Value := .slice (some ⟨b, 0, none⟩) n c

/-! ### ints -/
def intsR (bs : List Int) : Nat → List Int
  | 0 => List.replicate ((bs.length : Nat) : Int).toNat 0
  | j + 1 => (intsR bs j).set (0 + (cu j).toNat * 1) (IntKind.i64.wrap (bs.getD (0 + (cu j).toNat * 1) 0))
theorem intsR_length (bs : List Int) : ∀ j, (intsR bs j).length = bs.length
  | 0 => by simp [intsR]
  | j + 1 => by rw [intsR, List.length_set, intsR_length bs j]

def intsS (bs : List Int) (cap j : Nat) : St :=
  ⟨slotsOf 23 [(0, sliceArg 0 bs.length cap), (3, .slice (some ⟨1, 0, none⟩) ((bs.length : Nat) : Int).toNat ((bs.length : Nat) : Int).toNat), (4, .int .i64 (cu j))], [.rs .u8 bs, .s .i64 (intsR bs j) 3], true⟩

theorem bytes_int : ((Try.prog.info? 3).map (·.bytes)) = some 8 := by kernel_rfl

set_option maxRecDepth 100000 in
theorem ints_fn (bs : List Int) (cap : Nat) (hn : bs.length ≤ 1099511627776) : ∃ g, FnTr Try.prog Try.f32 [sliceArg 0 bs.length cap] [.rs .u8 bs]
    (.slice (some ⟨1, 0, none⟩) bs.length bs.length) (.rs .u8 bs :: .s .i64 (intsR bs bs.length) 3 :: g) := by
  have k0 : (execL Try.prog (mk (P := Try.prog) []) 60 3 (atoms (bodyOf Try.f32)) ⟨slots0 Try.f32.ntmps [sliceArg 0 bs.length cap], [.rs .u8 bs], true⟩).map (St.keep [0, 3, 4]) =
    some ⟨(intsS bs cap 0).t, (intsS bs cap 0).h, andT true ((IntKind.i64.wrap ((bs.length : Nat) : Int) == ((bs.length : Nat) : Int) && IntKind.i64.wrap ((bs.length : Nat) : Int) == ((bs.length : Nat) : Int)) &&
      (decide (0 ≤ ((bs.length : Nat) : Int)) && decide (((bs.length : Nat) : Int) ≤ ((bs.length : Nat) : Int)) && decide (((8 : Nat) : Int) * ((bs.length : Nat) : Int) ≤ 2 ^ 48)))⟩ := by kernel_rfl
  have kr : ∀ j, (exec Try.prog (mk (P := Try.prog) [] fun i => if i = 11 then some true else none) 60 (inner (inner (nthC 3 (bodyOf Try.f32)))) (intsS bs cap j)).map (fun r => (r.1, r.2.keep [0, 3, 4])) =
    some (.normal, ⟨(intsS bs cap (j + 1)).t, (intsS bs cap (j + 1)).h, andT (andT (andT (andT (andT true (decide (cu j < ((bs.length : Nat) : Int)))) (decide (0 ≤ cu j) && decide (cu j < ((bs.length : Nat) : Int)))) (decide (0 + (cu j).toNat * 1 < bs.length)))
      (decide (0 ≤ cu j) && decide (cu j < ((((bs.length : Nat) : Int).toNat : Nat) : Int)))) (decide (0 + (cu j).toNat * 1 < (intsR bs j).length))⟩) := fun j => by kernel_rfl
  have k1 : (exec Try.prog (mk (P := Try.prog) [] fun i => if i = 11 then some false else none) 60 (inner (inner (nthC 3 (bodyOf Try.f32)))) (intsS bs cap bs.length)).map (fun r => (r.1, r.2.keep [0, 3, 4])) =
    some (.exit 0, ⟨(intsS bs cap bs.length).t, (intsS bs cap bs.length).h, andT true (!decide (cu bs.length < ((bs.length : Nat) : Int)))⟩) := by kernel_rfl
  have k2 : ((execA Try.prog (mk (P := Try.prog) []) 60 ((atoms (bodyOf Try.f32)).drop 4) (intsS bs cap bs.length)).bind fun r => match r.1 with
      | .ret | .normal => (resS Try.prog r.2.t r.2.h Try.f32.results.toList).map fun q => (oneOf q.1, r.2.h, andT r.2.ob q.2)
      | _ => none) = some (.slice (some ⟨1, 0, none⟩) bs.length bs.length, [.rs .u8 bs, .s .i64 (intsR bs bs.length) 3], true) := by kernel_rfl
  have hlen := Int.toNat_natCast bs.length
  refine ⟨_, FnTr.rest (mk_sound _ _) 60 4 (by decide) (fun s' x h => ?_) k2 rfl⟩
  refine TrL.items (mk_sound _ _) 60 3 [0, 3, 4] k0 ?_ (by decide) (TrL.item 3 (by decide) (s1 := intsS bs cap bs.length) (Tr.pre (Tr.loop 0 (by decide) (intsS bs cap) bs.length (fun j hj => ?_) ?_) (Sub.ob _ _)) h)
  · show andT true _ = true
    rw [IntWalk.i64_in _ (by omega), beq_self_eq_true, decide_eq_true (by omega), decide_eq_true (by omega), decide_eq_true (by omega)]; rfl
  · refine Tr.post (Tr.keep (mk_sound _ _) 60 [0, 3, 4] (kr j) ?_) (Sub.ob _ _)
    show andT _ _ = true
    rw [cu_eq j (by omega), intsR_length, hlen, decide_eq_true (by omega), decide_eq_true (by omega), decide_eq_true (by omega)]; rfl
  · refine Tr.post (Tr.keep (mk_sound _ _) 60 [0, 3, 4] k1 ?_) (Sub.ob _ _)
    show andT true _ = true
    rw [cu_eq _ hn, decide_eq_false (by omega)]; rfl

theorem intsR_eq {bs : List Int} (hb : bs.all u8 = true) (hn : bs.length ≤ 1099511627776) : ∀ j, j ≤ bs.length → intsR bs j = bs.take j ++ List.replicate (bs.length - j) 0
  | 0, _ => by simp [intsR]
  | j + 1, h => by
    rw [intsR, intsR_eq hb hn j (by omega), cu_eq j (by omega)]
    have e : 0 + (j : Int).toNat * 1 = j := by omega
    rw [e]
    have hx := all_getD hb (i := j) (by omega)
    rw [IntWalk.i64_in _ (by omega)]
    apply List.ext_getElem?
    intro i
    rw [List.getElem?_set]
    by_cases hij : j = i
    · subst hij
      rw [if_pos rfl, if_pos (by simp; omega), List.getElem?_append_left (by simp; omega), List.getElem?_take_of_lt (by omega)]
      simp [List.getD, List.getElem?_eq_getElem (show j < bs.length by omega)]
    · rw [if_neg hij]
      rcases Nat.lt_or_ge i j with h1 | h1
      · rw [List.getElem?_append_left (by simp; omega), List.getElem?_append_left (by simp; omega), List.getElem?_take_of_lt h1, List.getElem?_take_of_lt (by omega)]
      · rw [List.getElem?_append_right (by simp; omega), List.getElem?_append_right (by simp; omega)]
        simp only [List.getElem?_replicate, List.length_take]
        rw [Nat.min_eq_left (by omega), Nat.min_eq_left (by omega)]
        by_cases h2 : i < bs.length
        · rw [if_pos (by omega), if_pos (by omega)]
        · rw [if_neg (by omega), if_neg (by omega)]

def intsG : List Value → List Blk → Option (Value × List Blk × Bool)
  | [.slice (some ⟨i, o, none⟩) n _], h => match h[i]? with
    | some b => match winI .u8 o n b with
      | some (l, p) => some (.slice (some ⟨h.length, 0, none⟩) n n, h ++ [.s .i64 l 3], p && l.all u8 && decide (n ≤ 1099511627776))
      | none => none
    | none => none
  | _, _ => none

noncomputable def intsE : Entry Try.prog where
  f := 32
  g := intsG
  pu := false
  ok := by
    intro vs h v h' e
    unfold intsG at e
    split at e
    · rename_i i o n c
      split at e
      · rename_i b hb
        split at e
        · rename_i l p hw
          simp only [Option.some.injEq, Prod.mk.injEq, Bool.and_eq_true, decide_eq_true_eq] at e
          obtain ⟨rfl, rfl, ⟨rfl, hl⟩, hn⟩ := e
          obtain ⟨hv, hlen⟩ := winI_sound hw
          obtain ⟨g, hg⟩ := ints_fn l c (by omega)
          have hr := intsR_eq hl (by omega) l.length (Nat.le_refl _)
          rw [Nat.sub_self, List.take_length] at hr
          simp only [List.replicate_zero, List.append_nil] at hr
          rw [hr, hlen] at hg
          refine ctr_ro_new Try.func32 (by decide) hg [⟨i, o, true⟩] ⟨rfl, fun a bb hbb => ?_⟩ ⟨_, [], ⟨⟨i, o, true⟩, rfl, rfl⟩, rfl, rfl⟩ (b := .s .i64 l 3) (by simp) rfl rfl rfl rfl (plain_ints _ _)
          have h1' := (List.getElem?_eq_some_iff.1 hbb).1
          simp at h1'
          subst h1'
          simp at hbb
          subst hbb
          refine ⟨rfl, plain_ints _ _, ⟨i, o, true⟩, b, rfl, rfl, hb, ?_⟩
          simp only [Blk.vals, intsV_length, hlen]
          exact hv
        · cases e
      · cases e
    · cases e
  pok := fun h => by cases h

/-! ### atLeast -/
/-- The first i parts: are those of a at least those of b? -/
def geR (a b : List Int) : Nat → Bool
  | 0 => true
  | i + 1 => if a.getD i 0 = b.getD i 0 then geR a b i else decide (a.getD i 0 > b.getD i 0)

def alS (a b : List Int) (ca cb : Nat) (c : Int) : St :=
  ⟨slotsOf 34 [(0, sliceArg 0 a.length ca), (1, sliceArg 1 b.length cb), (5, .int .i64 c)], [.rs .i64 a, .rs .i64 b], true⟩
def alE (a b : List Int) (r : Bool) : St := ⟨slotsOf 34 [(4, .bool r)], [.rs .i64 a, .rs .i64 b], true⟩

def alSym (x y : Bool) : Tmp → Option Bool := fun i => if i = 11 then some true else if i = 17 then some x else if i = 27 then some y else none

section
variable (a b : List Int) (ca cb : Nat) (c : Int)
/-- What must hold of an index. -/
def idxP (l : List Int) (c : Int) (o : Bool) : Bool := andT (andT o (decide (0 ≤ c) && decide (c < ((l.length : Nat) : Int)))) (decide (0 + c.toNat * 1 < l.length))
theorem idxP_iff {l : List Int} {c : Int} {o : Bool} (h0 : 0 ≤ c) (h1 : c < l.length) (ho : o = true) : idxP l c o = true := by
  subst ho; unfold idxP; rw [decide_eq_true (by omega), decide_eq_true (by omega), decide_eq_true (by omega)]; rfl

set_option maxRecDepth 100000 in
theorem al_in_eq : (exec Try.prog (mk (P := Try.prog) [] (alSym true false)) 60 (inner (inner (nthC 2 (bodyOf Try.f59)))) (alS a b ca cb c)).map (fun r => (r.1, r.2.keep [0, 1, 5])) =
    some (.normal, ⟨(alS a b ca cb (IntKind.i64.wrap (c - 1))).t, [.rs .i64 a, .rs .i64 b], andT (idxP a c (idxP b c (andT (andT true (decide (c ≥ 0))) (decide (c < ((b.length : Nat) : Int)))))) (!(a.getD (0 + c.toNat * 1) 0 != b.getD (0 + c.toNat * 1) 0))⟩) := by kernel_rfl
set_option maxRecDepth 100000 in
theorem al_in_ne : (exec Try.prog (mk (P := Try.prog) [] (alSym true true)) 60 (inner (inner (nthC 2 (bodyOf Try.f59)))) (alS a b ca cb c)).map (fun r => (r.1, r.2.keep [4])) =
    some (.ret, ⟨(alE a b (decide (a.getD (0 + c.toNat * 1) 0 > b.getD (0 + c.toNat * 1) 0))).t, [.rs .i64 a, .rs .i64 b], idxP a c (andT (idxP a c (idxP b c (andT (andT true (decide (c ≥ 0))) (decide (c < ((b.length : Nat) : Int)))))) (a.getD (0 + c.toNat * 1) 0 != b.getD (0 + c.toNat * 1) 0))⟩) := by kernel_rfl
set_option maxRecDepth 100000 in
theorem al_out_eq : (exec Try.prog (mk (P := Try.prog) [] (alSym false false)) 60 (inner (inner (nthC 2 (bodyOf Try.f59)))) (alS a b ca cb c)).map (fun r => (r.1, r.2.keep [0, 1, 5])) =
    some (.normal, ⟨(alS a b ca cb (IntKind.i64.wrap (c - 1))).t, [.rs .i64 a, .rs .i64 b], andT (idxP a c (andT (andT true (decide (c ≥ 0))) (!decide (c < ((b.length : Nat) : Int))))) (!(a.getD (0 + c.toNat * 1) 0 != 0))⟩) := by kernel_rfl
set_option maxRecDepth 100000 in
theorem al_out_ne : (exec Try.prog (mk (P := Try.prog) [] (alSym false true)) 60 (inner (inner (nthC 2 (bodyOf Try.f59)))) (alS a b ca cb c)).map (fun r => (r.1, r.2.keep [4])) =
    some (.ret, ⟨(alE a b (decide (a.getD (0 + c.toNat * 1) 0 > 0))).t, [.rs .i64 a, .rs .i64 b], idxP a c (andT (idxP a c (andT (andT true (decide (c ≥ 0))) (!decide (c < ((b.length : Nat) : Int))))) (a.getD (0 + c.toNat * 1) 0 != 0))⟩) := by kernel_rfl
set_option maxRecDepth 100000 in
theorem al_end : (exec Try.prog (mk (P := Try.prog) [] fun i => if i = 11 then some false else none) 60 (inner (inner (nthC 2 (bodyOf Try.f59)))) (alS a b ca cb c)).map (fun r => (r.1, r.2.keep [0, 1, 5])) =
    some (.exit 0, ⟨(alS a b ca cb c).t, [.rs .i64 a, .rs .i64 b], andT true (!decide (c ≥ 0))⟩) := by kernel_rfl
end

def stR (a b : List Int) : Nat → Option Bool
  | 0 => none
  | i + 1 => if a.getD i 0 = b.getD i 0 then stR a b i else some (decide (a.getD i 0 > b.getD i 0))
theorem geR_stR (a b : List Int) : ∀ i, geR a b i = (stR a b i).getD true
  | 0 => rfl
  | i + 1 => by
    rw [geR, stR]
    split
    · exact geR_stR a b i
    · rfl

theorem al_round (a b : List Int) (ca cb i : Nat) (hi : i < a.length) (hn : a.length ≤ 1099511627776) :
    (a.getD i 0 = b.getD i 0 → Tr Try.prog (inner (inner (nthC 2 (bodyOf Try.f59)))) (alS a b ca cb i) .normal (alS a b ca cb ((i : Int) - 1))) ∧
    (a.getD i 0 ≠ b.getD i 0 → Tr Try.prog (inner (inner (nthC 2 (bodyOf Try.f59)))) (alS a b ca cb i) .ret (alE a b (decide (a.getD i 0 > b.getD i 0)))) := by
  have e : 0 + (i : Int).toNat * 1 = i := by omega
  have hw : IntKind.i64.wrap ((i : Int) - 1) = i - 1 := IntWalk.i64_in _ (by omega)
  have h0 : decide ((i : Int) ≥ 0) = true := decide_eq_true (by omega)
  by_cases hb : i < b.length
  · have h1 : decide ((i : Int) < ((b.length : Nat) : Int)) = true := decide_eq_true (by omega)
    constructor
    · intro hq
      have k := al_in_eq a b ca cb i
      rw [hw] at k
      refine Tr.post (Tr.keep (mk_sound _ _) 60 [0, 1, 5] k ?_) (Sub.ob _ _)
      rw [e, hq, bne_self_eq_false, h0, h1]
      simp only [andT_iff, Bool.not_false, and_true]
      exact idxP_iff (by omega) (by omega) (idxP_iff (by omega) (by omega) rfl)
    · intro hq
      have k := al_in_ne a b ca cb i
      rw [e] at k
      refine Tr.post (Tr.keep (mk_sound _ _) 60 [4] k ?_) (Sub.ob _ _)
      rw [h0, h1]
      refine idxP_iff (by omega) (by omega) (andT_iff.2 ⟨idxP_iff (by omega) (by omega) (idxP_iff (by omega) (by omega) rfl), bne_iff_ne.2 hq⟩)
  · have h1 : decide ((i : Int) < ((b.length : Nat) : Int)) = false := decide_eq_false (by omega)
    have hz : b.getD i 0 = 0 := by simp [List.getD, List.getElem?_eq_none (show b.length ≤ i by omega)]
    rw [hz]
    constructor
    · intro hq
      have k := al_out_eq a b ca cb i
      rw [hw] at k
      refine Tr.post (Tr.keep (mk_sound _ _) 60 [0, 1, 5] k ?_) (Sub.ob _ _)
      rw [e, hq, bne_self_eq_false, h0, h1]
      simp only [andT_iff, Bool.not_false, and_true]
      exact idxP_iff (by omega) (by omega) rfl
    · intro hq
      have k := al_out_ne a b ca cb i
      rw [e] at k
      refine Tr.post (Tr.keep (mk_sound _ _) 60 [4] k ?_) (Sub.ob _ _)
      rw [h0, h1]
      exact idxP_iff (by omega) (by omega) (andT_iff.2 ⟨idxP_iff (by omega) (by omega) rfl, bne_iff_ne.2 hq⟩)

theorem al_rounds (a b : List Int) (ca cb : Nat) (hn : a.length ≤ 1099511627776) : ∀ i : Nat, i ≤ a.length → match stR a b i with
    | none => TrR Try.prog (inner (inner (nthC 2 (bodyOf Try.f59)))) (alS a b ca cb ((i : Int) - 1)) (.exit 0) (alS a b ca cb (-1))
    | some r => TrR Try.prog (inner (inner (nthC 2 (bodyOf Try.f59)))) (alS a b ca cb ((i : Int) - 1)) .ret (alE a b r)
  | 0, _ => TrR.leave (Tr.post (Tr.keep (mk_sound _ _) 60 [0, 1, 5] (al_end a b ca cb _) rfl) (Sub.ob _ _)) (by simp)
  | i + 1, h => by
    have ih := al_rounds a b ca cb hn i (by omega)
    obtain ⟨h1, h2⟩ := al_round a b ca cb i (by omega) hn
    have e : ((i + 1 : Nat) : Int) - 1 = i := by omega
    rw [stR, e]
    by_cases hq : a.getD i 0 = b.getD i 0
    · rw [if_pos hq]
      generalize stR a b i = o at ih
      cases o with
      | none => exact TrR.step (h1 hq) ih
      | some r => exact TrR.step (h1 hq) ih
    · rw [if_neg hq]
      exact TrR.leave (h2 hq) (by simp)

set_option maxRecDepth 100000 in
theorem al_fn (a b : List Int) (ca cb : Nat) (hn : a.length ≤ 1099511627776) : ∃ h, FnTr Try.prog Try.f59 [sliceArg 0 a.length ca, sliceArg 1 b.length cb] [.rs .i64 a, .rs .i64 b] (.bool (geR a b a.length)) h := by
  have k0 : (execL Try.prog (mk (P := Try.prog) []) 60 2 (atoms (bodyOf Try.f59)) ⟨slots0 Try.f59.ntmps [sliceArg 0 a.length ca, sliceArg 1 b.length cb], [.rs .i64 a, .rs .i64 b], true⟩).map (St.keep [0, 1, 5]) =
    some ⟨(alS a b ca cb (IntKind.i64.wrap (((a.length : Nat) : Int) - 1))).t, [.rs .i64 a, .rs .i64 b], true⟩ := by kernel_rfl
  rw [IntWalk.i64_in _ (by omega)] at k0
  have hr := al_rounds a b ca cb hn a.length (Nat.le_refl _)
  rw [geR_stR]
  cases hst : stR a b a.length with
  | none =>
    rw [hst] at hr
    have k2 : ((execA Try.prog (mk (P := Try.prog) []) 60 ((atoms (bodyOf Try.f59)).drop 3) (alS a b ca cb (-1))).bind fun r => match r.1 with
      | .ret | .normal => (resS Try.prog r.2.t r.2.h Try.f59.results.toList).map fun q => (oneOf q.1, r.2.h, andT r.2.ob q.2)
      | _ => none) = some (.bool true, [.rs .i64 a, .rs .i64 b], true) := by kernel_rfl
    exact ⟨_, FnTr.rest (mk_sound _ _) 60 3 (by decide) (fun s' x h => TrL.items (mk_sound _ _) 60 2 [0, 1, 5] k0 rfl (by decide) (TrL.item 2 (by decide) (Tr.loopR 0 (by decide) hr) h)) k2 rfl⟩
  | some r =>
    rw [hst] at hr
    exact ⟨_, FnTr.mk (s := alE a b r) (vs := [.bool r]) (by decide) (TrL.items (mk_sound _ _) 60 2 [0, 1, 5] k0 rfl (by decide) (TrL.leave 2 (by decide) (by simp) (Tr.loopRet 0 (by decide) hr))) (.inl rfl) (by kernel_rfl)⟩

noncomputable def geF (a b : List Int) : Bool := Lock (geR a b a.length)
noncomputable def atLeastG : List Value → List Blk → Option (Value × List Blk × Bool)
  | [.slice (some ⟨i, o, none⟩) n _, .slice (some ⟨j, u, none⟩) m _], h => match h[i]?, h[j]? with
    | some b, some c => match winI .i64 o n b, winI .i64 u m c with
      | some (l, p), some (k, q) => some (.bool (geF l k), h, p && q && decide (n ≤ 1099511627776))
      | _, _ => none
    | _, _ => none
  | _, _ => none

noncomputable def atLeastE : Entry Try.prog where
  f := 59
  g := atLeastG
  pu := false
  ok := by
    intro vs h v h' e
    unfold atLeastG at e
    split at e
    · rename_i i o n ca j u m cb
      split at e
      · rename_i b c hb hc
        split at e
        · rename_i l p k q hw hx
          simp only [Option.some.injEq, Prod.mk.injEq, Bool.and_eq_true, decide_eq_true_eq] at e
          obtain ⟨rfl, rfl, ⟨rfl, rfl⟩, hn⟩ := e
          obtain ⟨hv, hlen⟩ := winI_sound hw
          obtain ⟨hv2, hlen2⟩ := winI_sound hx
          obtain ⟨g, hg⟩ := al_fn l k ca cb (by omega)
          rw [geF, Lock_eq]
          rw [hlen, hlen2] at hg
          rw [hlen]
          refine ctr_ro Try.func59 (by decide) hg [⟨i, o, true⟩, ⟨j, u, true⟩] ⟨rfl, fun a bb hbb => ?_⟩ ⟨_, _, ⟨⟨i, o, true⟩, rfl, rfl⟩, ⟨_, [], ⟨⟨j, u, true⟩, rfl, rfl⟩, rfl, rfl⟩, rfl⟩ rfl
          have h1' := (List.getElem?_eq_some_iff.1 hbb).1
          simp at h1'
          have : a = 0 ∨ a = 1 := by omega
          rcases this with rfl | rfl
          · simp at hbb
            subst hbb
            refine ⟨rfl, plain_ints _ _, ⟨i, o, true⟩, b, rfl, rfl, hb, ?_⟩
            simp only [Blk.vals, intsV_length, hlen]
            exact hv
          · simp at hbb
            subst hbb
            refine ⟨rfl, plain_ints _ _, ⟨j, u, true⟩, c, rfl, rfl, hc, ?_⟩
            simp only [Blk.vals, intsV_length, hlen2]
            exact hv2
        · cases e
      · cases e
    · cases e
  pok := fun h => by cases h
end Go.Proofs.Ytailgcdcdhhpnaa
