/- This file gives the contracts of functions that read and write their caller's tracked blocks ('Entry.mut'). Conditions: the calls that they are made of. -/
import Derived.Test.YtailgcdcdhhpnaaSyR
namespace Go.Sy
open Go

/-- The caller's blocks behind the call. -/
def backH (is : List Nat) (j : Nat) (h h1 : List Blk) : List Blk := setAll h is ((h1.take is.length).map (renB (backN is j)))
def backNew (is : List Nat) (j : Nat) (h1 : List Blk) : List Blk := (h1.drop is.length).map (renB (backN is j))

section
variable {P : Program}

theorem mut_call {f : FuncId} {us : List SV} {v : SV} {is : List Nat} {l : List (List SV)} {h1 : List Blk} (g : FnTr P f us (l.map fun ps => .b (renL (fun b => is.idxOf b) ps)) v h1) {h : List Blk} {vs : List SV} {t : Bool}
    (hnd : is.Nodup) (hl : pickH h is = some l) (href : ∀ ps ∈ l, refsInL is ps = true) (hnr : t = true → ∀ ps ∈ l, noRoL ps = true) (habs : absL is (hide is h) vs = some (us, true, t))
    (hst : t = true → stale v = false ∧ ∀ b ∈ h1, staleB b = false)
    {B : Base} {e : Env} {w : World} {args : List Value} {j : Nat} (hla : LR e vs args) (R : Rel B e h w) (hj : Free h j (h1.length - is.length)) :
    Calls P f ⟨args⟩ w fun en w' => ∃ v', en = .returned v' ∧ ∃ e2, VR e2 (ren (backN is j) v) v' ∧ Rel B e2 (placeH (backH is j h h1) j (backNew is j h1)) w' ∧ EStep e e2 none := by
  obtain ⟨hlen, hget⟩ := pickH_get hl
  have hal := absL_sound R (n0C e w t) habs id hla
  have R0 := mut_start R hnd hl href hnr
  refine (g _ _ w args (by simp [hlen]) hal R0).mono ?_
  rintro en w' ⟨v', rfl, e', _, hv, S⟩
  have hlt : ∀ {q i : Nat}, is[q]? = some i → i < h.length := fun {q i} hq => by
    obtain ⟨ps, _, h4⟩ := hget q i hq
    exact (List.getElem?_eq_some_iff.1 h4).1
  have hkle : is.length ≤ h1.length := S.kle
  have r0 : ∀ q, (envC e is (zC e w is t) (n0C e w t)).r q = (is[q]?).bind e.r := fun _ => rfl
  -- the callee's places
  have snew : ∀ q p, e'.r q = some p → (∃ i, is[q]? = some i ∧ e.r i = some p) ∨ w.heap.size ≤ p.n := fun q p hq => by
    rcases S.news q p hq with h | h
    · exact .inl (Option.bind_eq_some_iff.1 h)
    · exact .inr h
  have skeep : ∀ {q i p}, is[q]? = some i → e.r i = some p → e'.r q = some p := fun {q i p} hq hp => S.keepr q p (by show (is[q]?).bind e.r = some p; rw [hq]; exact hp)
  have sold : ∀ n, n < w.heap.size → (∀ i p, i ∈ is → e.r i = some p → p.n ≠ n) → w'.heap[n]? = w.heap[n]? := fun n hn hno => S.old n hn (fun q p hq => by
    obtain ⟨i, h1, h2⟩ := Option.bind_eq_some_iff.1 (show (is[q]?).bind e.r = some p from hq)
    exact hno i p (List.mem_of_getElem? h1) h2) (by simp)
  have cross : ∀ {q i p p'}, e'.r q = some p → e.r i = some p' → i ∉ is → p.n ≠ p'.n := fun {q i p p'} hq hi hni heq => by
    rcases snew q p hq with ⟨a, h1, h2⟩ | h
    · have := R.inj a i p p' h2 hi heq
      subst this
      exact hni (List.mem_of_getElem? h1)
    · have := R.lt hi; omega
  have hen : e.n0 ≤ w.heap.size := by have := R.n0; have := R.n0le; have := R.size; omega
  have hn0 : e'.n0 = n0C e w t := S.n0
  have hnn : e.n0 ≤ n0C e w t := by cases t <;> simp [n0C, hen]
  let nn := h1.length - is.length
  let z2 : Nat → Option (Array Value × TypeId × (Nat × Nat)) := fun n => if n < w.heap.size then e.z n else e'.z n
  let r2 : Nat → Option Pl := fun i => if is.contains i = true then e'.r (is.idxOf i) else if j ≤ i ∧ i < j + nn then e'.r (is.length + (i - j)) else e.r i
  let e2 : Env := ⟨r2, z2, e.n0, e.m, e.y⟩
  have idx : ∀ {q i}, is[q]? = some i → is.contains i = true ∧ is.idxOf i = q := fun {q i} hq => by
    have hm := List.mem_of_getElem? hq
    refine ⟨by simpa using hm, ?_⟩
    have h1 := List.idxOf_lt_length_of_mem hm
    have h2 : is[is.idxOf i]? = some i := by rw [List.getElem?_eq_getElem h1]; simp
    exact (List.getElem?_inj h1 hnd).1 (h2.trans hq.symm)
  have newNot : ∀ i, j ≤ i ∧ i < j + nn → is.contains i = true → False := fun i hi hc => by
    have hm : i ∈ is := by simpa using hc
    obtain ⟨q, hq⟩ := List.mem_iff_getElem?.1 hm
    obtain ⟨ps, _, h4⟩ := hget q i hq
    rcases hj with rfl | hg
    · have := hlt hq; omega
    · have := hg (i - j) (by show i - j < h1.length - is.length; omega)
      rw [show j + (i - j) = i by omega, h4] at this; cases this
  have r2is : ∀ {q i}, is[q]? = some i → r2 i = e'.r q := fun {q i} hq => by
    obtain ⟨h1, h2⟩ := idx hq
    show (if is.contains i = true then e'.r (is.idxOf i) else _) = _
    rw [if_pos h1, h2]
  have r2new : ∀ {i}, j ≤ i ∧ i < j + nn → r2 i = e'.r (is.length + (i - j)) := fun {i} hi => by
    show (if is.contains i = true then e'.r (is.idxOf i) else _) = _
    rw [if_neg (fun hc => newNot i hi hc), if_pos hi]
  have r2old : ∀ {i}, is.contains i ≠ true → ¬ (j ≤ i ∧ i < j + nn) → r2 i = e.r i := fun {i} h1 h2 => by
    show (if is.contains i = true then e'.r (is.idxOf i) else _) = _
    rw [if_neg h1, if_neg h2]
  have oldNot : ∀ {i p}, e.r i = some p → ¬ (j ≤ i ∧ i < j + nn) := fun {i p} hp hi => by
    rcases hj with rfl | hg
    · have := R.dom i p hp; omega
    · have := (R.gap i _ (by have := hg (i - j) (by show i - j < h1.length - is.length; omega); rwa [show j + (i - j) = i by omega] at this)).1
      rw [hp] at this; cases this
  -- what a place is
  have cases2 : ∀ i p, r2 i = some p → (∃ q, is[q]? = some i ∧ e'.r q = some p) ∨ ((j ≤ i ∧ i < j + nn) ∧ e'.r (is.length + (i - j)) = some p) ∨ (i ∉ is ∧ ¬ (j ≤ i ∧ i < j + nn) ∧ e.r i = some p) := fun i p hp => by
    by_cases hc : is.contains i = true
    · obtain ⟨q, hq⟩ := List.mem_iff_getElem?.1 (show i ∈ is by simpa using hc)
      rw [r2is hq] at hp
      exact .inl ⟨q, hq, hp⟩
    · by_cases hn : j ≤ i ∧ i < j + nn
      · rw [r2new hn] at hp; exact .inr (.inl ⟨hn, hp⟩)
      · rw [r2old hc hn] at hp; exact .inr (.inr ⟨by simpa using hc, hn, hp⟩)
  have up : ∀ i p, e.r i = some p → r2 i = some p := fun i p hp => by
    by_cases hc : is.contains i = true
    · obtain ⟨q, hq⟩ := List.mem_iff_getElem?.1 (show i ∈ is by simpa using hc)
      rw [r2is hq]; exact skeep hq hp
    · rw [r2old hc (oldNot hp)]; exact hp
  have back : ∀ q p, e'.r q = some p → e2.r (backN is j q) = some p := fun q p hq => by
    rcases Nat.lt_or_ge q is.length with hlq | hlq
    · have hi : is[q]? = some is[q] := List.getElem?_eq_getElem hlq
      rw [backN_lt hi]
      show r2 is[q] = some p
      rw [r2is hi]; exact hq
    · rw [backN_ge hlq]
      have hd := S.dom q p hq
      show r2 (j + (q - is.length)) = some p
      rw [r2new ⟨by omega, by show _ < j + (h1.length - is.length); omega⟩, show is.length + (j + (q - is.length) - j) = q by omega]
      exact hq
  have hle : Env.Le e e2 := ⟨fun i p hp => up i p hp, fun n x hx => by
    show (if n < w.heap.size then e.z n else e'.z n) = some x
    rw [if_pos (R.zlt hx)]; exact hx, Nat.le_refl _⟩
  let e1 : Env := { e' with z := z2 }
  have zt : t = true → ∀ n x, e'.n0 ≤ n → e'.z n = some x → z2 n = some x := fun ht n x hn hx => by
    show (if n < w.heap.size then e.z n else e'.z n) = some x
    rw [if_neg (by rw [hn0, ht] at hn; simp only [n0C] at hn; omega)]; exact hx
  have zf : t = false → ∀ n x, e'.z n = some x → z2 n = some x := fun ht n x hx => by
    show (if n < w.heap.size then e.z n else e'.z n) = some x
    by_cases hn : n < w.heap.size
    · rw [if_pos hn]
      rcases S.zfresh n x hx with q | q
      · have q' : zC e w is t n = some x := q
        rw [ht] at q'; exact q'
      · exact absurd q (by show ¬ w.heap.size ≤ n; omega)
    · rw [if_neg hn]; exact hx
  have toE1V : ∀ {u : SV} {u' : Value}, (t = true → stale u = false) → VR e' u u' → VR e1 u u' := fun {u u'} hs hu => by
    by_cases ht : t = true
    · exact VR.fresh (e := e') (e' := e1) rfl (zt ht) (Nat.le_refl _) (hs ht) hu
    · exact VR.mono' (e := e') (e' := e1) (zf (by simpa using ht)) (Nat.le_refl _) u u' (fun _ _ _ h => h) hu
  have toE1P : ∀ {u : List SV} {u' : List Value}, (t = true → staleL u = false) → PR e' u u' → PR e1 u u' := fun {u u'} hs hu => by
    by_cases ht : t = true
    · exact PR.fresh (e := e') (e' := e1) rfl (zt ht) (Nat.le_refl _) (hs ht) hu
    · exact PR.mono' (e := e') (e' := e1) (zf (by simpa using ht)) (Nat.le_refl _) u u' (fun _ _ _ h => h) hu
  have hle12 : e2.n0 ≤ e1.n0 := by show e.n0 ≤ e'.n0; omega
  refine ⟨v', rfl, e2, VR.ren (e := e1) (e' := e2) (fun _ _ h => h) hle12 v v' (fun q p _ hp => back q p hp) (toE1V (fun ht => (hst ht).1) hv), ?_, EStep.of_le hle rfl _⟩
  have hbl : (backH is j h h1).length = h.length := setAll_length
  have hnl : (backNew is j h1).length = nn := by simp [backNew, nn]
  have hf2 : Free (backH is j h h1) j (backNew is j h1).length := by
    rw [hnl]
    rcases hj with hj | hg
    · exact .inl (by rw [hbl]; exact hj)
    · refine .inr fun i hi => ?_
      unfold backH
      rw [setAll_ne (fun hm => newNot (j + i) ⟨by omega, by omega⟩ (by simpa using hm))]
      exact hg i hi
  -- what a block is
  have blkAt : ∀ (q i : Nat), (is[q]? = some i ∨ (is.length ≤ q ∧ (j ≤ i ∧ i < j + nn) ∧ q = is.length + (i - j))) → e2.r i = e'.r q ∧ (∀ qs, h1[q]? = some (.b qs) → (psize (renL (backN is j) qs) = 0 ∧ e2.r i = none) ∨ ∃ p o, e2.r i = some p ∧ w'.heap[p.n]? = some o ∧ BR e2 p (renL (backN is j) qs) o) ∧ (∀ g, h1[q]? = some (.g g) → e2.r i = none) := fun q i hqi => by
    have hre : e2.r i = e'.r q := by
      rcases hqi with hq | ⟨_, hq, rfl⟩
      · exact r2is hq
      · exact r2new hq
    refine ⟨hre, fun qs hq => ?_, fun g hq => by rw [hre]; exact (S.gap q g hq).1⟩
    rcases S.blk q qs hq with ⟨g1, g2⟩ | ⟨p, o, g1, g2, c, ty, rfl, g3, g4, g5⟩
    · exact .inl ⟨by rw [psize_renL]; exact g1, by rw [hre]; exact g2⟩
    · refine .inr ⟨p, _, by rw [hre]; exact g1, g2, c, ty, rfl, g3, by rw [psize_renL]; exact g4, ?_⟩
      rw [psize_renL]
      exact PR.ren (e := e1) (e' := e2) (fun _ _ h => h) hle12 qs _ (fun b p _ hp => back b p hp) (toE1P (fun ht => (hst ht).2 _ (List.mem_of_getElem? hq)) g5)
  have get2 : ∀ (i : Nat) (b : Blk), (placeH (backH is j h h1) j (backNew is j h1))[i]? = some b → (∃ q c, (is[q]? = some i ∨ (is.length ≤ q ∧ (j ≤ i ∧ i < j + nn) ∧ q = is.length + (i - j))) ∧ h1[q]? = some c ∧ b = renB (backN is j) c) ∨ (i ∉ is ∧ ¬ (j ≤ i ∧ i < j + nn) ∧ h[i]? = some b) := fun i b hi => by
    rw [placeH_get hf2, hnl] at hi
    split at hi
    · rename_i hc
      simp only [backNew, List.getElem?_map, List.getElem?_drop] at hi
      obtain ⟨c, h2, h3⟩ := Option.map_eq_some_iff.1 hi
      exact .inl ⟨is.length + (i - j), c, .inr ⟨by omega, hc, rfl⟩, h2, h3.symm⟩
    · rename_i hc
      by_cases hm : i ∈ is
      · obtain ⟨q, hq⟩ := List.mem_iff_getElem?.1 hm
        have hql := (List.getElem?_eq_some_iff.1 hq).1
        unfold backH at hi
        rw [setAll_get hnd hq (hlt hq) (by simp; omega), List.getElem?_map, List.getElem?_take_of_lt hql] at hi
        obtain ⟨c, h2, h3⟩ := Option.map_eq_some_iff.1 hi
        exact .inl ⟨q, c, .inl hq, h2, h3.symm⟩
      · unfold backH at hi
        rw [setAll_ne hm] at hi
        exact .inr ⟨hm, hc, hi⟩
  exact {
    os := S.os.trans R.os, tape := S.tape.trans R.tape, output := S.output.trans R.output, size := Nat.le_trans R.size S.size
    inj := fun i i' p q hi hi' hpq => by
      rcases cases2 i p hi with ⟨a, h2, h3⟩ | ⟨h2, h3⟩ | ⟨h2, h4, h3⟩ <;> rcases cases2 i' q hi' with ⟨b, g2, g3⟩ | ⟨g2, g3⟩ | ⟨g2, g4, g3⟩
      · have := S.inj _ _ p q h3 g3 hpq
        subst this
        rw [h2] at g2; cases g2; rfl
      · have := S.inj _ _ p q h3 g3 hpq
        have := (List.getElem?_eq_some_iff.1 h2).1
        omega
      · exact absurd hpq (cross h3 g3 g2)
      · have := S.inj _ _ p q h3 g3 hpq
        have := (List.getElem?_eq_some_iff.1 g2).1
        omega
      · have := S.inj _ _ p q h3 g3 hpq
        omega
      · exact absurd hpq (cross h3 g3 g2)
      · exact absurd hpq.symm (cross g3 h3 h2)
      · exact absurd hpq.symm (cross g3 h3 h2)
      · exact R.inj _ _ p q h3 g3 hpq
    dom := fun i p hi => by
      rcases cases2 i p hi with ⟨a, h2, h3⟩ | ⟨h2, h3⟩ | ⟨h2, h4, h3⟩
      · exact Nat.lt_of_lt_of_le (by rw [hbl]; exact hlt h2) placeH_length
      · have := placeH_in hf2 (i := i - j) (by rw [hnl]; omega)
        rwa [show j + (i - j) = i by omega] at this
      · exact Nat.lt_of_lt_of_le (by rw [hbl]; exact R.dom i p h3) placeH_length
    sep := fun i p hi => by
      have key : ∀ q, e'.r q = some p → z2 p.n = none := fun q hq => by
        show (if p.n < w.heap.size then e.z p.n else e'.z p.n) = none
        split
        · rename_i hlp
          rcases snew q p hq with ⟨a, _, h2⟩ | h
          · exact R.sep a p h2
          · omega
        · exact S.sep q p hq
      rcases cases2 i p hi with ⟨a, h2, h3⟩ | ⟨h2, h3⟩ | ⟨h2, h4, h3⟩
      · exact key _ h3
      · exact key _ h3
      · show (if p.n < w.heap.size then e.z p.n else e'.z p.n) = none
        rw [if_pos (R.lt h3)]; exact R.sep i p h3
    zok := fun n c ty fr hx => by
      have hx' : (if n < w.heap.size then e.z n else e'.z n) = some (c, ty, fr) := hx
      split at hx'
      · rename_i hn
        rw [sold n hn (fun i p hi hp hpn => by subst hpn; rw [R.sep i p hp] at hx'; cases hx')]
        exact R.zok n c ty fr hx'
      · exact S.zok n c ty fr hx'
    zfresh := fun n x hx => by
      have hx' : (if n < w.heap.size then e.z n else e'.z n) = some x := hx
      split at hx'
      · exact R.zfresh n x hx'
      · exact .inr (by have := R.size; omega)
    news := fun i p hi => by
      have key : ∀ q, e'.r q = some p → (∀ a, is[q]? = some a → a = i) → B.e.r i = some p ∨ B.w.heap.size ≤ p.n := fun q hq ha => by
        rcases snew q p hq with ⟨a, h1, h2⟩ | h
        · have := ha a h1; subst this; exact R.news _ p h2
        · exact .inr (Nat.le_trans R.size h)
      rcases cases2 i p hi with ⟨a, h2, h3⟩ | ⟨h2, h3⟩ | ⟨h2, h4, h3⟩
      · exact key a h3 fun b hb => by rw [h2] at hb; cases hb; rfl
      · exact key _ h3 fun b hb => by have := (List.getElem?_eq_some_iff.1 hb).1; omega
      · exact R.news i p h3
    keepr := fun i p hi => up i p (R.keepr i p hi)
    keepz := fun n x hx => hle.z n x (R.keepz n x hx)
    n0 := R.n0, n0le := R.n0le
    blk := fun i ps hi => by
      rcases get2 i _ hi with ⟨q, c, hq, hc, hb⟩ | ⟨hni, hnn', hb⟩
      · cases c with
        | g _ => cases hb
        | b qs =>
          simp only [renB, Blk.b.injEq] at hb
          subst hb
          exact (blkAt q i hq).2.1 qs hc
      · have hre : e2.r i = e.r i := r2old (by simpa using hni) hnn'
        rcases R.blk i ps hb with ⟨g1, g2⟩ | ⟨p, o, g1, g2, g3⟩
        · exact .inl ⟨g1, by rw [hre]; exact g2⟩
        · refine .inr ⟨p, o, by rw [hre]; exact g1, ?_, g3.mono hle⟩
          rw [sold p.n (R.lt g1) (fun a p' ha hp' hpn => hni (by have := R.inj a i p' p hp' g1 hpn; subst this; exact ha))]
          exact g2
    gap := fun i g hi => by
      rcases get2 i _ hi with ⟨q, c, hq, hc, hb⟩ | ⟨hni, hnn', hb⟩
      · cases c with
        | b qs => cases hb
        | g g' =>
          simp only [renB, Blk.g.injEq] at hb
          subst hb
          exact ⟨(blkAt q i hq).2.2 _ hc, trivial⟩
      · refine ⟨?_, (R.gap i g hb).2.le (fun n o hn => ?_) rfl hle⟩
        · show r2 i = none
          rw [r2old (by simpa using hni) hnn']; exact (R.gap i g hb).1
        · rw [sold n (Array.getElem?_eq_some_iff.1 hn).1 (fun i p _ hp hpn => by
            subst hpn
            obtain ⟨c, ty, hc, _⟩ := R.isCells hp
            rw [hc] at hn; cases hn)]
          exact hn
    yi := R.yi, yb := R.yb
    old := fun n hn hno hnl => by
      rw [sold n (by have := R.size; omega) (fun i p hi hp hpn => by
        rcases R.news i p hp with q | q
        · exact hno i p q hpn
        · omega)]
      exact R.old n hn hno hnl
    win := fun i p hi => by
      obtain ⟨o, o', g1, g2, g3⟩ := R.win i p hi
      have hp := R.keepr i p hi
      by_cases hm : i ∈ is
      · obtain ⟨q, hq⟩ := List.mem_iff_getElem?.1 hm
        obtain ⟨x, x', k1, k2, k3⟩ := S.win q p (by show (is[q]?).bind e.r = some p; rw [hq]; exact hp)
        have k1' : w.heap[p.n]? = some x := k1
        rw [g2] at k1'; cases k1'
        exact ⟨o, x', g1, k2, g3.trans k3⟩
      · exact ⟨o, o', g1, by rw [sold p.n (R.lt hp) (fun a p' ha hp' hpn => hm (by have := R.inj a i p' p hp' hp hpn; subst this; exact ha))]; exact g2, g3⟩
    kr := R.kr
    kle := by have := R.kle; have := placeH_length (h := backH is j h h1) (j := j) (new := backNew is j h1); omega
    mks := fun r hr => by
      have hm := R.mks r hr
      rw [sold r (Array.getElem?_eq_some_iff.1 hm.1).1 (fun i p _ hp hpn => by
        subst hpn
        obtain ⟨c, ty, hc, _⟩ := R.isCells hp
        have h9 := hm.1
        rw [hc] at h9; cases h9)]
      exact hm
    mnd := R.mnd }

/-- A function that reads and writes its caller's blocks: 'pick' tells which of them it sees; F goes from what it is called with and sees to what comes of it. -/
def Entry.mut (f : FuncId) (fn : Func) (hf : P.funcs[f]? = some fn) (hn : (fn.name != "runtime.NumGoroutine") = true) (hb : fn.body.isSome = true) (pick : List SV → List Blk → List Nat) (nb : Nat) (F : List SV → List Blk → Option (SV × List Blk × Bool))
    (ok : ∀ us h0 v h1, F us h0 = some (v, h1, true) → FnTr P f us h0 v h1) : Entry P where
  f := f
  g := fun vs h j => match pickH h (pick vs h), absL (pick vs h) (hide (pick vs h) h) vs with
    | some l, some (us, p, t) => match decide (pick vs h).Nodup && l.all (refsInL (pick vs h)) && (!t || l.all noRoL) with
      | true => match F us (l.map fun ps => .b (renL (fun b => (pick vs h).idxOf b) ps)) with
        | some (v, h1, q) => match t && (stale v || h1.any staleB) with
          | true => none
          | false => some (ren (backN (pick vs h) j) v, backH (pick vs h) j h h1, backNew (pick vs h) j h1, andT p q)
        | none => none
      | false => none
    | _, _ => none
  pf := 2
  nb := nb
  ok := by
    intro vs h j v h' new g B e w args hla R hj
    generalize hpk : pick vs h = is at g
    split at g
    · rename_i l us p t hl habs
      split at g
      · rename_i hc
        simp only [Bool.and_eq_true, decide_eq_true_eq, List.all_eq_true] at hc
        obtain ⟨⟨hnd, href⟩, hnr⟩ := hc
        split at g
        · rename_i u h1 q hF
          split at g
          · cases g
          · rename_i hs
            simp only [Option.some.injEq, Prod.mk.injEq, andT_iff] at g
            obtain ⟨rfl, rfl, rfl, rfl, rfl⟩ := g
            have hbn : fn.body ≠ none := fun q => by rw [q] at hb; cases hb
            refine .inr ⟨callFunc_enter hf (by simpa using hn) hbn _ w, ?_⟩
            refine mut_call (ok us _ u h1 hF) hnd hl href (fun ht ps hps => ?_) habs (fun ht => ?_) hla R (by simpa [backNew] using hj)
            · rw [ht] at hnr
              simp only [Bool.not_true, Bool.false_or, List.all_eq_true] at hnr
              exact hnr ps hps
            · rw [ht, Bool.true_and, Bool.or_eq_false_iff] at hs
              refine ⟨hs.1, fun b hb => ?_⟩
              cases hq : staleB b with
              | false => rfl
              | true =>
                have : h1.any staleB = true := List.any_eq_true.2 ⟨b, hb, hq⟩
                rw [this] at hs; cases hs.2
        · cases g
      · cases g
    · cases g
  pu := ⟨(fun h => by cases h), (fun h => by cases h)⟩

/-! ### Functions that only read their caller's blocks -/
theorem ren_back {is : List Nat} {j : Nat} : ∀ {b : Nat}, is.contains b = true → backN is j (is.idxOf b) = b := fun {b} hb => backN_lt (idx_get hb)
mutual
theorem renS_back {is : List Nat} {j : Nat} : ∀ {v : SV}, refsIn is v = true → ren (backN is j) (ren (fun b => is.idxOf b) v) = v
  | .ptr b o i, h => by simp only [refsIn] at h; simp only [ren, ren_back h]
  | .sl b o i z len cap ex wh, h => by simp only [refsIn] at h; simp only [ren, ren_back h]
  | .agg ps, h => by simp only [refsIn] at h; simp only [ren, renLs_back h]
  | .tup ps, h => by simp only [refsIn] at h; simp only [ren, renLs_back h]
  | .iface t x, h => by simp only [refsIn] at h; simp only [ren, renS_back h]
  | .fn f a b, h => by simp only [refsIn, Bool.and_eq_true] at h; simp only [ren, renLs_back h.1, renLs_back h.2]
  | .bool _, _ => rfl
  | .int _ _, _ => rfl
  | .str _, _ => rfl
  | .nl _, _ => rfl
  | .ints _ _ _, _ => rfl
  | .ro _ _ _, _ => rfl
  | .rob _ _, _ => rfl
  | .rol _ _ _ _, _ => rfl
  | .rpi _ _ _, _ => rfl
  | .rpb _ _ _, _ => rfl
  | .rpl _ _ _ _ _ _ _, _ => rfl
theorem renLs_back {is : List Nat} {j : Nat} : ∀ {vs : List SV}, refsInL is vs = true → renL (backN is j) (renL (fun b => is.idxOf b) vs) = vs
  | [], _ => rfl
  | x :: xs, h => by
    simp only [refsInL, Bool.and_eq_true] at h
    simp only [renL, renS_back h.1, renLs_back h.2]
end
theorem setAll_same : ∀ {h : List Blk} {is : List Nat} {bs : List Blk}, (∀ (q i : Nat), is[q]? = some i → bs[q]? = h[i]?) → is.Nodup → setAll h is bs = h
  | _, [], _, _, _ => by simp [setAll]
  | _, _ :: _, [], _, _ => by simp [setAll]
  | h, a :: is, b :: bs, hq, hn => by
    simp only [setAll]
    have h0 : h[a]? = some b := (hq 0 a rfl).symm
    have hs : h.set a b = h := by
      apply List.ext_getElem?
      intro x
      by_cases hx : a = x
      · subst hx; rw [List.getElem?_set_self (List.getElem?_eq_some_iff.1 h0).1, h0]
      · rw [List.getElem?_set_ne hx]
    rw [hs]
    exact setAll_same (fun q i hi => by simpa using hq (q + 1) i (by simpa using hi)) (List.nodup_cons.1 hn).2

theorem hide_le {is : List Nat} {h h2 : List Blk} (hle : BLe h h2) : BLe (hide is h) (hide is h2) := fun i ps hi => by
  rw [hide_get] at hi ⊢
  cases hb : h[i]? with
  | none => rw [hb] at hi; simp at hi
  | some b =>
    rw [hb] at hi
    cases b with
    | g o => cases hc : is.contains i <;> rw [hc] at hi <;> simp at hi
    | b qs => rw [hle i qs hb]; exact hi
mutual
theorem absS_le {is : List Nat} {h h2 : List Blk} (hle : BLe h h2) : ∀ {v : SV} {q : SV × Bool × Bool}, absS is h v = some q → absS is h2 v = some q
  | .ptr _ _ _, q, g => by simp only [absS] at g ⊢; exact g
  | .sl b o i z len cap ex wh, q, g => by
    simp only [absS] at g ⊢
    split
    · rename_i hc; rw [if_pos hc] at g; exact g
    · rename_i hc; rw [if_neg hc] at g; exact frzS_le hle g
  | .fn f a b, q, g => by
    simp only [absS] at g ⊢
    split at g
    · rename_i x p s y q' t ha hb; rw [absL_le hle ha, absL_le hle hb]; exact g
    · cases g
  | .agg ps, q, g => by
    simp only [absS] at g ⊢
    split at g
    · rename_i l p t hl; rw [absL_le hle hl]; exact g
    · cases g
  | .iface ty x, q, g => by
    simp only [absS] at g ⊢
    split at g
    · rename_i y p t hl; rw [absS_le hle hl]; exact g
    · cases g
  | .bool _, q, g => by simp only [absS] at g ⊢; exact frzS_le hle g
  | .int _ _, q, g => by simp only [absS] at g ⊢; exact frzS_le hle g
  | .str _, q, g => by simp only [absS] at g ⊢; exact frzS_le hle g
  | .nl _, q, g => by simp only [absS] at g ⊢; exact frzS_le hle g
  | .ints _ _ _, q, g => by simp only [absS] at g ⊢; exact frzS_le hle g
  | .ro _ _ _, q, g => by simp only [absS] at g ⊢; exact frzS_le hle g
  | .rob _ _, q, g => by simp only [absS] at g ⊢; exact frzS_le hle g
  | .rol _ _ _ _, q, g => by simp [absS] at g
  | .rpi _ _ _, q, g => by simp [absS] at g
  | .rpb _ _ _, q, g => by simp [absS] at g
  | .rpl _ _ _ _ _ _ _, q, g => by simp [absS] at g
  | .tup _, q, g => by simp [absS] at g
theorem absL_le {is : List Nat} {h h2 : List Blk} (hle : BLe h h2) : ∀ {v : List SV} {q : List SV × Bool × Bool}, absL is h v = some q → absL is h2 v = some q
  | [], q, g => by simp only [absL] at g ⊢; exact g
  | x :: xs, q, g => by
    simp only [absL] at g ⊢
    split at g
    · rename_i y p a l q' b hx hl
      rw [absS_le hle hx, absL_le hle hl]; exact g
    · cases g
end
theorem pickH_le {h h2 : List Blk} (hle : BLe h h2) : ∀ {is : List Nat} {l : List (List SV)}, pickH h is = some l → pickH h2 is = some l
  | [], l, g => g
  | i :: is, l, g => by
    simp only [pickH] at g ⊢
    split at g
    · rename_i ps l' h1 h2'
      rw [hle i ps h1, pickH_le hle h2']; exact g
    · cases g

/-- A function that reads its caller's blocks and writes none: 'pick' tells which of them it sees. -/
def Entry.rdm (f : FuncId) (fn : Func) (hf : P.funcs[f]? = some fn) (hn : (fn.name != "runtime.NumGoroutine") = true) (hb : fn.body.isSome = true) (pick : List SV → List Nat) (F : List SV → List Blk → Option (SV × Bool))
    (ok : ∀ us h0 v, F us h0 = some (v, true) → FnTr P f us h0 v h0) : Entry P where
  f := f
  g := fun vs h j => match pickH h (pick vs), absL (pick vs) (hide (pick vs) h) vs with
    | some l, some (us, p, t) => match decide (pick vs).Nodup && l.all (refsInL (pick vs)) && (!t || l.all noRoL) with
      | true => match F us (l.map fun ps => .b (renL (fun b => (pick vs).idxOf b) ps)) with
        | some (v, q) => match t && (stale v || (l.map fun ps => Blk.b (renL (fun b => (pick vs).idxOf b) ps)).any staleB) with
          | true => none
          | false => some (ren (backN (pick vs) j) v, h, [], andT p q)
        | none => none
      | false => none
    | _, _ => none
  pf := 1
  nb := 0
  ok := by
    intro vs h j v h' new g B e w args hla R hj
    generalize hpk : pick vs = is at g
    split at g
    · rename_i l us p t hl habs
      split at g
      · rename_i hc
        simp only [Bool.and_eq_true, decide_eq_true_eq, List.all_eq_true] at hc
        obtain ⟨⟨hnd, href⟩, hnr⟩ := hc
        split at g
        · rename_i u q hF
          split at g
          · cases g
          · rename_i hs
            simp only [Option.some.injEq, Prod.mk.injEq, andT_iff] at g
            obtain ⟨rfl, rfl, rfl, rfl, rfl⟩ := g
            have hbn : fn.body ≠ none := fun q => by rw [q] at hb; cases hb
            obtain ⟨hlen, hget⟩ := pickH_get hl
            refine .inr ⟨callFunc_enter hf (by simpa using hn) hbn _ w, ?_⟩
            have hnw : backNew is j (l.map fun ps => .b (renL (fun b => is.idxOf b) ps)) = [] := by
              unfold backNew
              rw [List.drop_eq_nil_of_le (by simp [hlen])]; rfl
            have hbk : backH is j h (l.map fun ps => .b (renL (fun b => is.idxOf b) ps)) = h := by
              unfold backH
              refine setAll_same (fun q i hi => ?_) hnd
              obtain ⟨ps, h1, h2⟩ := hget q i hi
              have hq : q < is.length := (List.getElem?_eq_some_iff.1 hi).1
              rw [List.getElem?_map, List.getElem?_take_of_lt hq, List.getElem?_map, h1, h2]
              simp only [Option.map_some, renB, Option.some.injEq, Blk.b.injEq]
              exact renLs_back (href ps (List.mem_of_getElem? h1))
            refine (mut_call (j := j) (ok us _ u hF) hnd hl href (fun ht ps hps => ?_) habs (fun ht => ?_) hla R ?_).mono ?_
            · rw [ht] at hnr
              simp only [Bool.not_true, Bool.false_or, List.all_eq_true] at hnr
              exact hnr ps hps
            · rw [ht, Bool.true_and, Bool.or_eq_false_iff] at hs
              refine ⟨hs.1, fun b hb => ?_⟩
              cases hq : staleB b with
              | false => rfl
              | true =>
                have : (l.map fun ps => Blk.b (renL (fun b => is.idxOf b) ps)).any staleB = true := List.any_eq_true.2 ⟨b, hb, hq⟩
                rw [this] at hs; cases hs.2
            · simpa [hlen] using hj
            · rintro en w' ⟨v', rfl, e2, h1, h2, h3⟩
              rw [hbk, hnw] at h2
              exact ⟨v', rfl, e2, h1, h2, h3⟩
        · cases g
      · cases g
    · cases g
  pu := by
    refine ⟨(fun h => by cases h), fun _ vs h j v h' new p g => ?_⟩
    split at g
    · rename_i l us p1 t hl habs
      split at g
      · rename_i hc
        split at g
        · rename_i u q hF
          split at g
          · cases g
          · rename_i hs
            simp only [Option.some.injEq, Prod.mk.injEq] at g
            obtain ⟨rfl, rfl, rfl, rfl⟩ := g
            refine ⟨rfl, fun h2 hle => ?_⟩
            rw [pickH_le hle hl, absL_le (hide_le hle) habs]
            simp only
            rw [hc]; simp only; rw [hF]; simp only; rw [hs]
        · cases g
      · cases g
    · cases g
end
end Go.Sy
