/- This file proves appends, copies and what strings come to sound. Conditions: those of the interpreter's own tests. -/
import Derived.Test.YtailgcdcdhhpnaaSyG
namespace Go.Sy
open Go

section
variable {P : Program} {e : Env} {B : Base} {h : List Blk} {w : World}

theorem PR.split : ∀ {a b : List SV} {ys : List Value}, PR e (a ++ b) ys → ∃ y1 y2, ys = y1 ++ y2 ∧ PR e a y1 ∧ PR e b y2
  | [], b, ys, h => ⟨[], ys, rfl, rfl, h⟩
  | x :: a, b, ys, h => by
    rw [List.cons_append] at h
    by_cases hx : notInts x = true
    · obtain ⟨y, zs, h1, h2, rfl⟩ := (PR.cons hx).1 h
      obtain ⟨y1, y2, rfl, h3, h4⟩ := PR.split h2
      exact ⟨y :: y1, y2, rfl, (PR.cons hx).2 ⟨y, y1, h1, h3, rfl⟩, h4⟩
    · cases x <;> simp [notInts] at hx
      obtain ⟨zs, h2, rfl⟩ := h
      obtain ⟨y1, y2, rfl, h3, h4⟩ := PR.split h2
      exact ⟨_, y2, by rw [List.append_assoc], ⟨y1, h3, rfl⟩, h4⟩
theorem psize_append (a b : List SV) : psize (a ++ b) = psize a + psize b := by
  induction a with
  | nil => simp [psize]
  | cons x xs ih => simp only [List.cons_append, psize, ih]; omega

theorem updP_split {f : SV → Option SV} : ∀ {ps ps' : List SV} {o : Nat}, updP f ps o = some ps' → ∃ pre p p' post, ps = pre ++ p :: post ∧ ps' = pre ++ p' :: post ∧ psize pre = o ∧ f p = some p' ∧ atP ps o = some p
  | [], ps', o, h => by cases o <;> simp [updP] at h
  | p :: ps, ps', 0, h => by
    simp only [updP] at h
    obtain ⟨p', h1, rfl⟩ := Option.map_eq_some_iff.1 h
    exact ⟨[], p, p', ps, rfl, rfl, rfl, h1, rfl⟩
  | p :: ps, ps', o + 1, h => by
    simp only [updP] at h
    split at h
    · rename_i hb
      have hle := Nat.le_of_ble_eq_true hb
      obtain ⟨qs, h1, rfl⟩ := Option.map_eq_some_iff.1 h
      obtain ⟨pre, x, x', post, rfl, rfl, h2, h3, h4⟩ := updP_split h1
      exact ⟨p :: pre, x, x', post, rfl, rfl, by simp only [psize]; omega, h3, by simp only [atP, hb]; exact h4⟩
    · cases h

theorem spl_length {xs ys : List Int} {i n m : Nat} (h1 : xs.length = m) (h2 : i + n ≤ m) (h3 : n ≤ ys.length) : (spl xs i ys n).length = m := by simp [spl]; omega

/-- Blocks that say the same. -/
theorem Rel.same (R : Rel B e h w) {b : Nat} {ps ps' : List SV} (hb : h[b]? = some (.b ps)) (h1 : ∀ ys, PR e ps ys → PR e ps' ys) (h2 : psize ps' = psize ps) : Rel B e (h.set b (.b ps')) w := by
  have hlt := (List.getElem?_eq_some_iff.1 hb).1
  exact {
    os := R.os, tape := R.tape, output := R.output, size := R.size, inj := R.inj, dom := fun i p hi => by simpa using R.dom i p hi, sep := R.sep, zok := R.zok, zfresh := R.zfresh, news := R.news, keepr := R.keepr, keepz := R.keepz, n0 := R.n0, n0le := R.n0le
    blk := fun i qs hi => by
      by_cases hbi : b = i
      · subst hbi
        rw [List.getElem?_set_self hlt] at hi; cases hi
        rcases R.blk b ps hb with ⟨g1, g2⟩ | ⟨p, o, g1, g2, c, t, rfl, g3, g4, g5⟩
        · exact .inl ⟨by omega, g2⟩
        · exact .inr ⟨p, _, g1, g2, c, t, rfl, g3, by omega, by rw [h2]; exact h1 _ g5⟩
      · rw [List.getElem?_set_ne hbi] at hi; exact R.blk i qs hi
    gap := fun i g hi => by
      by_cases hbi : b = i
      · subst hbi; rw [List.getElem?_set_self hlt] at hi; cases hi
      · rw [List.getElem?_set_ne hbi] at hi; exact R.gap i g hi
    yi := R.yi, yb := R.yb, old := R.old, win := R.win, kr := R.kr, kle := by simpa using R.kle, mks := R.mks, mnd := R.mnd }

theorem lenI_eq {x : SV} {m : Nat} {xs : List Int} (h : lenI x = some (m, xs)) : ∃ k, x = .ints k m xs := by
  unfold lenI at h
  split at h
  · rename_i k m' xs'; cases h; exact ⟨k, rfl⟩
  · cases h

/-- Integers written over a stretch of a part. -/
theorem writeI_parts {b o i n : Nat} {k : IntKind} {ys : List Int} {h' : List Blk} (hw : writeI h b o i k ys n = some (h', true)) : ∃ ps pre post m xs, h[b]? = some (.b ps) ∧ ps = pre ++ .ints k m xs :: post ∧ psize pre = o ∧
    h' = h.set b (.b (pre ++ .ints k m (spl xs i ys n) :: post)) ∧ xs.length = m ∧ i + n ≤ m ∧ n ≤ ys.length := by
  unfold writeI at hw
  split at hw
  · rename_i ps hb
    split at hw
    · rename_i m xs ps' ha hu
      simp only [Option.some.injEq, Prod.mk.injEq, Bool.and_eq_true, decide_eq_true_eq] at hw
      obtain ⟨rfl, ⟨hxl, hin⟩, hny⟩ := hw
      obtain ⟨pre, x, x', post, rfl, rfl, h2, h3, h4⟩ := updP_split hu
      rw [h4] at ha
      obtain ⟨k', rfl⟩ := lenI_eq ha
      simp only [splI] at h3
      split at h3
      · rename_i hk
        subst hk
        cases h3
        exact ⟨_, pre, post, m, xs, hb, rfl, h2, rfl, hxl, hin, hny⟩
      · cases h3
    · cases hw
  · cases hw

theorem spl_zero (xs : List Int) (i : Nat) (ys : List Int) : spl xs i ys 0 = xs := by simp [spl]

theorem writeI_zero (R : Rel B e h w) {b o i : Nat} {k : IntKind} {ys : List Int} {h' : List Blk} (hw : writeI h b o i k ys 0 = some (h', true)) : Rel B e h' w := by
  obtain ⟨ps, pre, post, m, xs, hb, rfl, _, rfl, _⟩ := writeI_parts hw
  rw [spl_zero]
  exact R.same hb (fun _ g => g) rfl

theorem writeI_sound (R : Rel B e h w) {b o i n : Nat} {k : IntKind} {ys : List Int} {h' : List Blk} {p : Pl} (hw : writeI h b o i k ys n = some (h', true)) (hp : e.r b = some p) :
    ∃ w', (storeCells ⟨p.n, p.base + (o + i), none⟩ (intsV k (ys.take n)) 0).run P w = .ok () w' ∧ Rel B e h' w' := by
  obtain ⟨ps, pre, post, m, xs, hb, rfl, ho, rfl, hxl, hin, hny⟩ := writeI_parts hw
  obtain ⟨c, t, hc, hsz, hpsz, hpr⟩ := R.block hp hb
  have hl : (intsV k (ys.take n)).length = n := by simp [intsV_length]; omega
  have hsize : psize (pre ++ .ints k m xs :: post) = o + (m + psize post) := by rw [psize_append, ho]; simp [psize, psz]
  refine R.storeAt hp hc hsz hpsz (o + i) _ _ (by rw [hl, hsize]; omega) (by rw [psize_append, psize_append]; simp [psize, psz]) (fun v hv => ?_) ?_
  · simp only [intsV, List.map_take] at hv
    obtain ⟨x, _, rfl⟩ := List.mem_map.1 (List.mem_of_mem_take hv)
    rfl
  · obtain ⟨y1, y2, hy, g1, g2⟩ := hpr.split
    obtain ⟨zs, g3, rfl⟩ := g2
    rw [hy]
    have hy1 : y1.length = o := by rw [g1.length, ho]
    rw [lst_eq hxl, hl]
    have e1 : (y1 ++ (intsV k xs ++ zs)).take (o + i) = y1 ++ (intsV k xs).take i := by
      rw [List.take_append, List.take_of_length_le (by omega), hy1, Nat.add_sub_cancel_left, List.take_append_of_le_length (by rw [intsV_length]; omega)]
    have e2 : (y1 ++ (intsV k xs ++ zs)).drop (o + i + n) = (intsV k xs).drop (i + n) ++ zs := by
      rw [List.drop_append, List.drop_eq_nil_of_le (by omega), List.nil_append, hy1, show o + i + n - o = i + n by omega, List.drop_append_of_le_length (by rw [intsV_length]; omega)]
    rw [e1, e2]
    refine (g1.append (show PR e (.ints k m (spl xs i ys n) :: post) (intsV k (spl xs i ys n) ++ zs) from ⟨zs, g3, by rw [lst_eq (spl_length hxl hin hny)]⟩)) |> fun g => ?_
    have e3 : intsV k (spl xs i ys n) = (intsV k xs).take i ++ intsV k (ys.take n) ++ (intsV k xs).drop (i + n) := by
      simp [spl, intsV_append, intsV_take, intsV_drop]
    rw [e3] at g
    simpa [List.append_assoc] using g

/-! ### append -/
theorem run_append_fit {sT xT ty el : TypeId} {i : TypeInfo} {d : TypeDesc} {base : Option Addr} {sLen sCap n : Nat} {y' : Value} {news : List Value} {w' : World} (ht : P.underlying sT = some (.slice el)) (hu : P.underlying xT = some d) (hd : ∀ k, d ≠ .int k) (hi : P.info? el = some i)
    (hlen : (Builtin.lenOf y').run P w = .ok n w) (hf : (Builtin.firstCells i.size n y').run P w = .ok news.toArray w) (hfit : sLen + n ≤ sCap)
    (hst : (base = none ∧ w' = w) ∨ ∃ a, base = some a ∧ (storeCells (a.add (sLen * i.size)) news 0).run P w = .ok () w') :
    (Builtin.append_ #[sT, xT] ty #[.slice base sLen sCap, y']).run P w = .ok (.slice base (sLen + n) sCap) w' := by
  unfold Builtin.append_
  simp only [List.getElem?_toArray, List.getElem?_cons_zero, List.getElem?_cons_succ, Sem.run_bind, run_underlying ht, run_underlying hu, Result.andThen_ok, sizeOf, typeInfo, run_program, hi, Sem.run_pure, Bool.false_eq_true, if_false, hlen, Bool.not_false, if_true, if_pos hfit, hf]
  rcases hst with ⟨rfl, rfl⟩ | ⟨a, rfl, hr⟩
  · simp
  · simp [hr]

theorem run_append_grow' {sT xT ty el : TypeId} {i : TypeInfo} {d : TypeDesc} {zv : Value} {base : Option Addr} {sLen sCap n : Nat} {y' : Value} {olds news : List Value} (ht : P.underlying sT = some (.slice el)) (hu : P.underlying xT = some d) (hd : ∀ k, d ≠ .int k) (hi : P.info? el = some i) (hz : i.zero = some zv)
    (hlen : (Builtin.lenOf y').run P w = .ok n w) (hold : (Builtin.firstCells i.size sLen (.slice base sLen sCap)).run P w.drew = .ok olds.toArray w.drew) (hf : (Builtin.firstCells i.size n y').run P w.drew = .ok news.toArray w.drew)
    (hg : sCap < sLen + n) (h63 : ((sLen + n : Nat) : Int) ≤ 9223372036854775807) (hb : (sLen + n) * i.bytes ≤ 140737488355328) :
    (Builtin.append_ #[sT, xT] ty #[.slice base sLen sCap, y']).run P w =
      .ok (.slice (some ⟨w.heap.size, 0, none⟩) (sLen + n) (grownCap w (sLen + n) sCap el)) (w.drew.alloc (.cells (olds ++ news ++ (Builtin.zeroCells zv.cells (grownCap w (sLen + n) sCap el - (sLen + n))).toList).toArray el)) := by
  have hn : ¬ (sLen + n ≤ sCap) := by omega
  have h63' : ¬ ((sLen + n : Nat) : Int) > IntKind.i64.max := by show ¬ ((sLen + n : Nat) : Int) > 9223372036854775807; omega
  have h48 : ¬ (Builtin.nextslicecap (sLen + n) sCap * i.bytes > 2 ^ 48) := by have := growslice_fits hg hb; omega
  have hroom : ∀ (m : Nat) (w : World), (askRoom m).run P w = .ok () w := fun m w => by unfold askRoom; split <;> simp [mark, Sem.run]
  unfold Builtin.append_
  simp only [List.getElem?_toArray, List.getElem?_cons_zero, List.getElem?_cons_succ, Sem.run_bind, run_underlying ht, run_underlying hu, Result.andThen_ok, sizeOf, typeInfo, run_program, hi, Sem.run_pure, Bool.false_eq_true, if_false, hlen, Bool.not_false, if_true, if_neg hn, h63', false_and, h48]
  have hch : (choose (.appendCap (sLen + n) sCap el)).run P w = .ok (grownCap w (sLen + n) sCap el) w.drew := by
    simp [Question.forced, grownCap]
  rw [hch]
  simp only [Result.andThen_ok, hroom, hold, hf, zeroValue, Sem.run_bind, typeInfo, run_program, hi, hz, Sem.run_pure]
  simp [newRow, newObj, Sem.run, World.alloc]
  congr 2
  apply Array.ext'
  simp

theorem joinP_sound {cx cy : List SV} {xs ys : List Value} (hx : PR e cx xs) (hy : PR e cy ys) (hl : lenOKP cx = true) : PR e (joinP cx cy) (xs ++ ys) := by
  unfold joinP
  split
  · rename_i k n as k' m bs
    obtain ⟨z1, g1, rfl⟩ := hx
    obtain ⟨z2, g2, rfl⟩ := hy
    rw [PR] at g1 g2; subst g1 g2
    simp only [lenOKP, decide_eq_true_eq] at hl
    split
    · rename_i hk
      subst hk
      refine ⟨[], rfl, ?_⟩
      rw [List.append_nil, List.append_nil, List.append_nil, ← intsV_append]
      congr 1
      rw [lst_eq hl]
      apply List.ext_getElem?
      intro i
      by_cases h1 : i < n + m
      · rw [lst_get _ h1]
        by_cases h2 : i < n
        · rw [List.getElem?_append_left (by omega), List.getD, List.getElem?_append_left (by omega), List.getElem?_eq_getElem (by omega)]; rfl
        · rw [List.getElem?_append_right (by omega), hl, lst_get _ (by omega), List.getD, List.getD, List.getElem?_append_right (by omega), hl]
      · rw [List.getElem?_eq_none (by simp [lst_length]; omega), List.getElem?_eq_none (by rw [lst_length]; omega)]
    · exact ⟨_, ⟨[], rfl, rfl⟩, by simp⟩
  · rw [PR] at hx; subst hx; exact hy
  · rw [PR] at hy; subst hy; simpa using hx
  · exact hx.append hy
theorem joinP_size {cx cy : List SV} (hl : lenOKP cx = true) {xs ys : List Value} (hx : PR e cx xs) (hy : PR e cy ys) : psize (joinP cx cy) = psize cx + psize cy := by
  have h1 := (joinP_sound hx hy hl).length
  rw [List.length_append, hx.length, hy.length] at h1
  exact h1.symm

/-- A tracked block that lies elsewhere now. -/
theorem Rel.rebind (R : Rel B e h w) {b : Nat} {ps ps' : List SV} {q : Pl} {w' : World} {c : Array Value} {t : TypeId} (hB : B.e.r b = none) (hb : h[b]? = some (.b ps))
    (hno : noUseB b (h.set b (.b ps')) = true) (hos : w'.os = w.os) (htape : w'.tape = w.tape) (hout : w'.output = w.output) (hsize : w.heap.size ≤ w'.heap.size)
    (hsame : ∀ n, n < w.heap.size → (∀ p, e.r b = some p → p.n ≠ n) → w'.heap[n]? = w.heap[n]?) (hq : w.heap.size ≤ q.n ∨ ∃ p, e.r b = some p ∧ p.n = q.n)
    (hcell : w'.heap[q.n]? = some (.cells c t (0, 0))) (hfit : q.base + q.size ≤ c.size) (hps : psize ps' ≤ q.size) (hpr : PR e ps' ((c.toList.drop q.base).take (psize ps'))) :
    Rel B (putR e b q) (h.set b (.b ps')) w' := by
  have hlt := (List.getElem?_eq_some_iff.1 hb).1
  have hnu : ∀ (i : Nat) (qs : List SV), (h.set b (.b ps'))[i]? = some (.b qs) → usesL b qs = false := fun i qs hi => by
    have := (List.all_eq_true.1 hno) (.b qs) (List.mem_of_getElem? hi)
    simpa using this
  have hnv : ∀ {i : Nat} (L : Lp), (h.set b (.b ps'))[i]? = some (.g (some L)) → ∀ v, some v ∈ L.t → uses b v = false := fun {i} L hi v hv => by
    have := (List.all_eq_true.1 hno) (.g (some L)) (List.mem_of_getElem? hi)
    have := (List.all_eq_true.1 this) (some v) hv
    simpa [noUseO] using this
  have up : ∀ (i : Nat) (qs : List SV) (ys : List Value), (h.set b (.b ps'))[i]? = some (.b qs) → PR e qs ys → PR (putR e b q) qs ys := fun i qs ys hi g =>
    PR.mono' (e := e) (e' := putR e b q) (fun _ _ h => h) (Nat.le_refl _) qs ys (fun j p hj hp => by
      show (if j = b then some q else e.r j) = some p
      rw [if_neg (fun x => by subst x; rw [hnu i qs hi] at hj; cases hj)]; exact hp) g
  have hbn : ∀ p, e.r b = some p → B.w.heap.size ≤ p.n := fun p hp => by
    rcases R.news b p hp with g | g
    · rw [hB] at g; cases g
    · exact g
  have keep : ∀ (i : Nat) (p : Pl), i ≠ b → e.r i = some p → w'.heap[p.n]? = w.heap[p.n]? := fun i p hi hp => hsame p.n (R.lt hp) fun p' hp' x => hi (R.inj i b p p' hp hp' x.symm)
  have hqne : ∀ (i : Nat) (p : Pl), i ≠ b → e.r i = some p → p.n ≠ q.n := fun i p hi hp x => by
    rcases hq with g | ⟨p', g1, g2⟩
    · have := R.lt hp; omega
    · exact hi (R.inj i b p p' hp g1 (by omega))
  exact {
    os := hos.trans R.os, tape := htape.trans R.tape, output := hout.trans R.output
    size := Nat.le_trans R.size hsize
    inj := fun i i' p p' hi hi' g => by
      rcases putR_cases hi with ⟨g0, g1⟩ | ⟨g1, g1'⟩ <;> rcases putR_cases hi' with ⟨g0', g2⟩ | ⟨g2, g2'⟩
      · exact R.inj i i' p p' g1 g2 g
      · subst g2'; exact absurd g (hqne i p g0 g1)
      · subst g1'; exact absurd g.symm (hqne i' p' g0' g2)
      · omega
    dom := fun i p hi => by
      rcases putR_cases hi with ⟨_, g⟩ | ⟨g, _⟩
      · simpa using R.dom i p g
      · subst g; simpa using hlt
    sep := fun i p hi => by
      rcases putR_cases hi with ⟨_, g⟩ | ⟨_, g⟩
      · exact R.sep i p g
      · subst g
        show e.z p.n = none
        rcases hq with g | ⟨p', g1, g2⟩
        · cases hz : e.z p.n with
          | none => rfl
          | some x => have := R.zlt hz; omega
        · rw [← g2]; exact R.sep b p' g1
    zok := fun n cc tt fr hz => by
      have hz' : e.z n = some (cc, tt, fr) := hz
      rw [hsame n (R.zlt hz') fun p hp x => by subst x; rw [R.sep b p hp] at hz'; cases hz']
      exact R.zok n cc tt fr hz
    zfresh := R.zfresh
    news := fun i p hi => by
      rcases putR_cases hi with ⟨_, g⟩ | ⟨_, g⟩
      · exact R.news i p g
      · subst g
        rcases hq with g | ⟨p', g1, g2⟩
        · exact .inr (Nat.le_trans R.size g)
        · exact .inr (by have := hbn p' g1; omega)
    keepr := fun i p hi => by
      show (if i = b then some q else e.r i) = some p
      rw [if_neg (fun x => by subst x; rw [hB] at hi; cases hi)]; exact R.keepr i p hi
    keepz := R.keepz, n0 := R.n0, n0le := R.n0le
    blk := fun i qs hi => by
      have hi0 := hi
      by_cases hbi : b = i
      · subst hbi
        rw [List.getElem?_set_self hlt] at hi; cases hi
        exact .inr ⟨q, _, putR_self, hcell, c, t, rfl, hfit, hps, up b _ _ hi0 hpr⟩
      · rw [List.getElem?_set_ne hbi] at hi
        rcases R.blk i qs hi with ⟨g1, g2⟩ | ⟨p, o, g1, g2, c', t', rfl, g3, g4, g5⟩
        · exact .inl ⟨g1, by show (if i = b then some q else e.r i) = none; rw [if_neg (Ne.symm hbi)]; exact g2⟩
        · exact .inr ⟨p, _, by show (if i = b then some q else e.r i) = some p; rw [if_neg (Ne.symm hbi)]; exact g1, by rw [keep i p (Ne.symm hbi) g1]; exact g2, c', t', rfl, g3, g4, up i _ _ hi0 g5⟩
    gap := fun i g hi => by
      by_cases hbi : b = i
      · subst hbi; rw [List.getElem?_set_self hlt] at hi; cases hi
      · rw [List.getElem?_set_ne hbi] at hi
        refine ⟨?_, (R.gap i g hi).2.keep (fun n o hn => ?_) rfl fun L hL v v' hm hv => VR.mono' (e := e) (e' := putR e b q) (fun _ _ h => h) (Nat.le_refl _) v v' (fun j p hj hp => by
          show (if j = b then some q else e.r j) = some p
          rw [if_neg (fun x => by subst x; rw [hnv L (by rw [← hL, List.getElem?_set_ne hbi]; exact hi) v hm] at hj; cases hj)]; exact hp) hv⟩
        · show (if i = b then some q else e.r i) = none
          rw [if_neg (Ne.symm hbi)]; exact (R.gap i g hi).1
        · rw [hsame n (Array.getElem?_eq_some_iff.1 hn).1 fun p hp x => by
            subst x
            obtain ⟨c', t', h1, _⟩ := R.isCells hp
            rw [h1] at hn; cases hn]
          exact hn
    yi := R.yi, yb := R.yb
    old := fun n hn hno hnl => by
      rw [hsame n (by have := R.size; omega) fun p hp => by have := hbn p hp; omega]
      exact R.old n hn hno hnl
    win := fun i p hi => by
      obtain ⟨o, o', ho, ho', hso⟩ := R.win i p hi
      exact ⟨o, o', ho, by rw [keep i p (fun x => by subst x; rw [hB] at hi; cases hi) (R.keepr i p hi)]; exact ho', hso⟩
    kr := R.kr
    kle := by simpa using R.kle
    mks := fun r hr => by
      have := R.mks r hr
      rw [hsame r (Array.getElem?_eq_some_iff.1 this.1).1 fun p hp x => by
        subst x
        obtain ⟨c', t', h1, _⟩ := R.isCells hp
        have h2 := this.1
        rw [h1] at h2; cases h2]
      exact this
    mnd := R.mnd }

theorem Rel.zero (R : Rel B e h w) {b : Nat} {ps ps' : List SV} (hb : h[b]? = some (.b ps)) (h1 : PR e ps' []) : Rel B e (h.set b (.b ps')) w := by
  have hlt := (List.getElem?_eq_some_iff.1 hb).1
  have h0 : psize ps' = 0 := h1.length.symm
  exact {
    os := R.os, tape := R.tape, output := R.output, size := R.size, inj := R.inj, dom := fun i p hi => by simpa using R.dom i p hi, sep := R.sep, zok := R.zok, zfresh := R.zfresh, news := R.news, keepr := R.keepr, keepz := R.keepz, n0 := R.n0, n0le := R.n0le
    blk := fun i qs hi => by
      by_cases hbi : b = i
      · subst hbi
        rw [List.getElem?_set_self hlt] at hi; cases hi
        cases hr : e.r b with
        | none => exact .inl ⟨h0, rfl⟩
        | some p =>
          obtain ⟨c, t, g1, g2, g3, g4⟩ := R.block hr hb
          exact .inr ⟨p, _, rfl, g1, c, t, rfl, g2, by omega, by rw [h0, List.take_zero]; exact h1⟩
      · rw [List.getElem?_set_ne hbi] at hi; exact R.blk i qs hi
    gap := fun i g hi => by
      by_cases hbi : b = i
      · subst hbi; rw [List.getElem?_set_self hlt] at hi; cases hi
      · rw [List.getElem?_set_ne hbi] at hi; exact R.gap i g hi
    yi := R.yi, yb := R.yb, old := R.old, win := R.win, kr := R.kr, kle := by simpa using R.kle, mks := R.mks, mnd := R.mnd }

/-- What the environment behind an operation keeps. -/
structure EStep (e e' : Env) (kill : Option Nat) : Prop where
  r : ∀ (i : Nat) (p : Pl), kill ≠ some i → e.r i = some p → e'.r i = some p
  z : ∀ n o, e.z n = some o → e'.z n = some o
  n0 : e'.n0 ≤ e.n0
  m : e'.m = e.m
theorem EStep.refl (e : Env) (k : Option Nat) : EStep e e k := ⟨fun _ _ _ h => h, fun _ _ h => h, Nat.le_refl _, rfl⟩
theorem EStep.of_le {e e' : Env} (h : Env.Le e e') (hm : e'.m = e.m) (k : Option Nat) : EStep e e' k := ⟨fun i p _ => h.r i p, h.z, h.n0, hm⟩
theorem EStep.le {e e' : Env} (h : EStep e e' none) : Env.Le e e' := ⟨fun i p => h.r i p (by simp), h.z, h.n0⟩
theorem EStep.slots {e' : Env} {k : Option Nat} (hs : EStep e e' k) {t : List (Option SV)} {t' : List Value} (g : TR e t t') : TR e' (killT k t) t' := by
  cases k with
  | none => exact g.mono hs.le
  | some b => exact g.kill hs.z hs.n0 fun j p hj => hs.r j p (by simp; exact fun x => hj x.symm)

/-- What an operation's run comes to. -/
def OpTo (B : Base) (e : Env) (j : Nat) (r : Res) (res : Result Next) : Prop :=
  ∃ nx w' e' v', res = .ok nx w' ∧ (nx = .value v' ∨ (nx = .skip ∧ v' = undef)) ∧ VR e' r.v v' ∧ Rel B e' (placeH r.h j r.new) w' ∧ EStep e e' r.kill

theorem elemOK_info {el : TypeId} {z : Nat} (hk : elemOK P el = some z) : ∃ i zv, P.info? el = some i ∧ i.size = z + 1 ∧ i.zero = some zv ∧ zv.cells.size = z + 1 ∧ i.bytes ≤ 256 := by
  unfold elemOK at hk
  split at hk
  · rename_i by_ z' zs hb hs hz
    split at hk
    · rename_i hc
      simp only [Bool.and_eq_true, decide_eq_true_eq] at hc
      cases hk
      obtain ⟨i, hi, hsz⟩ := szOf_info hs
      obtain ⟨zv, h1, h2⟩ := zeroS_len hz
      refine ⟨i, zv, hi, hsz, ?_, by omega, ?_⟩
      · simpa [zeroOf, hi] using h1
      · simp [hi] at hb; omega
    · cases hk
  · cases hk

theorem placeH_nil (h : List Blk) (j : Nat) : placeH h j [] = h := by unfold placeH; split <;> simp [fillH]

theorem zeroCells_length (c : Array Value) (n : Nat) : (Builtin.zeroCells c n).toList.length = n * c.size := by simp [Builtin.zeroCells]

theorem appendS_sound (R : Rel B e h w) {k j : Nat} {inp : Bool} {sT xT ty : TypeId} {x y : SV} {x' y' : Value} {r : Res} (ha : appendS P k h j inp sT xT x y = some r) (hp : r.p = true) (hj : Free h j r.new.length)
    (hk : ∀ i p, B.e.r i = some p → i < k) (hx : VR e x x') (hy : VR e y y') : OpTo B e j r ((do pure (.value (← Builtin.append_ #[sT, xT] ty #[x', y'])) : Sem Next).run P w) := by
  unfold appendS at ha
  split at ha
  · cases ha
  · rename_i el d hni ht hu
    have hd : ∀ k, d ≠ .int k := fun k q => hni k (by rw [q])
    split at ha
    · rename_i z cy py ny hok hcy hny
      obtain ⟨i, zv, hi, hsz, hz, hzs, hby⟩ := elemOK_info hok
      split at ha
      · -- to nothing
        cases ha
        simp only [andT_iff, decide_eq_true_eq] at hp
        obtain ⟨⟨rfl, hrow⟩, hbig⟩ := hp
        rw [VR] at hx; subst hx
        obtain ⟨ys, hys, hyl, hlen, hf⟩ := contS_sound (P := P) R hcy hny hy hrow
        obtain ⟨ys2, hys2, hyl2, hlen2, hf2⟩ := contS_sound (P := P) (R.drawn (w.drawn + 1)) hcy hny hy hrow
        by_cases h0 : ny = 0
        · subst h0
          have hnil : ys = [] := List.length_eq_zero_iff.1 (by rw [hyl]; simp)
          subst hnil
          have hrun := run_append_fit (w := w) (w' := w) (ty := ty) (base := none) (sLen := 0) (sCap := 0) (news := []) ht hu hd hi hlen (by have := hf 0 (Nat.le_refl _); rw [← hsz] at this; simpa using this) (Nat.le_refl _) (.inl ⟨rfl, rfl⟩)
          refine ⟨_, w, e, _, (by simp only [Sem.run_bind, hrun, Result.andThen_ok, Sem.run_pure]; try rfl), .inl rfl, .inl ⟨rfl, rfl, none, rfl⟩, R.nothing (by simpa using hj) hys.length.symm, EStep.refl _ _⟩
        · have hold : (Builtin.firstCells i.size 0 (.slice none 0 0)).run P w.drew = .ok ([] : List Value).toArray w.drew := by simp [Builtin.firstCells]
          have hnew : (Builtin.firstCells i.size ny y').run P w.drew = .ok ys2.toArray w.drew := by
            have := hf2 ny (Nat.le_refl _)
            rw [← hsz] at this hyl2
            rw [List.take_of_length_le (by omega)] at this
            exact this
          have hbb : (0 + ny) * i.bytes ≤ 140737488355328 := by
            have : ny * i.bytes ≤ 2 ^ 38 * 256 := Nat.mul_le_mul hbig hby
            rw [Nat.zero_add]; omega
          have hrun := run_append_grow' (w := w) (ty := ty) ht hu hd hi hz hlen hold hnew (by omega) (by omega) hbb
          have hcells : ([] ++ ys2 ++ (Builtin.zeroCells zv.cells (grownCap w (0 + ny) 0 el - (0 + ny))).toList).length = ny * (z + 1) + (grownCap w (0 + ny) 0 el - (0 + ny)) * (z + 1) := by
            simp only [List.nil_append, List.length_append, zeroCells_length, hzs, hyl2]
          have hge : 0 + ny ≤ grownCap w (0 + ny) 0 el := by unfold grownCap; simp [Question.cut]
          have hmul : ny * (z + 1) + (grownCap w (0 + ny) 0 el - (0 + ny)) * (z + 1) = grownCap w (0 + ny) 0 el * (z + 1) := by rw [← Nat.add_mul]; congr 1; omega
          have R2 := (R.drawn (w.drawn + 1)).make (j := j) (t := el) (ps := cy) (ys := [] ++ ys2 ++ (Builtin.zeroCells zv.cells (grownCap w (0 + ny) 0 el - (0 + ny))).toList) (by simpa using hj)
            (by rw [List.nil_append, List.take_append_of_le_length (by rw [hys2.length]; exact Nat.le_refl _), List.take_of_length_le (by rw [hys2.length]; exact Nat.le_refl _)]; exact hys2)
            (by rw [hcells, ← hys2.length, hyl2]; omega)
          have hfree := R.free (j := j) (by rcases hj with g | g; exact .inl g; exact .inr (by simpa using g 0 (by simp)))
          refine ⟨_, _, _, _, (by simp only [Sem.run_bind, hrun, Result.andThen_ok, Sem.run_pure]; try rfl), .inl rfl, .inr ⟨_, grownCap w (0 + ny) 0 el, 0, putR_self, by rw [Nat.zero_add], fun _ => by simp, by omega, (fun q => by cases q), by omega, fun _ => ?_⟩, R2, EStep.of_le (putR_le hfree) rfl _⟩
          show 0 + 0 * (z + 1) + grownCap w (0 + ny) 0 el * (z + 1) ≤ _
          rw [hcells, hmul]; simp
      · rename_i b o ix z' len cap ex wh
        split at ha
        · -- in place
          split at ha
          · rename_i ki mm ys0
            obtain ⟨⟨h1, q⟩, hw, rfl⟩ := Option.map_eq_some_iff.1 ha
            simp only [andT_iff, decide_eq_true_eq] at hp
            obtain ⟨⟨⟨rfl, hrow⟩, hfit⟩, rfl⟩ := hp
            obtain ⟨ys, hys, hyl, hlen, hf⟩ := contS_sound (P := P) R hcy hny hy hrow
            rw [Nat.mul_one] at hyl
            obtain ⟨us, hus, hyeq⟩ := hys
            rw [PR] at hus; subst hus
            rw [List.append_nil] at hyeq
            have hys0 : ∀ n, n ≤ ny → n ≤ ys0.length → intsV ki (ys0.take n) = ys.take n := fun n hn hn2 => by
              rw [hyeq, ← intsV_take]
              congr 1
              apply List.ext_getElem?
              intro j
              by_cases hj : j < n
              · have hmm : j < mm := by
                  have := congrArg List.length hyeq
                  rw [hyl, intsV_length, lst_length] at this; omega
                rw [List.getElem?_take_of_lt hj, List.getElem?_take_of_lt hj, lst_get _ hmm, List.getD, List.getElem?_eq_getElem (by omega)]; rfl
              · rw [List.getElem?_take, if_neg hj, List.getElem?_take, if_neg hj]
            rcases hx with ⟨rfl, rfl, a, rfl⟩ | ⟨p, cap', a, hpp, rfl, haa, hcap, hex, hlc, hft⟩
            · have h0 : ny = 0 := by omega
              subst h0
              have hrun := run_append_fit (w := w) (w' := w) (ty := ty) (base := a) (sLen := 0) (sCap := 0) (news := []) ht hu hd hi hlen (by have := hf 0 (Nat.le_refl _); rw [hsz]; simpa using this) (Nat.le_refl _) (by cases a with | none => exact .inl ⟨rfl, rfl⟩ | some a => exact .inr ⟨a, rfl, rfl⟩)
              refine ⟨_, w, e, _, (by simp only [Sem.run_bind, hrun, Result.andThen_ok, Sem.run_pure]; try rfl), .inl rfl, .inl ⟨rfl, rfl, a, rfl⟩, ?_, EStep.refl _ _⟩
              rw [placeH_nil]
              exact writeI_zero R hw
            · obtain ⟨w', hst, R'⟩ := writeI_sound (P := P) R hw hpp
              have hnyl : ny ≤ ys0.length := by
                obtain ⟨_, _, _, _, _, _, _, _, _, _, _, h⟩ := writeI_parts hw; exact h
              by_cases h0 : ny = 0
              · subst h0
                have hrun := run_append_fit (w := w) (w' := w) (ty := ty) (base := some ⟨p.n, a, none⟩) (sLen := len) (sCap := cap') (news := []) ht hu hd hi hlen (by have := hf 0 (Nat.le_refl _); rw [hsz]; simpa using this) (by omega) (.inr ⟨_, rfl, rfl⟩)
                refine ⟨_, w, e, _, (by simp only [Sem.run_bind, hrun, Result.andThen_ok, Sem.run_pure]; try rfl), .inl rfl, .inr ⟨p, cap', a, hpp, rfl, haa, hcap, hex, by omega, hft⟩, ?_, EStep.refl _ _⟩
                rw [placeH_nil]
                exact writeI_zero R hw
              · have ha2 := haa (by omega)
                have hadd : (⟨p.n, a, none⟩ : Addr).add (len * i.size) = ⟨p.n, p.base + (o + (ix + len)), none⟩ := by rw [addr_add, hsz, ha2]; congr 1; omega
                have hrun := run_append_fit (w := w) (w' := w') (ty := ty) (base := some ⟨p.n, a, none⟩) (sLen := len) (sCap := cap') (news := ys.take (ny * 1)) ht hu hd hi hlen (by rw [hsz]; exact hf ny (Nat.le_refl _)) (by omega)
                  (.inr ⟨_, rfl, by rw [hadd, Nat.mul_one, ← hys0 ny (Nat.le_refl _) hnyl]; exact hst⟩)
                refine ⟨_, w', e, _, (by simp only [Sem.run_bind, hrun, Result.andThen_ok, Sem.run_pure]; try rfl), .inl rfl, .inr ⟨p, cap', a, hpp, rfl, haa, hcap, hex, by omega, hft⟩, ?_, EStep.refl _ _⟩
                rw [placeH_nil]
                exact R'
          · cases ha
        · -- anywhere
          split at ha
          · rename_i cx px hcx
            split at ha
            · rename_i hc
              simp only [Bool.and_eq_true, decide_eq_true_eq] at hc
              obtain ⟨⟨⟨hkb, rfl⟩, hokp⟩, hno⟩ := hc
              cases ha
              simp only [andT_iff, decide_eq_true_eq] at hp
              obtain ⟨⟨⟨⟨rfl, rfl⟩, hlx⟩, hrow⟩, hbig⟩ := hp
              have hB : B.e.r b = none := by
                cases hq : B.e.r b with
                | none => rfl
                | some p => have := hk b p hq; have := Nat.le_of_ble_eq_true hkb; omega
              obtain ⟨ps, hb⟩ : ∃ ps, h[b]? = some (.b ps) := by
                unfold contS at hcx
                simp only at hcx
                split at hcx
                · rename_i ps hps; exact ⟨ps, hps⟩
                · cases hcx
              obtain ⟨xs, hxs, hxl, hlenx, hfx⟩ := contS_sound (P := P) (z := z + 1) R hcx (n := len) rfl hx (by simp [isRowOK])
              obtain ⟨ys, hys, hyl, hlen, hf⟩ := contS_sound (P := P) R hcy hny hy hrow
              have hjoin := joinP_sound hxs hys hlx
              have hjs : psize (joinP cx cy) = (len + ny) * (z + 1) := by
                have := hjoin.length
                rw [List.length_append, hxl, hyl, ← Nat.add_mul] at this; exact this.symm
              -- on new ground
              have grow : ∀ (base : Option Addr) (sCap : Nat), x' = .slice base len sCap → sCap < len + ny → OpTo B e j ⟨.sl b 0 0 (z + 1) (len + ny) (len + ny) false true, h.set b (.b (joinP cx cy)), [], some b, true⟩ ((do pure (.value (← Builtin.append_ #[sT, xT] ty #[x', y'])) : Sem Next).run P w) := fun base sCap hx' hlt => by
                subst hx'
                obtain ⟨xs2, hxs2, hxl2, _, hfx2⟩ := contS_sound (P := P) (z := z + 1) (R.drawn (w.drawn + 1)) hcx (n := len) rfl hx (by simp [isRowOK])
                obtain ⟨ys2, hys2, hyl2, hlen2, hf2⟩ := contS_sound (P := P) (R.drawn (w.drawn + 1)) hcy hny hy hrow
                have hold : (Builtin.firstCells i.size len (.slice base len sCap)).run P w.drew = .ok xs2.toArray w.drew := by
                  have := hfx2 len (Nat.le_refl _)
                  rw [List.take_of_length_le (by omega), ← hsz] at this
                  exact this
                have hnew : (Builtin.firstCells i.size ny y').run P w.drew = .ok ys2.toArray w.drew := by
                  have := hf2 ny (Nat.le_refl _)
                  rw [List.take_of_length_le (by omega), ← hsz] at this
                  exact this
                have hbb : (len + ny) * i.bytes ≤ 140737488355328 := by
                  have : (len + ny) * i.bytes ≤ 2 ^ 38 * 256 := Nat.mul_le_mul hbig hby
                  omega
                have hrun := run_append_grow' (w := w) (ty := ty) ht hu hd hi hz hlen hold hnew hlt (by omega) hbb
                have hge : len + ny ≤ grownCap w (len + ny) sCap el := by unfold grownCap; simp [Question.cut]
                have hcells : (xs2 ++ ys2 ++ (Builtin.zeroCells zv.cells (grownCap w (len + ny) sCap el - (len + ny))).toList).length = grownCap w (len + ny) sCap el * (z + 1) := by
                  simp only [List.length_append, zeroCells_length, hzs, hyl2, hxl2, ← Nat.add_mul]; congr 1; omega
                have hjoin2 := joinP_sound hxs2 hys2 hlx
                refine ⟨_, _, putR e b ⟨w.heap.size, 0, grownCap w (len + ny) sCap el * (z + 1)⟩, _, (by simp only [Sem.run_bind, hrun, Result.andThen_ok, Sem.run_pure]; try rfl), .inl rfl, .inr ⟨_, grownCap w (len + ny) sCap el, 0, putR_self, rfl, fun _ => by simp, hge, (fun q => by cases q), hge, fun _ => by simp⟩, ?_, ⟨fun i p hi hpi => ?_, fun _ _ h => h, Nat.le_refl _, rfl⟩⟩
                · rw [placeH_nil]
                  refine R.rebind hB hb hno rfl rfl rfl (by rw [World.size_alloc]; exact Nat.le_succ _) (fun n hn _ => ?_) (.inl (Nat.le_refl _)) (heap_alloc_new _ _) (by rw [Nat.zero_add, ← hcells]; exact Nat.le_refl _) (by rw [hjs]; exact Nat.mul_le_mul_right _ hge) ?_
                  · exact heap_alloc_old w.drew _ n hn
                  · simp only [List.drop_zero]
                    rw [List.take_append_of_le_length (by rw [hjs, List.length_append, hxl2, hyl2, ← Nat.add_mul]; exact Nat.le_refl _), List.take_of_length_le (by rw [hjs, List.length_append, hxl2, hyl2, ← Nat.add_mul]; exact Nat.le_refl _)]
                    exact hjoin2
                · show (if i = b then _ else e.r i) = some p
                  rw [if_neg (fun q => hi (by rw [q]))]; exact hpi
              rcases hx with ⟨rfl, rfl, a, rfl⟩ | ⟨p, cap', a, hpp, rfl, haa, hcap, hex, hlc, hft⟩
              · by_cases h0 : ny = 0
                · subst h0
                  have hrun := run_append_fit (w := w) (w' := w) (ty := ty) (base := a) (sLen := 0) (sCap := 0) (news := []) ht hu hd hi hlen (by have := hf 0 (Nat.le_refl _); rw [hsz]; simpa using this) (Nat.le_refl _) (by cases a with | none => exact .inl ⟨rfl, rfl⟩ | some a => exact .inr ⟨a, rfl, rfl⟩)
                  refine ⟨_, w, e, _, (by simp only [Sem.run_bind, hrun, Result.andThen_ok, Sem.run_pure]; try rfl), .inl rfl, .inl ⟨rfl, rfl, a, rfl⟩, ?_, EStep.refl _ _⟩
                  rw [placeH_nil]
                  have hxn : xs = [] := List.length_eq_zero_iff.1 (by rw [hxl]; simp)
                  have hyn : ys = [] := List.length_eq_zero_iff.1 (by rw [hyl]; simp)
                  subst hxn hyn
                  exact R.zero hb hjoin
                · exact grow a 0 rfl (by omega)
              · by_cases hroom : len + ny ≤ cap'
                · have hoff : cap' ≠ 0 ∨ (len = 0 ∧ ny = 0) := by omega
                  obtain ⟨c, t, hcell, hsz2, hpsz, hpr⟩ := R.block hpp hb
                  by_cases hc0 : cap' = 0
                  · have hl0 : len = 0 := by omega
                    have hn0 : ny = 0 := by omega
                    subst hc0 hl0 hn0
                    have hrun := run_append_fit (w := w) (w' := w) (ty := ty) (base := some ⟨p.n, a, none⟩) (sLen := 0) (sCap := 0) (news := []) ht hu hd hi hlen (by have := hf 0 (Nat.le_refl _); rw [hsz]; simpa using this) (Nat.le_refl _) (.inr ⟨_, rfl, rfl⟩)
                    refine ⟨_, w, e, _, (by simp only [Sem.run_bind, hrun, Result.andThen_ok, Sem.run_pure]; try rfl), .inl rfl, .inl ⟨rfl, rfl, _, rfl⟩, ?_, EStep.refl _ _⟩
                    rw [placeH_nil]
                    have hxn : xs = [] := List.length_eq_zero_iff.1 (by rw [hxl]; simp)
                    have hyn : ys = [] := List.length_eq_zero_iff.1 (by rw [hyl]; simp)
                    subst hxn hyn
                    exact R.zero hb hjoin
                  · have ha2 := haa hc0
                    have hft2 := hft hc0
                    have hnews : ys.length = ny * (z + 1) := hyl
                    have hone : ∀ v ∈ ys, v.oneCell' = true := cells_oneCell hys hokp
                    have hmul : (len + ny) * (z + 1) ≤ cap' * (z + 1) := Nat.mul_le_mul_right _ hroom
                    have hsplit : (len + ny) * (z + 1) = len * (z + 1) + ny * (z + 1) := Nat.add_mul _ _ _
                    have hst := run_storeCells_at P p.n (a + len * (z + 1)) t ys 0 c w hcell (by omega) hone
                    simp only [Nat.add_zero] at hst
                    have hrun := run_append_fit (w := w) (ty := ty) (base := some ⟨p.n, a, none⟩) (sLen := len) (sCap := cap') (news := ys) ht hu hd hi hlen (by have := hf ny (Nat.le_refl _); rw [hsz, this, List.take_of_length_le (by omega)]) hroom
                      (.inr ⟨_, rfl, by rw [addr_add, hsz]; exact hst⟩)
                    have hxcells : xs = (c.toList.drop a).take (len * (z + 1)) := by
                      have h1 := hfx len (Nat.le_refl _)
                      rw [run_first hcell (by omega), List.take_of_length_le (l := xs) (by omega)] at h1
                      have h2 : ((c.toList.drop a).take (len * (z + 1))).toArray = xs.toArray := (Result.ok.inj h1).1
                      exact (congrArg Array.toList h2).symm
                    refine ⟨_, _, putR e b ⟨p.n, a, cap' * (z + 1)⟩, _, (by simp only [Sem.run_bind, hrun, Result.andThen_ok, Sem.run_pure]; try rfl), .inl rfl, .inr ⟨_, cap', a, putR_self, rfl, fun _ => by simp, hroom, (fun q => by cases q), hroom, fun _ => by simp⟩, ?_, ⟨fun i p hi hpi => ?_, fun _ _ h => h, Nat.le_refl _, rfl⟩⟩
                    · rw [placeH_nil]
                      refine R.rebind hB hb hno rfl rfl rfl (by simp [World.setRow]) (fun n hn hne => setRow_other w p.n n _ (fun q => hne p hpp q.symm)) (.inr ⟨p, hpp, rfl⟩) (setRow_heap w p.n c _ t (0, 0) hcell) (by simp; omega) (by rw [hjs]; exact hmul) ?_
                      rw [hjs]
                      have hgoal : ((c.toList.take (a + len * (z + 1)) ++ ys ++ c.toList.drop (a + len * (z + 1) + ys.length)).drop a).take ((len + ny) * (z + 1)) = xs ++ ys := by
                        rw [List.append_assoc, List.drop_append_of_le_length (by simp; omega), List.drop_take, Nat.add_sub_cancel_left, ← hxcells, ← List.append_assoc,
                          List.take_append_of_le_length (by rw [List.length_append]; omega), List.take_of_length_le (by rw [List.length_append]; omega)]
                      simp only []
                      rw [hgoal]
                      exact hjoin
                    · show (if i = b then _ else e.r i) = some _
                      rw [if_neg (fun q => hi (by rw [q]))]; exact hpi
                · exact grow _ cap' rfl (by omega)
            · cases ha
          · cases ha
      · cases ha
    · cases ha
  · cases ha
end
end Go.Sy
