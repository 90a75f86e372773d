/- This file proves aggregates, new slices, slices of slices, lengths and assertions sound. Conditions: those of the interpreter's own tests. -/
import Derived.Test.YtailgcdcdhhpnaaSyE
import Derived.Laws.Append
namespace Go.Sy
open Go

section
variable {P : Program} {e : Env} {B : Base} {h : List Blk} {w : World}

/-! ### Parts in their places -/
def VP (e : Env) : List (Nat × SV) → List (Nat × Value) → Prop
  | [], ys => ys = []
  | (i, x) :: xs, ys => ∃ y zs, VR e x y ∧ VP e xs zs ∧ ys = (i, y) :: zs

theorem foldl_set_eq (o : Nat) : ∀ (l : List Value) (i : Nat) (cs : Array Value), o + i + l.length ≤ cs.size →
    ((l.zipIdx i).foldl (fun cs (x : Value × Nat) => cs.setIfInBounds (o + x.2) x.1) cs).toList = cs.toList.take (o + i) ++ l ++ cs.toList.drop (o + i + l.length)
  | [], i, cs, _ => by simp
  | x :: l, i, cs, hle => by
    simp only [List.length_cons] at hle
    simp only [List.zipIdx_cons, List.foldl_cons]
    rw [foldl_set_eq o l (i + 1) _ (by simp; omega)]
    have q := list_seg_step cs.toList (o + i) x l (by simp; omega)
    simpa [Array.toList_setIfInBounds, Nat.add_assoc] using q

theorem VR.cellsOf {v : SV} {v' : Value} (hv : VR e v v') (ho : one v = true) : v'.cells = #[v'] := by
  have := hv.oneCell ho
  cases v' <;> first | rfl | cases this

theorem placeP_sound {ps qs : List SV} {o n : Nat} {v : SV} {v' : Value} {cs : Array Value} (hp : placeP ps o n v = some (qs, true)) (g : PR e ps cs.toList) (hv : VR e v v') :
    v'.cells.size = n ∧ o + n ≤ cs.size ∧ PR e qs (cs.toList.take o ++ v'.cells.toList ++ cs.toList.drop (o + n)) := by
  unfold placeP at hp
  split at hp
  · rename_i q
    split at hp
    · rename_i hq
      obtain ⟨ps', h1, h2⟩ := Option.map_eq_some_iff.1 hp
      simp only [Prod.mk.injEq, and_true] at h2; subst h2
      obtain ⟨ys, hys, rfl⟩ := hv.agg_of
      obtain ⟨h3, h4⟩ := putP_sound h1 g hys
      have := hys.length
      exact ⟨by show ys.length = n; omega, by simpa using h4, h3⟩
    · cases hp
  · split at hp
    · rename_i hc
      simp only [Bool.and_eq_true, decide_eq_true_eq] at hc
      obtain ⟨rfl, ho⟩ := hc
      obtain ⟨h3, h4⟩ := setP_sound hp g hv
      rw [Nat.add_zero] at h3 h4
      have hc := hv.cellsOf ho
      refine ⟨by rw [hc]; rfl, by simp at h4; omega, ?_⟩
      rw [hc]
      rw [List.set_eq_take_append_cons_drop, if_pos h4] at h3
      simpa using h3
    · cases hp

theorem fillS_sound {place : Nat → Option (Nat × Nat)} : ∀ {parts : List (Nat × SV)} {parts' : List (Nat × Value)} {ps qs : List SV} {cs : Array Value}, fillS place ps parts = some (qs, true) → PR e ps cs.toList → VP e parts parts' →
    ∃ out, Instr.fill place cs parts' = some out ∧ PR e qs out.toList ∧ out.size = cs.size
  | [], parts', ps, qs, cs, hf, g, hv => by
    rw [VP] at hv; subst hv
    simp only [fillS, Option.some.injEq, Prod.mk.injEq, and_true] at hf; subst hf
    exact ⟨cs, rfl, g, rfl⟩
  | (i, x) :: parts, _, ps, qs, cs, hf, g, ⟨y, zs, hy, hz, q⟩ => by
    subst q
    simp only [fillS] at hf
    split at hf
    · rename_i o n hpl
      split at hf
      · rename_i ps1 p1 hpp
        obtain ⟨⟨q1, q2⟩, h1, h2⟩ := Option.map_eq_some_iff.1 hf
        simp only [Prod.mk.injEq, andT_iff] at h2
        obtain ⟨rfl, rfl, rfl⟩ := h2
        obtain ⟨h3, h4, h5⟩ := placeP_sound hpp g hy
        have e1 : (y.cells.zipIdx.foldl (fun cs (x : Value × Nat) => cs.setIfInBounds (o + x.2) x.1) cs).toList = cs.toList.take o ++ y.cells.toList ++ cs.toList.drop (o + n) := by
          rw [← Array.foldl_toList, Array.toList_zipIdx]
          have := foldl_set_eq o y.cells.toList 0 cs (by simp; omega)
          rw [this]
          simp [h3]
        obtain ⟨out, h6, h7, h8⟩ := fillS_sound h1 (cs := y.cells.zipIdx.foldl (fun cs (x : Value × Nat) => cs.setIfInBounds (o + x.2) x.1) cs) (by rw [e1]; exact h5) hz
        refine ⟨out, ?_, h7, ?_⟩
        · simp only [Instr.fill, hpl]
          rw [if_neg (by rw [h3]; simp; omega)]
          exact h6
        · rw [h8, ← Array.length_toList, e1]
          simp
          omega
      · cases hf
    · cases hf

theorem zeroS_len {t : TypeId} {ps : List SV} (hz : zeroS P t = some ps) : ∃ z, zeroOf P t = some z ∧ z.cells.size = psize ps := by
  obtain ⟨z, h1, h2⟩ := zeroS_sound (e := ⟨fun _ => none, fun _ => none, 0, [], fun _ => none⟩) hz
  exact ⟨z, h1, by simpa using h2.length⟩

theorem buildS_sound {t : TypeId} {parts : List (Nat × SV)} {parts' : List (Nat × Value)} {v : SV} (hb : buildS P t parts = some (v, true)) (hp : VP e parts parts') :
    ∃ v', (Instr.build t parts'.toArray).run P w = .ok v' w ∧ VR e v v' := by
  unfold buildS at hb
  split at hb
  · rename_i z place hz hpl
    obtain ⟨⟨q1, q2⟩, h1, h2⟩ := Option.map_eq_some_iff.1 hb
    simp only [Prod.mk.injEq] at h2
    obtain ⟨rfl, rfl⟩ := h2
    obtain ⟨z', hz', hpr⟩ := zeroS_sound (e := e) hz
    obtain ⟨out, h3, h4, _⟩ := fillS_sound h1 hpr hp
    obtain ⟨it, hit, hiz⟩ : ∃ it, P.info? t = some it ∧ it.zero = some z' := by
      unfold zeroOf at hz'
      cases hq : P.info? t with
      | none => simp [hq] at hz'
      | some it => simp [hq] at hz'; exact ⟨it, rfl, hz'⟩
    refine ⟨.agg out, run_build w t parts'.toArray out ?_, out.toList, h4, rfl⟩
    unfold Program.built
    unfold placesOf at hpl
    split at hpl
    · rename_i n el hu
      obtain ⟨ie, hie, rfl⟩ := Option.map_eq_some_iff.1 hpl
      simp only [hit, hu, hiz, hie]
      simpa using h3
    · rename_i fields hu
      obtain ⟨places, hpp, rfl⟩ := Option.map_eq_some_iff.1 hpl
      simp only [hit, hu, hiz, hpp]
      simpa using h3
    · cases hpl
  · cases hb

theorem PR.replicate {zs : List SV} {ys : List Value} (g : PR e zs ys) : ∀ n : Nat, PR e (List.replicate n zs).flatten (List.replicate n ys).flatten
  | 0 => rfl
  | n + 1 => by
    rw [List.replicate_succ, List.flatten_cons, List.replicate_succ, List.flatten_cons]
    exact g.append (PR.replicate g n)

theorem rep_eq (c : Array Value) (hc : 0 < c.size) : ∀ n : Nat, ((Array.range (n * c.size)).map fun i => c[i % c.size]!).toList = (List.replicate n c.toList).flatten
  | 0 => by simp
  | n + 1 => by
    rw [List.replicate_succ', List.flatten_append, ← rep_eq c hc n]
    simp only [List.flatten_cons, List.flatten_nil, List.append_nil, Array.toList_map, Array.toList_range]
    rw [Nat.succ_mul, List.range_add, List.map_append]
    congr 1
    apply List.ext_getElem?
    intro j
    simp only [List.map_map, List.getElem?_map]
    by_cases hj : j < c.size
    · rw [List.getElem?_range hj]
      simp only [Option.map_some, Function.comp]
      rw [Nat.mul_comm n, Nat.mul_add_mod, Nat.mod_eq_of_lt hj, getElem!_pos c j hj]
      simp [hj]
    · rw [List.getElem?_eq_none (by simpa using hj), List.getElem?_eq_none (by simpa using hj)]; rfl

theorem zeroS_int {el : TypeId} {k : IntKind} {zs : List SV} {z : Value} (hk : isInt P el = some k) (hz : zeroS P el = some zs) (hz' : zeroOf P el = some z) : z.cells.toList = [.int k 0] := by
  have hu := isInt_eq hk
  have hp : zeroP P 12 el = some [.int k 0] := by simp [zeroP, hu]
  obtain ⟨z2, h1, h2⟩ := zeroS_sound (e := ⟨fun _ => none, fun _ => none, 0, [], fun _ => none⟩) hz
  rw [hz'] at h1; cases h1
  have : zs = [.int k 0] := by
    unfold zeroS at hz
    rw [hz', hp] at hz
    simp only [] at hz
    split at hz
    · cases hz; rfl
    · cases hz
  subst this
  obtain ⟨y, us, hy, hu2, q⟩ := (PR.cons rfl).1 h2
  rw [PR] at hu2; subst hu2
  rw [VR] at hy; subst hy
  exact q
theorem rep_int (k : IntKind) (n : Nat) : (List.replicate n [Value.int k 0]).flatten = intsV k (List.replicate n 0) := by
  induction n with
  | zero => rfl
  | succ n ih => rw [List.replicate_succ, List.flatten_cons, ih]; rfl

/-- A row of zero values. -/
theorem zero_row {el : TypeId} {zs : List SV} {z : Value} {n : Nat} (hz : zeroS P el = some zs) (hz' : zeroOf P el = some z) (hpos : 0 < z.cells.size) {ps : List SV} (hps : ps = match isInt P el with
    | some k => [.ints k n (List.replicate n 0)]
    | none => (List.replicate n zs).flatten) : PR e ps ((Array.range (n * z.cells.size)).map fun i => z.cells[i % z.cells.size]!).toList := by
  rw [rep_eq _ hpos]
  obtain ⟨z2, h1, h2⟩ := zeroS_sound (e := e) hz
  rw [hz'] at h1; cases h1
  cases hk : isInt P el with
  | none => rw [hk] at hps; subst hps; exact h2.replicate n
  | some k =>
    rw [hk] at hps; subst hps
    rw [zeroS_int hk hz hz', rep_int]
    exact ⟨[], rfl, by rw [lst_eq (by simp), List.append_nil]⟩

theorem buildSliceS_sound {t : TypeId} {len z : Nat} {parts : List (Nat × SV)} {parts' : List (Nat × Value)} {ps : List SV} (hb : buildSliceS P t len parts = some (ps, z, true)) (hp : VP e parts parts') :
    ∃ el ys, (Instr.buildSlice t len parts'.toArray).run P w = .ok (.slice (some ⟨w.heap.size, 0, none⟩) len len) (w.alloc (.cells ⟨ys⟩ el)) ∧ PR e ps ys ∧ ys.length = len * z ∧ 0 < z := by
  unfold buildSliceS at hb
  split at hb
  · rename_i el hu
    split at hb
    · rename_i z0 zs hs hz
      split at hb
      · rename_i hc
        obtain ⟨⟨q1, q2⟩, h1, h2⟩ := Option.map_eq_some_iff.1 hb
        simp only [Prod.mk.injEq] at h2
        obtain ⟨rfl, rfl, rfl⟩ := h2
        obtain ⟨zv, hzv, hzs⟩ := zeroS_len hz
        obtain ⟨hc, hsz0⟩ := hc
        have hsz : zv.cells.size = z0 + 1 := by omega
        · have hrow := zero_row (e := e) (n := len) hz hzv (by omega) rfl
          obtain ⟨out, h3, h4, h5⟩ := fillS_sound h1 hrow hp
          rw [hsz] at h3 h5
          refine ⟨el, out.toList, ?_, h4, by simpa using h5, by omega⟩
          have hle : ¬ len * (z0 + 1) > 2 ^ 24 := by omega
          unfold Instr.buildSlice
          simp only [Sem.run_bind, run_underlying hu, Result.andThen_ok, szOf_run hs, Sem.run_ite, if_neg hle, Sem.run_pure]
          by_cases h0 : len * (z0 + 1) = 0
          · rw [if_pos h0]
            have : ((Array.range (len * (z0 + 1))).map fun i => zv.cells[i % (z0 + 1)]!) = ((Array.range (len * (z0 + 1))).map fun i => (#[] : Array Value)[i % (#[] : Array Value).size]!) := by rw [h0]; simp
            rw [this] at h3
            simp only [h3, newRow, newObj, Sem.run_bind, Sem.run_pure]
            rfl
          · rw [if_neg h0]
            simp only [zeroOf_run hzv, Result.andThen_ok, hsz, h3, newRow, newObj, Sem.run_bind, Sem.run_pure]
            rfl
      · cases hb
    · cases hb
  · cases hb

theorem makeSliceS_sound {t : TypeId} {a b : SV} {a' b' : Value} {ps : List SV} {z n m : Nat} (hm : makeSliceS P t a b = some (ps, z, n, m, true)) (ha : VR e a a') (hb : VR e b b') :
    ∃ el ys, (Instr.makeSlice t a' b').run P w = .ok (.slice (some ⟨w.heap.size, 0, none⟩) n m) (w.alloc (.cells ⟨ys⟩ el)) ∧ PR e ps ys ∧ ys.length = m * z ∧ 0 < z ∧ n ≤ m := by
  unfold makeSliceS at hm
  split at hm
  · rename_i k1 l k2 c
    rw [VR] at ha hb; subst ha hb
    split at hm
    · rename_i el hu
      split at hm
      · rename_i i z0 zs hi hs hz
        split at hm
        · rename_i hsz0
          simp only [Option.some.injEq, Prod.mk.injEq, Bool.and_eq_true, beq_iff_eq, decide_eq_true_eq] at hm
          obtain ⟨hps, rfl, rfl, rfl, ⟨hl, hcc⟩, ⟨h0, hlc⟩, hbig⟩ := hm
          obtain ⟨zv, hzv, hzs⟩ := zeroS_len hz
          have hsz : zv.cells.size = z0 + 1 := by omega
          have t1 : (decide (c < 0) || decide ((i.bytes : Int) * c > 2 ^ 48)) = false := by
            rw [Bool.or_eq_false_iff]; exact ⟨decide_eq_false (by omega), decide_eq_false (by omega)⟩
          have hrow := zero_row (e := e) (n := c.toNat) hz hzv (by omega) hps.symm
          rw [hsz] at hrow
          refine ⟨el, _, ?_, hrow, by simp, by omega, by omega⟩
          unfold Instr.makeSlice
          have hnn : ¬ l > c := by omega
          have hn0 : ¬ l < 0 := by omega
          simp only [Sem.run_bind, run_underlying hu, Result.andThen_ok, asInt, asIntOf, Sem.run_pure, typeInfo, run_program, hi, hl, hcc, t1, hn0, hnn, decide_false, Bool.or_self, Bool.false_eq_true, if_false]
          have hroom : ∀ w : World, (askRoom (c.toNat * i.bytes)).run P w = .ok () w := fun w => by unfold askRoom; split <;> simp [mark, Sem.run]
          rw [hroom]
          simp only [Result.andThen_ok, szOf_run hs]
          by_cases hc0 : c.toNat * (z0 + 1) = 0
          · rw [if_pos hc0]
            have hr0 : Array.range 0 = #[] := by simp
            simp [newRow, newObj, Sem.run, hc0, hr0]
          · rw [if_neg hc0]
            simp only [Sem.run_bind, zeroOf_run hzv, Sem.run_pure, Result.andThen_ok, newRow, newObj, hsz]
            rfl
        · cases hm
      · cases hm
    · cases hm
  · cases hm

/-! ### Slices of slices -/
def boundR (d y : Nat) (code : BoundsCode) (v' : Option Value) : Sem Nat := match v' with
  | some x => Instr.sliceBound x y code
  | none => pure d
theorem bound_sound {d y y' : Nat} {v : Option SV} {v' : Option Value} {n : Nat} (hb : boundS d y v = some (n, true)) (hv : VO e v v') (hy : y ≤ y') (code : BoundsCode) :
    (boundR d y' code v').run P w = .ok n w ∧ (v = none → n = d) ∧ (v ≠ none → n ≤ y) := by
  unfold boundS at hb
  split at hb
  · simp only [Option.some.injEq, Prod.mk.injEq, and_true] at hb
    subst hb; rw [VO] at hv; subst hv
    exact ⟨rfl, fun _ => rfl, fun h => absurd rfl h⟩
  · rename_i k i
    obtain ⟨z, rfl, hz⟩ := hv
    rw [VR] at hz; subst hz
    simp only [Option.some.injEq, Prod.mk.injEq, Bool.and_eq_true, decide_eq_true_eq] at hb
    obtain ⟨rfl, h1, h2⟩ := hb
    have : i ≤ y' := by omega
    exact ⟨by simp [boundR, Instr.sliceBound, asIntOf, h1, this], (fun h => by cases h), fun _ => by omega⟩
  · cases hb

theorem VO.none_iff {v : Option SV} {v' : Option Value} (hv : VO e v v') : v = none ↔ v' = none := by
  cases v with
  | none => rw [VO] at hv; simp [hv]
  | some x => obtain ⟨z, rfl, _⟩ := hv; simp

theorem boundsS_sound {len cap cap' l h m : Nat} {lo hi mx : Option SV} {lo' hi' mx' : Option Value} (hb : boundsS len cap lo hi mx = some (l, h, m, true)) (hl : VO e lo lo') (hh : VO e hi hi') (hm : VO e mx mx') (hcap : cap ≤ cap') (b : Bool) :
    ∃ m', (Instr.sliceBounds b len cap' lo' hi' mx').run P w = .ok (l, h, m') w ∧ (mx = none → m' = cap' ∧ m = cap) ∧ (mx ≠ none → m' = m ∧ m ≤ cap) ∧ (hi = none → h = len) ∧ (hi ≠ none → h ≤ m ∧ h ≤ m') ∧ (lo = none → l = 0) ∧ (lo ≠ none → l ≤ h) := by
  unfold boundsS at hb
  split at hb
  · rename_i m0 p0 hmx
    split at hb
    · cases hb
    · rename_i hne
      split at hb
      · rename_i h0 q0 hhi
        split at hb
        · rename_i l0 r0 hlo
          simp only [Option.some.injEq, Prod.mk.injEq, andT_iff] at hb
          obtain ⟨rfl, rfl, rfl, rfl, rfl, rfl⟩ := hb
          cases mx with
          | none =>
            rw [VO] at hm; subst hm
            simp only [boundS, Option.some.injEq, Prod.mk.injEq, and_true] at hmx
            subst hmx
            have a1 := bound_sound (P := P) (w := w) hhi hh hcap (if b then .sliceAcap else .sliceAlen)
            have a2 := bound_sound (P := P) (w := w) hlo hl (Nat.le_refl _) .sliceB
            refine ⟨cap', ?_, fun _ => ⟨rfl, rfl⟩, fun h => absurd rfl h, a1.2.1, fun h => ⟨a1.2.2 h, Nat.le_trans (a1.2.2 h) hcap⟩, a2.2.1, a2.2.2⟩
            have b1 := a1.1; have b2 := a2.1
            unfold boundR at b1 b2
            unfold Instr.sliceBounds
            cases hi' <;> cases lo' <;> simp_all [Sem.run_bind]
          | some mv =>
            have a0 := bound_sound (P := P) (w := w) hmx hm hcap (if b then .slice3Acap else .slice3Alen)
            cases hi with
            | none => exact absurd rfl (hne _ rfl)
            | some hv =>
              have a1 := bound_sound (P := P) (w := w) hhi hh (Nat.le_refl _) .slice3B
              have a2 := bound_sound (P := P) (w := w) hlo hl (Nat.le_refl _) .slice3C
              refine ⟨m0, ?_, (fun h => by cases h), fun _ => ⟨rfl, a0.2.2 (by simp)⟩, (fun h => by cases h), (fun h => ⟨a1.2.2 h, a1.2.2 h⟩), a2.2.1, a2.2.2⟩
              obtain ⟨mz, rfl, _⟩ := hm
              obtain ⟨hz, rfl, _⟩ := hh
              have b0 := a0.1; have b1 := a1.1; have b2 := a2.1
              unfold boundR at b0 b1 b2
              unfold Instr.sliceBounds
              cases lo' <;> simp_all [Sem.run_bind]
        · cases hb
      · cases hb
  · cases hb

theorem moved (x : Addr) (m l z : Nat) (hx : x = ⟨x.block, x.off, none⟩) : ∃ a, (if m = l then x else x.add (l * z)) = ⟨x.block, a, none⟩ ∧ (m ≠ l → a = x.off + l * z) := by
  by_cases h : m = l
  · exact ⟨x.off, by rw [if_pos h]; exact hx, fun g => absurd h g⟩
  · refine ⟨x.off + l * z, ?_, fun _ => rfl⟩
    rw [if_neg h, hx, addr_add]

theorem winL_length {xs : List Int} {lo hi : Option SV} {l h : Nat} (hlo : lo = none → l = 0) (hhi : hi = none → h = xs.length) (hle : h ≤ xs.length) (hlh : l ≤ h) : (winL xs lo hi l h).length = h - l ∧ ∀ k, intsV k (winL xs lo hi l h) = ((intsV k xs).drop l).take (h - l) := by
  unfold winL
  split
  · have h1 := hlo rfl; have h2 := hhi rfl
    subst h1 h2
    exact ⟨by simp, fun k => by rw [List.drop_zero, List.take_of_length_le (by rw [intsV_length]; omega)]⟩
  · have h2 := hhi rfl
    subst h2
    exact ⟨by simp, fun k => by rw [← intsV_drop, List.take_of_length_le (by rw [intsV_length, List.length_drop]; omega)]⟩
  · have h1 := hlo rfl
    subst h1
    exact ⟨by simp; omega, fun k => by rw [List.drop_zero, Nat.sub_zero, ← intsV_take]⟩
  · exact ⟨by simp; omega, fun k => by rw [← intsV_drop, ← intsV_take]⟩

theorem intsV_inj {k : IntKind} : ∀ {a b : List Int}, intsV k a = intsV k b → a = b
  | [], [], _ => rfl
  | [], _ :: _, h => by simp [intsV] at h
  | _ :: _, [], h => by simp [intsV] at h
  | x :: a, y :: b, h => by
    simp only [intsV, List.map_cons, List.cons.injEq, Value.int.injEq, true_and] at h
    rw [h.1, intsV_inj (k := k) h.2]
theorem strL_length (s : ByteArray) : (strL s).length = s.size := by unfold strL; rw [List.length_map, Array.length_toList]; rfl

theorem sliceS_sound (R : Rel B e h w) {t : TypeId} {x v : SV} {x' : Value} {lo hi mx : Option SV} {lo' hi' mx' : Option Value} (hs : sliceS P t h x lo hi mx = some (v, true)) (hx : VR e x x') (hl : VO e lo lo') (hh : VO e hi hi') (hm : VO e mx mx') :
    ∃ v', (Instr.sliceAt t x' lo' hi' mx').run P w = .ok v' w ∧ VR e v v' := by
  unfold sliceS at hs
  split at hs
  · -- an array's address
    rename_i n el b o i hu
    obtain ⟨p, hp, rfl⟩ := hx
    have fin : ∀ {z l u m : Nat} {ps : List SV}, h[b]? = some (.b ps) → szOf P el = some z → boundsS n n lo hi mx = some (l, u, m, true) → o + i + n * z ≤ psize ps →
        ∃ v', (Instr.sliceAt t (.pointer (some ⟨p.n, p.base + (o + i), none⟩)) lo' hi' mx').run P w = .ok v' w ∧
          ∃ a, v' = .slice (some ⟨p.n, a, none⟩) (u - l) (m - l) ∧ (m - l ≠ 0 → a = p.base + (o + i + l * z)) ∧ u - l ≤ m - l ∧ (m - l ≠ 0 → o + i + l * z + (m - l) * z ≤ p.size) ∧ l ≤ u ∧ (lo = none → l = 0) := fun {z l u m ps} hb hz hbd hfit => by
      obtain ⟨c, tt, hc, hsz, hpsz, hpr⟩ := R.block hp hb
      obtain ⟨m', hr, f1, f2, f3, f4, f5, f6⟩ := boundsS_sound (P := P) (w := w) hbd hl hh hm (Nat.le_refl n) false
      have hm' : m' = m ∧ m ≤ n := by
        cases mx with
        | none => have := f1 rfl; omega
        | some _ => exact f2 (by simp)
      obtain ⟨rfl, hmn⟩ := hm'
      have hum : u ≤ m' := by
        cases hi with
        | none =>
          have := f3 rfl
          cases mx with
          | none => have := f1 rfl; omega
          | some _ => unfold boundsS at hbd; split at hbd <;> simp at hbd
        | some _ => exact (f4 (by simp)).2
      have hlu : l ≤ u := by
        cases lo with
        | none => have := f5 rfl; omega
        | some _ => exact f6 (by simp)
      obtain ⟨a, ha, ha'⟩ := moved ⟨p.n, p.base + (o + i), none⟩ m' l z rfl
      refine ⟨_, ?_, a, rfl, fun hne => by have := ha' (by omega); simp only [] at this; omega, by omega, fun hne => ?_, hlu, f5⟩
      · simp only [Instr.sliceAt, Sem.run_bind, run_underlying hu, Result.andThen_ok, Instr.sureAddr, Sem.run_pure, hr, szOf_run hz, ha]
      · have h1 : l * z + (m' - l) * z = m' * z := by rw [← Nat.add_mul]; congr 1; omega
        have h2 := Nat.mul_le_mul_right z hmn
        omega
    split at hs
    · rename_i ps l u m pb hb hz hbd
      simp only [Option.some.injEq, Prod.mk.injEq, andT_iff, decide_eq_true_eq] at hs
      obtain ⟨rfl, rfl, hfit⟩ := hs
      obtain ⟨v', hr, a, rfl, h1, h2, h3, h4, h5⟩ := fin hb hz hbd (by omega)
      refine ⟨_, hr, .inr ⟨p, m - l, a, hp, ?_, ?_, ?_, ?_, ?_, ?_⟩⟩
      · cases lo with
        | none => have := h5 rfl; subst this; simp
        | some _ => rfl
      · intro hne
        have := h1 hne
        cases lo with
        | none => have := h5 rfl; subst this; simp at *; omega
        | some _ => simp only [] ; omega
      · cases lo with
        | none => have := h5 rfl; subst this; simp
        | some _ => exact Nat.le_refl _
      · intro _
        cases lo with
        | none => have := h5 rfl; subst this; simp
        | some _ => rfl
      · cases lo with
        | none => have := h5 rfl; subst this; simpa using h2
        | some _ => exact h2
      · intro hne
        have := h3 hne
        cases lo with
        | none => have := h5 rfl; subst this; simp at *; omega
        | some _ => simp only []; omega
    · rename_i ps z l u m pb hne hb hz hbd
      split at hs
      · simp only [Option.some.injEq, Prod.mk.injEq, andT_iff, decide_eq_true_eq] at hs
        obtain ⟨rfl, rfl, hfit⟩ := hs
        obtain ⟨v', hr, a, rfl, h1, h2, h3, h4, h5⟩ := fin hb hz hbd (by omega)
        exact ⟨_, hr, .inr ⟨p, m - l, a, hp, rfl, fun hne => by have := h1 hne; omega, Nat.le_refl _, fun _ => rfl, h2, fun hne => by have := h3 hne; omega⟩⟩
      · cases hs
    · cases hs
  · -- a slice of a tracked block
    rename_i el b o i z len cap ex wh hu
    split at hs
    · rename_i n l u m pb hz hbd
      split at hs
      · rename_i hnz
        subst hnz
        simp only [Option.some.injEq, Prod.mk.injEq] at hs
        obtain ⟨rfl, rfl⟩ := hs
        rcases hx with ⟨rfl, rfl, a, rfl⟩ | ⟨p, cap', a, hp, rfl, ha, hcap, hex, hlen, hfit⟩
        · obtain ⟨m', hr, f1, f2, f3, f4, f5, f6⟩ := boundsS_sound (P := P) (w := w) hbd hl hh hm (Nat.le_refl 0) true
          have hm0 : m' = 0 ∧ m = 0 := by
            cases mx with
            | none => have := f1 rfl; omega
            | some _ => have := f2 (by simp); omega
          have hu0 : u = 0 := by
            cases hi with
            | none => exact f3 rfl
            | some _ => have := f4 (by simp); omega
          have hl0 : l = 0 := by
            cases lo with
            | none => exact f5 rfl
            | some _ => have := f6 (by simp); omega
          obtain ⟨rfl, rfl⟩ := hm0
          subst hu0 hl0
          refine ⟨.slice a 0 0, ?_, .inl ⟨by cases lo <;> rfl, by cases lo <;> rfl, a, rfl⟩⟩
          simp only [Instr.sliceAt, Instr.slice, Sem.run_bind, run_underlying hu, Result.andThen_ok, Sem.run_pure, hr, szOf_run hz, if_true, Nat.sub_self]
        · obtain ⟨m', hr, f1, f2, f3, f4, f5, f6⟩ := boundsS_sound (P := P) (w := w) hbd hl hh hm hcap true
          have hm' : m' ≤ cap' ∧ m ≤ m' ∧ ((ex || mx.isSome) = true → m' = m) := by
            cases mx with
            | none => obtain ⟨rfl, rfl⟩ := f1 rfl; exact ⟨Nat.le_refl _, hcap, fun h => hex (by simpa using h)⟩
            | some _ => obtain ⟨rfl, g⟩ := f2 (by simp); exact ⟨by omega, Nat.le_refl _, fun _ => rfl⟩
          have hum : u ≤ m' := by
            cases hi with
            | none =>
              have := f3 rfl
              cases mx with
              | none => have := f1 rfl; omega
              | some _ => unfold boundsS at hbd; split at hbd <;> simp at hbd
            | some _ => exact (f4 (by simp)).2
          have hlu : l ≤ u := by
            cases lo with
            | none => have := f5 rfl; omega
            | some _ => exact f6 (by simp)
          obtain ⟨a2, ha2, ha3⟩ := moved ⟨p.n, a, none⟩ m' l n rfl
          refine ⟨.slice (some ⟨p.n, a2, none⟩) (u - l) (m' - l), ?_, .inr ⟨p, m' - l, a2, hp, ?_, ?_, ?_, ?_, ?_, ?_⟩⟩
          · simp only [Instr.sliceAt, Instr.slice, Sem.run_bind, run_underlying hu, Result.andThen_ok, Sem.run_pure, hr, szOf_run hz, Option.map_some]
            congr 2
            have : (if m' = l then some (⟨p.n, a, none⟩ : Addr) else some ((⟨p.n, a, none⟩ : Addr).add (l * n))) = some (if m' = l then ⟨p.n, a, none⟩ else (⟨p.n, a, none⟩ : Addr).add (l * n)) := by split <;> rfl
            rw [this, ha2]
          · cases lo with
            | none => have := f5 rfl; subst this; simp
            | some _ => rfl
          · intro hne
            have h1 := ha3 (by omega)
            have h2 := ha (by omega)
            simp only [] at h1
            cases lo with
            | none => have := f5 rfl; subst this; simp at h1; simp only []; omega
            | some _ => simp only []; rw [Nat.add_mul]; omega
          · cases lo with
            | none => have := f5 rfl; subst this; simp only []; omega
            | some _ => simp only []; omega
          · intro g
            have := hm'.2.2 g
            subst this
            cases lo with
            | none => have := f5 rfl; subst this; simp
            | some _ => rfl
          · cases lo with
            | none => have := f5 rfl; subst this; simp only []; omega
            | some _ => simp only []; omega
          · intro hne
            have h1 := hfit (by omega)
            have h2 : l * n + (m' - l) * n = m' * n := by rw [← Nat.add_mul]; congr 1; omega
            have h3 := Nat.mul_le_mul_right n hm'.1
            cases lo with
            | none => have := f5 rfl; subst this; simp at h2 ⊢; omega
            | some _ => simp only []; rw [Nat.add_mul]; omega
      · cases hs
    · cases hs
  · -- a slice that nobody writes
    rename_i el f k xs hu
    split at hs
    · rename_i l u m pb hz hbd
      simp only [Option.some.injEq, Prod.mk.injEq] at hs
      obtain ⟨rfl, rfl⟩ := hs
      have bnd : ∀ {cap : Nat} {m' : Nat}, (mx = none → m' = cap ∧ m = xs.length) ∧ (mx ≠ none → m' = m ∧ m ≤ xs.length) ∧ (hi = none → u = xs.length) ∧ (hi ≠ none → u ≤ m ∧ u ≤ m') ∧ (lo = none → l = 0) ∧ (lo ≠ none → l ≤ u) → xs.length ≤ cap → u ≤ xs.length ∧ l ≤ u ∧ u ≤ m' ∧ m' ≤ cap := fun {cap m'} ⟨f1, f2, f3, f4, f5, f6⟩ hcap => by
        have hm' : m' ≤ cap ∧ m ≤ xs.length := by
          cases mx with
          | none => have := f1 rfl; omega
          | some _ => have := f2 (by simp); omega
        have hu' : u ≤ xs.length ∧ u ≤ m' := by
          cases hi with
          | none =>
            have := f3 rfl
            cases mx with
            | none => have := f1 rfl; omega
            | some _ => unfold boundsS at hbd; split at hbd <;> simp at hbd
          | some _ => have := f4 (by simp); omega
        have hlu : l ≤ u := by
          cases lo with
          | none => have := f5 rfl; omega
          | some _ => exact f6 (by simp)
        omega
      rcases hx with ⟨rfl, a, cap, rfl, ha⟩ | ⟨n, o, cap, c, tt, fr, rfl, hzz, hfr, hq, hcap, hfit⟩
      · obtain ⟨m', hr, g⟩ := boundsS_sound (P := P) (w := w) hbd hl hh hm (Nat.zero_le cap) true
        simp only [List.length_nil] at hr
        obtain ⟨h1, h2, h3, h4⟩ := bnd (cap := cap) g (Nat.zero_le _)
        have hu0 : u = 0 := by simpa using h1
        subst hu0
        have hl0 : l = 0 := by omega
        subst hl0
        have hw : winL [] lo hi 0 0 = [] := by unfold winL; split <;> rfl
        rw [hw]
        refine ⟨.slice a 0 m', ?_, .inl ⟨rfl, a, m', rfl, fun q => by have := ha q; omega⟩⟩
        have hmap : (if m' = 0 then a else a.map (·.add (0 * 1))) = a := by
          split
          · rfl
          · cases a with
            | none => rfl
            | some a => simp [Addr.add]
        simp only [Instr.sliceAt, Instr.slice, Sem.run_bind, run_underlying hu, Result.andThen_ok, Sem.run_pure, hr, szOf_run hz, hmap, Nat.sub_zero]
      · obtain ⟨m', hr, g⟩ := boundsS_sound (P := P) (w := w) hbd hl hh hm hcap true
        obtain ⟨h1, h2, h3, h4⟩ := bnd (cap := cap) g hcap
        obtain ⟨hwl, hwi⟩ := winL_length (xs := xs) (lo := lo) (hi := hi) g.2.2.2.2.1 g.2.2.1 h1 h2
        obtain ⟨a2, ha2, ha3⟩ := moved ⟨n, o, none⟩ m' l 1 rfl
        refine ⟨.slice (some ⟨n, a2, none⟩) (u - l) (m' - l), ?_, ?_⟩
        · simp only [Instr.sliceAt, Instr.slice, Sem.run_bind, run_underlying hu, Result.andThen_ok, Sem.run_pure, hr, szOf_run hz, Option.map_some]
          congr 2
          have : (if m' = l then some (⟨n, o, none⟩ : Addr) else some ((⟨n, o, none⟩ : Addr).add (l * 1))) = some (if m' = l then ⟨n, o, none⟩ else (⟨n, o, none⟩ : Addr).add (l * 1)) := by split <;> rfl
          rw [this, ha2]
        · by_cases hml : m' = l
          · left
            have : u - l = 0 := by omega
            exact ⟨List.length_eq_zero_iff.1 (by omega), _, _, by rw [this], fun q => by cases q⟩
          · right
            have h5 := ha3 hml
            simp only [Nat.mul_one] at h5
            subst h5
            refine ⟨n, o + l, m' - l, c, tt, fr, by rw [hwl], hzz, hfr, ?_, by omega, by omega⟩
            rw [hwl, hwi k, hq, List.drop_take, List.take_take, List.drop_drop, Nat.min_eq_left (by omega)]
    · cases hs
  · -- a string
    rename_i xs hu
    obtain ⟨s, rfl, rfl⟩ := hx
    split at hs
    · rename_i l u m pb hbd
      simp only [Option.some.injEq, Prod.mk.injEq] at hs
      obtain ⟨rfl, rfl⟩ := hs
      rw [VO] at hm; subst hm
      obtain ⟨m', hr, f1, f2, f3, f4, f5, f6⟩ := boundsS_sound (P := P) (w := w) hbd hl hh (show VO e none none from rfl) (Nat.le_refl _) false
      have hmm := f1 rfl
      have hu' : u ≤ (strL s).length := by
        cases hi with
        | none => have := f3 rfl; omega
        | some _ => have := f4 (by simp); omega
      have hlu : l ≤ u := by
        cases lo with
        | none => have := f5 rfl; omega
        | some _ => exact f6 (by simp)
      obtain ⟨hwl, hwi⟩ := winL_length (xs := strL s) (lo := lo) (hi := hi) f5 f3 hu' hlu
      refine ⟨.string (s.extract l u), ?_, s.extract l u, rfl, ?_⟩
      · rw [strL_length] at hr
        simp only [Instr.sliceAt, Instr.slice, Sem.run_bind, run_underlying hu, Result.andThen_ok, Sem.run_pure, hr, Option.isSome_none, Bool.false_eq_true, if_false]
      · have h1 := hwi .u8
        have h2 : winL (strL s) lo hi l u = ((strL s).drop l).take (u - l) := by
          rw [← intsV_drop, ← intsV_take] at h1
          exact intsV_inj h1
        rw [h2]
        simp [strL, List.extract_eq_take_drop, List.map_take, List.map_drop]
    · cases hs
  · -- no slice
    rename_i el hu
    rw [VR] at hx; subst hx
    split at hs
    · rename_i z l u m pb hz hbd
      simp only [Option.some.injEq, Prod.mk.injEq] at hs
      obtain ⟨rfl, rfl⟩ := hs
      obtain ⟨m', hr, f1, f2, f3, f4, f5, f6⟩ := boundsS_sound (P := P) (w := w) hbd hl hh hm (Nat.le_refl 0) true
      have hm0 : m' = 0 := by
        cases mx with
        | none => have := f1 rfl; omega
        | some _ => have := f2 (by simp); omega
      have hu0 : u = 0 := by
        cases hi with
        | none => exact f3 rfl
        | some _ => have := f4 (by simp); omega
      have hl0 : l = 0 := by
        cases lo with
        | none => exact f5 rfl
        | some _ => have := f6 (by simp); omega
      subst hm0 hu0 hl0
      refine ⟨.slice none 0 0, ?_, rfl⟩
      simp only [Instr.sliceAt, Instr.slice, Sem.run_bind, run_underlying hu, Result.andThen_ok, Sem.run_pure, hr, szOf_run hz, if_true, Nat.sub_self]
    · cases hs
  · cases hs

/-! ### Lengths -/
theorem lenV_sound {x : SV} {x' : Value} {n : Nat} (hx : VR e x x') (hn : lenV x = some n) : (∃ a c, x' = .slice a n c) ∨ ∃ s, x' = .string s ∧ s.size = n ∧ ∃ xs, x = .str xs := by
  unfold lenV at hn
  split at hn
  · cases hn
    rcases hx with ⟨h1, _, a, rfl⟩ | ⟨p, c, a, _, rfl, _⟩
    · subst h1; exact .inl ⟨a, 0, rfl⟩
    · exact .inl ⟨_, _, rfl⟩
  · cases hn
    rcases hx with ⟨rfl, a, c, rfl, _⟩ | ⟨n, o, cap, c, t, fr, rfl, _⟩
    · exact .inl ⟨_, _, rfl⟩
    · exact .inl ⟨_, _, rfl⟩
  · cases hn
    rcases hx with ⟨rfl, a, c, rfl, _⟩ | ⟨n, o, cap, c, t, fr, rfl, _⟩
    · exact .inl ⟨_, _, rfl⟩
    · exact .inl ⟨_, _, rfl⟩
  · cases hn
    rcases hx with ⟨rfl, a, c, rfl, _⟩ | ⟨n, o, cap, c, t, fr, rfl, _⟩
    · exact .inl ⟨_, _, rfl⟩
    · exact .inl ⟨_, _, rfl⟩
  · cases hn
    obtain ⟨s, rfl, rfl⟩ := hx
    exact .inr ⟨s, rfl, by rw [strL_length], _, rfl⟩
  · cases hn; rw [VR] at hx; subst hx; exact .inl ⟨_, _, rfl⟩
  · cases hn

theorem lenS_sound {t ty : TypeId} {x v : SV} {x' : Value} (hs : lenS P t x = some v) (hx : VR e x x') : ∃ v', (Builtin.len_ #[t] ty #[x']).run P w = .ok v' w ∧ VR e v v' := by
  unfold lenS at hs
  split at hs
  · rename_i n el ps hu
    cases hs
    obtain ⟨ys, _, rfl⟩ := hx.agg_of
    exact ⟨_, by simp [Builtin.len_, run_underlying hu, goInt], rfl⟩
  · rename_i el hu
    split at hs
    · cases hs
    · rename_i hne
      obtain ⟨n, hn, rfl⟩ := Option.map_eq_some_iff.1 hs
      rcases lenV_sound hx hn with ⟨a, c, rfl⟩ | ⟨s, _, _, xs, rfl⟩
      · exact ⟨_, by simp [Builtin.len_, run_underlying hu, goInt], rfl⟩
      · exact absurd rfl (hne xs)
  · rename_i xs hu
    cases hs
    obtain ⟨s, rfl, rfl⟩ := hx
    exact ⟨.int .i64 s.size, by simp [Builtin.len_, run_underlying hu, goInt], by rw [strL_length]; rfl⟩
  · cases hs

theorem capS_sound {t ty : TypeId} {x v : SV} {x' : Value} (hs : capS P t x = some v) (hx : VR e x x') : ∃ v', (Builtin.cap_ #[t] ty #[x']).run P w = .ok v' w ∧ VR e v v' := by
  unfold capS at hs
  split at hs
  · rename_i el b o i z len cap wh hu
    cases hs
    rcases hx with ⟨_, rfl, a, rfl⟩ | ⟨p, cap', a, _, rfl, _, _, hex, _⟩
    · exact ⟨_, by simp [Builtin.cap_, run_underlying hu, goInt], rfl⟩
    · have := hex rfl; subst this
      exact ⟨_, by simp [Builtin.cap_, run_underlying hu, goInt], rfl⟩
  · rename_i el hu
    cases hs
    rw [VR] at hx; subst hx
    exact ⟨_, by simp [Builtin.cap_, run_underlying hu, goInt], rfl⟩
  · cases hs

theorem minI_sound {k : IntKind} : ∀ {vs : List SV} {ys : List Value} {a n : Int}, minI k a vs = some n → LR e vs ys → (ys.foldlM Builtin.min2 (.int k a)).run P w = .ok (.int k n) w
  | [], ys, a, n, h, g => by
    simp only [minI, Option.some.injEq] at h; subst h
    rw [LR] at g; subst g
    simp
  | x :: xs, _, a, n, h, ⟨y, zs, hy, hz, q⟩ => by
    subst q
    unfold minI at h
    split at h
    · rename_i h1; cases h1
    · rename_i k' b vs h1
      cases h1
      split at h
      · rename_i hk
        subst hk
        rw [VR] at hy; subst hy
        simp only [List.foldlM_cons, Sem.run_bind, Builtin.min2, Sem.run_pure, Result.andThen_ok]
        exact minI_sound h hz
      · cases h
    · cases h

end
end Go.Sy
