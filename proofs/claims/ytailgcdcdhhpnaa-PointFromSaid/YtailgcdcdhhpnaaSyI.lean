/- This file proves every operation of the interpreter sound, and its calls. Conditions: those of the interpreter's own tests; the contracts that it uses are sound. -/
import Derived.Test.YtailgcdcdhhpnaaSyH
namespace Go.Sy
open Go

section
variable {P : Program} {e : Env} {B : Base} {h : List Blk} {w : World}

/-! ### copy -/
theorem copyS_sound (R : Rel B e h w) {dT sT ty : TypeId} {x y v : SV} {x' y' : Value} {h' : List Blk} (hc : copyS P h dT x y = some (h', v, true)) (hx : VR e x x') (hy : VR e y y') :
    ∃ v' w', (Builtin.copy_ #[dT, sT] ty #[x', y']).run P w = .ok v' w' ∧ VR e v v' ∧ Rel B e h' w' := by
  unfold copyS at hc
  split at hc
  · rename_i el b o i len cap ex wh k mm ys0 p ny ht hcy hny
    split at hc
    · rename_i hs
      obtain ⟨⟨h1, q⟩, hw, h2⟩ := Option.map_eq_some_iff.1 hc
      simp only [Prod.mk.injEq, andT_iff] at h2
      obtain ⟨rfl, rfl, ⟨rfl, hrow⟩, rfl⟩ := h2
      obtain ⟨ys, hys, hyl, hlen, hf⟩ := contS_sound (P := P) R hcy hny hy hrow
      obtain ⟨us, hus, hyeq⟩ := hys
      rw [PR] at hus; subst hus
      rw [List.append_nil] at hyeq
      have hfc := hf (Nat.min ny len) (Nat.min_le_left _ _)
      rw [Nat.mul_one] at hfc hyl
      obtain ⟨info, hi, hsz⟩ := szOf_info hs
      have hrun : ∀ (base : Option Addr) (cap : Nat) (w' : World), x' = .slice base len cap → ((base = none ∧ w' = w) ∨ ∃ a, base = some a ∧ (storeCells a (ys.take (Nat.min ny len)) 0).run P w = .ok () w') →
          (Builtin.copy_ #[dT, sT] ty #[x', y']).run P w = .ok (.int .i64 (Nat.min ny len)) w' := fun base cap w' hx' hst => by
        subst hx'
        unfold Builtin.copy_
        simp only [List.getElem?_toArray, List.getElem?_cons_zero, List.getElem?_cons_succ, Sem.run_bind, run_underlying ht, Result.andThen_ok, hlen, szOf_run hs, hfc]
        rcases hst with ⟨rfl, rfl⟩ | ⟨a, rfl, hr⟩
        · simp [goInt]
        · simp [hr, goInt]
      rcases hx with ⟨rfl, rfl, a, hx'⟩ | ⟨pl, cap', a, hpp, hx', haa, hcap, hex, hlc, hft⟩
      · have h0 : Nat.min ny 0 = 0 := Nat.min_eq_right (Nat.zero_le _)
        rw [h0] at hw
        refine ⟨_, w, hrun a 0 w hx' ?_, rfl, writeI_zero R hw⟩
        cases a with
        | none => exact .inl ⟨rfl, rfl⟩
        | some a => exact .inr ⟨a, rfl, by rw [h0]; rfl⟩
      · by_cases h0 : Nat.min ny len = 0
        · rw [h0] at hw
          exact ⟨_, w, hrun _ cap' w hx' (.inr ⟨_, rfl, by rw [h0]; rfl⟩), by rw [h0]; rfl, writeI_zero R hw⟩
        · obtain ⟨w', hst, R'⟩ := writeI_sound (P := P) R hw hpp
          have hle : Nat.min ny len ≤ len := Nat.min_le_right _ _
          have ha2 := haa (by omega)
          refine ⟨_, w', hrun _ cap' w' hx' (.inr ⟨_, rfl, ?_⟩), rfl, R'⟩
          obtain ⟨_, _, _, _, _, _, _, _, _, _, _, hnl⟩ := writeI_parts hw
          have hcells : intsV k (ys0.take (Nat.min ny len)) = ys.take (Nat.min ny len) := by
            rw [hyeq, ← intsV_take]
            congr 1
            apply List.ext_getElem?
            intro j
            have hmm : mm = ny := by
              have := congrArg List.length hyeq
              rw [hyl, intsV_length, lst_length] at this; exact this.symm
            by_cases hj : j < Nat.min ny len
            · have h1 : Nat.min ny len ≤ ny := Nat.min_le_left ny len
              rw [List.getElem?_take_of_lt hj, List.getElem?_take_of_lt hj, lst_get _ (by omega), List.getD, List.getElem?_eq_getElem (by omega)]; rfl
            · rw [List.getElem?_take, if_neg hj, List.getElem?_take, if_neg hj]
          rw [← hcells, ha2, Nat.mul_one]
          exact hst
    · cases hc
  · cases hc

/-! ### Strings -/
theorem strOf_sound {xs : List Int} (h : u8R xs = true) : strL (strOfNums xs) = xs := by
  unfold strL strOfNums
  simp only [List.map_map]
  have : ∀ l : List Int, u8R l = true → l.map ((fun b : UInt8 => (b.toNat : Int)) ∘ fun n => UInt8.ofNat n.toNat) = l := by
    intro l
    induction l with
    | nil => intro _; rfl
    | cons n l ih =>
      intro hl
      simp only [u8R, List.all_cons, Bool.and_eq_true, decide_eq_true_eq] at hl
      rw [List.map_cons, ih (by simpa [u8R] using hl.2)]
      congr 1
      show ((UInt8.ofNat n.toNat).toNat : Int) = n
      rw [UInt8.toNat_ofNat']
      omega
  exact this xs h

theorem bytesStr_sound (R : Rel B e h w) {src dst el : TypeId} {a : SV} {a' : Value} {m : Nat} {xs : List Int} {n : Nat} (hs : P.underlying src = some (.slice el)) (hd : P.underlying dst = some .string) (he : isInt P el = some .u8)
    (hc : contS h a = some ([.ints .u8 m xs], true)) (hn : lenV a = some n) (hrow : isRowOK 1 a = true) (hsl : ∀ s, a ≠ .str s) (hl : xs.length = m) (hu : u8R xs = true) (ha : VR e a a') :
    (convert src dst a').run P w = .ok (.string (strOfNums xs)) w := by
  obtain ⟨ys, hys, hyl, hlen, hf⟩ := contS_sound (P := P) R hc hn ha hrow
  obtain ⟨us, hus, hyeq⟩ := hys
  rw [PR] at hus; subst hus
  rw [List.append_nil, lst_eq hl] at hyeq
  rw [Nat.mul_one] at hyl
  have hf' := hf n (Nat.le_refl _)
  rw [Nat.mul_one, List.take_of_length_le (by omega), hyeq] at hf'
  have he' := isInt_eq he
  rcases lenV_sound ha hn with ⟨ad, c, rfl⟩ | ⟨s, _, _, s', q⟩
  · cases ad with
    | none =>
      have : xs = [] := by
        simp [Builtin.firstCells] at hf'
        cases xs with
        | nil => rfl
        | cons x xs => simp [intsV] at hf'
      subst this
      rw [run_convert_bytes_nil w src el hs he' n c dst hd]
      rfl
    | some ad =>
      have hl2 : (loadCells ad n).run P w = .ok (xs.map (Value.int .u8)).toArray w := by
        simpa [Builtin.firstCells, intsV] using hf'
      rw [run_convert_bytes_string w src dst el _ n c hs he' hd, run_bytesToString w _ n c xs hl2, foldl_push_bytes]
      simp [strOfNums, ByteArray.empty, ByteArray.emptyWithCapacity]
      rfl
  · exact absurd q (hsl s')

/-- A string's bytes: a new block that nobody writes. -/
theorem strBytes_sound (R : Rel B e h w) {src dst el : TypeId} {s : ByteArray} (hs : (P.underlying src).isSome = true) (hd : P.underlying dst = some (.slice el)) (he : isInt P el = some .u8) :
    ∃ v' w' e', (convert src dst (.string s)).run P w = .ok v' w' ∧ VR e' (.ro true .u8 (strL s)) v' ∧ Rel B e' h w' ∧ EStep e e' none := by
  obtain ⟨d, hsd⟩ := Option.isSome_iff_exists.1 hs
  have he' := isInt_eq he
  have hconv : (convert src dst (.string s)).run P w = (Conv.stringToBytes el s).run P w := by
    cases d <;> simp [convert, run_underlying hsd, run_underlying hd, run_underlying he']
  let cap := (Question.appendCap s.size 0 el).cut (w.tape w.drawn (.appendCap s.size 0 el))
  have hcap : s.size ≤ cap := by simp [cap, Question.cut]
  let cells : Array Value := (s.data.map fun b => Value.int .u8 b.toNat) ++ Array.replicate (cap - s.size) (.int .u8 0)
  have hcs : cells.size = cap := by
    have : s.data.size = s.size := rfl
    simp [cells]; omega
  have hch : (choose (.appendCap s.size 0 el)).run P w = .ok cap w.drew := by simp [Question.forced, cap]
  let w1 : World := w.drew.alloc (.cells cells el)
  have hw1 : w1.heap[w.heap.size]? = some (.cells cells el (0, 0)) := heap_alloc_new _ _
  let w2 := w1.freeze ⟨w.heap.size, cells.size, none⟩ 1
  have hfz : w2.heap[w.heap.size]? = some (.cells cells el (cells.size, cells.size + 1)) := by
    have hlt : w.heap.size < w1.heap.size := (Array.getElem?_eq_some_iff.1 hw1).1
    have hv : w1.heap[w.heap.size] = .cells cells el (0, 0) := (Array.getElem?_eq_some_iff.1 hw1).2
    simp only [w2, World.freeze]
    rw [if_neg (by omega)]
    simp only []
    rw [Array.getElem?_eq_getElem (by simpa using hlt), Array.getElem_modify]
    simp [hv]
  have hother : ∀ n, n < w.heap.size → w2.heap[n]? = w.heap[n]? := fun n hn => by
    simp only [w2, World.freeze]
    rw [if_neg (by omega)]
    simp only []
    rw [Array.getElem?_modify, if_neg (by omega)]
    exact heap_alloc_old w.drew _ n hn
  have hsize : w2.heap.size = w.heap.size + 1 := by
    simp only [w2, World.freeze]
    rw [if_neg (by omega)]
    simp only [Array.size_modify]
    exact World.size_alloc _ _
  have hrun : (Conv.stringToBytes el s).run P w = .ok (.slice (some ⟨w.heap.size, 0, none⟩) s.size cap) w2 := by
    unfold Conv.stringToBytes
    rw [Sem.run_bind, hch, Result.andThen_ok]
    simp only [Sem.run_bind, newRow, newObj]
    have hn : (Sem.new (.cells cells el) Sem.pure).run P w.drew = .ok w.heap.size w1 := rfl
    have hmk : (markStringish ⟨w.heap.size, 0, none⟩).run P w1 = .ok () w2 := by
      unfold markStringish
      simp only [Sem.run_bind]
      have : (shape w.heap.size).run P w1 = .ok (some (el, cells.size)) w1 := by
        show Result.ok (w1.shape? w.heap.size) w1 = _
        simp [World.shape?, hw1]
      rw [this]
      rfl
    rw [show (Sem.new (.cells ((s.data.map fun b => Value.int .u8 b.toNat) ++ Array.replicate (cap - s.size) (.int .u8 0)) el) Sem.pure).run P w.drew = .ok w.heap.size w1 from rfl]
    simp only [Result.andThen_ok, Sem.run_pure, hmk]
  let e' : Env := { e with z := fun n => if n = w.heap.size then some (cells, el, (cells.size, cells.size + 1)) else e.z n }
  have hz0 : e.z w.heap.size = none := by
    cases hq : e.z w.heap.size with
    | none => rfl
    | some x => have := R.zlt hq; omega
  have hle : Env.Le e e' := ⟨fun _ _ h => h, fun n o hn => by
    show (if n = w.heap.size then _ else e.z n) = some o
    rw [if_neg (fun q => by subst q; rw [hz0] at hn; cases hn)]; exact hn, Nat.le_refl _⟩
  have hn0 : e.n0 ≤ w.heap.size := by have := R.n0; have := R.n0le; have := R.size; omega
  refine ⟨_, w2, e', by rw [hconv, hrun], .inr ⟨w.heap.size, 0, cap, cells, el, _, by rw [strL_length], if_pos rfl, fun _ => hn0, ?_, by rw [strL_length]; exact hcap, by omega⟩, ?_, EStep.of_le hle rfl _⟩
  · have : cells.toList = intsV .u8 (strL s) ++ List.replicate (cap - s.size) (.int .u8 0) := by
      simp [cells, intsV, strL]
    rw [this, List.drop_zero, List.take_append_of_le_length (by rw [intsV_length]; exact Nat.le_refl _), List.take_of_length_le (by rw [intsV_length]; exact Nat.le_refl _)]
  · exact {
      os := R.os, tape := R.tape, output := R.output
      size := by have := R.size; omega
      inj := R.inj, dom := R.dom
      sep := fun i p hi => by
        show (if p.n = w.heap.size then _ else e.z p.n) = none
        rw [if_neg (by have := R.lt hi; omega)]; exact R.sep i p hi
      zok := fun n c t fr hz => by
        by_cases hn : n = w.heap.size
        · subst hn
          have hz' : (if w.heap.size = w.heap.size then some (cells, el, (cells.size, cells.size + 1)) else e.z w.heap.size) = some (c, t, fr) := hz
          rw [if_pos rfl] at hz'
          cases hz'
          exact hfz
        · have hz' : (if n = w.heap.size then some (cells, el, (cells.size, cells.size + 1)) else e.z n) = some (c, t, fr) := hz
          rw [if_neg hn] at hz'
          rw [hother n (R.zlt hz')]; exact R.zok n c t fr hz'
      zfresh := fun n x hz => by
        by_cases hn : n = w.heap.size
        · exact .inr (by have := R.size; omega)
        · have hz' : (if n = w.heap.size then some (cells, el, (cells.size, cells.size + 1)) else e.z n) = some x := hz
          rw [if_neg hn] at hz'
          exact R.zfresh n x hz'
      news := R.news, keepr := R.keepr
      keepz := fun n x hz => hle.z n x (R.keepz n x hz)
      n0 := R.n0, n0le := R.n0le
      blk := fun i qs hi => by
        rcases R.blk i qs hi with g | ⟨p, o, g1, g2, g3⟩
        · exact .inl g
        · exact .inr ⟨p, o, g1, by rw [hother p.n (R.lt g1)]; exact g2, g3.mono hle⟩
      gap := fun i g hi => ⟨(R.gap i g hi).1, (R.gap i g hi).2.le (fun n o hn => by rw [hother n (Array.getElem?_eq_some_iff.1 hn).1]; exact hn) rfl hle⟩
      yi := R.yi, yb := R.yb
      old := fun n hn hno hnl => by rw [hother n (by have := R.size; omega)]; exact R.old n hn hno hnl
      win := fun i p hi => by
        obtain ⟨o, o', ho, ho', hso⟩ := R.win i p hi
        exact ⟨o, o', ho, by rw [hother p.n (R.lt (R.keepr i p hi))]; exact ho', hso⟩
      kr := R.kr, kle := R.kle
      mks := fun r hr => by
        have := R.mks r hr
        rw [hother r (Array.getElem?_eq_some_iff.1 this.1).1]; exact this
      mnd := R.mnd }
end
end Go.Sy
