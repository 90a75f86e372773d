/- This file holds the texts SgR, SgS, BxN, a section each. No conditions beyond those in the theorems. -/
import Derived.Test.YtibfpjeeanppjaaGreatXSxB
import Derived.ChangeSlices
import Derived.WideShapes
import Derived.RowKit
import Derived.Test.YtibfpjeeanppjaaGreatRows
import Derived.Test.YtibfpjeeanppjaaGreatXMh
set_option linter.all false
section
namespace Go.Sy
open Go Go.ChangeShapes Go.WideShapes Go.RowKit
variable {P : Program}
theorem CM {H : Type} {enc : TypeId × Value → H} {W : World} {r : Reach} {base base' m : Nat} {t e : TypeId} {v : Value} {d : DataW H} {p : List MemPlace} {held : Bool} (ht : P.underlying t = some (.slice e)) (he : P.underlying e = some (.int .u8)) (hc : P.cellsOf e = 1)
    (hval : Value.okWide P W r base t v) (h : DataW.Trod enc P W base' (fun _ => true) held t v d p) : ∃ zs, VR (gK (ji W) m) (.ro false .u8 zs) v ∧ ∀ z ∈ zs, 0 ≤ z ∧ z < 256 := by
  obtain ⟨a0, OM, ZP, rfl⟩ := okWide_slice ht hval
  obtain ⟨fuel, hf⟩ := h
  rcases ChangeShapes.open_ints ht he hc hf with ⟨hcs, _⟩ | ⟨x, l, c, zs, hcs, _, hl, hm, hz, _, hcell, hwz⟩
  · simp [Value.cells] at hcs
    obtain ⟨rfl, rfl, rfl⟩ := hcs
    exact ⟨[], .inl ⟨rfl, none, 0, rfl, fun _ => rfl⟩, fun _ h => by cases h⟩
  · simp [Value.cells] at hcs
    obtain ⟨rfl, rfl, rfl⟩ := hcs
    obtain ⟨_, hs, c, t', fr, hb⟩ := oH ht hval
    refine ⟨zs.take OM, oB.Ay hb hs (by simpa using hz) hl hcell, ?_⟩
    intro n hn
    have h1 := hwz n (List.mem_of_mem_take hn)
    have h2 : 0 ≤ n ∧ n ≤ 255 := by simpa [Lit.wf, IntKind.has, IntKind.min, IntKind.max, IntKind.signed, IntKind.bits] using h1
    omega
theorem VR.tail {e : Env} {n k : Nat} {bs zs : List Int} {y : Value} (h : bs.length = n + k) (hy : VR e (.ro false .u8 zs) y) : VR e (.agg [.ints .u8 n (bs.take n), .ints .u8 k (bs.drop n), .ro false .u8 zs]) (.agg ⟨aN .u8 bs ++ [y]⟩) := by
  refine ⟨aN .u8 bs ++ [y], ⟨aN .u8 (bs.drop n) ++ [y], ⟨[y], ⟨y, [], hy, rfl, rfl⟩, ?_⟩, ?_⟩, rfl⟩
  · rw [aF (by simp; omega)]
  · rw [aF (by simp; omega), ← List.append_assoc, ← eV, List.take_append_drop]
end Go.Sy
end
section
namespace Go.Sy
open Go Go.ChangeShapes Go.WideShapes Go.RowKit
variable {P : Program}
theorem Az {H : Type} {enc : TypeId × Value → H} {W : World} {r : Reach} {base base' m : Nat} {t e : TypeId} {v : Value} {d : DataW H} {p : List MemPlace} {held : Bool} (ht : P.underlying t = some (.slice e)) (he : P.underlying e = some (.int .u8)) (hc : P.cellsOf e = 1) {B : Nat} (hB : 0 < B)
    (hval : Value.okWide P W r base t v) (h : DataW.Trod enc P W base' (fun _ => true) held t v d p) (hw : ∀ elems spare, d = .slice elems spare → elems.length + spare.length < B) : ∃ zs, VR (gK (ji W) m) (.ro false .u8 zs) v ∧ (∀ z ∈ zs, 0 ≤ z ∧ z < 256) ∧ zs.length < B := by
  obtain ⟨a0, OM, ZP, rfl⟩ := okWide_slice ht hval
  obtain ⟨fuel, hf⟩ := h
  rcases ChangeShapes.open_ints ht he hc hf with ⟨hcs, _⟩ | ⟨x, l, c, zs, hcs, _, hl, hm, hz, hd, hcell, hwz⟩
  · simp [Value.cells] at hcs
    obtain ⟨rfl, rfl, rfl⟩ := hcs
    exact ⟨[], .inl ⟨rfl, none, 0, rfl, fun _ => rfl⟩, (fun _ h => by cases h), hB⟩
  · simp [Value.cells] at hcs
    obtain ⟨rfl, rfl, rfl⟩ := hcs
    obtain ⟨_, hs, c, t', fr, hb⟩ := oH ht hval
    refine ⟨zs.take OM, oB.Ay hb hs (by simpa using hz) hl hcell, ?_, ?_⟩
    · intro n hn
      have h1 := hwz n (List.mem_of_mem_take hn)
      have h2 : 0 ≤ n ∧ n ≤ 255 := by simpa [Lit.wf, IntKind.has, IntKind.min, IntKind.max, IntKind.signed, IntKind.bits] using h1
      omega
    · obtain ⟨rfl, _⟩ := Prod.mk.inj hd
      have k := hw _ _ rfl
      simp only [lits, List.length_map] at k
      omega
theorem CN {H : Type} {enc : TypeId × Value → H} {W : World} {r : Reach} {base base' m : Nat} {t T e : TypeId} {fs : Array Field} {i n k : Nat} {v : Value} {d : DataW H} {p : List MemPlace} {held : Bool} (hs : P.underlying t = some (.struct fs))
    (ON : ((List.range k).all fun j => match fs[i + j]? with | some f => f.type == T && f.offset == n + j | none => false) = true) (hn : P.cellsOf t = n + k) (S5 : P.cellsOf T = 1) (ht : P.underlying T = some (.slice e)) (he : P.underlying e = some (.int .u8)) (hc : P.cellsOf e = 1) {B : Nat} (hB : 0 < B)
    (hct : (P.cellTypes P.depth t).map (fun ts => (ts.take n).all (fun u => isInt P u == some .u8) && ts.length == n + k && (List.range k).all fun j => ts[n + j]? == some T) = some true)
    (hval : Value.okWide P W r base t v) (h : DataW.Trod enc P W base' (fun _ => true) held t v d p) (hw : ∀ parts elems spare, d = .agg parts → .slice elems spare ∈ parts → elems.length + spare.length < B) :
    ∃ (bs : List Int) (zf : Nat → List Int) (ys : List Value), v = .agg ⟨aN .u8 bs ++ ys⟩ ∧ bs.length = n ∧ (∀ z ∈ bs, 0 ≤ z ∧ z < 256) ∧ ys.length = k ∧
      ∀ j, j < k → ∃ y, ys[j]? = some y ∧ VR (gK (ji W) m) (.ro false .u8 (zf j)) y ∧ (∀ z ∈ zf j, 0 ≤ z ∧ z < 256) ∧ (zf j).length < B := by
  have h' : ∃ cs, v = .agg cs ∧ cs.size = P.cellsOf t ∧ Row.okWide P W r base t cs := by
    unfold Value.okWide at hval
    rw [hs] at hval
    exact hval
  obtain ⟨cs, rfl, hsz, ts, hts, _, hall⟩ := h'
  rw [hts] at hct
  simp only [Option.map_some, Option.some.injEq, Bool.and_eq_true, List.all_eq_true, beq_iff_eq, List.mem_range] at hct
  obtain ⟨⟨h1, h2⟩, h3⟩ := hct
  rw [hn] at hsz
  have cell : ∀ j v, j < n → cs[j]? = some v → ∃ z : Int, v = Value.int .u8 z ∧ IntKind.u8.has z := fun j v hj hi => by
    obtain ⟨u, hu, hok⟩ := hall j v hi
    rw [h2, Nat.mod_eq_of_lt (by omega)] at hu
    have hk := h1 u (List.mem_of_getElem? (i := j) (by rw [List.getElem?_take, if_pos hj]; exact hu))
    have hk' : P.underlying u = some (.int .u8) := by
      unfold isInt at hk
      split at hk
      · rename_i hx; cases hk; exact hx
      · cases hk
    simp only [Cell.okWide, hk', Cell.ok] at hok
    cases v <;> simp_all
  have hex : ∀ l : List Value, (∀ v ∈ l, ∃ z : Int, v = Value.int .u8 z ∧ IntKind.u8.has z) → ∃ zs : List Int, l = aN .u8 zs ∧ ∀ z ∈ zs, IntKind.u8.has z := by
    intro l
    induction l with
    | nil => intro _; exact ⟨[], rfl, by simp⟩
    | cons a l ih =>
      intro hl
      obtain ⟨z, rfl, hz⟩ := hl a (by simp)
      obtain ⟨zs, rfl, hzs⟩ := ih fun v hv => hl v (by simp [hv])
      refine ⟨z :: zs, rfl, fun y hy => ?_⟩
      rcases List.mem_cons.1 hy with rfl | hy
      · exact hz
      · exact hzs y hy
  obtain ⟨bs, hbs, hk⟩ := hex (cs.toList.take n) fun v hv => by
    obtain ⟨j, hj⟩ := List.mem_iff_getElem?.1 hv
    rw [List.getElem?_take] at hj
    split at hj
    · exact cell j v (by assumption) (by simpa using hj)
    · cases hj
  have hsp : cs.toList = aN .u8 bs ++ cs.toList.drop n := by rw [← hbs, List.take_append_drop]
  obtain ⟨fuel, hf'⟩ := h
  obtain ⟨xs, q, rfl, hxx, hl, wT, hfl⟩ := DataW.trod_struct hs hf'
  obtain ⟨rfl, _⟩ := Prod.mk.inj hxx
  have tail : ∀ j, j < k → ∃ zs y, (cs.toList.drop n)[j]? = some y ∧ VR (gK (ji W) m) (.ro false .u8 zs) y ∧ (∀ z ∈ zs, 0 ≤ z ∧ z < 256) ∧ zs.length < B := by
    intro j hj
    have hy : ∃ y, cs[n + j]? = some y := ⟨cs[n + j], by rw [Array.getElem?_eq_getElem]⟩
    obtain ⟨y, hy⟩ := hy
    obtain ⟨u, hu, hok⟩ := hall (n + j) y hy
    rw [h2, Nat.mod_eq_of_lt (by omega), h3 j hj] at hu
    cases hu
    have S6 : Value.okWide P W r base T y := by unfold Value.okWide; rw [ht]; exact hok
    have ZQ := List.all_eq_true.1 ON j (List.mem_range.2 hj)
    cases hfe : fs[i + j]? with
    | none => rw [hfe] at ZQ; cases ZQ
    | some f =>
      rw [hfe] at ZQ
      simp only [Bool.and_eq_true, beq_iff_eq] at ZQ
      obtain ⟨CO, hfo⟩ := ZQ
      have hx := hfl (i + j) f hfe
      have hcs : (Value.agg cs).cells = cs := rfl
      have ZR : (cs.toList.drop (n + j)).take 1 = [y] := by
        have hy' : cs.toList[n + j]? = some y := by simpa using hy
        obtain ⟨hlt, hg⟩ := List.getElem?_eq_some_iff.1 hy'
        rw [List.drop_eq_getElem_cons hlt, hg]; rfl
      obtain ⟨a0, OM, ZP, rfl⟩ := okWide_slice ht S6
      rw [hcs, hfo, CO, S5, ZR] at hx
      have hi : i + j < xs.length := by rw [wT]; exact (Array.getElem?_eq_some_iff.1 hfe).1
      rw [List.getElem?_eq_getElem hi] at hx
      obtain ⟨zs, z1, z2, z3⟩ := Az (m := m) (base := base) (base' := base') (enc := enc) (held := held) (d := xs[i + j].1) (p := xs[i + j].2) ht he hc hB S6 ⟨q, hx⟩ (fun elems spare hde => by
        refine hw _ elems spare rfl (List.mem_map.2 ⟨xs[i + j], List.getElem_mem hi, hde⟩))
      refine ⟨zs, _, ?_, z1, z2, z3⟩
      rw [List.getElem?_drop]
      simpa using hy
  have tail' : ∀ j, ∃ zs, j < k → ∃ y, (cs.toList.drop n)[j]? = some y ∧ VR (gK (ji W) m) (.ro false .u8 zs) y ∧ (∀ z ∈ zs, 0 ≤ z ∧ z < 256) ∧ zs.length < B := fun j => by
    by_cases hj : j < k
    · obtain ⟨zs, y, h⟩ := tail j hj
      exact ⟨zs, fun _ => ⟨y, h⟩⟩
    · exact ⟨[], fun q => absurd q hj⟩
  obtain ⟨zf, hzf⟩ := Classical.axiomOfChoice tail'
  have hln : bs.length = n := by
    have := congrArg List.length hbs
    rw [av, List.length_take] at this
    simp at this
    omega
  refine ⟨bs, zf, cs.toList.drop n, by rw [← hsp], hln, fun z hz => ?_, by simp; omega, hzf⟩
  have := hk z hz
  simp [IntKind.has, IntKind.min, IntKind.max, IntKind.signed, IntKind.bits] at this
  omega
end Go.Sy
end
section
namespace Go.Proofs.YtibfpjeeanppjaaGreat.Jd
open Go
theorem Je {H : Type} (d : DataW H) : 1 ≤ Rows.uptoBulk d := by
  cases d with
  | lit l => cases l <;> simp [Rows.uptoBulk]
  | _ => simp [Rows.uptoBulk]
theorem uO {H : Type} : ∀ (l : List (DataW H)), l.length ≤ Rows.uptoBulkAll l
  | [] => by simp
  | d :: l => by
    have := Je d
    have := uO l
    simp only [Rows.uptoBulkAll, List.length_cons]; omega
theorem xz {H : Type} {d : DataW H} : ∀ {l : List (DataW H)}, d ∈ l → Rows.uptoBulk d ≤ Rows.uptoBulkAll l
  | x :: l, h => by
    simp only [Rows.uptoBulkAll]
    rcases List.mem_cons.1 h with rfl | h
    · omega
    · have := xz h; omega
theorem Jf {H : Type} {d : DataW H} {parts elems spare : List (DataW H)} (h : d = .agg parts) (hm : .slice elems spare ∈ parts) : elems.length + spare.length < Rows.uptoBulk d + 1 := by
  subst h
  have h1 := xz hm
  have h2 := uO elems
  have h3 := uO spare
  simp only [Rows.uptoBulk] at h1 ⊢
  omega
end Go.Proofs.YtibfpjeeanppjaaGreat.Jd
end
