/- This file holds the texts KdA, KdB, a section each. No conditions beyond those in the theorems. -/
import Derived.Test.YtibfpjeeanppjaaGreatXS2C
set_option linter.all false
set_option maxRecDepth 100000
section
namespace Go.Proofs.YtibfpjeeanppjaaGreat.Kd
open Go Go.Sy Sh
noncomputable def pdC (a : Bool) : br := mk (P := Tryz.prog) [S2.mM] [] fun i => if i = 10 then some a else none
theorem yD (a : Bool) : ag Tryz.prog (pdC a) := ah _ aq.nil _ _
noncomputable def pdM : Code := aE Tryz.f145
noncomputable def pdK (key : List Int) : List Int := if (key.length : Int) > 64 then S2.aj key else key
noncomputable def EI (k : List Int) : List Int := p9 (List.replicate 64 0) 0 k (Nat.min k.length 64)
def Tc (l : List Int) (w : Int) : List Int := (List.range 64).map fun i => cj .u8 (l.getD i 0) w
noncomputable def iQ (key : List Int) (w : Int) : List Int := gH (Tc (EI (pdK key)) w)
theorem EJ (key : List Int) (w : Int) : (iQ key w).length = 64 := by rw [iQ, aC]; simp [Tc]
noncomputable def pd1 (key l : List Int) (w : Int) : St := ⟨slotsOf 33 [(1, .int .u8 w), (6, .sl 2 0 0 1 64 64 true true), (20, .int .i64 64), (21, .int .i64 0)], [.b [.ro false .u8 key], .b [.ints .u8 32 (S2.aj key)], .b [.ints .u8 64 l]], true⟩
noncomputable def pd0 (l : List Int) (w : Int) : St := ⟨slotsOf 33 [(1, .int .u8 w), (6, .sl 0 0 0 1 64 64 true true), (20, .int .i64 64), (21, .int .i64 0)], [.b [.ints .u8 64 l]], true⟩
section
variable (key l : List Int) (w : Int)
theorem aae : (aT Tryz.prog (pdC true) 60 0 6 (atoms pdM) ⟨aO Tryz.f145.ntmps [.ro false .u8 key, .int .u8 w], [], true⟩).bind (St.cut [1, 6, 20, 21] 3) =
    some ⟨slotsOf 33 [(1, .int .u8 w), (6, .sl 2 0 0 1 64 64 true true), (20, .int .i64 64), (21, .int .i64 0)], [.b [.ro false .u8 key], .b [.ints .u8 32 (S2.aj [key].flatten)], .b [.ints .u8 64 (p9 (List.replicate 64 0) 0 (S2.aj [key].flatten) (Nat.min 32 64))]],
      aa (aa (aa true (decide ((key.length : Int) > 64))) (aa true (decide ([key].flatten.length < 274877900000) && true))) (aa (decide ((S2.aj [key].flatten).length = 32) && true) (true && decide (Nat.min 32 64 ≤ (S2.aj [key].flatten).length)))⟩ := by kernel_rfl
theorem aaf : (aT Tryz.prog (pdC false) 60 0 6 (atoms pdM) ⟨aO Tryz.f145.ntmps [.ro false .u8 key, .int .u8 w], [], true⟩).bind (St.cut [1, 6, 20, 21] 1) =
    some { pd0 (EI key) w with ob := aa (aa true (!decide ((key.length : Int) > 64))) (aa true (true && decide (0 + Nat.min key.length 64 ≤ 64) && decide (Nat.min key.length 64 ≤ key.length))) } := by kernel_rfl
end
theorem EK (k : List Int) : (EI k).length = 64 := oT (by simp) (by have h : Nat.min k.length 64 ≤ 64 := Nat.min_le_right _ _; generalize Nat.min k.length 64 = m at *; omega) (Nat.min_le_left _ _)
theorem rI {key : List Int} {w : Int} (h : key.length < 274877900000) : ai Tryz.prog 145 [.ro false .u8 key, .int .u8 w] [] (.ro true .u8 (iQ key w)) [] := by
  rw [iQ, aC]
  unfold pdK
  split
  · rename_i hk
    have hs := S2.bz key
    have e : p9 (List.replicate 64 0) 0 (S2.aj key) (Nat.min 32 64) = EI (S2.aj key) := by unfold EI; rw [hs]
    have hh := aae key w
    rw [show [key].flatten = key by simp, e, hs, decide_eq_true hk, decide_eq_true h] at hh
    have k : ai Tryz.prog 145 [.ro false .u8 key, .int .u8 w] [] (.sl 2 0 0 1 64 64 true true) [.b [.ro false .u8 key], .b [.ints .u8 32 (S2.aj key)], .b [.ints .u8 64 (Tc (EI (S2.aj key)) w)]] := by
      refine ai.cz (yD true) 200 6 3 Tryz.func145 (by simp) rfl (fun s' x hx => ?_) (s := pd1 key (aH 64 (EI (S2.aj key))) w) (p := true) ?_ rfl rfl rfl
      · refine aY.items (yD true) 60 6 _ 3 (by simp) hh rfl (by decide) ?_
        exact aY.pre hx (bh.same rfl (by rw [aF (EK _)]; rfl)) (by decide)
      · generalize EI (S2.aj key) = l
        kernel_rfl
    exact ai.fz 2 0 (by simp) (by simp) k (u := .ro true .u8 (Tc (EI (S2.aj key)) w)) (h2 := []) (p := true) (by kernel_rfl) rfl
  · rename_i hk
    have hh := aaf key w
    have h1 : Nat.min key.length 64 ≤ 64 := Nat.min_le_right _ _
    have h2 : Nat.min key.length 64 ≤ key.length := Nat.min_le_left _ _
    have h3 : 0 + Nat.min key.length 64 ≤ 64 := by generalize Nat.min key.length 64 = m at *; omega
    rw [decide_eq_false hk, decide_eq_true h3, decide_eq_true h2] at hh
    have k : ai Tryz.prog 145 [.ro false .u8 key, .int .u8 w] [] (.sl 0 0 0 1 64 64 true true) [.b [.ints .u8 64 (Tc (EI key) w)]] := by
      refine ai.cz (yD false) 200 6 1 Tryz.func145 (by simp) rfl (fun s' x hx => ?_) (s := pd0 (aH 64 (EI key)) w) (p := true) ?_ rfl rfl rfl
      · refine aY.items (yD false) 60 6 _ 1 (by simp) hh rfl (by decide) ?_
        exact aY.pre hx (bh.same rfl (by rw [aF (EK _)])) (by decide)
      · generalize EI key = l
        kernel_rfl
    exact ai.frozen k (by simp [Tc])
noncomputable def pdF : List SV → Option (SV × List Blk × Bool)
  | [.ro false .u8 key, .int .u8 w] => some (.ro true .u8 (iQ key w), [], decide (key.length < 274877900000))
  | _ => none
noncomputable def pdE : Entry Tryz.prog := .val 145 _ Tryz.func145 (by decide) rfl true 0 pdF fun vs v new e => by
  unfold pdF at e
  split at e
  · simp only [Option.some.injEq, Prod.mk.injEq, decide_eq_true_eq] at e
    obtain ⟨rfl, rfl, h⟩ := e
    exact rI h
  · cases e
noncomputable def taC (a : Bool) : br := mk (P := Tryz.prog) [S2.CZ, S2.uE, S2.aah, S2.mM, pdE] [] fun i => if i = 17 then some a else none
theorem yE (a : Bool) : ag Tryz.prog (taC a) := ah _ aq.nil _ _
noncomputable def Vl : Code := aE Tryz.f111
noncomputable def Cu (key : List Int) (xss : List (List Int)) (d : Blk) (i : Int) : St := ⟨slotsOf 31 [(0, .ro false .u8 key), (4, .ptr 0 0 0), (5, .ptr 1 0 0), (14, .iu false xss), (15, .int .i64 xss.length), (16, .int .i64 i)], [.b [.ints .u8 32 S2.iA], d], true⟩
theorem Td (key : List Int) (xss : List (List Int)) (d d' : Blk) {i j : Int} (h : i = j) : (Cu key xss d i).t = (Cu key xss d' j).t := by subst h; rfl
theorem Te (key : List Int) (xss : List (List Int)) {d d' : Blk} (i j : Int) (h : d = d') : (Cu key xss d i).h = (Cu key xss d' j).h := by subst h; rfl
section
variable (key st r : List Int) (xss : List (List Int)) (n i : Int)
theorem O8 : (aT Tryz.prog (taC true) 60 0 4 (atoms Vl) ⟨aO Tryz.f111.ntmps [.ro false .u8 key, .iu false xss], [], true⟩).bind (St.cut [0, 4, 5, 14, 15, 16] 2) =
    some { Cu key xss (S2.dg (S2.iy ([] ++ iQ key 54) S2.gA S2.qd (([] ++ iQ key 54).length / 64)) (([] ++ iQ key 54).drop (64 * (([] ++ iQ key 54).length / 64))) (IntKind.i64.wrap (0 + (iQ key 54).length))) 0 with
      ob := aa (aa true (aa true (decide (key.length < 274877900000)))) (aa true (true && decide (([] : List Int).length + (iQ key 54).length < 274877900000))) } := by kernel_rfl
theorem Vm : (exec Tryz.prog (taC true) 60 0 (inner (inner (az 4 Vl))) (Cu key xss (S2.dg st r n) i)).bind (fun r => (r.2.cut [0, 4, 5, 14, 15, 16] 2).map fun q => (r.1, q)) =
    some (.normal, { Cu key xss (S2.dg (S2.iy (r ++ xss.getD i.toNat []) S2.gA st ((r ++ xss.getD i.toNat []).length / 64)) ((r ++ xss.getD i.toNat []).drop (64 * ((r ++ xss.getD i.toNat []).length / 64))) (IntKind.i64.wrap (n + (xss.getD i.toNat []).length))) (IntKind.i64.wrap (i + 1)) with
      ob := aa (aa (aa (aa true (decide (i < xss.length))) (cN i xss.length)) (decide (i.toNat < xss.length))) (aa true (decide (st.length = 8) && decide (r.length + (xss.getD i.toNat []).length < 274877900000))) }) := by kernel_rfl
theorem Vn : (exec Tryz.prog (taC false) 60 0 (inner (inner (az 4 Vl))) (Cu key xss (S2.dg st r n) i)).bind (fun r => (r.2.cut [0, 4, 5, 14, 15, 16] 2).map fun q => (r.1, q)) =
    some (.exit 0, { Cu key xss (S2.dg st r n) i with ob := aa true (!decide (i < xss.length)) }) := by kernel_rfl
theorem O9 : ((oI Tryz.prog (taC true) 60 ([] : List Blk).length ((atoms (aE Tryz.f111)).drop 5) (Cu key xss (S2.dg st r n) xss.length)).bind fun r => match r.1 with
      | .ret | .normal => (j0 Tryz.prog r.2.t r.2.h Tryz.f111.results.toList).map fun q => (oneOf q.1, r.2.h.take 0, aa r.2.ob q.2)
      | _ => none) = some (.agg [.ints .u8 32 (S2.aj [iQ key 92, S2.mT st r n].flatten)], [],
    aa (aa (aa true (aa true (decide (st.length = 8) && decide (r.length < 274877900000)))) (aa true (decide (key.length < 274877900000)))) (aa true (decide ([iQ key 92, S2.mT st r n].flatten.length < 274877900000) && true))) := by kernel_rfl
end
noncomputable def bP (key xs : List Int) : List Int := gH (S2.aj (iQ key 92 ++ S2.aj (iQ key 54 ++ xs)))
theorem eG (key xs : List Int) : (bP key xs).length = 32 := by rw [bP, aC]; exact S2.bz _
theorem yF (key xs : List Int) : ∀ x ∈ bP key xs, 0 ≤ x ∧ x < 256 := by rw [bP, aC]; exact S2.jY _
theorem Vo {key : List Int} {xss : List (List Int)} (hk : key.length < 274877900000) (h1 : xss.flatten.length < 274877890000) (h2 : xss.length ≤ 274877906944) : ai Tryz.prog 111 [.ro false .u8 key, .iu false xss] [] (.agg [.ints .u8 32 (bP key xss.flatten)]) [] := by
  have hp := EJ key 54
  have hp2 := EJ key 92
  have bS : Tr Tryz.prog none 0 (az 4 Vl) (Cu key xss (S2.Cv (iQ key 54)) 0) .normal (Cu key xss (S2.Cv (iQ key 54 ++ xss.flatten)) xss.length) := by
    have jR := Tr.loop (P := Tryz.prog) (ro := none) (k := 0) 0 (c := az 4 Vl) (by kernel_rfl) (fun j : Nat => Cu key xss (S2.Cv (iQ key 54 ++ (xss.take j).flatten)) j) xss.length (s' := Cu key xss (S2.Cv (iQ key 54 ++ xss.flatten)) xss.length) (fun j hj => ?_) ?_
    · exact Tr.pre jR (bh.same (Td _ _ _ _ rfl) (Te _ _ _ _ (by rw [List.take_zero, List.flatten_nil, List.append_nil])))
    · generalize hx : iQ key 54 ++ (xss.take j).flatten = xs
      have hl := S2.AF xss (j + 1)
      rw [S2.nQ hj, List.length_append] at hl
      have wT : xs.length = 64 + (xss.take j).flatten.length := by rw [← hx, List.length_append, hp]
      have k := Vm key (S2.iy xs S2.gA S2.qd (xs.length / 64)) (xs.drop (64 * (xs.length / 64))) xss xs.length j
      obtain ⟨e1, e2⟩ := S2.EL xs (xss.getD j [])
      rw [Int.toNat_natCast, e1, e2, wrap_i64 (_ + _) (by omega) (by omega), wrap_i64 _ (by omega) (by omega), decide_eq_true (S2.nR S2.qe _), decide_eq_true (show (xs.drop (64 * (xs.length / 64))).length + (xss.getD j []).length < 274877900000 by rw [List.length_drop]; omega),
        decide_eq_true (show (j : Int) < xss.length by omega), aM (by omega) (by omega), decide_eq_true hj] at k
      refine Tr.post (Tr.cut (yE true) 60 _ 2 (by omega) k rfl) (bh.same (Td _ _ _ _ (by omega)) (Te _ _ _ _ ?_))
      rw [S2.nQ hj, ← List.append_assoc, hx]
      unfold S2.Cv
      rw [List.length_append, Int.natCast_add]
    · have k := Vn key (S2.iy (iQ key 54 ++ xss.flatten) S2.gA S2.qd ((iQ key 54 ++ xss.flatten).length / 64)) ((iQ key 54 ++ xss.flatten).drop (64 * ((iQ key 54 ++ xss.flatten).length / 64))) xss (iQ key 54 ++ xss.flatten).length xss.length
      rw [List.take_length]
      exact Tr.post (Tr.cut (yE false) 60 _ 2 (by omega) k (by simp [aa])) (bh.same rfl rfl)
  have hh := O8 key xss
  rw [List.nil_append, hp, decide_eq_true hk] at hh
  have e0 : S2.Cv (iQ key 54) = S2.dg (S2.iy (iQ key 54) S2.gA S2.qd (64 / 64)) ((iQ key 54).drop (64 * (64 / 64))) (IntKind.i64.wrap (0 + (64 : Nat))) := by
    unfold S2.Cv
    rw [hp]; rfl
  have hs := S2.EM (iQ key 54 ++ xss.flatten)
  have hr : ((iQ key 54 ++ xss.flatten).drop (64 * ((iQ key 54 ++ xss.flatten).length / 64))).length < 274877900000 := by rw [List.length_drop, List.length_append, hp]; omega
  have k : ai Tryz.prog 111 [.ro false .u8 key, .iu false xss] [] (.agg [.ints .u8 32 (S2.aj [iQ key 92, S2.aj (iQ key 54 ++ xss.flatten)].flatten)]) [] := by
    rw [← hs]
    generalize hst : S2.iy (iQ key 54 ++ xss.flatten) S2.gA S2.qd ((iQ key 54 ++ xss.flatten).length / 64) = st
    generalize hrr : (iQ key 54 ++ xss.flatten).drop (64 * ((iQ key 54 ++ xss.flatten).length / 64)) = r at hr
    have h8 : st.length = 8 := by rw [← hst]; exact S2.nR S2.qe _
    have hin : ∀ s' x, aY Tryz.prog none 0 ((atoms Vl).drop 5) (Cu key xss (S2.dg st r (iQ key 54 ++ xss.flatten).length) xss.length) x s' → aY Tryz.prog none 0 (atoms Vl) ⟨aO Tryz.f111.ntmps [.ro false .u8 key, .iu false xss], [], true⟩ x s' := fun s' x h => by
      refine aY.items (yE true) 60 4 _ 2 (by simp) hh rfl (by decide) ?_
      rw [← e0]
      refine aY.item 4 (by decide) (Tr.pre bS (bh.same rfl rfl)) ?_
      unfold S2.Cv
      rw [hst, hrr]
      exact h
    generalize ((iQ key 54 ++ xss.flatten).length : Int) = n at *
    have hq := S2.G0 st r n
    have hl : [iQ key 92, S2.mT st r n].flatten.length < 274877900000 := by
      simp only [List.flatten_cons, List.flatten_nil, List.length_append, hp2, hq, List.length_nil]; omega
    refine ai.cz (yE true) 60 5 0 Tryz.func111 (by simp) rfl (fun s' x h => hin s' x h) (s := Cu key xss (S2.dg st r n) xss.length)
      (p := aa (aa (aa true (aa true (decide (st.length = 8) && decide (r.length < 274877900000)))) (aa true (decide (key.length < 274877900000)))) (aa true (decide ([iQ key 92, S2.mT st r n].flatten.length < 274877900000) && true))) (O9 key st r xss n) ?_ rfl rfl
    rw [h8, decide_eq_true hr, decide_eq_true hk, decide_eq_true hl]
    rfl
  rw [bP, aC]
  have e : [iQ key 92, S2.aj (iQ key 54 ++ xss.flatten)].flatten = iQ key 92 ++ S2.aj (iQ key 54 ++ xss.flatten) := by simp
  rw [e] at k
  exact k
noncomputable def aai : List SV → Option (SV × List Blk × Bool)
  | [.ro false .u8 key, .iu false xss] => some (.agg [.ints .u8 32 (bP key xss.flatten)], [], decide (key.length < 274877900000) && decide (xss.flatten.length < 274877890000) && decide (xss.length ≤ 274877906944))
  | _ => none
noncomputable def aaj : Entry Tryz.prog := .val 111 _ Tryz.func111 (by decide) rfl true 0 aai fun vs v new e => by
  unfold aai at e
  split at e
  · simp only [Option.some.injEq, Prod.mk.injEq, Bool.and_eq_true, decide_eq_true_eq] at e
    obtain ⟨rfl, rfl, ⟨h1, h2⟩, h3⟩ := e
    exact Vo h1 h2 h3
  · cases e
noncomputable def exC : br := mk (P := Tryz.prog) [aaj] []
theorem I3 : ag Tryz.prog exC := ah _ aq.nil _ _
noncomputable def AG : List SV → Option (SV × List Blk × Bool)
  | [.ro false .u8 AH, .ro false .u8 m] => some (.agg [.ints .u8 32 (bP AH m)], [], decide (AH.length < 274877900000) && decide (m.length < 274877890000))
  | _ => none
theorem sL (AH m : List Int) : (bp Tryz.prog exC 60 Tryz.f70 [.ro false .u8 AH, .ro false .u8 m] []).map (fun x => (x.1, x.2.2)) = some (.agg [.ints .u8 32 (bP AH [m].flatten)], aa true (aa true (decide (AH.length < 274877900000) && decide ([m].flatten.length < 274877890000) && true))) := by kernel_rfl
noncomputable def AE : Entry Tryz.prog := .val 70 _ Tryz.func70 (by decide) rfl true 0 AG fun vs v new e => by
  unfold AG at e
  split at e
  · rename_i AH m
    simp only [Option.some.injEq, Prod.mk.injEq, Bool.and_eq_true, decide_eq_true_eq] at e
    obtain ⟨rfl, rfl, h1, h2⟩ := e
    have hm : [m].flatten = m := by simp
    have k := aG I3 60 Tryz.func70 (sL AH m) (by rw [hm, decide_eq_true h1, decide_eq_true h2]; rfl) rfl
    rw [hm] at k
    exact k
  · cases e
end Go.Proofs.YtibfpjeeanppjaaGreat.Kd
end
section
namespace Go.Sy
open Go
def Vp (b m : Nat) (s : St) : Option (St × Bool) := match St.fz b s with
  | some (s', p) => (s'.fU m).map fun s2 => (s2, p)
  | none => none
theorem bh.Vp {k b m : Nat} {s s2 : St} {p : Bool} (hb : k ≤ b) (hm : k ≤ m) (e : Go.Sy.Vp b m s = some (s2, p)) (hp : p = true) : bh k s s2 := by
  subst hp
  unfold Go.Sy.Vp at e
  split at e
  case h_2 => cases e
  rename_i s' p' he
  obtain ⟨s3, h3, e⟩ := Option.map_eq_some_iff.1 e
  cases e
  exact (bh.freeze hb he).trans (bh.fU hm h3)
theorem bh.afA {k : Nat} {t : List (Option SV)} {h : List Blk} {o o' : Bool} (i : Nat) {v v' : SV} (hi : t[i]? = some (some v)) (hv : VE v v') : bh k ⟨t, h, o⟩ ⟨t.set i (some v'), h, o'⟩ := by
  refine bh.mono (by simp) (fun j u hj => ?_) rfl (fun i qs hi => ⟨qs, hi, PE.refl _⟩) (fun i g hi => hi)
  rw [List.getElem?_set] at hj
  split at hj
  · rename_i q
    subst q
    split at hj
    · cases hj; exact ⟨v, hi, hv⟩
    · cases hj
  · exact ⟨u, hj, VE.refl _⟩
theorem VE.rE (f : Bool) (k : IntKind) : VE (.nl (.slice none 0 0)) (.ro f k []) := fun e y h => by
  have h' : y = .slice none 0 0 := h
  subst h'
  exact .inl ⟨rfl, none, 0, rfl, fun _ => rfl⟩
end Go.Sy
namespace Go.Proofs.YtibfpjeeanppjaaGreat.Kd
open Go Go.Sy Sh
noncomputable def c0 : br := mk (P := Tryz.prog) [] []
theorem xp : ag Tryz.prog c0 := ah _ aq.nil _ _
def tgF : List SV → Option (SV × List Blk × Bool)
  | [.ro false .u8 sec, .ro false .u8 info] => some (.fn (.func 166) [] [.ptr 0 0 0, .ptr 1 0 0], [.b [.ro false .u8 sec], .b [.ro false .u8 info]], true)
  | _ => none
noncomputable def tgE : Entry Tryz.prog := .val 144 _ Tryz.func144 (by decide) rfl true 2 tgF fun vs v new e => by
  unfold tgF at e
  split at e
  · cases e
    exact bn xp 30 Tryz.func144 2 (by simp) (p := true) (by kernel_rfl) rfl rfl rfl
  · cases e
noncomputable def xpB : Code := aE Tryz.f109
noncomputable def xpI : Code := inner (az 1 xpB)
noncomputable def Tf : Code := az 5 xpI
noncomputable def tgB : Code := aE Tryz.f166
noncomputable def Vq : List (Option SV) := slotsOf 36 [(5, .ptr 0 0 0), (8, .ptr 2 0 0), (21, .fn (.func 166) [] [.ptr 3 0 0, .ptr 4 0 0])]
noncomputable def xpL (l : Nat) : Lp := Es Tf Vq l
noncomputable def Tg (l : Nat) : Lp := { Es Tf Vq l with st := .done, fh := some (.exit 0) }
noncomputable def aan (sec info l : List Int) (m N : Nat) : List Blk := [.b [.int .i64 N], .b [.ints .u8 N l], .b [.sl 1 0 0 1 m N false false], .b [.ro false .u8 sec], .b [.ro false .u8 info]]
noncomputable def Iu (sec info l : List Int) (m N : Nat) (g : Option Lp) : List Blk := [.b [.int .i64 N], .b [.ints .u8 N l], .b [.sl 1 0 0 1 m N false false], .b [.ro false .u8 sec], .b [.ro false .u8 info], .g g]
noncomputable def tgS (sec info l : List Int) (m N : Nat) (last : List Int) (i : Int) (k : Nat) : St := ⟨slotsOf 25 [(0, .fn (.yield k) [] []), (1, .ptr 3 0 0), (2, .ptr 4 0 0), (4, .ro true .u8 last), (5, .int .u8 i)], Iu sec info l m N (some (xpL k)), true⟩
noncomputable def tgM (sec info l : List Int) (m N : Nat) (last t : List Int) (i j : Int) (k : Nat) : St := ⟨slotsOf 25 [(0, .fn (.yield k) [] []), (1, .ptr 3 0 0), (2, .ptr 4 0 0), (4, .sl 8 0 0 1 32 32 true true), (5, .int .u8 j)],
  [.b [.int .i64 N], .b [.ints .u8 N l], .b [.sl 1 0 0 1 m N false false], .b [.ro false .u8 sec], .b [.ro false .u8 info], .g (some (xpL k)), .b [.ints .u8 1 [i]], .b [.ro true .u8 last, .ro false .u8 info, .sl 6 0 0 1 1 1 true true], .b [.ints .u8 32 t]], true⟩
noncomputable def tgC (a : Bool) : br := mk (P := Tryz.prog) [aaj] [] fun i => if i = 34 then some a else if i = 22 then some false else none
theorem C0 (a : Bool) : ag Tryz.prog (tgC a) := ah _ aq.nil _ _
def G2 (m N : Nat) : Int := if IntKind.i64.wrap ((N : Int) - (m : Int)) < 32 then IntKind.i64.wrap ((N : Int) - (m : Int)) else 32
def uX (m N : Nat) : Nat := (G2 m N).toNat
noncomputable def tT (sec last info : List Int) (i : Int) : List Int := bP sec [last, info, [i]].flatten
noncomputable def YU (l t : List Int) (m N : Nat) : List Int := p9 l (0 + m) ((t.drop 0).take (uX m N)) (uX m N)
noncomputable def xpA (sec last info : List Int) (i : Int) : Bool := aa true (aa true (decide (sec.length < 274877900000) && decide ([last, info, [i]].flatten.length < 274877890000) && true))
noncomputable def xpY (l t : List Int) (m N k : Nat) : Bool := aa (aa (aa (decide (k = k)) (decide (k = k))) (aa true (decide (0 ≤ G2 m N) && decide (G2 m N ≤ 32)))) (aa (aa (decide (0 + uX m N ≤ 32) && decide (0 + uX m N ≤ t.length)) (decide (m + uX m N ≤ N))) (decide (l.length = N) && decide (0 + m + uX m N ≤ N) && decide (uX m N ≤ ((t.drop 0).take (uX m N)).length)))
section
variable (sec info l last t : List Int) (m N k : Nat) (i : Int)
theorem Vr : (exec Tryz.prog (tgC false) 60 6 (inner (inner (az 2 tgB))) (tgS sec info l m N last i k)).bind (fun r => (r.2.cut [0, 1, 2, 4, 5] 9).map fun q => (r.1, q)) =
    some (.normal, { tgM sec info (YU l (tT sec last info i) m N) (m + uX m N) N last (tT sec last info i) i (IntKind.u8.wrap (i + 1)) k with
      ob := aa (aa (xpA sec last info i) (aa (aa (xpY l (tT sec last info i) m N k) (!((m + uX m N : Nat) : Int) == (N : Int))) (decide (k = k)))) (!i == 255) }) := by kernel_rfl
theorem aap (j : Int) : Vp 8 6 (tgM sec info l m N last t i j k) = some (tgS sec info l m N t j k, aa (decide (t.length = 32)) true) := by kernel_rfl
theorem Pa : (exec Tryz.prog (tgC true) 60 6 (inner (inner (az 2 tgB))) (tgS sec info l m N last i k)).bind (fun r => (r.2.cut [] 6).map fun q => (r.1, q)) =
    some (.ret, ⟨slotsOf 25 [], Iu sec info (YU l (tT sec last info i) m N) (m + uX m N) N (some (Tg k)),
      aa (xpA sec last info i) (aa (aa (xpY l (tT sec last info i) m N k) (((m + uX m N : Nat) : Int) == (N : Int))) (decide (k = k)))⟩) := by kernel_rfl
theorem Pb : (aT Tryz.prog (tgC false) 60 6 2 (atoms tgB) ⟨aO Tryz.f166.ntmps [.fn (.yield k) [] [], .ptr 3 0 0, .ptr 4 0 0], Iu sec info l m N (some (xpL k)), true⟩).bind (St.cut [0, 1, 2, 4, 5] 6) =
    some ⟨slotsOf 25 [(0, .fn (.yield k) [] []), (1, .ptr 3 0 0), (2, .ptr 4 0 0), (4, .nl (.slice none 0 0)), (5, .int .u8 1)], Iu sec info l m N (some (xpL k)), true⟩ := by kernel_rfl
end
noncomputable def w5 (sec info : List Int) : Nat → List Int
  | 0 => []
  | j + 1 => tT sec (w5 sec info j) info ((j + 1 : Nat) : Int)
noncomputable def Th (sec info : List Int) : Nat → List Int
  | 0 => []
  | j + 1 => Th sec info j ++ w5 sec info (j + 1)
noncomputable def Aj (sec info : List Int) (N j : Nat) : List Int := Th sec info j ++ List.replicate (N - 32 * j) 0
noncomputable def bf (sec info : List Int) (N : Nat) : List Int := Th sec info ((N - 1) / 32) ++ (w5 sec info ((N - 1) / 32 + 1)).take (N - 32 * ((N - 1) / 32))
theorem o5 (sec last info : List Int) (i : Int) : (tT sec last info i).length = 32 := eG _ _
theorem yG (sec info : List Int) (j : Nat) : (w5 sec info (j + 1)).length = 32 := o5 _ _ _ _
theorem Vs (sec info : List Int) : ∀ j, (w5 sec info j).length ≤ 32
  | 0 => by simp [w5]
  | j + 1 => by rw [yG]; exact Nat.le_refl _
theorem tM (sec info : List Int) : ∀ j, (Th sec info j).length = 32 * j
  | 0 => rfl
  | j + 1 => by rw [Th, List.length_append, tM sec info j, yG]; omega
theorem EN (sec info : List Int) {N j : Nat} (h : 32 * j ≤ N) : (Aj sec info N j).length = N := by unfold Aj; rw [List.length_append, tM, List.length_replicate]; omega
theorem eH (sec info : List Int) (N : Nat) : (bf sec info N).length = N := by
  unfold bf
  rw [List.length_append, tM, List.length_take, yG]
  omega
theorem C3 {m N : Nat} (h : m ≤ N) (hN : N ≤ 8160) : uX m N = min 32 (N - m) ∧ 0 ≤ G2 m N ∧ G2 m N ≤ 32 := by
  unfold uX G2
  rw [wrap_i64 _ (by omega) (by omega)]
  split <;> omega
theorem JB {sec info : List Int} {N j n : Nat} (_ : 32 * j + n ≤ N) (t : List Int) (ht : n ≤ t.length) : p9 (Aj sec info N j) (0 + 32 * j) ((t.drop 0).take n) n = Th sec info j ++ t.take n ++ List.replicate (N - 32 * j - n) 0 := by
  have hc := tM sec info j
  unfold p9 Aj
  rw [Nat.zero_add, List.drop_zero, List.take_left' hc, List.take_of_length_le (by rw [List.length_take]; omega), ← List.drop_drop, List.drop_left' hc, List.drop_replicate]
theorem AI {sec info : List Int} (hs : sec.length < 274877900000) (hi : info.length < 270000000000) (j : Nat) (i : Int) : xpA sec (w5 sec info j) info i = true := by
  have h := Vs sec info j
  unfold xpA
  rw [decide_eq_true hs, decide_eq_true (show [w5 sec info j, info, [i]].flatten.length < 274877890000 by simp only [List.flatten_cons, List.flatten_nil, List.length_append, List.length_cons, List.length_nil]; omega)]
  rfl
theorem AJ {l t : List Int} {m N : Nat} (hm : m ≤ N) (hN : N ≤ 8160) (hl : l.length = N) (ht : t.length = 32) (k : Nat) : xpY l t m N k = true := by
  obtain ⟨e, h0, h1⟩ := C3 hm hN
  have hk : uX m N ≤ 32 ∧ m + uX m N ≤ N := by rw [e]; omega
  have htl : ((t.drop 0).take (uX m N)).length = uX m N := by rw [List.drop_zero, List.length_take, ht]; omega
  unfold xpY
  rw [htl, ht, hl, decide_eq_true h0, decide_eq_true h1, decide_eq_true (show 0 + uX m N ≤ 32 by omega), decide_eq_true hk.2, decide_eq_true (show 0 + m + uX m N ≤ N by omega), decide_eq_true (Nat.le_refl (uX m N))]
  simp [aa]
theorem aaq {sec info : List Int} {N : Nat} (hs : sec.length < 274877900000) (hi : info.length < 270000000000) (hN : N ≤ 8160) (k : Nat) :
    ai Tryz.prog 166 [.fn (.yield k) [] [], .ptr 3 0 0, .ptr 4 0 0] (Iu sec info (Aj sec info N 0) 0 N (some (xpL k))) (.aQ []) (Iu sec info (bf sec info N) N N (some (Tg k))) := by
  have hq : 32 * ((N - 1) / 32) ≤ N := by omega
  have bS : Tr Tryz.prog none 6 (az 2 tgB) (tgS sec info (Aj sec info N 0) 0 N [] 1 k) .ret ⟨slotsOf 25 [], Iu sec info (bf sec info N) N N (some (Tg k)), true⟩ := by
    refine Tr.tI 0 (by kernel_rfl) ?_
    have jR := iH.for (P := Tryz.prog) (ro := none) (k := 6) (b := inner (inner (az 2 tgB))) (x := .ret) (s' := ⟨slotsOf 25 [], Iu sec info (bf sec info N) N N (some (Tg k)), true⟩) (by simp)
      (fun j : Nat => tgS sec info (Aj sec info N j) (32 * j) N (w5 sec info j) ((j + 1 : Nat) : Int) k) ((N - 1) / 32) (fun j hj => ?_) ?_
    · exact iH.pre jR (bh.same rfl rfl)
    · have hj2 : 32 * j + 32 < N := by omega
      obtain ⟨e, _, _⟩ := C3 (m := 32 * j) (N := N) (by omega) hN
      have e32 : uX (32 * j) N = 32 := by rw [e]; omega
      have kk := Vr sec info (Aj sec info N j) (w5 sec info j) (32 * j) N k ((j + 1 : Nat) : Int)
      have hw : YU (Aj sec info N j) (tT sec (w5 sec info j) info ((j + 1 : Nat) : Int)) (32 * j) N = Aj sec info N (j + 1) := by
        unfold YU
        rw [e32, JB (by omega) _ (by rw [o5]; exact Nat.le_refl _), List.take_of_length_le (by rw [o5]; exact Nat.le_refl _)]
        unfold Aj
        rw [Th, w5, show N - 32 * j - 32 = N - 32 * (j + 1) by omega]
      have h1 : (!(((32 * j + 32 : Nat) : Int) == (N : Int))) = true := by simp; omega
      have h2 : (!(((j + 1 : Nat) : Int) == 255)) = true := by simp; omega
      have h3 : IntKind.u8.wrap (((j + 1 : Nat) : Int) + 1) = ((j + 1 + 1 : Nat) : Int) := by
        have : ∀ z : Int, IntKind.u8.wrap z = z % 256 := fun z => by simp [IntKind.wrap, IntKind.signed, IntKind.bits]
        rw [this]; omega
      rw [hw, e32, AI hs hi, AJ (by omega) hN (EN _ _ (by omega)) (o5 _ _ _ _), h1, h2, h3, decide_eq_true rfl] at kk
      refine Tr.post (Tr.post (Tr.cut (C0 false) 60 _ 9 (by omega) kk rfl) (bh.same rfl rfl)) ?_
      exact bh.Vp (by omega) (by omega) (aap sec info (Aj sec info N (j + 1)) (w5 sec info j) (tT sec (w5 sec info j) info ((j + 1 : Nat) : Int)) (32 * j + 32) N k ((j + 1 : Nat) : Int) ((j + 1 + 1 : Nat) : Int)) (by rw [o5]; rfl)
    · have kk := Pa sec info (Aj sec info N ((N - 1) / 32)) (w5 sec info ((N - 1) / 32)) (32 * ((N - 1) / 32)) N k (((N - 1) / 32 + 1 : Nat) : Int)
      obtain ⟨e, _, _⟩ := C3 hq hN
      have eN : uX (32 * ((N - 1) / 32)) N = N - 32 * ((N - 1) / 32) := by rw [e]; omega
      have hw : YU (Aj sec info N ((N - 1) / 32)) (tT sec (w5 sec info ((N - 1) / 32)) info (((N - 1) / 32 + 1 : Nat) : Int)) (32 * ((N - 1) / 32)) N = bf sec info N := by
        unfold YU
        rw [eN, JB (by omega) _ (by rw [o5]; omega), show N - 32 * ((N - 1) / 32) - (N - 32 * ((N - 1) / 32)) = 0 by omega, List.replicate_zero, List.append_nil]
        rfl
      have h1 : (((N : Nat) : Int) == (N : Int)) = true := beq_self_eq_true _
      rw [hw, AI hs hi, AJ hq hN (EN _ _ hq) (o5 _ _ _ _), eN, show 32 * ((N - 1) / 32) + (N - 32 * ((N - 1) / 32)) = N by omega, h1, decide_eq_true rfl] at kk
      exact Tr.cut (C0 true) 60 _ 6 (by omega) kk rfl
  refine ai.mk (vs := []) Tryz.func166 rfl (x := .ret) (s := ⟨slotsOf 25 [], Iu sec info (bf sec info N) N N (some (Tg k)), true⟩) ?_ (.inl rfl) (by kernel_rfl)
  refine aY.items (C0 false) 60 2 _ 6 (by show 6 ≤ 6; omega) (Pb sec info _ 0 N k) rfl (by decide) ?_
  refine aY.pre ?_ (bh.afA (o' := true) 4 (v := .nl (.slice none 0 0)) (v' := .ro true .u8 []) rfl (VE.rE _ _)) (by decide)
  exact aY.leave 2 (by decide) (by simp) (Tr.pre bS (bh.same rfl rfl))
end Go.Proofs.YtibfpjeeanppjaaGreat.Kd
end
