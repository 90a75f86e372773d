/- This file proves contracts of point.order, minus, number, key, bit, Residue and of the library's Sub64, Add64, Mul64. Conditions: numbers within their kinds. -/
import Derived.Test.YtkoohnpknhoahaaTMd
import Derived.Test.YtkoohnpknhoahaaTNc
import Derived.Test.YtkoohnpknhoahaaChecked
import Derived.Laws.Externs
import Derived.Test.YtkoohnpknhoahaaTNa
import Derived.Below
set_option linter.all false
namespace Go.Proofs.Ytkoohnpknhoahaa.Sp
open Go Go.Sy
noncomputable def sub64F : List SV → Option (SV × Bool)
  | [.int .u64 x, .int .u64 y, .int .u64 b] => some (.tup [.int .u64 (subD x y b), .int .u64 (subB x y b)], carry1 b)
  | _ => none
noncomputable def sub64E : Entry Try.prog := .ext 145 sub64F fun vs v e en w args hl => by
  unfold sub64F at e
  split at e
  · rename_i x y b
    simp only [Option.some.injEq, Prod.mk.injEq] at e
    obtain ⟨rfl, hb⟩ := e
    obtain ⟨_, _, rfl, ⟨_, _, rfl, ⟨_, _, rfl, rfl, rfl⟩, rfl⟩, rfl⟩ := hl
    refine ⟨_, ?_, ⟨_, ⟨_, _, rfl, ⟨_, _, rfl, rfl, rfl⟩, rfl⟩, rfl⟩⟩
    rw [run_callFunc_extern Try.func145 (by kernel_rfl) (by kernel_rfl) (by kernel_rfl) (e := sub64Entry) (by kernel_rfl), run_sub64 x y b hb]
    rfl
  · cases e
noncomputable def add64F : List SV → Option (SV × Bool)
  | [.int .u64 x, .int .u64 y, .int .u64 c] => some (.tup [.int .u64 (addS x y c), .int .u64 (addC x y c)], carry1 c)
  | _ => none
noncomputable def add64E : Entry Try.prog := .ext 111 add64F fun vs v e en w args hl => by
  unfold add64F at e
  split at e
  · rename_i x y c
    simp only [Option.some.injEq, Prod.mk.injEq] at e
    obtain ⟨rfl, hc⟩ := e
    obtain ⟨_, _, rfl, ⟨_, _, rfl, ⟨_, _, rfl, rfl, rfl⟩, rfl⟩, rfl⟩ := hl
    refine ⟨_, ?_, ⟨_, ⟨_, _, rfl, ⟨_, _, rfl, rfl, rfl⟩, rfl⟩, rfl⟩⟩
    rw [run_callFunc_extern Try.func111 (by kernel_rfl) (by kernel_rfl) (by kernel_rfl) (e := add64Entry) (by kernel_rfl), run_add64' x y c hc]
    rfl
  · cases e
theorem ctr0 : CtrSound Try.prog (mk (P := Try.prog) [] []) := mk_sound [] InlOK.nil _ _
def orderF : List SV → Option (SV × List Blk × Bool)
  | [] => some (.agg [.ints .u64 4 ordW], [], true)
  | _ => none
noncomputable def orderE : Entry Try.prog := .val 144 _ Try.func144 (by decide) rfl false 0 orderF fun vs v new e => by
  unfold orderF at e
  split at e
  · cases e
    exact call0 ctr0 20 Try.func144 (p := true) (by kernel_rfl) rfl rfl
  · cases e
noncomputable def minusF : List SV → Option (SV × List Blk × Bool)
  | [.agg [.ints .u64 4 l]] => some (.tup [.agg [.ints .u64 4 (lessW l)], .int .u64 (lessB l)], [], true)
  | _ => none
theorem ctrMinus : CtrSound Try.prog (mk [orderE, sub64E] []) := mk_sound _ InlOK.nil _ _
set_option maxRecDepth 100000 in
noncomputable def minusE : Entry Try.prog := .val 99 _ Try.func99 (by decide) rfl false 0 minusF fun vs v new e => by
  unfold minusF at e
  split at e
  · rename_i l
    cases e
    exact call0 ctrMinus 60 Try.func99 (p := andT (andT (andT true (carry1 (mnB1 (l.getD 0 0)))) (carry1 (mnB2 (l.getD 0 0) (l.getD 1 0)))) (carry1 (mnB3 (l.getD 0 0) (l.getD 1 0) (l.getD 2 0)))) (by kernel_rfl) (by simp [andT, mnB1, mnB2, mnB3, subB_carry]) rfl
  · cases e
noncomputable def numberF : List SV → Option (SV × List Blk × Bool)
  | [.agg [.ints .u8 32 l]] => some (.agg [.ints .u64 4 (numF l)], [], true)
  | _ => none
set_option maxRecDepth 100000 in
noncomputable def numberE : Entry Try.prog := .val 100 _ Try.func100 (by decide) rfl false 0 numberF fun vs v new e => by
  unfold numberF at e
  split at e
  · rename_i l
    cases e
    rw [numF, Lift.Lock_eq]
    exact call0 ctr0 200 Try.func100 (p := true) (by kernel_rfl) rfl rfl
  · cases e
noncomputable def keyEF : List SV → Option (SV × List Blk × Bool)
  | [.agg [.ints .u64 4 l]] => some (.agg [.ints .u8 32 (keyF l)], [], true)
  | _ => none
set_option maxRecDepth 100000 in
noncomputable def keyE : Entry Try.prog := .val 113 _ Try.func113 (by decide) rfl false 0 keyEF fun vs v new e => by
  unfold keyEF at e
  split at e
  · rename_i l
    cases e
    rw [keyF, Lift.Lock_eq]
    exact call0 ctr0 200 Try.func113 (p := true) (by kernel_rfl) rfl rfl
  · cases e
def pick1 (vs : List SV) (_ : List Blk) : List Nat := match vs with
  | .ptr b _ _ :: _ => [b]
  | _ => []
noncomputable def bitEF : List SV → List Blk → Option (SV × List Blk × Bool)
  | [.ptr 0 0 0, .int .u64 b], [.b [.ints .u64 4 l]] => some (.tup [], [.b [.ints .u64 4 (bitF (lst 4 l) b)]], true)
  | _, _ => none
theorem ctrBit (x : Bool) : CtrSound Try.prog (mk [minusE] [] fun i => if i = 43 then some x else none) := mk_sound _ InlOK.nil _ _
set_option maxRecDepth 100000 in
noncomputable def bitE : Entry Try.prog := .mut 112 _ Try.func112 (by decide) rfl pick1 0 bitEF fun vs h0 v h1 e => by
  unfold bitEF at e
  split at e
  · rename_i b l
    cases e
    refine FnTr.conv (bs := [.ptr 0 0 0, .int .u64 b]) (h2 := [.b [.ints .u64 4 (lst 4 l)]]) (h1 := [.b [.ints .u64 4 (bitF (lst 4 l) b)]]) ?_ ⟨VE.refl _, VE.refl _, trivial⟩ ⟨PE.lst _ _ _, trivial⟩ (VE.refl _) ⟨PE.refl _, trivial⟩
    rw [bitF, Lift.Lock_eq, bitW]
    by_cases hq : lessB (upW (lst 4 l) b) = 0
    · rw [if_pos hq]
      exact callM (ctrBit true) 200 Try.func112 1 (by simp) (p := andT true (lessB (upW (lst 4 l) b) == 0)) (by kernel_rfl) (by rw [hq]; rfl) rfl rfl
    · rw [if_neg hq]
      exact callM (ctrBit false) 200 Try.func112 1 (by simp) (p := andT true (!(lessB (upW (lst 4 l) b) == 0))) (by kernel_rfl) (by rw [beq_eq_false_iff_ne.2 hq]; rfl) rfl rfl
  · cases e
end Go.Proofs.Ytkoohnpknhoahaa.Sp
namespace Go.Sy
open Go
theorem FnTr.of_below {P : Program} {f : FuncId} {us : List SV} {v : SV} {ps : List Value → Prop} {q : Value → Prop} (ha : ∀ e args, LR e us args → ps args) (hv : ∀ e v', q v' → VR e v v')
    (g : ∀ (w : World) (args : List Value), ps args → Calls P f ⟨args⟩ w fun en w' => ∃ v', en = .returned v' ∧ q v' ∧ Go.RowKit.Below w.heap.size w w') : FnTr P f us [] v [] := by
  intro B e w args hB hl R
  refine (g w args (ha e args hl)).mono ?_
  rintro en w' ⟨v', rfl, hq, b⟩
  have hk : B.k = 0 := by simpa using hB
  have hr : ∀ i p, e.r i ≠ some p := fun i p hi => by have := R.dom i p hi; simp at this
  have keep : ∀ n, n < w.heap.size → w'.heap[n]? = w.heap[n]? := b.block
  exact ⟨v', rfl, e, rfl, hv e v' hq, { R with
    os := b.os.trans R.os, tape := b.tape.trans R.tape, output := b.output.trans R.output, size := Nat.le_trans R.size b.size
    zok := fun n c ty fr hx => by rw [keep n (R.zlt hx)]; exact R.zok n c ty fr hx
    blk := fun i ps hi => by simp at hi
    gap := fun i g hi => by simp at hi
    old := fun n hn hno hnl => by rw [keep n (by have := R.size; omega)]; exact R.old n hn hno hnl
    win := fun i p hi => absurd (R.keepr i p hi) (hr i p)
    mks := fun r hr => by
      have hm := R.mks r hr
      rw [keep r (Array.getElem?_eq_some_iff.1 hm.1).1]; exact hm }⟩
end Go.Sy
namespace Go.Proofs.Ytkoohnpknhoahaa.Sp
open Go Go.Sy
theorem lift_pure {f : FuncId} {fn : Func} (hf : Try.prog.funcs[f]? = some fn) {args : List Value} {v : Value} {h1 : List Lift.Blk} (e : Lift.FnTr Try.prog fn args [] v h1) (ha : Lift.plainL args = true) (hv : Lift.plain v = true) (w : World) :
    Calls Try.prog f ⟨args⟩ w fun en w' => en = .returned v ∧ Go.RowKit.Below w.heap.size w w' := by
  refine (Lift.FnTr.calls hf e (Lift.LR.plain args ha) (Lift.Rel.none w)).mono ?_
  rintro x w' ⟨v', rfl, r', he, hvr, R'⟩
  have := Lift.VR.eq_of_plain v v' hv hvr
  subst this
  exact ⟨rfl, R'.os, R'.tape, R'.output, R'.size, fun n hn => R'.old n hn fun i p hi hp _ => by omega⟩
theorem agg_args {e : Env} {k : IntKind} {n : Nat} {l : List Int} {y : Value} (hl : l.length = n) (h : VR e (.agg [.ints k n l]) y) : y = Lift.aggI k l := by
  obtain ⟨ys, ⟨zs, hz, rfl⟩, rfl⟩ := h
  rw [PR] at hz
  subst hz
  rw [lst_eq hl, List.append_nil]
  rfl
theorem agg_VR {e : Env} {k : IntKind} {n : Nat} {l : List Int} (hl : l.length = n) : VR e (.agg [.ints k n l]) (Lift.aggI k l) :=
  ⟨intsV k l, ⟨[], rfl, by rw [lst_eq hl, List.append_nil]⟩, rfl⟩
def keyOK (l : List Int) : Bool := decide (l.length = 32) && l.all u8
theorem keyOK_iff {l : List Int} : keyOK l = true ↔ l.length = 32 ∧ l.all u8 = true := by simp [keyOK]
noncomputable def refMaF : List SV → Option (SV × List Blk × Bool)
  | [.agg [.ints .u8 32 a], .agg [.ints .u8 32 b], .agg [.ints .u8 32 c]] => some (.agg [.ints .u8 32 (maF a b c)], [], keyOK a && keyOK b && keyOK c)
  | _ => none
noncomputable def refMulAddE : Entry Try.prog := .val 67 _ Try.func67 (by decide) rfl false 0 refMaF fun vs v new e => by
  unfold refMaF at e
  split at e
  · rename_i a b c
    simp only [Option.some.injEq, Prod.mk.injEq, Bool.and_eq_true, keyOK_iff] at e
    obtain ⟨rfl, rfl, ⟨ha, hb⟩, hc⟩ := e
    obtain ⟨h1, hg⟩ := ma_fn ha.2 hb.2 hc.2 ha.1 hb.1 hc.1
    rw [Lift.lst_eq ha.1, Lift.lst_eq hb.1, Lift.lst_eq hc.1, Lift.lst_eq (maF_length a b c)] at hg
    refine FnTr.of_below (ps := fun args => args = [Lift.aggI .u8 a, Lift.aggI .u8 b, Lift.aggI .u8 c]) (q := fun v' => v' = Lift.aggI .u8 (maF a b c)) (fun e args hl => ?_) (fun e v' hv => ?_) (fun w args hargs => ?_)
    · obtain ⟨x, _, hx, ⟨y, _, hy, ⟨z, _, hz, hn, rfl⟩, rfl⟩, rfl⟩ := hl
      rw [LR] at hn; subst hn
      rw [agg_args ha.1 hx, agg_args hb.1 hy, agg_args hc.1 hz]
    · subst hv; exact agg_VR (maF_length a b c)
    · subst hargs
      exact (lift_pure Try.func67 hg (by simp [Lift.plainL, Lift.plain_aggI]) (Lift.plain_aggI _ _) w).mono fun _ _ ⟨h1, h2⟩ => ⟨_, h1, rfl, h2⟩
  · cases e
noncomputable def refBitsF : List SV → Option (SV × List Blk × Bool)
  | [.ro _ .u8 l] => some (.agg [.ints .u8 32 (redF l)], [], l.all u8 && (decide (0 < l.length) && decide (l.length ≤ 1099511627776)))
  | _ => none
noncomputable def refBitsE : Entry Try.prog := .val 62 _ Try.func62 (by decide) rfl true 0 refBitsF fun vs v new e => by
  unfold refBitsF at e
  split at e
  · rename_i f l
    simp only [Option.some.injEq, Prod.mk.injEq, Bool.and_eq_true, decide_eq_true_eq] at e
    obtain ⟨rfl, rfl, hl, h0, hn⟩ := e
    intro B e w args hB hla R
    obtain ⟨y, _, hy, hnil, rfl⟩ := hla
    rw [LR] at hnil; subst hnil
    rcases hy with ⟨rfl, _⟩ | ⟨n, o, cap, c, t, fr, rfl, hz, _, hc, hlc, hoc⟩
    · simp at h0
    · obtain ⟨h1, hg⟩ := bits_fn l cap hl hn
      rw [Lift.lst_eq (redF_length l)] at hg
      have hb := R.zok n c t fr hz
      have hla : Lift.LR (Lift.lk [⟨n, o, true⟩]) [sliceArg 0 l.length cap] [.slice (some ⟨n, o, none⟩) l.length cap] := ⟨_, [], ⟨⟨n, o, true⟩, rfl, rfl⟩, rfl, rfl⟩
      have hro : ∀ (i : Nat) (p : Lift.Pl), [(⟨n, o, true⟩ : Lift.Pl)][i]? = some p → p.ro = true := fun i p hp => by
        have h1 := (List.getElem?_eq_some_iff.1 hp).1
        simp at h1
        subst h1
        simp at hp
        subst hp
        rfl
      have R1 := Lift.Rel.one (w := w) (a := ⟨n, o, none⟩) (k := .u8) (l := l) hb hc
      have hcall := Lift.FnTr.calls Try.func62 hg hla R1
      refine hcall.mono ?_
      rintro x w' ⟨v', rfl, r', he, hvr, R'⟩
      have := Lift.VR.eq_of_plain _ v' (Lift.plain_aggI _ _) hvr
      subst this
      have keep : ∀ k, k < w.heap.size → w'.heap[k]? = w.heap[k]? := fun k hk => R'.old k hk fun i p hi hp _ => by
        have h0 : i = 0 := by simpa using hi
        subst h0
        have := he 0 ⟨n, o, true⟩ rfl
        rw [hp] at this; cases this; rfl
      have hk : B.k = 0 := by simpa using hB
      have hr : ∀ i p, e.r i ≠ some p := fun i p hi => by have := R.dom i p hi; simp at this
      exact ⟨_, rfl, e, rfl, agg_VR (redF_length l), { R with
        os := R'.os.trans R.os, tape := R'.tape.trans R.tape, output := R'.output.trans R.output, size := Nat.le_trans R.size R'.size
        zok := fun n c ty fr hx => by rw [keep n (R.zlt hx)]; exact R.zok n c ty fr hx
        blk := fun i ps hi => by simp at hi
        gap := fun i g hi => by simp at hi
        old := fun n hn hno hnl => by rw [keep n (by have := R.size; omega)]; exact R.old n hn hno hnl
        win := fun i p hi => absurd (R.keepr i p hi) (hr i p)
        mks := fun r hr => by
          have hm := R.mks r hr
          rw [keep r (Array.getElem?_eq_some_iff.1 hm.1).1]; exact hm }⟩
  · cases e
noncomputable def mul64F : List SV → Option (SV × List Blk × Bool)
  | [.int .u64 x, .int .u64 y] => some (.tup [.int .u64 (mulH x y), .int .u64 (mulL x y)], [], true)
  | _ => none
set_option maxRecDepth 100000 in
noncomputable def mul64E : Entry Try.prog := .val 110 _ Try.func110 (by decide) rfl false 0 mul64F fun vs v new e => by
  unfold mul64F at e
  split at e
  · rename_i x y
    cases e
    rw [mulH, mulL, Lift.Lock_eq, Lift.Lock_eq]
    exact call0 ctr0 60 Try.func110 (p := true) (by kernel_rfl) rfl rfl
  · cases e
noncomputable def residueF : List SV → Option (SV × List Blk × Bool)
  | [.agg [.ints .u8 32 l]] => some (.bool (lessB (numF l) == 1), [], true)
  | _ => none
theorem ctrRes : CtrSound Try.prog (mk [minusE, numberE] []) := mk_sound _ InlOK.nil _ _
set_option maxRecDepth 100000 in
noncomputable def residueE : Entry Try.prog := .val 56 _ Try.func56 (by decide) rfl false 0 residueF fun vs v new e => by
  unfold residueF at e
  split at e
  · rename_i l
    cases e
    exact call0 ctrRes 60 Try.func56 (p := true) (by kernel_rfl) rfl rfl
  · cases e
end Go.Proofs.Ytkoohnpknhoahaa.Sp
namespace Go.Proofs.Ytkoohnpknhoahaa.Sp
open Go Go.Sy
def z32 : List Int := List.replicate 32 0
noncomputable def pmH (a b c X Y W : List Int) : List Blk := [.b [.ints .u8 32 a], .b [.ints .u8 32 b], .b [.ints .u8 32 c], .b [.ints .u8 32 z32], .b [.ints .u64 9 W], .b [.ints .u64 4 X], .b [.ints .u64 4 Y]]
def pmT : List (Nat × SV) := [(5, .ptr 2 0 0), (6, .ptr 3 0 0), (7, .ptr 4 0 0), (8, .ptr 5 0 0), (9, .ptr 6 0 0)]
def pmK : List Nat := [5, 6, 7, 8, 9]
noncomputable def pmS (a b c X Y : List Int) (i : Int) (W : List Int) : St := ⟨slotsOf 115 (pmT ++ [(27, .int .i64 i)]), pmH a b c X Y W, true⟩
noncomputable def pmI (a b c X Y W Z R : List Int) : List Blk := [.b [.ints .u8 32 a], .b [.ints .u8 32 b], .b [.ints .u8 32 c], .b [.ints .u8 32 z32], .b [.ints .u64 9 W], .b [.ints .u64 4 X], .b [.ints .u64 4 Y], .b [.ints .u64 4 Z], .b [.ints .u64 4 R]]
def pmL : List (Nat × SV) := [(6, .ptr 3 0 0), (7, .ptr 4 0 0), (20, .ptr 8 0 0)]
noncomputable def pmQ (a b c X Y W Z R : List Int) (i : Int) : St := ⟨slotsOf 115 (pmL ++ [(21, .int .i64 i)]), pmI a b c X Y W Z R, true⟩
theorem ctrRow : CtrSound Try.prog (mk [mul64E, add64E] []) := mk_sound _ InlOK.nil _ _
theorem ctrNum : CtrSound Try.prog (mk [numberE] []) := mk_sound _ InlOK.nil _ _
theorem ctrSum : CtrSound Try.prog (mk [numberE, add64E] []) := mk_sound _ InlOK.nil _ _
theorem ctrKey : CtrSound Try.prog (mk [keyE] []) := mk_sound _ InlOK.nil _ _
theorem ctrWord (x : Bool) : CtrSound Try.prog (mk [bitE] [] fun i => if i = 98 then some x else none) := mk_sound _ InlOK.nil _ _
section
variable (a b c X Y W : List Int)
set_option maxRecDepth 100000 in
theorem pm_head : (execL Try.prog (mk [numberE] []) 60 0 4 (atoms (bodyOf Try.f66)) ⟨slots0 Try.f66.ntmps [.agg [.ints .u8 32 a], .agg [.ints .u8 32 b], .agg [.ints .u8 32 c]], [], true⟩).bind (St.cut (pmK ++ [27]) 7) = some (pmS a b c (numF a) (numF b) 0 (List.replicate 9 0)) := by kernel_rfl
set_option maxRecDepth 100000 in
theorem pm_r0 : (exec Try.prog (mk [mul64E, add64E] []) 60 0 pmR (pmS a b c (lst 4 X) (lst 4 Y) 0 (lst 9 W))).bind (fun r => (r.2.cut (pmK ++ [27]) 7).map fun q => (r.1, q)) = some (.normal, pmS a b c (lst 4 X) (lst 4 Y) 1 (rowM 0 (lst 4 X) (lst 4 Y) (lst 9 W))) := by kernel_rfl
set_option maxRecDepth 100000 in
theorem pm_r1 : (exec Try.prog (mk [mul64E, add64E] []) 60 0 pmR (pmS a b c (lst 4 X) (lst 4 Y) 1 (lst 9 W))).bind (fun r => (r.2.cut (pmK ++ [27]) 7).map fun q => (r.1, q)) = some (.normal, pmS a b c (lst 4 X) (lst 4 Y) 2 (rowM 1 (lst 4 X) (lst 4 Y) (lst 9 W))) := by kernel_rfl
set_option maxRecDepth 100000 in
theorem pm_r2 : (exec Try.prog (mk [mul64E, add64E] []) 60 0 pmR (pmS a b c (lst 4 X) (lst 4 Y) 2 (lst 9 W))).bind (fun r => (r.2.cut (pmK ++ [27]) 7).map fun q => (r.1, q)) = some (.normal, pmS a b c (lst 4 X) (lst 4 Y) 3 (rowM 2 (lst 4 X) (lst 4 Y) (lst 9 W))) := by kernel_rfl
set_option maxRecDepth 100000 in
theorem pm_r3 : (exec Try.prog (mk [mul64E, add64E] []) 60 0 pmR (pmS a b c (lst 4 X) (lst 4 Y) 3 (lst 9 W))).bind (fun r => (r.2.cut (pmK ++ [27]) 7).map fun q => (r.1, q)) = some (.normal, pmS a b c (lst 4 X) (lst 4 Y) 4 (rowM 3 (lst 4 X) (lst 4 Y) (lst 9 W))) := by kernel_rfl
set_option maxRecDepth 100000 in
theorem pm_rend : (exec Try.prog (mk [mul64E, add64E] []) 60 0 pmR (pmS a b c X Y 4 W)).bind (fun r => (r.2.cut pmK 7).map fun q => (r.1, q)) = some (.exit 0, ⟨slotsOf 115 pmT, pmH a b c X Y W, true⟩) := by kernel_rfl
end
section
variable (a b c X Y W Z R : List Int)
set_option maxRecDepth 100000 in
theorem pm_sum : (execL Try.prog (mk [numberE, add64E] []) 60 0 6 ((atoms pmA).drop 5) ⟨slotsOf 115 pmT, pmH a b c X Y (lst 9 W), true⟩).bind (St.cut [6, 7, 20, 21] 9) =
    some ⟨(pmQ a b c X Y [] [] [] 8).t, pmI a b c X Y (sumW (lst 9 W) (lst 4 (numF c))) (numF c) (List.replicate 4 0),
      (List.range 8).foldl (fun o i => andT o (carry1 (addCy (lst 9 W) (lst 4 (numF c)) (i + 1)))) true⟩ := by kernel_rfl
def idxO (n : Nat) (i : Int) (o : Bool) : Bool := andT (andT o (inB i n)) (decide (0 + i.toNat < n))
set_option maxRecDepth 100000 in
theorem pm_word (i : Int) : (exec Try.prog (mk [bitE] [] fun i => if i = 98 then some true else none) 200 0 pmB (pmQ a b c X Y W Z R i)).bind (fun r => (r.2.cut [6, 7, 20, 21] 9).map fun q => (r.1, q)) =
    some (.normal, ⟨(pmQ a b c X Y [] [] [] (IntKind.i64.wrap (i - 1))).t, pmI a b c X Y W Z (wordW R (W.getD (0 + i.toNat) 0)), (List.replicate 64 ()).foldl (fun o _ => idxO 9 i o) (andT true (decide (i ≥ 0)))⟩) := by kernel_rfl
set_option maxRecDepth 100000 in
theorem pm_bend (i : Int) : (exec Try.prog (mk [bitE] [] fun i => if i = 98 then some false else none) 200 0 pmB (pmQ a b c X Y W Z R i)).bind (fun r => (r.2.cut [6, 7, 20, 21] 9).map fun q => (r.1, q)) =
    some (.exit 6, ⟨(pmQ a b c X Y [] [] [] i).t, pmI a b c X Y W Z R, andT true (!decide (i ≥ 0))⟩) := by kernel_rfl
end
end Go.Proofs.Ytkoohnpknhoahaa.Sp
namespace Go.Proofs.Ytkoohnpknhoahaa.Sp
open Go Go.Sy
theorem wds_w (v : Int) : AllW (wds v) := fun t => by
  rw [wd_eq]
  have : t = 0 ∨ t = 1 ∨ t = 2 ∨ t = 3 ∨ 4 ≤ t := by omega
  unfold W64
  rcases this with rfl | rfl | rfl | rfl | h
  · simp only [List.getD_cons_zero]; omega
  · simp only [List.getD_cons_zero, List.getD_cons_succ]; omega
  · simp only [List.getD_cons_zero, List.getD_cons_succ]; omega
  · simp only [List.getD_cons_zero, List.getD_cons_succ]; omega
  · rw [List.getD_eq_getElem?_getD, List.getElem?_eq_none (by simp; omega)]; simp
theorem vW_wds {v : Int} (h0 : 0 ≤ v) (h1 : v < 115792089237316195423570985008687907853269984665640564039457584007913129639936) : vW (wds v) 4 = v := by
  have := val4_wds h0 h1
  rw [wd_eq]
  simp only [vW, List.getD_cons_zero, List.getD_cons_succ, Int.reducePow]
  unfold val4 at this
  omega
theorem numF_val {a : List Int} (ha : a.all u8 = true) (la : a.length = 32) : numF a = wds (val256 a) := by
  have := digN_val a ha
  rw [la] at this
  conv => lhs; rw [this]
  rw [numF_dig]
theorem idxO_iff {n : Nat} {i : Int} {o : Bool} (h0 : 0 ≤ i) (h1 : i < n) (ho : o = true) : idxO n i o = true := by
  subst ho; unfold idxO inB; rw [decide_eq_true (by omega), decide_eq_true (by omega), decide_eq_true (by omega)]; rfl
set_option maxRecDepth 100000 in
theorem pm_fn {a b c : List Int} (ha : a.all u8 = true) (hb : b.all u8 = true) (hc : c.all u8 = true) (la : a.length = 32) (lb : b.length = 32) (lc : c.length = 32) :
    FnTr Try.prog 66 [.agg [.ints .u8 32 a], .agg [.ints .u8 32 b], .agg [.ints .u8 32 c]] [] (.agg [.ints .u8 32 (maF a b c)]) [] := by
  have hL := ordL_pos
  have va := val_bound ha la
  have vb := val_bound hb lb
  have vc := val_bound hc lc
  have nX := numF_val ha la
  have nY := numF_val hb lb
  have nZ := numF_val hc lc
  have wX : AllW (numF a) := by rw [nX]; exact wds_w _
  have wY : AllW (numF b) := by rw [nY]; exact wds_w _
  have wZ : AllW (numF c) := by rw [nZ]; exact wds_w _
  generalize hM : rowsM (numF a) (numF b) 4 = M
  have wM : AllW M := by rw [← hM]; exact rowsM_w wX wY 4
  have vM : vW M 9 = val256 a * val256 b := by rw [← hM, rowsM_val wX wY 4 (by omega), nX, nY, vW_wds va.1 va.2, vW_wds vb.1 vb.2]
  have l9 : ∀ i X Y W, (rowM i X Y W).length = 9 := fun i X Y W => by simp [rowM]
  have lR : ∀ i, (rowsM (numF a) (numF b) i).length = 9 := fun i => by cases i with
    | zero => rfl
    | succ i => exact l9 _ _ _ _
  have lX : lst 4 (numF a) = numF a := lst_eq (numF_length a)
  have lY : lst 4 (numF b) = numF b := lst_eq (numF_length b)
  have lZ : lst 4 (numF c) = numF c := lst_eq (numF_length c)
  have lM : lst 9 M = M := lst_eq (by rw [← hM]; exact lR 4)
  have hrows : Tr Try.prog none 0 (nthC 4 (bodyOf Try.f66)) (pmS a b c (numF a) (numF b) 0 (List.replicate 9 0)) .normal ⟨slotsOf 115 pmT, pmH a b c (numF a) (numF b) M, true⟩ := by
    refine Tr.loop 0 (by kernel_rfl) (fun i : Nat => pmS a b c (numF a) (numF b) i (rowsM (numF a) (numF b) i)) 4 (fun i hi => ?_) ?_
    · have hi4 : i = 0 ∨ i = 1 ∨ i = 2 ∨ i = 3 := by omega
      rcases hi4 with rfl | rfl | rfl | rfl
      · have k := pm_r0 a b c (numF a) (numF b) (rowsM (numF a) (numF b) 0)
        rw [lX, lY, lst_eq (lR 0)] at k
        exact Tr.cut ctrRow 60 _ 7 (by omega) k rfl
      · have k := pm_r1 a b c (numF a) (numF b) (rowsM (numF a) (numF b) 1)
        rw [lX, lY, lst_eq (lR 1)] at k
        exact Tr.cut ctrRow 60 _ 7 (by omega) k rfl
      · have k := pm_r2 a b c (numF a) (numF b) (rowsM (numF a) (numF b) 2)
        rw [lX, lY, lst_eq (lR 2)] at k
        exact Tr.cut ctrRow 60 _ 7 (by omega) k rfl
      · have k := pm_r3 a b c (numF a) (numF b) (rowsM (numF a) (numF b) 3)
        rw [lX, lY, lst_eq (lR 3)] at k
        exact Tr.cut ctrRow 60 _ 7 (by omega) k rfl
    · have k := pm_rend a b c (numF a) (numF b) M
      rw [← hM] at k ⊢
      exact Tr.cut ctrRow 60 _ 7 (by omega) k rfl
  have ks := pm_sum a b c (numF a) (numF b) M
  rw [lM, lZ] at ks
  generalize hS : sumW M (numF c) = S at ks
  have wS : AllW S := by rw [← hS]; exact sumW_w wM wZ
  have lS : S.length = 9 := by rw [← hS]; simp [sumW]
  have vZ9 : vW (numF c) 9 = val256 c := by
    have z : ∀ t, 4 ≤ t → (numF c).getD t 0 = 0 := fun t ht => by
      rw [List.getD_eq_getElem?_getD, List.getElem?_eq_none (by rw [numF_length]; exact ht)]; rfl
    have e4 := vW_wds vc.1 vc.2
    rw [← nZ] at e4
    rw [← e4]
    simp only [vW, z 4 (by omega), z 5 (by omega), z 6 (by omega), z 7 (by omega), z 8 (by omega)]
    omega
  have hprod : val256 a * val256 b ≤ 115792089237316195423570985008687907853269984665640564039457584007913129639935 * 115792089237316195423570985008687907853269984665640564039457584007913129639935 := Int.mul_le_mul (by omega) (by omega) vb.1 (by omega)
  have vS : vW S 9 = val256 a * val256 b + val256 c := by
    have e := sumW_val wM wZ 9 (by omega)
    rw [hS, vM, vZ9] at e
    have hb := addCy_b wM wZ 9
    have hlow := (vW_bound wS 9).1
    simp only [Int.reducePow] at e
    omega
  have hobs : (List.range 8).foldl (fun o i => andT o (carry1 (addCy M (numF c) (i + 1)))) true = true := by
    have h1 : ∀ i, carry1 (addCy M (numF c) i) = true := fun i => by
      have := addCy_b wM wZ i
      unfold carry1
      rw [decide_eq_true (by omega)]
    simp only [h1]
    rfl
  rw [hobs] at ks
  have hbits : Tr Try.prog none 0 (nthC 11 (bodyOf Try.f66)) (pmQ a b c (numF a) (numF b) S (numF c) [0, 0, 0, 0] 8) .normal (pmQ a b c (numF a) (numF b) S (numF c) (redwW S 9) (-1)) := by
    have lq : ∀ j, (redwW S j).length = 4 := fun j => by rw [redwW_eq wS]; rfl
    have key := Tr.loop (P := Try.prog) (ro := none) (k := 0) 6 (c := nthC 11 (bodyOf Try.f66)) (by kernel_rfl) (fun j : Nat => pmQ a b c (numF a) (numF b) S (numF c) (redwW S j) (8 - j)) 9 (s' := pmQ a b c (numF a) (numF b) S (numF c) (redwW S 9) (-1)) (fun j hj => ?_) ?_
    · exact key
    · have k := pm_word a b c (numF a) (numF b) S (numF c) (redwW S j) (8 - j)
      rw [IntWalk.i64_in _ (by omega), show 0 + ((8 : Int) - j).toNat = 8 - j by omega] at k
      have e1 : (8 : Int) - j - 1 = 8 - ((j + 1 : Nat) : Int) := by omega
      rw [e1] at k
      refine Tr.post (Tr.cut (ctrWord true) 200 _ 9 (by omega) k ?_) (Ent.same rfl ?_)
      · have hi : ∀ o, o = true → idxO 9 (8 - (j : Int)) o = true := fun o ho => idxO_iff (by omega) (by omega) ho
        have hf : ∀ (l : List Unit) (o : Bool), o = true → l.foldl (fun o _ => idxO 9 (8 - (j : Int)) o) o = true := by
          intro l
          induction l with
          | nil => exact fun o ho => ho
          | cons u l ih => exact fun o ho => ih _ (hi o ho)
        exact hf _ _ (by rw [decide_eq_true (by omega)]; rfl)
      · show pmI _ _ _ _ _ _ _ _ = pmI _ _ _ _ _ _ _ _
        rw [redwW, Lift.lst_eq (lq j)]
    · have k := pm_bend a b c (numF a) (numF b) S (numF c) (redwW S 9) (-1)
      exact Tr.post (Tr.cut (ctrWord false) 200 _ 9 (by omega) k rfl) (Ent.same rfl rfl)
  have hres : keyF (redwW S 9) = maF a b c := by
    have l4 : Lift.lst 4 (redwW S 9) = redwW S 9 := Lift.lst_eq (by rw [redwW_eq wS]; rfl)
    rw [← l4, redwW_eq wS, topW_nine, vS, key_wds (Int.emod_nonneg _ (by omega)) (by have := Int.emod_lt_of_pos (val256 a * val256 b + val256 c) hL.1; omega), maF, Lift.Lock_eq, dig32_digN]
  rw [← hres]
  refine FnTr.restM ctrKey 60 12 0 Try.func66 (by simp) rfl (fun s' x h => ?_) (s := pmQ a b c (numF a) (numF b) S (numF c) (redwW S 9) (-1)) (p := true) (by kernel_rfl) rfl rfl rfl
  refine TrL.items ctrNum 60 4 _ 7 (by simp) (pm_head a b c) rfl (by decide) ?_
  refine TrL.item 4 (by decide) hrows ?_
  refine TrL.items ctrSum 60 6 _ 9 (by simp) ks rfl (by decide) ?_
  rw [List.drop_drop]
  exact TrL.item 11 (by decide) (Tr.pre hbits (Ent.same rfl rfl)) h
noncomputable def maPF : List SV → Option (SV × List Blk × Bool)
  | [.agg [.ints .u8 32 a], .agg [.ints .u8 32 b], .agg [.ints .u8 32 c]] => some (.agg [.ints .u8 32 (maF a b c)], [], keyOK a && keyOK b && keyOK c)
  | _ => none
noncomputable def mulAddE : Entry Try.prog := .val 66 _ Try.func66 (by decide) rfl false 0 maPF fun vs v new e => by
  unfold maPF at e
  split at e
  · rename_i a b c
    simp only [Option.some.injEq, Prod.mk.injEq, Bool.and_eq_true, keyOK_iff] at e
    obtain ⟨rfl, rfl, ⟨ha, hb⟩, hc⟩ := e
    exact pm_fn ha.2 hb.2 hc.2 ha.1 hb.1 hc.1
  · cases e
end Go.Proofs.Ytkoohnpknhoahaa.Sp
