/- This file carries contracts over from the first interpreter (pure functions of plain values), and gives those of Mul64, Residue, and of the reference's MulAdd and Bits. Conditions: bytes within their kind. -/
import Derived.Test.YtailgcdcdhhpnaaSpA
import Derived.Test.YtailgcdcdhhpnaaLiftH
import Derived.Below
namespace Go.Sy
open Go
/-- A call that leaves what was there alone and returns plain data. -/
theorem FnTr.of_below {P : Program} {f : FuncId} {us : List SV} {v : SV} {ps : List Value → Prop} {q : Value → Prop} (ha : ∀ e args, LR e us args → ps args) (hv : ∀ e v', q v' → VR e v v')
    (g : ∀ (w : World) (args : List Value), ps args → Calls P f ⟨args⟩ w fun en w' => ∃ v', en = .returned v' ∧ q v' ∧ Go.RowKit.Below w.heap.size w w') : FnTr P f us [] v [] := by
  intro B e w args hB hl R
  refine (g w args (ha e args hl)).mono ?_
  rintro en w' ⟨v', rfl, hq, b⟩
  have hk : B.k = 0 := by simpa using hB
  have hr : ∀ i p, e.r i ≠ some p := fun i p hi => by have := R.dom i p hi; simp at this
  have keep : ∀ n, n < w.heap.size → w'.heap[n]? = w.heap[n]? := b.block
  exact ⟨v', rfl, e, rfl, hv e v' hq, { R with
    os := b.os.trans R.os, tape := b.tape.trans R.tape, output := b.output.trans R.output, size := Nat.le_trans R.size b.size
    zok := fun n c ty fr hx => by rw [keep n (R.zlt hx)]; exact R.zok n c ty fr hx
    blk := fun i ps hi => by simp at hi
    gap := fun i hi => by simp at hi
    old := fun n hn hno => by rw [keep n (by have := R.size; omega)]; exact R.old n hn hno
    win := fun i p hi => absurd (R.keepr i p hi) (hr i p)
    mks := fun r hr => by
      have hm := R.mks r hr
      rw [keep r (Array.getElem?_eq_some_iff.1 hm).1]; exact hm }⟩
end Go.Sy

namespace Go.Proofs.Ytailgcdcdhhpnaa.Sp
open Go Go.Sy

/-- A pure function's call, by the first interpreter. -/
theorem lift_pure {f : FuncId} {fn : Func} (hf : Try.prog.funcs[f]? = some fn) {args : List Value} {v : Value} {h1 : List Lift.Blk} (e : Lift.FnTr Try.prog fn args [] v h1) (ha : Lift.plainL args = true) (hv : Lift.plain v = true) (w : World) :
    Calls Try.prog f ⟨args⟩ w fun en w' => en = .returned v ∧ Go.RowKit.Below w.heap.size w w' := by
  refine (Lift.FnTr.calls hf e (Lift.LR.plain args ha) (Lift.Rel.none w)).mono ?_
  rintro x w' ⟨v', rfl, r', he, hvr, R'⟩
  have := Lift.VR.eq_of_plain v v' hv hvr
  subst this
  exact ⟨rfl, R'.os, R'.tape, R'.output, R'.size, fun n hn => R'.old n hn fun i p hi hp _ => by omega⟩

/-! ### The reference's MulAdd -/
theorem agg_args {e : Env} {k : IntKind} {n : Nat} {l : List Int} {y : Value} (hl : l.length = n) (h : VR e (.agg [.ints k n l]) y) : y = Lift.aggI k l := by
  obtain ⟨ys, ⟨zs, hz, rfl⟩, rfl⟩ := h
  rw [PR] at hz
  subst hz
  rw [lst_eq hl, List.append_nil]
  rfl
theorem agg_VR {e : Env} {k : IntKind} {n : Nat} {l : List Int} (hl : l.length = n) : VR e (.agg [.ints k n l]) (Lift.aggI k l) :=
  ⟨intsV k l, ⟨[], rfl, by rw [lst_eq hl, List.append_nil]⟩, rfl⟩

def keyOK (l : List Int) : Bool := decide (l.length = 32) && l.all u8
theorem keyOK_iff {l : List Int} : keyOK l = true ↔ l.length = 32 ∧ l.all u8 = true := by simp [keyOK]

noncomputable def refMaF : List SV → Option (SV × List Blk × Bool)
  | [.agg [.ints .u8 32 a], .agg [.ints .u8 32 b], .agg [.ints .u8 32 c]] => some (.agg [.ints .u8 32 (maF a b c)], [], keyOK a && keyOK b && keyOK c)
  | _ => none
noncomputable def refMulAddE : Entry Try.prog := .val 14 _ Try.func14 (by decide) rfl false 0 refMaF fun vs v new e => by
  unfold refMaF at e
  split at e
  · rename_i a b c
    simp only [Option.some.injEq, Prod.mk.injEq, Bool.and_eq_true, keyOK_iff] at e
    obtain ⟨rfl, rfl, ⟨ha, hb⟩, hc⟩ := e
    obtain ⟨h1, hg⟩ := ma_fn ha.2 hb.2 hc.2 ha.1 hb.1 hc.1
    rw [Lift.lst_eq ha.1, Lift.lst_eq hb.1, Lift.lst_eq hc.1, Lift.lst_eq (maF_length a b c)] at hg
    refine FnTr.of_below (ps := fun args => args = [Lift.aggI .u8 a, Lift.aggI .u8 b, Lift.aggI .u8 c]) (q := fun v' => v' = Lift.aggI .u8 (maF a b c)) (fun e args hl => ?_) (fun e v' hv => ?_) (fun w args hargs => ?_)
    · obtain ⟨x, _, hx, ⟨y, _, hy, ⟨z, _, hz, hn, rfl⟩, rfl⟩, rfl⟩ := hl
      rw [LR] at hn; subst hn
      rw [agg_args ha.1 hx, agg_args hb.1 hy, agg_args hc.1 hz]
    · subst hv; exact agg_VR (maF_length a b c)
    · subst hargs
      exact (lift_pure Try.func14 hg (by simp [Lift.plainL, Lift.plain_aggI]) (Lift.plain_aggI _ _) w).mono fun _ _ ⟨h1, h2⟩ => ⟨_, h1, rfl, h2⟩
  · cases e

/-! ### The reference's Bits -/
noncomputable def refBitsF : List SV → Option (SV × List Blk × Bool)
  | [.ro _ .u8 l] => some (.agg [.ints .u8 32 (redF l)], [], l.all u8 && (decide (0 < l.length) && decide (l.length ≤ 1099511627776)))
  | _ => none
noncomputable def refBitsE : Entry Try.prog := .val 11 _ Try.func11 (by decide) rfl true 0 refBitsF fun vs v new e => by
  unfold refBitsF at e
  split at e
  · rename_i f l
    simp only [Option.some.injEq, Prod.mk.injEq, Bool.and_eq_true, decide_eq_true_eq] at e
    obtain ⟨rfl, rfl, hl, h0, hn⟩ := e
    intro B e w args hB hla R
    obtain ⟨y, _, hy, hnil, rfl⟩ := hla
    rw [LR] at hnil; subst hnil
    rcases hy with ⟨rfl, _⟩ | ⟨n, o, cap, c, t, fr, rfl, hz, _, hc, hlc, hoc⟩
    · simp at h0
    · obtain ⟨h1, hg⟩ := bits_fn l cap hl hn
      rw [Lift.lst_eq (redF_length l)] at hg
      have hb := R.zok n c t fr hz
      have hla : Lift.LR (Lift.lk [⟨n, o, true⟩]) [sliceArg 0 l.length cap] [.slice (some ⟨n, o, none⟩) l.length cap] := ⟨_, [], ⟨⟨n, o, true⟩, rfl, rfl⟩, rfl, rfl⟩
      have hro : ∀ (i : Nat) (p : Lift.Pl), [(⟨n, o, true⟩ : Lift.Pl)][i]? = some p → p.ro = true := fun i p hp => by
        have h1 := (List.getElem?_eq_some_iff.1 hp).1
        simp at h1
        subst h1
        simp at hp
        subst hp
        rfl
      have R1 := Lift.Rel.one (w := w) (a := ⟨n, o, none⟩) (k := .u8) (l := l) hb hc
      have hcall := Lift.FnTr.calls Try.func11 hg hla R1
      refine hcall.mono ?_
      rintro x w' ⟨v', rfl, r', he, hvr, R'⟩
      have := Lift.VR.eq_of_plain _ v' (Lift.plain_aggI _ _) hvr
      subst this
      have keep : ∀ k, k < w.heap.size → w'.heap[k]? = w.heap[k]? := fun k hk => R'.old k hk fun i p hi hp _ => by
        have h0 : i = 0 := by simpa using hi
        subst h0
        have := he 0 ⟨n, o, true⟩ rfl
        rw [hp] at this; cases this; rfl
      have hk : B.k = 0 := by simpa using hB
      have hr : ∀ i p, e.r i ≠ some p := fun i p hi => by have := R.dom i p hi; simp at this
      exact ⟨_, rfl, e, rfl, agg_VR (redF_length l), { R with
        os := R'.os.trans R.os, tape := R'.tape.trans R.tape, output := R'.output.trans R.output, size := Nat.le_trans R.size R'.size
        zok := fun n c ty fr hx => by rw [keep n (R.zlt hx)]; exact R.zok n c ty fr hx
        blk := fun i ps hi => by simp at hi
        gap := fun i hi => by simp at hi
        old := fun n hn hno => by rw [keep n (by have := R.size; omega)]; exact R.old n hn hno
        win := fun i p hi => absurd (R.keepr i p hi) (hr i p)
        mks := fun r hr => by
          have hm := R.mks r hr
          rw [keep r (Array.getElem?_eq_some_iff.1 hm).1]; exact hm }⟩
  · cases e

/-! ### Mul64, Residue -/
noncomputable def mul64F : List SV → Option (SV × List Blk × Bool)
  | [.int .u64 x, .int .u64 y] => some (.tup [.int .u64 (mulH x y), .int .u64 (mulL x y)], [], true)
  | _ => none
set_option maxRecDepth 100000 in
noncomputable def mul64E : Entry Try.prog := .val 35 _ Try.func35 (by decide) rfl false 0 mul64F fun vs v new e => by
  unfold mul64F at e
  split at e
  · rename_i x y
    cases e
    rw [mulH, mulL, Lift.Lock_eq, Lift.Lock_eq]
    exact call0 ctr0 60 Try.func35 (p := true) (by kernel_rfl) rfl rfl
  · cases e

noncomputable def residueF : List SV → Option (SV × List Blk × Bool)
  | [.agg [.ints .u8 32 l]] => some (.bool (lessB (numF l) == 1), [], true)
  | _ => none
theorem ctrRes : CtrSound Try.prog (mk [minusE, numberE] []) := mk_sound _ InlOK.nil _ _
set_option maxRecDepth 100000 in
noncomputable def residueE : Entry Try.prog := .val 12 _ Try.func12 (by decide) rfl false 0 residueF fun vs v new e => by
  unfold residueF at e
  split at e
  · rename_i l
    cases e
    exact call0 ctrRes 60 Try.func12 (p := true) (by kernel_rfl) rfl rfl
  · cases e
end Go.Proofs.Ytailgcdcdhhpnaa.Sp
