/- This file holds the texts BxA, BxB, a section each. No conditions beyond those in the theorems. -/
import Derived.Test.YtibfpjeeanppjaaGreatXLaF
import Derived.Test.YtibfpjeeanppjaaGreatXKdD
import Derived.Test.YtibfpjeeanppjaaGreatXAeF
import Derived.Test.YtibfpjeeanppjaaGreatXKdG
import Derived.Test.YtibfpjeeanppjaaGreatXR4L
set_option linter.all false
set_option maxRecDepth 100000
section
namespace Go.Proofs.YtibfpjeeanppjaaGreat.Bx
open Go Go.Sy Sh La
noncomputable def SX : List SV → Option (SV × List Blk × Bool)
  | [.nl (.slice none 0 0), .ro false .u8 m] => some (.agg [.ints .u8 32 (Kd.bP [] m)], [], decide (m.length < 274877890000))
  | _ => none
noncomputable def ZH : Entry Tryz.prog := .val 70 _ Tryz.func70 (by decide) rfl true 0 SX fun vs v new e => by
  unfold SX at e
  split at e
  · rename_i m
    simp only [Option.some.injEq, Prod.mk.injEq, decide_eq_true_eq] at e
    obtain ⟨rfl, rfl, h⟩ := e
    have hm : [m].flatten = m := by simp
    have k := aG Kd.I3 60 Tryz.func70 (Kd.sL [] m) (by rw [hm, decide_eq_true h]; rfl) rfl
    rw [hm] at k
    exact ai.conv k ⟨VE.rE _ _, VE.refl _, trivial⟩ trivial (VE.refl _) trivial
  · cases e
noncomputable def kyC (b : Bool) : br := mk (P := Tryz.prog) [I4 b, S2.mM, ZH, Kd.U4, Sh.iO] [] fun i => if i = 23 then some b else none
theorem I5 (b : Bool) : ag Tryz.prog (kyC b) := ah _ aq.nil _ _
def GV : List Int := [98, 111, 120]
noncomputable def OG (d p info : List Int) : List Int := [d, p, S2.aj [info].flatten].flatten
noncomputable def ZI (s o d p info : List Int) : List Int := Kd.kZ (Kd.bP [] (gr s o)) GV (OG d p info) 32
noncomputable def I6 (s o d p info : List Int) : List Int := gH (ZI s o d p info)
theorem Ey (s o d p info : List Int) : (ZI s o d p info).length = 32 := Kd.oX _ _ _ _
noncomputable def kyO (s o d p info : List Int) : Bool :=
  aa (aa (aa (aa (aa (aa (aa true (aa true (Re.ak s && Re.ak o && !oY s o))) (aa true (decide ([info].flatten.length < 274877900000) && true))) (aa (aa true (aa (decide ((gr s o).length = 32) && true) (decide ((gr s o).length = 32)))) (decide ((gr s o).length < 274877890000))))
    (aa (aa true (aa (aa true (decide ((S2.aj [info].flatten).length = 32) && true)) (decide ((S2.aj [info].flatten).length = 32)))) (decide ((OG d p info).length ≤ 274877906944) && true))) (aa true (decide ((Kd.bP [] (gr s o)).length = 32) && true && decide ((OG d p info).length ≤ 65536) && true && true)))
    (decide (31 + 1 ≤ (ZI s o d p info).length))) (true && decide (0 + 32 ≤ (ZI s o d p info).length))
theorem I7 {s o d p info : List Int} (hs : Re.ak s = true) (ho : Re.ak o = true) (hz : oY s o = false) (hd : d.length = 32) (hp : p.length = 32) (hi : info.length < 274877900000) : kyO s o d p info = true := by
  have hf : [info].flatten.length = info.length := by simp
  have hc : (OG d p info).length = 96 := by simp [OG, hd, hp, S2.bz]
  unfold kyO
  rw [hs, ho, hz, hf, hc, Ey, jz, S2.bz, Kd.eG, decide_eq_true hi]
  rfl
theorem OH (s o d p info : List Int) : (bp Tryz.prog (kyC false) 60 Tryz.f38 [.agg [.ints .u8 32 s], .agg [.ints .u8 32 o], .agg [.ints .u8 32 (aH 32 d)], .agg [.ints .u8 32 (aH 32 p)], .ro false .u8 info] []).map (fun x => (x.1, x.2.2)) =
    some (.aQ [.agg [.ints .u8 32 (((ZI s o (aH 32 d) (aH 32 p) info).drop 0).take 32)], .nl .nilIface], kyO s o (aH 32 d) (aH 32 p) info) := by kernel_rfl
theorem OI (s o d p info : List Int) : (bp Tryz.prog (kyC true) 60 Tryz.f38 [.agg [.ints .u8 32 s], .agg [.ints .u8 32 o], .agg [.ints .u8 32 d], .agg [.ints .u8 32 p], .ro false .u8 info] []).map (fun x => (x.1, x.2.2)) =
    some (.aQ [.agg [.ints .u8 32 gA], rF], aa true (aa true (Re.ak s && Re.ak o && oY s o))) := by kernel_rfl
noncomputable def ZJ (b : Bool) : List SV → Option (SV × List Blk × Bool)
  | [.agg [.ints .u8 32 s], .agg [.ints .u8 32 o], .agg [.ints .u8 32 d], .agg [.ints .u8 32 p], .ro false .u8 info] => match b with
    | true => some (.aQ [.agg [.ints .u8 32 gA], rF], [], Re.ak s && Re.ak o && oY s o)
    | false => some (.aQ [.agg [.ints .u8 32 (I6 s o d p info)], .nl .nilIface], [], Re.ak s && Re.ak o && !oY s o && decide (d.length = 32) && decide (p.length = 32) && decide (info.length < 274877900000))
  | _ => none
noncomputable def ZK (b : Bool) : Entry Tryz.prog := .val 38 _ Tryz.func38 (by decide) rfl true 0 (ZJ b) fun vs v new e => by
  unfold ZJ at e
  split at e
  · rename_i s o d p info
    split at e
    · simp only [Option.some.injEq, Prod.mk.injEq] at e
      obtain ⟨rfl, rfl, h⟩ := e
      exact aG (I5 true) 60 Tryz.func38 (OI s o d p info) (by rw [h]; rfl) rfl
    · simp only [Option.some.injEq, Prod.mk.injEq, Bool.and_eq_true, decide_eq_true_eq, Bool.not_eq_true'] at e
      obtain ⟨rfl, rfl, ⟨⟨⟨⟨hs, ho⟩, hz⟩, hd⟩, hp⟩, hi⟩ := e
      have k := aG (I5 false) 60 Tryz.func38 (OH s o d p info) (by rw [aF hd, aF hp]; exact I7 hs ho hz hd hp hi) rfl
      rw [aF hd, aF hp, List.drop_zero, List.take_of_length_le (by rw [Ey]; omega)] at k
      rw [I6, aC]
      exact k
  · cases e
noncomputable def bsC (b : Bool) (x : Bool) : br := mk (P := Tryz.prog) [Ez, ZK b, Ae.SP, Ae.uL, Sh.iO] [] fun i => if i = 17 || i = 21 then some x else if i = 35 then some b else none
theorem U5 (b x : Bool) : ag Tryz.prog (bsC b x) := ah _ aq.nil _ _
noncomputable def OJ (p d info text : List Int) : List (List Int) := [aK d 9, Ae.fG (I6 d p (aK d 9) p info) (Ae.aD 0) info text]
noncomputable def I8 (p d info text : List Int) : List Int := aK d 9 ++ Ae.fG (I6 d p (aK d 9) p info) (Ae.aD 0) info text
theorem EA (p d info text : List Int) : (OJ p d info text).flatten = I8 p d info text := by simp [OJ, I8]
theorem I9 (p d info text : List Int) : (I8 p d info text).length = text.length + 48 := by unfold I8; rw [List.length_append, cI, Ae.fH]; omega
noncomputable def bsO (p d info text : List Int) : Bool :=
  aa (aa (aa (aa (aa (aa true (!decide ((info.length : Int) > 65536))) (!decide ((text.length : Int) > 65536))) (aa true (Re.ak d)))
    (aa true (Re.ak d && Re.ak p && !oY d p && decide ((aK d 9).length = 32) && decide (p.length = 32) && decide (info.length < 274877900000)))) (aa true (true && decide (info.length ≤ 1048576) && decide (text.length ≤ 1048576))))
    (aa (aa true (aa (aa true (decide ((aK d 9).length = 32) && true)) (decide ((aK d 9).length = 32)))) (decide ((OJ p d info text).flatten.length ≤ 274877906944) && true))
theorem U6 (p d info text : List Int) : (bp Tryz.prog (bsC false false) 60 Tryz.f12 [.agg [.ints .u8 32 p], .agg [.ints .u8 32 d], .ro false .u8 info, .ro false .u8 text] []).map (fun x => (x.1, x.2.2)) =
    some (.aQ [.ro true .u8 (OJ p d info text).flatten, .nl .nilIface], bsO p d info text) := by kernel_rfl
theorem ais {p d info text : List Int} (hd : Re.ak d = true) (hp : Re.ak p = true) (hz : oY d p = false) (hi : info.length ≤ 65536) (ht : text.length ≤ 65536) : ai Tryz.prog 12 [.agg [.ints .u8 32 p], .agg [.ints .u8 32 d], .ro false .u8 info, .ro false .u8 text] [] (.aQ [.ro true .u8 (I8 p d info text), .nl .nilIface]) [] := by
  have k := aG (U5 false false) 60 Tryz.func12 (U6 p d info text) (by
    unfold bsO
    rw [EA, I9, hd, hp, hz, cI, (Re.bK.1 hp).1, decide_eq_false (show ¬ (info.length : Int) > 65536 by omega), decide_eq_false (show ¬ (text.length : Int) > 65536 by omega), decide_eq_true (show info.length < 274877900000 by omega), decide_eq_true (show info.length ≤ 1048576 by omega), decide_eq_true (show text.length ≤ 1048576 by omega), decide_eq_true (show text.length + 48 ≤ 274877906944 by omega)]
    rfl) rfl
  rw [EA] at k
  exact k
noncomputable def boC (b c : Bool) : br := mk (P := Tryz.prog) [ZK b, Ae.Ew c, Ae.uL] [] fun i => if i = 14 || i = 19 || i = 23 then some false else if i = 41 then some b else none
theorem CK (b c : Bool) : ag Tryz.prog (boC b c) := ah _ aq.nil _ _
def xy (x : List Int) : List Int := ((x.take 32).drop 0).take 32
theorem yo (x : List Int) : xy x = x.take 32 := by
  unfold xy
  rw [List.drop_zero, List.take_of_length_le (by rw [List.length_take]; omega)]
def boO (info x : List Int) : Bool := aa (aa (aa (aa (aa (aa true (!decide ((info.length : Int) > 65536))) (!decide ((x.length : Int) < 48))) (!decide ((x.length : Int) > 65584))) (aa true (true && decide ((32 : Int) ≤ x.length)))) (decide (31 + 1 ≤ (x.take 32).length))) (true && decide (0 + 32 ≤ (x.take 32).length))
theorem Av {info x : List Int} (hi : info.length ≤ 65536) (h0 : 48 ≤ x.length) (h1 : x.length ≤ 65584) : boO info x = true := by
  have h : (x.take 32).length = 32 := by rw [List.length_take]; omega
  unfold boO
  rw [h, decide_eq_false (show ¬ (info.length : Int) > 65536 by omega), decide_eq_false (show ¬ (x.length : Int) < 48 by omega), decide_eq_false (show ¬ (x.length : Int) > 65584 by omega), decide_eq_true (show (32 : Int) ≤ x.length by omega)]
  rfl
noncomputable def boP (s p info x : List Int) (o : Bool) : Bool :=
  aa (aa (aa (boO info x) (aa true (Re.ak s && Re.ak (xy x) && !oY s (xy x) && decide ((xy x).length = 32) && decide (p.length = 32) && decide (info.length < 274877900000)))) (aa true (aa true (true && decide ((32 : Int) ≤ x.length)))))
    (aa true (true && decide (info.length ≤ 1048592) && decide ((x.drop 32).length ≤ 1048592) && o))
noncomputable def YR (s p info x : List Int) : List Int := I6 s (xy x) (xy x) p info
section
variable (s p info x : List Int)
theorem Ja : (bp Tryz.prog (boC true false) 60 Tryz.f19 [.agg [.ints .u8 32 s, .ints .u8 32 p], .ro false .u8 info, .ro false .u8 x] []).map (fun x => (x.1, x.2.2)) =
    some (.aQ [.nl (.slice none 0 0), rF], aa (boO info x) (aa true (Re.ak s && Re.ak (xy x) && oY s (xy x)))) := by kernel_rfl
theorem U7 : (bp Tryz.prog (boC false false) 60 Tryz.f19 [.agg [.ints .u8 32 s, .ints .u8 32 p], .ro false .u8 info, .ro false .u8 x] []).map (fun x => (x.1, x.2.2)) =
    some (Ae.xw, boP s p info x (!Ae.bk (YR s p info x) (Ae.aD 0) info (x.drop 32))) := by kernel_rfl
theorem U8 : (bp Tryz.prog (boC false true) 60 Tryz.f19 [.agg [.ints .u8 32 s, .ints .u8 32 p], .ro false .u8 info, .ro false .u8 x] []).map (fun x => (x.1, x.2.2)) =
    some (.aQ [.ro true .u8 (Ae.b9 (YR s p info x) (Ae.aD 0) (x.drop 32)), .nl .nilIface], boP s p info x (Ae.bk (YR s p info x) (Ae.aD 0) info (x.drop 32))) := by kernel_rfl
end
noncomputable def ZL (u : Nat) : List SV → Option (SV × List Blk × Bool)
  | [.agg [.ints .u8 32 s, .ints .u8 32 p], .ro false .u8 info, .ro false .u8 x] => match u with
    | 0 => some (.aQ [.nl (.slice none 0 0), rF], [], decide (info.length ≤ 65536) && decide (48 ≤ x.length) && decide (x.length ≤ 65584) && (Re.ak s && Re.ak (x.take 32) && oY s (x.take 32)))
    | 1 => some (.aQ [.ro true .u8 (Ae.b9 (YR s p info x) (Ae.aD 0) (x.drop 32)), .nl .nilIface], [], decide (info.length ≤ 65536) && decide (48 ≤ x.length) && decide (x.length ≤ 65584) && (Re.ak s && Re.ak p && Re.ak (x.take 32) && !oY s (x.take 32) && Ae.bk (YR s p info x) (Ae.aD 0) info (x.drop 32)))
    | _ => some (Ae.xw, [], decide (info.length ≤ 65536) && decide (48 ≤ x.length) && decide (x.length ≤ 65584) && (Re.ak s && Re.ak p && Re.ak (x.take 32) && !oY s (x.take 32) && !Ae.bk (YR s p info x) (Ae.aD 0) info (x.drop 32)))
  | _ => none
theorem Aw {s p info x : List Int} {o : Bool} (hi : info.length ≤ 65536) (h0 : 48 ≤ x.length) (h1 : x.length ≤ 65584) (hs : Re.ak s = true) (hp : Re.ak p = true) (hx : Re.ak (x.take 32) = true) (hz : oY s (x.take 32) = false) (ho : o = true) : boP s p info x o = true := by
  unfold boP
  rw [yo, Av hi h0 h1, hs, hx, hz, (Re.bK.1 hx).1, (Re.bK.1 hp).1, ho, List.length_drop, decide_eq_true (show info.length < 274877900000 by omega), decide_eq_true (show (32 : Int) ≤ x.length by omega), decide_eq_true (show info.length ≤ 1048592 by omega), decide_eq_true (show x.length - 32 ≤ 1048592 by omega)]
  rfl
noncomputable def Ew (u : Nat) : Entry Tryz.prog := .val 19 _ Tryz.func19 (by decide) rfl true 0 (ZL u) fun vs v new e => by
  unfold ZL at e
  split at e
  · rename_i s p info x
    split at e
    · simp only [Option.some.injEq, Prod.mk.injEq, Bool.and_eq_true, decide_eq_true_eq] at e
      obtain ⟨rfl, rfl, ⟨⟨hi, h0⟩, h1⟩, ⟨hs, hx⟩, hz⟩ := e
      exact aG (CK true false) 60 Tryz.func19 (Ja s p info x) (by rw [Av hi h0 h1, yo, hs, hx, hz]; rfl) rfl
    · simp only [Option.some.injEq, Prod.mk.injEq, Bool.and_eq_true, decide_eq_true_eq, Bool.not_eq_true'] at e
      obtain ⟨rfl, rfl, ⟨⟨hi, h0⟩, h1⟩, ⟨⟨⟨hs, hp⟩, hx⟩, hz⟩, ho⟩ := e
      exact aG (CK false true) 60 Tryz.func19 (U8 s p info x) (Aw hi h0 h1 hs hp hx hz ho) rfl
    · simp only [Option.some.injEq, Prod.mk.injEq, Bool.and_eq_true, decide_eq_true_eq, Bool.not_eq_true'] at e
      obtain ⟨rfl, rfl, ⟨⟨hi, h0⟩, h1⟩, ⟨⟨⟨hs, hp⟩, hx⟩, hz⟩, ho⟩ := e
      exact aG (CK false false) 60 Tryz.func19 (U7 s p info x) (Aw hi h0 h1 hs hp hx hz (by rw [ho]; rfl)) rfl
  · cases e
end Go.Proofs.YtibfpjeeanppjaaGreat.Bx
end
section
namespace Go.Proofs.YtibfpjeeanppjaaGreat.Bx
open Go Go.Sy Sh La
noncomputable def EB : List SV → Option (SV × List Blk × Bool)
  | [.ro false .u8 xs] => some (.agg [.ints .u8 32 (S2.aj xs)], [], bU xs && decide (xs.length < 274877900000))
  | _ => none
noncomputable def yp : Entry Tryz.prog := .val 78 _ Tryz.func78 (by decide) rfl true 0 EB fun vs v new e => by
  unfold EB at e
  split at e
  · simp only [Option.some.injEq, Prod.mk.injEq, Bool.and_eq_true, decide_eq_true_eq] at e
    obtain ⟨rfl, rfl, h1, h2⟩ := e
    rw [Q2.jX (Q2.Jb h1) h2]
    exact Q2.uN h2
  · cases e
noncomputable def SY : List SV → Option (SV × List Blk × Bool)
  | [.agg [.ints .u8 32 sec], .str lb, .ro false .u8 ctx, .int .i64 n] => some (.aQ [.ro true .u8 (aH 32 (Kd.kZ sec GV ctx 32)), .bool true], [], decide (lb = GV) && decide (n = 32) && decide (sec.length = 32) && bU ctx && decide (ctx.length ≤ 65536))
  | _ => none
noncomputable def ZM : Entry Tryz.prog := .val 79 _ Tryz.func79 (by decide) rfl true 0 SY fun vs v new e => by
  unfold SY at e
  split at e
  · simp only [Option.some.injEq, Prod.mk.injEq, Bool.and_eq_true, decide_eq_true_eq] at e
    obtain ⟨rfl, rfl, ⟨⟨⟨rfl, rfl⟩, h1⟩, h2⟩, h3⟩ := e
    rw [aF (Kd.oX _ _ _ _)]
    exact Q2.GW h1 h2 h3
  · cases e
noncomputable def rkC : br := mk (P := Tryz.prog) [yp, Q2.ZN, ZM] [] fun i => if i = 19 || i = 21 || i = 23 then some true else none
theorem U9 : ag Tryz.prog rkC := ah _ aq.nil _ _
noncomputable def N1 (d p info : List Int) : List Int := d ++ p ++ S2.aj info
theorem Va (d p info : List Int) : N1 d p info = OG d p info := by simp [N1, OG]
noncomputable def rkO (c d p info : List Int) : Bool :=
  aa (aa (aa (aa true (aa true (bU info && decide (info.length < 274877900000)))) (decide ((S2.aj info).length = 32) && true)) (aa true (bU c && true)))
    (aa (aa true (aa true (aa (decide ((N1 d p info).length = 0 + 32 + 32 + 32) && true) (decide ((N1 d p info).length = 0 + 32 + 32 + 32))))) (true && decide ((Kd.bP [] c).length = 32) && bU (N1 d p info) && decide ((N1 d p info).length ≤ 65536)))
theorem Vb (c d p info : List Int) : (bp Tryz.prog rkC 200 Tryz.f44 [.agg [.ints .u8 32 (aH 32 c)], .agg [.ints .u8 32 (aH 32 d)], .agg [.ints .u8 32 (aH 32 p)], .ro false .u8 info] []).map (fun x => (x.1, x.2.2)) =
    some (.agg [.ints .u8 32 (aH 32 (Kd.kZ (Kd.bP [] (aH 32 c)) GV (N1 (aH 32 d) (aH 32 p) info) 32))], rkO (aH 32 c) (aH 32 d) (aH 32 p) info) := by kernel_rfl
theorem tJ {a b : List Int} (ha : bU a = true) (hb : bU b = true) : bU (a ++ b) = true := by
  unfold bU at *
  rw [List.all_append, ha, hb]; rfl
theorem ld {l : List Int} (h : ∀ x ∈ l, 0 ≤ x ∧ x < 256) : bU l = true := by
  unfold bU
  rw [List.all_eq_true]
  intro x hx
  simpa using h x hx
theorem rG {l : List Int} (h : Re.ak l = true) : bU l = true := ld fun x hx => Fe.mN.1 (List.all_eq_true.1 (Re.bK.1 h).2 x hx)
theorem OK {c d p info : List Int} (hc : Re.ak c = true) (hd : Re.ak d = true) (hp : Re.ak p = true) (hi : bU info = true) (hl : info.length < 274877900000) : ai Tryz.prog 44 [.agg [.ints .u8 32 c], .agg [.ints .u8 32 d], .agg [.ints .u8 32 p], .ro false .u8 info] [] (.agg [.ints .u8 32 (Kd.kZ (Kd.bP [] c) GV (OG d p info) 32)]) [] := by
  have k := aG U9 200 Tryz.func44 (Vb c d p info) (by
    have h1 := (Re.bK.1 hd).1
    have h2 := (Re.bK.1 hp).1
    rw [aF (Re.bK.1 hc).1, aF h1, aF h2]
    have hlen : (N1 d p info).length = 96 := by rw [N1, List.length_append, List.length_append, h1, h2, S2.bz]
    have hu : bU (N1 d p info) = true := tJ (tJ (rG hd) (rG hp)) (ld (S2.jY _))
    unfold rkO
    rw [hlen, hu, hi, rG hc, S2.bz, Kd.eG, decide_eq_true hl]
    rfl) rfl
  rw [aF (Re.bK.1 hc).1, aF (Re.bK.1 hd).1, aF (Re.bK.1 hp).1, aF (Kd.oX _ _ _ _), Va] at k
  exact k
noncomputable def afh (c d p info : List Int) : List Int := Kd.kZ (Kd.bP [] c) GV (OG d p info) 32
noncomputable def SZ : List SV → Option (SV × List Blk × Bool)
  | [.agg [.ints .u8 32 c], .agg [.ints .u8 32 d], .agg [.ints .u8 32 p], .ro false .u8 info] => some (.agg [.ints .u8 32 (afh c d p info)], [], Re.ak c && Re.ak d && Re.ak p && bU info && decide (info.length < 274877900000))
  | _ => none
noncomputable def ZO : Entry Tryz.prog := .val 44 _ Tryz.func44 (by decide) rfl true 0 SZ fun vs v new e => by
  unfold SZ at e
  split at e
  · simp only [Option.some.injEq, Prod.mk.injEq, Bool.and_eq_true, decide_eq_true_eq] at e
    obtain ⟨rfl, rfl, ⟨⟨⟨h1, h2⟩, h3⟩, h4⟩, h5⟩ := e
    exact OK h1 h2 h3 h4 h5
  · cases e
end Go.Proofs.YtibfpjeeanppjaaGreat.Bx
end
