/- This file holds the texts KdE, KdF, a section each. No conditions beyond those in the theorems. -/
import Derived.Test.YtibfpjeeanppjaaGreatXS2F
import Derived.Test.YtibfpjeeanppjaaGreatXKdD
set_option linter.all false
set_option maxRecDepth 100000
section
namespace Go.Proofs.YtibfpjeeanppjaaGreat.Q2
open Go Go.Sy Sh
noncomputable def tqC : br := mk (P := Tryz.prog) [JI] [] fun i => if i = 16 then some false else none
theorem JJ : ag Tryz.prog tqC := ah _ aq.nil _ _
def o6 (key : List Int) (c : Int) : List Int := (List.range 32).map (fun i => cj .u8 (key.getD i 0) c) ++ List.replicate 32 (cj .u8 0 c)
def qf (c : Int) : List Int := List.replicate 64 (cj .u8 0 c)
noncomputable def YV (k36 k5c text : List Int) : List Int := gL (k5c ++ gL (k36 ++ text))
noncomputable def tqO (a b c : List Int) : Bool :=
  aa (aa (aa (aa true (aa true (decide (64 + c.length ≤ 2 ^ 38)))) (aa (aa (decide ((a ++ c).length = 64 + c.length) && (decide (64 + c.length ≤ 64 + c.length) && true)) (decide ((a ++ c).length = 64 + c.length))) (decide ((a ++ c).length < 274877900000)))) (decide ((gL (a ++ c)).length = 32) && true))
    (aa (aa (decide ((b ++ gL (a ++ c)).length = 64 + 32) && true) (decide ((b ++ gL (a ++ c)).length = 64 + 32))) (decide ((b ++ gL (a ++ c)).length < 274877900000)))
theorem C4 (xs : List Int) : (gL xs).length = 32 := by rw [gL, aC]; simp [S2.C5]
theorem qg (key : List Int) (c : Int) : (o6 key c).length = 64 := by simp [o6]
theorem AL {a b c : List Int} (ha : a.length = 64) (hb : b.length = 64) (hc : c.length < 274877890000) : tqO a b c = true := by
  unfold tqO
  rw [List.length_append, List.length_append, C4, ha, hb, decide_eq_true (show 64 + c.length ≤ 2 ^ 38 by omega), decide_eq_true (rfl : 64 + c.length = 64 + c.length), decide_eq_true (show 64 + c.length ≤ 64 + c.length by omega), decide_eq_true (show 64 + c.length < 274877900000 by omega)]
  rfl
set_option maxHeartbeats 0 in
theorem Vy (key text : List Int) : (bp Tryz.prog tqC 300 Tryz.f80 [.ro false .u8 (aH 32 key), .ro false .u8 text] []).map (fun x => (x.1, x.2.2)) = some (.agg [.ints .u8 32 (YV (o6 key 54) (o6 key 92) text)], tqO (o6 key 54) (o6 key 92) text) := by kernel_rfl
end Go.Proofs.YtibfpjeeanppjaaGreat.Q2
end
section
namespace Go.Proofs.YtibfpjeeanppjaaGreat.Q2
open Go Go.Sy Sh
theorem EP (a b : Int) : 0 ≤ cj .u8 a b ∧ cj .u8 a b < 256 := by
  unfold cj jh
  rw [wrap_u8]
  omega
theorem Vz (key : List Int) (c : Int) : Kd.Tc (Kd.EI (Kd.pdK (aH 32 key))) c = o6 (aH 32 key) c := by kernel_rfl
theorem ER {key : List Int} (h : key.length = 32) (c : Int) : Kd.iQ key c = o6 key c := by
  have := Vz key c
  rw [aF h] at this
  rw [Kd.iQ, aC, this]
theorem ES (key : List Int) (c : Int) : By (o6 key c) := by
  intro x hx
  simp only [o6, List.mem_append, List.mem_map, List.mem_replicate] at hx
  rcases hx with ⟨i, _, rfl⟩ | ⟨_, rfl⟩ <;> exact EP _ _
theorem By.app {a b : List Int} (ha : By a) (hb : By b) : By (a ++ b) := fun x hx => (List.mem_append.1 hx).elim (ha x) (hb x)
theorem aay {key text : List Int} (h : key.length = 32) (ht : By text) (hl : text.length < 274877890000) : YV (o6 key 54) (o6 key 92) text = Kd.bP key text := by
  have h1 : By (o6 key 54 ++ text) := (ES _ _).app ht
  have e1 := jX h1 (by rw [List.length_append, qg]; omega)
  have h2 : By (o6 key 92 ++ S2.aj (o6 key 54 ++ text)) := (ES _ _).app (S2.jY _)
  have e2 := jX h2 (by rw [List.length_append, qg, S2.bz]; omega)
  unfold YV
  rw [Kd.bP, aC, ER h, ER h, e2, e1]
theorem Jb {l : List Int} (h : bU l = true) : By l := fun x hx => by
  have := List.all_eq_true.1 h x hx
  simpa using this
theorem Pd {key text : List Int} (h : key.length = 32) (ht : bU text = true) (hl : text.length < 274877890000) : ai Tryz.prog 80 [.ro false .u8 key, .ro false .u8 text] [] (.agg [.ints .u8 32 (Kd.bP key text)]) [] := by
  have k := aG JJ 300 Tryz.func80 (Vy key text) (AL (qg _ _) (qg _ _) hl) rfl
  rw [aF h, aay h (Jb ht) hl] at k
  exact k
noncomputable def Ti : List SV → Option (SV × List Blk × Bool)
  | [.ro false .u8 key, .ro false .u8 text] => some (.agg [.ints .u8 32 (Kd.bP key text)], [], decide (key.length = 32) && bU text && decide (text.length < 274877890000))
  | _ => none
noncomputable def JK : Entry Tryz.prog := .val 80 _ Tryz.func80 (by decide) rfl true 0 Ti fun vs v new e => by
  unfold Ti at e
  split at e
  · simp only [Option.some.injEq, Prod.mk.injEq, Bool.and_eq_true, decide_eq_true_eq] at e
    obtain ⟨rfl, rfl, ⟨h1, h2⟩, h3⟩ := e
    exact Pd h1 h2 h3
  · cases e
noncomputable def xqC : br := mk (P := Tryz.prog) [JK] [] fun i => if i = 13 || i = 17 then some false else none
theorem VA : ag Tryz.prog xqC := ah _ aq.nil _ _
def xqO (sec info T : List Int) : Bool :=
  aa (aa (aa (aa (aa (aa true (aa true (decide (0 + 0 + info.length ≤ 2 ^ 38)))) (aa (aa (aa (aa (true && true) (decide (info.length = 0 + 0 + info.length) && (decide (0 + 0 + info.length ≤ 0 + 0 + info.length) && true))) (decide (info.length = 0 + 0 + info.length))) true) (decide (0 + 0 + info.length + 1 ≤ 2 ^ 38))))
    (aa (aa true (aa (decide ((AK info).length = 0 + 0 + info.length + 1) && (decide (0 + 0 + info.length + 1 ≤ 0 + 0 + info.length + 1) && true)) (decide ((AK info).length = 0 + 0 + info.length + 1)))) (decide (sec.length = 32) && bU (AK info) && decide ((AK info).length < 274877890000))))
    (aa true true)) (aa (decide (T.length = 32) && true) true)) (aa (decide (T.length = 0 + 32) && true) true)
theorem JL {sec info T : List Int} (hs : sec.length = 32) (hi : bU info = true) (hl : info.length < 274877000000) (hT : T.length = 32) : xqO sec info T = true := by
  have hm : (AK info).length = info.length + 1 := by simp [AK]
  have hb : bU (AK info) = true := by
    unfold AK bU
    rw [List.all_append]
    have h : info.all (fun n => decide (0 ≤ n) && decide (n < 256)) = true := hi
    rw [h]; rfl
  unfold xqO
  rw [hm, hb, hs, hT, decide_eq_true (show 0 + 0 + info.length ≤ 2 ^ 38 by omega), decide_eq_true (show 0 + 0 + info.length + 1 ≤ 2 ^ 38 by omega), decide_eq_true (show info.length = 0 + 0 + info.length by omega), decide_eq_true (show 0 + 0 + info.length ≤ 0 + 0 + info.length by omega), decide_eq_true (show info.length + 1 = 0 + 0 + info.length + 1 by omega),
    decide_eq_true (show 0 + 0 + info.length + 1 ≤ 0 + 0 + info.length + 1 by omega), decide_eq_true (show info.length + 1 < 274877890000 by omega)]
  rfl
theorem VB (sec info : List Int) : (bp Tryz.prog xqC 300 Tryz.f97 [.ro false .u8 sec, .ro false .u8 info, .int .i64 32] []).map (fun x => (x.1, x.2.1.take 5, x.2.2)) =
    some (.aQ [.sl 4 0 0 1 32 32 false false, .bool true], [.b [.ints .u8 (0 + 0 + info.length + 1) (AK info)], .b [.ints .u8 1 [1]], .b [.ints .u8 32 (Kd.bP sec (AK info))], .b [.ints .u8 32 (Kd.bP sec (AK info))], .b [.ints .u8 32 (Kd.bP sec (AK info))]], xqO sec info (Kd.bP sec (AK info))) := by kernel_rfl
theorem C6 {sec info : List Int} (hs : sec.length = 32) (hi : bU info = true) (hl : info.length < 274877000000) : ai Tryz.prog 97 [.ro false .u8 sec, .ro false .u8 info, .int .i64 32] [] (.aQ [.ro true .u8 (Kd.bf sec info 32), .bool true]) [] := by
  have hT := Kd.eG sec (AK info)
  have ho := JL hs hi hl hT
  have hr := VB sec info
  rw [JH]
  generalize Kd.bP sec (AK info) = T at hT ho hr
  have k := bn VA 300 Tryz.func97 5 (by simp) hr ho rfl rfl
  have k2 : ai Tryz.prog 97 [.ro false .u8 sec, .ro false .u8 info, .int .i64 32] [] (.aQ [.sl 0 0 0 1 32 32 false false, .bool true]) [.b [.ints .u8 32 T]] := ai.Js [4] k (by kernel_rfl)
  have k3 := ai.fz 0 0 (by simp) (by simp) k2 (u := .aQ [.ro true .u8 ((T.drop 0).take 32), .bool true]) (h2 := []) (p := aa (decide (T.length = 32)) (decide (0 + 32 ≤ 32) && true)) (by kernel_rfl) (by rw [hT]; rfl)
  rw [List.drop_zero, List.take_of_length_le (by omega)] at k3
  exact k3
noncomputable def AM : List SV → Option (SV × List Blk × Bool)
  | [.ro false .u8 sec, .ro false .u8 info, .int .i64 n] => some (.aQ [.ro true .u8 (Kd.bf sec info 32), .bool true], [], decide (n = 32) && decide (sec.length = 32) && bU info && decide (info.length < 274877000000))
  | _ => none
noncomputable def JM : Entry Tryz.prog := .val 97 _ Tryz.func97 (by decide) rfl true 0 AM fun vs v new e => by
  unfold AM at e
  split at e
  · simp only [Option.some.injEq, Prod.mk.injEq, Bool.and_eq_true, decide_eq_true_eq] at e
    obtain ⟨rfl, rfl, ⟨⟨rfl, h1⟩, h2⟩, h3⟩ := e
    exact C6 h1 h2 h3
  · cases e
noncomputable def lqC : br := mk (P := Tryz.prog) [JM] [] fun i => if i = 15 || i = 20 || i = 24 || i = 27 then some false else if i = 62 then some true else none
theorem VC : ag Tryz.prog lqC := ah _ aq.nil _ _
def GV : List Int := [98, 111, 120]
def Iv (ctx : List Int) : List Int := [0, 32, 3, 98, 111, 120, IntKind.u8.wrap (IntKind.i64.wrap ((ctx.length : Int).tdiv 16777216)), IntKind.u8.wrap ((IntKind.i64.wrap ((ctx.length : Int).tdiv 65536)).tmod 256), IntKind.u8.wrap ((IntKind.i64.wrap ((ctx.length : Int).tdiv 256)).tmod 256), IntKind.u8.wrap ((ctx.length : Int).tmod 256)]
def lqO (ctx : List Int) : Bool :=
  aa (aa (aa (aa (aa (aa (aa true (!decide ((ctx.length : Int) > 65536))) true) true) true) true) (aa true (decide (10 + ctx.length ≤ 2 ^ 38))))
    (aa (aa true (aa (decide ((Iv ctx ++ ctx).length = 10 + ctx.length) && (decide (10 + ctx.length ≤ 10 + ctx.length) && true)) (decide ((Iv ctx ++ ctx).length = 10 + ctx.length)))) (true && bU (Iv ctx ++ ctx) && decide ((Iv ctx ++ ctx).length < 274877000000)))
theorem VD (sec ctx : List Int) : (bp Tryz.prog lqC 60 Tryz.f79 [.agg [.ints .u8 32 (aH 32 sec)], .str GV, .ro false .u8 ctx, .int .i64 32] []).map (fun x => (x.1, x.2.2)) =
    some (.aQ [.ro true .u8 (Kd.bf (aH 32 sec) (Iv ctx ++ ctx) 32), .bool true], lqO ctx) := by kernel_rfl
theorem VF {ctx : List Int} (h : ctx.length ≤ 65536) : Iv ctx ++ ctx = Kd.tq GV ctx 32 := by
  have e24 : bG .i64 (ctx.length : Int) 24 = (ctx.length : Int) / 16777216 := Fe.dj _ _ _ (by decide)
  have e16 : bG .i64 (ctx.length : Int) 16 = (ctx.length : Int) / 65536 := Fe.dj _ _ _ (by decide)
  have e8 : bG .i64 (ctx.length : Int) 8 = (ctx.length : Int) / 256 := Fe.dj _ _ _ (by decide)
  have h0 : (0 : Int) ≤ ctx.length := by omega
  have d24 : IntKind.u8.wrap (IntKind.i64.wrap ((ctx.length : Int).tdiv 16777216)) = IntKind.u8.wrap (bG .i64 (ctx.length : Int) 24) := by
    rw [e24, Int.tdiv_eq_ediv_of_nonneg h0, wrap_i64 _ (by omega) (by omega)]
  have d16 : IntKind.u8.wrap ((IntKind.i64.wrap ((ctx.length : Int).tdiv 65536)).tmod 256) = IntKind.u8.wrap (bG .i64 (ctx.length : Int) 16) := by
    rw [e16, Int.tdiv_eq_ediv_of_nonneg h0, wrap_i64 _ (by omega) (by omega), Int.tmod_eq_emod_of_nonneg (by omega), wrap_u8, wrap_u8]; omega
  have d8 : IntKind.u8.wrap ((IntKind.i64.wrap ((ctx.length : Int).tdiv 256)).tmod 256) = IntKind.u8.wrap (bG .i64 (ctx.length : Int) 8) := by
    rw [e8, Int.tdiv_eq_ediv_of_nonneg h0, wrap_i64 _ (by omega) (by omega), Int.tmod_eq_emod_of_nonneg (by omega), wrap_u8, wrap_u8]; omega
  have d0 : IntKind.u8.wrap ((ctx.length : Int).tmod 256) = IntKind.u8.wrap ctx.length := by
    rw [Int.tmod_eq_emod_of_nonneg h0, wrap_u8, wrap_u8]; omega
  unfold Iv Kd.tq
  rw [d24, d16, d8, d0, show IntKind.u8.wrap (bG .i64 32 8) = 0 by decide, show IntKind.u8.wrap 32 = 32 by decide, show IntKind.u8.wrap (GV.length : Int) = 3 by decide]
  simp [GV]
theorem VG (ctx : List Int) : bU (Iv ctx) = true := by
  have hw : ∀ n : Int, (decide (0 ≤ IntKind.u8.wrap n) && decide (IntKind.u8.wrap n < 256)) = true := fun n => by
    rw [wrap_u8]
    simp only [Bool.and_eq_true, decide_eq_true_eq]
    omega
  unfold bU Iv
  simp only [List.all_cons, List.all_nil, hw]
  rfl
theorem GW {sec ctx : List Int} (hs : sec.length = 32) (hc : bU ctx = true) (hl : ctx.length ≤ 65536) : ai Tryz.prog 79 [.agg [.ints .u8 32 sec], .str GV, .ro false .u8 ctx, .int .i64 32] [] (.aQ [.ro true .u8 (Kd.kZ sec GV ctx 32), .bool true]) [] := by
  have hb : bU (Iv ctx ++ ctx) = true := by
    have h1 : (Iv ctx).all (fun n => decide (0 ≤ n) && decide (n < 256)) = true := VG ctx
    have h2 : ctx.all (fun n => decide (0 ≤ n) && decide (n < 256)) = true := hc
    unfold bU
    rw [List.all_append, h1, h2]; rfl
  have hn : (Iv ctx ++ ctx).length = 10 + ctx.length := by rw [List.length_append]; rfl
  have k := aG VC 60 Tryz.func79 (VD sec ctx) (by
    unfold lqO
    rw [hb, hn, decide_eq_false (show ¬ (ctx.length : Int) > 65536 by omega), decide_eq_true (show 10 + ctx.length ≤ 2 ^ 38 by omega), decide_eq_true (rfl : 10 + ctx.length = 10 + ctx.length), decide_eq_true (show 10 + ctx.length ≤ 10 + ctx.length by omega), decide_eq_true (show 10 + ctx.length < 274877000000 by omega)]
    rfl) rfl
  rw [aF hs, VF hl] at k
  exact k
end Go.Proofs.YtibfpjeeanppjaaGreat.Q2
end
