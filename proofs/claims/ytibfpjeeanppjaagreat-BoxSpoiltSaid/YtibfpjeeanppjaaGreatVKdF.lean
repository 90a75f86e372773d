/- This file holds the texts KdE, KdF, a section each. No conditions beyond those in the theorems. -/
import Derived.Test.YtibfpjeeanppjaaGreatVS2F
import Derived.Test.YtibfpjeeanppjaaGreatVKdD
set_option linter.all false
set_option maxRecDepth 100000
section
namespace Go.Proofs.YtibfpjeeanppjaaGreat.Q2
open Go Go.Sy Sh
noncomputable def tqC : Ctr := mk (P := Tryz.prog) [shortDRE] [] fun i => if i = 16 then some false else none
theorem tqC_ok : CtrSound Tryz.prog tqC := mk_sound _ InlOK.nil _ _
def padX (key : List Int) (c : Int) : List Int := (List.range 32).map (fun i => xorI .u8 (key.getD i 0) c) ++ List.replicate 32 (xorI .u8 0 c)
def pad0 (c : Int) : List Int := List.replicate 64 (xorI .u8 0 c)
noncomputable def tqW (k36 k5c text : List Int) : List Int := shortQ (k5c ++ shortQ (k36 ++ text))
noncomputable def tqO (a b c : List Int) : Bool :=
  andT (andT (andT (andT true (andT true (decide (64 + c.length ≤ 2 ^ 38)))) (andT (andT (decide ((a ++ c).length = 64 + c.length) && (decide (64 + c.length ≤ 64 + c.length) && true)) (decide ((a ++ c).length = 64 + c.length))) (decide ((a ++ c).length < 274877900000)))) (decide ((shortQ (a ++ c)).length = 32) && true))
    (andT (andT (decide ((b ++ shortQ (a ++ c)).length = 64 + 32) && true) (decide ((b ++ shortQ (a ++ c)).length = 64 + 32))) (decide ((b ++ shortQ (a ++ c)).length < 274877900000)))
theorem shortQ_len (xs : List Int) : (shortQ xs).length = 32 := by rw [shortQ, Lock_eq]; simp [S2.outB]
theorem padX_len (key : List Int) (c : Int) : (padX key c).length = 64 := by simp [padX]
theorem tqO_true {a b c : List Int} (ha : a.length = 64) (hb : b.length = 64) (hc : c.length < 274877890000) : tqO a b c = true := by
  unfold tqO
  rw [List.length_append, List.length_append, shortQ_len, ha, hb, decide_eq_true (show 64 + c.length ≤ 2 ^ 38 by omega), decide_eq_true (rfl : 64 + c.length = 64 + c.length), decide_eq_true (show 64 + c.length ≤ 64 + c.length by omega), decide_eq_true (show 64 + c.length < 274877900000 by omega)]
  rfl
set_option maxHeartbeats 0 in
theorem tq_run (key text : List Int) : (callS Tryz.prog tqC 300 Tryz.f80 [.ro false .u8 (lst 32 key), .ro false .u8 text] []).map (fun x => (x.1, x.2.2)) = some (.agg [.ints .u8 32 (tqW (padX key 54) (padX key 92) text)], tqO (padX key 54) (padX key 92) text) := by kernel_rfl
end Go.Proofs.YtibfpjeeanppjaaGreat.Q2
end
section
namespace Go.Proofs.YtibfpjeeanppjaaGreat.Q2
open Go Go.Sy Sh
theorem xor8_by (a b : Int) : 0 ≤ xorI .u8 a b ∧ xorI .u8 a b < 256 := by
  unfold xorI bitsI
  rw [wrap_u8]
  omega
theorem pad_pd (key : List Int) (c : Int) : Kd.pdX (Kd.pdB (Kd.pdK (lst 32 key))) c = padX (lst 32 key) c := by kernel_rfl
theorem pdW_pad {key : List Int} (h : key.length = 32) (c : Int) : Kd.pdW key c = padX key c := by
  have := pad_pd key c
  rw [lst_eq h] at this
  rw [Kd.pdW, Lock_eq, this]
theorem padX_by (key : List Int) (c : Int) : By (padX key c) := by
  intro x hx
  simp only [padX, List.mem_append, List.mem_map, List.mem_replicate] at hx
  rcases hx with ⟨i, _, rfl⟩ | ⟨_, rfl⟩ <;> exact xor8_by _ _
theorem By.app {a b : List Int} (ha : By a) (hb : By b) : By (a ++ b) := fun x hx => (List.mem_append.1 hx).elim (ha x) (hb x)
theorem tq_eq {key text : List Int} (h : key.length = 32) (ht : By text) (hl : text.length < 274877890000) : tqW (padX key 54) (padX key 92) text = Kd.tagW key text := by
  have h1 : By (padX key 54 ++ text) := (padX_by _ _).app ht
  have e1 := shortW_eq h1 (by rw [List.length_append, padX_len]; omega)
  have h2 : By (padX key 92 ++ S2.shortW (padX key 54 ++ text)) := (padX_by _ _).app (S2.shortW_by _)
  have e2 := shortW_eq h2 (by rw [List.length_append, padX_len, S2.shortW_len]; omega)
  unfold tqW
  rw [Kd.tagW, Lock_eq, pdW_pad h, pdW_pad h, e2, e1]
theorem by_of {l : List Int} (h : u8R l = true) : By l := fun x hx => by
  have := List.all_eq_true.1 h x hx
  simpa using this
theorem tagR_fn {key text : List Int} (h : key.length = 32) (ht : u8R text = true) (hl : text.length < 274877890000) : FnTr Tryz.prog 80 [.ro false .u8 key, .ro false .u8 text] [] (.agg [.ints .u8 32 (Kd.tagW key text)]) [] := by
  have k := call0 tqC_ok 300 Tryz.func80 (tq_run key text) (tqO_true (padX_len _ _) (padX_len _ _) hl) rfl
  rw [lst_eq h, tq_eq h (by_of ht) hl] at k
  exact k
noncomputable def tagRF : List SV → Option (SV × List Blk × Bool)
  | [.ro false .u8 key, .ro false .u8 text] => some (.agg [.ints .u8 32 (Kd.tagW key text)], [], decide (key.length = 32) && u8R text && decide (text.length < 274877890000))
  | _ => none
noncomputable def tagRE : Entry Tryz.prog := .val 80 _ Tryz.func80 (by decide) rfl true 0 tagRF fun vs v new e => by
  unfold tagRF at e
  split at e
  · simp only [Option.some.injEq, Prod.mk.injEq, Bool.and_eq_true, decide_eq_true_eq] at e
    obtain ⟨rfl, rfl, ⟨h1, h2⟩, h3⟩ := e
    exact tagR_fn h1 h2 h3
  · cases e
noncomputable def xqC : Ctr := mk (P := Tryz.prog) [tagRE] [] fun i => if i = 13 || i = 17 then some false else none
theorem xqC_ok : CtrSound Tryz.prog xqC := mk_sound _ InlOK.nil _ _
def xqM (info : List Int) : List Int := info ++ [1]
def xqO (sec info T : List Int) : Bool :=
  andT (andT (andT (andT (andT (andT true (andT true (decide (0 + 0 + info.length ≤ 2 ^ 38)))) (andT (andT (andT (andT (true && true) (decide (info.length = 0 + 0 + info.length) && (decide (0 + 0 + info.length ≤ 0 + 0 + info.length) && true))) (decide (info.length = 0 + 0 + info.length))) true) (decide (0 + 0 + info.length + 1 ≤ 2 ^ 38))))
    (andT (andT true (andT (decide ((xqM info).length = 0 + 0 + info.length + 1) && (decide (0 + 0 + info.length + 1 ≤ 0 + 0 + info.length + 1) && true)) (decide ((xqM info).length = 0 + 0 + info.length + 1)))) (decide (sec.length = 32) && u8R (xqM info) && decide ((xqM info).length < 274877890000))))
    (andT true true)) (andT (decide (T.length = 32) && true) true)) (andT (decide (T.length = 0 + 32) && true) true)
theorem xqO_true {sec info T : List Int} (hs : sec.length = 32) (hi : u8R info = true) (hl : info.length < 274877000000) (hT : T.length = 32) : xqO sec info T = true := by
  have hm : (xqM info).length = info.length + 1 := by simp [xqM]
  have hb : u8R (xqM info) = true := by
    unfold xqM u8R
    rw [List.all_append]
    have h : info.all (fun n => decide (0 ≤ n) && decide (n < 256)) = true := hi
    rw [h]; rfl
  unfold xqO
  rw [hm, hb, hs, hT, decide_eq_true (show 0 + 0 + info.length ≤ 2 ^ 38 by omega), decide_eq_true (show 0 + 0 + info.length + 1 ≤ 2 ^ 38 by omega), decide_eq_true (show info.length = 0 + 0 + info.length by omega), decide_eq_true (show 0 + 0 + info.length ≤ 0 + 0 + info.length by omega), decide_eq_true (show info.length + 1 = 0 + 0 + info.length + 1 by omega),
    decide_eq_true (show 0 + 0 + info.length + 1 ≤ 0 + 0 + info.length + 1 by omega), decide_eq_true (show info.length + 1 < 274877890000 by omega)]
  rfl
theorem xq_run (sec info : List Int) : (callS Tryz.prog xqC 300 Tryz.f97 [.ro false .u8 sec, .ro false .u8 info, .int .i64 32] []).map (fun x => (x.1, x.2.1.take 5, x.2.2)) =
    some (.tup [.sl 4 0 0 1 32 32 false false, .bool true], [.b [.ints .u8 (0 + 0 + info.length + 1) (xqM info)], .b [.ints .u8 1 [1]], .b [.ints .u8 32 (Kd.tagW sec (xqM info))], .b [.ints .u8 32 (Kd.tagW sec (xqM info))], .b [.ints .u8 32 (Kd.tagW sec (xqM info))]], xqO sec info (Kd.tagW sec (xqM info))) := by kernel_rfl
theorem expand32 (sec info : List Int) : Kd.expandW sec info 32 = Kd.tagW sec (xqM info) := by
  unfold Kd.expandW
  rw [show (32 - 1) / 32 = 0 from rfl, show 32 - 32 * 0 = 32 from rfl]
  have h : Kd.xpS sec info (0 + 1) = Kd.tagW sec (xqM info) := by
    show Kd.tagW sec [[], info, [1]].flatten = _
    congr 1
  rw [h, List.take_of_length_le (by rw [Kd.tagW_len]; omega)]
  rfl
theorem expandR_fn {sec info : List Int} (hs : sec.length = 32) (hi : u8R info = true) (hl : info.length < 274877000000) : FnTr Tryz.prog 97 [.ro false .u8 sec, .ro false .u8 info, .int .i64 32] [] (.tup [.ro true .u8 (Kd.expandW sec info 32), .bool true]) [] := by
  have hT := Kd.tagW_len sec (xqM info)
  have ho := xqO_true hs hi hl hT
  have hr := xq_run sec info
  rw [expand32]
  generalize Kd.tagW sec (xqM info) = T at hT ho hr
  have k := callM xqC_ok 300 Tryz.func97 5 (by simp) hr ho rfl rfl
  have k2 : FnTr Tryz.prog 97 [.ro false .u8 sec, .ro false .u8 info, .int .i64 32] [] (.tup [.sl 0 0 0 1 32 32 false false, .bool true]) [.b [.ints .u8 32 T]] := FnTr.sel [4] k (by kernel_rfl)
  have k3 := FnTr.fz 0 0 (by simp) (by simp) k2 (u := .tup [.ro true .u8 ((T.drop 0).take 32), .bool true]) (h2 := []) (p := andT (decide (T.length = 32)) (decide (0 + 32 ≤ 32) && true)) (by kernel_rfl) (by rw [hT]; rfl)
  rw [List.drop_zero, List.take_of_length_le (by omega)] at k3
  exact k3
noncomputable def expandRF : List SV → Option (SV × List Blk × Bool)
  | [.ro false .u8 sec, .ro false .u8 info, .int .i64 n] => some (.tup [.ro true .u8 (Kd.expandW sec info 32), .bool true], [], decide (n = 32) && decide (sec.length = 32) && u8R info && decide (info.length < 274877000000))
  | _ => none
noncomputable def expandRE : Entry Tryz.prog := .val 97 _ Tryz.func97 (by decide) rfl true 0 expandRF fun vs v new e => by
  unfold expandRF at e
  split at e
  · simp only [Option.some.injEq, Prod.mk.injEq, Bool.and_eq_true, decide_eq_true_eq] at e
    obtain ⟨rfl, rfl, ⟨⟨rfl, h1⟩, h2⟩, h3⟩ := e
    exact expandR_fn h1 h2 h3
  · cases e
noncomputable def lqC : Ctr := mk (P := Tryz.prog) [expandRE] [] fun i => if i = 15 || i = 20 || i = 24 || i = 27 then some false else if i = 62 then some true else none
theorem lqC_ok : CtrSound Tryz.prog lqC := mk_sound _ InlOK.nil _ _
def bxL : List Int := [98, 111, 120]
def lqI (ctx : List Int) : List Int := [0, 32, 3, 98, 111, 120, IntKind.u8.wrap (IntKind.i64.wrap ((ctx.length : Int).tdiv 16777216)), IntKind.u8.wrap ((IntKind.i64.wrap ((ctx.length : Int).tdiv 65536)).tmod 256), IntKind.u8.wrap ((IntKind.i64.wrap ((ctx.length : Int).tdiv 256)).tmod 256), IntKind.u8.wrap ((ctx.length : Int).tmod 256)]
def lqO (ctx : List Int) : Bool :=
  andT (andT (andT (andT (andT (andT (andT true (!decide ((ctx.length : Int) > 65536))) true) true) true) true) (andT true (decide (10 + ctx.length ≤ 2 ^ 38))))
    (andT (andT true (andT (decide ((lqI ctx ++ ctx).length = 10 + ctx.length) && (decide (10 + ctx.length ≤ 10 + ctx.length) && true)) (decide ((lqI ctx ++ ctx).length = 10 + ctx.length)))) (true && u8R (lqI ctx ++ ctx) && decide ((lqI ctx ++ ctx).length < 274877000000)))
theorem lq_run (sec ctx : List Int) : (callS Tryz.prog lqC 60 Tryz.f79 [.agg [.ints .u8 32 (lst 32 sec)], .str bxL, .ro false .u8 ctx, .int .i64 32] []).map (fun x => (x.1, x.2.2)) =
    some (.tup [.ro true .u8 (Kd.expandW (lst 32 sec) (lqI ctx ++ ctx) 32), .bool true], lqO ctx) := by kernel_rfl
theorem lqI_eq {ctx : List Int} (h : ctx.length ≤ 65536) : lqI ctx ++ ctx = Kd.infW bxL ctx 32 := by
  have e24 : shrI .i64 (ctx.length : Int) 24 = (ctx.length : Int) / 16777216 := Fe.shr_eq _ _ _ (by decide)
  have e16 : shrI .i64 (ctx.length : Int) 16 = (ctx.length : Int) / 65536 := Fe.shr_eq _ _ _ (by decide)
  have e8 : shrI .i64 (ctx.length : Int) 8 = (ctx.length : Int) / 256 := Fe.shr_eq _ _ _ (by decide)
  have h0 : (0 : Int) ≤ ctx.length := by omega
  have d24 : IntKind.u8.wrap (IntKind.i64.wrap ((ctx.length : Int).tdiv 16777216)) = IntKind.u8.wrap (shrI .i64 (ctx.length : Int) 24) := by
    rw [e24, Int.tdiv_eq_ediv_of_nonneg h0, wrap_i64 _ (by omega) (by omega)]
  have d16 : IntKind.u8.wrap ((IntKind.i64.wrap ((ctx.length : Int).tdiv 65536)).tmod 256) = IntKind.u8.wrap (shrI .i64 (ctx.length : Int) 16) := by
    rw [e16, Int.tdiv_eq_ediv_of_nonneg h0, wrap_i64 _ (by omega) (by omega), Int.tmod_eq_emod_of_nonneg (by omega), wrap_u8, wrap_u8]; omega
  have d8 : IntKind.u8.wrap ((IntKind.i64.wrap ((ctx.length : Int).tdiv 256)).tmod 256) = IntKind.u8.wrap (shrI .i64 (ctx.length : Int) 8) := by
    rw [e8, Int.tdiv_eq_ediv_of_nonneg h0, wrap_i64 _ (by omega) (by omega), Int.tmod_eq_emod_of_nonneg (by omega), wrap_u8, wrap_u8]; omega
  have d0 : IntKind.u8.wrap ((ctx.length : Int).tmod 256) = IntKind.u8.wrap ctx.length := by
    rw [Int.tmod_eq_emod_of_nonneg h0, wrap_u8, wrap_u8]; omega
  unfold lqI Kd.infW
  rw [d24, d16, d8, d0, show IntKind.u8.wrap (shrI .i64 32 8) = 0 by decide, show IntKind.u8.wrap 32 = 32 by decide, show IntKind.u8.wrap (bxL.length : Int) = 3 by decide]
  simp [bxL]
theorem lqI_by (ctx : List Int) : u8R (lqI ctx) = true := by
  have hw : ∀ n : Int, (decide (0 ≤ IntKind.u8.wrap n) && decide (IntKind.u8.wrap n < 256)) = true := fun n => by
    rw [wrap_u8]
    simp only [Bool.and_eq_true, decide_eq_true_eq]
    omega
  unfold u8R lqI
  simp only [List.all_cons, List.all_nil, hw]
  rfl
theorem labelR_fn {sec ctx : List Int} (hs : sec.length = 32) (hc : u8R ctx = true) (hl : ctx.length ≤ 65536) : FnTr Tryz.prog 79 [.agg [.ints .u8 32 sec], .str bxL, .ro false .u8 ctx, .int .i64 32] [] (.tup [.ro true .u8 (Kd.labelW sec bxL ctx 32), .bool true]) [] := by
  have hb : u8R (lqI ctx ++ ctx) = true := by
    have h1 : (lqI ctx).all (fun n => decide (0 ≤ n) && decide (n < 256)) = true := lqI_by ctx
    have h2 : ctx.all (fun n => decide (0 ≤ n) && decide (n < 256)) = true := hc
    unfold u8R
    rw [List.all_append, h1, h2]; rfl
  have hn : (lqI ctx ++ ctx).length = 10 + ctx.length := by rw [List.length_append]; rfl
  have k := call0 lqC_ok 60 Tryz.func79 (lq_run sec ctx) (by
    unfold lqO
    rw [hb, hn, decide_eq_false (show ¬ (ctx.length : Int) > 65536 by omega), decide_eq_true (show 10 + ctx.length ≤ 2 ^ 38 by omega), decide_eq_true (rfl : 10 + ctx.length = 10 + ctx.length), decide_eq_true (show 10 + ctx.length ≤ 10 + ctx.length by omega), decide_eq_true (show 10 + ctx.length < 274877000000 by omega)]
    rfl) rfl
  rw [lst_eq hs, lqI_eq hl] at k
  exact k
end Go.Proofs.YtibfpjeeanppjaaGreat.Q2
end
