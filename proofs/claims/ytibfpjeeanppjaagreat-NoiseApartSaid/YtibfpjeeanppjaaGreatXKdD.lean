/- This file holds the texts KdC, KdD, a section each. No conditions beyond those in the theorems. -/
import Derived.Test.YtibfpjeeanppjaaGreatXKdB
set_option linter.all false
set_option maxRecDepth 100000
section
namespace Go.Proofs.YtibfpjeeanppjaaGreat.Kd
open Go Go.Sy Sh
noncomputable def xhC : br := mk (P := Tryz.prog) [tgE] [] fun i => if i = 11 || i = 14 then some false else none
theorem yH : ag Tryz.prog xhC := ah _ aq.nil _ _
noncomputable def xp1 (sec info : List Int) (N : Nat) : St := ⟨slotsOf 36 [(0, .ro false .u8 sec), (1, .ro false .u8 info), (5, .ptr 0 0 0)], [.b [.int .i64 N]], true⟩
noncomputable def xp2 (sec info : List Int) (N : Nat) : St := ⟨Vq, [.b [.int .i64 N], .b [.ints .u8 N (List.replicate N 0)], .b [.sl 1 0 0 1 0 N true false], .b [.ro false .u8 sec], .b [.ro false .u8 info]], true⟩
noncomputable def xp3 (l : List Int) (N : Nat) : St := ⟨slotsOf 36 [(6, .sl 1 0 0 1 N N false false), (7, .nl .nilIface)], [.b [.int .i64 N], .b [.ints .u8 N l]], true⟩
def Vt (N : Nat) : Bool := aa (aa true (!decide ((N : Int) > 8160))) (true && IntKind.i64.wrap (N : Int) == (N : Int) && (true && decide ((1 : Int) * (N : Int) ≤ 281474976710656)))
section
variable (sec info l : List Int) (N : Nat)
theorem aat : (aT Tryz.prog xhC 60 0 1 (atoms xpB) ⟨aO Tryz.f109.ntmps [.ro false .u8 sec, .ro false .u8 info, .int .i64 N], [], true⟩).bind (St.cut [0, 1, 5] 1) = some (xp1 sec info N) := by kernel_rfl
theorem aau : (aT Tryz.prog xhC 60 0 5 (atoms xpI) (xp1 sec info N)).bind (St.cut [5, 8, 21] 5) = some { xp2 sec info N with ob := Vt N } := by kernel_rfl
theorem aav : (aT Tryz.prog xhC 60 0 1 ((atoms xpI).drop 6) ⟨Vq, Iu sec info l N N none, true⟩).bind (St.cut [6, 7] 2) = some (xp3 l N) := by kernel_rfl
theorem aaw : oI Tryz.prog xhC 60 0 (((atoms xpI).drop 6).drop 1) (xp3 l N) = some (.ret, xp3 l N) := by kernel_rfl
end
theorem Vu : Tf = .block 0 (.rangeFunc (rfG (inner Tf)) (rfP (inner Tf)) (rfA (inner Tf)) (ZX (inner Tf))) := by kernel_rfl
theorem JC : az 1 xpB = .scope xpI := by kernel_rfl
theorem Pc (sec info : List Int) (N : Nat) : bh 0 (xp2 sec info N) ⟨Vq, aan sec info (Aj sec info N 0) 0 N, true⟩ := by
  have e : List.replicate N (0 : Int) = Aj sec info N 0 := by simp [Aj, Th]
  unfold xp2
  rw [e]
  refine bh.Z9 ⟨PE.refl _, PE.refl _, ⟨rfl, ?_⟩, PE.refl _, PE.refl _, trivial⟩
  rintro e xs ⟨y, zs, hy, hz, rfl⟩
  refine ⟨y, zs, ?_, hz, rfl⟩
  rcases hy with h | ⟨p, c, a, h1, h2, h3, h4, _, h6, h7⟩
  · exact .inl h
  · exact .inr ⟨p, c, a, h1, h2, h3, h4, (by simp), h6, h7⟩
theorem G3 {N : Nat} (hN : N ≤ 8160) : Vt N = true := by
  unfold Vt
  rw [wrap_i64 _ (by omega) (by omega), decide_eq_false (show ¬ ((N : Int) > 8160) by omega), decide_eq_true (show (1 : Int) * (N : Int) ≤ 281474976710656 by omega), beq_self_eq_true]
  rfl
theorem xB {sec info : List Int} {N : Nat} (hs : sec.length < 274877900000) (hi : info.length < 270000000000) (hN : N ≤ 8160) :
    ai Tryz.prog 109 [.ro false .u8 sec, .ro false .u8 info, .int .i64 N] [] (.aQ [.ro true .u8 (bf sec info N), .nl .nilIface]) [] := by
  have hw := eH sec info N
  have CR : Tr Tryz.prog none 0 Tf ⟨Vq, aan sec info (Aj sec info N 0) 0 N, true⟩ .normal ⟨Vq, Iu sec info (bf sec info N) N N none, true⟩ := by
    rw [Vu]
    refine Tr.block ?_
    exact Tr.range (q := some (.exit 0)) (first := []) (jW := [.ptr 3 0 0, .ptr 4 0 0]) (v := .aQ []) true Tryz.func166 (by decide) rfl (by kernel_rfl) (h1 := fun l => Iu sec info (bf sec info N) N N (some (Tg l))) (fun l => aaq hs hi hN l) (fun l => ⟨Tg l, by kernel_rfl, by kernel_rfl, by simp [Tg], by kernel_rfl⟩) (fun l => rfl) rfl
  have hin : Tr Tryz.prog none 0 (az 1 xpB) (xp1 sec info N) .ret (xp3 (bf sec info N) N) := by
    rw [JC]
    refine Tr.scope (Tr.ee ?_) (by simp)
    refine aY.items yH 60 5 _ 5 (by simp) (aau sec info N) (G3 hN) (by decide) ?_
    refine aY.pre ?_ (Pc sec info N) (by decide)
    refine aY.item 5 (by decide) CR ?_
    refine aY.items yH 60 1 _ 2 (by simp) (aav sec info _ N) rfl (by decide) ?_
    exact aY.rest yH 60 (aaw _ N) rfl
  have k : ai Tryz.prog 109 [.ro false .u8 sec, .ro false .u8 info, .int .i64 N] [] (.aQ [.sl 1 0 0 1 N N false false, .nl .nilIface]) [.b [.int .i64 N], .b [.ints .u8 N (bf sec info N)]] := by
    refine ai.mk (vs := [.sl 1 0 0 1 N N false false, .nl .nilIface]) Tryz.func109 rfl (x := .ret) (s := xp3 (bf sec info N) N) ?_ (.inl rfl) (by kernel_rfl)
    refine aY.items yH 60 1 _ 1 (by simp) (aat sec info N) rfl (by decide) ?_
    exact aY.leave 1 (by decide) (by simp) hin
  have k3 := ai.fz 1 0 (by simp) (by simp) k (u := .aQ [.ro true .u8 (((bf sec info N).drop 0).take N), .nl .nilIface]) (h2 := []) (p := aa (decide ((bf sec info N).length = N)) (decide (0 + N ≤ N) && true)) (by kernel_rfl) (by rw [hw, Nat.zero_add, decide_eq_true rfl, decide_eq_true (Nat.le_refl _)]; rfl)
  rw [List.drop_zero, List.take_of_length_le (by omega)] at k3
  exact k3
noncomputable def EO : List SV → Option (SV × List Blk × Bool)
  | [.ro false .u8 sec, .ro false .u8 info, .int .i64 n] => some (.aQ [.ro true .u8 (bf sec info n.toNat), .nl .nilIface], [], decide (sec.length < 274877900000) && decide (info.length < 270000000000) && decide (0 ≤ n) && decide (n ≤ 8160))
  | [.ro false .u8 sec, .nl (.slice none 0 0), .int .i64 n] => some (.aQ [.ro true .u8 (bf sec [] n.toNat), .nl .nilIface], [], decide (sec.length < 274877900000) && decide (0 ≤ n) && decide (n ≤ 8160))
  | _ => none
noncomputable def EG : Entry Tryz.prog := .val 109 _ Tryz.func109 (by decide) rfl true 0 EO fun vs v new e => by
  unfold EO at e
  split at e
  · rename_i sec info n
    simp only [Option.some.injEq, Prod.mk.injEq, Bool.and_eq_true, decide_eq_true_eq] at e
    obtain ⟨rfl, rfl, ⟨⟨h1, h2⟩, h3⟩, h4⟩ := e
    have k := xB (N := n.toNat) h1 h2 (by omega)
    rw [Int.toNat_of_nonneg h3] at k
    exact k
  · rename_i sec n
    simp only [Option.some.injEq, Prod.mk.injEq, Bool.and_eq_true, decide_eq_true_eq] at e
    obtain ⟨rfl, rfl, ⟨h1, h3⟩, h4⟩ := e
    have k := xB (info := []) (N := n.toNat) h1 (by simp) (by omega)
    rw [Int.toNat_of_nonneg h3] at k
    exact ai.conv k ⟨VE.refl _, VE.rE _ _, VE.refl _, trivial⟩ trivial (VE.refl _) trivial
  · cases e
end Go.Proofs.YtibfpjeeanppjaaGreat.Kd
end
section
namespace Go.Proofs.YtibfpjeeanppjaaGreat.Kd
open Go Go.Sy Sh
def tq (lb ctx : List Int) (n : Int) : List Int := [[IntKind.u8.wrap (bG .i64 n 8), IntKind.u8.wrap n, IntKind.u8.wrap lb.length], lb, [IntKind.u8.wrap (bG .i64 ctx.length 24), IntKind.u8.wrap (bG .i64 ctx.length 16), IntKind.u8.wrap (bG .i64 ctx.length 8), IntKind.u8.wrap ctx.length], ctx].flatten
noncomputable def inC : br := mk (P := Tryz.prog) [iO] []
theorem Vv : ag Tryz.prog inC := ah _ aq.nil _ _
theorem JD (lb ctx : List Int) (n : Int) : (tq lb ctx n).length = 7 + lb.length + ctx.length := by
  simp [tq]; omega
def aax : List SV → Option (SV × List Blk × Bool)
  | [.str lb, .ro false .u8 ctx, .int .i64 n] => some (.ro true .u8 (tq lb ctx n), [], decide ((tq lb ctx n).length ≤ 274877906944))
  | _ => none
theorem Vw {lb ctx : List Int} {n : Int} (h : (tq lb ctx n).length ≤ 274877906944) : ai Tryz.prog 110 [.str lb, .ro false .u8 ctx, .int .i64 n] [] (.ro true .u8 (tq lb ctx n)) [] :=
  aG Vv 60 Tryz.func110 (p := aa true (aa true (decide ((tq lb ctx n).length ≤ 274877906944) && true))) (by kernel_rfl) (by rw [decide_eq_true h]; rfl) rfl
noncomputable def afD : Entry Tryz.prog := .val 110 _ Tryz.func110 (by decide) rfl true 0 aax fun vs v new e => by
  unfold aax at e
  split at e
  · simp only [Option.some.injEq, Prod.mk.injEq, decide_eq_true_eq] at e
    obtain ⟨rfl, rfl, h⟩ := e
    exact Vw h
  · cases e
noncomputable def laC : br := mk (P := Tryz.prog) [afD, EG] [] fun i => if i = 13 || i = 18 || i = 22 || i = 25 then some false else none
theorem Vx : ag Tryz.prog laC := ah _ aq.nil _ _
noncomputable def kZ (sec lb ctx : List Int) (n : Nat) : List Int := bf sec (tq lb ctx n) n
theorem oX (sec lb ctx : List Int) (n : Nat) : (kZ sec lb ctx n).length = n := eH _ _ _
def laO (sec lb ctx : List Int) (n : Int) : Bool := aa (aa (aa (aa (aa (aa true (!decide ((lb.length : Int) > 255))) (!decide ((ctx.length : Int) > 65536))) (!decide (n < 0))) (!decide (n > 8160))) (aa true (decide ((tq lb ctx n).length ≤ 274877906944))))
  (aa (aa (decide (sec.length = 32) && true) (decide (sec.length = 32))) (decide (sec.length < 274877900000) && decide ((tq lb ctx n).length < 270000000000) && decide (0 ≤ n) && decide (n ≤ 8160)))
theorem JE {sec lb ctx : List Int} {n : Int} (hs : sec.length = 32) (hl : lb.length ≤ 255) (hc : ctx.length ≤ 65536) (h0 : 0 ≤ n) (h1 : n ≤ 8160) : laO sec lb ctx n = true := by
  unfold laO
  rw [JD, hs, decide_eq_false (show ¬ (lb.length : Int) > 255 by omega), decide_eq_false (show ¬ (ctx.length : Int) > 65536 by omega), decide_eq_false (show ¬ n < 0 by omega), decide_eq_false (show ¬ n > 8160 by omega),
    decide_eq_true (show 7 + lb.length + ctx.length ≤ 274877906944 by omega), decide_eq_true (show 7 + lb.length + ctx.length < 270000000000 by omega), decide_eq_true h0, decide_eq_true h1]
  rfl
theorem JF {sec lb ctx : List Int} {n : Nat} (hs : sec.length = 32) (hl : lb.length ≤ 255) (hc : ctx.length ≤ 65536) (h1 : n ≤ 8160) : ai Tryz.prog 69 [.agg [.ints .u8 32 sec], .str lb, .ro false .u8 ctx, .int .i64 n] [] (.aQ [.ro true .u8 (kZ sec lb ctx n), .nl .nilIface]) [] :=
  aG Vx 60 Tryz.func69 (p := laO sec lb ctx n) (by kernel_rfl) (JE hs hl hc (by omega) (by omega)) rfl
noncomputable def JG : List SV → Option (SV × List Blk × Bool)
  | [.agg [.ints .u8 32 sec], .str lb, .ro false .u8 ctx, .int .i64 n] => some (.aQ [.ro true .u8 (kZ sec lb ctx n.toNat), .nl .nilIface], [], decide (sec.length = 32) && decide (lb.length ≤ 255) && decide (ctx.length ≤ 65536) && decide (n.toNat ≤ 8160) && decide (0 ≤ n))
  | _ => none
noncomputable def U4 : Entry Tryz.prog := .val 69 _ Tryz.func69 (by decide) rfl true 0 JG fun vs v new e => by
  unfold JG at e
  split at e
  · rename_i sec lb ctx n
    simp only [Option.some.injEq, Prod.mk.injEq, Bool.and_eq_true, decide_eq_true_eq] at e
    obtain ⟨rfl, rfl, ⟨⟨⟨h1, h2⟩, h3⟩, h4⟩, h5⟩ := e
    have k := JF (n := n.toNat) h1 h2 h3 h4
    rw [Int.toNat_of_nonneg h5] at k
    exact k
  · cases e
end Go.Proofs.YtibfpjeeanppjaaGreat.Kd
namespace Go.Proofs.YtibfpjeeanppjaaGreat.Q2
open Go Go.Sy Sh
def AK (info : List Int) : List Int := info ++ [1]
theorem JH (sec info : List Int) : Kd.bf sec info 32 = Kd.bP sec (AK info) := by
  unfold Kd.bf
  rw [show (32 - 1) / 32 = 0 from rfl, show 32 - 32 * 0 = 32 from rfl]
  have h : Kd.w5 sec info (0 + 1) = Kd.bP sec (AK info) := by
    show Kd.bP sec [[], info, [1]].flatten = _
    congr 1
  rw [h, List.take_of_length_le (by rw [Kd.eG]; omega)]
  rfl
end Go.Proofs.YtibfpjeeanppjaaGreat.Q2
end
