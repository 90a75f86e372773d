/- This file holds the texts KdC, KdD, a section each. No conditions beyond those in the theorems. -/
import Derived.Test.YtibfpjeeanppjaaGreatWKdB
set_option linter.all false
set_option maxRecDepth 100000
section
namespace Go.Proofs.YtibfpjeeanppjaaGreat.Kd
open Go Go.Sy Sh
noncomputable def xhC : Ctr := mk (P := Tryz.prog) [tgE] [] fun i => if i = 11 || i = 14 then some false else none
theorem xhC_ok : CtrSound Tryz.prog xhC := mk_sound _ InlOK.nil _ _
noncomputable def xp1 (sec info : List Int) (N : Nat) : St := ⟨slotsOf 36 [(0, .ro false .u8 sec), (1, .ro false .u8 info), (5, .ptr 0 0 0)], [.b [.int .i64 N]], true⟩
noncomputable def xp2 (sec info : List Int) (N : Nat) : St := ⟨xpT, [.b [.int .i64 N], .b [.ints .u8 N (List.replicate N 0)], .b [.sl 1 0 0 1 0 N true false], .b [.ro false .u8 sec], .b [.ro false .u8 info]], true⟩
noncomputable def xp3 (l : List Int) (N : Nat) : St := ⟨slotsOf 36 [(6, .sl 1 0 0 1 N N false false), (7, .nl .nilIface)], [.b [.int .i64 N], .b [.ints .u8 N l]], true⟩
def xpHO (N : Nat) : Bool := andT (andT true (!decide ((N : Int) > 8160))) (true && IntKind.i64.wrap (N : Int) == (N : Int) && (true && decide ((1 : Int) * (N : Int) ≤ 281474976710656)))
section
variable (sec info l : List Int) (N : Nat)
theorem xp_h1 : (execL Tryz.prog xhC 60 0 1 (atoms xpB) ⟨slots0 Tryz.f109.ntmps [.ro false .u8 sec, .ro false .u8 info, .int .i64 N], [], true⟩).bind (St.cut [0, 1, 5] 1) = some (xp1 sec info N) := by kernel_rfl
theorem xp_h2 : (execL Tryz.prog xhC 60 0 5 (atoms xpI) (xp1 sec info N)).bind (St.cut [5, 8, 21] 5) = some { xp2 sec info N with ob := xpHO N } := by kernel_rfl
theorem xp_h3 : (execL Tryz.prog xhC 60 0 1 ((atoms xpI).drop 6) ⟨xpT, xpH sec info l N N none, true⟩).bind (St.cut [6, 7] 2) = some (xp3 l N) := by kernel_rfl
theorem xp_h4 : execA Tryz.prog xhC 60 0 (((atoms xpI).drop 6).drop 1) (xp3 l N) = some (.ret, xp3 l N) := by kernel_rfl
end
theorem xpR_eq : xpR = .block 0 (.rangeFunc (rfG (inner xpR)) (rfP (inner xpR)) (rfA (inner xpR)) (rfB (inner xpR))) := by kernel_rfl
theorem xp_scope : nthC 1 xpB = .scope xpI := by kernel_rfl
theorem xp_weak (sec info : List Int) (N : Nat) : Ent 0 (xp2 sec info N) ⟨xpT, xpH0 sec info (xpP sec info N 0) 0 N, true⟩ := by
  have e : List.replicate N (0 : Int) = xpP sec info N 0 := by simp [xpP, xpC]
  unfold xp2
  rw [e]
  refine Ent.blks ⟨PE.refl _, PE.refl _, ⟨rfl, ?_⟩, PE.refl _, PE.refl _, trivial⟩
  rintro e xs ⟨y, zs, hy, hz, rfl⟩
  refine ⟨y, zs, ?_, hz, rfl⟩
  rcases hy with h | ⟨p, c, a, h1, h2, h3, h4, _, h6, h7⟩
  · exact .inl h
  · exact .inr ⟨p, c, a, h1, h2, h3, h4, (by simp), h6, h7⟩
theorem xpHO_true {N : Nat} (hN : N ≤ 8160) : xpHO N = true := by
  unfold xpHO
  rw [wrap_i64 _ (by omega) (by omega), decide_eq_false (show ¬ ((N : Int) > 8160) by omega), decide_eq_true (show (1 : Int) * (N : Int) ≤ 281474976710656 by omega), beq_self_eq_true]
  rfl
theorem expand_fn {sec info : List Int} {N : Nat} (hs : sec.length < 274877900000) (hi : info.length < 270000000000) (hN : N ≤ 8160) :
    FnTr Tryz.prog 109 [.ro false .u8 sec, .ro false .u8 info, .int .i64 N] [] (.tup [.ro true .u8 (expandW sec info N), .nl .nilIface]) [] := by
  have hw := expandW_len sec info N
  have hrange : Tr Tryz.prog none 0 xpR ⟨xpT, xpH0 sec info (xpP sec info N 0) 0 N, true⟩ .normal ⟨xpT, xpH sec info (expandW sec info N) N N none, true⟩ := by
    rw [xpR_eq]
    refine Tr.block ?_
    exact Tr.range (q := some (.exit 0)) (first := []) (capt := [.ptr 3 0 0, .ptr 4 0 0]) (v := .tup []) true Tryz.func166 (by decide) rfl (by kernel_rfl) (h1 := fun l => xpH sec info (expandW sec info N) N N (some (xpD l))) (fun l => tg_fn hs hi hN l) (fun l => ⟨xpD l, by kernel_rfl, by kernel_rfl, by simp [xpD], by kernel_rfl⟩) (fun l => rfl) rfl
  have hin : Tr Tryz.prog none 0 (nthC 1 xpB) (xp1 sec info N) .ret (xp3 (expandW sec info N) N) := by
    rw [xp_scope]
    refine Tr.scope (Tr.of_atoms ?_) (by simp)
    refine TrL.items xhC_ok 60 5 _ 5 (by simp) (xp_h2 sec info N) (xpHO_true hN) (by decide) ?_
    refine TrL.pre ?_ (xp_weak sec info N) (by decide)
    refine TrL.item 5 (by decide) hrange ?_
    refine TrL.items xhC_ok 60 1 _ 2 (by simp) (xp_h3 sec info _ N) rfl (by decide) ?_
    exact TrL.rest xhC_ok 60 (xp_h4 _ N) rfl
  have k : FnTr Tryz.prog 109 [.ro false .u8 sec, .ro false .u8 info, .int .i64 N] [] (.tup [.sl 1 0 0 1 N N false false, .nl .nilIface]) [.b [.int .i64 N], .b [.ints .u8 N (expandW sec info N)]] := by
    refine FnTr.mk (vs := [.sl 1 0 0 1 N N false false, .nl .nilIface]) Tryz.func109 rfl (x := .ret) (s := xp3 (expandW sec info N) N) ?_ (.inl rfl) (by kernel_rfl)
    refine TrL.items xhC_ok 60 1 _ 1 (by simp) (xp_h1 sec info N) rfl (by decide) ?_
    exact TrL.leave 1 (by decide) (by simp) hin
  have k3 := FnTr.fz 1 0 (by simp) (by simp) k (u := .tup [.ro true .u8 (((expandW sec info N).drop 0).take N), .nl .nilIface]) (h2 := []) (p := andT (decide ((expandW sec info N).length = N)) (decide (0 + N ≤ N) && true)) (by kernel_rfl) (by rw [hw, Nat.zero_add, decide_eq_true rfl, decide_eq_true (Nat.le_refl _)]; rfl)
  rw [List.drop_zero, List.take_of_length_le (by omega)] at k3
  exact k3
noncomputable def expandF : List SV → Option (SV × List Blk × Bool)
  | [.ro false .u8 sec, .ro false .u8 info, .int .i64 n] => some (.tup [.ro true .u8 (expandW sec info n.toNat), .nl .nilIface], [], decide (sec.length < 274877900000) && decide (info.length < 270000000000) && decide (0 ≤ n) && decide (n ≤ 8160))
  | [.ro false .u8 sec, .nl (.slice none 0 0), .int .i64 n] => some (.tup [.ro true .u8 (expandW sec [] n.toNat), .nl .nilIface], [], decide (sec.length < 274877900000) && decide (0 ≤ n) && decide (n ≤ 8160))
  | _ => none
noncomputable def expandE : Entry Tryz.prog := .val 109 _ Tryz.func109 (by decide) rfl true 0 expandF fun vs v new e => by
  unfold expandF at e
  split at e
  · rename_i sec info n
    simp only [Option.some.injEq, Prod.mk.injEq, Bool.and_eq_true, decide_eq_true_eq] at e
    obtain ⟨rfl, rfl, ⟨⟨h1, h2⟩, h3⟩, h4⟩ := e
    have k := expand_fn (N := n.toNat) h1 h2 (by omega)
    rw [Int.toNat_of_nonneg h3] at k
    exact k
  · rename_i sec n
    simp only [Option.some.injEq, Prod.mk.injEq, Bool.and_eq_true, decide_eq_true_eq] at e
    obtain ⟨rfl, rfl, ⟨h1, h3⟩, h4⟩ := e
    have k := expand_fn (info := []) (N := n.toNat) h1 (by simp) (by omega)
    rw [Int.toNat_of_nonneg h3] at k
    exact FnTr.conv k ⟨VE.refl _, VE.nil_ro _ _, VE.refl _, trivial⟩ trivial (VE.refl _) trivial
  · cases e
end Go.Proofs.YtibfpjeeanppjaaGreat.Kd
end
section
namespace Go.Proofs.YtibfpjeeanppjaaGreat.Kd
open Go Go.Sy Sh
def infW (lb ctx : List Int) (n : Int) : List Int := [[IntKind.u8.wrap (shrI .i64 n 8), IntKind.u8.wrap n, IntKind.u8.wrap lb.length], lb, [IntKind.u8.wrap (shrI .i64 ctx.length 24), IntKind.u8.wrap (shrI .i64 ctx.length 16), IntKind.u8.wrap (shrI .i64 ctx.length 8), IntKind.u8.wrap ctx.length], ctx].flatten
noncomputable def inC : Ctr := mk (P := Tryz.prog) [concatE] []
theorem inC_ok : CtrSound Tryz.prog inC := mk_sound _ InlOK.nil _ _
theorem infW_len (lb ctx : List Int) (n : Int) : (infW lb ctx n).length = 7 + lb.length + ctx.length := by
  simp [infW]; omega
def infF : List SV → Option (SV × List Blk × Bool)
  | [.str lb, .ro false .u8 ctx, .int .i64 n] => some (.ro true .u8 (infW lb ctx n), [], decide ((infW lb ctx n).length ≤ 274877906944))
  | _ => none
theorem inf_fn {lb ctx : List Int} {n : Int} (h : (infW lb ctx n).length ≤ 274877906944) : FnTr Tryz.prog 110 [.str lb, .ro false .u8 ctx, .int .i64 n] [] (.ro true .u8 (infW lb ctx n)) [] :=
  call0 inC_ok 60 Tryz.func110 (p := andT true (andT true (decide ((infW lb ctx n).length ≤ 274877906944) && true))) (by kernel_rfl) (by rw [decide_eq_true h]; rfl) rfl
noncomputable def infE : Entry Tryz.prog := .val 110 _ Tryz.func110 (by decide) rfl true 0 infF fun vs v new e => by
  unfold infF at e
  split at e
  · simp only [Option.some.injEq, Prod.mk.injEq, decide_eq_true_eq] at e
    obtain ⟨rfl, rfl, h⟩ := e
    exact inf_fn h
  · cases e
noncomputable def laC : Ctr := mk (P := Tryz.prog) [infE, expandE] [] fun i => if i = 13 || i = 18 || i = 22 || i = 25 then some false else none
theorem laC_ok : CtrSound Tryz.prog laC := mk_sound _ InlOK.nil _ _
noncomputable def labelW (sec lb ctx : List Int) (n : Nat) : List Int := expandW sec (infW lb ctx n) n
theorem labelW_len (sec lb ctx : List Int) (n : Nat) : (labelW sec lb ctx n).length = n := expandW_len _ _ _
def laO (sec lb ctx : List Int) (n : Int) : Bool := andT (andT (andT (andT (andT (andT true (!decide ((lb.length : Int) > 255))) (!decide ((ctx.length : Int) > 65536))) (!decide (n < 0))) (!decide (n > 8160))) (andT true (decide ((infW lb ctx n).length ≤ 274877906944))))
  (andT (andT (decide (sec.length = 32) && true) (decide (sec.length = 32))) (decide (sec.length < 274877900000) && decide ((infW lb ctx n).length < 270000000000) && decide (0 ≤ n) && decide (n ≤ 8160)))
theorem laO_true {sec lb ctx : List Int} {n : Int} (hs : sec.length = 32) (hl : lb.length ≤ 255) (hc : ctx.length ≤ 65536) (h0 : 0 ≤ n) (h1 : n ≤ 8160) : laO sec lb ctx n = true := by
  unfold laO
  rw [infW_len, hs, decide_eq_false (show ¬ (lb.length : Int) > 255 by omega), decide_eq_false (show ¬ (ctx.length : Int) > 65536 by omega), decide_eq_false (show ¬ n < 0 by omega), decide_eq_false (show ¬ n > 8160 by omega),
    decide_eq_true (show 7 + lb.length + ctx.length ≤ 274877906944 by omega), decide_eq_true (show 7 + lb.length + ctx.length < 270000000000 by omega), decide_eq_true h0, decide_eq_true h1]
  rfl
theorem label_fn {sec lb ctx : List Int} {n : Nat} (hs : sec.length = 32) (hl : lb.length ≤ 255) (hc : ctx.length ≤ 65536) (h1 : n ≤ 8160) : FnTr Tryz.prog 69 [.agg [.ints .u8 32 sec], .str lb, .ro false .u8 ctx, .int .i64 n] [] (.tup [.ro true .u8 (labelW sec lb ctx n), .nl .nilIface]) [] :=
  call0 laC_ok 60 Tryz.func69 (p := laO sec lb ctx n) (by kernel_rfl) (laO_true hs hl hc (by omega) (by omega)) rfl
noncomputable def labelF : List SV → Option (SV × List Blk × Bool)
  | [.agg [.ints .u8 32 sec], .str lb, .ro false .u8 ctx, .int .i64 n] => some (.tup [.ro true .u8 (labelW sec lb ctx n.toNat), .nl .nilIface], [], decide (sec.length = 32) && decide (lb.length ≤ 255) && decide (ctx.length ≤ 65536) && decide (n.toNat ≤ 8160) && decide (0 ≤ n))
  | _ => none
noncomputable def labelE : Entry Tryz.prog := .val 69 _ Tryz.func69 (by decide) rfl true 0 labelF fun vs v new e => by
  unfold labelF at e
  split at e
  · rename_i sec lb ctx n
    simp only [Option.some.injEq, Prod.mk.injEq, Bool.and_eq_true, decide_eq_true_eq] at e
    obtain ⟨rfl, rfl, ⟨⟨⟨h1, h2⟩, h3⟩, h4⟩, h5⟩ := e
    have k := label_fn (n := n.toNat) h1 h2 h3 h4
    rw [Int.toNat_of_nonneg h5] at k
    exact k
  · cases e
end Go.Proofs.YtibfpjeeanppjaaGreat.Kd
end
