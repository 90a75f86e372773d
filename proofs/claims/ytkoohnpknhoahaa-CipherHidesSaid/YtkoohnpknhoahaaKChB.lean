/- This file proves the contracts of a cipher's New, Jump, Hide, Show and of the reference's Hide and Show of chapter 10. Conditions: numbers from nought on; lengths that the program takes. -/
import Derived.Test.YtkoohnpknhoahaaKChA
import Derived.Test.YtkoohnpknhoahaaKBnF
set_option linter.all false
namespace Go.Proofs.Ytkoohnpknhoahaa.Ch
open Go Go.Sy Sh R4
noncomputable def c0 (f : Nat → Option Bool) : Ctr := mk (P := Try.prog) [] [] f
theorem c0_ok (f : Nat → Option Bool) : CtrSound Try.prog (c0 f) := mk_sound _ InlOK.nil _ _
noncomputable def newF : List SV → Option (SV × List Blk × Bool)
  | [.agg [.ints .u8 32 key]] => some (.ptr 0 0 0, [ci key 0], true)
  | _ => none
set_option maxRecDepth 100000 in
theorem new_fn (key : List Int) : FnTr Try.prog 21 [.agg [.ints .u8 32 key]] [] (.ptr 0 0 0) [ci key 0] :=
  FnTr.sel [1] (callM (c0_ok fun _ => none) 60 Try.func21 2 (by simp) (v := .ptr 1 0 0) (h1 := [.b [.ints .u8 32 key], ci key 0]) (p := true) (by kernel_rfl) rfl rfl rfl) (by kernel_rfl)
noncomputable def newE : Entry Try.prog := .val 21 _ Try.func21 (by decide) rfl false 1 newF fun vs v new e => by
  unfold newF at e
  split at e
  · cases e; exact new_fn _
  · cases e
def pickC (vs : List SV) (_ : List Blk) : List Nat := match vs with
  | .ptr b _ _ :: _ => [b]
  | _ => []
section
variable (key : List Int) (n m : Int)
set_option maxRecDepth 100000 in
theorem jump_a (h1 : n ≤ m) (h2 : m ≤ 4294967295) : FnTr Try.prog 23 [.ptr 0 0 0, .int .i64 m] [ci key n] (.bool true) [ci key m] :=
  callM (c0_ok fun i => if i = 13 || i = 17 then some false else none) 60 Try.func23 1 (by simp) (p := andT (andT true (!decide (m < n))) (!decide (m > 4294967295))) (by kernel_rfl) (by rw [decide_eq_false (show ¬ m < n by omega), decide_eq_false (show ¬ m > 4294967295 by omega)]; rfl) rfl rfl
set_option maxRecDepth 100000 in
theorem jump_b (h1 : m < n) : FnTr Try.prog 23 [.ptr 0 0 0, .int .i64 m] [ci key n] (.bool false) [ci key n] :=
  callM (c0_ok fun i => if i = 13 then some true else none) 60 Try.func23 1 (by simp) (p := andT true (decide (m < n))) (by kernel_rfl) (by rw [decide_eq_true h1]; rfl) rfl rfl
set_option maxRecDepth 100000 in
theorem jump_c (h1 : n ≤ m) (h2 : 4294967295 < m) : FnTr Try.prog 23 [.ptr 0 0 0, .int .i64 m] [ci key n] (.bool false) [ci key n] :=
  callM (c0_ok fun i => if i = 13 then some false else if i = 17 then some true else none) 60 Try.func23 1 (by simp) (p := andT (andT true (!decide (m < n))) (decide (m > 4294967295))) (by kernel_rfl) (by rw [decide_eq_false (show ¬ m < n by omega), decide_eq_true (show m > 4294967295 by omega)]; rfl) rfl rfl
end
def inR (n m : Int) : Bool := decide (n ≤ m) && decide (m ≤ 4294967295)
def jumpF (b : Bool) : List SV → List Blk → Option (SV × List Blk × Bool)
  | [.ptr 0 0 0, .int .i64 m], [.b [.ints .u8 32 key, .bool true, .int .i64 n]] => match b with
    | true => some (.bool true, [ci key m], inR n m)
    | false => some (.bool false, [ci key n], !inR n m)
  | _, _ => none
noncomputable def jumpE (b : Bool) : Entry Try.prog := .mut 23 _ Try.func23 (by decide) rfl pickC 0 (jumpF b) fun vs h0 v h1 e => by
  unfold jumpF at e
  split at e
  · rename_i m key n
    split at e
    · simp only [Option.some.injEq, Prod.mk.injEq, inR, Bool.and_eq_true, decide_eq_true_eq] at e
      obtain ⟨rfl, rfl, h1, h2⟩ := e
      exact jump_a _ _ _ h1 h2
    · simp only [Option.some.injEq, Prod.mk.injEq, inR, Bool.not_eq_true', Bool.and_eq_false_iff, decide_eq_false_iff_not] at e
      obtain ⟨rfl, rfl, h1⟩ := e
      by_cases q : m < n
      · exact jump_b _ _ _ q
      · exact jump_c _ _ _ (by omega) (by omega)
  · cases e
section
variable (key ctx x : List Int) (n : Int)
def usedP : SV := .tup [.nl (.slice none 0 0), .iface 76 (.int .i64 8)]
def badP : SV := .tup [.nl (.slice none 0 0), .iface 76 (.int .i64 2)]
set_option maxRecDepth 100000 in
theorem hide_a : (callS Try.prog (chC false) 60 Try.f25 [.ptr 0 0 0, .ro false .u8 ctx, .ro false .u8 x] [ci key n]).map (fun r => (r.1, r.2.1.take 2, r.2.2)) =
    some (.tup [.sl 1 0 0 1 (x.length + 16) (x.length + 16) false false, .nl .nilIface], [ci key (J (n + 1)), .b [.ints .u8 (x.length + 16) (Ae.sealW key (Ae.nonceW n) ctx x)]], andT true (andT (andT true (!decide (n ≥ 4294967295))) (andT true (true && decide (ctx.length ≤ 1048576) && decide (x.length ≤ 1048576))))) := by kernel_rfl
set_option maxRecDepth 100000 in
theorem hide_u : (callS Try.prog (chC true) 60 Try.f25 [.ptr 0 0 0, .ro false .u8 ctx, .ro false .u8 x] [ci key n]).map (fun r => (r.1, r.2.1.take 1, r.2.2)) =
    some (usedP, [ci key n], andT true (andT true (decide (n ≥ 4294967295)))) := by kernel_rfl
set_option maxRecDepth 100000 in
theorem show_a : (callS Try.prog (chC false) 60 Try.f27 [.ptr 0 0 0, .ro false .u8 ctx, .ro false .u8 x] [ci key n]).map (fun r => (r.1, r.2.1.take 2, r.2.2)) =
    some (.tup [.sl 1 0 0 1 (x.length - 16) (x.length - 16) false false, .nl .nilIface], [ci key (J (n + 1)), .b [.ints .u8 (x.length - 16) (Ae.openW key (Ae.nonceW n) x)]], andT true (andT (andT true (!decide (n ≥ 4294967295))) (andT true (true && decide (ctx.length ≤ 1048592) && decide (x.length ≤ 1048592) && Ae.openB key (Ae.nonceW n) ctx x)))) := by kernel_rfl
set_option maxRecDepth 100000 in
theorem show_u : (callS Try.prog (chC true) 60 Try.f27 [.ptr 0 0 0, .ro false .u8 ctx, .ro false .u8 x] [ci key n]).map (fun r => (r.1, r.2.1.take 1, r.2.2)) =
    some (usedP, [ci key n], andT true (andT true (decide (n ≥ 4294967295)))) := by kernel_rfl
set_option maxRecDepth 100000 in
theorem show_b : (callS Try.prog cbC 60 Try.f27 [.ptr 0 0 0, .ro false .u8 ctx, .ro false .u8 x] [ci key n]).map (fun r => (r.1, r.2.1.take 1, r.2.2)) =
    some (badP, [ci key n], andT true (andT (andT true (!decide (n ≥ 4294967295))) (andT true (true && decide (ctx.length ≤ 1048592) && decide (x.length ≤ 1048592) && !Ae.openB key (Ae.nonceW n) ctx x)))) := by kernel_rfl
end
noncomputable def hideF (u : Bool) : List SV → List Blk → Option (SV × List Blk × Bool)
  | [.ptr 0 0 0, .ro false .u8 ctx, .ro false .u8 x], [.b [.ints .u8 32 key, .bool true, .int .i64 n]] => match u with
    | false => some (.tup [.sl 1 0 0 1 (x.length + 16) (x.length + 16) false false, .nl .nilIface], [ci key (n + 1), .b [.ints .u8 (x.length + 16) (Ae.sealW key (Ae.nonceW n) ctx x)]], decide (0 ≤ n) && decide (n < 4294967295) && decide (ctx.length ≤ 1048576) && decide (x.length ≤ 1048576))
    | true => some (usedP, [ci key n], decide (4294967295 ≤ n))
  | _, _ => none
noncomputable def hideE (u : Bool) : Entry Try.prog := .mut 25 _ Try.func25 (by decide) rfl pickC (match u with | true => 0 | false => 1) (hideF u) fun vs h0 v h1 e => by
  unfold hideF at e
  split at e
  · rename_i ctx x key n
    split at e
    · simp only [Option.some.injEq, Prod.mk.injEq, Bool.and_eq_true, decide_eq_true_eq] at e
      obtain ⟨rfl, rfl, ⟨⟨h1, h2⟩, h3⟩, h4⟩ := e
      have k := hide_a key ctx x n
      rw [J_eq (by omega) (by omega), decide_eq_false (show ¬ n ≥ 4294967295 by omega), decide_eq_true h3, decide_eq_true h4] at k
      exact callM (chC_ok false) 60 Try.func25 2 (by simp) k rfl rfl rfl
    · simp only [Option.some.injEq, Prod.mk.injEq, decide_eq_true_eq] at e
      obtain ⟨rfl, rfl, h1⟩ := e
      have k := hide_u key ctx x n
      rw [decide_eq_true (show n ≥ 4294967295 from h1)] at k
      exact callM (chC_ok true) 60 Try.func25 1 (by simp) k rfl rfl rfl
  · cases e
noncomputable def showF (u : Nat) : List SV → List Blk → Option (SV × List Blk × Bool)
  | [.ptr 0 0 0, .ro false .u8 ctx, .ro false .u8 x], [.b [.ints .u8 32 key, .bool true, .int .i64 n]] => match u with
    | 0 => some (.tup [.sl 1 0 0 1 (x.length - 16) (x.length - 16) false false, .nl .nilIface], [ci key (n + 1), .b [.ints .u8 (x.length - 16) (Ae.openW key (Ae.nonceW n) x)]], decide (0 ≤ n) && decide (n < 4294967295) && decide (ctx.length ≤ 1048592) && decide (x.length ≤ 1048592) && Ae.openB key (Ae.nonceW n) ctx x)
    | 1 => some (badP, [ci key n], decide (n < 4294967295) && decide (ctx.length ≤ 1048592) && decide (x.length ≤ 1048592) && !Ae.openB key (Ae.nonceW n) ctx x)
    | _ => some (usedP, [ci key n], decide (4294967295 ≤ n))
  | _, _ => none
noncomputable def showE (u : Nat) : Entry Try.prog := .mut 27 _ Try.func27 (by decide) rfl pickC (match u with | 0 => 1 | _ => 0) (showF u) fun vs h0 v h1 e => by
  unfold showF at e
  split at e
  · rename_i ctx x key n
    split at e
    · simp only [Option.some.injEq, Prod.mk.injEq, Bool.and_eq_true, decide_eq_true_eq] at e
      obtain ⟨rfl, rfl, ⟨⟨⟨h1, h2⟩, h3⟩, h4⟩, h5⟩ := e
      have k := show_a key ctx x n
      rw [J_eq (by omega) (by omega), decide_eq_false (show ¬ n ≥ 4294967295 by omega), decide_eq_true h3, decide_eq_true h4, h5] at k
      exact callM (chC_ok false) 60 Try.func27 2 (by simp) k rfl rfl rfl
    · simp only [Option.some.injEq, Prod.mk.injEq, Bool.and_eq_true, decide_eq_true_eq, Bool.not_eq_true'] at e
      obtain ⟨rfl, rfl, ⟨⟨h2, h3⟩, h4⟩, h5⟩ := e
      have k := show_b key ctx x n
      rw [decide_eq_false (show ¬ n ≥ 4294967295 by omega), decide_eq_true h3, decide_eq_true h4, h5] at k
      exact callM cbC_ok 60 Try.func27 1 (by simp) k rfl rfl rfl
    · simp only [Option.some.injEq, Prod.mk.injEq, decide_eq_true_eq] at e
      obtain ⟨rfl, rfl, h1⟩ := e
      have k := show_u key ctx x n
      rw [decide_eq_true (show n ≥ 4294967295 from h1)] at k
      exact callM (chC_ok true) 60 Try.func27 1 (by simp) k rfl rfl rfl
  · cases e
noncomputable def qC (b u : Bool) : Ctr := mk (P := Try.prog) [sealQE, openQE b, nonceQE] [] fun i => if i = 20 then some u else none
theorem qC_ok (b u : Bool) : CtrSound Try.prog (qC b u) := mk_sound _ InlOK.nil _ _
def rs (ch ha key : List Int) (n : Int) : SV := .agg [.ints .u8 32 ch, .ints .u8 32 ha, .bool true, .ints .u8 32 key, .int .i64 n]
def usedQ (ch ha key : List Int) (n : Int) : SV := .tup [.nl (.slice none 0 0), rs ch ha key n, .int .i64 8]
def badR (ch ha key : List Int) (n : Int) : SV := .tup [.nl (.slice none 0 0), rs ch ha key n, .int .i64 2]
section
variable (key ctx x ch ha : List Int) (n : Int)
set_option maxRecDepth 100000 in
theorem hq_a : (callS Try.prog (qC true false) 60 Try.f26 [rs ch ha key n, .ro false .u8 ctx, .ro false .u8 x] []).map (fun r => (r.1, r.2.2)) =
    some (.tup [.ro true .u8 (Ae.sealW key (Ae.nonceW n) ctx x), rs ch ha key (J (n + 1)), .int .i64 0], andT (andT true (!decide (n ≥ 4294967295))) (andT true (decide (key.length = 32) && dgB key && true && dgB (Ae.nonceW n) && dgB ctx && decide (ctx.length ≤ 1048576) && decide (x.length ≤ 1048576)))) := by kernel_rfl
set_option maxRecDepth 100000 in
theorem hq_u : (callS Try.prog (qC true true) 60 Try.f26 [rs ch ha key n, .ro false .u8 ctx, .ro false .u8 x] []).map (fun r => (r.1, r.2.2)) = some (usedQ ch ha key n, andT true (decide (n ≥ 4294967295))) := by kernel_rfl
set_option maxRecDepth 100000 in
theorem sq_a : (callS Try.prog (qC true false) 60 Try.f28 [rs ch ha key n, .ro false .u8 ctx, .ro false .u8 x] []).map (fun r => (r.1, r.2.2)) =
    some (.tup [.ro true .u8 (Ae.openW key (Ae.nonceW n) x), rs ch ha key (J (n + 1)), .int .i64 0], andT (andT true (!decide (n ≥ 4294967295))) (andT true (decide (key.length = 32) && dgB key && true && dgB (Ae.nonceW n) && dgB ctx && dgB x && decide (ctx.length ≤ 1048592) && decide (x.length ≤ 1048592) && Ae.openB key (Ae.nonceW n) ctx x))) := by kernel_rfl
set_option maxRecDepth 100000 in
theorem sq_b : (callS Try.prog (qC false false) 60 Try.f28 [rs ch ha key n, .ro false .u8 ctx, .ro false .u8 x] []).map (fun r => (r.1, r.2.2)) =
    some (badR ch ha key n, andT (andT true (!decide (n ≥ 4294967295))) (andT true (decide (key.length = 32) && dgB key && true && dgB (Ae.nonceW n) && dgB ctx && dgB x && decide (ctx.length ≤ 1048592) && decide (x.length ≤ 1048592) && !Ae.openB key (Ae.nonceW n) ctx x))) := by kernel_rfl
set_option maxRecDepth 100000 in
theorem sq_u : (callS Try.prog (qC true true) 60 Try.f28 [rs ch ha key n, .ro false .u8 ctx, .ro false .u8 x] []).map (fun r => (r.1, r.2.2)) = some (usedQ ch ha key n, andT true (decide (n ≥ 4294967295))) := by kernel_rfl
end
theorem nonce_dg (n : Int) : dgB (Ae.nonceW n) = true := dgB_iff.2 ((show Dg [0, 0, 0, 0] from Dg_zeros 4).app (put_dg _))
noncomputable def hideQF (u : Bool) : List SV → Option (SV × List Blk × Bool)
  | [.agg [.ints .u8 32 ch, .ints .u8 32 ha, .bool true, .ints .u8 32 key, .int .i64 n], .ro false .u8 ctx, .ro false .u8 x] => match u with
    | false => some (.tup [.ro true .u8 (Ae.sealW key (Ae.nonceW n) ctx x), rs ch ha key (n + 1), .int .i64 0], [], decide (0 ≤ n) && decide (n < 4294967295) && decide (key.length = 32) && dgB key && dgB ctx && decide (ctx.length ≤ 1048576) && decide (x.length ≤ 1048576))
    | true => some (usedQ ch ha key n, [], decide (4294967295 ≤ n))
  | _ => none
noncomputable def hideQE (u : Bool) : Entry Try.prog := .val 26 _ Try.func26 (by decide) rfl true 0 (hideQF u) fun vs v new e => by
  unfold hideQF at e
  split at e
  · rename_i ch ha key n ctx x
    split at e
    · simp only [Option.some.injEq, Prod.mk.injEq, Bool.and_eq_true, decide_eq_true_eq] at e
      obtain ⟨rfl, rfl, ⟨⟨⟨⟨⟨h1, h2⟩, h3⟩, h4⟩, h5⟩, h6⟩, h7⟩ := e
      have k := hq_a key ctx x ch ha n
      rw [J_eq (by omega) (by omega), decide_eq_false (show ¬ n ≥ 4294967295 by omega), decide_eq_true h3, h4, h5, decide_eq_true h6, decide_eq_true h7, nonce_dg] at k
      exact call0 (qC_ok _ _) 60 Try.func26 k rfl rfl
    · simp only [Option.some.injEq, Prod.mk.injEq, decide_eq_true_eq] at e
      obtain ⟨rfl, rfl, h1⟩ := e
      have k := hq_u key ctx x ch ha n
      rw [decide_eq_true (show n ≥ 4294967295 from h1)] at k
      exact call0 (qC_ok _ _) 60 Try.func26 k rfl rfl
  · cases e
noncomputable def showQF (u : Nat) : List SV → Option (SV × List Blk × Bool)
  | [.agg [.ints .u8 32 ch, .ints .u8 32 ha, .bool true, .ints .u8 32 key, .int .i64 n], .ro false .u8 ctx, .ro false .u8 x] => match u with
    | 0 => some (.tup [.ro true .u8 (Ae.openW key (Ae.nonceW n) x), rs ch ha key (n + 1), .int .i64 0], [], decide (0 ≤ n) && decide (n < 4294967295) && decide (key.length = 32) && dgB key && dgB ctx && dgB x && decide (ctx.length ≤ 1048592) && decide (x.length ≤ 1048592) && Ae.openB key (Ae.nonceW n) ctx x)
    | 1 => some (badR ch ha key n, [], decide (n < 4294967295) && decide (key.length = 32) && dgB key && dgB ctx && dgB x && decide (ctx.length ≤ 1048592) && decide (x.length ≤ 1048592) && !Ae.openB key (Ae.nonceW n) ctx x)
    | _ => some (usedQ ch ha key n, [], decide (4294967295 ≤ n))
  | _ => none
noncomputable def showQE (u : Nat) : Entry Try.prog := .val 28 _ Try.func28 (by decide) rfl true 0 (showQF u) fun vs v new e => by
  unfold showQF at e
  split at e
  · rename_i ch ha key n ctx x
    split at e
    · simp only [Option.some.injEq, Prod.mk.injEq, Bool.and_eq_true, decide_eq_true_eq] at e
      obtain ⟨rfl, rfl, ⟨⟨⟨⟨⟨⟨⟨h1, h2⟩, h3⟩, h4⟩, h5⟩, h8⟩, h6⟩, h7⟩, h9⟩ := e
      have k := sq_a key ctx x ch ha n
      rw [J_eq (by omega) (by omega), decide_eq_false (show ¬ n ≥ 4294967295 by omega), decide_eq_true h3, h4, h5, h8, decide_eq_true h6, decide_eq_true h7, nonce_dg, h9] at k
      exact call0 (qC_ok _ _) 60 Try.func28 k rfl rfl
    · simp only [Option.some.injEq, Prod.mk.injEq, Bool.and_eq_true, decide_eq_true_eq, Bool.not_eq_true'] at e
      obtain ⟨rfl, rfl, ⟨⟨⟨⟨⟨⟨h2, h3⟩, h4⟩, h5⟩, h8⟩, h6⟩, h7⟩, h9⟩ := e
      have k := sq_b key ctx x ch ha n
      rw [decide_eq_false (show ¬ n ≥ 4294967295 by omega), decide_eq_true h3, h4, h5, h8, decide_eq_true h6, decide_eq_true h7, nonce_dg, h9] at k
      exact call0 (qC_ok _ _) 60 Try.func28 k rfl rfl
    · simp only [Option.some.injEq, Prod.mk.injEq, decide_eq_true_eq] at e
      obtain ⟨rfl, rfl, h1⟩ := e
      have k := sq_u key ctx x ch ha n
      rw [decide_eq_true (show n ≥ 4294967295 from h1)] at k
      exact call0 (qC_ok _ _) 60 Try.func28 k rfl rfl
  · cases e
end Go.Proofs.Ytkoohnpknhoahaa.Ch
