/- This file proves the contracts of the program's Seal and Open in memory of their own, and of a cipher's Hide and Show. Conditions: nonces of 12 bytes; lengths that the program takes. -/
import Derived.Test.YtkoohnpknhoahaaKCpB
import Derived.Test.YtkoohnpknhoahaaKR4L
set_option linter.all false
namespace Go.Proofs.Ytkoohnpknhoahaa.Ch
open Go Go.Sy Sh
noncomputable def seT : Ctr := mk (P := Try.prog) [Cc.mixE, Ae.mark0E, Sh.concatTE] [] fun i => if i = 15 || i = 19 || i = 24 then some false else none
theorem seT_ok : CtrSound Try.prog seT := mk_sound _ InlOK.nil _ _
set_option maxRecDepth 100000 in
theorem seT_run (key nonce ctx text : List Int) : (callS Try.prog seT 60 Try.f69 [.agg [.ints .u8 32 key], .ro false .u8 nonce, .ro false .u8 ctx, .ro false .u8 text] []).map (fun x => (x.1, x.2.1.take 3, x.2.2)) =
    some (.tup [.sl 2 0 0 1 [Cc.mixW key nonce 1 text, Ae.mkW key nonce ctx (Cc.mixW key nonce 1 text)].flatten.length [Cc.mixW key nonce 1 text, Ae.mkW key nonce ctx (Cc.mixW key nonce 1 text)].flatten.length false false, .nl .nilIface],
      [.b [.ints .u8 32 key], .b [.ro true .u8 (Cc.mixW key nonce 1 text), .ro true .u8 (Ae.mkW key nonce ctx (Cc.mixW key nonce 1 text))], .b [.ints .u8 [Cc.mixW key nonce 1 text, Ae.mkW key nonce ctx (Cc.mixW key nonce 1 text)].flatten.length [Cc.mixW key nonce 1 text, Ae.mkW key nonce ctx (Cc.mixW key nonce 1 text)].flatten]], Ae.seO key nonce ctx text) := by kernel_rfl
theorem sealT_fn {key nonce ctx text : List Int} (hn : nonce.length = 12) (h1 : ctx.length ≤ 1048576) (h2 : text.length ≤ 1048576) :
    FnTr Try.prog 69 [.agg [.ints .u8 32 key], .ro false .u8 nonce, .ro false .u8 ctx, .ro false .u8 text] [] (.tup [.sl 0 0 0 1 (text.length + 16) (text.length + 16) false false, .nl .nilIface]) [.b [.ints .u8 (text.length + 16) (Ae.sealW key nonce ctx text)]] := by
  have e : [Cc.mixW key nonce 1 text, Ae.mkW key nonce ctx (Cc.mixW key nonce 1 text)].flatten = Ae.sealW key nonce ctx text := by simp [Ae.sealW]
  have k := callM seT_ok 60 Try.func69 3 (by simp) (seT_run key nonce ctx text) (by
    unfold Ae.seO
    rw [e, Ae.sealW_len, Ae.mixW_len, hn, decide_eq_false (show ¬ ((ctx.length : Int) > 1048576) by omega), decide_eq_false (show ¬ ((text.length : Int) > 1048576) by omega), decide_eq_true (show (1 : Int) + (text.length / 64 : Nat) ≤ 4294967295 by omega), decide_eq_true (show text.length ≤ 281474976710656 by omega), decide_eq_true (show ctx.length + text.length ≤ 274877906000 by omega), decide_eq_true (show text.length + 16 ≤ 274877906944 by omega)]
    rfl) rfl rfl
  rw [e, Ae.sealW_len] at k
  exact FnTr.sel [2] k (by kernel_rfl)
noncomputable def sealTF : List SV → Option (SV × List Blk × Bool)
  | [.agg [.ints .u8 32 key], .ro false .u8 nonce, .ro false .u8 ctx, .ro false .u8 text] => some (.tup [.sl 0 0 0 1 (text.length + 16) (text.length + 16) false false, .nl .nilIface], [.b [.ints .u8 (text.length + 16) (Ae.sealW key nonce ctx text)]], decide (nonce.length = 12) && decide (ctx.length ≤ 1048576) && decide (text.length ≤ 1048576))
  | _ => none
noncomputable def sealTE : Entry Try.prog := .val 69 _ Try.func69 (by decide) rfl true 1 sealTF fun vs v new e => by
  unfold sealTF at e
  split at e
  · simp only [Option.some.injEq, Prod.mk.injEq, Bool.and_eq_true, decide_eq_true_eq] at e
    obtain ⟨rfl, rfl, ⟨h1, h2⟩, h3⟩ := e
    exact sealT_fn h1 h2 h3
  · cases e
noncomputable def opT : Ctr := mk (P := Try.prog) [Cc.mixTE, Ae.mark0E, Ae.equalE] [] fun i => if i = 19 || i = 23 || i = 28 || i = 33 || i = 53 then some false else none
theorem opT_ok : CtrSound Try.prog opT := mk_sound _ InlOK.nil _ _
set_option maxRecDepth 100000 in
theorem opT_run (key nonce ctx x : List Int) : (callS Try.prog opT 60 Try.f72 [.agg [.ints .u8 32 key], .ro false .u8 nonce, .ro false .u8 ctx, .ro false .u8 x] []).map (fun x => (x.1, x.2.1.take 2, x.2.2)) =
    some (.tup [.sl 1 0 0 1 (Ae.opT x).length (Ae.opT x).length false false, .nl .nilIface], [.b [.ints .u8 32 key], .b [.ints .u8 (Ae.opT x).length (Cc.mixW key nonce 1 (Ae.opT x))]], Ae.op3 key nonce ctx x) := by kernel_rfl
theorem openT_fn {key nonce ctx x : List Int} (hn : nonce.length = 12) (h1 : ctx.length ≤ 1048592) (h2 : x.length ≤ 1048592) (ok : Ae.openB key nonce ctx x = true) :
    FnTr Try.prog 72 [.agg [.ints .u8 32 key], .ro false .u8 nonce, .ro false .u8 ctx, .ro false .u8 x] [] (.tup [.sl 0 0 0 1 (x.length - 16) (x.length - 16) false false, .nl .nilIface]) [.b [.ints .u8 (x.length - 16) (Ae.openW key nonce x)]] := by
  obtain ⟨a1, a2, a3⟩ := Ae.op_facts (key := key) hn h1 h2
  unfold Ae.openB at ok
  simp only [Bool.and_eq_true, decide_eq_true_eq] at ok
  obtain ⟨b1, b2, b3, b4⟩ := a2 ok.1
  have k := callM opT_ok 60 Try.func72 2 (by simp) (opT_run key nonce ctx x) (by
    unfold Ae.op3
    rw [b3, b4, b1, b2, hn, decide_eq_true ok.2, decide_eq_true (show (1 : Int) + ((x.take (x.length - 16)).length / 64 : Nat) ≤ 4294967295 by rw [List.length_take]; omega), decide_eq_true (show (x.take (x.length - 16)).length ≤ 281474976710656 by rw [List.length_take]; omega)]
    rfl) rfl rfl
  have hl : (x.take (x.length - 16)).length = x.length - 16 := by rw [List.length_take]; omega
  rw [b1, hl] at k
  exact FnTr.sel [1] k (by kernel_rfl)
noncomputable def openTF (ok : Bool) : List SV → Option (SV × List Blk × Bool)
  | [.agg [.ints .u8 32 key], .ro false .u8 nonce, .ro false .u8 ctx, .ro false .u8 x] => match ok with
    | true => some (.tup [.sl 0 0 0 1 (x.length - 16) (x.length - 16) false false, .nl .nilIface], [.b [.ints .u8 (x.length - 16) (Ae.openW key nonce x)]], decide (nonce.length = 12) && decide (ctx.length ≤ 1048592) && decide (x.length ≤ 1048592) && Ae.openB key nonce ctx x)
    | false => none
  | _ => none
noncomputable def openTE : Entry Try.prog := .val 72 _ Try.func72 (by decide) rfl true 1 (openTF true) fun vs v new e => by
  unfold openTF at e
  split at e
  · simp only [Option.some.injEq, Prod.mk.injEq, Bool.and_eq_true, decide_eq_true_eq] at e
    obtain ⟨rfl, rfl, ⟨⟨h1, h2⟩, h3⟩, h4⟩ := e
    exact openT_fn h1 h2 h3 h4
  · cases e
def ci (key : List Int) (n : Int) : Blk := .b [.ints .u8 32 key, .bool true, .int .i64 n]
noncomputable def inlC : List (FuncId × Func) := [(68, Try.f68)]
theorem inlC_ok : InlOK Try.prog inlC := InlOK.cons Try.func68 (by decide) InlOK.nil
noncomputable def chC (b : Bool) : Ctr := Ctr.withNb (mk (P := Try.prog) [sealTE, openTE, Ae.nonceE] inlC fun i => if i = 25 then some b else none) (fun t => if t = 38 then 1 else 0)
theorem chC_ok (b : Bool) : CtrSound Try.prog (chC b) := Ctr.withNb_ok (mk_sound _ inlC_ok _ _) _
noncomputable def cbC : Ctr := mk (P := Try.prog) [Ae.openE false, Ae.nonceE] inlC fun i => if i = 25 then some false else none
theorem cbC_ok : CtrSound Try.prog cbC := mk_sound _ inlC_ok _ _
end Go.Proofs.Ytkoohnpknhoahaa.Ch
