/- This file proves the contracts of Seal and Open of the reference's chapter 4: they are the program's. Conditions: keys of 32 bytes; nonces of 12 bytes; texts of bytes; lengths that the program takes. -/
import Derived.Test.YtibfpjeeanppjaaGreatVR4K
set_option linter.all false
set_option maxRecDepth 100000
namespace Go.Proofs.YtibfpjeeanppjaaGreat.R4
open Go Go.Sy Sh
noncomputable def mixF : List SV → Option (SV × List Blk × Bool)
  | [.agg [.ints .u8 32 key], .ro false .u8 nonce, .int .i64 n, .ro false .u8 text] => some (.tup [.sl 0 0 0 1 text.length text.length false true, .int .i64 0], [.b [.ints .u8 text.length (Cc.mixW key nonce n text)]],
      decide (key.length = 32) && dgB key && decide (nonce.length = 12) && dgB nonce && decide (0 ≤ n) && decide (n + (text.length / 64 : Nat) ≤ 4294967295) && decide (text.length < 274877906000))
  | _ => none
noncomputable def mixE : Entry Tryz.prog := .val 76 _ Tryz.func76 (by decide) rfl true 1 mixF fun vs v new e => by
  unfold mixF at e
  split at e
  · simp only [Option.some.injEq, Prod.mk.injEq, Bool.and_eq_true, decide_eq_true_eq] at e
    obtain ⟨rfl, rfl, ⟨⟨⟨⟨⟨h1, h2⟩, h3⟩, h4⟩, h5⟩, h6⟩, h7⟩ := e
    exact R3.mix_fn h1 h2 h3 h4 h5 h6 h7
  · cases e
theorem markW_dg (k t : List Int) : Dg (Ae.markW k t) := by
  rw [Ae.markW, Lock_eq]
  exact (put_dg _).app (put_dg _)
theorem mkW_dg (key nonce ctx x : List Int) : Dg (Ae.mkW key nonce ctx x) := markW_dg _ _
theorem mix_dg {key nonce text : List Int} (n : Int) : Dg (Cc.mixW key nonce n text) := fun z hz => by
  unfold Cc.mixW at hz
  obtain ⟨j, _, rfl⟩ := List.mem_map.1 hz
  show 0 ≤ xorI .u8 _ _ ∧ xorI .u8 _ _ < 256
  unfold xorI bitsI
  rw [Fe.wrap_u8]
  omega
noncomputable def sqC (f : Nat → Option Bool) : Ctr := mk (P := Tryz.prog) [mixE, mark0E] [] f
theorem sqC_ok (f : Nat → Option Bool) : CtrSound Tryz.prog (sqC f) := mk_sound _ InlOK.nil _ _
def sqA : Nat → Option Bool := fun i => if i = 15 || i = 19 || i = 24 then some false else if i = 40 then some true else none
noncomputable def sqO (key nonce ctx text : List Int) : Bool :=
  let m := Cc.mixW key nonce 1 text
  let A := andT (andT (andT (andT true (!((nonce.length : Int) != 12))) (!decide ((ctx.length : Int) > 1048576))) (!decide ((text.length : Int) > 1048576))) (andT true (decide (key.length = 32) && dgB key && decide (nonce.length = 12) && dgB nonce && true && decide ((1 : Int) + (text.length / 64 : Nat) ≤ 4294967295) && decide (text.length < 274877906000)))
  let B := andT A (andT (andT true (andT true (andT true (andT (decide (m.length = text.length) && (decide (text.length ≤ text.length) && true)) (decide (m.length = text.length)))))) (decide (key.length = 32) && dgB key && decide (nonce.length = 12) && dgB nonce && dgB ctx && dgB m && decide (ctx.length + m.length < 50000000)))
  andT B (andT (andT (andT (decide ((Ae.mkW key nonce ctx m).length = 16) && true) (decide (m.length = text.length) && (decide (text.length ≤ text.length) && true))) (decide (m.length = text.length))) (decide (text.length + 16 ≤ 274877906944)))
theorem sq_run (key nonce ctx text : List Int) : (callS Tryz.prog (sqC sqA) 60 Tryz.f43 [.agg [.ints .u8 32 key], .ro false .u8 nonce, .ro false .u8 ctx, .ro false .u8 text] []).map (fun r => (r.1, r.2.1.take 2, r.2.2)) =
    some (.tup [.sl 1 0 0 1 (text.length + 16) (text.length + 16) false true, .int .i64 0], [.b [.ints .u8 32 key], .b [.ints .u8 (text.length + 16) (Ae.sealW key nonce ctx text)]], sqO key nonce ctx text) := by kernel_rfl
theorem sq_sl {key nonce ctx text : List Int} (hk : key.length = 32) (dk : Dg key) (hn : nonce.length = 12) (dn : Dg nonce) (dc : Dg ctx) (h1 : ctx.length ≤ 1048576) (h2 : text.length ≤ 1048576) :
    FnTr Tryz.prog 43 [.agg [.ints .u8 32 key], .ro false .u8 nonce, .ro false .u8 ctx, .ro false .u8 text] [] (.tup [.sl 0 0 0 1 (text.length + 16) (text.length + 16) false true, .int .i64 0]) [.b [.ints .u8 (text.length + 16) (Ae.sealW key nonce ctx text)]] := by
  have hm := Ae.mixW_len key nonce 1 text
  have ho : sqO key nonce ctx text = true := by
    unfold sqO
    simp only [hm, Ae.mkW_len, hk, hn, dgB_iff.2 dk, dgB_iff.2 dn, dgB_iff.2 dc, dgB_iff.2 (mix_dg (key := key) (nonce := nonce) (text := text) 1)]
    rw [decide_eq_false (show ¬ ((ctx.length : Int) > 1048576) by omega), decide_eq_false (show ¬ ((text.length : Int) > 1048576) by omega), decide_eq_true (show (1 : Int) + (text.length / 64 : Nat) ≤ 4294967295 by omega), decide_eq_true (show text.length < 274877906000 by omega), decide_eq_true (show ctx.length + text.length < 50000000 by omega), decide_eq_true (show text.length + 16 ≤ 274877906944 by omega), decide_eq_true (Nat.le_refl text.length)]
    rfl
  exact FnTr.sel [1] (callM (sqC_ok sqA) 60 Tryz.func43 2 (by simp) (sq_run key nonce ctx text) ho rfl rfl) (by kernel_rfl)
noncomputable def sealQF : List SV → Option (SV × List Blk × Bool)
  | [.agg [.ints .u8 32 key], .ro false .u8 nonce, .ro false .u8 ctx, .ro false .u8 text] => some (.tup [.ro true .u8 (Ae.sealW key nonce ctx text), .int .i64 0], [], decide (key.length = 32) && dgB key && decide (nonce.length = 12) && dgB nonce && dgB ctx && decide (ctx.length ≤ 1048576) && decide (text.length ≤ 1048576))
  | _ => none
noncomputable def sealQE : Entry Tryz.prog := .val 43 _ Tryz.func43 (by decide) rfl true 0 sealQF fun vs v new e => by
  unfold sealQF at e
  split at e
  · rename_i key nonce ctx text
    simp only [Option.some.injEq, Prod.mk.injEq, Bool.and_eq_true, decide_eq_true_eq, dgB_iff] at e
    obtain ⟨rfl, rfl, ⟨⟨⟨⟨⟨h1, h2⟩, h3⟩, h4⟩, h5⟩, h6⟩, h7⟩ := e
    exact FnTr.fz 0 0 (by simp) (by simp) (sq_sl h1 h2 h3 h4 h5 h6 h7) (u := .tup [.ro true .u8 (Ae.sealW key nonce ctx text), .int .i64 0]) (h2 := []) (p := andT (decide ((Ae.sealW key nonce ctx text).length = text.length + 16)) (decide (text.length + 16 = text.length + 16) && true)) (by kernel_rfl) (by rw [Ae.sealW_len, decide_eq_true rfl]; rfl)
  · cases e
def oqA (a b : Bool) : Nat → Option Bool := fun i => if i = 16 || i = 20 || i = 25 then some false else if i = 31 then some a else if i = 45 then some b else none
noncomputable def oqM (key nonce ctx x : List Int) : List Int := Ae.mkW key nonce ctx (Ae.opT x)
noncomputable def oqF (key nonce ctx x : List Int) : Bool :=
  let m := oqM key nonce ctx x
  let A := andT (Ae.op1 nonce ctx x) (!decide (Ae.opA x < 0))
  let C := andT (andT A (Ae.opb x)) (andT true (decide (key.length = 32) && dgB key && decide (nonce.length = 12) && dgB nonce && dgB ctx && dgB (Ae.opT x) && decide (ctx.length + (Ae.opT x).length < 50000000)))
  let D := andT C (andT (andT (decide (m.length = 16) && true) (decide (m.length = 16))) (u8R m))
  let E := andT D (andT true (Ae.opb x))
  andT E (andT (andT true (decide ((Ae.opM x).length = (Ae.opM x).length))) (u8R (Ae.opM x)))
noncomputable def oqG (key nonce ctx x : List Int) : Bool :=
  andT (andT (andT (oqF key nonce ctx x) (!!decide (oqM key nonce ctx x = Ae.opM x))) (Ae.opb x)) (andT true (decide (key.length = 32) && dgB key && decide (nonce.length = 12) && dgB nonce && true && decide ((1 : Int) + ((Ae.opT x).length / 64 : Nat) ≤ 4294967295) && decide ((Ae.opT x).length < 274877906000)))
def badQ : SV := .tup [.nl (.slice none 0 0), .int .i64 2]
section
variable (key nonce ctx x : List Int)
theorem oq_run1 : (callS Tryz.prog (sqC (oqA true true)) 60 Tryz.f47 [.agg [.ints .u8 32 key], .ro false .u8 nonce, .ro false .u8 ctx, .ro false .u8 x] []).map (fun r => (r.1, r.2.2)) = some (badQ, andT (Ae.op1 nonce ctx x) (decide (Ae.opA x < 0))) := by kernel_rfl
theorem oq_run2 : (callS Tryz.prog (sqC (oqA false true)) 60 Tryz.f47 [.agg [.ints .u8 32 key], .ro false .u8 nonce, .ro false .u8 ctx, .ro false .u8 x] []).map (fun r => (r.1, r.2.2)) = some (badQ, andT (oqF key nonce ctx x) (!decide (oqM key nonce ctx x = Ae.opM x))) := by kernel_rfl
theorem oq_run3 : (callS Tryz.prog (sqC (oqA false false)) 60 Tryz.f47 [.agg [.ints .u8 32 key], .ro false .u8 nonce, .ro false .u8 ctx, .ro false .u8 x] []).map (fun r => (r.1, r.2.1.take 3, r.2.2)) =
    some (.tup [.sl 2 0 0 1 (Ae.opT x).length (Ae.opT x).length false true, .int .i64 0], [.b [.ints .u8 32 key], .b [.ints .u8 16 (oqM key nonce ctx x)], .b [.ints .u8 (Ae.opT x).length (Cc.mixW key nonce 1 (Ae.opT x))]], oqG key nonce ctx x) := by kernel_rfl
end
section
variable {key nonce ctx x : List Int} (hk : key.length = 32) (dk : Dg key) (hn : nonce.length = 12) (dn : Dg nonce) (dc : Dg ctx) (dx : Dg x) (h1 : ctx.length ≤ 1048592) (h2 : x.length ≤ 1048592)
include hk dk hn dn dc dx h1 h2 in
theorem oqF_true (h : 16 ≤ x.length) : oqF key nonce ctx x = true := by
  obtain ⟨a1, a2, a3⟩ := Ae.op_facts (key := key) hn h1 h2
  obtain ⟨b1, b2, b3, b4⟩ := a2 h
  have hl : (Ae.opT x).length ≤ x.length := by rw [b1, List.length_take]; omega
  unfold oqF oqM
  simp only [a1, a3, b4, hk, hn, dgB_iff.2 dk, dgB_iff.2 dn, dgB_iff.2 dc, Ae.mkW_len]
  rw [dgB_iff.2 (show Dg (Ae.opT x) by rw [b1]; exact dx.take _), show u8R (Ae.opM x) = true from dgB_iff.2 (by rw [b2]; exact dx.drop _), show u8R (Ae.mkW key nonce ctx (Ae.opT x)) = true from dgB_iff.2 (mkW_dg _ _ _ _), decide_eq_true h, decide_eq_true (show ctx.length + (Ae.opT x).length < 50000000 by omega)]
  rfl
include hk dk hn dn dc dx h1 h2 in
theorem openQ_bad (ok : Ae.openB key nonce ctx x = false) : FnTr Tryz.prog 47 [.agg [.ints .u8 32 key], .ro false .u8 nonce, .ro false .u8 ctx, .ro false .u8 x] [] badQ [] := by
  obtain ⟨a1, a2, a3⟩ := Ae.op_facts (key := key) hn h1 h2
  unfold Ae.openB at ok
  by_cases h : 16 ≤ x.length
  · obtain ⟨b1, b2, b3, b4⟩ := a2 h
    rw [decide_eq_true h, Bool.true_and] at ok
    have hf := oqF_true hk dk hn dn dc dx h1 h2 h
    exact call0 (sqC_ok _) 60 Tryz.func47 (oq_run2 key nonce ctx x) (by rw [hf]; unfold oqM; rw [b1, b2, ok]; rfl) rfl
  · rw [decide_eq_false h] at a3
    exact call0 (sqC_ok _) 60 Tryz.func47 (oq_run1 key nonce ctx x) (by rw [a1, a3]; rfl) rfl
include hk dk hn dn dc dx h1 h2 in
theorem openQ_fn (ok : Ae.openB key nonce ctx x = true) : FnTr Tryz.prog 47 [.agg [.ints .u8 32 key], .ro false .u8 nonce, .ro false .u8 ctx, .ro false .u8 x] [] (.tup [.ro true .u8 (Ae.openW key nonce x), .int .i64 0]) [] := by
  obtain ⟨a1, a2, a3⟩ := Ae.op_facts (key := key) hn h1 h2
  unfold Ae.openB at ok
  simp only [Bool.and_eq_true, decide_eq_true_eq] at ok
  obtain ⟨b1, b2, b3, b4⟩ := a2 ok.1
  have hf := oqF_true hk dk hn dn dc dx h1 h2 ok.1
  have hl : (Ae.opT x).length ≤ x.length := by rw [b1, List.length_take]; omega
  have hg : oqG key nonce ctx x = true := by
    unfold oqG
    rw [hf, b4, hk, hn, dgB_iff.2 dk, dgB_iff.2 dn, decide_eq_true (show (1 : Int) + ((Ae.opT x).length / 64 : Nat) ≤ 4294967295 by omega), decide_eq_true (show (Ae.opT x).length < 274877906000 by omega), show oqM key nonce ctx x = Ae.opM x by unfold oqM; rw [b1, b2]; exact ok.2, decide_eq_true rfl]
    rfl
  have g := callM (sqC_ok _) 60 Tryz.func47 3 (by simp) (oq_run3 key nonce ctx x) hg rfl rfl
  have hw : Ae.openW key nonce x = Cc.mixW key nonce 1 (Ae.opT x) := by unfold Ae.openW; rw [b1]
  rw [hw]
  exact FnTr.fz 2 0 (by simp) (by simp) g (u := .tup [.ro true .u8 (Cc.mixW key nonce 1 (Ae.opT x)), .int .i64 0]) (h2 := []) (p := andT (decide ((Cc.mixW key nonce 1 (Ae.opT x)).length = (Ae.opT x).length)) (decide ((Ae.opT x).length = (Ae.opT x).length) && true)) (by kernel_rfl) (by rw [Ae.mixW_len, decide_eq_true rfl]; rfl)
end
noncomputable def openQF (ok : Bool) : List SV → Option (SV × List Blk × Bool)
  | [.agg [.ints .u8 32 key], .ro false .u8 nonce, .ro false .u8 ctx, .ro false .u8 x] => match ok with
    | true => some (.tup [.ro true .u8 (Ae.openW key nonce x), .int .i64 0], [], decide (key.length = 32) && dgB key && decide (nonce.length = 12) && dgB nonce && dgB ctx && dgB x && decide (ctx.length ≤ 1048592) && decide (x.length ≤ 1048592) && Ae.openB key nonce ctx x)
    | false => some (badQ, [], decide (key.length = 32) && dgB key && decide (nonce.length = 12) && dgB nonce && dgB ctx && dgB x && decide (ctx.length ≤ 1048592) && decide (x.length ≤ 1048592) && !Ae.openB key nonce ctx x)
  | _ => none
noncomputable def openQE (ok : Bool) : Entry Tryz.prog := .val 47 _ Tryz.func47 (by decide) rfl true 0 (openQF ok) fun vs v new e => by
  unfold openQF at e
  split at e
  · split at e
    · simp only [Option.some.injEq, Prod.mk.injEq, Bool.and_eq_true, decide_eq_true_eq, dgB_iff] at e
      obtain ⟨rfl, rfl, ⟨⟨⟨⟨⟨⟨⟨h1, h2⟩, h3⟩, h4⟩, h5⟩, h6⟩, h7⟩, h8⟩, h9⟩ := e
      exact openQ_fn h1 h2 h3 h4 h5 h6 h7 h8 h9
    · simp only [Option.some.injEq, Prod.mk.injEq, Bool.and_eq_true, decide_eq_true_eq, dgB_iff, Bool.not_eq_true'] at e
      obtain ⟨rfl, rfl, ⟨⟨⟨⟨⟨⟨⟨h1, h2⟩, h3⟩, h4⟩, h5⟩, h6⟩, h7⟩, h8⟩, h9⟩ := e
      exact openQ_bad h1 h2 h3 h4 h5 h6 h7 h8 h9
  · cases e
end Go.Proofs.YtibfpjeeanppjaaGreat.R4
