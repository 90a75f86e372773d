/- This file proves the contracts of aead's Seal and Open, and that what is sealed is opened. Conditions: nonces of 12 bytes; lengths that the program takes. -/
import Derived.Test.YtkoohnpknhoahaaJAeE
set_option linter.all false
namespace Go.Proofs.Ytkoohnpknhoahaa.Ae
open Go Go.Sy Sh
noncomputable def seC : Ctr := mk (P := Try.prog) [Cc.mixE, mark0E, Sh.concatE] [] fun i => if i = 15 || i = 19 || i = 24 then some false else none
theorem seC_ok : CtrSound Try.prog seC := mk_sound _ InlOK.nil _ _
noncomputable def sealW (key nonce ctx text : List Int) : List Int := Cc.mixW key nonce 1 text ++ mkW key nonce ctx (Cc.mixW key nonce 1 text)
theorem mixW_len (key nonce : List Int) (n : Int) (text : List Int) : (Cc.mixW key nonce n text).length = text.length := by simp [Cc.mixW]
theorem sealW_len (key nonce ctx text : List Int) : (sealW key nonce ctx text).length = text.length + 16 := by unfold sealW; rw [List.length_append, mixW_len, mkW_len]
noncomputable def seO (key nonce ctx text : List Int) : Bool := andT (andT (andT (andT (andT (andT true (!((nonce.length : Int) != 12))) (!decide ((ctx.length : Int) > 1048576))) (!decide ((text.length : Int) > 1048576))) (andT true (decide (nonce.length = 12) && true && decide ((1 : Int) + (text.length / 64 : Nat) ≤ 4294967295) && decide (text.length ≤ 281474976710656))))
  (andT true (decide (nonce.length = 12) && decide (ctx.length + (Cc.mixW key nonce 1 text).length ≤ 274877906000)))) (andT true (decide ([Cc.mixW key nonce 1 text, mkW key nonce ctx (Cc.mixW key nonce 1 text)].flatten.length ≤ 274877906944) && true))
set_option maxRecDepth 100000 in
theorem seal_run (key nonce ctx text : List Int) : (callS Try.prog seC 60 Try.f69 [.agg [.ints .u8 32 key], .ro false .u8 nonce, .ro false .u8 ctx, .ro false .u8 text] []).map (fun x => (x.1, x.2.2)) =
    some (.tup [.ro true .u8 [Cc.mixW key nonce 1 text, mkW key nonce ctx (Cc.mixW key nonce 1 text)].flatten, .nl .nilIface], seO key nonce ctx text) := by kernel_rfl
theorem seal_fn {key nonce ctx text : List Int} (hn : nonce.length = 12) (h1 : ctx.length ≤ 1048576) (h2 : text.length ≤ 1048576) :
    FnTr Try.prog 69 [.agg [.ints .u8 32 key], .ro false .u8 nonce, .ro false .u8 ctx, .ro false .u8 text] [] (.tup [.ro true .u8 (sealW key nonce ctx text), .nl .nilIface]) [] := by
  have e : [Cc.mixW key nonce 1 text, mkW key nonce ctx (Cc.mixW key nonce 1 text)].flatten = sealW key nonce ctx text := by simp [sealW]
  have k := call0 seC_ok 60 Try.func69 (seal_run key nonce ctx text) (by
    unfold seO
    rw [e, sealW_len, mixW_len, hn, decide_eq_false (show ¬ ((ctx.length : Int) > 1048576) by omega), decide_eq_false (show ¬ ((text.length : Int) > 1048576) by omega), decide_eq_true (show (1 : Int) + (text.length / 64 : Nat) ≤ 4294967295 by omega), decide_eq_true (show text.length ≤ 281474976710656 by omega), decide_eq_true (show ctx.length + text.length ≤ 274877906000 by omega), decide_eq_true (show text.length + 16 ≤ 274877906944 by omega)]
    rfl) rfl
  rw [e] at k
  exact k
noncomputable def sealF : List SV → Option (SV × List Blk × Bool)
  | [.agg [.ints .u8 32 key], .ro false .u8 nonce, .ro false .u8 ctx, .ro false .u8 text] => some (.tup [.ro true .u8 (sealW key nonce ctx text), .nl .nilIface], [], decide (nonce.length = 12) && decide (ctx.length ≤ 1048576) && decide (text.length ≤ 1048576))
  | _ => none
noncomputable def sealE : Entry Try.prog := .val 69 _ Try.func69 (by decide) rfl true 0 sealF fun vs v new e => by
  unfold sealF at e
  split at e
  · simp only [Option.some.injEq, Prod.mk.injEq, Bool.and_eq_true, decide_eq_true_eq] at e
    obtain ⟨rfl, rfl, ⟨h1, h2⟩, h3⟩ := e
    exact seal_fn h1 h2 h3
  · cases e
noncomputable def opC (a b : Bool) : Ctr := mk (P := Try.prog) [Cc.mixE, mark0E, equalE] [] fun i => if i = 19 || i = 23 || i = 28 then some false else if i = 33 then some a else if i = 53 then some b else none
theorem opC_ok (a b : Bool) : CtrSound Try.prog (opC a b) := mk_sound _ InlOK.nil _ _
def opA (x : List Int) : Int := IntKind.i64.wrap ((x.length : Int) - 16)
def opT (x : List Int) : List Int := x.take (opA x).toNat
def opM (x : List Int) : List Int := x.drop (opA x).toNat
def op1 (nonce ctx x : List Int) : Bool := andT (andT (andT true (!((nonce.length : Int) != 12))) (!decide ((ctx.length : Int) > 1048592))) (!decide ((x.length : Int) > 1048592))
def opb (x : List Int) : Bool := andT true (decide (0 ≤ opA x) && decide (opA x ≤ (x.length : Int)))
noncomputable def op2 (key nonce ctx x : List Int) : Bool := andT (andT (andT (andT (andT (op1 nonce ctx x) (!decide (opA x < 0))) (opb x)) (andT true (decide (nonce.length = 12) && decide (ctx.length + (opT x).length ≤ 274877906000)))) (andT true (opb x))) (andT true (decide ((mkW key nonce ctx (opT x)).length < 4611686018427387904)))
noncomputable def op3 (key nonce ctx x : List Int) : Bool := andT (andT (andT (op2 key nonce ctx x) (!!decide (mkW key nonce ctx (opT x) = opM x))) (opb x)) (andT true (decide (nonce.length = 12) && true && decide ((1 : Int) + ((opT x).length / 64 : Nat) ≤ 4294967295) && decide ((opT x).length ≤ 281474976710656)))
noncomputable def opBad : SV := .tup [.nl (.slice none 0 0), .iface 76 (.int .i64 2)]
section
variable (key nonce ctx x : List Int)
set_option maxRecDepth 100000 in
theorem open_run1 : (callS Try.prog (opC true true) 60 Try.f72 [.agg [.ints .u8 32 key], .ro false .u8 nonce, .ro false .u8 ctx, .ro false .u8 x] []).map (fun x => (x.1, x.2.2)) = some (opBad, andT (op1 nonce ctx x) (decide (opA x < 0))) := by kernel_rfl
set_option maxRecDepth 100000 in
theorem open_run2 : (callS Try.prog (opC false true) 60 Try.f72 [.agg [.ints .u8 32 key], .ro false .u8 nonce, .ro false .u8 ctx, .ro false .u8 x] []).map (fun x => (x.1, x.2.2)) = some (opBad, andT (op2 key nonce ctx x) (!decide (mkW key nonce ctx (opT x) = opM x))) := by kernel_rfl
set_option maxRecDepth 100000 in
theorem open_run3 : (callS Try.prog (opC false false) 60 Try.f72 [.agg [.ints .u8 32 key], .ro false .u8 nonce, .ro false .u8 ctx, .ro false .u8 x] []).map (fun x => (x.1, x.2.2)) = some (.tup [.ro true .u8 (Cc.mixW key nonce 1 (opT x)), .nl .nilIface], op3 key nonce ctx x) := by kernel_rfl
end
noncomputable def openB (key nonce ctx x : List Int) : Bool := decide (16 ≤ x.length) && decide (mkW key nonce ctx (x.take (x.length - 16)) = x.drop (x.length - 16))
noncomputable def openW (key nonce x : List Int) : List Int := Cc.mixW key nonce 1 (x.take (x.length - 16))
theorem op_facts {key nonce ctx x : List Int} (hn : nonce.length = 12) (h1 : ctx.length ≤ 1048592) (h2 : x.length ≤ 1048592) : op1 nonce ctx x = true ∧ (16 ≤ x.length → opT x = x.take (x.length - 16) ∧ opM x = x.drop (x.length - 16) ∧ op2 key nonce ctx x = true ∧ opb x = true) ∧ (decide (opA x < 0) = !decide (16 ≤ x.length)) := by
  have hA : opA x = (x.length : Int) - 16 := by unfold opA; rw [wrap_i64 _ (by omega) (by omega)]
  have ho : op1 nonce ctx x = true := by
    unfold op1
    rw [hn, decide_eq_false (show ¬ ((ctx.length : Int) > 1048592) by omega), decide_eq_false (show ¬ ((x.length : Int) > 1048592) by omega)]
    rfl
  refine ⟨ho, fun h => ?_, ?_⟩
  · have e : (opA x).toNat = x.length - 16 := by rw [hA]; omega
    have hb : opb x = true := by
      unfold opb
      rw [hA, decide_eq_true (show (0 : Int) ≤ (x.length : Int) - 16 by omega), decide_eq_true (show (x.length : Int) - 16 ≤ (x.length : Int) by omega)]
      rfl
    refine ⟨by unfold opT; rw [e], by unfold opM; rw [e], ?_, hb⟩
    unfold op2
    rw [ho, hb, hA, hn, mkW_len, decide_eq_false (show ¬ ((x.length : Int) - 16 < 0) by omega), decide_eq_true (show ctx.length + (opT x).length ≤ 274877906000 by unfold opT; rw [List.length_take]; omega)]
    rfl
  · rw [hA]
    by_cases h : 16 ≤ x.length
    · rw [decide_eq_true h, decide_eq_false (by omega)]; rfl
    · rw [decide_eq_false h, decide_eq_true (by omega)]; rfl
theorem open_fn {key nonce ctx x : List Int} (hn : nonce.length = 12) (h1 : ctx.length ≤ 1048592) (h2 : x.length ≤ 1048592) (ok : openB key nonce ctx x = true) :
    FnTr Try.prog 72 [.agg [.ints .u8 32 key], .ro false .u8 nonce, .ro false .u8 ctx, .ro false .u8 x] [] (.tup [.ro true .u8 (openW key nonce x), .nl .nilIface]) [] := by
  obtain ⟨a1, a2, a3⟩ := op_facts (key := key) hn h1 h2
  unfold openB at ok
  simp only [Bool.and_eq_true, decide_eq_true_eq] at ok
  obtain ⟨b1, b2, b3, b4⟩ := a2 ok.1
  have k := call0 (opC_ok false false) 60 Try.func72 (open_run3 key nonce ctx x) (by
    unfold op3
    rw [b3, b4, b1, b2, hn, decide_eq_true ok.2, decide_eq_true (show (1 : Int) + ((x.take (x.length - 16)).length / 64 : Nat) ≤ 4294967295 by rw [List.length_take]; omega), decide_eq_true (show (x.take (x.length - 16)).length ≤ 281474976710656 by rw [List.length_take]; omega)]
    rfl) rfl
  rw [b1] at k
  exact k
theorem open_bad {key nonce ctx x : List Int} (hn : nonce.length = 12) (h1 : ctx.length ≤ 1048592) (h2 : x.length ≤ 1048592) (ok : openB key nonce ctx x = false) :
    FnTr Try.prog 72 [.agg [.ints .u8 32 key], .ro false .u8 nonce, .ro false .u8 ctx, .ro false .u8 x] [] opBad [] := by
  obtain ⟨a1, a2, a3⟩ := op_facts (key := key) hn h1 h2
  unfold openB at ok
  by_cases h : 16 ≤ x.length
  · obtain ⟨b1, b2, b3, b4⟩ := a2 h
    rw [decide_eq_true h, Bool.true_and] at ok
    exact call0 (opC_ok false true) 60 Try.func72 (open_run2 key nonce ctx x) (by rw [b1, b2, ok, b3]; rfl) rfl
  · rw [decide_eq_false h] at a3
    exact call0 (opC_ok true true) 60 Try.func72 (open_run1 key nonce ctx x) (by rw [a1, a3]; rfl) rfl
noncomputable def openF (ok : Bool) : List SV → Option (SV × List Blk × Bool)
  | [.agg [.ints .u8 32 key], .ro false .u8 nonce, .ro false .u8 ctx, .ro false .u8 x] => match ok with
    | true => some (.tup [.ro true .u8 (openW key nonce x), .nl .nilIface], [], decide (nonce.length = 12) && decide (ctx.length ≤ 1048592) && decide (x.length ≤ 1048592) && openB key nonce ctx x)
    | false => some (opBad, [], decide (nonce.length = 12) && decide (ctx.length ≤ 1048592) && decide (x.length ≤ 1048592) && !openB key nonce ctx x)
  | _ => none
noncomputable def openE (ok : Bool) : Entry Try.prog := .val 72 _ Try.func72 (by decide) rfl true 0 (openF ok) fun vs v new e => by
  unfold openF at e
  split at e
  · split at e
    · simp only [Option.some.injEq, Prod.mk.injEq, Bool.and_eq_true, decide_eq_true_eq] at e
      obtain ⟨rfl, rfl, ⟨⟨h1, h2⟩, h3⟩, h4⟩ := e
      exact open_fn h1 h2 h3 h4
    · simp only [Option.some.injEq, Prod.mk.injEq, Bool.and_eq_true, decide_eq_true_eq, Bool.not_eq_true'] at e
      obtain ⟨rfl, rfl, ⟨⟨h1, h2⟩, h3⟩, h4⟩ := e
      exact open_bad h1 h2 h3 h4
  · cases e
theorem seal_opens (key nonce ctx text : List Int) : openB key nonce ctx (sealW key nonce ctx text) = true := by
  unfold openB
  have hl := sealW_len key nonce ctx text
  have hm := mixW_len key nonce 1 text
  rw [hl, Nat.add_sub_cancel]
  unfold sealW
  rw [List.take_left' hm, List.drop_left' hm, decide_eq_true rfl, decide_eq_true (show 16 ≤ text.length + 16 by omega)]
  rfl
theorem xor_nat {a b : Nat} (ha : a < 2 ^ 8) (hb : b < 2 ^ 8) : xorI .u8 (a : Int) (b : Int) = ((a ^^^ b : Nat) : Int) := by
  unfold xorI bitsI
  show IntKind.u8.wrap ((BitVec.ofInt 8 (a : Int) ^^^ BitVec.ofInt 8 (b : Int)).toNat : Int) = _
  rw [BitVec.ofInt_natCast, BitVec.ofInt_natCast, BitVec.toNat_xor, BitVec.toNat_ofNat, BitVec.toNat_ofNat, Nat.mod_eq_of_lt ha, Nat.mod_eq_of_lt hb, Fe.wrap_u8]
  have := Nat.xor_lt_two_pow ha hb
  omega
theorem xor_back (a b : Fin 256) : xorI .u8 (xorI .u8 (a.val : Int) (b.val : Int)) (b.val : Int) = (a.val : Int) := by
  rw [xor_nat (show a.val < 2 ^ 8 from a.isLt) (show b.val < 2 ^ 8 from b.isLt), xor_nat (Nat.xor_lt_two_pow (show a.val < 2 ^ 8 from a.isLt) (show b.val < 2 ^ 8 from b.isLt)) (show b.val < 2 ^ 8 from b.isLt), Nat.xor_assoc, Nat.xor_self, Nat.xor_zero]
theorem pcW_by (key nonce : List Int) (n : Int) (i : Nat) : 0 ≤ (Cc.pcW key nonce n).getD i 0 ∧ (Cc.pcW key nonce n).getD i 0 < 256 := by
  rw [List.getD_eq_getElem?_getD]
  cases e : (Cc.pcW key nonce n)[i]? with
  | none => exact ⟨by decide, by decide⟩
  | some x =>
    have hx := List.mem_of_getElem? e
    simp only [Cc.pcW, Lock_eq, Cc.pcO, List.mem_map] at hx
    obtain ⟨j, _, rfl⟩ := hx
    show 0 ≤ IntKind.u8.wrap _ ∧ IntKind.u8.wrap _ < 256
    rw [Fe.wrap_u8]
    exact ⟨Int.emod_nonneg _ (by decide), Int.emod_lt_of_pos _ (by decide)⟩
theorem mix_back {key nonce text : List Int} (n : Int) (h : ∀ x ∈ text, 0 ≤ x ∧ x < 256) : Cc.mixW key nonce n (Cc.mixW key nonce n text) = text := by
  have hl := mixW_len key nonce n text
  apply List.ext_getElem?
  intro i
  by_cases hi : i < text.length
  · have e1 : (Cc.mixW key nonce n text).getD i 0 = Cc.mxF key nonce n text i := by
      unfold Cc.mixW
      rw [List.getD_eq_getElem?_getD, List.getElem?_map, List.getElem?_range hi]; rfl
    have ht := h text[i] (List.getElem_mem _)
    have hp := pcW_by key nonce (n + (i / 64 : Nat)) (i % 64)
    rw [Cc.mixW, hl, List.getElem?_map, List.getElem?_range hi, List.getElem?_eq_getElem hi, Option.map_some]
    congr 1
    show xorI .u8 ((Cc.mixW key nonce n text).getD i 0) _ = _
    rw [e1, Cc.mxF, List.getD_eq_getElem?_getD, List.getElem?_eq_getElem hi, Option.getD_some]
    generalize (Cc.pcW key nonce (n + (i / 64 : Nat))).getD (i % 64) 0 = p at *
    generalize text[i] = t at *
    have := xor_back ⟨t.toNat, by omega⟩ ⟨p.toNat, by omega⟩
    simp only [Int.toNat_of_nonneg ht.1, Int.toNat_of_nonneg hp.1] at this
    exact this
  · rw [List.getElem?_eq_none (by rw [mixW_len, hl]; omega), List.getElem?_eq_none (by omega)]
theorem open_seal {key nonce ctx text : List Int} (h : ∀ x ∈ text, 0 ≤ x ∧ x < 256) : openW key nonce (sealW key nonce ctx text) = text := by
  unfold openW
  have hm := mixW_len key nonce 1 text
  rw [sealW_len, Nat.add_sub_cancel]
  unfold sealW
  rw [List.take_left' hm]
  exact mix_back 1 h
end Go.Proofs.Ytkoohnpknhoahaa.Ae
