/- This file proves the contracts of Seal and Open of the reference's chapter 4: they are the program's. Conditions: keys of 32 bytes; nonces of 12 bytes; texts of bytes; lengths that the program takes. -/
import Derived.Test.YtibfpjeeanppjaaGreatXR4K
set_option linter.all false
set_option maxRecDepth 100000
namespace Go.Proofs.YtibfpjeeanppjaaGreat.R4
open Go Go.Sy Sh
noncomputable def AD : List SV → Option (SV × List Blk × Bool)
  | [.agg [.ints .u8 32 key], .ro false .u8 af, .int .i64 n, .ro false .u8 text] => some (.aQ [.sl 0 0 0 1 text.length text.length false true, .int .i64 0], [.b [.ints .u8 text.length (Cc.cv key af n text)]],
      decide (key.length = 32) && dL key && decide (af.length = 12) && dL af && decide (0 ≤ n) && decide (n + (text.length / 64 : Nat) ≤ 4294967295) && decide (text.length < 274877906000))
  | _ => none
noncomputable def Au : Entry Tryz.prog := .val 76 _ Tryz.func76 (by decide) rfl true 1 AD fun vs v new e => by
  unfold AD at e
  split at e
  · simp only [Option.some.injEq, Prod.mk.injEq, Bool.and_eq_true, decide_eq_true_eq] at e
    obtain ⟨rfl, rfl, ⟨⟨⟨⟨⟨h1, h2⟩, h3⟩, h4⟩, h5⟩, h6⟩, h7⟩ := e
    exact R3.CS h1 h2 h3 h4 h5 h6 h7
  · cases e
theorem Ns (k t : List Int) : Dg (Ae.jx k t) := by
  rw [Ae.jx, aC]
  exact (z9 _).app (z9 _)
theorem MK (key af ctx x : List Int) : Dg (Ae.tn key af ctx x) := Ns _ _
theorem D4 {key af text : List Int} (n : Int) : Dg (Cc.cv key af n text) := fun z hz => by
  unfold Cc.cv at hz
  obtain ⟨j, _, rfl⟩ := List.mem_map.1 hz
  show 0 ≤ cj .u8 _ _ ∧ cj .u8 _ _ < 256
  unfold cj jh
  rw [Fe.wrap_u8]
  omega
noncomputable def X9 (f : Nat → Option Bool) : br := mk (P := Tryz.prog) [Au, ym] [] f
theorem sE (f : Nat → Option Bool) : ag Tryz.prog (X9 f) := ah _ aq.nil _ _
def sqA : Nat → Option Bool := fun i => if i = 15 || i = 19 || i = 24 then some false else if i = 40 then some true else none
noncomputable def sqO (key af ctx text : List Int) : Bool :=
  let m := Cc.cv key af 1 text
  let A := aa (aa (aa (aa true (!((af.length : Int) != 12))) (!decide ((ctx.length : Int) > 1048576))) (!decide ((text.length : Int) > 1048576))) (aa true (decide (key.length = 32) && dL key && decide (af.length = 12) && dL af && true && decide ((1 : Int) + (text.length / 64 : Nat) ≤ 4294967295) && decide (text.length < 274877906000)))
  let B := aa A (aa (aa true (aa true (aa true (aa (decide (m.length = text.length) && (decide (text.length ≤ text.length) && true)) (decide (m.length = text.length)))))) (decide (key.length = 32) && dL key && decide (af.length = 12) && dL af && dL ctx && dL m && decide (ctx.length + m.length < 50000000)))
  aa B (aa (aa (aa (decide ((Ae.tn key af ctx m).length = 16) && true) (decide (m.length = text.length) && (decide (text.length ≤ text.length) && true))) (decide (m.length = text.length))) (decide (text.length + 16 ≤ 274877906944)))
theorem Ya (key af ctx text : List Int) : (bp Tryz.prog (X9 sqA) 60 Tryz.f43 [.agg [.ints .u8 32 key], .ro false .u8 af, .ro false .u8 ctx, .ro false .u8 text] []).map (fun r => (r.1, r.2.1.take 2, r.2.2)) =
    some (.aQ [.sl 1 0 0 1 (text.length + 16) (text.length + 16) false true, .int .i64 0], [.b [.ints .u8 32 key], .b [.ints .u8 (text.length + 16) (Ae.fG key af ctx text)]], sqO key af ctx text) := by kernel_rfl
theorem adw {key af ctx text : List Int} (hk : key.length = 32) (dk : Dg key) (hn : af.length = 12) (dn : Dg af) (dc : Dg ctx) (h1 : ctx.length ≤ 1048576) (h2 : text.length ≤ 1048576) :
    ai Tryz.prog 43 [.agg [.ints .u8 32 key], .ro false .u8 af, .ro false .u8 ctx, .ro false .u8 text] [] (.aQ [.sl 0 0 0 1 (text.length + 16) (text.length + 16) false true, .int .i64 0]) [.b [.ints .u8 (text.length + 16) (Ae.fG key af ctx text)]] := by
  have hm := Ae.gV key af 1 text
  have ho : sqO key af ctx text = true := by
    unfold sqO
    simp only [hm, Ae.qa, hk, hn, aV.2 dk, aV.2 dn, aV.2 dc, aV.2 (D4 (key := key) (af := af) (text := text) 1)]
    rw [decide_eq_false (show ¬ ((ctx.length : Int) > 1048576) by omega), decide_eq_false (show ¬ ((text.length : Int) > 1048576) by omega), decide_eq_true (show (1 : Int) + (text.length / 64 : Nat) ≤ 4294967295 by omega), decide_eq_true (show text.length < 274877906000 by omega), decide_eq_true (show ctx.length + text.length < 50000000 by omega), decide_eq_true (show text.length + 16 ≤ 274877906944 by omega), decide_eq_true (Nat.le_refl text.length)]
    rfl
  exact ai.Js [1] (bn (sE sqA) 60 Tryz.func43 2 (by simp) (Ya key af ctx text) ho rfl rfl) (by kernel_rfl)
noncomputable def Nt : List SV → Option (SV × List Blk × Bool)
  | [.agg [.ints .u8 32 key], .ro false .u8 af, .ro false .u8 ctx, .ro false .u8 text] => some (.aQ [.ro true .u8 (Ae.fG key af ctx text), .int .i64 0], [], decide (key.length = 32) && dL key && decide (af.length = 12) && dL af && dL ctx && decide (ctx.length ≤ 1048576) && decide (text.length ≤ 1048576))
  | _ => none
noncomputable def Xv : Entry Tryz.prog := .val 43 _ Tryz.func43 (by decide) rfl true 0 Nt fun vs v new e => by
  unfold Nt at e
  split at e
  · rename_i key af ctx text
    simp only [Option.some.injEq, Prod.mk.injEq, Bool.and_eq_true, decide_eq_true_eq, aV] at e
    obtain ⟨rfl, rfl, ⟨⟨⟨⟨⟨h1, h2⟩, h3⟩, h4⟩, h5⟩, h6⟩, h7⟩ := e
    exact ai.fz 0 0 (by simp) (by simp) (adw h1 h2 h3 h4 h5 h6 h7) (u := .aQ [.ro true .u8 (Ae.fG key af ctx text), .int .i64 0]) (h2 := []) (p := aa (decide ((Ae.fG key af ctx text).length = text.length + 16)) (decide (text.length + 16 = text.length + 16) && true)) (by kernel_rfl) (by rw [Ae.fH, decide_eq_true rfl]; rfl)
  · cases e
def oqA (a b : Bool) : Nat → Option Bool := fun i => if i = 16 || i = 20 || i = 25 then some false else if i = 31 then some a else if i = 45 then some b else none
noncomputable def Uk (key af ctx x : List Int) : List Int := Ae.tn key af ctx (Ae.oA x)
noncomputable def oqF (key af ctx x : List Int) : Bool :=
  let m := Uk key af ctx x
  let A := aa (Ae.U0 af ctx x) (!decide (Ae.Is x < 0))
  let C := aa (aa A (Ae.OD x)) (aa true (decide (key.length = 32) && dL key && decide (af.length = 12) && dL af && dL ctx && dL (Ae.oA x) && decide (ctx.length + (Ae.oA x).length < 50000000)))
  let D := aa C (aa (aa (decide (m.length = 16) && true) (decide (m.length = 16))) (bU m))
  let E := aa D (aa true (Ae.OD x))
  aa E (aa (aa true (decide ((Ae.IZ x).length = (Ae.IZ x).length))) (bU (Ae.IZ x)))
noncomputable def oqG (key af ctx x : List Int) : Bool :=
  aa (aa (aa (oqF key af ctx x) (!!decide (Uk key af ctx x = Ae.IZ x))) (Ae.OD x)) (aa true (decide (key.length = 32) && dL key && decide (af.length = 12) && dL af && true && decide ((1 : Int) + ((Ae.oA x).length / 64 : Nat) ≤ 4294967295) && decide ((Ae.oA x).length < 274877906000)))
def RS : SV := .aQ [.nl (.slice none 0 0), .int .i64 2]
section
variable (key af ctx x : List Int)
theorem RT : (bp Tryz.prog (X9 (oqA true true)) 60 Tryz.f47 [.agg [.ints .u8 32 key], .ro false .u8 af, .ro false .u8 ctx, .ro false .u8 x] []).map (fun r => (r.1, r.2.2)) = some (RS, aa (Ae.U0 af ctx x) (decide (Ae.Is x < 0))) := by kernel_rfl
theorem RU : (bp Tryz.prog (X9 (oqA false true)) 60 Tryz.f47 [.agg [.ints .u8 32 key], .ro false .u8 af, .ro false .u8 ctx, .ro false .u8 x] []).map (fun r => (r.1, r.2.2)) = some (RS, aa (oqF key af ctx x) (!decide (Uk key af ctx x = Ae.IZ x))) := by kernel_rfl
theorem RV : (bp Tryz.prog (X9 (oqA false false)) 60 Tryz.f47 [.agg [.ints .u8 32 key], .ro false .u8 af, .ro false .u8 ctx, .ro false .u8 x] []).map (fun r => (r.1, r.2.1.take 3, r.2.2)) =
    some (.aQ [.sl 2 0 0 1 (Ae.oA x).length (Ae.oA x).length false true, .int .i64 0], [.b [.ints .u8 32 key], .b [.ints .u8 16 (Uk key af ctx x)], .b [.ints .u8 (Ae.oA x).length (Cc.cv key af 1 (Ae.oA x))]], oqG key af ctx x) := by kernel_rfl
end
section
variable {key af ctx x : List Int} (hk : key.length = 32) (dk : Dg key) (hn : af.length = 12) (dn : Dg af) (dc : Dg ctx) (dx : Dg x) (h1 : ctx.length ≤ 1048592) (h2 : x.length ≤ 1048592)
include hk dk hn dn dc dx h1 h2 in
theorem Ch (h : 16 ≤ x.length) : oqF key af ctx x = true := by
  obtain ⟨a1, a2, a3⟩ := Ae.mL (key := key) hn h1 h2
  obtain ⟨b1, b2, b3, b4⟩ := a2 h
  have hl : (Ae.oA x).length ≤ x.length := by rw [b1, List.length_take]; omega
  unfold oqF Uk
  simp only [a1, a3, b4, hk, hn, aV.2 dk, aV.2 dn, aV.2 dc, Ae.qa]
  rw [aV.2 (show Dg (Ae.oA x) by rw [b1]; exact dx.take _), show bU (Ae.IZ x) = true from aV.2 (by rw [b2]; exact dx.drop _), show bU (Ae.tn key af ctx (Ae.oA x)) = true from aV.2 (MK _ _ _ _), decide_eq_true h, decide_eq_true (show ctx.length + (Ae.oA x).length < 50000000 by omega)]
  rfl
include hk dk hn dn dc dx h1 h2 in
theorem Ie (ok : Ae.bk key af ctx x = false) : ai Tryz.prog 47 [.agg [.ints .u8 32 key], .ro false .u8 af, .ro false .u8 ctx, .ro false .u8 x] [] RS [] := by
  obtain ⟨a1, a2, a3⟩ := Ae.mL (key := key) hn h1 h2
  unfold Ae.bk at ok
  by_cases h : 16 ≤ x.length
  · obtain ⟨b1, b2, b3, b4⟩ := a2 h
    rw [decide_eq_true h, Bool.true_and] at ok
    have hf := Ch hk dk hn dn dc dx h1 h2 h
    exact aG (sE _) 60 Tryz.func47 (RU key af ctx x) (by rw [hf]; unfold Uk; rw [b1, b2, ok]; rfl) rfl
  · rw [decide_eq_false h] at a3
    exact aG (sE _) 60 Tryz.func47 (RT key af ctx x) (by rw [a1, a3]; rfl) rfl
include hk dk hn dn dc dx h1 h2 in
theorem Nu (ok : Ae.bk key af ctx x = true) : ai Tryz.prog 47 [.agg [.ints .u8 32 key], .ro false .u8 af, .ro false .u8 ctx, .ro false .u8 x] [] (.aQ [.ro true .u8 (Ae.b9 key af x), .int .i64 0]) [] := by
  obtain ⟨a1, a2, a3⟩ := Ae.mL (key := key) hn h1 h2
  unfold Ae.bk at ok
  simp only [Bool.and_eq_true, decide_eq_true_eq] at ok
  obtain ⟨b1, b2, b3, b4⟩ := a2 ok.1
  have hf := Ch hk dk hn dn dc dx h1 h2 ok.1
  have hl : (Ae.oA x).length ≤ x.length := by rw [b1, List.length_take]; omega
  have hg : oqG key af ctx x = true := by
    unfold oqG
    rw [hf, b4, hk, hn, aV.2 dk, aV.2 dn, decide_eq_true (show (1 : Int) + ((Ae.oA x).length / 64 : Nat) ≤ 4294967295 by omega), decide_eq_true (show (Ae.oA x).length < 274877906000 by omega), show Uk key af ctx x = Ae.IZ x by unfold Uk; rw [b1, b2]; exact ok.2, decide_eq_true rfl]
    rfl
  have g := bn (sE _) 60 Tryz.func47 3 (by simp) (RV key af ctx x) hg rfl rfl
  have hw : Ae.b9 key af x = Cc.cv key af 1 (Ae.oA x) := by unfold Ae.b9; rw [b1]
  rw [hw]
  exact ai.fz 2 0 (by simp) (by simp) g (u := .aQ [.ro true .u8 (Cc.cv key af 1 (Ae.oA x)), .int .i64 0]) (h2 := []) (p := aa (decide ((Cc.cv key af 1 (Ae.oA x)).length = (Ae.oA x).length)) (decide ((Ae.oA x).length = (Ae.oA x).length) && true)) (by kernel_rfl) (by rw [Ae.gV, decide_eq_true rfl]; rfl)
end
noncomputable def Nv (ok : Bool) : List SV → Option (SV × List Blk × Bool)
  | [.agg [.ints .u8 32 key], .ro false .u8 af, .ro false .u8 ctx, .ro false .u8 x] => match ok with
    | true => some (.aQ [.ro true .u8 (Ae.b9 key af x), .int .i64 0], [], decide (key.length = 32) && dL key && decide (af.length = 12) && dL af && dL ctx && dL x && decide (ctx.length ≤ 1048592) && decide (x.length ≤ 1048592) && Ae.bk key af ctx x)
    | false => some (RS, [], decide (key.length = 32) && dL key && decide (af.length = 12) && dL af && dL ctx && dL x && decide (ctx.length ≤ 1048592) && decide (x.length ≤ 1048592) && !Ae.bk key af ctx x)
  | _ => none
noncomputable def Jc (ok : Bool) : Entry Tryz.prog := .val 47 _ Tryz.func47 (by decide) rfl true 0 (Nv ok) fun vs v new e => by
  unfold Nv at e
  split at e
  · split at e
    · simp only [Option.some.injEq, Prod.mk.injEq, Bool.and_eq_true, decide_eq_true_eq, aV] at e
      obtain ⟨rfl, rfl, ⟨⟨⟨⟨⟨⟨⟨h1, h2⟩, h3⟩, h4⟩, h5⟩, h6⟩, h7⟩, h8⟩, h9⟩ := e
      exact Nu h1 h2 h3 h4 h5 h6 h7 h8 h9
    · simp only [Option.some.injEq, Prod.mk.injEq, Bool.and_eq_true, decide_eq_true_eq, aV, Bool.not_eq_true'] at e
      obtain ⟨rfl, rfl, ⟨⟨⟨⟨⟨⟨⟨h1, h2⟩, h3⟩, h4⟩, h5⟩, h6⟩, h7⟩, h8⟩, h9⟩ := e
      exact Ie h1 h2 h3 h4 h5 h6 h7 h8 h9
  · cases e
end Go.Proofs.YtibfpjeeanppjaaGreat.R4
