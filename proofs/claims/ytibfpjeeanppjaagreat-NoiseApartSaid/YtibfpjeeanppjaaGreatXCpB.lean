/- This file holds the texts CpA, CpB, a section each. No conditions beyond those in the theorems. -/
import Derived.Test.YtibfpjeeanppjaaGreatXKdD
import Derived.Test.YtibfpjeeanppjaaGreatXAeF
set_option linter.all false
set_option maxRecDepth 100000
section
namespace Go.Proofs.YtibfpjeeanppjaaGreat.Cp
open Go Go.Sy Sh
noncomputable def twC : br := mk (P := Tryz.prog) [Kd.EG] []
theorem CT : ag Tryz.prog twC := ah _ aq.nil _ _
noncomputable def qc (s : List Int) : List Int := (Kd.bf s [] 64).take 32
noncomputable def xA (s : List Int) : List Int := (Kd.bf s [] 64).drop 32
theorem uU (s : List Int) : (qc s).length = 32 ∧ (xA s).length = 32 := by unfold qc xA; rw [List.length_take, List.length_drop, Kd.eH]; exact ⟨rfl, rfl⟩
noncomputable def twS (e : List Int) : List Int := p9 (List.replicate 32 0) 0 e (Nat.min e.length 32)
noncomputable def twO (s e : List Int) : Bool := aa (aa (aa (aa true (aa (aa (decide (s.length = 32) && true) (decide (s.length = 32))) (decide (s.length < 274877900000) && true && true))) (aa true (true && decide (0 + Nat.min e.length 32 ≤ 32) && decide (Nat.min e.length 32 ≤ e.length)))) (aa true (aa true (true && decide ((32 : Int) ≤ (e.length : Int)))))) (aa true (true && decide (0 + Nat.min (e.drop 32).length 32 ≤ 32) && decide (Nat.min (e.drop 32).length 32 ≤ (e.drop 32).length)))
theorem CU (s : List Int) : (bp Tryz.prog twC 60 Tryz.f96 [.agg [.ints .u8 32 s]] []).map (fun x => (x.1, x.2.2)) = some (.aQ [.agg [.ints .u8 32 (twS (Kd.bf s [] 64))], .agg [.ints .u8 32 (twS ((Kd.bf s [] 64).drop 32))]], twO s (Kd.bf s [] 64)) := by kernel_rfl
theorem Jt {e : List Int} (h : 32 ≤ e.length) : twS e = e.take 32 := by
  have hm : Nat.min e.length 32 = 32 := Nat.min_eq_right h
  unfold twS p9
  rw [hm]
  simp
theorem CV {s : List Int} (hs : s.length = 32) : ai Tryz.prog 96 [.agg [.ints .u8 32 s]] [] (.aQ [.agg [.ints .u8 32 (qc s)], .agg [.ints .u8 32 (xA s)]]) [] := by
  have hl := Kd.eH s [] 64
  have hd : ((Kd.bf s [] 64).drop 32).length = 32 := by rw [List.length_drop, hl]
  have k := aG CT 60 Tryz.func96 (CU s) (by unfold twO; rw [hs, hd, hl]; decide) rfl
  rw [Jt (by omega), Jt (by omega), List.take_of_length_le (i := 32) (l := (Kd.bf s [] 64).drop 32) (by omega)] at k
  exact k
noncomputable def Ju : List SV → Option (SV × List Blk × Bool)
  | [.agg [.ints .u8 32 s]] => some (.aQ [.agg [.ints .u8 32 (qc s)], .agg [.ints .u8 32 (xA s)]], [], decide (s.length = 32))
  | _ => none
noncomputable def Jv : Entry Tryz.prog := .val 96 _ Tryz.func96 (by decide) rfl false 0 Ju fun vs v new e => by
  unfold Ju at e
  split at e
  · simp only [Option.some.injEq, Prod.mk.injEq, decide_eq_true_eq] at e
    obtain ⟨rfl, rfl, h⟩ := e
    exact CV h
  · cases e
def st (key : List Int) (h : Bool) (n : Int) (ch ha : List Int) : Blk := .b [.ints .u8 32 key, .bool h, .int .i64 n, .ints .u8 32 ch, .ints .u8 32 ha]
noncomputable def iA : List Int := List.replicate 32 0
noncomputable def beC : br := mk (P := Tryz.prog) [S2.mM] []
theorem CW : ag Tryz.prog beC := ah _ aq.nil _ _
def jZ (vs : List SV) (_ : List Blk) : List Nat := match vs with
  | .ptr b _ _ :: _ => [b]
  | _ => []
noncomputable def msC : br := mk (P := Tryz.prog) [Kd.AE, Jv] [(124, Tryz.f124)]
theorem Jw : ag Tryz.prog msC := ah _ (aq.cons Tryz.func124 (by decide) aq.nil) _ _
noncomputable def O7 : List (FuncId × Func) := [(84, Tryz.f84), (94, Tryz.f94), (125, Tryz.f125), (49, Tryz.f49)]
theorem yx : aq Tryz.prog O7 := aq.cons Tryz.func84 (by decide) (aq.cons Tryz.func94 (by decide) (aq.cons Tryz.func125 (by decide) (aq.cons Tryz.func49 (by decide) aq.nil)))
noncomputable def hiC : br := mk (P := Tryz.prog) [S2.mM, Ae.SP, Ae.uL] O7 fun i => if i = 25 then some false else none
theorem Jx : ag Tryz.prog hiC := ah _ yx _ _
noncomputable def shC : br := mk (P := Tryz.prog) [S2.mM, Ae.Ew true, Ae.uL] O7 fun i => if i = 25 then some false else none
theorem yy : ag Tryz.prog shC := ah _ yx _ _
noncomputable def tL (key ha : List Int) (n : Int) (text : List Int) : List Int := Ae.fG key (Ae.aD n) ha text
noncomputable def hiX (ha x : List Int) : Bool := aa true (aa (aa true (aa (aa true (decide (ha.length = 32) && true)) (decide (ha.length = 32)))) (decide ([ha, x].flatten.length < 274877900000) && true))
noncomputable def hiO (ha text x : List Int) (n : Int) : Bool := aa (aa true (aa true (aa (aa true (!decide (n ≥ 4294967295))) (aa (aa true (aa true (aa (decide (ha.length = 32) && true) (decide (ha.length = 32))))) (true && decide (ha.length ≤ 1048576) && decide (text.length ≤ 1048576)))))) (hiX ha x)
noncomputable def shO (key ha x : List Int) (n : Int) : Bool := aa (aa true (aa true (aa (aa true (!decide (n ≥ 4294967295))) (aa (aa true (aa true (aa (decide (ha.length = 32) && true) (decide (ha.length = 32))))) (true && decide (ha.length ≤ 1048592) && decide (x.length ≤ 1048592) && Ae.bk key (Ae.aD n) ha x))))) (hiX ha x)
section
variable (key ch ha text : List Int) (h : Bool) (n : Int)
theorem CX : (bp Tryz.prog hiC 60 Tryz.f52 [.ptr 0 0 0, .ro false .u8 text] [st key true n ch ha]).map (fun x => (x.1, x.2.1.take 1, x.2.2)) =
    some (.aQ [.ro true .u8 (tL key ha n text), .nl .nilIface], [st key true (IntKind.i64.wrap (n + 1)) ch (S2.aj [ha, tL key ha n text].flatten)], hiO ha text (tL key ha n text) n) := by kernel_rfl
theorem CY : (bp Tryz.prog shC 60 Tryz.f59 [.ptr 0 0 0, .ro false .u8 text] [st key true n ch ha]).map (fun x => (x.1, x.2.1.take 1, x.2.2)) =
    some (.aQ [.ro true .u8 (Ae.b9 key (Ae.aD n) text), .nl .nilIface], [st key true (IntKind.i64.wrap (n + 1)) ch (S2.aj [ha, text].flatten)], shO key ha text n) := by kernel_rfl
end
theorem mP {ha x : List Int} (h1 : ha.length = 32) (h2 : x.length < 270000000000) : hiX ha x = true := by
  unfold hiX
  rw [h1, decide_eq_true (show [ha, x].flatten.length < 274877900000 by simp only [List.flatten_cons, List.flatten_nil, List.length_append, List.length_nil]; omega)]
  rfl
theorem uV (a b : List Int) : [a, b].flatten = a ++ b := by simp
theorem yz {key ch ha text : List Int} {n : Int} (h1 : ha.length = 32) (h0 : 0 ≤ n) (hn : n < 4294967295) (ht : text.length ≤ 1048576) :
    ai Tryz.prog 52 [.ptr 0 0 0, .ro false .u8 text] [st key true n ch ha] (.aQ [.ro true .u8 (tL key ha n text), .nl .nilIface]) [st key true (n + 1) ch (S2.aj (ha ++ tL key ha n text))] := by
  have e := CX key ch ha text n
  rw [wrap_i64 _ (by omega) (by omega), uV] at e
  exact bn Jx 60 Tryz.func52 1 (by simp) e (by
    unfold hiO
    rw [h1, decide_eq_false (show ¬ (n ≥ 4294967295) by omega), decide_eq_true ht, mP h1 (by unfold tL; rw [Ae.fH]; omega)]
    rfl) rfl rfl
theorem yA {key ch ha x : List Int} {n : Int} (h1 : ha.length = 32) (h0 : 0 ≤ n) (hn : n < 4294967295) (ht : x.length ≤ 1048592) (ok : Ae.bk key (Ae.aD n) ha x = true) :
    ai Tryz.prog 59 [.ptr 0 0 0, .ro false .u8 x] [st key true n ch ha] (.aQ [.ro true .u8 (Ae.b9 key (Ae.aD n) x), .nl .nilIface]) [st key true (n + 1) ch (S2.aj (ha ++ x))] := by
  have e := CY key ch ha x n
  rw [wrap_i64 _ (by omega) (by omega), uV] at e
  exact bn yy 60 Tryz.func59 1 (by simp) e (by
    unfold shO
    rw [h1, decide_eq_false (show ¬ (n ≥ 4294967295) by omega), decide_eq_true ht, ok, mP h1 (by omega)]
    rfl) rfl rfl
noncomputable def sP : List SV → List Blk → Option (SV × List Blk × Bool)
  | [.ptr 0 0 0, .ro false .u8 text], [.b [.ints .u8 32 key, .bool true, .int .i64 n, .ints .u8 32 ch, .ints .u8 32 ha]] => some (.aQ [.ro true .u8 (tL key ha n text), .nl .nilIface], [st key true (n + 1) ch (S2.aj (ha ++ tL key ha n text))], decide (ha.length = 32) && decide (0 ≤ n) && decide (n < 4294967295) && decide (text.length ≤ 1048576))
  | _, _ => none
noncomputable def Jy : Entry Tryz.prog := .mut 52 _ Tryz.func52 (by decide) rfl jZ 0 sP fun vs h0 v h1 e => by
  unfold sP at e
  split at e
  · simp only [Option.some.injEq, Prod.mk.injEq, Bool.and_eq_true, decide_eq_true_eq] at e
    obtain ⟨rfl, rfl, ⟨⟨h1, h2⟩, h3⟩, h4⟩ := e
    exact yz h1 h2 h3 h4
  · cases e
noncomputable def sQ : List SV → List Blk → Option (SV × List Blk × Bool)
  | [.ptr 0 0 0, .ro false .u8 x], [.b [.ints .u8 32 key, .bool true, .int .i64 n, .ints .u8 32 ch, .ints .u8 32 ha]] => some (.aQ [.ro true .u8 (Ae.b9 key (Ae.aD n) x), .nl .nilIface], [st key true (n + 1) ch (S2.aj (ha ++ x))], decide (ha.length = 32) && decide (0 ≤ n) && decide (n < 4294967295) && decide (x.length ≤ 1048592) && Ae.bk key (Ae.aD n) ha x)
  | _, _ => none
noncomputable def EH : Entry Tryz.prog := .mut 59 _ Tryz.func59 (by decide) rfl jZ 0 sQ fun vs h0 v h1 e => by
  unfold sQ at e
  split at e
  · simp only [Option.some.injEq, Prod.mk.injEq, Bool.and_eq_true, decide_eq_true_eq] at e
    obtain ⟨rfl, rfl, ⟨⟨⟨h1, h2⟩, h3⟩, h4⟩, h5⟩ := e
    exact yA h1 h2 h3 h4 h5
  · cases e
end Go.Proofs.YtibfpjeeanppjaaGreat.Cp
end
section
namespace Go.Proofs.YtibfpjeeanppjaaGreat.Cp
open Go Go.Sy Sh
noncomputable def c0 : br := mk (P := Tryz.prog) [] []
theorem xp : ag Tryz.prog c0 := ah _ aq.nil _ _
def ci (key : List Int) (h : Bool) (n : Int) : Blk := .b [.ints .u8 32 key, .bool h, .int .i64 n]
theorem mQ (key : List Int) : ai Tryz.prog 124 [.agg [.ints .u8 32 key]] [] (.ptr 0 0 0) [ci key true 0] := by
  have k : ai Tryz.prog 124 [.agg [.ints .u8 32 key]] [] (.ptr 1 0 0) [.b [.ints .u8 32 key], ci key true 0] :=
    bn xp 60 Tryz.func124 2 (by simp) (p := true) (by kernel_rfl) rfl rfl rfl
  exact ai.Js [1] k (by kernel_rfl)
def newF : List SV → Option (SV × List Blk × Bool)
  | [.agg [.ints .u8 32 key]] => some (.ptr 0 0 0, [ci key true 0], true)
  | _ => none
noncomputable def CZ : Entry Tryz.prog := .val 124 _ Tryz.func124 (by decide) rfl false 1 newF fun vs v new e => by
  unfold newF at e
  split at e
  · cases e; exact mQ _
  · cases e
theorem GZ (xs : List Int) : (bp Tryz.prog beC 60 Tryz.f48 [.str xs] []).map (fun x => x) =
    some (.ptr 2 0 0, [.b [.ro true .u8 xs], .b [.ints .u8 32 (S2.aj [xs].flatten)], st iA false 0 (S2.aj [xs].flatten) (S2.aj [xs].flatten)], aa true (aa true (decide ([xs].flatten.length < 274877900000) && true))) := by kernel_rfl
theorem Jz {xs : List Int} (h : xs.length < 274877900000) : ai Tryz.prog 48 [.str xs] [] (.ptr 0 0 0) [st iA false 0 (S2.aj xs) (S2.aj xs)] := by
  have k := GZ xs
  rw [show [xs].flatten = xs by simp, decide_eq_true h] at k
  obtain ⟨x, h2, h3⟩ := Option.map_eq_some_iff.1 k
  subst h3
  exact ai.Js [2] (ai.dD CW Tryz.func48 h2) (by kernel_rfl)
noncomputable def mS : List SV → Option (SV × List Blk × Bool)
  | [.str xs] => some (.ptr 0 0 0, [st iA false 0 (S2.aj xs) (S2.aj xs)], decide (xs.length < 274877900000))
  | _ => none
noncomputable def uW : Entry Tryz.prog := .val 48 _ Tryz.func48 (by decide) rfl false 1 mS fun vs v new e => by
  unfold mS at e
  split at e
  · simp only [Option.some.injEq, Prod.mk.injEq, decide_eq_true_eq] at e
    obtain ⟨rfl, rfl, h⟩ := e
    exact Jz h
  · cases e
noncomputable def mcC : br := mk (P := Tryz.prog) [Kd.AE, Jv, CZ] []
theorem JA : ag Tryz.prog mcC := ah _ aq.nil _ _
noncomputable def mcO (ch m : List Int) : Bool := aa (aa true (aa (aa (decide (ch.length = 32) && true) (decide (ch.length = 32))) (decide (ch.length < 274877900000) && decide (m.length < 274877890000)))) (aa true (decide ((Kd.bP ch m).length = 32)))
theorem yC {key ch ha m : List Int} {h : Bool} {n : Int} (hc : ch.length = 32) (hm : m.length < 274877890000) : ai Tryz.prog 83 [.ptr 0 0 0, .ro false .u8 m] [st key h n ch ha] (.aQ []) [st (xA (Kd.bP ch m)) true 0 (qc (Kd.bP ch m)) ha] :=
  bn JA 60 Tryz.func83 1 (by simp) (p := mcO ch m) (by kernel_rfl) (by
    unfold mcO
    rw [hc, Kd.eG, decide_eq_true hm]
    rfl) rfl rfl
noncomputable def eI : List SV → List Blk → Option (SV × List Blk × Bool)
  | [.ptr 0 0 0, .ro false .u8 m], [.b [.ints .u8 32 key, .bool h, .int .i64 n, .ints .u8 32 ch, .ints .u8 32 ha]] => some (.aQ [], [st (xA (Kd.bP ch m)) true 0 (qc (Kd.bP ch m)) ha], decide (ch.length = 32) && decide (m.length < 274877890000))
  | _, _ => none
noncomputable def lg : Entry Tryz.prog := .mut 83 _ Tryz.func83 (by decide) rfl jZ 0 eI fun vs h0 v h1 e => by
  unfold eI at e
  split at e
  · simp only [Option.some.injEq, Prod.mk.injEq, Bool.and_eq_true, decide_eq_true_eq] at e
    obtain ⟨rfl, rfl, h1, h2⟩ := e
    exact yC h1 h2
  · cases e
end Go.Proofs.YtibfpjeeanppjaaGreat.Cp
end
