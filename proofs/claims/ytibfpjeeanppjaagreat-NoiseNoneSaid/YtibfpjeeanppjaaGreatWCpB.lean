/- This file holds the texts CpA, CpB, a section each. No conditions beyond those in the theorems. -/
import Derived.Test.YtibfpjeeanppjaaGreatWKdD
import Derived.Test.YtibfpjeeanppjaaGreatWAeF
set_option linter.all false
set_option maxRecDepth 100000
section
namespace Go.Proofs.YtibfpjeeanppjaaGreat.Cp
open Go Go.Sy Sh
noncomputable def twC : Ctr := mk (P := Tryz.prog) [Kd.expandE] []
theorem twC_ok : CtrSound Tryz.prog twC := mk_sound _ InlOK.nil _ _
noncomputable def tw1 (s : List Int) : List Int := (Kd.expandW s [] 64).take 32
noncomputable def tw2 (s : List Int) : List Int := (Kd.expandW s [] 64).drop 32
theorem tw_len (s : List Int) : (tw1 s).length = 32 ∧ (tw2 s).length = 32 := by unfold tw1 tw2; rw [List.length_take, List.length_drop, Kd.expandW_len]; exact ⟨rfl, rfl⟩
noncomputable def twS (e : List Int) : List Int := spl (List.replicate 32 0) 0 e (Nat.min e.length 32)
noncomputable def twO (s e : List Int) : Bool := andT (andT (andT (andT true (andT (andT (decide (s.length = 32) && true) (decide (s.length = 32))) (decide (s.length < 274877900000) && true && true))) (andT true (true && decide (0 + Nat.min e.length 32 ≤ 32) && decide (Nat.min e.length 32 ≤ e.length)))) (andT true (andT true (true && decide ((32 : Int) ≤ (e.length : Int)))))) (andT true (true && decide (0 + Nat.min (e.drop 32).length 32 ≤ 32) && decide (Nat.min (e.drop 32).length 32 ≤ (e.drop 32).length)))
theorem tw_run (s : List Int) : (callS Tryz.prog twC 60 Tryz.f96 [.agg [.ints .u8 32 s]] []).map (fun x => (x.1, x.2.2)) = some (.tup [.agg [.ints .u8 32 (twS (Kd.expandW s [] 64))], .agg [.ints .u8 32 (twS ((Kd.expandW s [] 64).drop 32))]], twO s (Kd.expandW s [] 64)) := by kernel_rfl
theorem twS_eq {e : List Int} (h : 32 ≤ e.length) : twS e = e.take 32 := by
  have hm : Nat.min e.length 32 = 32 := Nat.min_eq_right h
  unfold twS spl
  rw [hm]
  simp
theorem two_fn {s : List Int} (hs : s.length = 32) : FnTr Tryz.prog 96 [.agg [.ints .u8 32 s]] [] (.tup [.agg [.ints .u8 32 (tw1 s)], .agg [.ints .u8 32 (tw2 s)]]) [] := by
  have hl := Kd.expandW_len s [] 64
  have hd : ((Kd.expandW s [] 64).drop 32).length = 32 := by rw [List.length_drop, hl]
  have k := call0 twC_ok 60 Tryz.func96 (tw_run s) (by unfold twO; rw [hs, hd, hl]; decide) rfl
  rw [twS_eq (by omega), twS_eq (by omega), List.take_of_length_le (i := 32) (l := (Kd.expandW s [] 64).drop 32) (by omega)] at k
  exact k
noncomputable def twoF : List SV → Option (SV × List Blk × Bool)
  | [.agg [.ints .u8 32 s]] => some (.tup [.agg [.ints .u8 32 (tw1 s)], .agg [.ints .u8 32 (tw2 s)]], [], decide (s.length = 32))
  | _ => none
noncomputable def twoE : Entry Tryz.prog := .val 96 _ Tryz.func96 (by decide) rfl false 0 twoF fun vs v new e => by
  unfold twoF at e
  split at e
  · simp only [Option.some.injEq, Prod.mk.injEq, decide_eq_true_eq] at e
    obtain ⟨rfl, rfl, h⟩ := e
    exact two_fn h
  · cases e
def st (key : List Int) (h : Bool) (n : Int) (ch ha : List Int) : Blk := .b [.ints .u8 32 key, .bool h, .int .i64 n, .ints .u8 32 ch, .ints .u8 32 ha]
noncomputable def z32 : List Int := List.replicate 32 0
noncomputable def beC : Ctr := mk (P := Tryz.prog) [S2.shortE] []
theorem beC_ok : CtrSound Tryz.prog beC := mk_sound _ InlOK.nil _ _
def pickS (vs : List SV) (_ : List Blk) : List Nat := match vs with
  | .ptr b _ _ :: _ => [b]
  | _ => []
noncomputable def inlH : List (FuncId × Func) := [(84, Tryz.f84), (94, Tryz.f94), (125, Tryz.f125), (49, Tryz.f49)]
theorem inlH_ok : InlOK Tryz.prog inlH := InlOK.cons Tryz.func84 (by decide) (InlOK.cons Tryz.func94 (by decide) (InlOK.cons Tryz.func125 (by decide) (InlOK.cons Tryz.func49 (by decide) InlOK.nil)))
noncomputable def hiC : Ctr := mk (P := Tryz.prog) [S2.shortE, Ae.sealE, Ae.nonceE] inlH fun i => if i = 25 then some false else none
theorem hiC_ok : CtrSound Tryz.prog hiC := mk_sound _ inlH_ok _ _
noncomputable def shC : Ctr := mk (P := Tryz.prog) [S2.shortE, Ae.openE true, Ae.nonceE] inlH fun i => if i = 25 then some false else none
theorem shC_ok : CtrSound Tryz.prog shC := mk_sound _ inlH_ok _ _
noncomputable def hiW (key ha : List Int) (n : Int) (text : List Int) : List Int := Ae.sealW key (Ae.nonceW n) ha text
noncomputable def hiX (ha x : List Int) : Bool := andT true (andT (andT true (andT (andT true (decide (ha.length = 32) && true)) (decide (ha.length = 32)))) (decide ([ha, x].flatten.length < 274877900000) && true))
noncomputable def hiO (ha text x : List Int) (n : Int) : Bool := andT (andT true (andT true (andT (andT true (!decide (n ≥ 4294967295))) (andT (andT true (andT true (andT (decide (ha.length = 32) && true) (decide (ha.length = 32))))) (true && decide (ha.length ≤ 1048576) && decide (text.length ≤ 1048576)))))) (hiX ha x)
noncomputable def shO (key ha x : List Int) (n : Int) : Bool := andT (andT true (andT true (andT (andT true (!decide (n ≥ 4294967295))) (andT (andT true (andT true (andT (decide (ha.length = 32) && true) (decide (ha.length = 32))))) (true && decide (ha.length ≤ 1048592) && decide (x.length ≤ 1048592) && Ae.openB key (Ae.nonceW n) ha x))))) (hiX ha x)
section
variable (key ch ha text : List Int) (h : Bool) (n : Int)
theorem hi_run : (callS Tryz.prog hiC 60 Tryz.f52 [.ptr 0 0 0, .ro false .u8 text] [st key true n ch ha]).map (fun x => (x.1, x.2.1.take 1, x.2.2)) =
    some (.tup [.ro true .u8 (hiW key ha n text), .nl .nilIface], [st key true (IntKind.i64.wrap (n + 1)) ch (S2.shortW [ha, hiW key ha n text].flatten)], hiO ha text (hiW key ha n text) n) := by kernel_rfl
theorem sh_run : (callS Tryz.prog shC 60 Tryz.f59 [.ptr 0 0 0, .ro false .u8 text] [st key true n ch ha]).map (fun x => (x.1, x.2.1.take 1, x.2.2)) =
    some (.tup [.ro true .u8 (Ae.openW key (Ae.nonceW n) text), .nl .nilIface], [st key true (IntKind.i64.wrap (n + 1)) ch (S2.shortW [ha, text].flatten)], shO key ha text n) := by kernel_rfl
end
theorem hiX_true {ha x : List Int} (h1 : ha.length = 32) (h2 : x.length < 270000000000) : hiX ha x = true := by
  unfold hiX
  rw [h1, decide_eq_true (show [ha, x].flatten.length < 274877900000 by simp only [List.flatten_cons, List.flatten_nil, List.length_append, List.length_nil]; omega)]
  rfl
theorem flat2 (a b : List Int) : [a, b].flatten = a ++ b := by simp
theorem hide_fn {key ch ha text : List Int} {n : Int} (h1 : ha.length = 32) (h0 : 0 ≤ n) (hn : n < 4294967295) (ht : text.length ≤ 1048576) :
    FnTr Tryz.prog 52 [.ptr 0 0 0, .ro false .u8 text] [st key true n ch ha] (.tup [.ro true .u8 (hiW key ha n text), .nl .nilIface]) [st key true (n + 1) ch (S2.shortW (ha ++ hiW key ha n text))] := by
  have e := hi_run key ch ha text n
  rw [wrap_i64 _ (by omega) (by omega), flat2] at e
  exact callM hiC_ok 60 Tryz.func52 1 (by simp) e (by
    unfold hiO
    rw [h1, decide_eq_false (show ¬ (n ≥ 4294967295) by omega), decide_eq_true ht, hiX_true h1 (by unfold hiW; rw [Ae.sealW_len]; omega)]
    rfl) rfl rfl
theorem show_fn {key ch ha x : List Int} {n : Int} (h1 : ha.length = 32) (h0 : 0 ≤ n) (hn : n < 4294967295) (ht : x.length ≤ 1048592) (ok : Ae.openB key (Ae.nonceW n) ha x = true) :
    FnTr Tryz.prog 59 [.ptr 0 0 0, .ro false .u8 x] [st key true n ch ha] (.tup [.ro true .u8 (Ae.openW key (Ae.nonceW n) x), .nl .nilIface]) [st key true (n + 1) ch (S2.shortW (ha ++ x))] := by
  have e := sh_run key ch ha x n
  rw [wrap_i64 _ (by omega) (by omega), flat2] at e
  exact callM shC_ok 60 Tryz.func59 1 (by simp) e (by
    unfold shO
    rw [h1, decide_eq_false (show ¬ (n ≥ 4294967295) by omega), decide_eq_true ht, ok, hiX_true h1 (by omega)]
    rfl) rfl rfl
noncomputable def hideF : List SV → List Blk → Option (SV × List Blk × Bool)
  | [.ptr 0 0 0, .ro false .u8 text], [.b [.ints .u8 32 key, .bool true, .int .i64 n, .ints .u8 32 ch, .ints .u8 32 ha]] => some (.tup [.ro true .u8 (hiW key ha n text), .nl .nilIface], [st key true (n + 1) ch (S2.shortW (ha ++ hiW key ha n text))], decide (ha.length = 32) && decide (0 ≤ n) && decide (n < 4294967295) && decide (text.length ≤ 1048576))
  | _, _ => none
noncomputable def hideE : Entry Tryz.prog := .mut 52 _ Tryz.func52 (by decide) rfl pickS 0 hideF fun vs h0 v h1 e => by
  unfold hideF at e
  split at e
  · simp only [Option.some.injEq, Prod.mk.injEq, Bool.and_eq_true, decide_eq_true_eq] at e
    obtain ⟨rfl, rfl, ⟨⟨h1, h2⟩, h3⟩, h4⟩ := e
    exact hide_fn h1 h2 h3 h4
  · cases e
noncomputable def showF : List SV → List Blk → Option (SV × List Blk × Bool)
  | [.ptr 0 0 0, .ro false .u8 x], [.b [.ints .u8 32 key, .bool true, .int .i64 n, .ints .u8 32 ch, .ints .u8 32 ha]] => some (.tup [.ro true .u8 (Ae.openW key (Ae.nonceW n) x), .nl .nilIface], [st key true (n + 1) ch (S2.shortW (ha ++ x))], decide (ha.length = 32) && decide (0 ≤ n) && decide (n < 4294967295) && decide (x.length ≤ 1048592) && Ae.openB key (Ae.nonceW n) ha x)
  | _, _ => none
noncomputable def showE : Entry Tryz.prog := .mut 59 _ Tryz.func59 (by decide) rfl pickS 0 showF fun vs h0 v h1 e => by
  unfold showF at e
  split at e
  · simp only [Option.some.injEq, Prod.mk.injEq, Bool.and_eq_true, decide_eq_true_eq] at e
    obtain ⟨rfl, rfl, ⟨⟨⟨h1, h2⟩, h3⟩, h4⟩, h5⟩ := e
    exact show_fn h1 h2 h3 h4 h5
  · cases e
end Go.Proofs.YtibfpjeeanppjaaGreat.Cp
end
section
namespace Go.Proofs.YtibfpjeeanppjaaGreat.Cp
open Go Go.Sy Sh
noncomputable def c0 : Ctr := mk (P := Tryz.prog) [] []
theorem c0_ok : CtrSound Tryz.prog c0 := mk_sound _ InlOK.nil _ _
def ci (key : List Int) (h : Bool) (n : Int) : Blk := .b [.ints .u8 32 key, .bool h, .int .i64 n]
theorem new_fn (key : List Int) : FnTr Tryz.prog 124 [.agg [.ints .u8 32 key]] [] (.ptr 0 0 0) [ci key true 0] := by
  have k : FnTr Tryz.prog 124 [.agg [.ints .u8 32 key]] [] (.ptr 1 0 0) [.b [.ints .u8 32 key], ci key true 0] :=
    callM c0_ok 60 Tryz.func124 2 (by simp) (p := true) (by kernel_rfl) rfl rfl rfl
  exact FnTr.sel [1] k (by kernel_rfl)
def newF : List SV → Option (SV × List Blk × Bool)
  | [.agg [.ints .u8 32 key]] => some (.ptr 0 0 0, [ci key true 0], true)
  | _ => none
noncomputable def newE : Entry Tryz.prog := .val 124 _ Tryz.func124 (by decide) rfl false 1 newF fun vs v new e => by
  unfold newF at e
  split at e
  · cases e; exact new_fn _
  · cases e
theorem begin_run (xs : List Int) : (callS Tryz.prog beC 60 Tryz.f48 [.str xs] []).map (fun x => x) =
    some (.ptr 2 0 0, [.b [.ro true .u8 xs], .b [.ints .u8 32 (S2.shortW [xs].flatten)], st z32 false 0 (S2.shortW [xs].flatten) (S2.shortW [xs].flatten)], andT true (andT true (decide ([xs].flatten.length < 274877900000) && true))) := by kernel_rfl
theorem begin_fn {xs : List Int} (h : xs.length < 274877900000) : FnTr Tryz.prog 48 [.str xs] [] (.ptr 0 0 0) [st z32 false 0 (S2.shortW xs) (S2.shortW xs)] := by
  have k := begin_run xs
  rw [show [xs].flatten = xs by simp, decide_eq_true h] at k
  obtain ⟨x, h2, h3⟩ := Option.map_eq_some_iff.1 k
  subst h3
  exact FnTr.sel [2] (FnTr.of_callS beC_ok Tryz.func48 h2) (by kernel_rfl)
noncomputable def beginF : List SV → Option (SV × List Blk × Bool)
  | [.str xs] => some (.ptr 0 0 0, [st z32 false 0 (S2.shortW xs) (S2.shortW xs)], decide (xs.length < 274877900000))
  | _ => none
noncomputable def beginE : Entry Tryz.prog := .val 48 _ Tryz.func48 (by decide) rfl false 1 beginF fun vs v new e => by
  unfold beginF at e
  split at e
  · simp only [Option.some.injEq, Prod.mk.injEq, decide_eq_true_eq] at e
    obtain ⟨rfl, rfl, h⟩ := e
    exact begin_fn h
  · cases e
noncomputable def mcC : Ctr := mk (P := Tryz.prog) [Kd.extractE, twoE, newE] []
theorem mcC_ok : CtrSound Tryz.prog mcC := mk_sound _ InlOK.nil _ _
noncomputable def mcO (ch m : List Int) : Bool := andT (andT true (andT (andT (decide (ch.length = 32) && true) (decide (ch.length = 32))) (decide (ch.length < 274877900000) && decide (m.length < 274877890000)))) (andT true (decide ((Kd.tagW ch m).length = 32)))
theorem mixSecret_fn {key ch ha m : List Int} {h : Bool} {n : Int} (hc : ch.length = 32) (hm : m.length < 274877890000) : FnTr Tryz.prog 83 [.ptr 0 0 0, .ro false .u8 m] [st key h n ch ha] (.tup []) [st (tw2 (Kd.tagW ch m)) true 0 (tw1 (Kd.tagW ch m)) ha] :=
  callM mcC_ok 60 Tryz.func83 1 (by simp) (p := mcO ch m) (by kernel_rfl) (by
    unfold mcO
    rw [hc, Kd.tagW_len, decide_eq_true hm]
    rfl) rfl rfl
noncomputable def mixSecretF : List SV → List Blk → Option (SV × List Blk × Bool)
  | [.ptr 0 0 0, .ro false .u8 m], [.b [.ints .u8 32 key, .bool h, .int .i64 n, .ints .u8 32 ch, .ints .u8 32 ha]] => some (.tup [], [st (tw2 (Kd.tagW ch m)) true 0 (tw1 (Kd.tagW ch m)) ha], decide (ch.length = 32) && decide (m.length < 274877890000))
  | _, _ => none
noncomputable def mixSecretE : Entry Tryz.prog := .mut 83 _ Tryz.func83 (by decide) rfl pickS 0 mixSecretF fun vs h0 v h1 e => by
  unfold mixSecretF at e
  split at e
  · simp only [Option.some.injEq, Prod.mk.injEq, Bool.and_eq_true, decide_eq_true_eq] at e
    obtain ⟨rfl, rfl, h1, h2⟩ := e
    exact mixSecret_fn h1 h2
  · cases e
end Go.Proofs.YtibfpjeeanppjaaGreat.Cp
end
