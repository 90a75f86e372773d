/- This file holds the texts CpA, CpB, a section each. No conditions beyond those in the theorems. -/
import Derived.Test.YtkoohnpknhoahaaKKdC
import Derived.Test.YtkoohnpknhoahaaKAeF
set_option linter.all false
section
namespace Go.Proofs.Ytkoohnpknhoahaa.Cp
open Go Go.Sy Sh
noncomputable def twC : Ctr := mk (P := Try.prog) [Kd.expandE] []
theorem twC_ok : CtrSound Try.prog twC := mk_sound _ InlOK.nil _ _
noncomputable def tw1 (s : List Int) : List Int := (Kd.expandW s [] 64).take 32
noncomputable def tw2 (s : List Int) : List Int := (Kd.expandW s [] 64).drop 32
noncomputable def twS (e : List Int) : List Int := spl (List.replicate 32 0) 0 e (Nat.min e.length 32)
noncomputable def twO (s e : List Int) : Bool := andT (andT (andT (andT true (andT (andT (decide (s.length = 32) && true) (decide (s.length = 32))) (decide (s.length < 274877900000) && true && true))) (andT true (true && decide (0 + Nat.min e.length 32 ≤ 32) && decide (Nat.min e.length 32 ≤ e.length)))) (andT true (andT true (true && decide ((32 : Int) ≤ (e.length : Int)))))) (andT true (true && decide (0 + Nat.min (e.drop 32).length 32 ≤ 32) && decide (Nat.min (e.drop 32).length 32 ≤ (e.drop 32).length)))
set_option maxRecDepth 100000 in
theorem tw_run (s : List Int) : (callS Try.prog twC 60 Try.f75 [.agg [.ints .u8 32 s]] []).map (fun x => (x.1, x.2.2)) = some (.tup [.agg [.ints .u8 32 (twS (Kd.expandW s [] 64))], .agg [.ints .u8 32 (twS ((Kd.expandW s [] 64).drop 32))]], twO s (Kd.expandW s [] 64)) := by kernel_rfl
theorem twS_eq {e : List Int} (h : 32 ≤ e.length) : twS e = e.take 32 := by
  have hm : Nat.min e.length 32 = 32 := Nat.min_eq_right h
  unfold twS spl
  rw [hm]
  simp
theorem two_fn {s : List Int} (hs : s.length = 32) : FnTr Try.prog 75 [.agg [.ints .u8 32 s]] [] (.tup [.agg [.ints .u8 32 (tw1 s)], .agg [.ints .u8 32 (tw2 s)]]) [] := by
  have hl := Kd.expandW_len s [] 64
  have hd : ((Kd.expandW s [] 64).drop 32).length = 32 := by rw [List.length_drop, hl]
  have k := call0 twC_ok 60 Try.func75 (tw_run s) (by unfold twO; rw [hs, hd, hl]; decide) rfl
  rw [twS_eq (by omega), twS_eq (by omega), List.take_of_length_le (i := 32) (l := (Kd.expandW s [] 64).drop 32) (by omega)] at k
  exact k
noncomputable def twoF : List SV → Option (SV × List Blk × Bool)
  | [.agg [.ints .u8 32 s]] => some (.tup [.agg [.ints .u8 32 (tw1 s)], .agg [.ints .u8 32 (tw2 s)]], [], decide (s.length = 32))
  | _ => none
noncomputable def twoE : Entry Try.prog := .val 75 _ Try.func75 (by decide) rfl false 0 twoF fun vs v new e => by
  unfold twoF at e
  split at e
  · simp only [Option.some.injEq, Prod.mk.injEq, decide_eq_true_eq] at e
    obtain ⟨rfl, rfl, h⟩ := e
    exact two_fn h
  · cases e
def st (key : List Int) (h : Bool) (n : Int) (ch ha : List Int) : Blk := .b [.ints .u8 32 key, .bool h, .int .i64 n, .ints .u8 32 ch, .ints .u8 32 ha]
noncomputable def z32 : List Int := List.replicate 32 0
noncomputable def beC : Ctr := mk (P := Try.prog) [S2.shortE] []
theorem beC_ok : CtrSound Try.prog beC := mk_sound _ InlOK.nil _ _
def pickS (vs : List SV) (_ : List Blk) : List Nat := match vs with
  | .ptr b _ _ :: _ => [b]
  | _ => []
noncomputable def inlH : List (FuncId × Func) := [(25, Try.f25), (27, Try.f27), (68, Try.f68), (35, Try.f35)]
theorem inlH_ok : InlOK Try.prog inlH := InlOK.cons Try.func25 (by decide) (InlOK.cons Try.func27 (by decide) (InlOK.cons Try.func68 (by decide) (InlOK.cons Try.func35 (by decide) InlOK.nil)))
noncomputable def hiC : Ctr := mk (P := Try.prog) [S2.shortE, Ae.sealE, Ae.nonceE] inlH fun i => if i = 25 then some false else none
theorem hiC_ok : CtrSound Try.prog hiC := mk_sound _ inlH_ok _ _
noncomputable def shC : Ctr := mk (P := Try.prog) [S2.shortE, Ae.openE true, Ae.nonceE] inlH fun i => if i = 25 then some false else none
theorem shC_ok : CtrSound Try.prog shC := mk_sound _ inlH_ok _ _
noncomputable def hiW (key ha : List Int) (n : Int) (text : List Int) : List Int := Ae.sealW key (Ae.nonceW n) ha text
noncomputable def hiX (ha x : List Int) : Bool := andT true (andT (andT true (andT (andT true (decide (ha.length = 32) && true)) (decide (ha.length = 32)))) (decide ([ha, x].flatten.length < 274877900000) && true))
noncomputable def hiO (ha text x : List Int) (n : Int) : Bool := andT (andT true (andT true (andT (andT true (!decide (n ≥ 4294967295))) (andT (andT true (andT true (andT (decide (ha.length = 32) && true) (decide (ha.length = 32))))) (true && decide (ha.length ≤ 1048576) && decide (text.length ≤ 1048576)))))) (hiX ha x)
noncomputable def shO (key ha x : List Int) (n : Int) : Bool := andT (andT true (andT true (andT (andT true (!decide (n ≥ 4294967295))) (andT (andT true (andT true (andT (decide (ha.length = 32) && true) (decide (ha.length = 32))))) (true && decide (ha.length ≤ 1048592) && decide (x.length ≤ 1048592) && Ae.openB key (Ae.nonceW n) ha x))))) (hiX ha x)
section
variable (key ch ha text : List Int) (h : Bool) (n : Int)
set_option maxRecDepth 100000 in
theorem hi_run : (callS Try.prog hiC 60 Try.f37 [.ptr 0 0 0, .ro false .u8 text] [st key true n ch ha]).map (fun x => (x.1, x.2.1.take 1, x.2.2)) =
    some (.tup [.ro true .u8 (hiW key ha n text), .nl .nilIface], [st key true (IntKind.i64.wrap (n + 1)) ch (S2.shortW [ha, hiW key ha n text].flatten)], hiO ha text (hiW key ha n text) n) := by kernel_rfl
set_option maxRecDepth 100000 in
theorem sh_run : (callS Try.prog shC 60 Try.f38 [.ptr 0 0 0, .ro false .u8 text] [st key true n ch ha]).map (fun x => (x.1, x.2.1.take 1, x.2.2)) =
    some (.tup [.ro true .u8 (Ae.openW key (Ae.nonceW n) text), .nl .nilIface], [st key true (IntKind.i64.wrap (n + 1)) ch (S2.shortW [ha, text].flatten)], shO key ha text n) := by kernel_rfl
end
theorem hiX_true {ha x : List Int} (h1 : ha.length = 32) (h2 : x.length < 270000000000) : hiX ha x = true := by
  unfold hiX
  rw [h1, decide_eq_true (show [ha, x].flatten.length < 274877900000 by simp only [List.flatten_cons, List.flatten_nil, List.length_append, List.length_nil]; omega)]
  rfl
theorem flat2 (a b : List Int) : [a, b].flatten = a ++ b := by simp
theorem hide_fn {key ch ha text : List Int} {n : Int} (h1 : ha.length = 32) (h0 : 0 ≤ n) (hn : n < 4294967295) (ht : text.length ≤ 1048576) :
    FnTr Try.prog 37 [.ptr 0 0 0, .ro false .u8 text] [st key true n ch ha] (.tup [.ro true .u8 (hiW key ha n text), .nl .nilIface]) [st key true (n + 1) ch (S2.shortW (ha ++ hiW key ha n text))] := by
  have e := hi_run key ch ha text n
  rw [wrap_i64 _ (by omega) (by omega), flat2] at e
  exact callM hiC_ok 60 Try.func37 1 (by simp) e (by
    unfold hiO
    rw [h1, decide_eq_false (show ¬ (n ≥ 4294967295) by omega), decide_eq_true ht, hiX_true h1 (by unfold hiW; rw [Ae.sealW_len]; omega)]
    rfl) rfl rfl
theorem show_fn {key ch ha x : List Int} {n : Int} (h1 : ha.length = 32) (h0 : 0 ≤ n) (hn : n < 4294967295) (ht : x.length ≤ 1048592) (ok : Ae.openB key (Ae.nonceW n) ha x = true) :
    FnTr Try.prog 38 [.ptr 0 0 0, .ro false .u8 x] [st key true n ch ha] (.tup [.ro true .u8 (Ae.openW key (Ae.nonceW n) x), .nl .nilIface]) [st key true (n + 1) ch (S2.shortW (ha ++ x))] := by
  have e := sh_run key ch ha x n
  rw [wrap_i64 _ (by omega) (by omega), flat2] at e
  exact callM shC_ok 60 Try.func38 1 (by simp) e (by
    unfold shO
    rw [h1, decide_eq_false (show ¬ (n ≥ 4294967295) by omega), decide_eq_true ht, ok, hiX_true h1 (by omega)]
    rfl) rfl rfl
noncomputable def hideF : List SV → List Blk → Option (SV × List Blk × Bool)
  | [.ptr 0 0 0, .ro false .u8 text], [.b [.ints .u8 32 key, .bool true, .int .i64 n, .ints .u8 32 ch, .ints .u8 32 ha]] => some (.tup [.ro true .u8 (hiW key ha n text), .nl .nilIface], [st key true (n + 1) ch (S2.shortW (ha ++ hiW key ha n text))], decide (ha.length = 32) && decide (0 ≤ n) && decide (n < 4294967295) && decide (text.length ≤ 1048576))
  | _, _ => none
noncomputable def hideE : Entry Try.prog := .mut 37 _ Try.func37 (by decide) rfl pickS 0 hideF fun vs h0 v h1 e => by
  unfold hideF at e
  split at e
  · simp only [Option.some.injEq, Prod.mk.injEq, Bool.and_eq_true, decide_eq_true_eq] at e
    obtain ⟨rfl, rfl, ⟨⟨h1, h2⟩, h3⟩, h4⟩ := e
    exact hide_fn h1 h2 h3 h4
  · cases e
noncomputable def showF : List SV → List Blk → Option (SV × List Blk × Bool)
  | [.ptr 0 0 0, .ro false .u8 x], [.b [.ints .u8 32 key, .bool true, .int .i64 n, .ints .u8 32 ch, .ints .u8 32 ha]] => some (.tup [.ro true .u8 (Ae.openW key (Ae.nonceW n) x), .nl .nilIface], [st key true (n + 1) ch (S2.shortW (ha ++ x))], decide (ha.length = 32) && decide (0 ≤ n) && decide (n < 4294967295) && decide (x.length ≤ 1048592) && Ae.openB key (Ae.nonceW n) ha x)
  | _, _ => none
noncomputable def showE : Entry Try.prog := .mut 38 _ Try.func38 (by decide) rfl pickS 0 showF fun vs h0 v h1 e => by
  unfold showF at e
  split at e
  · simp only [Option.some.injEq, Prod.mk.injEq, Bool.and_eq_true, decide_eq_true_eq] at e
    obtain ⟨rfl, rfl, ⟨⟨⟨h1, h2⟩, h3⟩, h4⟩, h5⟩ := e
    exact show_fn h1 h2 h3 h4 h5
  · cases e
end Go.Proofs.Ytkoohnpknhoahaa.Cp
end
section
namespace Go.Proofs.Ytkoohnpknhoahaa.Cp
open Go Go.Sy Sh
noncomputable def c0 : Ctr := mk (P := Try.prog) [] []
theorem c0_ok : CtrSound Try.prog c0 := mk_sound _ InlOK.nil _ _
def ci (key : List Int) (h : Bool) (n : Int) : Blk := .b [.ints .u8 32 key, .bool h, .int .i64 n]
set_option maxRecDepth 100000 in
theorem new_fn (key : List Int) : FnTr Try.prog 21 [.agg [.ints .u8 32 key]] [] (.ptr 0 0 0) [ci key true 0] := by
  have k : FnTr Try.prog 21 [.agg [.ints .u8 32 key]] [] (.ptr 1 0 0) [.b [.ints .u8 32 key], ci key true 0] :=
    callM c0_ok 60 Try.func21 2 (by simp) (p := true) (by kernel_rfl) rfl rfl rfl
  exact FnTr.sel [1] k (by kernel_rfl)
def newF : List SV → Option (SV × List Blk × Bool)
  | [.agg [.ints .u8 32 key]] => some (.ptr 0 0 0, [ci key true 0], true)
  | _ => none
noncomputable def newE : Entry Try.prog := .val 21 _ Try.func21 (by decide) rfl false 1 newF fun vs v new e => by
  unfold newF at e
  split at e
  · cases e; exact new_fn _
  · cases e
set_option maxRecDepth 100000 in
theorem begin_run (xs : List Int) : (callS Try.prog beC 60 Try.f34 [.str xs] []).map (fun x => x) =
    some (.ptr 2 0 0, [.b [.ro true .u8 xs], .b [.ints .u8 32 (S2.shortW [xs].flatten)], st z32 false 0 (S2.shortW [xs].flatten) (S2.shortW [xs].flatten)], andT true (andT true (decide ([xs].flatten.length < 274877900000) && true))) := by kernel_rfl
theorem begin_fn {xs : List Int} (h : xs.length < 274877900000) : FnTr Try.prog 34 [.str xs] [] (.ptr 0 0 0) [st z32 false 0 (S2.shortW xs) (S2.shortW xs)] := by
  have k := begin_run xs
  rw [show [xs].flatten = xs by simp, decide_eq_true h] at k
  obtain ⟨x, h2, h3⟩ := Option.map_eq_some_iff.1 k
  subst h3
  exact FnTr.sel [2] (FnTr.of_callS beC_ok Try.func34 h2) (by kernel_rfl)
noncomputable def beginF : List SV → Option (SV × List Blk × Bool)
  | [.str xs] => some (.ptr 0 0 0, [st z32 false 0 (S2.shortW xs) (S2.shortW xs)], decide (xs.length < 274877900000))
  | _ => none
noncomputable def beginE : Entry Try.prog := .val 34 _ Try.func34 (by decide) rfl false 1 beginF fun vs v new e => by
  unfold beginF at e
  split at e
  · simp only [Option.some.injEq, Prod.mk.injEq, decide_eq_true_eq] at e
    obtain ⟨rfl, rfl, h⟩ := e
    exact begin_fn h
  · cases e
noncomputable def mcC : Ctr := mk (P := Try.prog) [Kd.extractE, twoE, newE] []
theorem mcC_ok : CtrSound Try.prog mcC := mk_sound _ InlOK.nil _ _
noncomputable def mcO (ch m : List Int) : Bool := andT (andT true (andT (andT (decide (ch.length = 32) && true) (decide (ch.length = 32))) (decide (ch.length < 274877900000) && decide (m.length < 274877890000)))) (andT true (decide ((Kd.tagW ch m).length = 32)))
set_option maxRecDepth 100000 in
theorem mixSecret_fn {key ch ha m : List Int} {h : Bool} {n : Int} (hc : ch.length = 32) (hm : m.length < 274877890000) : FnTr Try.prog 36 [.ptr 0 0 0, .ro false .u8 m] [st key h n ch ha] (.tup []) [st (tw2 (Kd.tagW ch m)) true 0 (tw1 (Kd.tagW ch m)) ha] :=
  callM mcC_ok 60 Try.func36 1 (by simp) (p := mcO ch m) (by kernel_rfl) (by
    unfold mcO
    rw [hc, Kd.tagW_len, decide_eq_true hm]
    rfl) rfl rfl
noncomputable def mixSecretF : List SV → List Blk → Option (SV × List Blk × Bool)
  | [.ptr 0 0 0, .ro false .u8 m], [.b [.ints .u8 32 key, .bool h, .int .i64 n, .ints .u8 32 ch, .ints .u8 32 ha]] => some (.tup [], [st (tw2 (Kd.tagW ch m)) true 0 (tw1 (Kd.tagW ch m)) ha], decide (ch.length = 32) && decide (m.length < 274877890000))
  | _, _ => none
noncomputable def mixSecretE : Entry Try.prog := .mut 36 _ Try.func36 (by decide) rfl pickS 0 mixSecretF fun vs h0 v h1 e => by
  unfold mixSecretF at e
  split at e
  · simp only [Option.some.injEq, Prod.mk.injEq, Bool.and_eq_true, decide_eq_true_eq] at e
    obtain ⟨rfl, rfl, h1, h2⟩ := e
    exact mixSecret_fn h1 h2
  · cases e
end Go.Proofs.Ytkoohnpknhoahaa.Cp
end
