/- This file holds the texts NqA, NqB, a section each. No conditions beyond those in the theorems. -/
import Derived.Test.YtibfpjeeanppjaaGreatXBxB
import Derived.Test.YtibfpjeeanppjaaGreatXCpB
set_option linter.all false
set_option maxRecDepth 100000
section
namespace Go.Proofs.YtibfpjeeanppjaaGreat.Q2
open Go Go.Sy Sh
noncomputable def xsC : br := mk (P := Tryz.prog) [JK] [] fun i => if i = 13 || i = 17 then some false else none
theorem Xt : ag Tryz.prog xsC := ah _ aq.nil _ _
def xsO (sec T U : List Int) : Bool :=
  let a := aa (aa (aa (aa (aa true (aa true (decide (sec.length = 32) && bU [1] && decide ([(1 : Int)].length < 274877890000)))) true) (aa (decide (T.length = 32) && true) true)) (aa (decide (T.length = 32) && true) true)) (aa (decide (T.length = 32) && true) true)
  let b := aa (aa a (aa (aa (aa true (decide (T.length = 32) && true)) (decide (T.length = 32))) true)) (aa (aa (aa true (decide (T.length = 32) && true)) (decide (T.length = 32))) true)
  let c := aa (aa b (aa (aa true (aa (decide ((T ++ [2]).length = 33) && true) (decide ((T ++ [2]).length = 33)))) (decide (sec.length = 32) && bU (T ++ [2]) && decide ((T ++ [2]).length < 274877890000)))) true
  aa (aa c (aa (decide (U.length = 32) && true) true)) (aa (aa (aa (decide (U.length = 32) && true) (decide (T.length = 32) && true)) (decide (T.length = 32))) true)
theorem MJ {sec T U : List Int} (h1 : sec.length = 32) (h2 : T.length = 32) (h3 : U.length = 32) (hT : bU T = true) : xsO sec T U = true := by
  have h4 : (T ++ [(2 : Int)]).length = 33 := by rw [List.length_append, h2]; rfl
  have h5 : bU (T ++ [2]) = true := by
    unfold bU at hT ⊢
    rw [List.all_append, hT]; rfl
  unfold xsO
  rw [h1, h2, h3, h4, h5, show bU [1] = true by decide, decide_eq_true (show [(1 : Int)].length < 274877890000 by decide)]
  rfl
theorem Xu (sec : List Int) : (bp Tryz.prog xsC 300 Tryz.f97 [.ro false .u8 sec, .nl (.slice none 0 0), .int .i64 64] []).map (fun x => (x.1, x.2.1.take 5, x.2.2)) =
    some (.aQ [.sl 4 0 0 1 64 64 false false, .bool true], [.b [.ints .u8 1 [1]], .b [.ints .u8 1 [1]], .b [.ints .u8 32 (Kd.bP sec [1])], .b [.ints .u8 32 (Kd.bP sec [1])], .b [.ints .u8 64 (Kd.bP sec [1] ++ Kd.bP sec (Kd.bP sec [1] ++ [2]))]],
      xsO sec (Kd.bP sec [1]) (Kd.bP sec (Kd.bP sec [1] ++ [2]))) := by kernel_rfl
theorem B1 (sec : List Int) : Kd.bf sec [] 64 = Kd.bP sec [1] ++ Kd.bP sec (Kd.bP sec [1] ++ [2]) := by
  unfold Kd.bf
  rw [show (64 - 1) / 32 = 1 from rfl, show 64 - 32 * 1 = 32 from rfl]
  have h1 : Kd.w5 sec [] (0 + 1) = Kd.bP sec [1] := rfl
  have h2 : Kd.w5 sec [] (1 + 1) = Kd.bP sec (Kd.bP sec [1] ++ [2]) := by
    show Kd.bP sec [Kd.w5 sec [] 1, [], [((1 + 1 : Nat) : Int)]].flatten = _
    rw [h1]; rfl
  rw [h2, List.take_of_length_le (by rw [Kd.eG]; omega)]
  show ([] ++ Kd.w5 sec [] (0 + 1)) ++ _ = _
  rw [h1, List.nil_append]
theorem B3 {sec : List Int} (hs : sec.length = 32) : ai Tryz.prog 97 [.ro false .u8 sec, .nl (.slice none 0 0), .int .i64 64] [] (.aQ [.ro true .u8 (Kd.bf sec [] 64), .bool true]) [] := by
  have hr := Xu sec
  have ho := MJ hs (Kd.eG sec [1]) (Kd.eG sec (Kd.bP sec [1] ++ [2])) (Bx.ld (Kd.yF _ _))
  have hl : (Kd.bf sec [] 64).length = 64 := Kd.eH _ _ _
  rw [← B1] at hr
  generalize Kd.bf sec [] 64 = E at hr hl ⊢
  generalize Kd.bP sec (Kd.bP sec [1] ++ [2]) = U at hr ho
  generalize Kd.bP sec [1] = T at hr ho
  have k := bn Xt 300 Tryz.func97 5 (by simp) hr ho rfl rfl
  have k2 : ai Tryz.prog 97 [.ro false .u8 sec, .nl (.slice none 0 0), .int .i64 64] [] (.aQ [.sl 0 0 0 1 64 64 false false, .bool true]) [.b [.ints .u8 64 E]] := ai.Js [4] k (by kernel_rfl)
  have k3 := ai.fz 0 0 (by simp) (by simp) k2 (u := .aQ [.ro true .u8 ((E.drop 0).take 64), .bool true]) (h2 := []) (p := aa (decide (E.length = 64)) (decide (0 + 64 ≤ 64) && true)) (by kernel_rfl) (by rw [hl]; rfl)
  rw [List.drop_zero, List.take_of_length_le (by omega)] at k3
  exact k3
noncomputable def x6 : List SV → Option (SV × List Blk × Bool)
  | [.ro false .u8 sec, .nl (.slice none 0 0), .int .i64 n] => some (.aQ [.ro true .u8 (aH 64 (Kd.bf sec [] 64)), .bool true], [], decide (n = 64) && decide (sec.length = 32))
  | _ => none
noncomputable def HW : Entry Tryz.prog := .val 97 _ Tryz.func97 (by decide) rfl true 0 x6 fun vs v new e => by
  unfold x6 at e
  split at e
  · simp only [Option.some.injEq, Prod.mk.injEq, Bool.and_eq_true, decide_eq_true_eq] at e
    obtain ⟨rfl, rfl, rfl, h1⟩ := e
    rw [aF (Kd.eH _ _ _)]
    exact B3 h1
  · cases e
end Go.Proofs.YtibfpjeeanppjaaGreat.Q2
end
section
namespace Go.Proofs.YtibfpjeeanppjaaGreat.Nq
open Go Go.Sy Sh La
noncomputable def twC : br := mk (P := Tryz.prog) [Q2.HW] []
theorem CT : ag Tryz.prog twC := ah _ aq.nil _ _
theorem CU (s : List Int) : (bp Tryz.prog twC 200 Tryz.f63 [.agg [.ints .u8 32 (aH 32 s)]] []).map (fun x => (x.1, x.2.2)) =
    some (.aQ [.agg [.ints .u8 32 ((aH 64 (Kd.bf (aH 32 s) [] 64)).take 32)], .agg [.ints .u8 32 ((aH 64 (Kd.bf (aH 32 s) [] 64)).drop 32)]], true) := by kernel_rfl
theorem CV {s : List Int} (h : s.length = 32) : ai Tryz.prog 63 [.agg [.ints .u8 32 s]] [] (.aQ [.agg [.ints .u8 32 (Cp.qc s)], .agg [.ints .u8 32 (Cp.xA s)]]) [] := by
  have k := aG CT 200 Tryz.func63 (CU s) rfl rfl
  rw [aF h, aF (Kd.eH _ _ _)] at k
  exact k
noncomputable def Ju : List SV → Option (SV × List Blk × Bool)
  | [.agg [.ints .u8 32 s]] => some (.aQ [.agg [.ints .u8 32 (Cp.qc s)], .agg [.ints .u8 32 (Cp.xA s)]], [], decide (s.length = 32))
  | _ => none
noncomputable def Jv : Entry Tryz.prog := .val 63 _ Tryz.func63 (by decide) rfl false 0 Ju fun vs v new e => by
  unfold Ju at e
  split at e
  · simp only [Option.some.injEq, Prod.mk.injEq, decide_eq_true_eq] at e
    obtain ⟨rfl, rfl, h⟩ := e
    exact CV h
  · cases e
abbrev sv (ch ha : List Int) (has : Bool) (key : List Int) (n : Int) : SV := .agg [.ints .u8 32 ch, .ints .u8 32 ha, .bool has, .ints .u8 32 key, .int .i64 n]
noncomputable def mtC : br := mk (P := Tryz.prog) [Bx.yp] []
theorem zI : ag Tryz.prog mtC := ah _ aq.nil _ _
def mtO (ha text : List Int) : Bool :=
  aa (aa (aa true (decide (ha.length = 32) && true)) (aa (aa (aa true (decide (ha.length = 0 + 32) && true)) (decide (ha.length = 0 + 32))) (decide (0 + 32 + text.length ≤ 2 ^ 38))))
    (aa (aa (decide ((ha ++ text).length = 0 + 32 + text.length) && (decide (0 + 32 + text.length ≤ 0 + 32 + text.length) && true)) (decide ((ha ++ text).length = 0 + 32 + text.length))) (bU (ha ++ text) && decide ((ha ++ text).length < 274877900000)))
section
variable {ch ha key text : List Int} {has : Bool} {n : Int}
theorem D5 (h1 : ha.length = 32) (ub : bU ha = true) (ut : bU text = true) (hl : text.length < 270000000000) : ai Tryz.prog 55 [sv ch ha has key n, .ro false .u8 text] [] (sv ch (S2.aj (ha ++ text)) has key n) [] :=
  aG zI 60 Tryz.func55 (p := mtO ha text) (by kernel_rfl) (by
    have hu : bU (ha ++ text) = true := Bx.tJ ub ut
    have hn : (ha ++ text).length = 32 + text.length := by rw [List.length_append, h1]
    unfold mtO
    rw [hu, hn, h1, decide_eq_true (show 0 + 32 + text.length ≤ 2 ^ 38 by omega), decide_eq_true (show 32 + text.length = 0 + 32 + text.length by omega), decide_eq_true (Nat.le_refl _), decide_eq_true (show 32 + text.length < 274877900000 by omega)]
    rfl) rfl
end
noncomputable def nI : List SV → Option (SV × List Blk × Bool)
  | [.agg [.ints .u8 32 ch, .ints .u8 32 ha, .bool has, .ints .u8 32 key, .int .i64 n], .ro false .u8 text] => some (sv ch (S2.aj (ha ++ text)) has key n, [], decide (ha.length = 32) && bU ha && bU text && decide (text.length < 270000000000))
  | _ => none
noncomputable def kS : Entry Tryz.prog := .val 55 _ Tryz.func55 (by decide) rfl true 0 nI fun vs v new e => by
  unfold nI at e
  split at e
  · simp only [Option.some.injEq, Prod.mk.injEq, Bool.and_eq_true, decide_eq_true_eq] at e
    obtain ⟨rfl, rfl, ⟨⟨h1, h2⟩, h3⟩, h4⟩ := e
    exact D5 h1 h2 h3 h4
  · cases e
noncomputable def msC : br := mk (P := Tryz.prog) [Q2.JK, Jv] []
theorem Jw : ag Tryz.prog msC := ah _ aq.nil _ _
noncomputable def msO (ch x : List Int) : Bool := aa (aa true (aa (aa (decide (ch.length = 32) && true) (decide (ch.length = 32))) (decide (ch.length = 32) && bU x && decide (x.length < 274877890000)))) (aa true (decide ((Kd.bP ch x).length = 32)))
noncomputable def eI : List SV → Option (SV × List Blk × Bool)
  | [.agg [.ints .u8 32 ch, .ints .u8 32 ha, .bool _, .ints .u8 32 _, .int .i64 _], .ro false .u8 x] => some (sv (Cp.qc (Kd.bP ch x)) ha true (Cp.xA (Kd.bP ch x)) 0, [], decide (ch.length = 32) && bU x && decide (x.length < 274877890000))
  | _ => none
noncomputable def lg : Entry Tryz.prog := .val 92 _ Tryz.func92 (by decide) rfl true 0 eI fun vs v new e => by
  unfold eI at e
  split at e
  · rename_i ch ha has key n x
    simp only [Option.some.injEq, Prod.mk.injEq, Bool.and_eq_true, decide_eq_true_eq] at e
    obtain ⟨rfl, rfl, ⟨h1, h2⟩, h3⟩ := e
    exact aG Jw 60 Tryz.func92 (p := msO ch x) (by kernel_rfl) (by unfold msO; rw [h1, h2, Kd.eG, decide_eq_true h3]; rfl) rfl
  · cases e
noncomputable def beC : br := mk (P := Tryz.prog) [Bx.yp] []
theorem CW : ag Tryz.prog beC := ah _ aq.nil _ _
def nmL : List Int := [78, 111, 105, 115, 101, 95, 75, 75, 95, 50, 53, 53, 49, 57, 95, 67, 104, 97, 67, 104, 97, 80, 111, 108, 121, 95, 83, 72, 65, 50, 53, 54]
noncomputable def mS : List SV → Option (SV × List Blk × Bool)
  | [.str l] => some (sv (S2.aj nmL) (S2.aj nmL) false Cp.iA 0, [], decide (l = nmL))
  | _ => none
noncomputable def uW : Entry Tryz.prog := .val 58 _ Tryz.func58 (by decide) rfl false 0 mS fun vs v new e => by
  unfold mS at e
  split at e
  · simp only [Option.some.injEq, Prod.mk.injEq, decide_eq_true_eq] at e
    obtain ⟨rfl, rfl, rfl⟩ := e
    exact aG CW 60 Tryz.func58 (p := true) (by kernel_rfl) rfl rfl
  · cases e
noncomputable def hC : br := mk (P := Tryz.prog) [R4.Xv, R4.yq] []
theorem wo : ag Tryz.prog hC := ah _ aq.nil _ _
noncomputable def hO (key ctx x : List Int) : Bool := aa true (aa true (decide (key.length = 32) && R4.dL key && true && true && R4.dL ctx && decide (ctx.length ≤ 1048576) && decide (x.length ≤ 1048576)))
noncomputable def sP : List SV → Option (SV × List Blk × Bool)
  | [.agg [.ints .u8 32 ch, .ints .u8 32 ha, .bool true, .ints .u8 32 key, .int .i64 n], .ro false .u8 ctx, .ro false .u8 x] => some (.aQ [.ro true .u8 (Ae.fG key (Ae.aD 0) ctx x), sv ch ha true key 1, .int .i64 0], [], decide (n = 0) && decide (key.length = 32) && R4.dL key && R4.dL ctx && decide (ctx.length ≤ 1048576) && decide (x.length ≤ 1048576))
  | _ => none
noncomputable def Jy : Entry Tryz.prog := .val 95 _ Tryz.func95 (by decide) rfl true 0 sP fun vs v new e => by
  unfold sP at e
  split at e
  · rename_i ch ha key n ctx x
    simp only [Option.some.injEq, Prod.mk.injEq, Bool.and_eq_true, decide_eq_true_eq] at e
    obtain ⟨rfl, rfl, ⟨⟨⟨⟨rfl, h1⟩, h2⟩, h3⟩, h4⟩, h5⟩ := e
    exact aG wo 60 Tryz.func95 (p := hO key ctx x) (by kernel_rfl) (by unfold hO; rw [h1, h2, h3, decide_eq_true h4, decide_eq_true h5]; rfl) rfl
  · cases e
noncomputable def sC (b : Bool) : br := mk (P := Tryz.prog) [R4.Jc b, R4.yq] []
theorem Ub (b : Bool) : ag Tryz.prog (sC b) := ah _ aq.nil _ _
noncomputable def sO (key ctx x : List Int) (o : Bool) : Bool := aa true (aa true (decide (key.length = 32) && R4.dL key && true && true && R4.dL ctx && R4.dL x && decide (ctx.length ≤ 1048592) && decide (x.length ≤ 1048592) && o))
noncomputable def sQ (u : Bool) : List SV → Option (SV × List Blk × Bool)
  | [.agg [.ints .u8 32 ch, .ints .u8 32 ha, .bool true, .ints .u8 32 key, .int .i64 n], .ro false .u8 ctx, .ro false .u8 x] => match u with
    | true => some (.aQ [.ro true .u8 (Ae.b9 key (Ae.aD 0) x), sv ch ha true key 1, .int .i64 0], [], decide (n = 0) && decide (key.length = 32) && R4.dL key && R4.dL ctx && R4.dL x && decide (ctx.length ≤ 1048592) && decide (x.length ≤ 1048592) && Ae.bk key (Ae.aD 0) ctx x)
    | false => some (.aQ [.nl (.slice none 0 0), sv ch ha true key 0, .int .i64 2], [], decide (n = 0) && decide (key.length = 32) && R4.dL key && R4.dL ctx && R4.dL x && decide (ctx.length ≤ 1048592) && decide (x.length ≤ 1048592) && !Ae.bk key (Ae.aD 0) ctx x)
  | _ => none
noncomputable def EH (u : Bool) : Entry Tryz.prog := .val 93 _ Tryz.func93 (by decide) rfl true 0 (sQ u) fun vs v new e => by
  unfold sQ at e
  split at e
  · rename_i ch ha key n ctx x
    split at e
    · simp only [Option.some.injEq, Prod.mk.injEq, Bool.and_eq_true, decide_eq_true_eq] at e
      obtain ⟨rfl, rfl, ⟨⟨⟨⟨⟨⟨rfl, h1⟩, h2⟩, h3⟩, h4⟩, h5⟩, h6⟩, h7⟩ := e
      exact aG (Ub true) 60 Tryz.func93 (p := sO key ctx x (Ae.bk key (Ae.aD 0) ctx x)) (by kernel_rfl) (by unfold sO; rw [h1, h2, h3, h4, h7, decide_eq_true h5, decide_eq_true h6]; rfl) rfl
    · simp only [Option.some.injEq, Prod.mk.injEq, Bool.and_eq_true, decide_eq_true_eq] at e
      obtain ⟨rfl, rfl, ⟨⟨⟨⟨⟨⟨rfl, h1⟩, h2⟩, h3⟩, h4⟩, h5⟩, h6⟩, h7⟩ := e
      exact aG (Ub false) 60 Tryz.func93 (p := sO key ctx x (!Ae.bk key (Ae.aD 0) ctx x)) (by kernel_rfl) (by unfold sO; rw [h1, h2, h3, h4, h7, decide_eq_true h5, decide_eq_true h6]; rfl) rfl
  · cases e
end Go.Proofs.YtibfpjeeanppjaaGreat.Nq
end
