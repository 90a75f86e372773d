/- This file proves the contracts of burrownum's Copy, Kept, and of Apart for two lists. Conditions: lengths that memory bears; texts of bytes. -/
import Derived.Test.YtkoohnpknhoahaaKBnB
import Derived.Test.YtkoohnpknhoahaaKBnC
import Derived.Test.YtkoohnpknhoahaaKBnD
set_option linter.all false
namespace Go.Proofs.Ytkoohnpknhoahaa.Bn
open Go Go.Sy Sh
noncomputable def cpC : Ctr := mk (P := Try.prog) [] [] (fun _ => none) (fun i => i == 8 || i == 10)
theorem cpC_ok : CtrSound Try.prog cpC := mk_sound _ InlOK.nil _ _
def cpN (xs : List Int) : Int := J ((xs.length : Int) + 2)
def cpL (xs : List Int) : List Int := spl (spl (List.replicate (cpN xs).toNat 0) (0 + 0) xs xs.length) (0 + (0 + xs.length)) [165, 90] 2
def cpO (xs : List Int) : Bool :=
  andT (andT (andT (andT true (J 0 == 0 && J (cpN xs) == cpN xs && (true && decide (0 ≤ cpN xs) && decide ((1 : Int) * cpN xs ≤ 281474976710656))))
    (andT (andT (andT true true) (decide (0 + xs.length ≤ (cpN xs).toNat))) (decide ((List.replicate (cpN xs).toNat (0 : Int)).length = (cpN xs).toNat) && decide (0 + 0 + xs.length ≤ (cpN xs).toNat) && decide (xs.length ≤ xs.length))))
    (andT (andT (andT true true) (decide (0 + xs.length + 2 ≤ (cpN xs).toNat))) (decide ((spl (List.replicate (cpN xs).toNat 0) (0 + 0) xs xs.length).length = (cpN xs).toNat) && decide (0 + (0 + xs.length) + 2 ≤ (cpN xs).toNat) && true)))
    (andT true (true && decide ((xs.length : Int) ≤ (((cpN xs).toNat : Nat) : Int))))
set_option maxRecDepth 100000 in
theorem cp_run (xs : List Int) : (callS Try.prog cpC 60 Try.f24 [.ro false .u8 xs] []).map (fun r => (r.1, r.2.1.take 1, r.2.2)) =
    some (.sl 0 0 0 1 xs.length (cpN xs).toNat true false, [.b [.ints .u8 (cpN xs).toNat (cpL xs)]], cpO xs) := by kernel_rfl
theorem cpL_eq (xs : List Int) (h : xs.length < 1000000) : (cpN xs).toNat = xs.length + 2 ∧ cpL xs = xs ++ [165, 90] ∧ cpO xs = true := by
  have hN : cpN xs = ((xs.length + 2 : Nat) : Int) := by unfold cpN; rw [J_eq (by omega) (by omega)]; omega
  have hs : spl (List.replicate (xs.length + 2) 0) (0 + 0) xs xs.length = xs ++ [0, 0] := by
    unfold spl
    rw [Nat.zero_add, List.take_zero, List.nil_append, List.take_of_length_le (Nat.le_refl _), Nat.zero_add, List.drop_replicate, Nat.add_sub_cancel_left]
    rfl
  refine ⟨by rw [hN, Int.toNat_natCast], ?_, ?_⟩
  · unfold cpL
    rw [hN, Int.toNat_natCast, hs]
    unfold spl
    rw [Nat.zero_add, Nat.zero_add, List.take_left' rfl, List.drop_of_length_le (by simp)]
    simp
  · unfold cpO
    rw [hN, Int.toNat_natCast, hs, J_eq (n := ((xs.length + 2 : Nat) : Int)) (by omega) (by omega)]
    simp [andT_iff, J, IntKind.wrap, IntKind.signed, IntKind.bits]
    omega
theorem copy_fn {xs : List Int} (h : xs.length < 1000000) : FnTr Try.prog 24 [.ro false .u8 xs] [] (.sl 0 0 0 1 xs.length (xs.length + 2) true false) [.b [.ints .u8 (xs.length + 2) (xs ++ [165, 90])]] := by
  obtain ⟨h1, h2, h3⟩ := cpL_eq xs h
  have k := cp_run xs
  rw [h1, h2, h3] at k
  exact callM cpC_ok 60 Try.func24 1 (by simp) k rfl rfl rfl
def copyF : List SV → Option (SV × List Blk × Bool)
  | [.ro false .u8 xs] => some (.sl 0 0 0 1 xs.length (xs.length + 2) true false, [.b [.ints .u8 (xs.length + 2) (xs ++ [165, 90])]], decide (xs.length < 1000000))
  | _ => none
noncomputable def copyE : Entry Try.prog := .val 24 _ Try.func24 (by decide) rfl true 1 copyF fun vs v new e => by
  unfold copyF at e
  split at e
  · simp only [Option.some.injEq, Prod.mk.injEq, decide_eq_true_eq] at e
    obtain ⟨rfl, rfl, h⟩ := e
    exact copy_fn h
  · cases e
noncomputable def kpC : Ctr := mk (P := Try.prog) [] [] fun i => if i = 10 || i = 17 then some false else if i = 29 then some true else none
theorem kpC_ok : CtrSound Try.prog kpC := mk_sound _ InlOK.nil _ _
noncomputable def kpB : Code := bodyOf Try.f32
noncomputable def kp1 (n m : Nat) (xs l : List Int) : St := ⟨slotsOf 39 [(0, .sl 0 0 0 1 n (n + 2) true false), (1, .ro false .u8 xs)], [.b [.ints .u8 m l]], true⟩
noncomputable def kp2 (n m q : Nat) (xs l : List Int) : St := ⟨slotsOf 39 [(1, .ro false .u8 xs), (5, .sl 0 0 0 1 q (n + 2) true false)], [.b [.ints .u8 m l]], true⟩
def kpO (n m : Nat) (xs l : List Int) : Bool :=
  andT (andT (andT (andT true (andT (andT (decide (0 + n ≤ m) && decide (0 + n ≤ l.length)) (true && decide (((l.drop 0).take n).length = n))) (u8R ((l.drop 0).take n)))) (andT (andT true (true && decide (xs.length = xs.length))) (u8R xs))) (!(!decide ((l.drop 0).take n = xs)))) (!decide (((n + 2 : Nat) : Int) < J ((xs.length : Int) + 2)))
def kpP (n : Nat) (xs : List Int) : Bool := andT true (andT true (decide (0 ≤ J ((xs.length : Int) + 2)) && decide (J ((xs.length : Int) + 2) ≤ ((n + 2 : Nat) : Int))))
def kpQ (q m : Nat) (xs l : List Int) : Bool := andT (andT (andT (andT (andT true (inB (xs.length : Int) q)) (decide (0 + (xs.length : Int).toNat < m))) (l.getD (0 + (xs.length : Int).toNat) 0 == 165)) (inB (J ((xs.length : Int) + 1)) q)) (decide (0 + (J ((xs.length : Int) + 1)).toNat < m))
section
variable (n m q : Nat) (xs l : List Int)
set_option maxRecDepth 100000 in
theorem kp_a : (execL Try.prog kpC 60 1 3 (atoms kpB) ⟨slots0 Try.f32.ntmps [.sl 0 0 0 1 n (n + 2) true false, .ro false .u8 xs], [.b [.ints .u8 m l]], true⟩).bind (St.cut [0, 1] 1) = some { kp1 n m xs l with ob := kpO n m xs l } := by kernel_rfl
set_option maxRecDepth 100000 in
theorem kp_b : (execL Try.prog kpC 60 1 1 ((atoms kpB).drop 3) (kp1 n m xs l)).bind (St.cut [1, 5] 1) = some { kp2 n m (J ((xs.length : Int) + 2)).toNat xs l with ob := kpP n xs } := by kernel_rfl
end
set_option maxRecDepth 100000 in
theorem kp_end {n m q : Nat} {xs l : List Int} {args : List SV} (ho : kpQ q m xs l = true) (ht : ∀ s' x, TrL Try.prog none 1 ((atoms (bodyOf Try.f32)).drop 4) (kp2 n m q xs l) x s' → TrL Try.prog none 1 (atoms (bodyOf Try.f32)) ⟨slots0 Try.f32.ntmps args, [.b [.ints .u8 m l]], true⟩ x s') :
    FnTr Try.prog 32 args [.b [.ints .u8 m l]] (.bool (l.getD (0 + (J ((xs.length : Int) + 1)).toNat) 0 == 90)) [.b [.ints .u8 m l]] :=
  FnTr.restM kpC_ok 60 4 1 Try.func32 (by simp) rfl ht (p := kpQ q m xs l) (by kernel_rfl) ho rfl rfl
theorem kept_fn {xs : List Int} (h : xs.length < 1000000) (d : u8R xs = true) : FnTr Try.prog 32 [.sl 0 0 0 1 xs.length (xs.length + 2) true false, .ro false .u8 xs] [.b [.ints .u8 (xs.length + 2) (xs ++ [165, 90])]] (.bool true) [.b [.ints .u8 (xs.length + 2) (xs ++ [165, 90])]] := by
  have hJ : J ((xs.length : Int) + 2) = ((xs.length + 2 : Nat) : Int) := by rw [J_eq (by omega) (by omega)]; omega
  have hJ1 : J ((xs.length : Int) + 1) = ((xs.length + 1 : Nat) : Int) := by rw [J_eq (by omega) (by omega)]; omega
  have g0 : (xs ++ [165, 90]).getD xs.length 0 = 165 := by rw [List.getD_eq_getElem?_getD, List.getElem?_append_right (Nat.le_refl _), Nat.sub_self]; rfl
  have g1 : (xs ++ [165, 90]).getD (xs.length + 1) 0 = 90 := by rw [List.getD_eq_getElem?_getD, List.getElem?_append_right (by omega), Nat.add_sub_cancel_left]; rfl
  have hl : (xs ++ [(165 : Int), 90]).length = xs.length + 2 := by simp
  have ht : ((xs ++ [(165 : Int), 90]).drop 0).take xs.length = xs := by rw [List.drop_zero, List.take_left' rfl]
  have oa : kpO xs.length (xs.length + 2) xs (xs ++ [165, 90]) = true := by
    unfold kpO
    rw [ht, hl, d, hJ, decide_eq_true (rfl : xs = xs), decide_eq_false (show ¬ (((xs.length + 2 : Nat) : Int) < ((xs.length + 2 : Nat) : Int)) by omega), decide_eq_true (show 0 + xs.length ≤ xs.length + 2 by omega), decide_eq_true (rfl : xs.length = xs.length)]; rfl
  have ob : kpP xs.length xs = true := by
    unfold kpP
    rw [hJ, decide_eq_true (show (0 : Int) ≤ ((xs.length + 2 : Nat) : Int) by omega), decide_eq_true (Int.le_refl _)]; rfl
  have oc : kpQ (xs.length + 2) (xs.length + 2) xs (xs ++ [165, 90]) = true := by
    unfold kpQ
    rw [hJ1, Int.toNat_natCast, Int.toNat_natCast, Nat.zero_add, Nat.zero_add, g0, inB_true (by omega) (by omega), inB_true (by omega) (by omega), decide_eq_true (show xs.length < xs.length + 2 by omega), decide_eq_true (show xs.length + 1 < xs.length + 2 by omega)]; rfl
  have ea := kp_a xs.length (xs.length + 2) xs (xs ++ [165, 90])
  have eb := kp_b xs.length (xs.length + 2) xs (xs ++ [165, 90])
  rw [oa] at ea
  rw [ob, hJ, Int.toNat_natCast] at eb
  have k := kp_end (n := xs.length) (q := xs.length + 2) (args := [.sl 0 0 0 1 xs.length (xs.length + 2) true false, .ro false .u8 xs]) oc fun s' x h => by
    refine TrL.items kpC_ok 60 3 _ 1 (by omega) ea rfl (by decide) ?_
    refine TrL.items kpC_ok 60 1 _ 1 (by omega) eb rfl (by decide) ?_
    rw [List.drop_drop]
    exact h
  rw [hJ1, Int.toNat_natCast, Nat.zero_add, g1] at k
  exact k
def pickB (vs : List SV) : List Nat := match vs with
  | .sl b _ _ _ _ _ _ _ :: _ => [b]
  | _ => []
def keptF : List SV → List Blk → Option (SV × Bool)
  | [.sl 0 0 0 1 n c true false, .ro false .u8 xs], [.b [.ints .u8 m l]] => some (.bool (decide (l = xs ++ [165, 90])), decide (n = xs.length) && decide (c = xs.length + 2) && decide (m = xs.length + 2) && decide (l = xs ++ [165, 90]) && decide (xs.length < 1000000) && u8R xs)
  | _, _ => none
noncomputable def keptE : Entry Try.prog := .rdm 32 _ Try.func32 (by decide) rfl pickB keptF fun vs h0 v e => by
  unfold keptF at e
  split at e
  · simp only [Option.some.injEq, Prod.mk.injEq, Bool.and_eq_true, decide_eq_true_eq] at e
    obtain ⟨rfl, ⟨⟨⟨⟨rfl, rfl⟩, rfl⟩, rfl⟩, h5⟩, h6⟩ := e
    rw [decide_eq_true rfl]
    exact kept_fn h5 h6
  · cases e
theorem apart_u {n0 n1 cp : Nat} {l0 l1 : List Int} {ex wh wh0 wh1 : Bool} (e0 : l0.length = n0) (e1 : l1.length = n1 + 2) (b0 : n0 < 1000000) (b1 : n1 < 1000000) :
    FnTr Try.prog 33 [.sl 0 0 0 1 2 2 ex wh] [.b [.sl 1 0 0 1 n0 cp false wh0, .sl 2 0 0 1 n1 (n1 + 2) true wh1], .b [.ints .u8 n0 l0], .b [.ints .u8 (n1 + 2) l1]] (.bool true) [.b [], .b [], .b []] := by
  have e1' : (l1.take n1).length = n1 := by rw [List.length_take]; omega
  refine FnTr.anyB (ι := Nat) (fun c => Aim.H n0 c n1 (n1 + 2) n0 n1 l0 (l1.take n1)) (fun c => n0 ≤ c) (fun _ => rfl) (fun B e w R => ?_) (fun c hc => ?_)
  · obtain ⟨c, hc, R1⟩ := R.capP (b := 0) (pre := []) (post := [.sl 2 0 0 1 n1 (n1 + 2) true wh1]) rfl
    have R2 := R1.same (b := 0) (ps' := [.sl 1 0 0 1 n0 c true true, .sl 2 0 0 1 n1 (n1 + 2) true true]) rfl (fun ys g => g) rfl
    exact ⟨c, hc, R2.shrink (b := 2) (n := n1) rfl (by omega)⟩
  · by_cases q : n0 + 10 ≤ c
    · exact FnTr.noBlk (Aim.apart_fn ex wh e0 b0 hc q e1' b1 (by omega) (by omega))
    · exact FnTr.noBlk (Amm.apart_fn ex wh e0 b0 hc (by omega) e1' b1 (by omega) (by omega))
theorem apart_n {n1 : Nat} {l1 : List Int} {ex wh wh1 : Bool} (e1 : l1.length = n1 + 2) (b1 : n1 < 1000000) :
    FnTr Try.prog 33 [.sl 0 0 0 1 2 2 ex wh] [.b [.nl (.slice none 0 0), .sl 1 0 0 1 n1 (n1 + 2) true wh1], .b [.ints .u8 (n1 + 2) l1]] (.bool true) [.b [], .b []] := by
  have e1' : (l1.take n1).length = n1 := by rw [List.length_take]; omega
  refine FnTr.anyB (ι := Unit) (fun _ => Anm.H n1 (n1 + 2) n1 (l1.take n1)) (fun _ => True) (fun _ => rfl) (fun B e w R => ?_) (fun c hc => ?_)
  · have R2 := R.same (b := 0) (ps' := [.nl (.slice none 0 0), .sl 1 0 0 1 n1 (n1 + 2) true true]) rfl (fun ys g => g) rfl
    exact ⟨(), trivial, R2.shrink (b := 1) (n := n1) rfl (by omega)⟩
  · exact FnTr.noBlk (Anm.apart_fn ex wh e1' b1 (by omega) (by omega))
def contB (h : List Blk) (b : Nat) : List Nat := match h[b]? with
  | some (.b ps) => ps.filterMap fun p => match p with
    | .sl c _ _ _ _ _ _ _ => some c
    | _ => none
  | _ => []
def pickA (vs : List SV) (h : List Blk) : List Nat := match vs with
  | [.sl b _ _ _ _ _ _ _] => b :: contB h b
  | _ => []
def apartF : List SV → List Blk → Option (SV × List Blk × Bool)
  | [.sl 0 0 0 1 2 2 _ _], [.b [.sl 1 0 0 1 n0 _ false _, .sl 2 0 0 1 n1 c1 true _], .b [.ints .u8 m0 l0], .b [.ints .u8 m1 l1]] => some (.bool (decide (l1.length = n1 + 2)), [.b [], .b [], .b []], decide (c1 = n1 + 2) && decide (m0 = n0) && decide (m1 = n1 + 2) && decide (l0.length = n0) && decide (l1.length = n1 + 2) && decide (n0 < 1000000) && decide (n1 < 1000000))
  | [.sl 0 0 0 1 2 2 _ _], [.b [.nl (.slice none 0 0), .sl 1 0 0 1 n1 c1 true _], .b [.ints .u8 m1 l1]] => some (.bool (decide (l1.length = n1 + 2)), [.b [], .b []], decide (c1 = n1 + 2) && decide (m1 = n1 + 2) && decide (l1.length = n1 + 2) && decide (n1 < 1000000))
  | _, _ => none
noncomputable def apartE : Entry Try.prog := .mut 33 _ Try.func33 (by decide) rfl pickA 0 apartF fun vs h0 v h1 e => by
  unfold apartF at e
  split at e
  · simp only [Option.some.injEq, Prod.mk.injEq, Bool.and_eq_true, decide_eq_true_eq] at e
    obtain ⟨rfl, rfl, ⟨⟨⟨⟨⟨rfl, rfl⟩, rfl⟩, h4⟩, h5⟩, h6⟩, h7⟩ := e
    rw [decide_eq_true h5]
    exact apart_u h4 h5 h6 h7
  · simp only [Option.some.injEq, Prod.mk.injEq, Bool.and_eq_true, decide_eq_true_eq] at e
    obtain ⟨rfl, rfl, ⟨⟨rfl, rfl⟩, h5⟩, h7⟩ := e
    rw [decide_eq_true h5]
    exact apart_n h5 h7
  · cases e
end Go.Proofs.Ytkoohnpknhoahaa.Bn
