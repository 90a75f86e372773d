/- This file holds the texts NoF, NoG, a section each. No conditions beyond those in the theorems. -/
import Derived.Test.YtibfpjeeanppjaaGreatWNoE
import Derived.Test.YtibfpjeeanppjaaGreatWBnP
import Derived.Test.YtibfpjeeanppjaaGreatWLaK
set_option linter.all false
section
namespace Go.Proofs.YtibfpjeeanppjaaGreat.No
open Go Go.Sy Sh La
noncomputable def pC : Ctr := mk (P := Tryz.prog) [publicRE] []
theorem pC_ok : CtrSound Tryz.prog pC := mk_sound _ InlOK.nil _ _
noncomputable def pairF : List SV → Option (SV × List Blk × Bool)
  | [.agg [.ints .u8 32 s]] => some (.agg [.ints .u8 32 s, .ints .u8 32 (ladW s 9)], [], Re.keyOK s)
  | _ => none
set_option maxRecDepth 100000 in
noncomputable def pairE : Entry Tryz.prog := .val 22 _ Tryz.func22 (by decide) rfl false 0 pairF fun vs v new e => by
  unfold pairF at e
  split at e
  · simp only [Option.some.injEq, Prod.mk.injEq] at e
    obtain ⟨rfl, rfl, h⟩ := e
    exact call0 pC_ok 60 Tryz.func22 (p := andT true (andT true (Re.keyOK _))) (by kernel_rfl) (by rw [h]; rfl) rfl
  · cases e
theorem mK_first {a b x : List Int} (ha : Re.keyOK a = true) (hb : Re.keyOK b = true) (hx : Re.keyOK x = true) (ch : List Int) :
    mKy (b, ladW x 9, b, ladW a 9) ch = mKy (x, ladW b 9, a, ladW b 9) ch ∧ mCh (b, ladW x 9, b, ladW a 9) ch = mCh (x, ladW b 9, a, ladW b 9) ch := by
  unfold mKy mCh
  simp only
  rw [ag_comm hx hb, ag_comm ha hb]
  exact ⟨rfl, rfl⟩
theorem mK_second {a x y : List Int} (ha : Re.keyOK a = true) (hx : Re.keyOK x = true) (hy : Re.keyOK y = true) (ch : List Int) :
    mKy (x, ladW y 9, a, ladW y 9) ch = mKy (y, ladW x 9, y, ladW a 9) ch ∧ mCh (x, ladW y 9, a, ladW y 9) ch = mCh (y, ladW x 9, y, ladW a 9) ch := by
  unfold mKy mCh
  simp only
  rw [ag_comm hy hx, ag_comm hy ha]
  exact ⟨rfl, rfl⟩
theorem meetQ_pub {a b c d : List Int} (ha : Re.keyOK a = true) (hb : Re.keyOK b = true) (hc : Re.keyOK c = true) (hd : Re.keyOK d = true) : meetQ (a, ladW b 9, c, ladW d 9) = true := by
  unfold meetQ meetB
  simp only
  rw [ha, hc, ladW_key, ladW_key, ag_no hb ha, ag_no hd hc]
  rfl
end Go.Proofs.YtibfpjeeanppjaaGreat.No
end
section
namespace Go.Proofs.YtibfpjeeanppjaaGreat.No
open Go Go.Sy Sh La
section
variable (a b x y p q pro : List Int)
noncomputable def sH : List Int := begW true (ladW a 9) (ladW b 9) pro
noncomputable def sG : List Int := begW false (ladW b 9) (ladW a 9) pro
noncomputable def sm1 : K4 := meets true 0 a (ladW b 9) x Cp.z32
noncomputable def sc1 : List Int := ctW (sm1 a b x) h0W (sH a b pro) (ladW x 9) p
noncomputable def sM : List Int := ladW x 9 ++ sc1 a b x p pro
noncomputable def sr1 : K4 := meets false 0 b (ladW a 9) Cp.z32 ((sM a b x p pro).take 32)
noncomputable def sC1 : List Int := mCh (sr1 a b x p pro) h0W
noncomputable def sG1 : List Int := haW (sG a b pro) ((sM a b x p pro).take 32) ((sM a b x p pro).drop 32)
noncomputable def sm2 : K4 := meets true (0 + 1) b (ladW a 9) y ((sM a b x p pro).take 32)
noncomputable def sc2 : List Int := ctW (sm2 a b x y p pro) (sC1 a b x p pro) (sG1 a b x p pro) (ladW y 9) q
noncomputable def sN : List Int := ladW y 9 ++ sc2 a b x y p q pro
noncomputable def sE1 : List Int := mCh (sm1 a b x) h0W
noncomputable def sH1 : List Int := haW (sH a b pro) (ladW x 9) (sc1 a b x p pro)
noncomputable def sr2 : K4 := meets false (0 + 1) a (ladW b 9) x ((sN a b x y p q pro).take 32)
end
theorem meets_w0 (os pe ms th : List Int) : meets true 0 os pe ms th = (ms, pe, os, pe) := rfl
theorem meets_r0 (os pe ms th : List Int) : meets false 0 os pe ms th = (os, th, os, pe) := rfl
theorem meets_w1 (os pe ms th : List Int) : meets true (0 + 1) os pe ms th = (ms, th, ms, pe) := rfl
theorem meets_r1 (os pe ms th : List Int) : meets false (0 + 1) os pe ms th = (ms, th, os, th) := rfl
structure Shook (a b x y p q pro : List Int) : Prop where
  G : sG a b pro = sH a b pro
  H : (sH a b pro).length = 32
  mt : (sM a b x p pro).take 32 = ladW x 9
  md : (sM a b x p pro).drop 32 = sc1 a b x p pro
  ml : (sM a b x p pro).length = p.length + 48
  q1 : meetQ (sm1 a b x) = true
  q2 : meetQ (sr1 a b x p pro) = true
  o1 : Ae.openB (mKy (sr1 a b x p pro) h0W) (Ae.nonceW 0) (S2.shortW (sG a b pro ++ ladW x 9)) (sc1 a b x p pro) = true
  w1 : Ae.openW (mKy (sr1 a b x p pro) h0W) (Ae.nonceW 0) (sc1 a b x p pro) = p
  G1 : sG1 a b x p pro = sH1 a b x p pro
  C1 : sC1 a b x p pro = sE1 a b x
  nt : (sN a b x y p q pro).take 32 = ladW y 9
  nd : (sN a b x y p q pro).drop 32 = sc2 a b x y p q pro
  nl : (sN a b x y p q pro).length = q.length + 48
  q3 : meetQ (sm2 a b x y p pro) = true
  q4 : meetQ (sr2 a b x y p q pro) = true
  o2 : Ae.openB (mKy (sr2 a b x y p q pro) (sE1 a b x)) (Ae.nonceW 0) (S2.shortW (sH1 a b x p pro ++ ladW y 9)) (sc2 a b x y p q pro) = true
  w2 : Ae.openW (mKy (sr2 a b x y p q pro) (sE1 a b x)) (Ae.nonceW 0) (sc2 a b x y p q pro) = q
  C2 : mCh (sr2 a b x y p q pro) (sE1 a b x) = mCh (sm2 a b x y p pro) (sC1 a b x p pro)
theorem shook {a b x y p q : List Int} (ha : Re.keyOK a = true) (hb : Re.keyOK b = true) (hx : Re.keyOK x = true) (hy : Re.keyOK y = true) (hp : ∀ z ∈ p, 0 ≤ z ∧ z < 256) (hq : ∀ z ∈ q, 0 ≤ z ∧ z < 256) (pro : List Int) : Shook a b x y p q pro := by
  have G : sG a b pro = sH a b pro := by unfold sG sH begW; rw [cond_true, cond_false]
  have mt : (sM a b x p pro).take 32 = ladW x 9 := by unfold sM; rw [List.take_left' (ladW_len _ _)]
  have md : (sM a b x p pro).drop 32 = sc1 a b x p pro := by unfold sM; rw [List.drop_left' (ladW_len _ _)]
  have r1 : sr1 a b x p pro = (b, ladW x 9, b, ladW a 9) := by unfold sr1; rw [mt]; exact meets_r0 _ _ _ _
  have m1 : sm1 a b x = (x, ladW b 9, a, ladW b 9) := by unfold sm1; exact meets_w0 _ _ _ _
  have k1 := mK_first ha hb hx h0W
  have C1 : sC1 a b x p pro = sE1 a b x := by unfold sC1 sE1; rw [r1, m1, k1.2]
  have G1 : sG1 a b x p pro = sH1 a b x p pro := by unfold sG1 sH1; rw [mt, md, G]
  have nt : (sN a b x y p q pro).take 32 = ladW y 9 := by unfold sN; rw [List.take_left' (ladW_len _ _)]
  have nd : (sN a b x y p q pro).drop 32 = sc2 a b x y p q pro := by unfold sN; rw [List.drop_left' (ladW_len _ _)]
  have m2 : sm2 a b x y p pro = (y, ladW x 9, y, ladW a 9) := by unfold sm2; rw [mt]; exact meets_w1 _ _ _ _
  have r2 : sr2 a b x y p q pro = (x, ladW y 9, a, ladW y 9) := by unfold sr2; rw [nt]; exact meets_r1 _ _ _ _
  have k2 := mK_second ha hx hy (sE1 a b x)
  refine ⟨G, begW_len _ _ _ _, mt, md, ?_, ?_, ?_, ?_, ?_, G1, C1, nt, nd, ?_, ?_, ?_, ?_, ?_, ?_⟩
  · unfold sM sc1; rw [List.length_append, ladW_len, ctW_len]; omega
  · rw [m1]; exact meetQ_pub hx hb ha hb
  · rw [r1]; exact meetQ_pub hb hx hb ha
  · rw [r1, k1.1, G]; unfold sc1 ctW Cp.hiW; rw [m1]; exact Ae.seal_opens _ _ _ _
  · rw [r1, k1.1]; unfold sc1 ctW Cp.hiW; rw [m1]; exact Ae.open_seal hp
  · unfold sN sc2; rw [List.length_append, ladW_len, ctW_len]; omega
  · rw [m2]; exact meetQ_pub hy hx hy ha
  · rw [r2]; exact meetQ_pub hx hy ha hy
  · unfold sc2 ctW Cp.hiW; rw [r2, k2.1, m2, C1, G1]; exact Ae.seal_opens _ _ _ _
  · unfold sc2 ctW Cp.hiW; rw [r2, k2.1, m2, C1, G1]; exact Ae.open_seal hq
  · rw [r2, k2.2, m2, C1]
def fK (a b c : Bool) : Nat → Option Bool := fun i => if i = 23 then some a else if i = 29 then some b else if i = 34 then some c else if i = 78 then some false else if 122 ≤ i then some true else none
noncomputable def shO (a b x y p q pro A B X Y H G M N G1 H1 C1 E1 c2 : List Int) (m1 r1 m2 r2 : K4) : Bool := andT (andT (andT (andT (andT (andT (andT (andT (andT (andT (andT (andT (andT (andT (andT (andT (andT (andT (andT (andT (andT (andT (andT true (!decide (((p.length : Nat) : Int) > 1024))) (!decide (((q.length : Nat) : Int) > 1024))) (!decide (((pro.length : Nat) : Int) > 1000))) (andT true (Re.keyOK a))) (andT true (Re.keyOK b))) (andT true (decide (pro.length < 270000000000) && decide (A.length = 32) && decide (B.length = 32)))) (andT true (decide (pro.length < 270000000000) && decide (B.length = 32) && decide (A.length = 32)))) (andT true (decide (H.length = 32) && decide (h0W.length = 32) && Re.keyOK x && decide (p.length ≤ 1024) && meetQ m1))) (andT true (decide (G.length = 32) && decide (h0W.length = 32) && decide (48 ≤ M.length) && decide (M.length ≤ 1072) && meetQ r1 && Ae.openB (mKy r1 h0W) (Ae.nonceW 0) (S2.shortW (G ++ List.take 32 M)) (List.drop 32 M)))) (andT true (u8R (Ae.openW (mKy r1 h0W) (Ae.nonceW 0) (List.drop 32 M)) && u8R p))) (!(!decide (Ae.openW (mKy r1 h0W) (Ae.nonceW 0) (List.drop 32 M) = p)))) (andT true (decide (G1.length = 32) && decide (C1.length = 32) && Re.keyOK y && decide (q.length ≤ 1024) && meetQ m2))) (andT true (decide (H1.length = 32) && decide (E1.length = 32) && decide (48 ≤ N.length) && decide (N.length ≤ 1072) && meetQ r2 && Ae.openB (mKy r2 E1) (Ae.nonceW 0) (S2.shortW (H1 ++ List.take 32 N)) (List.drop 32 N)))) (andT true (true && decide ((mCh r2 E1).length = 32)))) (andT true (true && decide ((mCh m2 C1).length = 32)))) (andT true (u8R (Ae.openW (mKy r2 E1) (Ae.nonceW 0) (List.drop 32 N)) && u8R q))) (decide (Ae.openW (mKy r2 E1) (Ae.nonceW 0) (List.drop 32 N) = q))) (andT (decide ((Cp.tw1 (mCh r2 E1)).length = 32)) (decide ((Cp.tw1 (mCh m2 C1)).length = 32)))) (decide (Cp.tw1 (mCh r2 E1) = Cp.tw1 (mCh m2 C1)))) (andT (decide ((Cp.tw2 (mCh r2 E1)).length = 32)) (decide ((Cp.tw2 (mCh m2 C1)).length = 32)))) (decide (Cp.tw2 (mCh r2 E1) = Cp.tw2 (mCh m2 C1)))) (andT (decide ((haW H1 (List.take 32 N) (List.drop 32 N)).length = 32)) (decide ((haW G1 Y c2).length = 32)))) (decide (haW H1 (List.take 32 N) (List.drop 32 N) = haW G1 Y c2))
theorem u8R_by {l : List Int} (h : ∀ x ∈ l, 0 ≤ x ∧ x < 256) : u8R l = true := by
  unfold u8R
  rw [List.all_eq_true]
  intro x hx
  simpa using h x hx
theorem haW_len (a b c : List Int) : (haW a b c).length = 32 := S2.shortW_len _
theorem mCh_len (q : K4) (ch : List Int) : (mCh q ch).length = 32 := chW_len _ _ _
theorem h0W_len : h0W.length = 32 := S2.shortW_len _
theorem shO_true {a b x y p q pro : List Int} (ha : Re.keyOK a = true) (hb : Re.keyOK b = true) (hx : Re.keyOK x = true) (hy : Re.keyOK y = true) (hp : ∀ z ∈ p, 0 ≤ z ∧ z < 256) (hq : ∀ z ∈ q, 0 ≤ z ∧ z < 256) (lp : p.length ≤ 1024) (lq : q.length ≤ 1024) (lo : pro.length ≤ 1000) : shO a b x y p q pro (ladW a 9) (ladW b 9) (ladW x 9) (ladW y 9) (sH a b pro) (sG a b pro) (sM a b x p pro) (sN a b x y p q pro) (sG1 a b x p pro) (sH1 a b x p pro) (sC1 a b x p pro) (sE1 a b x) (sc2 a b x y p q pro) (sm1 a b x) (sr1 a b x p pro) (sm2 a b x y p pro) (sr2 a b x y p q pro) = true := by
  have h := shook ha hb hx hy hp hq pro
  have up := u8R_by hp
  have uq := u8R_by hq
  have l1 : (sH1 a b x p pro).length = 32 := haW_len _ _ _
  have l2 : (sE1 a b x).length = 32 := mCh_len _ _
  have t1 : ∀ s, (Cp.tw1 s).length = 32 := fun s => (Cp.tw_len s).1
  have t2 : ∀ s, (Cp.tw2 s).length = 32 := fun s => (Cp.tw_len s).2
  unfold shO
  rw [h.mt, h.md, h.nt, h.nd, h.C2, h.C1, h.G1, h.G, h.H, h.ml, h.nl, h.q1, h.q2, h.q3, h.q4, ← h.G, h.o1, h.w1, h.o2, h.w2, l1, l2]
  simp [andT_iff, ha, hb, hx, hy, up, uq, t1, t2, mCh_len, haW_len, ladW_len, h0W_len]
  omega
end Go.Proofs.YtibfpjeeanppjaaGreat.No
end
