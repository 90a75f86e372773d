/- This file holds the texts NoF, NoG, a section each. No conditions beyond those in the theorems. -/
import Derived.Test.YtibfpjeeanppjaaGreatYNoE
import Derived.Test.YtibfpjeeanppjaaGreatYBnF
import Derived.Test.YtibfpjeeanppjaaGreatYLaK
set_option linter.all false
section
namespace Go.Proofs.YtibfpjeeanppjaaGreat.No
open Go Go.Sy Sh La
noncomputable def pC:bu:=mk (P:=Tryz.prog) [vM] []
theorem afk:ag Tryz.prog pC:=ah _ au.nil _ _
noncomputable def VQ:List SV→Option (SV×List Blk×Bool)
 | [.agg [.ints .u8 32 s]]=>some (.agg [.ints .u8 32 s,.ints .u8 32 (aJ s 9)],[],Re.aj s)
 |_=>none
set_option maxRecDepth 100000 in
noncomputable def VS:Entry Tryz.prog:=.val 22 _ Tryz.func22 (by decide) rfl false 0 VQ fun vs v new e=>by
 unfold VQ at e
 split at e
 ·simp only [Option.some.injEq,Prod.mk.injEq] at e
  obtain ⟨rfl,rfl,h⟩:=e
  exact aF afk 60 Tryz.func22 (p:=aa true (aa true (Re.aj _))) (by kernel_rfl) (by rw [h];rfl) rfl
 ·cases e
theorem NI {a b x:List Int} (ha:Re.aj a=true) (hb:Re.aj b=true) (hx:Re.aj x=true) (ch:List Int):
  eo (b,aJ x 9,b,aJ a 9) ch=eo (x,aJ b 9,a,aJ b 9) ch∧jc (b,aJ x 9,b,aJ a 9) ch=jc (x,aJ b 9,a,aJ b 9) ch:=by
 unfold eo jc
 simp only
 rw [uW hx hb,uW ha hb]
 exact ⟨rfl,rfl⟩
theorem Jf {a x y:List Int} (ha:Re.aj a=true) (hx:Re.aj x=true) (hy:Re.aj y=true) (ch:List Int):
  eo (x,aJ y 9,a,aJ y 9) ch=eo (y,aJ x 9,y,aJ a 9) ch∧jc (x,aJ y 9,a,aJ y 9) ch=jc (y,aJ x 9,y,aJ a 9) ch:=by
 unfold eo jc
 simp only
 rw [uW hy hx,uW hy ha]
 exact ⟨rfl,rfl⟩
theorem oT {a b c d:List Int} (ha:Re.aj a=true) (hb:Re.aj b=true) (hc:Re.aj c=true) (hd:Re.aj d=true):cD (a,aJ b 9,c,aJ d 9)=true:=by
 unfold cD gW
 simp only
 rw [ha,hc,kN,kN,Vh hb ha,Vh hd hc]
 rfl
end Go.Proofs.YtibfpjeeanppjaaGreat.No
end
section
namespace Go.Proofs.YtibfpjeeanppjaaGreat.No
open Go Go.Sy Sh La
section
variable (a b x y p q aV:List Int)
noncomputable def sH:List Int:=tc true (aJ a 9) (aJ b 9) aV
noncomputable def sG:List Int:=tc false (aJ b 9) (aJ a 9) aV
noncomputable def Jg:K4:=meets true 0 a (aJ b 9) x Cp.iB
noncomputable def SW:List Int:=m7 (Jg a b x) kF (sH a b aV) (aJ x 9) p
noncomputable def sM:List Int:=aJ x 9++SW a b x p aV
noncomputable def Zb:K4:=meets false 0 b (aJ a 9) Cp.iB ((sM a b x p aV).take 32)
noncomputable def sC1:List Int:=jc (Zb a b x p aV) kF
noncomputable def sG1:List Int:=qv (sG a b aV) ((sM a b x p aV).take 32) ((sM a b x p aV).drop 32)
noncomputable def VT:K4:=meets true (0+1) b (aJ a 9) y ((sM a b x p aV).take 32)
noncomputable def SX:List Int:=m7 (VT a b x y p aV) (sC1 a b x p aV) (sG1 a b x p aV) (aJ y 9) q
noncomputable def sN:List Int:=aJ y 9++SX a b x y p q aV
noncomputable def SY:List Int:=jc (Jg a b x) kF
noncomputable def sH1:List Int:=qv (sH a b aV) (aJ x 9) (SW a b x p aV)
noncomputable def Zc:K4:=meets false (0+1) a (aJ b 9) x ((sN a b x y p q aV).take 32)
end
theorem NJ (os pe ms th:List Int):meets true 0 os pe ms th=(ms,pe,os,pe):=rfl
theorem NK (os pe ms th:List Int):meets false 0 os pe ms th=(os,th,os,pe):=rfl
theorem NL (os pe ms th:List Int):meets true (0+1) os pe ms th=(ms,th,ms,pe):=rfl
theorem NM (os pe ms th:List Int):meets false (0+1) os pe ms th=(ms,th,os,th):=rfl
structure afm (a b x y p q aV:List Int):Prop where
 G:sG a b aV=sH a b aV
 H:(sH a b aV).length=32
 mt:(sM a b x p aV).take 32=aJ x 9
 md:(sM a b x p aV).drop 32=SW a b x p aV
 ml:(sM a b x p aV).length=p.length+48
 q1:cD (Jg a b x)=true
 q2:cD (Zb a b x p aV)=true
 o1:Ae.bJ (eo (Zb a b x p aV) kF) (Ae.aI 0) (S2.aq (sG a b aV++aJ x 9)) (SW a b x p aV)=true
 w1:Ae.cn (eo (Zb a b x p aV) kF) (Ae.aI 0) (SW a b x p aV)=p
 G1:sG1 a b x p aV=sH1 a b x p aV
 C1:sC1 a b x p aV=SY a b x
 nt:(sN a b x y p q aV).take 32=aJ y 9
 nd:(sN a b x y p q aV).drop 32=SX a b x y p q aV
 nl:(sN a b x y p q aV).length=q.length+48
 q3:cD (VT a b x y p aV)=true
 q4:cD (Zc a b x y p q aV)=true
 o2:Ae.bJ (eo (Zc a b x y p q aV) (SY a b x)) (Ae.aI 0) (S2.aq (sH1 a b x p aV++aJ y 9)) (SX a b x y p q aV)=true
 w2:Ae.cn (eo (Zc a b x y p q aV) (SY a b x)) (Ae.aI 0) (SX a b x y p q aV)=q
 C2:jc (Zc a b x y p q aV) (SY a b x)=jc (VT a b x y p aV) (sC1 a b x p aV)
theorem afn {a b x y p q:List Int} (ha:Re.aj a=true) (hb:Re.aj b=true) (hx:Re.aj x=true) (hy:Re.aj y=true) (hp:∀z∈p,0≤z∧z<256) (hq:∀z∈q,0≤z∧z<256) (aV:List Int):afm a b x y p q aV:=by
 have G:sG a b aV=sH a b aV:=by unfold sG sH tc;rw [cond_true,cond_false]
 have mt:(sM a b x p aV).take 32=aJ x 9:=by unfold sM;rw [List.take_left' (cM _ _)]
 have md:(sM a b x p aV).drop 32=SW a b x p aV:=by unfold sM;rw [List.drop_left' (cM _ _)]
 have r1:Zb a b x p aV=(b,aJ x 9,b,aJ a 9):=by unfold Zb;rw [mt];exact NK _ _ _ _
 have m1:Jg a b x=(x,aJ b 9,a,aJ b 9):=by unfold Jg;exact NJ _ _ _ _
 have k1:=NI ha hb hx kF
 have C1:sC1 a b x p aV=SY a b x:=by unfold sC1 SY;rw [r1,m1,k1.2]
 have G1:sG1 a b x p aV=sH1 a b x p aV:=by unfold sG1 sH1;rw [mt,md,G]
 have nt:(sN a b x y p q aV).take 32=aJ y 9:=by unfold sN;rw [List.take_left' (cM _ _)]
 have nd:(sN a b x y p q aV).drop 32=SX a b x y p q aV:=by unfold sN;rw [List.drop_left' (cM _ _)]
 have m2:VT a b x y p aV=(y,aJ x 9,y,aJ a 9):=by unfold VT;rw [mt];exact NL _ _ _ _
 have r2:Zc a b x y p q aV=(x,aJ y 9,a,aJ y 9):=by unfold Zc;rw [nt];exact NM _ _ _ _
 have k2:=Jf ha hx hy (SY a b x)
 refine ⟨G,CQ _ _ _ _,mt,md,?_,?_,?_,?_,?_,G1,C1,nt,nd,?_,?_,?_,?_,?_,?_⟩
 ·unfold sM SW;rw [List.length_append,cM,vf];omega
 ·rw [m1];exact oT hx hb ha hb
 ·rw [r1];exact oT hb hx hb ha
 ·rw [r1,k1.1,G];unfold SW m7 Cp.uO;rw [m1];exact Ae.vz _ _ _ _
 ·rw [r1,k1.1];unfold SW m7 Cp.uO;rw [m1];exact Ae.yl hp
 ·unfold sN SX;rw [List.length_append,cM,vf];omega
 ·rw [m2];exact oT hy hx hy ha
 ·rw [r2];exact oT hx hy ha hy
 ·unfold SX m7 Cp.uO;rw [r2,k2.1,m2,C1,G1];exact Ae.vz _ _ _ _
 ·unfold SX m7 Cp.uO;rw [r2,k2.1,m2,C1,G1];exact Ae.yl hq
 ·rw [r2,k2.2,m2,C1]
noncomputable def shO (a b x y p q aV A B X Y H G M N G1 H1 C1 E1 c2:List Int) (m1 r1 m2 r2:K4):Bool:=aa (aa (aa (aa (aa (aa (aa (aa (aa (aa (aa (aa (aa (aa (aa (aa (aa (aa (aa (aa (aa (aa (aa true (!decide (((p.length:Nat):Int)>1024))) (!decide (((q.length:Nat):Int)>1024))) (!decide (((aV.length:Nat):Int)>1000))) (aa true (Re.aj a))) (aa true (Re.aj b))) (aa true (decide (aV.length<270000000000)&&decide (A.length=32)&&decide (B.length=32)))) (aa true (decide (aV.length<270000000000)&&decide (B.length=32)&&decide (A.length=32)))) (aa true (decide (H.length=32)&&decide (kF.length=32)&&Re.aj x&&decide (p.length≤1024)&&cD m1))) (aa true (decide (G.length=32)&&decide (kF.length=32)&&decide (48≤M.length)&&decide (M.length≤1072)&&cD r1&&Ae.bJ (eo r1 kF) (Ae.aI 0) (S2.aq (G++List.take 32 M)) (List.drop 32 M)))) (aa true (bE (Ae.cn (eo r1 kF) (Ae.aI 0) (List.drop 32 M))&&bE p))) (!(!decide (Ae.cn (eo r1 kF) (Ae.aI 0) (List.drop 32 M)=p)))) (aa true (decide (G1.length=32)&&decide (C1.length=32)&&Re.aj y&&decide (q.length≤1024)&&cD m2))) (aa true (decide (H1.length=32)&&decide (E1.length=32)&&decide (48≤N.length)&&decide (N.length≤1072)&&cD r2&&Ae.bJ (eo r2 E1) (Ae.aI 0) (S2.aq (H1++List.take 32 N)) (List.drop 32 N)))) (aa true (true&&decide ((jc r2 E1).length=32)))) (aa true (true&&decide ((jc m2 C1).length=32)))) (aa true (bE (Ae.cn (eo r2 E1) (Ae.aI 0) (List.drop 32 N))&&bE q))) (decide (Ae.cn (eo r2 E1) (Ae.aI 0) (List.drop 32 N)=q))) (aa (decide ((Cp.lI (jc r2 E1)).length=32)) (decide ((Cp.lI (jc m2 C1)).length=32)))) (decide (Cp.lI (jc r2 E1)=Cp.lI (jc m2 C1)))) (aa (decide ((Cp.sk (jc r2 E1)).length=32)) (decide ((Cp.sk (jc m2 C1)).length=32)))) (decide (Cp.sk (jc r2 E1)=Cp.sk (jc m2 C1)))) (aa (decide ((qv H1 (List.take 32 N) (List.drop 32 N)).length=32)) (decide ((qv G1 Y c2).length=32)))) (decide (qv H1 (List.take 32 N) (List.drop 32 N)=qv G1 Y c2))
theorem E3 {l:List Int} (h:∀x∈l,0≤x∧x<256):bE l=true:=by
 unfold bE
 rw [List.all_eq_true]
 intro x hx
 simpa using h x hx
theorem SZ (a b c:List Int):(qv a b c).length=32:=S2.bn _
theorem Hr (q:K4) (ch:List Int):(jc q ch).length=32:=Aw _ _ _
theorem S5:kF.length=32:=S2.bn _
end Go.Proofs.YtibfpjeeanppjaaGreat.No
end
