/- This file proves chapter 11's fixed fact: two shake hands. No conditions. -/
import Derived.Test.YtibfpjeeanppjaaGreatYNoG
set_option linter.all false
namespace Go.Proofs.YtibfpjeeanppjaaGreat.No
open Go Go.Sy Sh La
def kA:List Int:=(List.replicate 32 0).set 0 1
def kB:List Int:=((List.replicate 32 0).set 0 9).set 3 7
def kX:List Int:=((List.replicate 32 0).set 0 8).set 5 5
def kY:List Int:=((List.replicate 32 0).set 0 16).set 7 5
def qw:List Int:=[104,105]
noncomputable def VD:bu:=mk (P:=Tryz.prog) [VS,afh,Za,VL,NH] [] fun i=>if i=40||i=53 then some false else if 90≤i then some true else none
theorem og:ag Tryz.prog VD:=ah _ au.nil _ _
noncomputable def alO (p A B X Y H G M N G1 H1 C1 E1 c2:List Int) (m1 r1 m2 r2:K4):Bool:=aa (aa (aa (aa (aa (aa (aa (aa (aa (aa (aa (aa (aa true (aa true (decide (A.length=32)&&decide (B.length=32)))) (aa true (decide (B.length=32)&&decide (A.length=32)))) (aa true (decide (H.length=32)&&decide (kF.length=32)&&true&&true&&cD m1))) (!(((M.length:Nat):Int) != 50))) (aa true (decide (G.length=32)&&decide (kF.length=32)&&decide (48≤M.length)&&decide (M.length≤1072)&&cD r1&&Ae.bJ (eo r1 kF) (Ae.aI 0) (S2.aq (G++List.take 32 M)) (List.drop 32 M)))) (aa (aa true (true&&decide ((Ae.cn (eo r1 kF) (Ae.aI 0) (List.drop 32 M)).length=(Ae.cn (eo r1 kF) (Ae.aI 0) (List.drop 32 M)).length))) (bE (Ae.cn (eo r1 kF) (Ae.aI 0) (List.drop 32 M))))) (!(!decide (Ae.cn (eo r1 kF) (Ae.aI 0) (List.drop 32 M)=p)))) (aa true (decide (G1.length=32)&&decide (C1.length=32)&&true&&true&&cD m2))) (aa true (decide (H1.length=32)&&decide (E1.length=32)&&decide (48≤N.length)&&decide (N.length≤1072)&&cD r2&&Ae.bJ (eo r2 E1) (Ae.aI 0) (S2.aq (H1++List.take 32 N)) (List.drop 32 N)))) (aa true (true&&decide ((jc r2 E1).length=32)))) (aa true (true&&decide ((jc m2 C1).length=32)))) (aa (decide ((Cp.lI (jc r2 E1)).length=32)) (decide ((Cp.lI (jc m2 C1)).length=32)))) (decide (Cp.lI (jc r2 E1)=Cp.lI (jc m2 C1)))
noncomputable def alV:Bool:=alO qw (aJ kA 9) (aJ kB 9) (aJ kX 9) (aJ kY 9) (sH kA kB []) (sG kA kB []) (sM kA kB kX qw []) (sN kA kB kX kY qw [] []) (sG1 kA kB kX qw []) (sH1 kA kB kX qw []) (sC1 kA kB kX qw []) (SY kA kB kX) (SX kA kB kX kY qw [] []) (Jg kA kB kX) (Zb kA kB kX qw []) (VT kA kB kX kY qw []) (Zc kA kB kX kY qw [] [])
theorem NN:alV=true:=by
 have h:=afn (a:=kA) (b:=kB) (x:=kX) (y:=kY) (p:=qw) (q:=[]) (by decide) (by decide) (by decide) (by decide) (by decide) (by decide) []
 have l1:(sH1 kA kB kX qw []).length=32:=SZ _ _ _
 have l2:(SY kA kB kX).length=32:=Hr _ _
 have t1:∀s,(Cp.lI s).length=32:=fun s=>(Cp.jA s).1
 have up:bE qw=true:=by decide
 have lp:qw.length=2:=rfl
 unfold alV alO
 rw [h.mt,h.md,h.nt,h.nd,h.C2,h.C1,h.G1,h.G,h.H,h.ml,h.nl,h.q1,h.q2,h.q3,h.q4, ←h.G,h.o1,h.w1,h.o2,l1,l2]
 simp [av,up,lp,t1,Hr,cM,S5]
set_option maxRecDepth 100000 in
theorem Jh:(br Tryz.prog VD 60 Tryz.f21 [] []).map (fun x=>(x.1,x.2.2))=some (.bool true,alV):=by kernel_rfl
theorem NO:ai Tryz.prog 21 [] [] (.bool true) []:=aF og 60 Tryz.func21 Jh NN rfl
def NP:List SV→Option (SV×List Blk×Bool)
 | []=>some (.bool true,[],true)
 |_=>none
noncomputable def Zd:Entry Tryz.prog:=.val 21 _ Tryz.func21 (by decide) rfl false 0 NP fun vs v new e=>by
 unfold NP at e
 split at e
 ·cases e;exact NO
 ·cases e
end Go.Proofs.YtibfpjeeanppjaaGreat.No
