/- This file holds the texts BxH, BxI, a section each. No conditions beyond those in the theorems. -/
import Derived.Test.YtibfpjeeanppjaaGreatUBxG
set_option linter.all false
section
namespace Go.Proofs.YtibfpjeeanppjaaGreat.Bx
open Go Go.Sy Sh La Fe
def Zh:List Int:=[30,120,225,25,70,53,0,181,187,240,139,164,107,200,150,198,231,213,58,121,93,151,200,204,125,137,245,228,119,182,16,67]
def Zi:List Int:=[75,167,92,4,235,2,129,151,111,214,25,118,83,242,225,68,65,139,5,133,125,250,119,53,83,142,245,188,151,71,244,22]
def Zj:List Int:=[251,120,25,176,130,97,251,43,23,163,92,192,216,46,71,181,40,107,19,28,33,17,184,37,189,133,216,196,187,79,220,31]
def shI:List Int:=[222,125,27,114,26,30,6,50,183,207,4,237,245,3,44,142,207,250,159,154,8,73,33,82,185,38,241,165,167,231,101,215]
def shJ:List Int:=[24,159,64,3,75,231,161,153,241,250,152,145,102,142,227,171,96,73,248,45,56,198,139,231,15,89,110,171,46,24,87,183]
def Zk:List Int:=[53,76,129,179,9,221,161,25,69,203,87,51,255,201,214,91,238,97,64,100,132,92,226,204,166,104,31,114,147,181,244,72]
def G7:List Int:=[197,97,98,37,202,179,40,126,44,7,72,182,86,38,207,38,224,223,44,235,119,99,139,91,39,23,135,32,65,142,46,206]
def kJL:List Int:=[169,83,102,113,160,140,170,8,184,232,206,18,246,188,191,143,152,69,178,178,166,246,10,209,219,204,194,155,157,59,140,28]
def pI0:List Int:=[232,19,62,83,75,164,158,20,127,114,26,120,41,44,222,252,11,220,231,161,75,170,46,144,115,109,74,54,21,194,165,83,23,112,138,83,56,104,242,12,194,113,56,108,190,22,196,62,63,136,149,152,173,12,31,142,158,85,229,6,154,248,185,121]
def pJ0:List Int:=[11,92,95,131,255,157,103,210,23,51,208,191,203,32,156,79,195,204,29,37,215,206,18,103,189,16,204,159,31,42,192,119,55,175,194,64,208,220,244,110,172,164,178,108,182,230,207,70,215,41,110,75,80,119,67,107,188,101,48,179,82,224,17,1]
def pI1:List Int:=[197,42,181,88,189,255,37,210,75,122,165,0,100,57,51,176,255,255,169,155,66,157,224,90,60,219,48,59,111,105,231,126,133,199,1,156,1,210,0,4,173,146,26,152,126,120,134,78,70,228,129,171,244,239,206,98,146,136,57,47,101,49,101,117]
def Bj:List Int:=[177,79,205,44]
def mgI:List Int:=[105,0,0,0,0,0,0,0,0,0,0,0,0,0,0,0,177,79,205,44,0,0,0,0,0,0,0,0,0,0,0,0,1,0,0,0,0,0,0,0,4,0,0,0,0,0,0,0]
def mgJ:List Int:=[106,0,0,0,0,0,0,0,0,0,0,0,0,0,0,0,177,79,205,44,0,0,0,0,0,0,0,0,0,0,0,0,1,0,0,0,0,0,0,0,4,0,0,0,0,0,0,0]
def UC:List Int:=[25,116,186,12,8,35,129,49,31,19,127,215,85,142,108,18]
def mJL:List Int:=[13,117,241,234,6,117,67,176,57,122,203,24,122,154,222,198]
def inI:List Int:=[0,32,3,98,111,120,0,0,0,96,75,167,92,4,235,2,129,151,111,214,25,118,83,242,225,68,65,139,5,133,125,250,119,53,83,142,245,188,151,71,244,22,251,120,25,176,130,97,251,43,23,163,92,192,216,46,71,181,40,107,19,28,33,17,184,37,189,133,216,196,187,79,220,31,222,125,27,114,26,30,6,50,183,207,4,237,245,3,44,142,207,250,159,154,8,73,33,82,185,38,241,165,167,231,101,215,1]
def inJ:List Int:=[0,32,3,98,111,120,0,0,0,96,75,167,92,4,235,2,129,151,111,214,25,118,83,242,225,68,65,139,5,133,125,250,119,53,83,142,245,188,151,71,244,22,251,120,25,176,130,97,251,43,23,163,92,192,216,46,71,181,40,107,19,28,33,17,184,37,189,133,216,196,187,79,220,31,24,159,64,3,75,231,161,153,241,250,152,145,102,142,227,171,96,73,248,45,56,198,139,231,15,89,110,171,46,24,87,183,1]
set_option maxRecDepth 100000
theorem Sd:eo 32 FO=Zh:=by decide+kernel
theorem Zl:eo 32 FM=Zi:=by decide+kernel
theorem Zm:eo 32 FN=Zj:=by decide+kernel
theorem UD:S2.bn [iL].flatten=shI:=by rw [S2.nh];decide+kernel
theorem UE:S2.bn [jL].flatten=shJ:=by rw [S2.nh];decide+kernel
theorem Se:Kd.ej [] Zh=Zk:=by rw [Kd.xp];decide+kernel
theorem aeJ:Kd.ej Zk inI=G7:=by rw [Kd.xp];decide+kernel
theorem aeK:Kd.ej Zk inJ=kJL:=by rw [Kd.xp];decide+kernel
theorem aeL:Q2.xx (Kd.nQ zG [Zi,Zj,shI].flatten 32)=inI:=by decide+kernel
theorem aeM:Q2.xx (Kd.nQ zG [Zi,Zj,shJ].flatten 32)=inJ:=by decide+kernel
theorem Zn:kI=G7:=by
 unfold kI pL
 rw [aq,Oa,BK,Kd.ij,IS,I3,I4,Sd,Zl,Zm,UD,Se]
 show Kd.b7 Zk (Kd.nQ zG [Zi,Zj,shI].flatten 32) 32=G7
 rw [Q2.pO,aeL,aeJ]
theorem Zo:Bi fl (bP fl 9) jL rR=kJL:=by
 unfold Bi pL
 rw [tL,tQ,aq,Oa,BJ,Kd.ij,IS,I3,I4,Sd,Zl,Zm,UE,Se]
 show Kd.b7 Zk (Kd.nQ zG [Zi,Zj,shJ].flatten 32) 32=kJL
 rw [Q2.pO,aeM,aeK]
theorem UF:Cc.eA G7 Cp.HV 0=pI0:=by rw [Ae.BF];decide+kernel
theorem UG:Cc.eA kJL Cp.HV 0=pJ0:=by rw [Ae.BF];decide+kernel
theorem UH:Cc.eA G7 Cp.HV 1=pI1:=by rw [Ae.BF];decide+kernel
theorem Zp:Cc.cI G7 Cp.HV 1 FP=Bj:=by
 have e:∀i:Nat,i<4→Cc.vG G7 Cp.HV 1 FP i=cj .u8 (FP.getD i 0) (pI1.getD (i%64) 0):=fun i hi=>by
  unfold Cc.vG
  rw [show i/64=0 by omega, ←UH];rfl
 show [Cc.vG G7 Cp.HV 1 FP 0,Cc.vG G7 Cp.HV 1 FP 1,Cc.vG G7 Cp.HV 1 FP 2,Cc.vG G7 Cp.HV 1 FP 3]=Bj
 rw [e 0 (by decide),e 1 (by decide),e 2 (by decide),e 3 (by decide)]
 decide+kernel
theorem UI:(Ae.zj iL Bj).flatten=mgI:=by decide+kernel
theorem UJ:(Ae.zj jL Bj).flatten=mgJ:=by decide+kernel
theorem Zq:Ae.gn (pI0.take 32) mgI=UC:=by rw [Ae.zn];decide+kernel
theorem Zr:Ae.gn (pJ0.take 32) mgJ=mJL:=by rw [Ae.zn];decide+kernel
theorem Ow:Ae.eW G7 Cp.HV iL FP=Bj++UC:=by
 unfold Ae.eW Ae.sy
 rw [Zp,UF,UI,Zq]
theorem UK:Ae.gR (Bi fl (bP fl 9) jL rR) (Ae.di 0) jL (rR.drop 32)=false:=by
 rw [Zo,tU,Zn,Cp.T5,Ow]
 unfold Ae.gR
 rw [show (Bj++UC).take ((Bj++UC).length-16)=Bj by decide,show (Bj++UC).drop ((Bj++UC).length-16)=UC by decide]
 unfold Ae.sy
 rw [UG,UJ,Zr]
 decide
end Go.Proofs.YtibfpjeeanppjaaGreat.Bx
end
section
namespace Go.Proofs.YtibfpjeeanppjaaGreat.Bx
open Go Go.Sy Sh La
theorem Zs:aF Tryz.prog [(18,Tryz.f18),(36,Tryz.f36)]:=aF.cons Tryz.func18 (by decide) (aF.cons Tryz.func36 (by decide) aF.nil)
theorem mo:ag Tryz.prog R9:=ai _ Zs _ _
noncomputable def Zt:List Int:=Ae.rN (Bi fl (bP fl 9) iL rR) (Ae.di 0) (rR.drop 32)
noncomputable def alO:Bool:=
 aa (aa (aa (aa (aa (aa true (aa true (true&&Re.aE (bP fl 9)&&!jn sF (bP fl 9)&&true&&true))) (!((rR.length:Int) != 52)))
  (aa true (true&&decide (48≤rR.length)&&decide (rR.length≤65584)&&(true&&Re.aE (bP fl 9)&&Re.aE (rR.take 32)&&!jn fl (rR.take 32)&&Ae.gR (Bi fl (bP fl 9) iL rR) (Ae.di 0) iL (rR.drop 32)))))
  (aa true (true&&decide (48≤rR.length)&&decide (rR.length≤65584)&&(true&&Re.aE (bP fl 9)&&Re.aE (rR.take 32)&&!jn fl (rR.take 32)&&!Ae.gR (Bi fl (bP fl 9) jL rR) (Ae.di 0) jL (rR.drop 32)))))
  (aa (aa true (true&&decide (Zt.length=Zt.length))) (dD Zt))) (decide (Zt=FP))
theorem I6:alO=true:=by
 have hl:rR.length=52:=mg _ _ _ _
 have ht:Zt=FP:=UB
 unfold alO
 rw [ht,hl,tQ,UA,UK,Ov,Ou,mj,mj]
 decide
set_option maxRecDepth 100000 in
theorem FQ:(bE Tryz.prog R9 60 Tryz.f9 [] []).map (fun x=>(x.1,x.2.2))=some (.bool true,alO):=by kernel_rfl
theorem I7:aj Tryz.prog 9 [] [] (.bool true) []:=aP mo 60 Tryz.func9 FQ I6 rfl
def I8:List SV→Option (SV×List Blk×Bool)
 | []=>some (.bool true,[],true)
 |_=>none
noncomputable def I9:Entry Tryz.prog:=.val 9 _ Tryz.func9 (by decide) rfl false 0 I8 fun vs v new e=>by
 unfold I8 at e
 split at e
 ·cases e;exact I7
 ·cases e
end Go.Proofs.YtibfpjeeanppjaaGreat.Bx
end
