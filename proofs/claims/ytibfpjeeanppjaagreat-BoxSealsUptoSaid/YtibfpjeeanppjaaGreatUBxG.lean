/- This file holds the texts BxF, BxG, a section each. No conditions beyond those in the theorems. -/
import Derived.Test.YtibfpjeeanppjaaGreatUBxQ
import Derived.Test.YtibfpjeeanppjaaGreatULaF
import Derived.Test.YtibfpjeeanppjaaGreatUAeG
import Derived.Test.YtibfpjeeanppjaaGreatUBnF
set_option linter.all false
section
namespace Go.Proofs.YtibfpjeeanppjaaGreat.Bx
open Go Go.Sy Sh La
noncomputable def Ze (vs:List SV):Option (SV×List Blk×Bool):=match vs with
 | [.agg [.ints .u8 32 s,.ints .u8 32 p],.ro false .u8 info,.ro false .u8 x]=>bif info.getD 0 0==105 then FK 1 [.agg [.ints .u8 32 s,.ints .u8 32 p],.ro false .u8 info,.ro false .u8 x] else FK 2 [.agg [.ints .u8 32 s,.ints .u8 32 p],.ro false .u8 info,.ro false .u8 x]
 |_=>none
theorem Dz (u:Nat) {vs:List SV} {v:SV} {new:List Blk} (e:FK u vs=some (v,new,true)):aj Tryz.prog 19 vs [] v new:=by
 unfold FK at e
 split at e
 ·rename_i s p info x
  split at e
  ·simp only [Option.some.injEq,Prod.mk.injEq,Bool.and_eq_true,decide_eq_true_eq] at e
   obtain ⟨rfl,rfl,⟨⟨hi,h0⟩,h1⟩,⟨hs,hx⟩,hz⟩:=e
   exact aP (qF true false) 60 Tryz.func19 (zI s p info x) (by rw [tM hi h0 h1,tL,hs,hx,hz];rfl) rfl
  ·simp only [Option.some.injEq,Prod.mk.injEq,Bool.and_eq_true,decide_eq_true_eq,Bool.not_eq_true'] at e
   obtain ⟨rfl,rfl,⟨⟨hi,h0⟩,h1⟩,⟨⟨⟨hs,hp⟩,hx⟩,hz⟩,ho⟩:=e
   exact aP (qF false true) 60 Tryz.func19 (IW s p info x) (pN hi h0 h1 hs hp hx hz ho) rfl
  ·simp only [Option.some.injEq,Prod.mk.injEq,Bool.and_eq_true,decide_eq_true_eq,Bool.not_eq_true'] at e
   obtain ⟨rfl,rfl,⟨⟨hi,h0⟩,h1⟩,⟨⟨⟨hs,hp⟩,hx⟩,hz⟩,ho⟩:=e
   exact aP (qF false false) 60 Tryz.func19 (IV s p info x) (pN hi h0 h1 hs hp hx hz (by rw [ho];rfl)) rfl
 ·cases e
noncomputable def aeG:Entry Tryz.prog:=.val 19 _ Tryz.func19 (by decide) rfl true 0 Ze fun vs v new e=>by
 unfold Ze at e
 split at e
 ·rename_i s p info x
  cases hb:(info.getD 0 0==105) with
  |true=>rw [hb] at e;exact Dz 1 e
  |false=>rw [hb] at e;exact Dz 2 e
 ·cases e
noncomputable def R9:bK:=mk (P:=Tryz.prog) [zJ,Sa 2,aeG,Bn.Ua] [(18,Tryz.f18),(36,Tryz.f36)] fun i=>if i=22||i=26 then some false else if i=45||i=50 then some true else none
end Go.Proofs.YtibfpjeeanppjaaGreat.Bx
end
section
namespace Go.Proofs.YtibfpjeeanppjaaGreat.Bx
open Go Go.Sy Sh La Fe
theorem I3:bP sF 9=eo 32 FM:=by rw [bP,aq,DB,On]
theorem I4:bP fl 9=eo 32 FN:=by rw [bP,aq,DB,Oo]
theorem Zf:uP (eo 32 FM)=FM:=by decide+kernel
theorem Zg:uP (eo 32 FN)=FN:=by decide+kernel
theorem BJ:fK fl (bP sF 9)=eo 32 FO:=by rw [fK,I3,Zf,bP,aq,DB,Oq]
theorem BK:fK sF (bP fl 9)=eo 32 FO:=by rw [fK,I4,Zg,bP,aq,DB,Ot]
theorem I5:decide (eo 32 FO=gB)=false:=by decide+kernel
theorem Ou:jn fl (bP sF 9)=false:=by unfold jn;rw [BJ];exact I5
theorem Ov:jn sF (bP fl 9)=false:=by unfold jn;rw [BK];exact I5
def iL:List Int:=[105]
def jL:List Int:=[106]
def FP:List Int:=[116,101,120,116]
noncomputable def rR:List Int:=gl (bP fl 9) sF iL FP
theorem tQ:rR.take 32=bP sF 9:=List.take_left' (gT _ _)
noncomputable def kI:List Int:=pL sF (bP fl 9) (bP sF 9) (bP fl 9) iL
theorem tU:rR.drop 32=Ae.eW kI (Ae.di 0) iL FP:=List.drop_left' (gT _ _)
theorem Sb:Bi fl (bP fl 9) iL rR=kI:=by
 unfold Bi kI
 rw [tL,tQ,pL,pL,aq,aq,Oa,Oa,BJ,BK]
theorem UA:Ae.gR (Bi fl (bP fl 9) iL rR) (Ae.di 0) iL (rR.drop 32)=true:=by
 rw [Sb,tU]
 exact Ae.BC _ _ _ _
theorem UB:Ae.rN (Bi fl (bP fl 9) iL rR) (Ae.di 0) (rR.drop 32)=FP:=by
 rw [Sb,tU]
 exact Ae.FH (by decide)
end Go.Proofs.YtibfpjeeanppjaaGreat.Bx
end
