/- This file proves the contract of the reference's Tag with no key, and of its Label. Conditions: bytes; lengths that memory bears. -/
import Derived.Test.YtibfpjeeanppjaaGreatUKdF
set_option linter.all false
set_option maxRecDepth 100000
namespace Go.Proofs.YtibfpjeeanppjaaGreat.Q2
open Go Go.Sy Sh
set_option maxHeartbeats 0 in
theorem OW (text:List Int):(bE Tryz.prog tqC 300 Tryz.f80 [.nl (.slice none 0 0),.ro false .u8 text] []).map (fun x=>(x.1,x.2.2))=some (.agg [.ints .u8 32 (Yd (pR 54) (pR 92) text)],tqO (pR 54) (pR 92) text):=by kernel_rfl
theorem DO (c:Int):Kd.NY (Kd.BE (Kd.YV [])) c=pR c:=by kernel_rfl
theorem pU (c:Int):(pR c).length=64:=by simp [pR]
theorem DP (c:Int):By (pR c):=by
 intro x hx
 simp only [pR,List.mem_replicate] at hx
 rw [hx.2]
 exact DL _ _
theorem Vm {text:List Int} (ht:By text) (hl:text.length<274877890000):Yd (pR 54) (pR 92) text=Kd.ej [] text:=by
 have h1:By (pR 54++text):=(DP _).app ht
 have e1:=jY h1 (by rw [List.length_append,pU];omega)
 have h2:By (pR 92++S2.bn (pR 54++text)):=(DP _).app (S2.ni _)
 have e2:=jY h2 (by rw [List.length_append,pU,S2.eD];omega)
 unfold Yd
 rw [Kd.ej,aq,Kd.ic,Kd.ic,aq,aq,DO,DO,e2,e1]
theorem OX {text:List Int} (ht:dD text=true) (hl:text.length<274877890000):aj Tryz.prog 80 [.nl (.slice none 0 0),.ro false .u8 text] [] (.agg [.ints .u8 32 (Kd.ej [] text)]) []:=by
 have k:=aP JM 300 Tryz.func80 (OW text) (zR (pU _) (pU _) hl) rfl
 rw [Vm (IX ht) hl] at k
 exact k
noncomputable def SB:List SV→Option (SV×List Blk×Bool)
 | [.nl (.slice none 0 0),.ro false .u8 text]=>some (.agg [.ints .u8 32 (Kd.ej [] text)],[],dD text&&decide (text.length<274877890000))
 |_=>none
noncomputable def Zc:Entry Tryz.prog:=.val 80 _ Tryz.func80 (by decide) rfl true 0 SB fun vs v new e=>by
 unfold SB at e
 split at e
 ·simp only [Option.some.injEq,Prod.mk.injEq,Bool.and_eq_true,decide_eq_true_eq] at e
  obtain ⟨rfl,rfl,h2,h3⟩:=e
  exact OX h2 h3
 ·cases e
end Go.Proofs.YtibfpjeeanppjaaGreat.Q2
