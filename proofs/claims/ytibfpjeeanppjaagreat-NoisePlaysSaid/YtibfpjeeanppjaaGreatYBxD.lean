/- This file holds the texts BxC, BxD, a section each. No conditions beyond those in the theorems. -/
import Derived.Test.YtibfpjeeanppjaaGreatYBxB
set_option linter.all false
section
namespace Go.Proofs.YtibfpjeeanppjaaGreat.Bx
open Go Go.Sy Sh La
end Go.Proofs.YtibfpjeeanppjaaGreat.Bx
end
section
namespace Go.Proofs.YtibfpjeeanppjaaGreat.Bx
open Go Go.Sy Sh La
noncomputable def rxC (b c:Bool):bu:=mk (P:=Tryz.prog) [zc b,aco,R4.zd,R4.Ks c] [] fun i=>if i=15||i=20||i=24 then some false else none
theorem DR (b c:Bool):ag Tryz.prog (rxC b c):=ah _ au.nil _ _
def roI:List Nat:=[0,1,2,3,4,5,6,7,8,9,10,11,12,13,14,15,16,17,18,19,20,21,22,23,24,25,26,27,28,29,30,31]
def roD (x:List Int) (o:Bool):Bool:=roI.foldl (fun o i=>aa (aa o (cL ((i:Nat):Int) x.length)) (decide (i<x.length))) o
theorem vD {x:List Int} (h:32≤x.length):∀(l:List Nat),(∀i∈l,i<32)→l.foldl (fun o i=>aa (aa o (cL ((i:Nat):Int) x.length)) (decide (i<x.length))) true=true
 | [],_=>rfl
 |i::l,hl=>by
  have hi:=hl i (List.mem_cons_self ..)
  rw [List.foldl_cons,aK (by omega) (by omega),decide_eq_true (show i<x.length by omega)]
  exact vD h l fun j hj=>hl j (List.mem_cons_of_mem _ hj)
section
variable (s p info x:List Int)
end
theorem gk {x:List Int} (h:32≤x.length):aH 32 x=x.take 32:=by
 have e:aH 32 x=aH 32 (x.take 32):=by
  unfold aH
  refine List.map_congr_left fun i hi=>?_
  rw [List.getD_eq_getElem?_getD,List.getD_eq_getElem?_getD,List.getElem?_take_of_lt (List.mem_range.1 hi)]
 rw [e,aG (by rw [List.length_take];omega)]
end Go.Proofs.YtibfpjeeanppjaaGreat.Bx
end
