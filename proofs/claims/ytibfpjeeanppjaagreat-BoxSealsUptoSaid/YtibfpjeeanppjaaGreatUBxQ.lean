/- This file holds the texts BxE, BxQ, a section each. No conditions beyond those in the theorems. -/
import Derived.Test.YtibfpjeeanppjaaGreatUBxB
import Derived.Test.YtibfpjeeanppjaaGreatUBxD
set_option linter.all false
set_option maxRecDepth 100000
section
namespace Go.Proofs.YtibfpjeeanppjaaGreat.Bx
open Go Go.Sy Sh La
noncomputable def blC (a:Bool):bK:=mk (P:=Tryz.prog) [] [] fun i=>if i=17 then some a else if i=21 then some true else none
theorem Jr (a:Bool):ag Tryz.prog (blC a):=ai _ aF.nil _ _
def UQ:SV:=.iface 78 (.int .i64 1)
section
variable (p d info text:List Int)
theorem ae4:(bE Tryz.prog (blC true) 60 Tryz.f12 [.agg [.ints .u8 32 p],.agg [.ints .u8 32 d],.ro false .u8 info,.ro false .u8 text] []).map (fun x=>(x.1,x.2.2))=
  some (.bk [.nl (.slice none 0 0),UQ],aa true (decide ((info.length:Int)>65536))):=by kernel_rfl
theorem ae5:(bE Tryz.prog (blC false) 60 Tryz.f12 [.agg [.ints .u8 32 p],.agg [.ints .u8 32 d],.ro false .u8 info,.ro false .u8 text] []).map (fun x=>(x.1,x.2.2))=
  some (.bk [.nl (.slice none 0 0),UQ],aa (aa true (!decide ((info.length:Int)>65536))) (decide ((text.length:Int)>65536))):=by kernel_rfl
end
noncomputable def Sk (u:Nat):List SV→Option (SV×List Blk×Bool)
 | [.agg [.ints .u8 32 p],.agg [.ints .u8 32 d],.ro false .u8 info,.ro false .u8 text]=>match u with
  |0=>some (.bk [.nl (.slice none 0 0),UQ],[],decide (65536<info.length∨65536<text.length))
  |1=>some (.bk [.nl (.slice none 0 0),me],[],Re.aE d&&Re.aE p&&jn d p&&decide (info.length≤65536)&&decide (text.length≤65536))
  |_=>some (.bk [.ro true .u8 (gl p d info text),.nl .nilIface],[],Re.aE d&&Re.aE p&&!jn d p&&decide (info.length≤65536)&&decide (text.length≤65536))
 |_=>none
noncomputable def Sa (u:Nat):Entry Tryz.prog:=.val 12 _ Tryz.func12 (by decide) rfl true 0 (Sk u) fun vs v new e=>by
 unfold Sk at e
 split at e
 ·rename_i p d info text
  split at e
  ·simp only [Option.some.injEq,Prod.mk.injEq,decide_eq_true_eq] at e
   obtain ⟨rfl,rfl,h⟩:=e
   by_cases hi:65536<info.length
   ·exact aP (Jr true) 60 Tryz.func12 (ae4 p d info text) (by rw [decide_eq_true (show (info.length:Int)>65536 by omega)];rfl) rfl
   ·exact aP (Jr false) 60 Tryz.func12 (ae5 p d info text) (by rw [decide_eq_false (show ¬(info.length:Int)>65536 by omega),decide_eq_true (show (text.length:Int)>65536 by omega)];rfl) rfl
  ·simp only [Option.some.injEq,Prod.mk.injEq,Bool.and_eq_true,decide_eq_true_eq] at e
   obtain ⟨rfl,rfl,⟨⟨⟨h1,h2⟩,h3⟩,h4⟩,h5⟩:=e
   exact aP (IU true false) 60 Tryz.func12 (Ur p d info text) (by rw [h1,h2,h3,decide_eq_false (show ¬(info.length:Int)>65536 by omega),decide_eq_false (show ¬(text.length:Int)>65536 by omega)];rfl) rfl
  ·simp only [Option.some.injEq,Prod.mk.injEq,Bool.and_eq_true,decide_eq_true_eq,Bool.not_eq_true'] at e
   obtain ⟨rfl,rfl,⟨⟨⟨h1,h2⟩,h3⟩,h4⟩,h5⟩:=e
   exact Za h1 h2 h3 h4 h5
 ·cases e
end Go.Proofs.YtibfpjeeanppjaaGreat.Bx
end
section
namespace Go.Proofs.YtibfpjeeanppjaaGreat.Bx
open Go Go.Sy Sh La
noncomputable def rlC (a:Bool):bK:=mk (P:=Tryz.prog) [] [] fun i=>if i=18 then some a else if i=22 then some true else none
theorem Js (a:Bool):ag Tryz.prog (rlC a):=ai _ aF.nil _ _
section
variable (p d info text:List Int)
theorem ae7:(bE Tryz.prog (rlC true) 60 Tryz.f13 [.agg [.ints .u8 32 p],.agg [.ints .u8 32 d],.ro false .u8 info,.ro false .u8 text] []).map (fun x=>(x.1,x.2.2))=
  some (.bk [.nl (.slice none 0 0),.int .i64 1],aa true (decide ((info.length:Int)>65536))):=by kernel_rfl
theorem ae8:(bE Tryz.prog (rlC false) 60 Tryz.f13 [.agg [.ints .u8 32 p],.agg [.ints .u8 32 d],.ro false .u8 info,.ro false .u8 text] []).map (fun x=>(x.1,x.2.2))=
  some (.bk [.nl (.slice none 0 0),.int .i64 1],aa (aa true (!decide ((info.length:Int)>65536))) (decide ((text.length:Int)>65536))):=by kernel_rfl
end
noncomputable def Sl (u:Bool):List SV→Option (SV×List Blk×Bool)
 | [.agg [.ints .u8 32 p],.agg [.ints .u8 32 d],.ro false .u8 info,.ro false .u8 text]=>match u with
  |true=>some (.bk [.nl (.slice none 0 0),.int .i64 1],[],decide (65536<info.length∨65536<text.length))
  |false=>some (.bk [.nl (.slice none 0 0),.int .i64 4],[],Re.aE d&&Re.aE p&&jn d p&&decide (info.length≤65536)&&decide (text.length≤65536))
 |_=>none
noncomputable def Zw (u:Bool):Entry Tryz.prog:=.val 13 _ Tryz.func13 (by decide) rfl true 0 (Sl u) fun vs v new e=>by
 unfold Sl at e
 split at e
 ·rename_i p d info text
  split at e
  ·simp only [Option.some.injEq,Prod.mk.injEq,decide_eq_true_eq] at e
   obtain ⟨rfl,rfl,h⟩:=e
   by_cases hi:65536<info.length
   ·exact aP (Js true) 60 Tryz.func13 (ae7 p d info text) (by rw [decide_eq_true (show (info.length:Int)>65536 by omega)];rfl) rfl
   ·exact aP (Js false) 60 Tryz.func13 (ae8 p d info text) (by rw [decide_eq_false (show ¬(info.length:Int)>65536 by omega),decide_eq_true (show (text.length:Int)>65536 by omega)];rfl) rfl
  ·simp only [Option.some.injEq,Prod.mk.injEq,Bool.and_eq_true,decide_eq_true_eq] at e
   obtain ⟨rfl,rfl,⟨⟨⟨h1,h2⟩,h3⟩,h4⟩,h5⟩:=e
   exact aP (IY true) 60 Tryz.func13 (Ux p d info text) (by rw [h1,h2,h3,decide_eq_false (show ¬(info.length:Int)>65536 by omega),decide_eq_false (show ¬(text.length:Int)>65536 by omega)];rfl) rfl
 ·cases e
end Go.Proofs.YtibfpjeeanppjaaGreat.Bx
end
