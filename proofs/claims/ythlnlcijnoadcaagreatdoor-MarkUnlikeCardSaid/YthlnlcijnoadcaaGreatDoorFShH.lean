/- This file holds the texts ShG, ShH, a section each. No conditions beyond those in the theorems. -/
import Derived.Test.YthlnlcijnoadcaaGreatDoorFShF
set_option linter.all false
set_option maxRecDepth 100000
section
namespace Go.Proofs.YthlnlcijnoadcaaGreatDoor.Sh
open Go Go.Sy
def pickK (vs:List SV):List Nat:=match vs with
 | [_,_,.ptr b _ _]=>[b]
 |_=>[]
def intsOf:Option (SV×List Blk×Bool)→List Int
 |some (.agg [.ints _ _ l],_,_)=>l
 |_=>[]
noncomputable def kL:List Int:=intsOf (callS Tryz.prog (mk (P:=Tryz.prog) [] []) 60 Tryz.f247 [] [])
noncomputable def bL:List Int:=intsOf (callS Tryz.prog (mk (P:=Tryz.prog) [] []) 60 Tryz.f208 [] [])
noncomputable def longsF:List SV→Option (SV×List Blk×Bool)
 | []=>some (.agg [.ints .u64 80 kL],[],true)
 |_=>none
noncomputable def longsE:Entry Tryz.prog:=.val 247 _ Tryz.func247 (by decide) rfl false 0 longsF fun vs v new e=>by
 unfold longsF at e
 split at e
 ·cases e
  exact call0 ctr0 60 Tryz.func247 (p:=true) (by kernel_rfl) rfl rfl
 ·cases e
noncomputable def beginF:List SV→Option (SV×List Blk×Bool)
 | []=>some (.agg [.ints .u64 8 bL],[],true)
 |_=>none
noncomputable def beginE:Entry Tryz.prog:=.val 208 _ Tryz.func208 (by decide) rfl false 0 beginF fun vs v new e=>by
 unfold beginF at e
 split at e
 ·cases e
  exact call0 ctr0 60 Tryz.func208 (p:=true) (by kernel_rfl) rfl rfl
 ·cases e
noncomputable def chC:Ctr:=mk (P:=Tryz.prog) [] [] fun i=>if i=6 then some false else none
theorem chC_ok:CtrSound Tryz.prog chC:=mk_sound _ InlOK.nil _ _
noncomputable def chunkF:List SV→Option (SV×List Blk×Bool)
 | [.ro false .u8 xs,.int .i64 n]=>some (.fn (.func 250) [] [.ptr 0 0 0,.ptr 1 0 0],[.b [.ro false .u8 xs],.b [.int .i64 n]],!decide (n<1))
 |_=>none
noncomputable def chunkE:Entry Tryz.prog:=.val 212 _ Tryz.func212 (by decide) rfl true 2 chunkF fun vs v new e=>by
 unfold chunkF at e
 split at e
 ·rename_i xs n
  simp only [Option.some.injEq,Prod.mk.injEq] at e
  obtain ⟨rfl,rfl,h⟩:=e
  exact callM chC_ok 30 Tryz.func212 2 (by simp) (p:=andT true (!decide (n<1))) (by kernel_rfl) (by rw [h];rfl) rfl rfl
 ·cases e
end Go.Proofs.YthlnlcijnoadcaaGreatDoor.Sh
end
section
namespace Go.Proofs.YthlnlcijnoadcaaGreatDoor.Sh
open Go Go.Sy
noncomputable def ckB:Code:=bodyOf Tryz.f250
def ckE (p:List Int) (i:Int):Int:=IntKind.i64.wrap (i+if ((p.drop i.toNat).length:Int)<128 then ((p.drop i.toNat).length:Int) else 128)
def ckW (p:List Int) (i:Int):List Int:=(p.drop i.toNat).take ((ckE p i).toNat-i.toNat)
end Go.Proofs.YthlnlcijnoadcaaGreatDoor.Sh
end
