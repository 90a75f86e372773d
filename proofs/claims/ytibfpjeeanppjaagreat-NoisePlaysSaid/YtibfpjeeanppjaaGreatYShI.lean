/- This file holds the texts ShH, ShI, a section each. No conditions beyond those in the theorems. -/
import Derived.Test.YtibfpjeeanppjaaGreatYShG
set_option linter.all false
set_option maxRecDepth 100000
section
namespace Go.Proofs.YtibfpjeeanppjaaGreat.Sh
open Go Go.Sy
noncomputable def PT:Code:=aE Tryz.f164
def xQ (p:List Int) (i:Int):Int:=IntKind.i64.wrap (i+if ((p.drop i.toNat).length:Int)<128 then ((p.drop i.toNat).length:Int) else 128)
def JJ (p:List Int) (i:Int):List Int:=(p.drop i.toNat).take ((xQ p i).toNat-i.toNat)
end Go.Proofs.YtibfpjeeanppjaaGreat.Sh
end
section
namespace Go.Sy
open Go
variable {P:Program}
theorem bq.nothing {k:Nat} {t:List (Option SV)} {h:List Blk} {o o':Bool} (i:Nat) (K:IntKind) (ex wh:Bool) (hi:t[i]? =some (some (.nl (.slice none 0 0)))):
  bq k ⟨t,h,o⟩ ⟨t.set i (some (.sl h.length 0 0 1 0 0 ex wh)),h++[.b [.ints K 0 []]],o'⟩:=fun B e w t' _ hl R=>⟨e,rfl,⟨by simpa using hl.1,fun j v v' a c=>by
  rw [List.getElem?_set] at a
  split at a
  ·rename_i q
   subst q
   split at a
   ·simp only [Option.some.injEq] at a
    subst a
    have h1:v'= .slice none 0 0:=hl.2 _ _ v' hi c
    exact .inl ⟨rfl,rfl,none,h1⟩
   ·cases a
  ·exact hl.2 j v v' a c⟩,by
  have:=R.nothing (j:=h.length) (ps:=[.ints K 0 []]) (.inl rfl) rfl
  unfold b6 at this
  rw [if_pos rfl] at this
  exact this⟩
end Go.Sy
namespace Go.Proofs.YtibfpjeeanppjaaGreat.Sh
open Go Go.Sy
def ahZ:Option (SV×List Blk×Bool)→List Int
 |some (_,[.b [.ints _ _ l]],_)=>l
 |_=>[]
theorem JG:ai Tryz.prog 160 [] [] (.ro true .u64 kL) []:=
 ai.frozen (N:=80) (ex:=true) (wh:=true) (ai.dw mV Tryz.func160 (n:=60) (by kernel_rfl)) (by kernel_rfl)
theorem JH:ai Tryz.prog 120 [] [] (.ro true .u64 bL) []:=
 ai.frozen (N:=8) (ex:=true) (wh:=true) (ai.dw mV Tryz.func120 (n:=60) (by kernel_rfl)) (by kernel_rfl)
noncomputable def H7:List SV→Option (SV×List Blk×Bool)
 | []=>some (.ro true .u64 kL,[],true)
 |_=>none
noncomputable def T7:Entry Tryz.prog:=.val 160 _ Tryz.func160 (by decide) rfl false 0 H7 fun vs v new e=>by
 unfold H7 at e
 split at e
 ·cases e;exact JG
 ·cases e
noncomputable def H8:List SV→Option (SV×List Blk×Bool)
 | []=>some (.ro true .u64 bL,[],true)
 |_=>none
noncomputable def T8:Entry Tryz.prog:=.val 120 _ Tryz.func120 (by decide) rfl false 0 H8 fun vs v new e=>by
 unfold H8 at e
 split at e
 ·cases e;exact JH
 ·cases e
end Go.Proofs.YtibfpjeeanppjaaGreat.Sh
end
