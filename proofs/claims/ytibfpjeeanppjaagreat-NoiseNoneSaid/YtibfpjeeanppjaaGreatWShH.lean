/- This file proves the contract of sha's Long: the program's long digest. Conditions: lengths that memory bears. -/
import Derived.Test.YtibfpjeeanppjaaGreatWShG
set_option linter.all false
namespace Go.Proofs.YtibfpjeeanppjaaGreat.Sh
open Go Go.Sy
noncomputable def ckB : Code := bodyOf Tryz.f164
def ckE (p : List Int) (i : Int) : Int := IntKind.i64.wrap (i + if ((p.drop i.toNat).length : Int) < 128 then ((p.drop i.toNat).length : Int) else 128)
def ckW (p : List Int) (i : Int) : List Int := (p.drop i.toNat).take ((ckE p i).toNat - i.toNat)
end Go.Proofs.YtibfpjeeanppjaaGreat.Sh
