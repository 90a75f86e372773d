/- This file proves the law NoiseNone. No conditions. -/
import Derived.Test.YtibfpjeeanppjaaGreatWNoH
set_option linter.all false
namespace Go.Proofs.YtibfpjeeanppjaaGreat.No
open Go Go.Sy Sh La
noncomputable def inlZ : List (FuncId × Func) := [(30, Tryz.f30), (29, Tryz.f29), (24, Tryz.f24), (28, Tryz.f28), (34, Tryz.f34), (32, Tryz.f32), (36, Tryz.f36)]
theorem inlZ_ok : InlOK Tryz.prog inlZ := InlOK.cons Tryz.func30 (by decide) (InlOK.cons Tryz.func29 (by decide) (InlOK.cons Tryz.func24 (by decide) (InlOK.cons Tryz.func28 (by decide) (InlOK.cons Tryz.func34 (by decide) (InlOK.cons Tryz.func32 (by decide) (InlOK.cons Tryz.func36 (by decide) InlOK.nil))))))
noncomputable def nnC : Ctr := mk (P := Tryz.prog) [aliveE, Bn.numE] inlZ
theorem nnC_ok : CtrSound Tryz.prog nnC := mk_sound _ inlZ_ok _ _
set_option maxRecDepth 100000 in
theorem none_law (b : List Int) : FnTr Tryz.prog 8 [.ro false .u8 b] [] (.bool true) [] :=
  call0 nnC_ok 60 Tryz.func8 (p := true) (by kernel_rfl) rfl rfl
end Go.Proofs.YtibfpjeeanppjaaGreat.No
