/- This file proves the law CipherNone: what a nil cipher and a nil state answer. No conditions. -/
import Derived.Test.YtkoohnpknhoahaaHCpD
set_option linter.all false
namespace Go.Proofs.Ytkoohnpknhoahaa.Cp
open Go Go.Sy Sh
noncomputable def inlN : List (FuncId × Func) := [(39, Try.f39), (35, Try.f35), (36, Try.f36), (37, Try.f37), (38, Try.f38), (41, Try.f41), (43, Try.f43), (40, Try.f40), (44, Try.f44), (25, Try.f25), (27, Try.f27), (68, Try.f68), (22, Try.f22), (31, Try.f31), (23, Try.f23), (42, Try.f42), (29, Try.f29)]
theorem inlN_ok : InlOK Try.prog inlN := InlOK.cons Try.func39 (by decide) (InlOK.cons Try.func35 (by decide) (InlOK.cons Try.func36 (by decide) (InlOK.cons Try.func37 (by decide) (InlOK.cons Try.func38 (by decide) (InlOK.cons Try.func41 (by decide) (InlOK.cons Try.func43 (by decide) (InlOK.cons Try.func40 (by decide) (InlOK.cons Try.func44 (by decide) (InlOK.cons Try.func25 (by decide) (InlOK.cons Try.func27 (by decide) (InlOK.cons Try.func68 (by decide) (InlOK.cons Try.func22 (by decide) (InlOK.cons Try.func31 (by decide) (InlOK.cons Try.func23 (by decide) (InlOK.cons Try.func42 (by decide) (InlOK.cons Try.func29 (by decide) (InlOK.nil)))))))))))))))))
noncomputable def noC : Ctr := mk (P := Try.prog) [aliveE] inlN
theorem noC_ok : CtrSound Try.prog noC := mk_sound _ inlN_ok _ _
set_option maxRecDepth 100000 in
theorem none_run (b : List Int) (n : Int) : (callS Try.prog noC 60 Try.f10 [.ro false .u8 b, .int .i64 n] []).map (fun x => (x.1, x.2.2)) = some (.bool true, true) := by kernel_rfl
theorem none_law {b : List Int} {n : Int} (_ : ∀ z ∈ b, 0 ≤ z ∧ z < 256) (_ : IntKind.i64.has n) : FnTr Try.prog 10 [.ro false .u8 b, .int .i64 n] [] (.bool true) [] :=
  call0 noC_ok 60 Try.func10 (none_run b n) rfl rfl
end Go.Proofs.Ytkoohnpknhoahaa.Cp
