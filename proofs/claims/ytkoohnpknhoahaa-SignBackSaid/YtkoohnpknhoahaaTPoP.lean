/- This file proves the law PointAdds as a call of the interpreter: it returns true. Conditions: bytes within their kind. -/
import Derived.Test.YtkoohnpknhoahaaTMl
set_option linter.all false
namespace Go.Proofs.Ytkoohnpknhoahaa.Po
open Go Go.Sy Re Fe
theorem encA_len (A : Pt) : (encA A).length = 32 := (keyOK_iff.1 (enc_ok (val_lt A.2).1 (val_lt A.2).2 _).1).1
theorem from_eq {b : List Int} (hb : keyOK b = true) : frOkR b = frOk b := (from_rel hb).1.symm
end Go.Proofs.Ytkoohnpknhoahaa.Po
