/- This file reads slices of bytes, and structs that hold bytes and such a slice, that come in with a row. Conditions: what came in reads as data. -/
import Derived.Test.YtkcmlclomcidiaaDoorASxA
import Derived.ChangeSlices
import Derived.WideShapes
import Derived.RowKit
set_option linter.all false
namespace Go.Sy
open Go Go.ChangeShapes Go.WideShapes Go.RowKit
variable {P : Program}
end Go.Sy
