/- This file gives calls of yield whose round's body is not reckoned by the kernel, but proved piece by piece. Conditions: the pieces. -/
import Derived.Test.YtkcmlclomcidiaaDoorCSxA
set_option linter.all false
namespace Go.Sy
open Go
section
variable {P : Program}
end
end Go.Sy
