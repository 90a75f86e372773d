/- This file gives calls of yield whose round's body is not reckoned by the kernel, but proved piece by piece. Conditions: the pieces. -/
import Derived.Test.YthlnlcijnoadcaaGreatDoorFSxA
set_option linter.all false
namespace Go.Sy
open Go
section
variable {P:Program}
end
def Ctr.withNb (Γ:Ctr) (q:Nat→Nat):Ctr:={Γ with nb:=fun f=>match Nat.ble 1000000000 f with|true=>q (f-1000000000)|false=>Γ.nb f}
theorem Ctr.withNb_ok {P:Program} {Γ:Ctr} (h:CtrSound P Γ) (q:Nat→Nat):CtrSound P (Γ.withNb q) where
 yields:=h.yields
 calls:=h.calls
 pure:=h.pure
 inl:=h.inl
end Go.Sy
