/-
  No cell of these rows narrows 'for every input' (looked for: loops, veiled, ifaces, maps, wideKeys, modest, calm, conditions, laid).
  DERIVED. THE GIVEN ROWS OF THIS SEAT. 7 by the template 'for every input the law returns true; each argument reads behind the call as it read before'; 0 by the template 'total and deterministic' (their statements: YtailgcdcdhhpnaaTotals.lean).
  GIVEN WITH THE SEED: the statements are not yours to turn. If you find one false, say at which input.
  Laid BY PROGRAM, IN A SANDBOX (cutbox-rows.mjs): the forced cells as the released guide's own fill.sh prints them over the translation 7838193a7fbba897… (all of the seat's roots in one cut). By AI agents, Wed Nov 11 2026. No macro, syntax, notation, axiom, sorry.
-/
import Derived.Test.YtailgcdcdhhpnaaChecked
import GoSem.Claim
import GoSem.ClaimJoined
import GoSem.ClaimMapViews
import Derived.JoinedTies
import Derived.KernelRfl
namespace Go.Proofs.Ytailgcdcdhhpnaa
/- THE CELL 'sum', in the pinned program and in every row, IS THE sha256 OF THE DUMP (.gsa) THAT YtailgcdcdhhpnaaProg.lean LOADS. Nothing in Lean hashes anything: it is a label: what it is worth is what the hold of that sum in a sandbox is worth. -/
noncomputable def Try.pinned : Pinned := { name := "ytailgcdcdhhpnaa", sum := "7838193a7fbba8977c83b20f050716064f2adda3146dbefe4b65a83ea6c468d4", checked := Try.checked }
namespace Rows
def none {H : Type} : Left H := { results := [], args := [] }

/-- 'burrowlaw07.PointReduces': WHATEVER THE INPUT: true; the input reads as it did. -/
def pointReducesSpec : ChangeSpec := { name := "pointReduces", fn := fun _ => fun
  | [d] => { results := [.lit (.bool true)], args := [d] }
  | _ => none }
def pointReducesRow : OpenClaim := { program := "ytailgcdcdhhpnaa", sum := "7838193a7fbba8977c83b20f050716064f2adda3146dbefe4b65a83ea6c468d4", func := "burrow/burrowlaw07.PointReduces", spec := "pointReduces", inPlace := ["math/bits.Sub64"], apart := false }
def PointReducesSaid : Prop := pointReducesRow.holds Try.pinned (OpenSpec.ofChange pointReducesSpec)

/-- ITS FALSE NEIGHBOUR: 'it returns false'. Refute it at one input. -/
def pointReducesWrong : ChangeSpec := { name := "pointReduces", fn := fun _ => fun
  | [d] => { results := [.lit (.bool false)], args := [d] }
  | _ => none }
def PointReducesWrongFalsely : Prop := pointReducesRow.holds Try.pinned (OpenSpec.ofChange pointReducesWrong)

/-- 'burrowlaw07.PointMuls': WHATEVER THE INPUT: true; the input reads as it did. -/
def pointMulsSpec : ChangeSpec := { name := "pointMuls", fn := fun _ => fun
  | [d1, d2, d3] => { results := [.lit (.bool true)], args := [d1, d2, d3] }
  | _ => none }
def pointMulsRow : OpenClaim := { program := "ytailgcdcdhhpnaa", sum := "7838193a7fbba8977c83b20f050716064f2adda3146dbefe4b65a83ea6c468d4", func := "burrow/burrowlaw07.PointMuls", spec := "pointMuls", inPlace := ["math/bits.Add64", "math/bits.Sub64"], apart := false }
def PointMulsSaid : Prop := pointMulsRow.holds Try.pinned (OpenSpec.ofChange pointMulsSpec)

/-- ITS FALSE NEIGHBOUR: 'it returns false'. Refute it at one input. -/
def pointMulsWrong : ChangeSpec := { name := "pointMuls", fn := fun _ => fun
  | [d1, d2, d3] => { results := [.lit (.bool false)], args := [d1, d2, d3] }
  | _ => none }
def PointMulsWrongFalsely : Prop := pointMulsRow.holds Try.pinned (OpenSpec.ofChange pointMulsWrong)

/-- 'burrowlaw07.PointFrom': WHATEVER THE INPUT: true; the input reads as it did. -/
def pointFromSpec : ChangeSpec := { name := "pointFrom", fn := fun _ => fun
  | [d] => { results := [.lit (.bool true)], args := [d] }
  | _ => none }
def pointFromRow : OpenClaim := { program := "ytailgcdcdhhpnaa", sum := "7838193a7fbba8977c83b20f050716064f2adda3146dbefe4b65a83ea6c468d4", func := "burrow/burrowlaw07.PointFrom", spec := "pointFrom", inPlace := ["math/bits.Add64"], unfollowed := true, recurses := true, apart := false }
def PointFromSaid : Prop := pointFromRow.holds Try.pinned (OpenSpec.ofChange pointFromSpec)

/-- ITS FALSE NEIGHBOUR: 'it returns false'. Refute it at one input. -/
def pointFromWrong : ChangeSpec := { name := "pointFrom", fn := fun _ => fun
  | [d] => { results := [.lit (.bool false)], args := [d] }
  | _ => none }
def PointFromWrongFalsely : Prop := pointFromRow.holds Try.pinned (OpenSpec.ofChange pointFromWrong)

/-- 'burrowlaw07.PointAdds': WHATEVER THE INPUT: true; the input reads as it did. -/
def pointAddsSpec : ChangeSpec := { name := "pointAdds", fn := fun _ => fun
  | [d1, d2] => { results := [.lit (.bool true)], args := [d1, d2] }
  | _ => none }
def pointAddsRow : OpenClaim := { program := "ytailgcdcdhhpnaa", sum := "7838193a7fbba8977c83b20f050716064f2adda3146dbefe4b65a83ea6c468d4", func := "burrow/burrowlaw07.PointAdds", spec := "pointAdds", inPlace := ["math/bits.Add64"], unfollowed := true, recurses := true, apart := false }
def PointAddsSaid : Prop := pointAddsRow.holds Try.pinned (OpenSpec.ofChange pointAddsSpec)

/-- ITS FALSE NEIGHBOUR: 'it returns false'. Refute it at one input. -/
def pointAddsWrong : ChangeSpec := { name := "pointAdds", fn := fun _ => fun
  | [d1, d2] => { results := [.lit (.bool false)], args := [d1, d2] }
  | _ => none }
def PointAddsWrongFalsely : Prop := pointAddsRow.holds Try.pinned (OpenSpec.ofChange pointAddsWrong)

/-- 'burrowlaw07.PointTimes': WHATEVER THE INPUT: true; the input reads as it did. -/
def pointTimesSpec : ChangeSpec := { name := "pointTimes", fn := fun _ => fun
  | [d1, d2] => { results := [.lit (.bool true)], args := [d1, d2] }
  | _ => none }
def pointTimesRow : OpenClaim := { program := "ytailgcdcdhhpnaa", sum := "7838193a7fbba8977c83b20f050716064f2adda3146dbefe4b65a83ea6c468d4", func := "burrow/burrowlaw07.PointTimes", spec := "pointTimes", inPlace := ["math/bits.Add64"], unfollowed := true, recurses := true, apart := false }
def PointTimesSaid : Prop := pointTimesRow.holds Try.pinned (OpenSpec.ofChange pointTimesSpec)

/-- ITS FALSE NEIGHBOUR: 'it returns false'. Refute it at one input. -/
def pointTimesWrong : ChangeSpec := { name := "pointTimes", fn := fun _ => fun
  | [d1, d2] => { results := [.lit (.bool false)], args := [d1, d2] }
  | _ => none }
def PointTimesWrongFalsely : Prop := pointTimesRow.holds Try.pinned (OpenSpec.ofChange pointTimesWrong)

/-- 'burrowlaw07.PointDoubles': WHATEVER THE INPUT: true; the input reads as it did. -/
def pointDoublesSpec : ChangeSpec := { name := "pointDoubles", fn := fun _ => fun
  | [d1, d2, d3] => { results := [.lit (.bool true)], args := [d1, d2, d3] }
  | _ => none }
def pointDoublesRow : OpenClaim := { program := "ytailgcdcdhhpnaa", sum := "7838193a7fbba8977c83b20f050716064f2adda3146dbefe4b65a83ea6c468d4", func := "burrow/burrowlaw07.PointDoubles", spec := "pointDoubles", inPlace := ["math/bits.Add64"], unfollowed := true, recurses := true, apart := false }
def PointDoublesSaid : Prop := pointDoublesRow.holds Try.pinned (OpenSpec.ofChange pointDoublesSpec)

/-- ITS FALSE NEIGHBOUR: 'it returns false'. Refute it at one input. -/
def pointDoublesWrong : ChangeSpec := { name := "pointDoubles", fn := fun _ => fun
  | [d1, d2, d3] => { results := [.lit (.bool false)], args := [d1, d2, d3] }
  | _ => none }
def PointDoublesWrongFalsely : Prop := pointDoublesRow.holds Try.pinned (OpenSpec.ofChange pointDoublesWrong)

/-- 'burrowlaw07.PointGroup': WHATEVER THE INPUT: true; the input reads as it did. -/
def pointGroupSpec : ChangeSpec := { name := "pointGroup", fn := fun _ => fun
  | [d1, d2, d3] => { results := [.lit (.bool true)], args := [d1, d2, d3] }
  | _ => none }
def pointGroupRow : OpenClaim := { program := "ytailgcdcdhhpnaa", sum := "7838193a7fbba8977c83b20f050716064f2adda3146dbefe4b65a83ea6c468d4", func := "burrow/burrowlaw07.PointGroup", spec := "pointGroup", inPlace := ["math/bits.Add64", "math/bits.Sub64"], unfollowed := true, recurses := true, apart := false }
def PointGroupSaid : Prop := pointGroupRow.holds Try.pinned (OpenSpec.ofChange pointGroupSpec)

/-- ITS FALSE NEIGHBOUR: 'it returns false'. Refute it at one input. -/
def pointGroupWrong : ChangeSpec := { name := "pointGroup", fn := fun _ => fun
  | [d1, d2, d3] => { results := [.lit (.bool false)], args := [d1, d2, d3] }
  | _ => none }
def PointGroupWrongFalsely : Prop := pointGroupRow.holds Try.pinned (OpenSpec.ofChange pointGroupWrong)

/- THE SECOND FORM. 'bulk': how many values and letters a reading holds, each counted each time it is reached (what is shared counts as often as it is met; a slice's spare places count too). A statement '..UptoSaid' is the law's where the arguments, and the package variables that the reading takes, are together of bulk at most 1048576: NARROWER than '..Said'. Prove '..Said' where nothing that the law and all that it calls make is longer than what came in: it says more and counts as full. Else prove '..UptoSaid'. A law counts once. -/
mutual
def uptoBulk {H : Type} : DataW H → Nat
  | .lit (.string bytes) => bytes.length + 1
  | .lit _ => 1
  | .nil => 1
  | .ptr d => uptoBulk d + 1
  | .slice elems spare => uptoBulkAll elems + uptoBulkAll spare + 1
  | .agg parts => uptoBulkAll parts + 1
  | .iface _ d => uptoBulk d + 1
  | .map entries => uptoBulkEntries entries + 1
  | .held _ => 1
def uptoBulkAll {H : Type} : List (DataW H) → Nat
  | [] => 0
  | d :: r => uptoBulk d + uptoBulkAll r
def uptoBulkEntries {H : Type} : List (Lit × DataW H) → Nat
  | [] => 0
  | x :: r => uptoBulkEntry x + uptoBulkEntries r
def uptoBulkEntry {H : Type} : Lit × DataW H → Nat
  | (.string bytes, d) => bytes.length + uptoBulk d + 1
  | (_, d) => uptoBulk d + 1
 end
def uptoSmall : (H : Type) → List (DataW H) → Bool := fun _ ds => decide (uptoBulkAll ds ≤ 1048576)
def OpenSpec.upto (s : _root_.Go.ChangeSpec) : _root_.Go.OpenSpec := { _root_.Go.OpenSpec.ofChange s with cond := some uptoSmall }

/-- 'burrowlaw07.PointReduces', WHERE WHAT IT READS IS OF BULK AT MOST 1048576: true; the input reads as it did. -/
def pointReducesUptoRow : OpenClaim := { program := "ytailgcdcdhhpnaa", sum := "7838193a7fbba8977c83b20f050716064f2adda3146dbefe4b65a83ea6c468d4", func := "burrow/burrowlaw07.PointReduces", spec := "pointReduces", inPlace := ["math/bits.Sub64"], apart := false, narrowed := true }
def PointReducesUptoSaid : Prop := pointReducesUptoRow.holds Try.pinned (OpenSpec.upto pointReducesSpec)

/-- 'burrowlaw07.PointMuls', WHERE WHAT IT READS IS OF BULK AT MOST 1048576: true; the input reads as it did. -/
def pointMulsUptoRow : OpenClaim := { program := "ytailgcdcdhhpnaa", sum := "7838193a7fbba8977c83b20f050716064f2adda3146dbefe4b65a83ea6c468d4", func := "burrow/burrowlaw07.PointMuls", spec := "pointMuls", inPlace := ["math/bits.Add64", "math/bits.Sub64"], apart := false, narrowed := true }
def PointMulsUptoSaid : Prop := pointMulsUptoRow.holds Try.pinned (OpenSpec.upto pointMulsSpec)

/-- 'burrowlaw07.PointFrom', WHERE WHAT IT READS IS OF BULK AT MOST 1048576: true; the input reads as it did. -/
def pointFromUptoRow : OpenClaim := { program := "ytailgcdcdhhpnaa", sum := "7838193a7fbba8977c83b20f050716064f2adda3146dbefe4b65a83ea6c468d4", func := "burrow/burrowlaw07.PointFrom", spec := "pointFrom", inPlace := ["math/bits.Add64"], unfollowed := true, recurses := true, apart := false, narrowed := true }
def PointFromUptoSaid : Prop := pointFromUptoRow.holds Try.pinned (OpenSpec.upto pointFromSpec)

/-- 'burrowlaw07.PointAdds', WHERE WHAT IT READS IS OF BULK AT MOST 1048576: true; the input reads as it did. -/
def pointAddsUptoRow : OpenClaim := { program := "ytailgcdcdhhpnaa", sum := "7838193a7fbba8977c83b20f050716064f2adda3146dbefe4b65a83ea6c468d4", func := "burrow/burrowlaw07.PointAdds", spec := "pointAdds", inPlace := ["math/bits.Add64"], unfollowed := true, recurses := true, apart := false, narrowed := true }
def PointAddsUptoSaid : Prop := pointAddsUptoRow.holds Try.pinned (OpenSpec.upto pointAddsSpec)

/-- 'burrowlaw07.PointTimes', WHERE WHAT IT READS IS OF BULK AT MOST 1048576: true; the input reads as it did. -/
def pointTimesUptoRow : OpenClaim := { program := "ytailgcdcdhhpnaa", sum := "7838193a7fbba8977c83b20f050716064f2adda3146dbefe4b65a83ea6c468d4", func := "burrow/burrowlaw07.PointTimes", spec := "pointTimes", inPlace := ["math/bits.Add64"], unfollowed := true, recurses := true, apart := false, narrowed := true }
def PointTimesUptoSaid : Prop := pointTimesUptoRow.holds Try.pinned (OpenSpec.upto pointTimesSpec)

/-- 'burrowlaw07.PointDoubles', WHERE WHAT IT READS IS OF BULK AT MOST 1048576: true; the input reads as it did. -/
def pointDoublesUptoRow : OpenClaim := { program := "ytailgcdcdhhpnaa", sum := "7838193a7fbba8977c83b20f050716064f2adda3146dbefe4b65a83ea6c468d4", func := "burrow/burrowlaw07.PointDoubles", spec := "pointDoubles", inPlace := ["math/bits.Add64"], unfollowed := true, recurses := true, apart := false, narrowed := true }
def PointDoublesUptoSaid : Prop := pointDoublesUptoRow.holds Try.pinned (OpenSpec.upto pointDoublesSpec)

/-- 'burrowlaw07.PointGroup', WHERE WHAT IT READS IS OF BULK AT MOST 1048576: true; the input reads as it did. -/
def pointGroupUptoRow : OpenClaim := { program := "ytailgcdcdhhpnaa", sum := "7838193a7fbba8977c83b20f050716064f2adda3146dbefe4b65a83ea6c468d4", func := "burrow/burrowlaw07.PointGroup", spec := "pointGroup", inPlace := ["math/bits.Add64", "math/bits.Sub64"], unfollowed := true, recurses := true, apart := false, narrowed := true }
def PointGroupUptoSaid : Prop := pointGroupUptoRow.holds Try.pinned (OpenSpec.upto pointGroupSpec)

end Rows
end Go.Proofs.Ytailgcdcdhhpnaa
