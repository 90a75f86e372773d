/-
  No cell of these rows narrows 'for every input' (looked for: loops, veiled, ifaces, maps, wideKeys, modest, calm, conditions, laid).
  DERIVED. THE GIVEN ROWS OF THIS SEAT. 6 by the template 'for every input the law returns true; each argument reads behind the call as it read before'; 0 by the template 'total and deterministic' (their statements: YtibfpjeeanppjaaGreatTotals.lean).
  GIVEN WITH THE SEED: the statements are not yours to turn. If you find one false, say at which input.
  Laid BY PROGRAM, IN A SANDBOX (cutbox-rows.mjs): the forced cells as the released guide's own fill.sh prints them over the translation f6481f28f259dd76… (all of the seat's roots in one cut). By AI agents, Wed Nov 11 2026. No macro, syntax, notation, axiom, sorry.
-/
import Derived.Test.YtibfpjeeanppjaaGreatChecked
import GoSem.Claim
import GoSem.ClaimJoined
import GoSem.ClaimMapViews
import Derived.JoinedTies
import Derived.KernelRfl
namespace Go.Proofs.YtibfpjeeanppjaaGreat
/- THE CELL 'sum', in the pinned program and in every row, IS THE sha256 OF THE DUMP (.gsa) THAT YtibfpjeeanppjaaGreatProg.lean LOADS. Nothing in Lean hashes anything: it is a label: what it is worth is what the hold of that sum in a sandbox is worth. -/
noncomputable def Tryz.pinned : Pinned := { name := "ytibfpjeeanppjaagreat", sum := "f6481f28f259dd7656773cea6c74873b337df9f8a5722f4c4477951e9d0478de", checked := Tryz.checked }
namespace Rows
def none {H : Type} : Left H := { results := [], args := [] }

/-- 'burrowlaw16.BoxSeals': WHATEVER THE INPUT: true; the input reads as it did. -/
def boxSealsSpec : ChangeSpec := { name := "boxSeals", fn := fun _ => fun
  | [d] => { results := [.lit (.bool true)], args := [d] }
  | _ => none }
def boxSealsRow : OpenClaim := { program := "ytibfpjeeanppjaagreat", sum := "f6481f28f259dd7656773cea6c74873b337df9f8a5722f4c4477951e9d0478de", func := "burrow/burrowlaw16.BoxSeals", spec := "boxSeals", inPlace := ["math/bits.Add64"], unfollowed := true, recurses := true, apart := false }
def BoxSealsSaid : Prop := boxSealsRow.holds Tryz.pinned (OpenSpec.ofChange boxSealsSpec)

/-- ITS FALSE NEIGHBOUR: 'it returns false'. Refute it at one input. -/
def boxSealsWrong : ChangeSpec := { name := "boxSeals", fn := fun _ => fun
  | [d] => { results := [.lit (.bool false)], args := [d] }
  | _ => none }
def BoxSealsWrongFalsely : Prop := boxSealsRow.holds Tryz.pinned (OpenSpec.ofChange boxSealsWrong)

/-- 'burrowlaw16.BoxSpoilt': WHATEVER THE INPUT: true; the input reads as it did. -/
def boxSpoiltSpec : ChangeSpec := { name := "boxSpoilt", fn := fun _ => fun
  | [d1, d2, d3] => { results := [.lit (.bool true)], args := [d1, d2, d3] }
  | _ => none }
def boxSpoiltRow : OpenClaim := { program := "ytibfpjeeanppjaagreat", sum := "f6481f28f259dd7656773cea6c74873b337df9f8a5722f4c4477951e9d0478de", func := "burrow/burrowlaw16.BoxSpoilt", spec := "boxSpoilt", inPlace := ["math/bits.Add64"], unfollowed := true, recurses := true, apart := false }
def BoxSpoiltSaid : Prop := boxSpoiltRow.holds Tryz.pinned (OpenSpec.ofChange boxSpoiltSpec)

/-- ITS FALSE NEIGHBOUR: 'it returns false'. Refute it at one input. -/
def boxSpoiltWrong : ChangeSpec := { name := "boxSpoilt", fn := fun _ => fun
  | [d1, d2, d3] => { results := [.lit (.bool false)], args := [d1, d2, d3] }
  | _ => none }
def BoxSpoiltWrongFalsely : Prop := boxSpoiltRow.holds Tryz.pinned (OpenSpec.ofChange boxSpoiltWrong)

/-- 'burrowlaw11.NoiseApart': WHATEVER THE INPUT: true; the input reads as it did. -/
def noiseApartSpec : ChangeSpec := { name := "noiseApart", fn := fun _ => fun
  | [d1, d2, d3] => { results := [.lit (.bool true)], args := [d1, d2, d3] }
  | _ => none }
def noiseApartRow : OpenClaim := { program := "ytibfpjeeanppjaagreat", sum := "f6481f28f259dd7656773cea6c74873b337df9f8a5722f4c4477951e9d0478de", func := "burrow/burrowlaw11.NoiseApart", spec := "noiseApart", inPlace := ["math/bits.Add64"], unfollowed := true, recurses := true, apart := false }
def NoiseApartSaid : Prop := noiseApartRow.holds Tryz.pinned (OpenSpec.ofChange noiseApartSpec)

/-- ITS FALSE NEIGHBOUR: 'it returns false'. Refute it at one input. -/
def noiseApartWrong : ChangeSpec := { name := "noiseApart", fn := fun _ => fun
  | [d1, d2, d3] => { results := [.lit (.bool false)], args := [d1, d2, d3] }
  | _ => none }
def NoiseApartWrongFalsely : Prop := noiseApartRow.holds Tryz.pinned (OpenSpec.ofChange noiseApartWrong)

/-- 'burrowlaw11.NoisePlays': WHATEVER THE INPUT: true; the input reads as it did. -/
def noisePlaysSpec : ChangeSpec := { name := "noisePlays", fn := fun _ => fun
  | [d1, d2] => { results := [.lit (.bool true)], args := [d1, d2] }
  | _ => none }
def noisePlaysRow : OpenClaim := { program := "ytibfpjeeanppjaagreat", sum := "f6481f28f259dd7656773cea6c74873b337df9f8a5722f4c4477951e9d0478de", func := "burrow/burrowlaw11.NoisePlays", spec := "noisePlays", inPlace := ["math/bits.Add64"], unfollowed := true, recurses := true, apart := false }
def NoisePlaysSaid : Prop := noisePlaysRow.holds Tryz.pinned (OpenSpec.ofChange noisePlaysSpec)

/-- ITS FALSE NEIGHBOUR: 'it returns false'. Refute it at one input. -/
def noisePlaysWrong : ChangeSpec := { name := "noisePlays", fn := fun _ => fun
  | [d1, d2] => { results := [.lit (.bool false)], args := [d1, d2] }
  | _ => none }
def NoisePlaysWrongFalsely : Prop := noisePlaysRow.holds Tryz.pinned (OpenSpec.ofChange noisePlaysWrong)

/-- 'burrowlaw11.NoiseShakes': WHATEVER THE INPUT: true; the input reads as it did. -/
def noiseShakesSpec : ChangeSpec := { name := "noiseShakes", fn := fun _ => fun
  | [d] => { results := [.lit (.bool true)], args := [d] }
  | _ => none }
def noiseShakesRow : OpenClaim := { program := "ytibfpjeeanppjaagreat", sum := "f6481f28f259dd7656773cea6c74873b337df9f8a5722f4c4477951e9d0478de", func := "burrow/burrowlaw11.NoiseShakes", spec := "noiseShakes", inPlace := ["math/bits.Add64"], unfollowed := true, recurses := true, apart := false }
def NoiseShakesSaid : Prop := noiseShakesRow.holds Tryz.pinned (OpenSpec.ofChange noiseShakesSpec)

/-- ITS FALSE NEIGHBOUR: 'it returns false'. Refute it at one input. -/
def noiseShakesWrong : ChangeSpec := { name := "noiseShakes", fn := fun _ => fun
  | [d] => { results := [.lit (.bool false)], args := [d] }
  | _ => none }
def NoiseShakesWrongFalsely : Prop := noiseShakesRow.holds Tryz.pinned (OpenSpec.ofChange noiseShakesWrong)

/-- 'burrowlaw11.NoiseNone': WHATEVER THE INPUT: true; the input reads as it did. -/
def noiseNoneSpec : ChangeSpec := { name := "noiseNone", fn := fun _ => fun
  | [d] => { results := [.lit (.bool true)], args := [d] }
  | _ => none }
def noiseNoneRow : OpenClaim := { program := "ytibfpjeeanppjaagreat", sum := "f6481f28f259dd7656773cea6c74873b337df9f8a5722f4c4477951e9d0478de", func := "burrow/burrowlaw11.NoiseNone", spec := "noiseNone", inPlace := ["math/bits.Add64"], unfollowed := true, recurses := true, apart := false }
def NoiseNoneSaid : Prop := noiseNoneRow.holds Tryz.pinned (OpenSpec.ofChange noiseNoneSpec)

/-- ITS FALSE NEIGHBOUR: 'it returns false'. Refute it at one input. -/
def noiseNoneWrong : ChangeSpec := { name := "noiseNone", fn := fun _ => fun
  | [d] => { results := [.lit (.bool false)], args := [d] }
  | _ => none }
def NoiseNoneWrongFalsely : Prop := noiseNoneRow.holds Tryz.pinned (OpenSpec.ofChange noiseNoneWrong)

/- THE SECOND FORM. 'bulk': how many values and letters a reading holds, each counted each time it is reached (what is shared counts as often as it is met; a slice's spare places count too). A statement '..UptoSaid' is the law's where the arguments, and the package variables that the reading takes, are together of bulk at most 1048576: NARROWER than '..Said'. Prove '..Said' where nothing that the law and all that it calls make is longer than what came in: it says more and counts as full. Else prove '..UptoSaid'. A law counts once. -/
mutual
def uptoBulk {H : Type} : DataW H → Nat
  | .lit (.string bytes) => bytes.length + 1
  | .lit _ => 1
  | .nil => 1
  | .ptr d => uptoBulk d + 1
  | .slice elems spare => uptoBulkAll elems + uptoBulkAll spare + 1
  | .agg parts => uptoBulkAll parts + 1
  | .iface _ d => uptoBulk d + 1
  | .map entries => uptoBulkEntries entries + 1
  | .held _ => 1
def uptoBulkAll {H : Type} : List (DataW H) → Nat
  | [] => 0
  | d :: r => uptoBulk d + uptoBulkAll r
def uptoBulkEntries {H : Type} : List (Lit × DataW H) → Nat
  | [] => 0
  | x :: r => uptoBulkEntry x + uptoBulkEntries r
def uptoBulkEntry {H : Type} : Lit × DataW H → Nat
  | (.string bytes, d) => bytes.length + uptoBulk d + 1
  | (_, d) => uptoBulk d + 1
 end
def uptoSmall : (H : Type) → List (DataW H) → Bool := fun _ ds => decide (uptoBulkAll ds ≤ 1048576)
def OpenSpec.upto (s : _root_.Go.ChangeSpec) : _root_.Go.OpenSpec := { _root_.Go.OpenSpec.ofChange s with cond := some uptoSmall }

/-- 'burrowlaw16.BoxSeals', WHERE WHAT IT READS IS OF BULK AT MOST 1048576: true; the input reads as it did. -/
def boxSealsUptoRow : OpenClaim := { program := "ytibfpjeeanppjaagreat", sum := "f6481f28f259dd7656773cea6c74873b337df9f8a5722f4c4477951e9d0478de", func := "burrow/burrowlaw16.BoxSeals", spec := "boxSeals", inPlace := ["math/bits.Add64"], unfollowed := true, recurses := true, apart := false, narrowed := true }
def BoxSealsUptoSaid : Prop := boxSealsUptoRow.holds Tryz.pinned (OpenSpec.upto boxSealsSpec)

/-- 'burrowlaw16.BoxSpoilt', WHERE WHAT IT READS IS OF BULK AT MOST 1048576: true; the input reads as it did. -/
def boxSpoiltUptoRow : OpenClaim := { program := "ytibfpjeeanppjaagreat", sum := "f6481f28f259dd7656773cea6c74873b337df9f8a5722f4c4477951e9d0478de", func := "burrow/burrowlaw16.BoxSpoilt", spec := "boxSpoilt", inPlace := ["math/bits.Add64"], unfollowed := true, recurses := true, apart := false, narrowed := true }
def BoxSpoiltUptoSaid : Prop := boxSpoiltUptoRow.holds Tryz.pinned (OpenSpec.upto boxSpoiltSpec)

/-- 'burrowlaw11.NoiseApart', WHERE WHAT IT READS IS OF BULK AT MOST 1048576: true; the input reads as it did. -/
def noiseApartUptoRow : OpenClaim := { program := "ytibfpjeeanppjaagreat", sum := "f6481f28f259dd7656773cea6c74873b337df9f8a5722f4c4477951e9d0478de", func := "burrow/burrowlaw11.NoiseApart", spec := "noiseApart", inPlace := ["math/bits.Add64"], unfollowed := true, recurses := true, apart := false, narrowed := true }
def NoiseApartUptoSaid : Prop := noiseApartUptoRow.holds Tryz.pinned (OpenSpec.upto noiseApartSpec)

/-- 'burrowlaw11.NoisePlays', WHERE WHAT IT READS IS OF BULK AT MOST 1048576: true; the input reads as it did. -/
def noisePlaysUptoRow : OpenClaim := { program := "ytibfpjeeanppjaagreat", sum := "f6481f28f259dd7656773cea6c74873b337df9f8a5722f4c4477951e9d0478de", func := "burrow/burrowlaw11.NoisePlays", spec := "noisePlays", inPlace := ["math/bits.Add64"], unfollowed := true, recurses := true, apart := false, narrowed := true }
def NoisePlaysUptoSaid : Prop := noisePlaysUptoRow.holds Tryz.pinned (OpenSpec.upto noisePlaysSpec)

/-- 'burrowlaw11.NoiseShakes', WHERE WHAT IT READS IS OF BULK AT MOST 1048576: true; the input reads as it did. -/
def noiseShakesUptoRow : OpenClaim := { program := "ytibfpjeeanppjaagreat", sum := "f6481f28f259dd7656773cea6c74873b337df9f8a5722f4c4477951e9d0478de", func := "burrow/burrowlaw11.NoiseShakes", spec := "noiseShakes", inPlace := ["math/bits.Add64"], unfollowed := true, recurses := true, apart := false, narrowed := true }
def NoiseShakesUptoSaid : Prop := noiseShakesUptoRow.holds Tryz.pinned (OpenSpec.upto noiseShakesSpec)

/-- 'burrowlaw11.NoiseNone', WHERE WHAT IT READS IS OF BULK AT MOST 1048576: true; the input reads as it did. -/
def noiseNoneUptoRow : OpenClaim := { program := "ytibfpjeeanppjaagreat", sum := "f6481f28f259dd7656773cea6c74873b337df9f8a5722f4c4477951e9d0478de", func := "burrow/burrowlaw11.NoiseNone", spec := "noiseNone", inPlace := ["math/bits.Add64"], unfollowed := true, recurses := true, apart := false, narrowed := true }
def NoiseNoneUptoSaid : Prop := noiseNoneUptoRow.holds Tryz.pinned (OpenSpec.upto noiseNoneSpec)

end Rows
end Go.Proofs.YtibfpjeeanppjaaGreat
