/-
  No cell of these rows narrows 'for every input' (looked for: loops, veiled, ifaces, maps, wideKeys, modest, calm, conditions, laid).
  DERIVED. THE GIVEN ROWS OF THIS SEAT. 8 by the template 'for every input the law returns true; each argument reads behind the call as it read before'; 0 by the template 'total and deterministic' (their statements: YtkoohnpknhoahaaTotals.lean).
  GIVEN WITH THE SEED: the statements are not yours to turn. If you find one false, say at which input.
  Laid BY PROGRAM, IN A SANDBOX (cutbox-rows.mjs): the forced cells as the released guide's own fill.sh prints them over the translation c87acb95f485088c… (all of the seat's roots in one cut). By AI agents, Wed Nov 11 2026. No macro, syntax, notation, axiom, sorry.
-/
import Derived.Test.YtkoohnpknhoahaaChecked
import GoSem.Claim
import GoSem.ClaimJoined
import GoSem.ClaimMapViews
import Derived.JoinedTies
import Derived.KernelRfl
namespace Go.Proofs.Ytkoohnpknhoahaa
/- THE CELL 'sum', in the pinned program and in every row, IS THE sha256 OF THE DUMP (.gsa) THAT YtkoohnpknhoahaaProg.lean LOADS. Nothing in Lean hashes anything: it is a label: what it is worth is what the hold of that sum in a sandbox is worth. -/
noncomputable def Try.pinned : Pinned := { name := "ytkoohnpknhoahaa", sum := "c87acb95f485088c2c0f168a93ba9f638013899be7cd24f0f3e08d9f97b2f249", checked := Try.checked }
namespace Rows
def none {H : Type} : Left H := { results := [], args := [] }

/-- 'burrowlaw08.SignPublic': WHATEVER THE INPUT: true; the input reads as it did. -/
def signPublicSpec : ChangeSpec := { name := "signPublic", fn := fun _ => fun
  | [d] => { results := [.lit (.bool true)], args := [d] }
  | _ => none }
def signPublicRow : OpenClaim := { program := "ytkoohnpknhoahaa", sum := "c87acb95f485088c2c0f168a93ba9f638013899be7cd24f0f3e08d9f97b2f249", func := "burrow/burrowlaw08.SignPublic", spec := "signPublic", inPlace := ["math/bits.Add64", "math/bits.Sub64"], unfollowed := true, recurses := true, apart := false }
def SignPublicSaid : Prop := signPublicRow.holds Try.pinned (OpenSpec.ofChange signPublicSpec)

/-- ITS FALSE NEIGHBOUR: 'it returns false'. Refute it at one input. -/
def signPublicWrong : ChangeSpec := { name := "signPublic", fn := fun _ => fun
  | [d] => { results := [.lit (.bool false)], args := [d] }
  | _ => none }
def SignPublicWrongFalsely : Prop := signPublicRow.holds Try.pinned (OpenSpec.ofChange signPublicWrong)

/-- 'burrowlaw08.SignVerifies': WHATEVER THE INPUT: true; the input reads as it did. -/
def signVerifiesSpec : ChangeSpec := { name := "signVerifies", fn := fun _ => fun
  | [d] => { results := [.lit (.bool true)], args := [d] }
  | _ => none }
def signVerifiesRow : OpenClaim := { program := "ytkoohnpknhoahaa", sum := "c87acb95f485088c2c0f168a93ba9f638013899be7cd24f0f3e08d9f97b2f249", func := "burrow/burrowlaw08.SignVerifies", spec := "signVerifies", inPlace := ["math/bits.Add64", "math/bits.Sub64"], unfollowed := true, recurses := true, apart := false }
def SignVerifiesSaid : Prop := signVerifiesRow.holds Try.pinned (OpenSpec.ofChange signVerifiesSpec)

/-- ITS FALSE NEIGHBOUR: 'it returns false'. Refute it at one input. -/
def signVerifiesWrong : ChangeSpec := { name := "signVerifies", fn := fun _ => fun
  | [d] => { results := [.lit (.bool false)], args := [d] }
  | _ => none }
def SignVerifiesWrongFalsely : Prop := signVerifiesRow.holds Try.pinned (OpenSpec.ofChange signVerifiesWrong)

/-- 'burrowlaw08.SignBack': WHATEVER THE INPUT: true; the input reads as it did. -/
def signBackSpec : ChangeSpec := { name := "signBack", fn := fun _ => fun
  | [d1, d2, d3] => { results := [.lit (.bool true)], args := [d1, d2, d3] }
  | _ => none }
def signBackRow : OpenClaim := { program := "ytkoohnpknhoahaa", sum := "c87acb95f485088c2c0f168a93ba9f638013899be7cd24f0f3e08d9f97b2f249", func := "burrow/burrowlaw08.SignBack", spec := "signBack", inPlace := ["math/bits.Add64", "math/bits.Sub64"], unfollowed := true, recurses := true, apart := false }
def SignBackSaid : Prop := signBackRow.holds Try.pinned (OpenSpec.ofChange signBackSpec)

/-- ITS FALSE NEIGHBOUR: 'it returns false'. Refute it at one input. -/
def signBackWrong : ChangeSpec := { name := "signBack", fn := fun _ => fun
  | [d1, d2, d3] => { results := [.lit (.bool false)], args := [d1, d2, d3] }
  | _ => none }
def SignBackWrongFalsely : Prop := signBackRow.holds Try.pinned (OpenSpec.ofChange signBackWrong)

/-- 'burrowlaw08.SignOnce': WHATEVER THE INPUT: true; the input reads as it did. -/
def signOnceSpec : ChangeSpec := { name := "signOnce", fn := fun _ => fun
  | [d1, d2] => { results := [.lit (.bool true)], args := [d1, d2] }
  | _ => none }
def signOnceRow : OpenClaim := { program := "ytkoohnpknhoahaa", sum := "c87acb95f485088c2c0f168a93ba9f638013899be7cd24f0f3e08d9f97b2f249", func := "burrow/burrowlaw08.SignOnce", spec := "signOnce", inPlace := ["math/bits.Add64", "math/bits.Sub64"], unfollowed := true, recurses := true, apart := false }
def SignOnceSaid : Prop := signOnceRow.holds Try.pinned (OpenSpec.ofChange signOnceSpec)

/-- ITS FALSE NEIGHBOUR: 'it returns false'. Refute it at one input. -/
def signOnceWrong : ChangeSpec := { name := "signOnce", fn := fun _ => fun
  | [d1, d2] => { results := [.lit (.bool false)], args := [d1, d2] }
  | _ => none }
def SignOnceWrongFalsely : Prop := signOnceRow.holds Try.pinned (OpenSpec.ofChange signOnceWrong)

/-- 'burrowlaw08.SignOther': WHATEVER THE INPUT: true; the input reads as it did. -/
def signOtherSpec : ChangeSpec := { name := "signOther", fn := fun _ => fun
  | [d1, d2, d3] => { results := [.lit (.bool true)], args := [d1, d2, d3] }
  | _ => none }
def signOtherRow : OpenClaim := { program := "ytkoohnpknhoahaa", sum := "c87acb95f485088c2c0f168a93ba9f638013899be7cd24f0f3e08d9f97b2f249", func := "burrow/burrowlaw08.SignOther", spec := "signOther", inPlace := ["math/bits.Add64", "math/bits.Sub64"], unfollowed := true, recurses := true, apart := false }
def SignOtherSaid : Prop := signOtherRow.holds Try.pinned (OpenSpec.ofChange signOtherSpec)

/-- ITS FALSE NEIGHBOUR: 'it returns false'. Refute it at one input. -/
def signOtherWrong : ChangeSpec := { name := "signOther", fn := fun _ => fun
  | [d1, d2, d3] => { results := [.lit (.bool false)], args := [d1, d2, d3] }
  | _ => none }
def SignOtherWrongFalsely : Prop := signOtherRow.holds Try.pinned (OpenSpec.ofChange signOtherWrong)

/-- 'burrowlaw10.CipherHides': WHATEVER THE INPUT: true; the input reads as it did. -/
def cipherHidesSpec : ChangeSpec := { name := "cipherHides", fn := fun _ => fun
  | [d1, d2, d3] => { results := [.lit (.bool true)], args := [d1, d2, d3] }
  | _ => none }
def cipherHidesRow : OpenClaim := { program := "ytkoohnpknhoahaa", sum := "c87acb95f485088c2c0f168a93ba9f638013899be7cd24f0f3e08d9f97b2f249", func := "burrow/burrowlaw10.CipherHides", spec := "cipherHides", inPlace := ["math/bits.Add64"], unfollowed := true, recurses := true, apart := false }
def CipherHidesSaid : Prop := cipherHidesRow.holds Try.pinned (OpenSpec.ofChange cipherHidesSpec)

/-- ITS FALSE NEIGHBOUR: 'it returns false'. Refute it at one input. -/
def cipherHidesWrong : ChangeSpec := { name := "cipherHides", fn := fun _ => fun
  | [d1, d2, d3] => { results := [.lit (.bool false)], args := [d1, d2, d3] }
  | _ => none }
def CipherHidesWrongFalsely : Prop := cipherHidesRow.holds Try.pinned (OpenSpec.ofChange cipherHidesWrong)

/-- 'burrowlaw10.CipherBoth': WHATEVER THE INPUT: true; the input reads as it did. -/
def cipherBothSpec : ChangeSpec := { name := "cipherBoth", fn := fun _ => fun
  | [d1, d2] => { results := [.lit (.bool true)], args := [d1, d2] }
  | _ => none }
def cipherBothRow : OpenClaim := { program := "ytkoohnpknhoahaa", sum := "c87acb95f485088c2c0f168a93ba9f638013899be7cd24f0f3e08d9f97b2f249", func := "burrow/burrowlaw10.CipherBoth", spec := "cipherBoth", inPlace := ["math/bits.Add64"], unfollowed := true, recurses := true, apart := false }
def CipherBothSaid : Prop := cipherBothRow.holds Try.pinned (OpenSpec.ofChange cipherBothSpec)

/-- ITS FALSE NEIGHBOUR: 'it returns false'. Refute it at one input. -/
def cipherBothWrong : ChangeSpec := { name := "cipherBoth", fn := fun _ => fun
  | [d1, d2] => { results := [.lit (.bool false)], args := [d1, d2] }
  | _ => none }
def CipherBothWrongFalsely : Prop := cipherBothRow.holds Try.pinned (OpenSpec.ofChange cipherBothWrong)

/-- 'burrowlaw10.CipherNone': WHATEVER THE INPUT: true; the input reads as it did. -/
def cipherNoneSpec : ChangeSpec := { name := "cipherNone", fn := fun _ => fun
  | [d1, d2] => { results := [.lit (.bool true)], args := [d1, d2] }
  | _ => none }
def cipherNoneRow : OpenClaim := { program := "ytkoohnpknhoahaa", sum := "c87acb95f485088c2c0f168a93ba9f638013899be7cd24f0f3e08d9f97b2f249", func := "burrow/burrowlaw10.CipherNone", spec := "cipherNone", inPlace := ["math/bits.Add64"], unfollowed := true, recurses := true, apart := false }
def CipherNoneSaid : Prop := cipherNoneRow.holds Try.pinned (OpenSpec.ofChange cipherNoneSpec)

/-- ITS FALSE NEIGHBOUR: 'it returns false'. Refute it at one input. -/
def cipherNoneWrong : ChangeSpec := { name := "cipherNone", fn := fun _ => fun
  | [d1, d2] => { results := [.lit (.bool false)], args := [d1, d2] }
  | _ => none }
def CipherNoneWrongFalsely : Prop := cipherNoneRow.holds Try.pinned (OpenSpec.ofChange cipherNoneWrong)

/- THE SECOND FORM. 'bulk': how many values and letters a reading holds, each counted each time it is reached (what is shared counts as often as it is met; a slice's spare places count too). A statement '..UptoSaid' is the law's where the arguments, and the package variables that the reading takes, are together of bulk at most 1048576: NARROWER than '..Said'. Prove '..Said' where nothing that the law and all that it calls make is longer than what came in: it says more and counts as full. Else prove '..UptoSaid'. A law counts once. -/
mutual
def uptoBulk {H : Type} : DataW H → Nat
  | .lit (.string bytes) => bytes.length + 1
  | .lit _ => 1
  | .nil => 1
  | .ptr d => uptoBulk d + 1
  | .slice elems spare => uptoBulkAll elems + uptoBulkAll spare + 1
  | .agg parts => uptoBulkAll parts + 1
  | .iface _ d => uptoBulk d + 1
  | .map entries => uptoBulkEntries entries + 1
  | .held _ => 1
def uptoBulkAll {H : Type} : List (DataW H) → Nat
  | [] => 0
  | d :: r => uptoBulk d + uptoBulkAll r
def uptoBulkEntries {H : Type} : List (Lit × DataW H) → Nat
  | [] => 0
  | x :: r => uptoBulkEntry x + uptoBulkEntries r
def uptoBulkEntry {H : Type} : Lit × DataW H → Nat
  | (.string bytes, d) => bytes.length + uptoBulk d + 1
  | (_, d) => uptoBulk d + 1
 end
def uptoSmall : (H : Type) → List (DataW H) → Bool := fun _ ds => decide (uptoBulkAll ds ≤ 1048576)
def OpenSpec.upto (s : _root_.Go.ChangeSpec) : _root_.Go.OpenSpec := { _root_.Go.OpenSpec.ofChange s with cond := some uptoSmall }

/-- 'burrowlaw08.SignPublic', WHERE WHAT IT READS IS OF BULK AT MOST 1048576: true; the input reads as it did. -/
def signPublicUptoRow : OpenClaim := { program := "ytkoohnpknhoahaa", sum := "c87acb95f485088c2c0f168a93ba9f638013899be7cd24f0f3e08d9f97b2f249", func := "burrow/burrowlaw08.SignPublic", spec := "signPublic", inPlace := ["math/bits.Add64", "math/bits.Sub64"], unfollowed := true, recurses := true, apart := false, narrowed := true }
def SignPublicUptoSaid : Prop := signPublicUptoRow.holds Try.pinned (OpenSpec.upto signPublicSpec)

/-- 'burrowlaw08.SignVerifies', WHERE WHAT IT READS IS OF BULK AT MOST 1048576: true; the input reads as it did. -/
def signVerifiesUptoRow : OpenClaim := { program := "ytkoohnpknhoahaa", sum := "c87acb95f485088c2c0f168a93ba9f638013899be7cd24f0f3e08d9f97b2f249", func := "burrow/burrowlaw08.SignVerifies", spec := "signVerifies", inPlace := ["math/bits.Add64", "math/bits.Sub64"], unfollowed := true, recurses := true, apart := false, narrowed := true }
def SignVerifiesUptoSaid : Prop := signVerifiesUptoRow.holds Try.pinned (OpenSpec.upto signVerifiesSpec)

/-- 'burrowlaw08.SignBack', WHERE WHAT IT READS IS OF BULK AT MOST 1048576: true; the input reads as it did. -/
def signBackUptoRow : OpenClaim := { program := "ytkoohnpknhoahaa", sum := "c87acb95f485088c2c0f168a93ba9f638013899be7cd24f0f3e08d9f97b2f249", func := "burrow/burrowlaw08.SignBack", spec := "signBack", inPlace := ["math/bits.Add64", "math/bits.Sub64"], unfollowed := true, recurses := true, apart := false, narrowed := true }
def SignBackUptoSaid : Prop := signBackUptoRow.holds Try.pinned (OpenSpec.upto signBackSpec)

/-- 'burrowlaw08.SignOnce', WHERE WHAT IT READS IS OF BULK AT MOST 1048576: true; the input reads as it did. -/
def signOnceUptoRow : OpenClaim := { program := "ytkoohnpknhoahaa", sum := "c87acb95f485088c2c0f168a93ba9f638013899be7cd24f0f3e08d9f97b2f249", func := "burrow/burrowlaw08.SignOnce", spec := "signOnce", inPlace := ["math/bits.Add64", "math/bits.Sub64"], unfollowed := true, recurses := true, apart := false, narrowed := true }
def SignOnceUptoSaid : Prop := signOnceUptoRow.holds Try.pinned (OpenSpec.upto signOnceSpec)

/-- 'burrowlaw08.SignOther', WHERE WHAT IT READS IS OF BULK AT MOST 1048576: true; the input reads as it did. -/
def signOtherUptoRow : OpenClaim := { program := "ytkoohnpknhoahaa", sum := "c87acb95f485088c2c0f168a93ba9f638013899be7cd24f0f3e08d9f97b2f249", func := "burrow/burrowlaw08.SignOther", spec := "signOther", inPlace := ["math/bits.Add64", "math/bits.Sub64"], unfollowed := true, recurses := true, apart := false, narrowed := true }
def SignOtherUptoSaid : Prop := signOtherUptoRow.holds Try.pinned (OpenSpec.upto signOtherSpec)

/-- 'burrowlaw10.CipherHides', WHERE WHAT IT READS IS OF BULK AT MOST 1048576: true; the input reads as it did. -/
def cipherHidesUptoRow : OpenClaim := { program := "ytkoohnpknhoahaa", sum := "c87acb95f485088c2c0f168a93ba9f638013899be7cd24f0f3e08d9f97b2f249", func := "burrow/burrowlaw10.CipherHides", spec := "cipherHides", inPlace := ["math/bits.Add64"], unfollowed := true, recurses := true, apart := false, narrowed := true }
def CipherHidesUptoSaid : Prop := cipherHidesUptoRow.holds Try.pinned (OpenSpec.upto cipherHidesSpec)

/-- 'burrowlaw10.CipherBoth', WHERE WHAT IT READS IS OF BULK AT MOST 1048576: true; the input reads as it did. -/
def cipherBothUptoRow : OpenClaim := { program := "ytkoohnpknhoahaa", sum := "c87acb95f485088c2c0f168a93ba9f638013899be7cd24f0f3e08d9f97b2f249", func := "burrow/burrowlaw10.CipherBoth", spec := "cipherBoth", inPlace := ["math/bits.Add64"], unfollowed := true, recurses := true, apart := false, narrowed := true }
def CipherBothUptoSaid : Prop := cipherBothUptoRow.holds Try.pinned (OpenSpec.upto cipherBothSpec)

/-- 'burrowlaw10.CipherNone', WHERE WHAT IT READS IS OF BULK AT MOST 1048576: true; the input reads as it did. -/
def cipherNoneUptoRow : OpenClaim := { program := "ytkoohnpknhoahaa", sum := "c87acb95f485088c2c0f168a93ba9f638013899be7cd24f0f3e08d9f97b2f249", func := "burrow/burrowlaw10.CipherNone", spec := "cipherNone", inPlace := ["math/bits.Add64"], unfollowed := true, recurses := true, apart := false, narrowed := true }
def CipherNoneUptoSaid : Prop := cipherNoneUptoRow.holds Try.pinned (OpenSpec.upto cipherNoneSpec)

end Rows
end Go.Proofs.Ytkoohnpknhoahaa
