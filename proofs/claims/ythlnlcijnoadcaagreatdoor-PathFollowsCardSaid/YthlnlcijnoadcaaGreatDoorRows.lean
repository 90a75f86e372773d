/-
  NARROWER THAN 'FOR EVERY INPUT', by the rows' own cells (each row's printed sentence says how): PathPuts: laid · PathFollows: laid · PathPlans: laid · MarkDigests: laid · MarkBound: laid · MarkUnlike: laid · MarkMarks: laid · MarkKeeps: laid · PathMakes: laid · PathShares: laid.
  DERIVED. THE GIVEN ROWS OF THIS SEAT. 10 by the template 'for every input the law returns true; each argument reads behind the call as it read before'; 0 by the template 'total and deterministic' (their statements: YthlnlcijnoadcaaGreatDoorTotals.lean).
  GIVEN WITH THE SEED: the statements are not yours to turn. If you find one false, say at which input.
  Laid BY PROGRAM, IN A SANDBOX (cutbox-rows.mjs): the forced cells as the released guide's own fill.sh prints them over the translation 78a3f4fcfcddd5af… (all of the seat's roots in one cut). By AI agents, Wed Nov 11 2026. No macro, syntax, notation, axiom, sorry.
-/
import Derived.Test.YthlnlcijnoadcaaGreatDoorChecked
import GoSem.Claim
import GoSem.ClaimJoined
import GoSem.ClaimMapViews
import Derived.JoinedTies
import Derived.KernelRfl
namespace Go.Proofs.YthlnlcijnoadcaaGreatDoor
/- THE CELL 'sum', in the pinned program and in every row, IS THE sha256 OF THE DUMP (.gsa) THAT YthlnlcijnoadcaaGreatDoorProg.lean LOADS. Nothing in Lean hashes anything: it is a label: what it is worth is what the hold of that sum in a sandbox is worth. -/
noncomputable def Tryz.pinned : Pinned := { name := "ythlnlcijnoadcaagreatdoor", sum := "78a3f4fcfcddd5af71b56d6af852a929aef466dd177518e389a36423d9b9fecd", checked := Tryz.checked }
namespace Rows
def none {H : Type} : Left H := { results := [], args := [] }

/- WHAT THE LISTED PACKAGE-LEVEL VARIABLES READ AS WHEN THE CALL BEGINS. Each datum BY PROGRAM (the guide's laid-datum.mjs) off the statement by which the dump's own 'gosem.cut.vars' lays the variable. In a bare row this is a premise. The card (YthlnlcijnoadcaaGreatDoorCards.lean) ties it to the program's text. -/
def laid_math_bits_deBruijn32tab {H : Type} : DataW H := .agg [.lit (.int .u8 0), .lit (.int .u8 1), .lit (.int .u8 28), .lit (.int .u8 2), .lit (.int .u8 29), .lit (.int .u8 14), .lit (.int .u8 24), .lit (.int .u8 3), .lit (.int .u8 30), .lit (.int .u8 22), .lit (.int .u8 20), .lit (.int .u8 15), .lit (.int .u8 25), .lit (.int .u8 17), .lit (.int .u8 4), .lit (.int .u8 8), .lit (.int .u8 31), .lit (.int .u8 27), .lit (.int .u8 13), .lit (.int .u8 23), .lit (.int .u8 21), .lit (.int .u8 19), .lit (.int .u8 16), .lit (.int .u8 7), .lit (.int .u8 26), .lit (.int .u8 12), .lit (.int .u8 18), .lit (.int .u8 6), .lit (.int .u8 11), .lit (.int .u8 5), .lit (.int .u8 10), .lit (.int .u8 9)]
def laid_math_bits_deBruijn64tab {H : Type} : DataW H := .agg [.lit (.int .u8 0), .lit (.int .u8 1), .lit (.int .u8 56), .lit (.int .u8 2), .lit (.int .u8 57), .lit (.int .u8 49), .lit (.int .u8 28), .lit (.int .u8 3), .lit (.int .u8 61), .lit (.int .u8 58), .lit (.int .u8 42), .lit (.int .u8 50), .lit (.int .u8 38), .lit (.int .u8 29), .lit (.int .u8 17), .lit (.int .u8 4), .lit (.int .u8 62), .lit (.int .u8 47), .lit (.int .u8 59), .lit (.int .u8 36), .lit (.int .u8 45), .lit (.int .u8 43), .lit (.int .u8 51), .lit (.int .u8 22), .lit (.int .u8 53), .lit (.int .u8 39), .lit (.int .u8 33), .lit (.int .u8 30), .lit (.int .u8 24), .lit (.int .u8 18), .lit (.int .u8 12), .lit (.int .u8 5), .lit (.int .u8 63), .lit (.int .u8 55), .lit (.int .u8 48), .lit (.int .u8 27), .lit (.int .u8 60), .lit (.int .u8 41), .lit (.int .u8 37), .lit (.int .u8 16), .lit (.int .u8 46), .lit (.int .u8 35), .lit (.int .u8 44), .lit (.int .u8 21), .lit (.int .u8 52), .lit (.int .u8 32), .lit (.int .u8 23), .lit (.int .u8 11), .lit (.int .u8 54), .lit (.int .u8 26), .lit (.int .u8 40), .lit (.int .u8 15), .lit (.int .u8 34), .lit (.int .u8 20), .lit (.int .u8 31), .lit (.int .u8 10), .lit (.int .u8 25), .lit (.int .u8 14), .lit (.int .u8 19), .lit (.int .u8 9), .lit (.int .u8 13), .lit (.int .u8 8), .lit (.int .u8 7), .lit (.int .u8 6)]

/-- 'burrowlaw17.PathPuts': WHATEVER THE INPUT: true; the input reads as it did. -/
def pathPutsSpec : ChangeSpec := { name := "pathPuts", fn := fun _ => fun
  | [d1, d2, d3] => { results := [.lit (.bool true)], args := [d1, d2, d3] }
  | _ => none }
def pathPutsRow : OpenClaim := { program := "ythlnlcijnoadcaagreatdoor", sum := "78a3f4fcfcddd5af71b56d6af852a929aef466dd177518e389a36423d9b9fecd", func := "burrow/burrowlaw17.PathPuts", spec := "pathPuts", unfollowed := true, recurses := true, named := ["math/bits.deBruijn32tab", "math/bits.deBruijn64tab"], plainKeys := false, apart := false, laid := [("math/bits.deBruijn32tab", laid_math_bits_deBruijn32tab), ("math/bits.deBruijn64tab", laid_math_bits_deBruijn64tab)] }
def PathPutsSaid : Prop := pathPutsRow.holds Tryz.pinned (OpenSpec.ofChange pathPutsSpec)

/-- ITS FALSE NEIGHBOUR: 'it returns false'. Refute it at one input. -/
def pathPutsWrong : ChangeSpec := { name := "pathPuts", fn := fun _ => fun
  | [d1, d2, d3] => { results := [.lit (.bool false)], args := [d1, d2, d3] }
  | _ => none }
def PathPutsWrongFalsely : Prop := pathPutsRow.holds Tryz.pinned (OpenSpec.ofChange pathPutsWrong)

/-- 'burrowlaw17.PathFollows': WHATEVER THE INPUT: true; the input reads as it did. -/
def pathFollowsSpec : ChangeSpec := { name := "pathFollows", fn := fun _ => fun
  | [d] => { results := [.lit (.bool true)], args := [d] }
  | _ => none }
def pathFollowsRow : OpenClaim := { program := "ythlnlcijnoadcaagreatdoor", sum := "78a3f4fcfcddd5af71b56d6af852a929aef466dd177518e389a36423d9b9fecd", func := "burrow/burrowlaw17.PathFollows", spec := "pathFollows", inPlace := ["math/bits.Add64"], unfollowed := true, recurses := true, named := ["math/bits.deBruijn32tab", "math/bits.deBruijn64tab"], plainKeys := false, apart := false, laid := [("math/bits.deBruijn32tab", laid_math_bits_deBruijn32tab), ("math/bits.deBruijn64tab", laid_math_bits_deBruijn64tab)] }
def PathFollowsSaid : Prop := pathFollowsRow.holds Tryz.pinned (OpenSpec.ofChange pathFollowsSpec)

/-- ITS FALSE NEIGHBOUR: 'it returns false'. Refute it at one input. -/
def pathFollowsWrong : ChangeSpec := { name := "pathFollows", fn := fun _ => fun
  | [d] => { results := [.lit (.bool false)], args := [d] }
  | _ => none }
def PathFollowsWrongFalsely : Prop := pathFollowsRow.holds Tryz.pinned (OpenSpec.ofChange pathFollowsWrong)

/-- 'burrowlaw17.PathPlans': WHATEVER THE INPUT: true; the input reads as it did. -/
def pathPlansSpec : ChangeSpec := { name := "pathPlans", fn := fun _ => fun
  | [d] => { results := [.lit (.bool true)], args := [d] }
  | _ => none }
def pathPlansRow : OpenClaim := { program := "ythlnlcijnoadcaagreatdoor", sum := "78a3f4fcfcddd5af71b56d6af852a929aef466dd177518e389a36423d9b9fecd", func := "burrow/burrowlaw17.PathPlans", spec := "pathPlans", inPlace := ["math/bits.Add64"], unfollowed := true, recurses := true, named := ["math/bits.deBruijn32tab", "math/bits.deBruijn64tab"], plainKeys := false, apart := false, laid := [("math/bits.deBruijn32tab", laid_math_bits_deBruijn32tab), ("math/bits.deBruijn64tab", laid_math_bits_deBruijn64tab)] }
def PathPlansSaid : Prop := pathPlansRow.holds Tryz.pinned (OpenSpec.ofChange pathPlansSpec)

/-- ITS FALSE NEIGHBOUR: 'it returns false'. Refute it at one input. -/
def pathPlansWrong : ChangeSpec := { name := "pathPlans", fn := fun _ => fun
  | [d] => { results := [.lit (.bool false)], args := [d] }
  | _ => none }
def PathPlansWrongFalsely : Prop := pathPlansRow.holds Tryz.pinned (OpenSpec.ofChange pathPlansWrong)

/-- 'burrowlaw15.MarkDigests': WHATEVER THE INPUT: true; the input reads as it did. -/
def markDigestsSpec : ChangeSpec := { name := "markDigests", fn := fun _ => fun
  | [d1, d2, d3] => { results := [.lit (.bool true)], args := [d1, d2, d3] }
  | _ => none }
def markDigestsRow : OpenClaim := { program := "ythlnlcijnoadcaagreatdoor", sum := "78a3f4fcfcddd5af71b56d6af852a929aef466dd177518e389a36423d9b9fecd", func := "burrow/burrowlaw15.MarkDigests", spec := "markDigests", unfollowed := true, recurses := true, named := ["math/bits.deBruijn32tab", "math/bits.deBruijn64tab"], plainKeys := false, apart := false, laid := [("math/bits.deBruijn32tab", laid_math_bits_deBruijn32tab), ("math/bits.deBruijn64tab", laid_math_bits_deBruijn64tab)] }
def MarkDigestsSaid : Prop := markDigestsRow.holds Tryz.pinned (OpenSpec.ofChange markDigestsSpec)

/-- ITS FALSE NEIGHBOUR: 'it returns false'. Refute it at one input. -/
def markDigestsWrong : ChangeSpec := { name := "markDigests", fn := fun _ => fun
  | [d1, d2, d3] => { results := [.lit (.bool false)], args := [d1, d2, d3] }
  | _ => none }
def MarkDigestsWrongFalsely : Prop := markDigestsRow.holds Tryz.pinned (OpenSpec.ofChange markDigestsWrong)

/-- 'burrowlaw15.MarkBound': WHATEVER THE INPUT: true; the input reads as it did. -/
def markBoundSpec : ChangeSpec := { name := "markBound", fn := fun _ => fun
  | [d] => { results := [.lit (.bool true)], args := [d] }
  | _ => none }
def markBoundRow : OpenClaim := { program := "ythlnlcijnoadcaagreatdoor", sum := "78a3f4fcfcddd5af71b56d6af852a929aef466dd177518e389a36423d9b9fecd", func := "burrow/burrowlaw15.MarkBound", spec := "markBound", unfollowed := true, recurses := true, named := ["math/bits.deBruijn32tab", "math/bits.deBruijn64tab"], plainKeys := false, apart := false, laid := [("math/bits.deBruijn32tab", laid_math_bits_deBruijn32tab), ("math/bits.deBruijn64tab", laid_math_bits_deBruijn64tab)] }
def MarkBoundSaid : Prop := markBoundRow.holds Tryz.pinned (OpenSpec.ofChange markBoundSpec)

/-- ITS FALSE NEIGHBOUR: 'it returns false'. Refute it at one input. -/
def markBoundWrong : ChangeSpec := { name := "markBound", fn := fun _ => fun
  | [d] => { results := [.lit (.bool false)], args := [d] }
  | _ => none }
def MarkBoundWrongFalsely : Prop := markBoundRow.holds Tryz.pinned (OpenSpec.ofChange markBoundWrong)

/-- 'burrowlaw15.MarkUnlike': WHATEVER THE INPUT: true; the input reads as it did. -/
def markUnlikeSpec : ChangeSpec := { name := "markUnlike", fn := fun _ => fun
  | [d1, d2] => { results := [.lit (.bool true)], args := [d1, d2] }
  | _ => none }
def markUnlikeRow : OpenClaim := { program := "ythlnlcijnoadcaagreatdoor", sum := "78a3f4fcfcddd5af71b56d6af852a929aef466dd177518e389a36423d9b9fecd", func := "burrow/burrowlaw15.MarkUnlike", spec := "markUnlike", unfollowed := true, recurses := true, named := ["math/bits.deBruijn32tab", "math/bits.deBruijn64tab"], plainKeys := false, apart := false, laid := [("math/bits.deBruijn32tab", laid_math_bits_deBruijn32tab), ("math/bits.deBruijn64tab", laid_math_bits_deBruijn64tab)] }
def MarkUnlikeSaid : Prop := markUnlikeRow.holds Tryz.pinned (OpenSpec.ofChange markUnlikeSpec)

/-- ITS FALSE NEIGHBOUR: 'it returns false'. Refute it at one input. -/
def markUnlikeWrong : ChangeSpec := { name := "markUnlike", fn := fun _ => fun
  | [d1, d2] => { results := [.lit (.bool false)], args := [d1, d2] }
  | _ => none }
def MarkUnlikeWrongFalsely : Prop := markUnlikeRow.holds Tryz.pinned (OpenSpec.ofChange markUnlikeWrong)

/-- 'burrowlaw15.MarkMarks': WHATEVER THE INPUT: true; the input reads as it did. -/
def markMarksSpec : ChangeSpec := { name := "markMarks", fn := fun _ => fun
  | [d1, d2, d3] => { results := [.lit (.bool true)], args := [d1, d2, d3] }
  | _ => none }
def markMarksRow : OpenClaim := { program := "ythlnlcijnoadcaagreatdoor", sum := "78a3f4fcfcddd5af71b56d6af852a929aef466dd177518e389a36423d9b9fecd", func := "burrow/burrowlaw15.MarkMarks", spec := "markMarks", unfollowed := true, recurses := true, named := ["math/bits.deBruijn32tab", "math/bits.deBruijn64tab"], plainKeys := false, apart := false, laid := [("math/bits.deBruijn32tab", laid_math_bits_deBruijn32tab), ("math/bits.deBruijn64tab", laid_math_bits_deBruijn64tab)] }
def MarkMarksSaid : Prop := markMarksRow.holds Tryz.pinned (OpenSpec.ofChange markMarksSpec)

/-- ITS FALSE NEIGHBOUR: 'it returns false'. Refute it at one input. -/
def markMarksWrong : ChangeSpec := { name := "markMarks", fn := fun _ => fun
  | [d1, d2, d3] => { results := [.lit (.bool false)], args := [d1, d2, d3] }
  | _ => none }
def MarkMarksWrongFalsely : Prop := markMarksRow.holds Tryz.pinned (OpenSpec.ofChange markMarksWrong)

/-- 'burrowlaw15.MarkKeeps': WHATEVER THE INPUT: true; the input reads as it did. -/
def markKeepsSpec : ChangeSpec := { name := "markKeeps", fn := fun _ => fun
  | [d1, d2, d3] => { results := [.lit (.bool true)], args := [d1, d2, d3] }
  | _ => none }
def markKeepsRow : OpenClaim := { program := "ythlnlcijnoadcaagreatdoor", sum := "78a3f4fcfcddd5af71b56d6af852a929aef466dd177518e389a36423d9b9fecd", func := "burrow/burrowlaw15.MarkKeeps", spec := "markKeeps", unfollowed := true, recurses := true, named := ["math/bits.deBruijn32tab", "math/bits.deBruijn64tab"], plainKeys := false, apart := false, laid := [("math/bits.deBruijn32tab", laid_math_bits_deBruijn32tab), ("math/bits.deBruijn64tab", laid_math_bits_deBruijn64tab)] }
def MarkKeepsSaid : Prop := markKeepsRow.holds Tryz.pinned (OpenSpec.ofChange markKeepsSpec)

/-- ITS FALSE NEIGHBOUR: 'it returns false'. Refute it at one input. -/
def markKeepsWrong : ChangeSpec := { name := "markKeeps", fn := fun _ => fun
  | [d1, d2, d3] => { results := [.lit (.bool false)], args := [d1, d2, d3] }
  | _ => none }
def MarkKeepsWrongFalsely : Prop := markKeepsRow.holds Tryz.pinned (OpenSpec.ofChange markKeepsWrong)

/-- 'burrowlaw17.PathMakes': WHATEVER THE INPUT: true; the input reads as it did. -/
def pathMakesSpec : ChangeSpec := { name := "pathMakes", fn := fun _ => fun
  | [d] => { results := [.lit (.bool true)], args := [d] }
  | _ => none }
def pathMakesRow : OpenClaim := { program := "ythlnlcijnoadcaagreatdoor", sum := "78a3f4fcfcddd5af71b56d6af852a929aef466dd177518e389a36423d9b9fecd", func := "burrow/burrowlaw17.PathMakes", spec := "pathMakes", inPlace := ["math/bits.Add64"], unfollowed := true, recurses := true, named := ["math/bits.deBruijn32tab", "math/bits.deBruijn64tab"], plainKeys := false, apart := false, laid := [("math/bits.deBruijn32tab", laid_math_bits_deBruijn32tab), ("math/bits.deBruijn64tab", laid_math_bits_deBruijn64tab)] }
def PathMakesSaid : Prop := pathMakesRow.holds Tryz.pinned (OpenSpec.ofChange pathMakesSpec)

/-- ITS FALSE NEIGHBOUR: 'it returns false'. Refute it at one input. -/
def pathMakesWrong : ChangeSpec := { name := "pathMakes", fn := fun _ => fun
  | [d] => { results := [.lit (.bool false)], args := [d] }
  | _ => none }
def PathMakesWrongFalsely : Prop := pathMakesRow.holds Tryz.pinned (OpenSpec.ofChange pathMakesWrong)

/-- 'burrowlaw17.PathShares': WHATEVER THE INPUT: true; the input reads as it did. -/
def pathSharesSpec : ChangeSpec := { name := "pathShares", fn := fun _ => fun
  | [d1, d2] => { results := [.lit (.bool true)], args := [d1, d2] }
  | _ => none }
def pathSharesRow : OpenClaim := { program := "ythlnlcijnoadcaagreatdoor", sum := "78a3f4fcfcddd5af71b56d6af852a929aef466dd177518e389a36423d9b9fecd", func := "burrow/burrowlaw17.PathShares", spec := "pathShares", inPlace := ["math/bits.Add64"], unfollowed := true, recurses := true, named := ["math/bits.deBruijn32tab", "math/bits.deBruijn64tab"], plainKeys := false, apart := false, laid := [("math/bits.deBruijn32tab", laid_math_bits_deBruijn32tab), ("math/bits.deBruijn64tab", laid_math_bits_deBruijn64tab)] }
def PathSharesSaid : Prop := pathSharesRow.holds Tryz.pinned (OpenSpec.ofChange pathSharesSpec)

/-- ITS FALSE NEIGHBOUR: 'it returns false'. Refute it at one input. -/
def pathSharesWrong : ChangeSpec := { name := "pathShares", fn := fun _ => fun
  | [d1, d2] => { results := [.lit (.bool false)], args := [d1, d2] }
  | _ => none }
def PathSharesWrongFalsely : Prop := pathSharesRow.holds Tryz.pinned (OpenSpec.ofChange pathSharesWrong)

/- THE SECOND FORM. 'bulk': how many values and letters a reading holds, each counted each time it is reached (what is shared counts as often as it is met; a slice's spare places count too). A statement '..UptoSaid' is the law's where the arguments, and the package variables that the reading takes, are together of bulk at most 1048576: NARROWER than '..Said'. Prove '..Said' where nothing that the law and all that it calls make is longer than what came in: it says more and counts as full. Else prove '..UptoSaid'. A law counts once. -/
mutual
def uptoBulk {H : Type} : DataW H → Nat
  | .lit (.string bytes) => bytes.length + 1
  | .lit _ => 1
  | .nil => 1
  | .ptr d => uptoBulk d + 1
  | .slice elems spare => uptoBulkAll elems + uptoBulkAll spare + 1
  | .agg parts => uptoBulkAll parts + 1
  | .iface _ d => uptoBulk d + 1
  | .map entries => uptoBulkEntries entries + 1
  | .held _ => 1
def uptoBulkAll {H : Type} : List (DataW H) → Nat
  | [] => 0
  | d :: r => uptoBulk d + uptoBulkAll r
def uptoBulkEntries {H : Type} : List (Lit × DataW H) → Nat
  | [] => 0
  | x :: r => uptoBulkEntry x + uptoBulkEntries r
def uptoBulkEntry {H : Type} : Lit × DataW H → Nat
  | (.string bytes, d) => bytes.length + uptoBulk d + 1
  | (_, d) => uptoBulk d + 1
 end
def uptoSmall : (H : Type) → List (DataW H) → Bool := fun _ ds => decide (uptoBulkAll ds ≤ 1048576)
def OpenSpec.upto (s : _root_.Go.ChangeSpec) : _root_.Go.OpenSpec := { _root_.Go.OpenSpec.ofChange s with cond := some uptoSmall }

/-- 'burrowlaw17.PathPuts', WHERE WHAT IT READS IS OF BULK AT MOST 1048576: true; the input reads as it did. -/
def pathPutsUptoRow : OpenClaim := { program := "ythlnlcijnoadcaagreatdoor", sum := "78a3f4fcfcddd5af71b56d6af852a929aef466dd177518e389a36423d9b9fecd", func := "burrow/burrowlaw17.PathPuts", spec := "pathPuts", unfollowed := true, recurses := true, named := ["math/bits.deBruijn32tab", "math/bits.deBruijn64tab"], plainKeys := false, apart := false, laid := [("math/bits.deBruijn32tab", laid_math_bits_deBruijn32tab), ("math/bits.deBruijn64tab", laid_math_bits_deBruijn64tab)], narrowed := true }
def PathPutsUptoSaid : Prop := pathPutsUptoRow.holds Tryz.pinned (OpenSpec.upto pathPutsSpec)

/-- 'burrowlaw17.PathFollows', WHERE WHAT IT READS IS OF BULK AT MOST 1048576: true; the input reads as it did. -/
def pathFollowsUptoRow : OpenClaim := { program := "ythlnlcijnoadcaagreatdoor", sum := "78a3f4fcfcddd5af71b56d6af852a929aef466dd177518e389a36423d9b9fecd", func := "burrow/burrowlaw17.PathFollows", spec := "pathFollows", inPlace := ["math/bits.Add64"], unfollowed := true, recurses := true, named := ["math/bits.deBruijn32tab", "math/bits.deBruijn64tab"], plainKeys := false, apart := false, laid := [("math/bits.deBruijn32tab", laid_math_bits_deBruijn32tab), ("math/bits.deBruijn64tab", laid_math_bits_deBruijn64tab)], narrowed := true }
def PathFollowsUptoSaid : Prop := pathFollowsUptoRow.holds Tryz.pinned (OpenSpec.upto pathFollowsSpec)

/-- 'burrowlaw17.PathPlans', WHERE WHAT IT READS IS OF BULK AT MOST 1048576: true; the input reads as it did. -/
def pathPlansUptoRow : OpenClaim := { program := "ythlnlcijnoadcaagreatdoor", sum := "78a3f4fcfcddd5af71b56d6af852a929aef466dd177518e389a36423d9b9fecd", func := "burrow/burrowlaw17.PathPlans", spec := "pathPlans", inPlace := ["math/bits.Add64"], unfollowed := true, recurses := true, named := ["math/bits.deBruijn32tab", "math/bits.deBruijn64tab"], plainKeys := false, apart := false, laid := [("math/bits.deBruijn32tab", laid_math_bits_deBruijn32tab), ("math/bits.deBruijn64tab", laid_math_bits_deBruijn64tab)], narrowed := true }
def PathPlansUptoSaid : Prop := pathPlansUptoRow.holds Tryz.pinned (OpenSpec.upto pathPlansSpec)

/-- 'burrowlaw15.MarkDigests', WHERE WHAT IT READS IS OF BULK AT MOST 1048576: true; the input reads as it did. -/
def markDigestsUptoRow : OpenClaim := { program := "ythlnlcijnoadcaagreatdoor", sum := "78a3f4fcfcddd5af71b56d6af852a929aef466dd177518e389a36423d9b9fecd", func := "burrow/burrowlaw15.MarkDigests", spec := "markDigests", unfollowed := true, recurses := true, named := ["math/bits.deBruijn32tab", "math/bits.deBruijn64tab"], plainKeys := false, apart := false, laid := [("math/bits.deBruijn32tab", laid_math_bits_deBruijn32tab), ("math/bits.deBruijn64tab", laid_math_bits_deBruijn64tab)], narrowed := true }
def MarkDigestsUptoSaid : Prop := markDigestsUptoRow.holds Tryz.pinned (OpenSpec.upto markDigestsSpec)

/-- 'burrowlaw15.MarkBound', WHERE WHAT IT READS IS OF BULK AT MOST 1048576: true; the input reads as it did. -/
def markBoundUptoRow : OpenClaim := { program := "ythlnlcijnoadcaagreatdoor", sum := "78a3f4fcfcddd5af71b56d6af852a929aef466dd177518e389a36423d9b9fecd", func := "burrow/burrowlaw15.MarkBound", spec := "markBound", unfollowed := true, recurses := true, named := ["math/bits.deBruijn32tab", "math/bits.deBruijn64tab"], plainKeys := false, apart := false, laid := [("math/bits.deBruijn32tab", laid_math_bits_deBruijn32tab), ("math/bits.deBruijn64tab", laid_math_bits_deBruijn64tab)], narrowed := true }
def MarkBoundUptoSaid : Prop := markBoundUptoRow.holds Tryz.pinned (OpenSpec.upto markBoundSpec)

/-- 'burrowlaw15.MarkUnlike', WHERE WHAT IT READS IS OF BULK AT MOST 1048576: true; the input reads as it did. -/
def markUnlikeUptoRow : OpenClaim := { program := "ythlnlcijnoadcaagreatdoor", sum := "78a3f4fcfcddd5af71b56d6af852a929aef466dd177518e389a36423d9b9fecd", func := "burrow/burrowlaw15.MarkUnlike", spec := "markUnlike", unfollowed := true, recurses := true, named := ["math/bits.deBruijn32tab", "math/bits.deBruijn64tab"], plainKeys := false, apart := false, laid := [("math/bits.deBruijn32tab", laid_math_bits_deBruijn32tab), ("math/bits.deBruijn64tab", laid_math_bits_deBruijn64tab)], narrowed := true }
def MarkUnlikeUptoSaid : Prop := markUnlikeUptoRow.holds Tryz.pinned (OpenSpec.upto markUnlikeSpec)

/-- 'burrowlaw15.MarkMarks', WHERE WHAT IT READS IS OF BULK AT MOST 1048576: true; the input reads as it did. -/
def markMarksUptoRow : OpenClaim := { program := "ythlnlcijnoadcaagreatdoor", sum := "78a3f4fcfcddd5af71b56d6af852a929aef466dd177518e389a36423d9b9fecd", func := "burrow/burrowlaw15.MarkMarks", spec := "markMarks", unfollowed := true, recurses := true, named := ["math/bits.deBruijn32tab", "math/bits.deBruijn64tab"], plainKeys := false, apart := false, laid := [("math/bits.deBruijn32tab", laid_math_bits_deBruijn32tab), ("math/bits.deBruijn64tab", laid_math_bits_deBruijn64tab)], narrowed := true }
def MarkMarksUptoSaid : Prop := markMarksUptoRow.holds Tryz.pinned (OpenSpec.upto markMarksSpec)

/-- 'burrowlaw15.MarkKeeps', WHERE WHAT IT READS IS OF BULK AT MOST 1048576: true; the input reads as it did. -/
def markKeepsUptoRow : OpenClaim := { program := "ythlnlcijnoadcaagreatdoor", sum := "78a3f4fcfcddd5af71b56d6af852a929aef466dd177518e389a36423d9b9fecd", func := "burrow/burrowlaw15.MarkKeeps", spec := "markKeeps", unfollowed := true, recurses := true, named := ["math/bits.deBruijn32tab", "math/bits.deBruijn64tab"], plainKeys := false, apart := false, laid := [("math/bits.deBruijn32tab", laid_math_bits_deBruijn32tab), ("math/bits.deBruijn64tab", laid_math_bits_deBruijn64tab)], narrowed := true }
def MarkKeepsUptoSaid : Prop := markKeepsUptoRow.holds Tryz.pinned (OpenSpec.upto markKeepsSpec)

/-- 'burrowlaw17.PathMakes', WHERE WHAT IT READS IS OF BULK AT MOST 1048576: true; the input reads as it did. -/
def pathMakesUptoRow : OpenClaim := { program := "ythlnlcijnoadcaagreatdoor", sum := "78a3f4fcfcddd5af71b56d6af852a929aef466dd177518e389a36423d9b9fecd", func := "burrow/burrowlaw17.PathMakes", spec := "pathMakes", inPlace := ["math/bits.Add64"], unfollowed := true, recurses := true, named := ["math/bits.deBruijn32tab", "math/bits.deBruijn64tab"], plainKeys := false, apart := false, laid := [("math/bits.deBruijn32tab", laid_math_bits_deBruijn32tab), ("math/bits.deBruijn64tab", laid_math_bits_deBruijn64tab)], narrowed := true }
def PathMakesUptoSaid : Prop := pathMakesUptoRow.holds Tryz.pinned (OpenSpec.upto pathMakesSpec)

/-- 'burrowlaw17.PathShares', WHERE WHAT IT READS IS OF BULK AT MOST 1048576: true; the input reads as it did. -/
def pathSharesUptoRow : OpenClaim := { program := "ythlnlcijnoadcaagreatdoor", sum := "78a3f4fcfcddd5af71b56d6af852a929aef466dd177518e389a36423d9b9fecd", func := "burrow/burrowlaw17.PathShares", spec := "pathShares", inPlace := ["math/bits.Add64"], unfollowed := true, recurses := true, named := ["math/bits.deBruijn32tab", "math/bits.deBruijn64tab"], plainKeys := false, apart := false, laid := [("math/bits.deBruijn32tab", laid_math_bits_deBruijn32tab), ("math/bits.deBruijn64tab", laid_math_bits_deBruijn64tab)], narrowed := true }
def PathSharesUptoSaid : Prop := pathSharesUptoRow.holds Tryz.pinned (OpenSpec.upto pathSharesSpec)

end Rows
end Go.Proofs.YthlnlcijnoadcaaGreatDoor
