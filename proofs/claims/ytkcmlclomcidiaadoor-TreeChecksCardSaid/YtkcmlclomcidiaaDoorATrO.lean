/- This file says what a node of a tree is to the proofs. No conditions. -/
import Derived.Test.YtkcmlclomcidiaaDoorASxB
set_option linter.all false
namespace Go.Sy
open Go
structure Nod where
  used : Bool
  name : Int
  key : List Int
  sign : List Int
  par : List Int
  un : List Int
instance : Inhabited Nod := ⟨⟨false, 0, [], [], [], []⟩⟩
def Nod.cells (n : Nod) : List SV := [.bool n.used, .int .i64 n.name, .ints .u8 32 n.key, .ints .u8 32 n.sign, .ints .u8 32 n.par, .ro false .i64 n.un]
structure Nod.OK (n : Nod) : Prop where
  name : (Lit.int .i64 n.name).wf = true
  key : n.key.length = 32 ∧ ∀ z ∈ n.key, 0 ≤ z ∧ z < 256
  sign : n.sign.length = 32 ∧ ∀ z ∈ n.sign, 0 ≤ z ∧ z < 256
  par : n.par.length = 32 ∧ ∀ z ∈ n.par, 0 ≤ z ∧ z < 256
  un : ∀ z ∈ n.un, (Lit.int .i64 z).wf = true
end Go.Sy
