/- This file defines the interpreter of the model's code over symbolic values and tracked blocks ('exec'), and the relation 'Rel' between tracked blocks and the machine's world. No conditions: definitions. -/
import Derived.Test.YtailgcdcdhhpnaaSyA
namespace Go.Sy
open Go

def TR (e : Env) (t : List (Option SV)) (t' : List Value) : Prop :=
  t.length = t'.length ∧ ∀ (i : Nat) (v : SV) (v' : Value), t[i]? = some (some v) → t'[i]? = some v' → VR e v v'

/-- A loop over a function under way: its record's number; the slots at its beginning; where yield's arguments go; the assignments; the body; where it stands; the pending jump. -/
structure Lp where
  l : Nat
  t : List (Option SV)
  ps : Array Tmp
  asg : Code
  body : Code
  st : LoopState
  pend : Option Code

/-- A tracked block: its parts; or a number that is kept, perhaps for a loop's record. -/
inductive Blk where
  | b (ps : List SV)
  | g (o : Option Lp)
@[match_pattern] abbrev Blk.gap : Blk := .g none
def gapOK (e : Env) (i : Nat) (g : Option Lp) (w : World) : Prop := match g with
  | none => True
  | some L => e.y i = some L.l ∧ ∃ r : Loop, w.heap[L.l]? = some (.loop r) ∧ r.params = L.ps ∧ r.assign = L.asg ∧ r.body = L.body ∧ r.state = L.st ∧ r.pending = L.pend ∧ TR e L.t r.tmps.toList
theorem gapOK.keep {e e' : Env} {i : Nat} {g : Option Lp} {w w' : World} (h : gapOK e i g w) (hk : ∀ (n : Nat) (r : Loop), w.heap[n]? = some (.loop r) → w'.heap[n]? = some (.loop r)) (hy : e'.y i = e.y i) (ht : ∀ L, g = some L → ∀ v v', some v ∈ L.t → VR e v v' → VR e' v v') : gapOK e' i g w' := by
  cases g with
  | none => trivial
  | some L =>
    obtain ⟨h1, r, h2, h3, h4, h5, h6, h7, h8, h9⟩ := h
    exact ⟨by rw [hy]; exact h1, r, hk _ _ h2, h3, h4, h5, h6, h7, h8, fun j v v' a b => ht L rfl v v' (List.mem_of_getElem? a) (h9 j v v' a b)⟩
theorem gapOK.le {e e' : Env} {i : Nat} {g : Option Lp} {w w' : World} (h : gapOK e i g w) (hk : ∀ (n : Nat) (r : Loop), w.heap[n]? = some (.loop r) → w'.heap[n]? = some (.loop r)) (hy : e'.y i = e.y i) (hle : Env.Le e e') : gapOK e' i g w' :=
  h.keep hk hy fun _ _ _ _ _ hv => hv.mono hle

/-- Where a function began: the world, the environment, how many tracked blocks, which loops' records may be written. -/
structure Base where
  w : World
  e : Env
  k : Nat
  l : List Nat

def SameOut (base size : Nat) (o o' : Obj) : Prop :=
  ∃ (c c' : Array Value) (t : TypeId) (fr : Nat × Nat), o = .cells c t fr ∧ o' = .cells c' t fr ∧ c'.size = c.size ∧ ∀ j, j < base ∨ base + size ≤ j → c'[j]? = c[j]?

def BR (e : Env) (p : Pl) (ps : List SV) (o : Obj) : Prop :=
  ∃ c t, o = .cells c t (0, 0) ∧ p.base + p.size ≤ c.size ∧ psize ps ≤ p.size ∧ PR e ps ((c.toList.drop p.base).take (psize ps))

/-- World 'w', begun at 'B', is as the tracked blocks 'h' in the environment 'e' say. -/
structure Rel (B : Base) (e : Env) (h : List Blk) (w : World) : Prop where
  os : w.os = B.w.os
  tape : w.tape = B.w.tape
  output : w.output = B.w.output
  size : B.w.heap.size ≤ w.heap.size
  inj : ∀ (i j : Nat) (p q : Pl), e.r i = some p → e.r j = some q → p.n = q.n → i = j
  dom : ∀ (i : Nat) (p : Pl), e.r i = some p → i < h.length
  sep : ∀ (i : Nat) (p : Pl), e.r i = some p → e.z p.n = none
  zok : ∀ (n : Nat) (c : Array Value) (t : TypeId) (fr : Nat × Nat), e.z n = some (c, t, fr) → w.heap[n]? = some (.cells c t fr)
  zfresh : ∀ n x, e.z n = some x → B.e.z n = some x ∨ B.w.heap.size ≤ n
  news : ∀ (i : Nat) (p : Pl), e.r i = some p → B.e.r i = some p ∨ B.w.heap.size ≤ p.n
  keepr : ∀ (i : Nat) (p : Pl), B.e.r i = some p → e.r i = some p
  keepz : ∀ n x, B.e.z n = some x → e.z n = some x
  n0 : e.n0 = B.e.n0
  n0le : B.e.n0 ≤ B.w.heap.size
  blk : ∀ (i : Nat) (ps : List SV), h[i]? = some (.b ps) → (psize ps = 0 ∧ e.r i = none) ∨ ∃ p o, e.r i = some p ∧ w.heap[p.n]? = some o ∧ BR e p ps o
  gap : ∀ (i : Nat) (g : Option Lp), h[i]? = some (.g g) → e.r i = none ∧ gapOK e i g w
  yi : ∀ (i j n : Nat), e.y i = some n → e.y j = some n → i = j
  yb : ∀ (i n : Nat), e.y i = some n → n ∈ B.l ∨ B.w.heap.size ≤ n
  old : ∀ n : Nat, n < B.w.heap.size → (∀ (i : Nat) (p : Pl), B.e.r i = some p → p.n ≠ n) → n ∉ B.l → w.heap[n]? = B.w.heap[n]?
  win : ∀ (i : Nat) (p : Pl), B.e.r i = some p → ∃ o o', B.w.heap[p.n]? = some o ∧ w.heap[p.n]? = some o' ∧ SameOut p.base p.size o o'
  kr : ∀ (i : Nat) (p : Pl), B.e.r i = some p → i < B.k
  kle : B.k ≤ h.length
  mks : ∀ r, r ∈ e.m → w.heap[r]? = some (.deferred (some [])) ∧ B.w.heap.size ≤ r
  mnd : e.m.Nodup

/-- The slots (none: not known), the blocks, what must hold. -/
structure St where
  t : List (Option SV)
  h : List Blk
  ob : Bool

/-- What a call comes to: from the function, the arguments, the blocks, the number of the first block that it makes: the value, the blocks, the blocks that it makes, what must hold. -/
abbrev CallF := FuncId → List SV → List Blk → Nat → Option (SV × List Blk × List Blk × Bool)
abbrev CallFn := Fn → List SV → List Blk → Nat → Option (SV × List Blk × List Blk × Bool)

/-- Contracts of functions; functions that are taken in; which functions do not look at blocks (0), do not write them (1); how many blocks they make; what the tests at some slots are taken to say; which appends find room. -/
structure Ctr where
  g : CallF
  inl : FuncId → Option Func
  pf : FuncId → Nat
  nb : FuncId → Nat
  sym : Tmp → Option Bool
  inp : Tmp → Bool

def andT (a b : Bool) : Bool := match b with
  | true => a
  | false => false
theorem andT_iff {a b : Bool} : andT a b = true ↔ a = true ∧ b = true := by cases a <;> cases b <;> decide

section
variable (P : Program)

def szOf (t : TypeId) : Option Nat := (P.info? t).map (·.size)
def zeroOf (t : TypeId) : Option Value := (P.info? t).bind (·.zero)
def aggB (t : TypeId) : Option Bool := (P.underlying t).map fun | .struct _ => true | .array _ _ => true | _ => false
def isInt (t : TypeId) : Option IntKind := match P.underlying t with
  | some (.int k) => some k
  | _ => none

mutual
/-- A value of the text. -/
def ofV : Value → Option SV
  | .bool b => some (.bool b)
  | .int k n => some (.int k n)
  | .string s => some (.str (strL s))
  | .pointer none => some (.nl (.pointer none))
  | .slice none 0 0 => some (.nl (.slice none 0 0))
  | .map none => some (.nl (.map none))
  | .chan none => some (.nl (.chan none))
  | .nilFunc => some (.nl .nilFunc)
  | .nilIface => some (.nl .nilIface)
  | .tuple ⟨xs⟩ => (ofL xs).map .tup
  | .iface t x => (ofV x).map (.iface t)
  | .func f ⟨xs⟩ ⟨ys⟩ => match ofL xs, ofL ys with
    | some a, some b => some (.fn f a b)
    | _, _ => none
  | _ => none
def ofL : List Value → Option (List SV)
  | [] => some []
  | x :: xs => match ofV x, ofL xs with
    | some a, some b => some (a :: b)
    | _, _ => none
end

def ev (t : List (Option SV)) : Operand → Option SV
  | .tmp i => match t[i]? with
    | some (some v) => some v
    | _ => none
  | .const v => ofV v
  | .func f => some (.fn (.func f) [] [])
  | .global _ => none
def evL (t : List (Option SV)) : List Operand → Option (List SV)
  | [] => some []
  | x :: xs => match ev t x, evL t xs with
    | some v, some vs => some (v :: vs)
    | _, _ => none
def evO (t : List (Option SV)) : Option Operand → Option (Option SV)
  | none => some none
  | some x => (ev t x).map some

/-! ### Zero values -/
def zeroFs (g : TypeId → Option (List SV)) : List Field → Option (List SV)
  | [] => some []
  | f :: fs => match g f.type, zeroFs g fs with
    | some a, some b => some (a ++ b)
    | _, _ => none
def zeroP : Nat → TypeId → Option (List SV)
  | 0, _ => none
  | d + 1, t => match P.underlying t with
    | some .bool => some [.bool false]
    | some (.int k) => some [.int k 0]
    | some .string => some [.str []]
    | some (.pointer _) => some [.nl (.pointer none)]
    | some (.slice _) => some [.nl (.slice none 0 0)]
    | some (.map _ _) => some [.nl (.map none)]
    | some (.func _ _ _) => some [.nl .nilFunc]
    | some (.interface _) => some [.nl .nilIface]
    | some (.array n e) => match isInt P e with
      | some k => some [.ints k n (List.replicate n 0)]
      | none => (zeroP d e).map fun z => (List.replicate n z).flatten
    | some (.struct fs) => zeroFs (fun t => zeroP d t) fs.toList
    | _ => none

/-- These integers stand ahead of the cells: what stands behind them. -/
def sameI (k : IntKind) : List Int → List Value → Option (List Value)
  | [], ys => some ys
  | a :: as, .int k' b :: ys => if k = k' ∧ a = b then sameI k as ys else none
  | _ :: _, _ => none
def sameC : SV → Value → Bool
  | .bool a, .bool b => a == b
  | .int k a, .int k' b => decide (k = k') && a == b
  | .str [], .string s => s.data.toList.isEmpty
  | .nl v, w => match nilC v, nilC w with
    | some a, some b => a == b
    | _, _ => false
  | _, _ => false
/-- The parts say what the cells are. -/
def sameP : List SV → List Value → Bool
  | [], ys => ys.isEmpty
  | .ints k n xs :: ps, ys => match sameI k xs ys with
    | some ys => decide (xs.length = n) && sameP ps ys
    | none => false
  | p :: ps, y :: ys => sameC p y && sameP ps ys
  | _ :: _, [] => false

def cellsL : Value → List Value
  | .agg ⟨cs⟩ => cs
  | v => [v]
def zeroS (t : TypeId) : Option (List SV) := match zeroOf P t, zeroP P 12 t with
  | some z, some ps => if sameP ps (cellsL z) then some ps else none
  | _, _ => none

/-- A value's parts. -/
def partsOf : SV → List SV
  | .agg ps => ps
  | v => [v]
/-- A value from its parts. -/
def ofParts (t : TypeId) (ps : List SV) : Option SV := match aggB P t with
  | some true => some (.agg ps)
  | some false => match ps with
    | [p] => if one p then some p else none
    | _ => none
  | none => none

/-! ### Blocks -/
/-- n cells of an aggregate from the cell o + i on. -/
def subI (ps : List SV) (o i n : Nat) : Option (List SV × Bool) := match i with
  | 0 => (subP ps o n).map fun q => (q, true)
  | i + 1 => match dropP ps o with
    | some (.ints k m xs :: _) => some ([.ints k n ((xs.drop (i + 1)).take n)], decide (i + 1 + n ≤ m))
    | _ => none
def loadS (t : TypeId) (h : List Blk) : SV → Option (SV × Bool)
  | .ptr b o i => match h[b]? with
    | some (.b ps) => match aggB P t with
      | some true => match szOf P t with
        | some n => (subI ps o i n).map fun q => (.agg q.1, q.2)
        | none => none
      | some false => cellP ps o i
      | none => none
    | _ => none
  | .rpi k xs i => match aggB P t with
    | some true => match szOf P t with
      | some n => some (.agg [.ints k n ((xs.drop i).take n)], decide (0 < n) && decide (i + n ≤ xs.length))
      | none => none
    | some false => some (.int k (xs.getD i 0), decide (i < xs.length))
    | none => none
  | .rpb f xss i => match aggB P t with
    | some false => some (.ro f .u8 (xss.getD i []), decide (i < xss.length))
    | _ => none
  | .rpl _ z len g e o i => match aggB P t with
    | some true => match szOf P t with
      | some n => (subI (g e) o i n).map fun q => (.agg q.1, q.2 && (decide (e < len) && decide (o + i + n ≤ z)))
      | none => none
    | some false => (cellP (g e) o i).map fun q => (q.1, q.2 && (decide (e < len) && decide (o + i < z)))
    | none => none
  | _ => none
def storeS (t : TypeId) (h : List Blk) (x : SV) : SV → Option (List Blk × Bool)
  | .ptr b o i => match h[b]? with
    | some (.b ps) => match aggB P t with
      | some true => match x, szOf P t, i with
        | .agg q, some n, 0 => if decide (psize q = n) && q.all fun p => one p || !notInts p then (putP ps o n q).map fun ps' => (h.set b (.b ps'), true) else none
        | _, _, _ => none
      | some false => if one x && szOf P t == some 1 then (setP ps o i x).map fun q => (h.set b (.b q.1), q.2) else none
      | none => none
    | _ => none
  | _ => none

/-! ### Integers -/
def bitsI (f : ∀ n, BitVec n → BitVec n → BitVec n) (k : IntKind) (a b : Int) : Int := k.wrap (f k.bits (BitVec.ofInt k.bits a) (BitVec.ofInt k.bits b)).toNat
def andI := bitsI fun _ a b => a &&& b
def orI := bitsI fun _ a b => a ||| b
def xorI := bitsI fun _ a b => a ^^^ b
def andNotI := bitsI fun _ a b => a &&& ~~~b
def shlI (k : IntKind) (a : Int) (n : Nat) : Int := k.wrap (a * 2 ^ (min n k.bits))
def shrI (k : IntKind) (a : Int) (n : Nat) : Int := a.fdiv (2 ^ (min n k.bits))

/-- A binary operator on integers. The third part: what must hold. -/
def binI (op : BinOp) (k : IntKind) (a : Int) (k' : IntKind) (b : Int) : Option (SV × Bool) :=
  match op with
  | .shl => some (.int k (shlI k a b.toNat), decide (0 ≤ b))
  | .shr => some (.int k (shrI k a b.toNat), decide (0 ≤ b))
  | _ => if k ≠ k' then none else match op with
    | .add => some (.int k (k.wrap (a + b)), true)
    | .sub => some (.int k (k.wrap (a - b)), true)
    | .mul => some (.int k (k.wrap (a * b)), true)
    | .quo => some (.int k (k.wrap (a.tdiv b)), b != 0)
    | .rem => some (.int k (a.tmod b), b != 0)
    | .and => some (.int k (andI k a b), true)
    | .or => some (.int k (orI k a b), true)
    | .xor => some (.int k (xorI k a b), true)
    | .andNot => some (.int k (andNotI k a b), true)
    | .eql => some (.bool (a == b), true)
    | .neq => some (.bool (a != b), true)
    | .lss => some (.bool (decide (a < b)), true)
    | .leq => some (.bool (decide (a ≤ b)), true)
    | .gtr => some (.bool (decide (a > b)), true)
    | .geq => some (.bool (decide (a ≥ b)), true)
    | _ => none

def flatFs (g : TypeId → Option (IntKind × Nat)) (k : IntKind) (at_ : Nat) : List Field → Option (IntKind × Nat)
  | [] => some (k, at_)
  | f :: rest => match g f.type with
    | some (k', m) => if k' = k ∧ f.name ≠ "_" ∧ f.offset = at_ ∧ szOf P f.type = some m then flatFs g k (at_ + m) rest else none
    | none => none
/-- The kind of a type's cells and their number, where all are integers of one kind. -/
def flatK : Nat → TypeId → Option (IntKind × Nat)
  | 0, _ => none
  | d + 1, t => match P.underlying t with
    | some (.int k) => some (k, 1)
    | some (.array n e) => match flatK d e with
      | some (k, m) => if szOf P e = some m then some (k, n * m) else none
      | none => none
    | some (.struct fs) => if P.stoodInHeld t then none else match fs.toList with
      | [] => none
      | f :: rest => match flatK d f.type with
        | some (k, m) => if f.name ≠ "_" ∧ f.offset = 0 ∧ szOf P f.type = some m then flatFs P (fun t => flatK d t) k m rest else none
        | none => none
    | _ => none

/-- The integers of parts of one kind; what must hold. -/
def flatI (k : IntKind) : List SV → Option (List Int × Bool)
  | [] => some ([], true)
  | .ints k' n xs :: ps => if k = k' then match ps.isEmpty with
    | true => some (xs, decide (xs.length = n))
    | false => (flatI k ps).map fun q => (xs ++ q.1, andT (decide (xs.length = n)) q.2) else none
  | .int k' n :: ps => if k = k' then (flatI k ps).map fun q => (n :: q.1, q.2) else none
  | _ => none

def boolOp (op : BinOp) (b : Bool) : Option SV := match op with
  | .eql => some (.bool b)
  | .neq => some (.bool !b)
  | _ => none
/-- '==' and '!=' of what are no integers. -/
def eqS (op : BinOp) (T : TypeId) (x y : Operand) : SV → SV → Option (SV × Bool)
  | .agg cs, .agg ds => if P.eqGuardType P.depth T || aggB P T == some false then none else match flatK P 20 T with
    | some (k, n) => match flatI k cs, flatI k ds with
      | some (l, p), some (m, q) => if psize cs = n ∧ psize ds = n then (boolOp op (decide (l = m))).map fun v => (v, andT p q) else none
      | _, _ => none
    | none => none
  | .bool a, .bool b => match P.underlying T with
    | some .bool => (boolOp op (a == b)).map fun v => (v, true)
    | _ => none
  | .str a, .str b => (boolOp op (decide (a = b))).map fun v => (v, true)
  | .ptr _ _ _, .nl (.pointer none) => match P.underlying T with
    | some (.pointer _) => (boolOp op false).map fun v => (v, true)
    | _ => none
  | .nl (.pointer none), .nl (.pointer none) => match P.underlying T with
    | some (.pointer _) => (boolOp op true).map fun v => (v, true)
    | _ => none
  | .nl .nilIface, .nl .nilIface => match P.underlying T, x, y with
    | some (.interface _), .const _, _ => (boolOp op true).map fun v => (v, true)
    | some (.interface _), _, .const _ => (boolOp op true).map fun v => (v, true)
    | _, _, _ => none
  | .iface _ _, .nl .nilIface => match P.underlying T with
    | some (.interface _) => (boolOp op false).map fun v => (v, true)
    | _ => none
  | .nl .nilIface, .iface _ _ => match P.underlying T with
    | some (.interface _) => (boolOp op false).map fun v => (v, true)
    | _ => none
  | .iface t (.int k a), .iface t' (.int k' b) => match P.underlying T, P.underlying t with
    | some (.interface _), some (.int _) => match (P.info? t).map (·.comparable) with
      | some true => if t = t' ∧ k = k' then (boolOp op (a == b)).map fun v => (v, true) else none
      | _ => none
    | _, _ => none
  | _, _ => none

/-! ### Aggregates -/
def placesOf (t : TypeId) : Option (Nat → Option (Nat × Nat)) := match P.underlying t with
  | some (.array _ e) => (P.info? e).map fun ie => fun i => some (i * ie.size, ie.size)
  | some (.struct fields) => (fields.toList.mapM fun f => (P.info? f.type).map fun i => (f.offset, i.size)).map fun places => fun i => places.toArray[i]?
  | _ => none
/-- A value in its place. -/
def placeP (ps : List SV) (o n : Nat) (v : SV) : Option (List SV × Bool) := match v with
  | .agg q => if psize q = n then (putP ps o n q).map fun ps => (ps, true) else none
  | v => if n = 1 && one v then setP ps o 0 v else none
def fillS (place : Nat → Option (Nat × Nat)) : List SV → List (Nat × SV) → Option (List SV × Bool)
  | ps, [] => some (ps, true)
  | ps, (i, v) :: rest => match place i with
    | some (o, n) => match placeP ps o n v with
      | some (ps, p) => (fillS place ps rest).map fun q => (q.1, andT p q.2)
      | none => none
    | none => none
def buildS (t : TypeId) (parts : List (Nat × SV)) : Option (SV × Bool) := match zeroS P t, placesOf P t with
  | some z, some place => (fillS place z parts).map fun q => (.agg q.1, q.2)
  | _, _ => none
def partS (t : TypeId) (ps : List SV) (o i : Nat) : Option (SV × Bool) :=
  match aggB P t with
  | some true => match szOf P t, i with
    | some n, 0 => (subP ps o n).map fun q => (.agg q, true)
    | _, _ => none
  | some false => cellP ps o i
  | none => none
def fieldS (t : TypeId) (i : Nat) : SV → Option (SV × Bool)
  | .agg ps => match P.underlying t with
    | some (.struct fs) => match fs.toList[i]? with
      | some f => partS P f.type ps f.offset 0
      | none => none
    | _ => none
  | _ => none
def fieldAddrS (t : TypeId) (i : Nat) (x : SV) : Option SV :=
  match P.underlying t with
  | some (.struct fs) => match fs.toList[i]? with
    | some f => match szOf P f.type with
      | some (_ + 1) => match x with
        | .ptr b o i => some (.ptr b (o + f.offset) i)
        | .rpl g z len c e o i => some (.rpl g z len c e (o + f.offset) i)
        | _ => none
      | _ => none
    | none => none
  | _ => none

def inB (i : Int) (n : Nat) : Bool := decide (0 ≤ i) && decide (i < n)
def indexAddrS (t : TypeId) (x ix : SV) : Option (SV × Bool) :=
  match ix with
  | .int _ i => match P.underlying t, x with
    | some (.array len e), .ptr b o j => match isInt P e, szOf P e with
      | some _, some 1 => some (.ptr b o (j + i.toNat), inB i len)
      | none, some n => some (.ptr b (o + i.toNat * n) j, inB i len)
      | _, _ => none
    | some (.array len e), .rpl f z l c el o j => match isInt P e, szOf P e with
      | some _, some 1 => some (.rpl f z l c el o (j + i.toNat), inB i len)
      | none, some n => some (.rpl f z l c el (o + i.toNat * n) j, inB i len)
      | _, _ => none
    | some (.slice e), .sl b o j 1 len _ _ _ => match szOf P e with
      | some 1 => match isInt P e with
        | some _ => some (.ptr b o (j + i.toNat), inB i len)
        | none => some (.ptr b (o + (j + i.toNat)) 0, inB i len)
      | _ => none
    | some (.slice e), .sl b o j z len _ _ _ => match szOf P e with
      | some n => if n = z then some (.ptr b (o + (j + i.toNat) * z) 0, inB i len) else none
      | none => none
    | some (.slice e), .ro _ k xs => match szOf P e with
      | some 1 => some (.rpi k xs i.toNat, inB i xs.length)
      | _ => none
    | some (.slice e), .rob f xss => match szOf P e with
      | some 1 => some (.rpb f xss i.toNat, inB i xss.length)
      | _ => none
    | some (.slice e), .rol f z len g => match szOf P e with
      | some n => if n = z then some (.rpl f z len g i.toNat 0 0, inB i len) else none
      | none => none
    | _, _ => none
  | _ => none
def indexS (t : TypeId) (x ix : SV) : Option (SV × Bool) :=
  match ix, x with
  | .int _ i, .agg ps => match P.underlying t with
    | some (.array len e) => match isInt P e, szOf P e with
      | some _, some 1 => (cellP ps 0 i.toNat).map fun q => (q.1, q.2 && inB i len)
      | none, some n => (partS P e ps (i.toNat * n) 0).map fun q => (q.1, q.2 && inB i len)
      | _, _ => none
    | _ => none
  | .int _ i, .str xs => match P.underlying t with
    | some .string => some (.int .u8 (xs.getD i.toNat 0), inB i xs.length)
    | _ => none
  | _, _ => none

/-- A slice's bound: what it is, what must hold. -/
def boundS (d y : Nat) : Option SV → Option (Nat × Bool)
  | none => some (d, true)
  | some (.int _ i) => some (i.toNat, decide (0 ≤ i) && decide (i ≤ y))
  | _ => none
/-- All three bounds. -/
def boundsS (len cap : Nat) (lo hi mx : Option SV) : Option (Nat × Nat × Nat × Bool) :=
  match boundS cap cap mx with
  | some (m, p) => match mx, hi with
    | some _, none => none
    | _, _ => match boundS len (match mx with | some _ => m | none => cap) hi with
      | some (h, q) => match boundS 0 h lo with
        | some (l, r) => some (l, h, m, andT p (andT q r))
        | none => none
      | none => none
  | none => none
def winL (xs : List Int) (lo hi : Option SV) (l h : Nat) : List Int := match lo, hi with
  | none, none => xs
  | some _, none => xs.drop l
  | none, some _ => xs.take h
  | some _, some _ => (xs.drop l).take (h - l)
def sliceS (t : TypeId) (h : List Blk) (x : SV) (lo hi mx : Option SV) : Option (SV × Bool) :=
  match P.underlying t, x with
  | some (.array n e), .ptr b o i => match h[b]?, szOf P e, boundsS n n lo hi mx with
    | some (.b ps), some 1, some (l, h, m, p) => some (.sl b o (match lo with | none => i | some _ => i + l) 1 (match lo with | none => h | some _ => h - l) (match lo with | none => m | some _ => m - l) true (lo.isNone && hi.isNone && mx.isNone), andT p (decide (o + i + n ≤ psize ps)))
    | some (.b ps), some z, some (l, h, m, p) => match i with
      | 0 => some (.sl b o l z (h - l) (m - l) true (lo.isNone && hi.isNone && mx.isNone), andT p (decide (o + n * z ≤ psize ps)))
      | _ => none
    | _, _, _ => none
  | some (.slice e), .sl b o i z len cap ex wh => match szOf P e, boundsS len cap lo hi mx with
    | some n, some (l, h, m, p) => if n = z then
      some (.sl b o (match lo with | none => i | some _ => i + l) z (match lo with | none => h | some _ => h - l) (match lo with | none => m | some _ => m - l) (ex || mx.isSome) (wh && lo.isNone && hi.isNone && mx.isNone), p) else none
    | _, _ => none
  | some (.slice e), .ro f k xs => match szOf P e, boundsS xs.length xs.length lo hi mx with
    | some 1, some (l, h, _, p) => some (.ro f k (winL xs lo hi l h), p)
    | _, _ => none
  | some .string, .str xs => match mx, boundsS xs.length xs.length lo hi none with
    | none, some (l, h, _, p) => some (.str (winL xs lo hi l h), p)
    | _, _ => none
  | some (.slice e), .nl (.slice none 0 0) => match szOf P e, boundsS 0 0 lo hi mx with
    | some _, some (_, _, _, p) => some (.nl (.slice none 0 0), p)
    | _, _ => none
  | _, _ => none

/-- How many a slice or string holds. -/
def lenV : SV → Option Nat
  | .sl _ _ _ _ n _ _ _ => some n
  | .ro _ _ xs => some xs.length
  | .rob _ xss => some xss.length
  | .rol _ _ n _ => some n
  | .str xs => some xs.length
  | .nl (.slice none 0 0) => some 0
  | _ => none
def lenS (t : TypeId) (x : SV) : Option SV := match P.underlying t, x with
  | some (.array n _), .agg _ => some (.int .i64 n)
  | some (.slice _), x => match x with
    | .str _ => none
    | x => (lenV x).map fun (n : Nat) => SV.int .i64 (n : Int)
  | some .string, .str xs => some (.int .i64 xs.length)
  | _, _ => none
def capS (t : TypeId) (x : SV) : Option SV := match P.underlying t, x with
  | some (.slice _), .sl _ _ _ _ _ cap true _ => some (.int .i64 cap)
  | some (.slice _), .nl (.slice none 0 0) => some (.int .i64 0)
  | _, _ => none

/-- The parts that a slice holds; what must hold. -/
def contS (h : List Blk) : SV → Option (List SV × Bool)
  | .ro _ k xs => some ([.ints k xs.length xs], true)
  | .str xs => some ([.ints .u8 xs.length xs], true)
  | .nl (.slice none 0 0) => some ([], true)
  | .sl b o i z len _ _ wh => match h[b]? with
    | some (.b ps) => match dropP ps o, z with
      | some (.ints k n xs :: _), 1 => match wh with
        | true => some ([.ints k len xs], decide (xs.length = len) && (decide (len ≤ n) && decide (i = 0)))
        | false => some ([.ints k len ((xs.drop i).take len)], decide (i + len ≤ n) && decide (i + len ≤ xs.length))
      | some ps, z => (subP ps (i * z) (len * z)).map fun q => (q, true)
      | none, _ => none
    | _ => none
  | _ => none
/-- Parts side by side. -/
def joinP : List SV → List SV → List SV
  | [.ints k n xs], [.ints k' m ys] => if k = k' then [.ints k (n + m) (xs ++ ys)] else [.ints k n xs, .ints k' m ys]
  | [], b => b
  | a, [] => a
  | a, b => a ++ b
/-- The elements that it holds are of z cells each. -/
def isRowOK (z : Nat) : SV → Bool
  | .sl _ _ _ z' _ _ _ _ => Nat.beq z' z
  | _ => Nat.beq z 1

def convS (src dst : TypeId) : SV → Option SV
  | .int _ n => match P.underlying src, P.underlying dst with
    | some _, some (.int k) => some (.int k (k.wrap n))
    | _, _ => none
  | .str xs => match P.underlying src, P.underlying dst with
    | some .string, some .string => some (.str xs)
    | _, _ => none
  | _ => none
def unS : UnOp → SV → Option SV
  | .neg, .int k n => some (.int k (k.wrap (0 - n)))
  | .xor, .int k n => some (.int k (xorI k (if k.signed then -1 else k.max) n))
  | .not, .bool b => some (.bool !b)
  | _, _ => none
def minI : IntKind → Int → List SV → Option Int
  | _, a, [] => some a
  | k, a, .int k' b :: vs => if k = k' then minI k (if b < a then b else a) vs else none
  | _, _, _ => none

/-- '[]T{..}': its parts, how many cells an element has. -/
def buildSliceS (t : TypeId) (len : Nat) (parts : List (Nat × SV)) : Option (List SV × Nat × Bool) :=
  match P.underlying t with
  | some (.slice e) => match szOf P e, zeroS P e with
    | some (z + 1), some zs => if len * (z + 1) ≤ 2 ^ 24 ∧ psize zs = z + 1 then
        (fillS (fun i => some (i * (z + 1), z + 1)) (match isInt P e with
          | some k => [.ints k len (List.replicate len 0)]
          | none => (List.replicate len zs).flatten) parts).map fun q => (q.1, z + 1, q.2) else none
    | _, _ => none
  | _ => none
def sameOp : Operand → Operand → Bool
  | .tmp a, .tmp b => a == b
  | .const (.int _ a), .const (.int _ b) => a == b
  | _, _ => false
/-- 'make([]T, n, c)': parts, cells of an element, n, c, what must hold. -/
def makeSliceS (t : TypeId) : SV → SV → Option (List SV × Nat × Nat × Nat × Bool)
  | .int _ l, .int _ c => match P.underlying t with
    | some (.slice e) => match P.info? e, szOf P e, zeroS P e with
      | some i, some (z + 1), some zs => if psize zs = z + 1 then some (match isInt P e with
        | some k => [.ints k c.toNat (List.replicate c.toNat 0)]
        | none => (List.replicate c.toNat zs).flatten, z + 1, l.toNat, c.toNat, (IntKind.i64.wrap l == l && IntKind.i64.wrap c == c) && (decide (0 ≤ l) && decide (l ≤ c) && decide (i.bytes * c ≤ 2 ^ 48))) else none
      | _, _, _ => none
    | _ => none
  | _, _ => none

def assertS (asserted : TypeId) (ok : Bool) : SV → Option SV
  | .iface t v => match P.underlying asserted with
    | some (.interface _) => none
    | some _ => if t = asserted then some (match ok with | true => .tup [v, .bool true] | false => v) else
      match ok, (zeroOf P asserted).bind ofV with
      | true, some z => some (.tup [z, .bool false])
      | _, _ => none
    | none => none
  | .nl .nilIface => match P.underlying asserted, ok, (zeroOf P asserted).bind ofV with
    | some (.interface _), _, _ => none
    | some _, true, some z => some (.tup [z, .bool false])
    | _, _, _ => none
  | _ => none

/-- A function that is called with what it has captured; yield has captured nothing. -/
def yOK (f : Fn) (capt : List SV) : Bool := match f with
  | .func _ => true
  | .yield _ => capt.isEmpty
  | _ => false
/-- No other slot, no other block leads to the block b. -/
def noUseO (b : Nat) : Option SV → Bool
  | some v => !uses b v
  | none => true
def noUseB (b : Nat) (h : List Blk) : Bool := h.all fun | .b ps => !usesL b ps | .g (some L) => L.t.all (noUseO b) | .g none => true

/-- What an operation comes to: what it yields, the blocks, the blocks that it makes, the block that is not led to from elsewhere any more, what must hold. -/
structure Res where
  v : SV
  h : List Blk
  new : List Blk
  kill : Option Nat
  p : Bool

def Res.of (h : List Blk) (q : SV × Bool) : Res := ⟨q.1, h, [], none, q.2⟩

def u8R (xs : List Int) : Bool := xs.all fun n => decide (0 ≤ n) && decide (n < 256)
/-- The part at the cell o, turned. -/
def updP (f : SV → Option SV) : List SV → Nat → Option (List SV)
  | [], _ => none
  | p :: ps, 0 => (f p).map (· :: ps)
  | p :: ps, o + 1 => match Nat.ble (psz p) (o + 1) with
    | true => (updP f ps (o + 1 - psz p)).map (p :: ·)
    | false => none
/-- n of ys in xs from i on. -/
def spl (xs : List Int) (i : Nat) (ys : List Int) (n : Nat) : List Int := xs.take i ++ ys.take n ++ xs.drop (i + n)
def splI (i : Nat) (k' : IntKind) (ys : List Int) (n : Nat) : SV → Option SV
  | .ints k m xs => if k = k' then some (.ints k m (spl xs i ys n)) else none
  | _ => none
def lenI : SV → Option (Nat × List Int)
  | .ints _ m xs => some (m, xs)
  | _ => none
/-- The part at the cell o. -/
def atP : List SV → Nat → Option SV
  | [], _ => none
  | p :: _, 0 => some p
  | p :: ps, o + 1 => match Nat.ble (psz p) (o + 1) with
    | true => atP ps (o + 1 - psz p)
    | false => none

/-- n integers over those from the place i of the part at o on. -/
def writeI (h : List Blk) (b o i : Nat) (k : IntKind) (ys : List Int) (n : Nat) : Option (List Blk × Bool) := match h[b]? with
  | some (.b ps) => match (atP ps o).bind lenI, updP (splI i k ys n) ps o with
    | some (m, xs), some ps' => some (h.set b (.b ps'), decide (xs.length = m) && decide (i + n ≤ m) && decide (n ≤ ys.length))
    | _, _ => none
  | _ => none

def okParts (ps : List SV) : Bool := ps.all fun p => one p || !notInts p
def lenOKP : List SV → Bool
  | [.ints _ n xs] => decide (xs.length = n)
  | _ => true
/-- Elements of the type e, of z cells each, may be laid side by side. -/
def elemOK (e : TypeId) : Option Nat := match (P.info? e).map (·.bytes), szOf P e, zeroS P e with
  | some by_, some (z + 1), some zs => if decide (by_ ≤ 256) && decide (psize zs = z + 1) then some z else none
  | _, _, _ => none
def appendS (k : Nat) (h : List Blk) (j : Nat) (inp : Bool) (sT xT : TypeId) (x y : SV) : Option Res :=
  match P.underlying sT, P.underlying xT with
  | _, some (.int _) => none
  | some (.slice e), some _ => match elemOK P e, contS h y, lenV y with
    | some z, some (cy, py), some ny => match x with
      | .nl (.slice none 0 0) => some ⟨.sl j 0 0 (z + 1) ny ny false true, h, [.b cy], none, andT (andT py (isRowOK (z + 1) y)) (decide (ny ≤ 2 ^ 38))⟩
      | .sl b o i z' len cap ex _ => match inp with
        | true => match cy, z, z' with
          | [.ints ki _ ys], 0, 1 => (writeI h b o (i + len) ki ys ny).map fun q => ⟨.sl b o i 1 (len + ny) cap ex false, q.1, [], none, andT (andT (andT py (isRowOK 1 y)) (decide (len + ny ≤ cap))) q.2⟩
          | _, _, _ => none
        | false => match contS h x with
          | some (cx, px) => if Nat.ble k b && decide (z' = z + 1) && okParts cy && noUseB b (h.set b (.b (joinP cx cy))) then
            some ⟨.sl b 0 0 (z + 1) (len + ny) (len + ny) false true, h.set b (.b (joinP cx cy)), [], some b, andT (andT (andT (andT py px) (lenOKP cx)) (isRowOK (z + 1) y)) (decide (len + ny ≤ 2 ^ 38))⟩ else none
          | none => none
      | _ => none
    | _, _, _ => none
  | _, _ => none

def copyS (h : List Blk) (dT : TypeId) (x y : SV) : Option (List Blk × SV × Bool) :=
  match P.underlying dT, x, contS h y, lenV y with
  | some (.slice e), .sl b o i 1 len _ _ _, some ([.ints k _ ys], p), some ny => match szOf P e with
    | some 1 => (writeI h b o i k ys (Nat.min ny len)).map fun q => (q.1, .int .i64 (Nat.min ny len), andT (andT p (isRowOK 1 y)) q.2)
    | _ => none
  | _, _, _, _ => none

/-- What a conversion comes to. -/
def convR (h : List Blk) (src dst : TypeId) : Option SV → Option Res
  | some (.str xs) => match P.underlying dst with
    | some (.slice e) => match isInt P e, szOf P e with
      | some .u8, some 1 => match P.underlying src with
        | some _ => some (.of h (.ro true .u8 xs, true))
        | none => none
      | _, _ => none
    | _ => (convS P src dst (.str xs)).map fun v => .of h (v, true)
  | some (.int k n) => (convS P src dst (.int k n)).map fun v => .of h (v, true)
  | some (.nl (.slice none 0 0)) => match P.underlying src, P.underlying dst with
    | some (.slice e), some .string => match isInt P e with
      | some .u8 => some (.of h (.str [], true))
      | _ => none
    | _, _ => none
  | some a => match P.underlying src, P.underlying dst, contS h a, lenV a with
    | some (.slice e), some .string, some ([.ints .u8 m xs], p), some _ => match isInt P e with
      | some .u8 => some (.of h (.str xs, andT (andT p (isRowOK 1 a && decide (xs.length = m))) (u8R xs)))
      | _ => none
    | _, _, _, _ => none
  | none => none

/-- One operation; k: the blocks that were there when the function began; j: the number of a block that it makes. -/
def opS (G : CallFn) (inp : Tmp → Bool) (k : Nat) (t : List (Option SV)) (h : List Blk) (j : Nat) (o : Oper) : Option Res :=
  match o.op with
  | .move x | .assign x => (ev t x).map fun v => .of h (v, true)
  | .pick c a b => match ev t c with
    | some (.bool true) => (ev t a).map fun v => .of h (v, true)
    | some (.bool false) => (ev t b).map fun v => .of h (v, true)
    | _ => none
  | .alloc e => (zeroS P e).map fun ps => ⟨.ptr j 0 0, h, [.b ps], none, true⟩
  | .box _ x => (ev t x).map fun v => ⟨.ptr j 0 0, h, [.b (partsOf v)], none, (partsOf v).all fun p => one p || !notInts p⟩
  | .build ty ps => match evL t (ps.toList.map (·.2)) with
    | some vs => (buildS P ty ((ps.toList.map (·.1)).zip vs)).map (.of h)
    | none => none
  | .buildSlice ty len ps => match evL t (ps.toList.map (·.2)) with
    | some vs => (buildSliceS P ty len ((ps.toList.map (·.1)).zip vs)).map fun q => ⟨.sl j 0 0 q.2.1 len len true true, h, [.b q.1], none, q.2.2⟩
    | none => none
  | .makeSlice ty l c => match ev t l, ev t c with
    | some a, some b => (makeSliceS P ty a b).map fun q => ⟨.sl j 0 0 q.2.1 q.2.2.1 q.2.2.2.1 true (sameOp l c), h, [.b q.1], none, q.2.2.2.2⟩
    | _, _ => none
  | .load ty x => match ev t x with
    | some a => (loadS P ty h a).map (.of h)
    | none => none
  | .store ty x y => match ev t x, ev t y with
    | some a, some v => (storeS P ty h v a).map fun q => ⟨.tup [], q.1, [], none, q.2⟩
    | _, _ => none
  | .nilCheck x => match ev t x with
    | some (.ptr b o i) => some (.of h (.ptr b o i, true))
    | some (.rpi k xs i) => some (.of h (.rpi k xs i, true))
    | some (.rpl f z l g e o i) => some (.of h (.rpl f z l g e o i, true))
    | some (.fn (.func f) a b) => some (.of h (.fn (.func f) a b, true))
    | _ => none
  | .binOp op ty x y _ => match ev t x, ev t y with
    | some (.int k a), some (.int k' b) => (binI op k a k' b).map (.of h)
    | some a, some b => (eqS P op ty x y a b).map (.of h)
    | _, _ => none
  | .unOp op _ x => match ev t x with
    | some a => (unS op a).map fun v => .of h (v, true)
    | none => none
  | .convert src dst x => convR P h src dst (ev t x)
  | .sliceToArrayPointer arr x => match P.underlying arr, ev t x with
    | some (.array (n + 1) e), some (.sl b o i 1 len _ _ _) => match isInt P e with
      | some _ => some (.of h (.ptr b o i, decide (n + 1 ≤ len)))
      | none => none
    | some (.array (n + 1) e), some (.ro _ k xs) => match isInt P e with
      | some _ => some (.of h (.rpi k xs 0, decide (n + 1 ≤ xs.length)))
      | none => none
    | _, _ => none
  | .makeInterface ty x => match P.underlying ty, ev t x with
    | some (.interface _), _ => none
    | some _, some v => if one v then some (.of h (.iface ty v, true)) else none
    | _, _ => none
  | .makeFunc fn first captured => match evL t first.toList, evL t captured.toList with
    | some a, some b => some (.of h (.fn fn a b, true))
    | _, _ => none
  | .fieldAddr ty x i => match ev t x with
    | some a => (fieldAddrS P ty i a).map fun v => .of h (v, true)
    | none => none
  | .field ty x i => match ev t x with
    | some a => (fieldS P ty i a).map (.of h)
    | none => none
  | .indexAddr ty x i => match ev t x, ev t i with
    | some a, some b => (indexAddrS P ty a b).map (.of h)
    | _, _ => none
  | .index ty x i => match ev t x, ev t i with
    | some a, some b => (indexS P ty a b).map (.of h)
    | _, _ => none
  | .slice ty x lo hi mx => match ev t x, evO t lo, evO t hi, evO t mx with
    | some a, some l, some u, some m => (sliceS P ty h a l u m).map (.of h)
    | _, _, _, _ => none
  | .typeAssert x _ asserted ok => match ev t x with
    | some a => (assertS P asserted ok a).map fun v => .of h (v, true)
    | none => none
  | .extract x i => match ev t x with
    | some (.tup vs) => (vs[i]?).map fun v => .of h (v, true)
    | _ => none
  | .call c => match c.callee with
    | .value f => match ev t f, evL t c.args.toList with
      | some (.fn f first capt), some vs => match yOK f capt with
        | true => (G f (first ++ vs ++ capt) h j).map fun q => ⟨q.1, q.2.1, q.2.2.1, none, q.2.2.2⟩
        | false => none
      | _, _ => none
    | .builtin .len => match c.argTypes.toList, evL t c.args.toList with
      | [ty], some [a] => (lenS P ty a).map fun v => .of h (v, true)
      | _, _ => none
    | .builtin .cap => match c.argTypes.toList, evL t c.args.toList with
      | [ty], some [a] => (capS P ty a).map fun v => .of h (v, true)
      | _, _ => none
    | .builtin .min => match evL t c.args.toList with
      | some (.int k a :: vs) => (minI k a vs).map fun n => .of h (.int k n, true)
      | _ => none
    | .builtin .append => match c.argTypes.toList, evL t c.args.toList with
      | [ty, xt], some [a, b] => appendS P k h j ((o.dst.map inp).getD false) ty xt a b
      | _, _ => none
    | .builtin .copy => match c.argTypes.toList, evL t c.args.toList with
      | [ty, _], some [a, b] => (copyS P h ty a b).map fun q => ⟨q.2.1, q.1, [], none, q.2.2⟩
      | _, _ => none
    | _ => none
  | _ => none

def putT (t : List (Option SV)) (d : Option Tmp) (v : SV) : List (Option SV) :=
  match d with
  | some i => t.set i (some v)
  | none => t
/-- The slots that do not lead to the block. -/
def killT (b : Option Nat) (t : List (Option SV)) : List (Option SV) := match b with
  | none => t
  | some b => t.map fun | some v => if uses b v then none else some v | none => none

/-- What a test at a slot is taken to say. -/
def takeS (sym : Tmp → Option Bool) (d : Option Tmp) (v : SV) : SV × Bool :=
  match d with
  | none => (v, true)
  | some i => match sym i with
    | none => (v, true)
    | some b => match v with
      | .bool x => (.bool b, match b with | true => x | false => !x)
      | _ => (v, true)

/-- Whether an operation is wanted, where that is known. -/
def wantS (ops : Array Oper) (t : List (Option SV)) (o : Oper) : Option Bool :=
  match o.guard with
  | none => some true
  | some (j, want) => match (ops.toList[j]?).bind (·.dst) with
    | none => some false
    | some i => match t[i]? with
      | none => some false
      | some none => none
      | some (some (.bool b)) => some (b == want)
      | some (some (.nl _)) => none
      | some (some _) => some false

/-- Blocks at the numbers from j on. -/
def fillH (h : List Blk) (j : Nat) : List Blk → List Blk
  | [] => h
  | b :: bs => fillH (h.set j b) (j + 1) bs

/-- The blocks behind new ones from the number j on. -/
def placeH (h : List Blk) (j : Nat) (new : List Blk) : List Blk := if j = h.length then h ++ new else fillH h j new

/-- One operation of a region whose order is the text's. -/
def stepI (G : CallFn) (sym : Tmp → Option Bool) (inp : Tmp → Bool) (k : Nat) (ops : Array Oper) (o : Oper) (s : St) : Option St :=
  match wantS ops s.t o with
  | some true => match opS P G inp k s.t s.h s.h.length o with
    | some r => some ⟨putT (killT r.kill s.t) o.dst (takeS sym o.dst r.v).1, placeH r.h s.h.length r.new, andT (andT s.ob r.p) (takeS sym o.dst r.v).2⟩
    | none => none
  | some false => some ⟨putT s.t o.dst (.tup []), s.h, s.ob⟩
  | none => none

def runOps (G : CallFn) (sym : Tmp → Option Bool) (inp : Tmp → Bool) (k : Nat) (ops : Array Oper) : List Nat → St → Option St
  | [], s => some s
  | i :: is, s => match ops.toList[i]? with
    | none => runOps G sym inp k ops is s
    | some o => match stepI P G sym inp k ops o s with
      | some s' => runOps G sym inp k ops is s'
      | none => none

/-! ### Regions that draw their order -/
/-- How many blocks an operation makes. -/
def nmk (nb : FuncId → Nat) : Op → Nat
  | .alloc _ | .box .. | .buildSlice .. | .makeSlice .. => 1
  | .call c => match c.callee with
    | .value (.func f) => nb f
    | _ => 0
  | _ => 0
def makes (nb : FuncId → Nat) (ops : List Oper) : Nat := (ops.map fun o => nmk nb o.op).sum
/-- The number that is kept for the first block of the i-th operation. -/
def resv (nb : FuncId → Nat) (ops : List Oper) (n i : Nat) : Nat := n + makes nb (ops.take i)

/-- Does a conversion look at a block? -/
def convC (src dst : TypeId) : Bool := match P.underlying src, P.underlying dst with
  | some (.slice _), some .string => true
  | _, _ => false
/-- 0: it looks at no block; 1: a load; 2: a store; 4: a call that reads blocks; 5: any other. -/
def clsOf (pf : FuncId → Nat) : Op → Nat
  | .load .. => 1
  | .store .. => 2
  | .call c => match c.callee with
    | .value (.func f) => match pf f with
      | 0 => 0
      | 1 => 4
      | _ => 5
    | .builtin .len => 0
    | .builtin .cap => 0
    | .builtin .min => 0
    | _ => 5
  | .convert src dst _ => match convC P src dst with
    | true => 5
    | false => 0
  | .slice .. => 1
  | _ => 0

/-- The block that a load or a store looks at. -/
def addrB (t : List (Option SV)) : Op → Option Nat
  | .load _ x | .store _ x _ | .slice _ x _ _ _ => match ev t x with
    | some (.ptr b _ _) => some b
    | _ => none
  | _ => none
/-- An address in a block made in this region belongs to an operation that comes before. -/
def addrOK (nb : FuncId → Nat) (ops : List Oper) (n : Nat) (m : List Nat) (i : Nat) (t : List (Option SV)) (o : Op) : Bool := match addrB t o with
  | none => true
  | some b => Nat.ble (b + 1) n || (List.range i).any fun j => (m.getD i 0).testBit j && (match ops[j]? with
    | some x => Nat.ble (resv nb ops n j) b && Nat.ble (b + 1) (resv nb ops n j + nmk nb x.op)
    | none => false)

/-- The numbers from j on are kept. -/
def gapsAt (h : List Blk) (j : Nat) : Nat → Bool
  | 0 => true
  | n + 1 => (match h[j]? with | some .gap => true | _ => false) && gapsAt h (j + 1) n

/-- An operation of a region that draws its order. -/
def opD (Γ : Ctr) (G : CallFn) (k : Nat) (ops : List Oper) (n : Nat) (m : List Nat) (i : Nat) (t : List (Option SV)) (h : List Blk) (o : Oper) : Option (SV × List Blk × Bool) :=
  match addrOK Γ.nb ops n m i t o.op, opS P G (fun _ => true) k t h (resv Γ.nb ops n i) o with
  | true, some r => match r.kill.isNone && decide (r.new.length = nmk Γ.nb o.op) && gapsAt h (resv Γ.nb ops n i) (nmk Γ.nb o.op) && decide (r.h.length = h.length) with
    | true => some (r.v, fillH r.h (resv Γ.nb ops n i) r.new, r.p)
    | false => none
  | _, _ => none
def stepD (Γ : Ctr) (G : CallFn) (k : Nat) (ops : Array Oper) (n : Nat) (m : List Nat) (i : Nat) (o : Oper) (s : St) : Option St :=
  match wantS ops s.t o with
  | some true => match opD P Γ G k ops.toList n m i s.t s.h o with
    | some q => some ⟨putT s.t o.dst (takeS Γ.sym o.dst q.1).1, q.2.1, andT (andT s.ob q.2.2) (takeS Γ.sym o.dst q.1).2⟩
    | none => none
  | some false => some ⟨putT s.t o.dst (.tup []), s.h, s.ob⟩
  | none => none
def runD (Γ : Ctr) (G : CallFn) (k : Nat) (ops : Array Oper) (n : Nat) (m : List Nat) : List Nat → St → Option St
  | [], s => some s
  | i :: is, s => match ops.toList[i]? with
    | none => runD Γ G k ops n m is s
    | some o => match stepD P Γ G k ops n m i o s with
      | some s' => runD Γ G k ops n m is s'
      | none => none

/-- Two operations of these classes, which make so many blocks, may change places. -/
def clsC (a na b nb : Nat) : Bool :=
  (a == 0 && (b == 0 || b == 1 || b == 2 || na == 0)) || (b == 0 && (a == 1 || a == 2 || (a == 4 && na == 0) || nb == 0)) || ((a == 1 || a == 4) && (b == 1 || b == 4) && na == 0 && nb == 0)
def commB (Γ : Ctr) (ops : Array Oper) (x y : Oper) : Bool :=
  x.apart ops y && clsC (clsOf P Γ.pf x.op) (nmk Γ.nb x.op) (clsOf P Γ.pf y.op) (nmk Γ.nb y.op)

def maskOf (acc : List Nat) (o : Oper) : Nat :=
  o.after.toList.foldl (fun s e => if Region.binds .any e then s ||| 2 ^ e.on ||| acc.getD e.on 0 else s) 0
/-- Of each operation the set of those that must come before it. -/
def masks : List Oper → List Nat → List Nat
  | [], acc => acc
  | o :: os, acc => masks os (acc ++ [maskOf acc o])
/-- Whatever the order in which a region's operations are taken, they come to the same. -/
def drawOK (Γ : Ctr) (ops : Array Oper) : Bool :=
  let m := masks ops.toList []
  ops.toList.zipIdx.all fun (y, j) => y.after.toList.all (fun e => !Region.binds .any e || decide (e.on < j)) &&
    (ops.toList.zipIdx.take j).all fun (x, i) => (m.getD j 0).testBit i || commB P Γ ops x y

def resS (t : List (Option SV)) (h : List Blk) : List ResultVar → Option (List SV × Bool)
  | [] => some ([], true)
  | .tmp i :: rs => match ev t (.tmp i), resS t h rs with
    | some v, some (l, p) => some (v :: l, p)
    | _, _ => none
  | .cell a ty :: rs => match ev t (.tmp a) with
    | some x => match loadS P ty h x, resS t h rs with
      | some (v, q), some (l, p) => some (v :: l, andT p q)
      | _, _ => none
    | none => none
def oneOf : List SV → SV
  | [v] => v
  | vs => .tup vs
/-- The slots at a function's beginning. -/
def slots0 (n : Nat) (args : List SV) : List (Option SV) := args.map some ++ List.replicate (n - args.length) none

/-- A whole call, by a way to go through code: the value, the blocks, what must hold. -/
def callW (ex : Code → St → Option (Exit × St)) (fn : Func) (args : List SV) (h : List Blk) : Option (SV × List Blk × Bool) :=
  match fn.body with
  | none => none
  | some c => match ex c ⟨slots0 fn.ntmps args, h, true⟩ with
    | some (.ret, s) => (resS P s.t s.h fn.results.toList).map fun q => (oneOf q.1, s.h, andT s.ob q.2)
    | some (.normal, s) => (resS P s.t s.h fn.results.toList).map fun q => (oneOf q.1, s.h, andT s.ob q.2)
    | _ => none
/-- yield's arguments laid into the slots. -/
def setTs (t : List (Option SV)) : List Tmp → List SV → List (Option SV)
  | i :: is, v :: vs => setTs (t.set i (some v)) is vs
  | _, _ => t
/-- The last loop that is ready. -/
def readyL : List Blk → Nat → Option (Nat × Lp)
  | [], _ => none
  | b :: bs, i => match readyL bs (i + 1) with
    | some q => some q
    | none => match b with
      | .g (some L) => match L.st with
        | .ready => some (i, L)
        | _ => none
      | _ => none
def jumpOf : Exit → Option (Option Code)
  | .normal => some none
  | .ret => some (some .ret)
  | .exit id => some (some (.exit id))
  | _ => none
def lpAt (h : List Blk) (i : Nat) : Option Lp := match h[i]? with
  | some (.g (some L)) => some L
  | _ => none
/-- A call of yield: one round. -/
def yieldW (ex : Code → St → Option (Exit × St)) (l : Nat) (vs : List SV) (h : List Blk) : Option (SV × List Blk × Bool) :=
  match readyL h 0 with
  | none => none
  | some (i, L) => match Nat.beq L.ps.size vs.length, ex L.asg ⟨setTs L.t L.ps.toList vs, h, decide (L.l = l)⟩ with
    | true, some (.normal, s1) => match lpAt s1.h i with
      | none => none
      | some L1 => match L1.st, ex L.body ⟨s1.t, s1.h.set i (.g (some { L1 with st := .busy })), andT s1.ob (decide (L1.l = l))⟩ with
        | .ready, some (x, s2) => match jumpOf x, lpAt s2.h i with
          | some q, some L2 => some (.bool q.isNone, s2.h.set i (.g (some { L2 with st := if q.isNone then .ready else .done, pend := q })), andT s2.ob (decide (L2.l = l)))
          | _, _ => none
        | _, _ => none
    | _, _ => none
/-- Calls: those taken in, the others by their contracts. -/
def callG (Γ : Ctr) (ex : Nat → Code → St → Option (Exit × St)) : CallFn := fun f vs h j =>
  match f with
  | .func f => match Γ.inl f with
    | some fn => match callW P (ex h.length) fn vs h with
      | some (v, h', p) => if Nat.beq (h'.length - h.length) 0 || Nat.beq j h.length then some (v, h'.take h.length, h'.drop h.length, p) else none
      | none => none
    | none => Γ.g f vs h j
  | .yield l => match yieldW (ex h.length) l vs h with
    | some (v, h', p) => if Nat.beq (h'.length - h.length) 0 || Nat.beq j h.length then some (v, h'.take h.length, h'.drop h.length, p) else none
    | none => none
  | _ => none

/-- Code, from state to state; the first number bounds the steps, the second says how many blocks were there when the function began. -/
def exec (Γ : Ctr) : Nat → Nat → Code → St → Option (Exit × St)
  | 0, _, _, _ => none
  | n + 1, k, c, s => match c with
    | .skip => some (.normal, s)
    | .label _ => some (.normal, s)
    | .seq a b => match exec Γ n k a s with
      | some (.normal, s') => exec Γ n k b s'
      | r => r
    | .cond c x y => match ev s.t c with
      | some (.bool true) => exec Γ n k x s
      | some (.bool false) => exec Γ n k y s
      | _ => none
    | .block id b => match exec Γ n k b s with
      | some (.exit j, s') => if j = id then some (.normal, s') else some (.exit j, s')
      | r => r
    | .loop b => match exec Γ n k b s with
      | some (.normal, s') => exec Γ n k (.loop b) s'
      | r => r
    | .exit id => some (.exit id, s)
    | .ret => some (.ret, s)
    | .region _ ops draw => match draw with
      | true => if P.follows .mixedOrders && drawOK P Γ ops then
        (runD P Γ (callG P Γ fun k => exec Γ n k) k ops s.h.length (masks ops.toList []) (List.range ops.size) ⟨s.t, s.h ++ List.replicate (makes Γ.nb ops.toList) .gap, s.ob⟩).map fun s' => (.normal, s') else none
      | false => (runOps P (callG P Γ fun k => exec Γ n k) Γ.sym Γ.inp k ops (List.range ops.size) s).map fun s' => (.normal, s')
    | _ => none
/-- A whole call: the value, the blocks, what must hold. -/
def callS (Γ : Ctr) (n : Nat) (fn : Func) (args : List SV) (h : List Blk) : Option (SV × List Blk × Bool) := callW P (exec P Γ n h.length) fn args h
end
end Go.Sy
