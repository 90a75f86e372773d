/- This file defines the small functional interpreter of the model's code ('exec') over tracked blocks, and the relation 'Rel' between tracked blocks and the machine's world. No conditions: definitions and their plain laws. -/
import Derived.Test.YtailgcdcdhhpnaaLiftA
import Derived.Laws.CopyRow
import Derived.Orders
import Derived.Laws.StructEq
namespace Go.Lift
open Go

/-- A tracked block: its own cells (as values, as integers), or a stretch that is only read. -/
inductive Blk where
  | c (vs : List Value) (t : TypeId)
  | s (k : IntKind) (xs : List Int) (t : TypeId)
  | r (vs : List Value)
  | rs (k : IntKind) (xs : List Int)

def intsV (k : IntKind) (xs : List Int) : List Value := xs.map (Value.int k)

def Blk.vals : Blk → List Value
  | .c vs _ => vs
  | .s k xs _ => intsV k xs
  | .r vs => vs
  | .rs k xs => intsV k xs

def Blk.own : Blk → Option TypeId
  | .c _ t => some t
  | .s _ _ t => some t
  | _ => none

/-! ### Integers of cells -/
/-- The integers of cells of one kind. -/
def ints (k : IntKind) : List Value → Option (List Int)
  | [] => some []
  | .int k' n :: vs => if k = k' then (match ints k vs with | some l => some (n :: l) | none => none) else none
  | _ => none
theorem ints_eq {k : IntKind} : ∀ {cs : List Value} {l : List Int}, ints k cs = some l → cs = intsV k l
  | [], l, e => by simp only [ints, Option.some.injEq] at e; subst e; rfl
  | .int k' n :: vs, l, e => by
    simp only [ints] at e
    split at e
    · rename_i hk
      subst hk
      split at e
      · rename_i l' hl
        cases e
        rw [ints_eq hl]; rfl
      · cases e
    · cases e
theorem ints_intsV {k : IntKind} : ∀ (l : List Int), ints k (intsV k l) = some l
  | [] => rfl
  | n :: l => by
    have := ints_intsV (k := k) l
    simp only [intsV, List.map_cons, ints, if_true] at this ⊢
    rw [this]
theorem plain_ints (k : IntKind) : ∀ l : List Int, plainL (intsV k l) = true
  | [] => rfl
  | _ :: l => by have := plain_ints k l; simpa [intsV, plainL, plain] using this

def aggI (k : IntKind) (xs : List Int) : Value := .agg ⟨intsV k xs⟩
theorem plain_aggI (k : IntKind) (l : List Int) : plain (aggI k l) = true := by simp [aggI, plain, plain_ints]

/-- The first n of a list, written out. -/
def lst (n : Nat) (l : List Int) : List Int := (List.range n).map fun i => l.getD i 0
theorem lst_eq {n : Nat} {l : List Int} (h : l.length = n) : lst n l = l := by
  apply List.ext_getElem?
  intro i
  unfold lst
  rw [List.getElem?_map]
  rcases Nat.lt_or_ge i n with hi | hi
  · rw [List.getElem?_range hi]
    simp [List.getD, List.getElem?_eq_getElem (show i < l.length by omega)]
  · rw [List.getElem?_eq_none (by simpa using hi), List.getElem?_eq_none (by omega)]; rfl
theorem lst_length (n : Nat) (l : List Int) : (lst n l).length = n := by simp [lst]
/-- The integers of an aggregate, if there are so many. -/
def intsN (k : IntKind) (n : Nat) (cs : List Value) : Option (List Int) :=
  match ints k cs with
  | some l => if l.length = n then some l else none
  | none => none
theorem intsN_eq {k : IntKind} {n : Nat} {cs : List Value} {l : List Int} (h : intsN k n cs = some l) : cs = intsV k (lst n l) ∧ l.length = n := by
  unfold intsN at h
  split at h
  · rename_i l' hl
    split at h
    · rename_i hn; cases h; exact ⟨by rw [lst_eq hn, ints_eq hl], hn⟩
    · cases h
  · cases h
theorem intsN_intsV {k : IntKind} {n : Nat} {l : List Int} (h : l.length = n) : intsN k n (intsV k l) = some l := by
  unfold intsN; rw [ints_intsV]; simp [h]

/-- A list of places, read. -/
abbrev lk (r : List Pl) : Nat → Option Pl := fun i => r[i]?

def BR (r : Nat → Option Pl) (p : Pl) (b : Blk) (o : Obj) : Prop :=
  (∀ t, b.own = some t → p.base = 0 ∧ p.ro = false ∧ ∃ ys, LR r b.vals ys ∧ o = .cells ⟨ys⟩ t (0, 0)) ∧
  (b.own = none → p.ro = true ∧ ∃ c t fr, o = .cells c t fr ∧ LR r b.vals ((c.toList.drop p.base).take b.vals.length))

theorem BR.mono {r s : Nat → Option Pl} (h : ∀ (i : Nat) (b : Pl), r i = some b → s i = some b) {p : Pl} {b : Blk} {o : Obj} (e : BR r p b o) : BR s p b o :=
  ⟨fun t ht => let ⟨h1, h2, ys, e, q⟩ := e.1 t ht; ⟨h1, h2, ys, LR.mono h _ ys e, q⟩,
   fun hn => let ⟨h1, c, t, fr, q, e⟩ := e.2 hn; ⟨h1, c, t, fr, q, LR.mono h _ _ e⟩⟩

/-- World 'w', begun at 'w0' with 'k' tracked blocks, is as the tracked blocks 'h' at the places 'r' say. -/
structure Rel (k : Nat) (w0 : World) (r : List Pl) (h : List Blk) (w : World) : Prop where
  os : w.os = w0.os
  tape : w.tape = w0.tape
  output : w.output = w0.output
  size : w0.heap.size ≤ w.heap.size
  nodup : ∀ (i j : Nat) (p q : Pl), r[i]? = some p → r[j]? = some q → p.n = q.n → i = j ∨ (p.ro = true ∧ q.ro = true)
  len : r.length = h.length
  news : ∀ (i : Nat) (p : Pl), k ≤ i → r[i]? = some p → w0.heap.size ≤ p.n
  blk : ∀ (i : Nat) (b : Blk), h[i]? = some b → ∃ p o, r[i]? = some p ∧ w.heap[p.n]? = some o ∧ BR (lk r) p b o
  old : ∀ n : Nat, n < w0.heap.size → (∀ (i : Nat) (p : Pl), i < k → r[i]? = some p → p.n = n → p.ro = true) → w.heap[n]? = w0.heap[n]?
  kle : k ≤ h.length

/-- The slots (none: not known), the blocks, what must hold. -/
structure St where
  t : List (Option Value)
  h : List Blk
  ob : Bool

def TR (r : Nat → Option Pl) (t : List (Option Value)) (t' : List Value) : Prop :=
  t.length = t'.length ∧ ∀ (i : Nat) (v v' : Value), t[i]? = some (some v) → t'[i]? = some v' → VR r v v'

/-- Contracts of functions: what a call yields, the blocks behind it, what must hold; which functions leave the blocks alone; what the tests at some slots are taken to say. -/
structure Ctr where
  g : FuncId → List Value → List Blk → Option (Value × List Blk × Bool)
  pf : FuncId → Nat
  sym : Tmp → Option Bool

section
variable (P : Program)

def szOf (t : TypeId) : Option Nat := (P.info? t).map (·.size)
def zeroOf (t : TypeId) : Option Value := (P.info? t).bind (·.zero)
def aggB (t : TypeId) : Option Bool := (P.underlying t).map fun | .struct _ => true | .array _ _ => true | _ => false

def ev (t : List (Option Value)) : Operand → Option Value
  | .tmp i => match t[i]? with
    | some (some v) => some v
    | _ => none
  | .const v => if plain v then some v else none
  | .func f => some (.func (.func f) #[] #[])
  | .global _ => none

def evL (t : List (Option Value)) : List Operand → Option (List Value)
  | [] => some []
  | x :: xs => match ev t x, evL t xs with
    | some v, some vs => some (v :: vs)
    | _, _ => none

/-- An operand that need not be there. -/
def evO (t : List (Option Value)) : Option Operand → Option (Option Value)
  | none => some none
  | some x => (ev t x).map some

def cellsL : Value → List Value
  | .agg ⟨cs⟩ => cs
  | v => [v]

def cellAt (o : Nat) : Blk → Option (Value × Bool)
  | .c vs _ => (vs[o]?).map fun v => (v, true)
  | .r vs => (vs[o]?).map fun v => (v, true)
  | .s k xs _ => some (.int k (xs.getD o 0), decide (o < xs.length))
  | .rs k xs => some (.int k (xs.getD o 0), decide (o < xs.length))

def intCells (k : IntKind) (xs : List Int) (n : Nat) : Nat → List Value × Bool
  | 0 => (intsV k xs, n == xs.length)
  | o => (intsV k ((xs.drop o).take n), decide (o + n ≤ xs.length))

/-- n cells from place o on. -/
def cellsAt (o n : Nat) : Blk → List Value × Bool
  | .c vs _ => ((vs.drop o).take n, decide (o + n ≤ vs.length))
  | .r vs => ((vs.drop o).take n, decide (o + n ≤ vs.length))
  | .s k xs _ => intCells k xs n o
  | .rs k xs => intCells k xs n o

def loadS (t : TypeId) (h : List Blk) : Value → Option (Value × Bool)
  | .pointer (some ⟨b, o, none⟩) => match h[b]? with
    | some bl => match aggB P t with
      | some true => match szOf P t with
        | some n => some (.agg ⟨(cellsAt o n bl).1⟩, (cellsAt o n bl).2)
        | none => none
      | some false => cellAt o bl
      | none => none
    | none => none
  | _ => none

def putL (vs : List Value) (o : Nat) : List Value → List Value
  | [x] => vs.set o x
  | xs => vs.take o ++ xs ++ vs.drop (o + xs.length)

/-- The block behind a store of cells at place o. -/
def putB (o : Nat) (cs : List Value) : Blk → Option (Blk × Bool)
  | .c vs t => some (.c (putL vs o cs) t, decide (o + cs.length ≤ vs.length))
  | .s k xs t => match cs with
    | [.int k' n] => if k = k' then some (.s k (xs.set o n) t, decide (o < xs.length)) else none
    | cs => some (.c (putL (intsV k xs) o cs) t, decide (o + cs.length ≤ xs.length))
  | _ => none

def storeS (t : TypeId) (h : List Blk) (x : Value) : Value → Option (List Blk × Bool)
  | .pointer (some ⟨b, o, none⟩) => match h[b]? with
    | some bl => if szOf P t == some (cellsL x).length && (cellsL x).all Value.oneCell'
        then (putB o (cellsL x) bl).map fun (bl', p) => (h.set b bl', p) else none
    | none => none
  | _ => none

def bitsI (f : ∀ n, BitVec n → BitVec n → BitVec n) (k : IntKind) (a b : Int) : Int := k.wrap (f k.bits (BitVec.ofInt k.bits a) (BitVec.ofInt k.bits b)).toNat
def andI := bitsI fun _ a b => a &&& b
def orI := bitsI fun _ a b => a ||| b
def xorI := bitsI fun _ a b => a ^^^ b
def andNotI := bitsI fun _ a b => a &&& ~~~b
def shlI (k : IntKind) (a : Int) (n : Nat) : Int := k.wrap (a * 2 ^ (min n k.bits))
def shrI (k : IntKind) (a : Int) (n : Nat) : Int := a.fdiv (2 ^ (min n k.bits))

/-- A binary operator on integers, bools. The third part: what must hold. -/
def binS (op : BinOp) : Value → Value → Option (Value × Bool)
  | .int k a, .int k' b => match op with
    | .shl => some (.int k (shlI k a b.toNat), decide (0 ≤ b))
    | .shr => some (.int k (shrI k a b.toNat), decide (0 ≤ b))
    | _ => if k ≠ k' then none else match op with
      | .add => some (.int k (k.wrap (a + b)), true)
      | .sub => some (.int k (k.wrap (a - b)), true)
      | .mul => some (.int k (k.wrap (a * b)), true)
      | .quo => some (.int k (k.wrap (a.tdiv b)), b != 0)
      | .rem => some (.int k (a.tmod b), b != 0)
      | .and => some (.int k (andI k a b), true)
      | .or => some (.int k (orI k a b), true)
      | .xor => some (.int k (xorI k a b), true)
      | .andNot => some (.int k (andNotI k a b), true)
      | .eql => some (.bool (a == b), true)
      | .neq => some (.bool (a != b), true)
      | .lss => some (.bool (decide (a < b)), true)
      | .leq => some (.bool (decide (a ≤ b)), true)
      | .gtr => some (.bool (decide (a > b)), true)
      | .geq => some (.bool (decide (a ≥ b)), true)
      | _ => none
  | _, _ => none

/-- The fields behind the first one. -/
def flatFs (g : TypeId → Option (IntKind × Nat)) (k : IntKind) (at_ : Nat) : List Field → Option (IntKind × Nat)
  | [] => some (k, at_)
  | f :: rest => match g f.type with
    | some (k', m) => if k' = k ∧ f.name ≠ "_" ∧ f.offset = at_ ∧ szOf P f.type = some m then flatFs g k (at_ + m) rest else none
    | none => none

/-- The kind of a type's cells and their number, where all are integers of one kind. -/
def flatK : Nat → TypeId → Option (IntKind × Nat)
  | 0, _ => none
  | d + 1, t => match P.underlying t with
    | some (.int k) => some (k, 1)
    | some (.array n e) => match flatK d e with
      | some (k, m) => if szOf P e = some m then some (k, n * m) else none
      | none => none
    | some (.struct fs) => if P.stoodInHeld t then none else match fs.toList with
      | [] => none
      | f :: rest => match flatK d f.type with
        | some (k, m) => if f.name ≠ "_" ∧ f.offset = 0 ∧ szOf P f.type = some m then flatFs P (fun t => flatK d t) k m rest else none
        | none => none
    | _ => none

/-- '==' and '!=' on aggregates of integers of one kind, on bools. -/
def eqS (op : BinOp) (T : TypeId) : Value → Value → Option Value
  | .agg ⟨cs⟩, .agg ⟨ds⟩ => if P.eqGuardType P.depth T || aggB P T == some false then none else match flatK P 20 T with
    | some (k, n) => match intsN k n cs, intsN k n ds with
      | some l, some m => match op with
        | .eql => some (.bool (decide (l = m)))
        | .neq => some (.bool (!decide (l = m)))
        | _ => none
      | _, _ => none
    | none => none
  | .bool a, .bool b => match P.underlying T with
    | some .bool => match op with
      | .eql => some (.bool (a == b))
      | .neq => some (.bool (!(a == b)))
      | _ => none
    | _ => none
  | _, _ => none

def buildS (t : TypeId) (parts : List (Nat × Value)) : Option Value :=
  match zeroOf P t with
  | none => none
  | some z => if plain z then (P.built t parts).map fun cs => .agg ⟨cs.toList⟩ else none

def partS (t : TypeId) (cs : List Value) (o : Nat) : Option Value :=
  match aggB P t with
  | some true => match szOf P t with
    | some n => some (.agg ⟨(cs.drop o).take n⟩)
    | none => none
  | some false => cs[o]?
  | none => none

def fieldAddrS (t : TypeId) (i : Nat) : Value → Option Value
  | .pointer (some ⟨b, o, none⟩) => match P.underlying t with
    | some (.struct fs) => match fs.toList[i]? with
      | some f => match szOf P f.type with
        | some (_ + 1) => some (.pointer (some ⟨b, o + f.offset, none⟩))
        | _ => none
      | none => none
    | _ => none
  | _ => none

def fieldS (t : TypeId) (i : Nat) : Value → Option Value
  | .agg ⟨cs⟩ => match P.underlying t with
    | some (.struct fs) => match fs.toList[i]? with
      | some f => partS P f.type cs f.offset
      | none => none
    | _ => none
  | _ => none

def indexAddrS (t : TypeId) (x ix : Value) : Option (Value × Bool) :=
  match ix with
  | .int _ i => match P.underlying t, x with
    | some (.array len e), .pointer (some ⟨b, o, none⟩) => match szOf P e with
      | some n => some (.pointer (some ⟨b, o + i.toNat * n, none⟩), decide (0 ≤ i) && decide (i < len))
      | none => none
    | some (.slice e), .slice (some ⟨b, o, none⟩) len _ => match szOf P e with
      | some n => some (.pointer (some ⟨b, o + i.toNat * n, none⟩), decide (0 ≤ i) && decide (i < len))
      | none => none
    | _, _ => none
  | _ => none

def indexS (t : TypeId) (x ix : Value) : Option (Value × Bool) :=
  match ix, x with
  | .int _ i, .agg ⟨cs⟩ => match P.underlying t with
    | some (.array len e) => match szOf P e with
      | some n => (partS P e cs (i.toNat * n)).map fun v => (v, decide (0 ≤ i) && decide (i < len))
      | none => none
    | _ => none
  | _, _ => none

def convS (src dst : TypeId) : Value → Option Value
  | .int _ n => match P.underlying src, P.underlying dst with
    | some _, some (.int k) => some (.int k (k.wrap n))
    | _, _ => none
  | _ => none

def unS : UnOp → Value → Option Value
  | .neg, .int k n => some (.int k (k.wrap (0 - n)))
  | .xor, .int k n => some (.int k (xorI k (if k.signed then -1 else k.max) n))
  | .not, .bool b => some (.bool !b)
  | _, _ => none

/-- A slice's bound: what it is, what must hold. -/
def boundS (d y : Nat) : Option Value → Option (Nat × Bool)
  | none => some (d, true)
  | some (.int _ i) => some (i.toNat, decide (0 ≤ i) && decide (i ≤ y))
  | _ => none

/-- Where a slice's own address lies: an address is not moved to its very end. -/
def slOff (o l m n : Nat) : Nat := match l with
  | 0 => o
  | l => if m = l then o else o + l * n

/-- 'x[lo:hi]', x an array's address or a slice. -/
def sliceS (t : TypeId) (x : Value) (lo hi mx : Option Value) : Option (Value × Bool) :=
  match mx with
  | some _ => none
  | none => match P.underlying t, x with
    | some (.array n e), .pointer (some ⟨b, o, none⟩) => match szOf P e, boundS n n hi with
      | some z, some (h, p) => match boundS 0 h lo with
        | some (l, q) => some (.slice (some ⟨b, slOff o l n z, none⟩) (h - l) (n - l), p && q)
        | none => none
      | _, _ => none
    | some (.slice e), .slice (some ⟨b, o, none⟩) len cap => match szOf P e, boundS len cap hi with
      | some z, some (h, p) => match boundS 0 h lo with
        | some (l, q) => some (.slice (some ⟨b, slOff o l cap z, none⟩) (h - l) (cap - l), p && q)
        | none => none
      | _, _ => none
    | _, _ => none

def lenS (t : TypeId) : Value → Option Value
  | .slice _ n _ => match P.underlying t with
    | some (.slice _) => some (.int .i64 n)
    | _ => none
  | .agg _ => match P.underlying t with
    | some (.array n _) => some (.int .i64 n)
    | _ => none
  | _ => none

/-- '[]T{..}': its cells. -/
def buildSliceS (t : TypeId) (len : Nat) (parts : List (Nat × Value)) : Option (List Value × TypeId) :=
  match P.underlying t with
  | some (.slice e) => match szOf P e, zeroOf P e with
    | some (n + 1), some z => if plain z && decide (len * (n + 1) ≤ 2 ^ 24) then
        (Instr.fill (fun i => some (i * (n + 1), n + 1)) ((Array.range (len * (n + 1))).map fun i => z.cells[i % z.cells.size]!) parts).map fun cs => (cs.toList, e) else none
    | _, _ => none
  | _ => none

/-- 'make([]T, n, c)', T an integer kind: the kind, T, n, c, what must hold. -/
def makeSliceS (t : TypeId) : Value → Value → Option (IntKind × TypeId × Nat × Nat × Bool)
  | .int _ l, .int _ c => match P.underlying t with
    | some (.slice e) => match P.underlying e, P.info? e with
      | some (.int k), some i => match i.zero with
        | some (.int k' z) => if i.size = 1 ∧ k' = k ∧ z = 0 then
          some (k, e, l.toNat, c.toNat, (IntKind.i64.wrap l == l && IntKind.i64.wrap c == c) && (decide (0 ≤ l) && decide (l ≤ c) && decide (i.bytes * c ≤ 2 ^ 48))) else none
        | _ => none
      | _, _ => none
    | _ => none
  | _, _ => none

/-- One operation: what it yields, the blocks behind it, what must hold. -/
def opS (Γ : Ctr) (t : List (Option Value)) (h : List Blk) : Op → Option (Value × List Blk × Bool)
  | .move x | .assign x => (ev t x).map fun v => (v, h, true)
  | .pick c a b => match ev t c with
    | some (.bool true) => (ev t a).map fun v => (v, h, true)
    | some (.bool false) => (ev t b).map fun v => (v, h, true)
    | _ => none
  | .alloc e => match zeroOf P e with
    | some z => if plain z then some (.pointer (some ⟨h.length, 0, none⟩), h ++ [.c (cellsL z) e], true) else none
    | none => none
  | .box e x => (ev t x).map fun v => (.pointer (some ⟨h.length, 0, none⟩), h ++ [.c (cellsL v) e], true)
  | .build ty ps => match evL t (ps.toList.map (·.2)) with
    | some vs => (buildS P ty ((ps.toList.map (·.1)).zip vs)).map fun v => (v, h, true)
    | none => none
  | .buildSlice ty len ps => match evL t (ps.toList.map (·.2)) with
    | some vs => (buildSliceS P ty len ((ps.toList.map (·.1)).zip vs)).map fun (cs, e) => (.slice (some ⟨h.length, 0, none⟩) len len, h ++ [.c cs e], true)
    | none => none
  | .makeSlice ty l c => match ev t l, ev t c with
    | some a, some b => (makeSliceS P ty a b).map fun (k, e, n, m, p) => (.slice (some ⟨h.length, 0, none⟩) n m, h ++ [.s k (List.replicate m 0) e], p)
    | _, _ => none
  | .load ty x => match ev t x with
    | some a => (loadS P ty h a).map fun (v, p) => (v, h, p)
    | none => none
  | .store ty x y => match ev t x, ev t y with
    | some a, some v => (storeS P ty h v a).map fun (h', p) => (undef, h', p)
    | _, _ => none
  | .nilCheck x => match ev t x with
    | some (.pointer (some a)) => some (.pointer (some a), h, true)
    | _ => none
  | .binOp op ty x y _ => match ev t x, ev t y with
    | some a, some b => match binS op a b with
      | some (v, p) => some (v, h, p)
      | none => (eqS P op ty a b).map fun v => (v, h, true)
    | _, _ => none
  | .unOp op _ x => match ev t x with
    | some a => (unS op a).map fun v => (v, h, true)
    | none => none
  | .convert src dst x => match ev t x with
    | some a => (convS P src dst a).map fun v => (v, h, true)
    | none => none
  | .fieldAddr ty x i => match ev t x with
    | some a => (fieldAddrS P ty i a).map fun v => (v, h, true)
    | none => none
  | .field ty x i => match ev t x with
    | some a => (fieldS P ty i a).map fun v => (v, h, true)
    | none => none
  | .indexAddr ty x i => match ev t x, ev t i with
    | some a, some b => (indexAddrS P ty a b).map fun (v, p) => (v, h, p)
    | _, _ => none
  | .index ty x i => match ev t x, ev t i with
    | some a, some b => (indexS P ty a b).map fun (v, p) => (v, h, p)
    | _, _ => none
  | .slice ty x lo hi mx => match ev t x, evO t lo, evO t hi, evO t mx with
    | some a, some l, some u, some m => (sliceS P ty a l u m).map fun (v, p) => (v, h, p)
    | _, _, _, _ => none
  | .extract x i => match ev t x with
    | some (.tuple ⟨vs⟩) => (vs[i]?).map fun v => (v, h, true)
    | _ => none
  | .call c => match c.callee with
    | .value (.func f) => match evL t c.args.toList with
      | some vs => Γ.g f vs h
      | none => none
    | .builtin .len => match c.argTypes.toList, evL t c.args.toList with
      | [ty], some [a] => (lenS P ty a).map fun v => (v, h, true)
      | _, _ => none
    | _ => none
  | _ => none

def putT (t : List (Option Value)) (d : Option Tmp) (v : Value) : List (Option Value) :=
  match d with
  | some i => t.set i (some v)
  | none => t

/-- What a test at a slot is taken to say. -/
def takeS (Γ : Ctr) (d : Option Tmp) (v : Value) : Value × Bool :=
  match d with
  | none => (v, true)
  | some i => match Γ.sym i with
    | none => (v, true)
    | some b => match v with
      | .bool x => (.bool b, match b with | true => x | false => !x)
      | _ => (v, true)

/-- Whether an operation is wanted, where that is known. -/
def wantS (ops : Array Oper) (t : List (Option Value)) (o : Oper) : Option Bool :=
  match o.guard with
  | none => some true
  | some (j, want) => match (ops.toList[j]?).bind (·.dst) with
    | none => some false
    | some i => match t[i]? with
      | none => some false
      | some none => none
      | some (some (.bool b)) => some (b == want)
      | some (some _) => some false

/-- Both; what surely holds leaves no trace. -/
def andT (a b : Bool) : Bool := match b with
  | true => a
  | false => false
theorem andT_iff {a b : Bool} : andT a b = true ↔ a = true ∧ b = true := by cases a <;> cases b <;> decide

/-- One operation of a region. -/
def stepI (Γ : Ctr) (ops : Array Oper) (o : Oper) (s : St) : Option St :=
  match wantS ops s.t o with
  | some true => match opS P Γ s.t s.h o.op with
    | some (v, h, p) => some ⟨putT s.t o.dst (takeS Γ o.dst v).1, h, andT (andT s.ob p) (takeS Γ o.dst v).2⟩
    | none => none
  | some false => some ⟨putT s.t o.dst undef, s.h, s.ob⟩
  | none => none

/-- The operations at the places 'is'. -/
def runOps (Γ : Ctr) (ops : Array Oper) : List Nat → St → Option St
  | [], s => some s
  | i :: is, s => match ops.toList[i]? with
    | none => runOps Γ ops is s
    | some o => match stepI P Γ ops o s with
      | some s' => runOps Γ ops is s'
      | none => none

/-- 0: it looks at no block; 1: it reads blocks; 2: it writes or makes blocks. -/
def clsOf (pf : FuncId → Nat) : Op → Nat
  | .load .. => 1
  | .alloc _ | .box .. | .store .. | .buildSlice .. | .makeSlice .. => 2
  | .call c => match c.callee with
    | .value (.func f) => pf f
    | .builtin .len => 0
    | _ => 2
  | _ => 0

/-- Two operations that may change places. -/
def commB (pf : FuncId → Nat) (ops : Array Oper) (x y : Oper) : Bool :=
  x.apart ops y && (clsOf pf x.op == 0 || clsOf pf y.op == 0 || (clsOf pf x.op == 1 && clsOf pf y.op == 1))

def maskOf (acc : List Nat) (o : Oper) : Nat :=
  o.after.toList.foldl (fun s e => if Region.binds .any e then s ||| 2 ^ e.on ||| acc.getD e.on 0 else s) 0

/-- Of each operation the set of those that must come before it. -/
def masks : List Oper → List Nat → List Nat
  | [], acc => acc
  | o :: os, acc => masks os (acc ++ [maskOf acc o])

/-- Whatever the order in which a region's operations are taken, they come to the same. -/
def drawOK (pf : FuncId → Nat) (ops : Array Oper) : Bool :=
  let m := masks ops.toList []
  ops.toList.zipIdx.all fun (y, j) => y.after.toList.all (fun e => !Region.binds .any e || decide (e.on < j)) &&
    (ops.toList.zipIdx.take j).all fun (x, i) => (m.getD j 0).testBit i || commB pf ops x y

def exec (Γ : Ctr) : Nat → Code → St → Option (Exit × St)
  | 0, _, _ => none
  | n + 1, c, s => match c with
    | .skip => some (.normal, s)
    | .label _ => some (.normal, s)
    | .seq a b => match exec Γ n a s with
      | some (.normal, s') => exec Γ n b s'
      | r => r
    | .cond c x y => match ev s.t c with
      | some (.bool true) => exec Γ n x s
      | some (.bool false) => exec Γ n y s
      | _ => none
    | .block id b => match exec Γ n b s with
      | some (.exit j, s') => if j = id then some (.normal, s') else some (.exit j, s')
      | r => r
    | .loop b => match exec Γ n b s with
      | some (.normal, s') => exec Γ n (.loop b) s'
      | r => r
    | .exit id => some (.exit id, s)
    | .ret => some (.ret, s)
    | .region _ ops draw => if !draw || (P.follows .mixedOrders && drawOK Γ.pf ops) then (runOps P Γ ops (List.range ops.size) s).map fun s' => (.normal, s') else none
    | _ => none

def resS (t : List (Option Value)) (h : List Blk) : List ResultVar → Option (List Value × Bool)
  | [] => some ([], true)
  | .tmp i :: rs => match ev t (.tmp i), resS t h rs with
    | some v, some (l, p) => some (v :: l, p)
    | _, _ => none
  | .cell a ty :: rs => match ev t (.tmp a) with
    | some x => match loadS P ty h x, resS t h rs with
      | some (v, q), some (l, p) => some (v :: l, andT p q)
      | _, _ => none
    | none => none

def oneOf : List Value → Value
  | [v] => v
  | vs => .tuple ⟨vs⟩

/-- The slots at a function's beginning. -/
def slots0 (n : Nat) (args : List Value) : List (Option Value) := args.map some ++ List.replicate (n - args.length) none

/-- A whole call: the result, the blocks, what must hold. -/
def callS (Γ : Ctr) (n : Nat) (fn : Func) (args : List Value) (h : List Blk) : Option (Value × List Blk × Bool) :=
  match fn.body with
  | none => none
  | some c => match exec P Γ n c ⟨slots0 fn.ntmps args, h, true⟩ with
    | some (.ret, s) => (resS P s.t s.h fn.results.toList).map fun (vs, p) => (oneOf vs, s.h, andT s.ob p)
    | some (.normal, s) => (resS P s.t s.h fn.results.toList).map fun (vs, p) => (oneOf vs, s.h, andT s.ob p)
    | _ => none
end
end Go.Lift
