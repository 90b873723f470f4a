/- PROVED HERE: what the functions that the law FnExactReadInst reaches do in memory, each as a plain Lean function, and what these tell: part 1 of 5 of the proof of that law; no condition beyond those written out at each theorem. -/
import Derived.Calls
import Derived.Orders
import Derived.Test.YtlledfaplcgmdaaDoorProg
import Derived.KernelRfl
import Derived.Lib.ItoaMem
import Derived.Lib.LaidTab
import Derived.Wp
import Derived.Lib.FrozenHead
import Derived.Laws.Rows
import Derived.Laws.MakeOwn
import Derived.WalkKit
import Derived.Deep.MidRow
import Derived.Laws.CopyRow
import Derived.Great.FillDense
import Derived.Deep.AppendSrc
import Derived.Laws.BytesString
namespace Go.Proofs.YtlledfaplcgmdaaDoor.V
open Go
set_option linter.unusedVariables false
set_option linter.unusedSimpArgs false
noncomputable section

inductive T where
 | int (k : IntKind) | bool | str | list (t : T) | pair (a b : T) | unit
def T.Den : T → Type
 | .int _ => Int
 | .bool => Bool
 | .str => ByteArray
 | .list t => List t.Den
 | .pair a b => a.Den × b.Den
 | .unit => Unit
/-- How many cells. -/
def T.sz : T → Nat
 | .pair a b => a.sz + b.sz
 | .unit => 0
 | _ => 1
/-- No list inside. -/
def T.flat : T → Bool
 | .pair a b => a.flat && b.flat
 | .list _ => false
 | _ => true
def T.dflt : (t : T) → t.Den
 | .int _ => (0 : Int)
 | .bool => false
 | .str => ByteArray.empty
 | .list t => ([] : List t.Den)
 | .pair a b => (a.dflt, b.dflt)
 | .unit => ()
def T.eqb : T → T → Bool
 | .int k, .int k' => decide (k = k')
 | .bool, .bool => true
 | .str, .str => true
 | .list a, .list b => a.eqb b
 | .pair a b, .pair c d => a.eqb c && b.eqb d
 | .unit, .unit => true
 | _, _ => false
theorem T.eq_of_eqb : ∀ {a b : T}, a.eqb b = true → a = b
 | .int k, .int k', h => by simp only [T.eqb, decide_eq_true_eq] at h; rw [h]
 | .bool, .bool, _ => rfl
 | .str, .str, _ => rfl
 | .list a, .list b, h => by rw [eq_of_eqb (a := a) (b := b) h]
 | .pair a b, .pair c d, h => by
  simp only [T.eqb, Bool.and_eq_true] at h
  rw [eq_of_eqb h.1, eq_of_eqb h.2]
 | .unit, .unit, _ => rfl
/-- A datum of one code as one of another that is the same. -/
def castL {a b : T} (xs : List a.Den) : Option (List b.Den) := if h : a.eqb b = true then some (T.eq_of_eqb h ▸ xs) else none
theorem castL_eq {a b : T} {xs : List a.Den} {ys : List b.Den} (h : castL xs = some ys) : ∃ e : a = b, e ▸ xs = ys := by
 unfold castL at h
 split at h
 ·rename_i hh
  exact ⟨T.eq_of_eqb hh, by simpa using h⟩
 ·cases h
inductive C where
 | int (k : IntKind) (n : Int) | bool (b : Bool) | str (s : ByteArray)
 | lst (t : T) (xs : List t.Den)
 | nil
 | own (o e off : Nat)
 | nwn (o e : Nat) (p : List (Nat × Nat))
 | ptr (o off : Nat)
 | pel (o e : Nat) (p : List (Nat × Nat)) (i off : Nat)
 | at_ (t : T) (x : t.Den) (off : Nat)
 | fn (f : FuncId) (caps : List (Nat × Nat))
 | prs (l : List (Nat × Nat))                   -- a slice of pointers that is written no more
 | pad (l : List (Nat × Nat)) (i : Nat)          -- one of its places
 | nilp
 | err (b : Bool)                                 -- a value of an interface type: is it none?
inductive V where
 | val (agg : Bool) (cs : List C)
 | tup (vs : List (Bool × List C))
 | x
inductive Obj where
 | box (cs : List C)
 | cbox (cs : List C)
 | row (d : Bool) (t : T) (e : Nat) (xs : List t.Den)
 | fro (t : T) (e : Nat) (xs : List t.Den)      -- a row that is written no more
 | bld (ty el : Nat) (s : ByteArray)            -- a text that is put together
 | orow (t : T) (e : Nat) (xs : List t.Den) (i : Nat) (cs : List C)   -- a deep row, one element of which is open: the cells of that
abbrev Env := List (Nat × V)
abbrev Heap := List (Nat × Option Obj)
def get {α : Type} : List (Nat × α) → Nat → Option α
 | [], _ => none
 | (a, x) :: l, k => bif Nat.beq a k then some x else get l k
def Heap.at (H : Heap) (k : Nat) : Option Obj := match get H k with | some o => o | none => none
/-- The cells of a datum, all lists in it read only. -/
def cellsOf : (t : T) → t.Den → List C
 | .int k, n => [.int k n]
 | .bool, b => [.bool b]
 | .str, s => [.str s]
 | .list t, xs => [.lst t xs]
 | .pair a b, x => cellsOf a (Prod.fst (α := a.Den) (β := b.Den) x) ++ cellsOf b (Prod.snd (α := a.Den) (β := b.Den) x)
 | .unit, _ => []
/-- A list inside a datum, by its place among the cells. -/
structure Lens (t : T) where
 t1 : T
 get : t.Den → List t1.Den
 set : t.Den → List t1.Den → t.Den
def lensG : (t : T) → Nat → Option (Lens t)
 | .list t1, 0 => some ⟨t1, fun x => x, fun _ y => y⟩
 | .pair a b, off => bif Nat.blt off a.sz then (lensG a off).map fun l => ⟨l.t1, fun x => l.get (Prod.fst (α := a.Den) (β := b.Den) x), fun x y => (l.set (Prod.fst (α := a.Den) (β := b.Den) x) y, Prod.snd (α := a.Den) (β := b.Den) x)⟩
   else (lensG b (off - a.sz)).map fun l => ⟨l.t1, fun x => l.get (Prod.snd (α := a.Den) (β := b.Den) x), fun x y => (Prod.fst (α := a.Den) (β := b.Den) x, l.set (Prod.snd (α := a.Den) (β := b.Den) x) y)⟩
 | _, _ => none
/-- A number inside a datum, by its place among the cells. -/
def lensI : (t : T) → Nat → IntKind → Option (t.Den → Int → t.Den)
 | .int k, 0, k' => bif decide (k = k') then some fun _ n => n else none
 | .pair a b, off, k => bif Nat.blt off a.sz then (lensI a off k).map fun s x n => (s (Prod.fst (α := a.Den) (β := b.Den) x) n, Prod.snd (α := a.Den) (β := b.Den) x)
   else (lensI b (off - a.sz) k).map fun s x n => (Prod.fst (α := a.Den) (β := b.Den) x, s (Prod.snd (α := a.Den) (β := b.Den) x) n)
 | _, _, _ => none
structure TI where
 sz : Nat
 bytes : Nat
 agg : Bool
 zero : List C
 flds : List (Nat × Nat)          -- of a struct: offset and size of each field
 elem : Nat                       -- of a slice: the type of its elements
 t : T                            -- of what is data: its code
abbrev Tab := List (Nat × TI)
def cst : Value → Option V
 | .int k n => some (.val false [.int k n])
 | .bool b => some (.val false [.bool b])
 | .string s => some (.val false [.str s])
 | .pointer none => some (.val false [.nilp])
 | .nilIface => some (.val false [.err false])
 | .slice none 0 0 => some (.val false [.nil])
 | _ => none
def ev (env : Env) : Operand → Option V
 | .tmp t => get env t
 | .const v => cst v
 | .func f => some (.val false [.fn f []])
 | .global _ => none
def V.one : V → Option C
 | .val false [c] => some c
 | _ => none
def V.cells : V → Option (List C)
 | .val _ cs => some cs
 | _ => none
/-- What a slice reads as, and the objects that it takes with it. -/
def lc (H : Heap) (t : T) : C → Option (List t.Den × List Nat)
 | .lst t' xs => (castL xs).map fun ys => (ys, [])
 | .nil => some ([], [])
 | .own o e off => match H.at o with
  | some (.row _ _ e' xs) => bif Nat.beq e e' then (castL xs).map fun ys => (ys.drop off, [o]) else none
  | some (.fro _ e' xs) => bif Nat.beq e e' then (castL xs).map fun ys => (ys.drop off, []) else none
  | _ => none
 | _ => none
/-- A datum at the head of cells; the objects that it takes with it. -/
def dec (H : Heap) : (t : T) → List C → Option (t.Den × List Nat × List C)
 | .int k, .int k' n :: cs => bif decide (k = k') then some (n, [], cs) else none
 | .bool, .bool b :: cs => some (b, [], cs)
 | .str, .str s :: cs => some (s, [], cs)
 | .list t, c :: cs => (lc H t c).map fun x => (x.1, x.2, cs)
 | .pair a b, cs => (dec H a cs).bind fun x => (dec H b x.2.2).map fun y => ((x.1, y.1), x.2.1 ++ y.2.1, y.2.2)
 | .unit, cs => some ((), [], cs)
 | _, _ => none
/-- The same, where slices are read by l. -/
def decW (l : (t : T) → C → Option (List t.Den × List Nat)) : (t : T) → List C → Option (t.Den × List Nat × List C)
 | .int k, .int k' n :: cs => bif decide (k = k') then some (n, [], cs) else none
 | .bool, .bool b :: cs => some (b, [], cs)
 | .str, .str s :: cs => some (s, [], cs)
 | .list t, c :: cs => (l t c).map fun x => (x.1, x.2, cs)
 | .pair a b, cs => (decW l a cs).bind fun x => (decW l b x.2.2).map fun y => ((x.1, y.1), x.2.1 ++ y.2.1, y.2.2)
 | .unit, cs => some ((), [], cs)
 | _, _ => none
/-- What a slice reads as, rows with an open element among them. -/
def lcS (l : (t : T) → C → Option (List t.Den × List Nat)) (H : Heap) (t : T) : C → Option (List t.Den × List Nat)
 | .own o e off => match H.at o with
  | some (.orow t' e' xs i cs) => bif Nat.beq e e' then (match decW l t' cs with
   | some (x, ks, []) => (castL (b := t) (xs.set i x)).map fun ys => (ys.drop off, o :: ks)
   | _ => none) else none
  | _ => lc H t (.own o e off)
 | c => lc H t c
def lcO (H : Heap) (t : T) (c : C) : Option (List t.Den × List Nat) := lcS (lcS (lc H) H) H t c
/-- No slice that is read only: all lists in it are of one's own, to be moved. -/
def deepC (H : Heap) : C → Bool
 | .lst _ _ => false
 | .own o _ off => match H.at o with
  | some (.row d t _ _) => d || t.flat
  | _ => false
 | _ => true
def deepCs (H : Heap) (cs : List C) : Bool := cs.all (deepC H)
/-- What becomes of rows that go into another row: they are gone (moved), or written no more. -/
def freeze (H : Heap) (k : Nat) : Option Obj := match H.at k with
 | some (.row _ t e xs) => some (.fro t e xs)
 | some (.orow _ _ _ _ _) => none
 | x => x
def gone (H : Heap) (deep : Bool) (ks : List Nat) : Heap := ks.map fun k => (k, bif deep then none else freeze H k)
def strEq (a b : ByteArray) : Bool := a.toList == b.toList
def band (k : IntKind) (x y : Int) : Int := k.wrap (BitVec.ofInt k.bits x &&& BitVec.ofInt k.bits y).toNat
def bor (k : IntKind) (x y : Int) : Int := k.wrap (BitVec.ofInt k.bits x ||| BitVec.ofInt k.bits y).toNat
def bxor (k : IntKind) (x y : Int) : Int := k.wrap (BitVec.ofInt k.bits x ^^^ BitVec.ofInt k.bits y).toNat
def shl (k : IntKind) (x y : Int) : Int := k.wrap (x * 2 ^ (min y.toNat k.bits))
def shr (k : IntKind) (x y : Int) : Int := x.fdiv (2 ^ (min y.toNat k.bits))
def strOf (xs : List Int) : ByteArray := ⟨(xs.map fun n => UInt8.ofNat n.toNat).toArray⟩
def byteAt (s : ByteArray) (n : Nat) : Int := ((s.data.toList.getD n 0).toNat : Int)
def bytesL (s : ByteArray) : List Int := s.data.toList.map fun b => (b.toNat : Int)
def plusN (off n : Nat) : Nat := bif Nat.beq off 0 then n else off + n
def big : Nat := 9223372036854775807
def bin2 : BinOp → C → C → Option (Bool × C)
 | .shl, .int k a, .int _ b => some (decide (0 ≤ b), .int k (shl k a b))
 | .shr, .int k a, .int _ b => some (decide (0 ≤ b), .int k (shr k a b))
 | op, .int k a, .int k' b => bif decide (k = k') then (match op with
  | .add => some (true, .int k (k.wrap (a + b)))
  | .sub => some (true, .int k (k.wrap (a - b)))
  | .mul => some (true, .int k (k.wrap (a * b)))
  | .quo => some (!decide (b = 0), .int k (k.wrap (a.tdiv b)))
  | .rem => some (!decide (b = 0), .int k (a.tmod b))
  | .and => some (true, .int k (band k a b))
  | .or => some (true, .int k (bor k a b))
  | .xor => some (true, .int k (bxor k a b))
  | .eql => some (true, .bool (decide (a = b)))
  | .neq => some (true, .bool (!decide (a = b)))
  | .lss => some (true, .bool (decide (a < b)))
  | .leq => some (true, .bool (decide (a ≤ b)))
  | .gtr => some (true, .bool (decide (b < a)))
  | .geq => some (true, .bool (decide (b ≤ a)))
  | _ => none) else none
 | op, .str a, .str b => (match op with
  | .add => some (decide (a.size + b.size ≤ big), .str (a ++ b))
  | .eql => some (true, .bool (strEq a b))
  | .neq => some (true, .bool (!strEq a b))
  | _ => none)
 | .eql, .bool a, .bool b => some (true, .bool (a == b))
 | .neq, .bool a, .bool b => some (true, .bool (!(a == b)))
 | _, _, _ => none
/-- A type that is a slice (of what is known); a string. -/
def isSl (tab : Tab) (t : TypeId) : Bool := match get tab t with
 | some i => (get tab i.elem).isSome
 | none => false
def isSt (tab : Tab) (t : TypeId) : Bool := match get tab t with
 | some { zero := [.str _], agg := false, .. } => true
 | _ => false
def isNilK : Operand → Bool
 | .const .nilIface => true
 | _ => false
def tyIf (tab : Tab) (t : TypeId) : Bool := match get tab t with
 | some { zero := [.err _], agg := false, .. } => true
 | _ => false
def isB : C → Bool
 | .bool _ => true
 | _ => false
def tyBool (tab : Tab) (t : TypeId) : Bool := match get tab t with
 | some { zero := [.bool _], agg := false, .. } => true
 | _ => false
def un1 : UnOp → C → Option C
 | .not, .bool b => some (.bool !b)
 | .neg, .int k n => some (.int k (k.wrap (0 - n)))
 | .xor, .int k n => some (.int k (bxor k (if k.signed then -1 else k.max) n))
 | _, _ => none
/-- Cells from a place on. -/
def cut (off n : Nat) (cs : List C) : Option (List C) := bif Nat.ble (off + n) cs.length then some ((cs.drop off).take n) else none
def setR : List C → Nat → List C → List C
 | cs, _, [] => cs
 | cs, off, v :: vs => setR (cs.set off v) (off + 1) vs
/-- What is behind an address: the cells from there on, and under which condition it is there. -/
def behind (H : Heap) : C → Option (Bool × Nat × List C)
 | .ptr o off => match H.at o with
  | some (.box cs) => some (true, off, cs)
  | some (.cbox cs) => some (true, off, cs)
  | _ => none
 | .at_ t x off => some (true, off, cellsOf t x)
 | .pel o e [] i off => match H.at o with
  | some (.row _ t e' xs) => bif Nat.beq e e' then some (true, off, cellsOf t (xs.getD i t.dflt)) else none
  | some (.fro t e' xs) => bif Nat.beq e e' then some (true, off, cellsOf t (xs.getD i t.dflt)) else none
  | some (.orow _ e' _ j cs) => bif Nat.beq e e' then some (decide (i = j), off, cs) else none
  | _ => none
 | _ => none
def isLstC : C → Bool
 | .lst _ _ => true
 | _ => false
/-- Slices that are read out of a deep row: it is written no more. -/
def thawless (H : Heap) (c : C) (cs : List C) : Heap := match c with
 | .pel o _ _ _ _ => match H.at o with
  | some (.row true t e xs) => bif cs.any isLstC then [(o, some (.fro t e xs))] else []
  | _ => []
 | _ => []
/-- The parts of a composite literal, laid over the zero's cells. -/
def lay (flds : List (Nat × Nat)) : List C → List (Nat × V) → Option (List C)
 | cs, [] => some cs
 | cs, (i, v) :: rest => match flds[i]?, v.cells with
  | some (off, n), some vs => bif Nat.beq vs.length n && Nat.ble (off + n) cs.length then lay flds (setR cs off vs) rest else none
  | _, _ => none
/-- The elements of a slice literal: each part once, in order. -/
def elems (H : Heap) (t : T) : Nat → List (Nat × V) → Option (List t.Den × List Nat)
 | _, [] => some ([], [])
 | k, (i, v) :: rest => match v.cells with
  | some cs => bif Nat.beq i k then (match dec H t cs with
   | some (x, ks, []) => (elems H t (k + 1) rest).map fun y => (x :: y.1, ks ++ y.2)
   | _ => none) else none
  | none => none
def evParts (ρ : Operand → Option V) : List (Nat × Operand) → Option (List (Nat × V))
 | [] => some []
 | (i, x) :: rest => (ρ x).bind fun v => (evParts ρ rest).map fun l => (i, v) :: l
def evs (ρ : Operand → Option V) : List Operand → Option (List V)
 | [] => some []
 | x :: rest => (ρ x).bind fun v => (evs ρ rest).map fun l => v :: l
def ptrParts : Nat → List (Nat × V) → Option (List (Nat × Nat))
 | _, [] => some []
 | k, (i, v) :: rest => match v.one with
  | some (.ptr o off) => bif Nat.beq i k then (ptrParts (k + 1) rest).map fun l => (o, off) :: l else none
  | _ => none
def ptrLit (ps : List (Nat × V)) : Option (List (Nat × Nat)) := match ps with
 | [] => none
 | ps => ptrParts 0 ps
def distinct : List Nat → Bool
 | [] => true
 | k :: ks => !ks.contains k && distinct ks
def partsDeep (H : Heap) : List (Nat × V) → Bool
 | [] => true
 | (_, v) :: l => (match v.cells with | some cs => deepCs H cs | none => true) && partsDeep H l
def litDeep (H : Heap) (t : T) (ps : List (Nat × V)) : Bool := (!ps.isEmpty || t.flat) && partsDeep H ps
def isBoxAt (H : Heap) (k : Nat) : Bool := match H.at k with
 | some (.box _) => true
 | some (.cbox _) => true
 | _ => false
def isSeqAt (H : Heap) (k e : Nat) : Bool := match H.at k with
 | some (.row _ _ e' _) => Nat.beq e e'
 | some (.fro _ e' _) => Nat.beq e e'
 | some (.orow _ e' _ _ _) => Nat.beq e e'
 | _ => false
def fresh (H : Heap) (k : Nat) : Bool := (get H k).isNone
/-- Where a new object of an operation lies. -/
def key0 (o : Oper) : Nat := match o.dst with | some d => 100 + d * 16 | none => 100
def ptrs : List V → Option (List (Nat × Nat))
 | [] => some []
 | v :: l => match v.one with
  | some (.ptr o off) => (ptrs l).map fun r => (o, off) :: r
  | _ => none
/-- What is appended: the elements, whether all slices in them are of one's own, what objects go with them. -/
def src (H : Heap) (t : T) : C → Option (List t.Den × Bool × List Nat)
 | .nil => some ([], true, [])
 | .lst _ xs => (castL xs).map fun xs => (xs, t.flat, [])
 | .own o e off => match H.at o with
  | some (.row d _ e' xs) => bif Nat.beq e e' then (castL (b := t) xs).map fun xs => (xs.drop off, d || t.flat, bif t.flat then [] else [o]) else none
  | some (.fro _ e' xs) => bif Nat.beq e e' then (castL (b := t) xs).map fun xs => (xs.drop off, t.flat, []) else none
  | _ => none
 | .str s => (castL (a := .int .u8) (b := t) (bytesL s)).map fun xs => (xs, true, [])
 | _ => none
/-- A type that texts are put together in; the type of bytes. -/
def bldTy (i : TI) : Bool := match i.zero with | [.nilp, .nil] => i.agg | _ => false
def isByte (tab : Tab) (t : Nat) : Bool := match get tab t with | some { zero := [.int .u8 _], agg := false, .. } => true | _ => false
def byteEl (tab : Tab) : Nat := match tab.find? fun x => isByte tab x.2.elem with | some x => x.2.elem | none => 0
/-- A type whose zero value is told. -/
def getZ (tab : Tab) (t : Nat) : Option TI := (get tab t).bind fun i => bif i.zero.isEmpty then none else some i
/-- An operation that calls no function: under which condition it goes on, what comes, and what becomes of the objects. -/
def opv (tab : Tab) (H : Heap) (o : Oper) (ρ : Operand → Option V) : Option (Bool × V × Heap) :=
 match o.op with
 | .move x | .assign x => (ρ x).map fun v => (true, v, [])
 | .pick c a b => match (ρ c).bind V.one with
  | some (.bool p) => bif p then (ρ a).map fun v => (true, v, []) else (ρ b).map fun v => (true, v, [])
  | _ => none
 | .alloc t => (getZ tab t).bind fun i => bif fresh H (key0 o) then some (true, .val false [.ptr (key0 o) 0], [(key0 o, some (bif bldTy i then .bld t (byteEl tab) ByteArray.empty else .box i.zero))]) else none
 | .box _ x => ((ρ x).bind V.cells).bind fun cs => bif fresh H (key0 o) then some (true, .val false [.ptr (key0 o) 0], [(key0 o, some (.box cs))]) else none
 | .build t parts => match get tab t, evParts ρ parts.toList with
  | some i, some ps => bif i.agg then (lay i.flds i.zero ps).map fun cs => (true, .val true cs, []) else none
  | _, _ => none
 | .buildSlice t n parts => match (get tab t).bind fun i => get tab i.elem, evParts ρ parts.toList with
  | some i, some ps => match ptrLit ps with
   | some l => bif Nat.beq l.length n && Nat.beq i.sz 1 && Nat.ble n 1000 && Nat.blt 0 n then some (true, .val false [.prs l], []) else none
   | none => match elems H i.t 0 ps with
   | some (xs, ks) => bif Nat.beq xs.length n && Nat.ble (n * i.sz) 16777216 && Nat.beq i.sz i.t.sz && distinct ks && fresh H (key0 o) then
     some (true, .val false [.own (key0 o) 0 0], (key0 o, some (.row (litDeep H i.t ps) i.t 0 xs)) :: gone H (litDeep H i.t ps) ks) else none
   | none => none
  | _, _ => none
 | .load t a => match get tab t, ((ρ a).bind V.one).bind (behind H) with
  | some i, some (b, off, cs) => (cut off i.sz cs).map fun r => (b, .val i.agg r, match (ρ a).bind V.one with | some c => thawless H c r | none => [])
  | _, _ => none
 | .store t a x => match get tab t, (ρ a).bind V.one, (ρ x).bind V.cells with
  | some i, some (.ptr k off), some vs => match H.at k with
   | some (.box cs) => bif Nat.beq vs.length i.sz && Nat.ble (off + i.sz) cs.length then some (true, .x, [(k, some (.box (setR cs off vs)))]) else none
   | _ => none
  | some i, some (.pel k e [] j off), some vs => match H.at k with
   | some (.row d t e' xs) => bif Nat.beq off 0 && (Nat.beq e e' && Nat.beq vs.length i.sz && Nat.beq i.sz t.sz) then (match dec H t vs with
    | some (x, ks, []) => bif distinct (k :: ks) && (!d || deepCs H vs || t.flat) then some (true, .x, (k, some (.row d t e (xs.set j x))) :: gone H d ks) else none
    | _ => none) else none
   | some (.orow t e' xs i0 cs) => bif Nat.beq e e' && Nat.beq vs.length i.sz && Nat.ble (off + i.sz) cs.length then some (decide (j = i0), .x, [(k, some (.orow t e' xs i0 (setR cs off vs)))]) else none
   | _ => none
  | _, _, _ => none
 | .nilCheck x => match ρ x with
  | some (.val false [.ptr k off]) => bif isBoxAt H k then some (true, .val false [.ptr k off], []) else none
  | _ => none
 | .binOp op t x y _ => match (ρ x).bind V.one, (ρ y).bind V.one with
  | some (.err a), some (.err false) => bif isNilK y && tyIf tab t then (match op with
   | .eql => some (true, .val false [.bool !a], [])
   | .neq => some (true, .val false [.bool a], [])
   | _ => none) else none
  | some a, some b => bif !isB a || tyBool tab t then (bin2 op a b).map fun r => (r.1, .val false [r.2], []) else none
  | _, _ => none
 | .unOp op _ x => (((ρ x).bind V.one).bind (un1 op)).map fun c => (true, .val false [c], [])
 | .makeFunc (.func f) first captured => bif first.isEmpty then ((evs ρ captured.toList).bind ptrs).map fun l => (true, .val false [.fn f l], []) else none
 | .makeSlice t l c => match (get tab t).bind fun i => get tab i.elem, (ρ l).bind V.one, (ρ c).bind V.one with
  | some i, some (.int .i64 n), some (.int .i64 m) => bif Nat.beq i.sz i.t.sz && Nat.ble 1 i.bytes && fresh H (key0 o) then some (decide (n = m) && decide (0 ≤ n) && decide (n * i.bytes ≤ 281474976710656), .val false [.own (key0 o) 0 0], [(key0 o, some (.row true i.t 0 (List.replicate n.toNat i.t.dflt)))]) else none
  | _, _, _ => none
 | .fieldAddr s x f => match (get tab s).bind fun i => i.flds[f]?, (ρ x).bind V.one with
  | some (d, n), some (.ptr k off) => bif Nat.ble 1 n && isBoxAt H k then some (true, .val false [.ptr k (off + d)], []) else none
  | some (d, n), some (.at_ t v off) => bif Nat.ble 1 n then some (true, .val false [.at_ t v (off + d)], []) else none
  | some (d, n), some (.pel k e [] i off) => bif Nat.ble 1 n && isSeqAt H k e then some (true, .val false [.pel k e [] i (off + d)], []) else none
  | _, _ => none
 | .indexAddr ty x i => match (get tab ty).bind fun i => get tab i.elem, (ρ x).bind V.one, (ρ i).bind V.one with
  | some ie, some (.lst t xs), some (.int _ n) => bif Nat.beq ie.sz t.sz then some (decide (0 ≤ n) && decide (n < (xs.length : Int)), .val false [.at_ t (xs.getD n.toNat t.dflt) 0], []) else none
  | some ie, some (.prs l), some (.int _ n) => bif Nat.beq ie.sz 1 then some (decide (0 ≤ n) && decide (n < (l.length : Int)), .val false [.pad l n.toNat], []) else none
  | some ie, some (.own k e off), some (.int _ n) => match H.at k with
   | some (.row _ t e' xs) => bif Nat.beq e e' && Nat.beq ie.sz t.sz then some (decide (0 ≤ n) && decide (n < ((xs.length - off : Nat) : Int)), .val false [.pel k e [] (plusN off n.toNat) 0], []) else none
   | some (.fro t e' xs) => bif Nat.beq e e' && Nat.beq ie.sz t.sz then some (decide (0 ≤ n) && decide (n < ((xs.length - off : Nat) : Int)), .val false [.pel k e [] (plusN off n.toNat) 0], []) else none
   | some (.orow t e' xs _ _) => bif Nat.beq e e' && Nat.beq ie.sz t.sz then some (decide (0 ≤ n) && decide (n < ((xs.length - off : Nat) : Int)), .val false [.pel k e [] (plusN off n.toNat) 0], []) else none
   | _ => none
  | _, _, _ => none
 | .index ty x i => match (ρ x).bind V.one, (ρ i).bind V.one with
  | some (.str s), some (.int _ n) => bif isSt tab ty then some (decide (0 ≤ n) && decide (n < (s.size : Int)), .val false [.int .u8 (byteAt s n.toNat)], []) else none
  | _, _ => none
 | .slice ty x lo hi none => match (ρ x).bind V.one, (match lo with | some l => (ρ l).bind V.one | none => some (.int .i64 0)), (match hi with | some l => ((ρ l).bind V.one).map some | none => some none) with
  | some (.str s), some (.int _ a), some none => bif isSt tab ty then some (decide (0 ≤ a) && decide (a ≤ (s.size : Int)), .val false [.str (s.extract a.toNat s.size)], []) else none
  | some (.str s), some (.int _ a), some (some (.int _ b)) => bif isSt tab ty then some (decide (0 ≤ a) && decide (a ≤ b) && decide (b ≤ (s.size : Int)), .val false [.str (s.extract a.toNat b.toNat)], []) else none
  | some (.lst t xs), some (.int _ a), some h => match (get tab ty).bind fun i => get tab i.elem with
   | some ie => bif Nat.beq ie.sz t.sz then (match h with
    | none => some (decide (0 ≤ a) && decide (a ≤ (xs.length : Int)), .val false [.lst t (xs.drop a.toNat)], [])
    | some (.int _ b) => some (decide (0 ≤ a) && decide (a ≤ b) && decide (b ≤ (xs.length : Int)), .val false [.lst t ((xs.take b.toNat).drop a.toNat)], [])
    | _ => none) else none
   | none => none
  | some (.own k e off), some (.int _ a), some none => match (get tab ty).bind fun i => get tab i.elem, H.at k with
   | some ie, some (.row _ t e' xs) => bif Nat.beq e e' && Nat.beq ie.sz t.sz then some (decide (0 ≤ a) && decide (a ≤ ((xs.length - off : Nat) : Int)), .val false [.own k e (plusN off a.toNat)], []) else none
   | _, _ => none
  | _, _, _ => none
 | .extract x i => match ρ x with
  | some (.tup vs) => vs[i]?.map fun v => (true, .val v.1 v.2, [])
  | _ => none
 | .convert src dst x => match get tab src, get tab dst, (ρ x).bind V.one with
  | some _, some { zero := [.int k _], agg := false, .. }, some (.int _ n) => some (true, .val false [.int k (k.wrap n)], [])
  | some is, some { zero := [.str _], agg := false, .. }, some c => match get tab is.elem with
   | some { zero := [.int .u8 _], agg := false, .. } => (lc H (.int .u8) c).map fun x => (true, .val false [.str (strOf x.1)], [])
   | _ => none
  | _, _, _ => none
 | .call c => match c.callee, c.args.toList with
  | .builtin .len, [x] => match c.argTypes.toList with
   | [t0] => match (ρ x).bind V.one with
    | some (.lst _ xs) => bif isSl tab t0 then some (true, .val false [.int .i64 (xs.length : Int)], []) else none
    | some (.str s) => bif isSt tab t0 then some (true, .val false [.int .i64 (s.size : Int)], []) else none
    | some .nil => bif isSl tab t0 then some (true, .val false [.int .i64 0], []) else none
    | some (.own k e off) => match H.at k with
     | some (.row _ _ e' xs) => bif Nat.beq e e' && isSl tab t0 then some (true, .val false [.int .i64 ((xs.length - off : Nat) : Int)], []) else none
     | some (.fro _ e' xs) => bif Nat.beq e e' && isSl tab t0 then some (true, .val false [.int .i64 ((xs.length - off : Nat) : Int)], []) else none
     | some (.orow _ e' xs _ _) => bif Nat.beq e e' && isSl tab t0 then some (true, .val false [.int .i64 ((xs.length - off : Nat) : Int)], []) else none
     | _ => none
    | _ => none
   | _ => none
  | .builtin .append, [s, x] => match c.argTypes.toList with
   | [t0, t1] => match (get tab t0).bind fun i => get tab i.elem, (ρ s).bind V.one, (ρ x).bind V.one with
    | some i, some a, some b => bif Nat.beq i.sz i.t.sz && Nat.ble 1 i.bytes && (isSl tab t1 || isSt tab t1) then (src H i.t b).bind fun y => match a with
     | .nil => bif fresh H (key0 o) && distinct y.2.2 then some (decide (y.1.length * i.bytes ≤ 140737488355328), .val false [.own (key0 o) 0 0], (key0 o, some (.row y.2.1 i.t 0 y.1)) :: gone H y.2.1 y.2.2) else none
     | .own k e off => match H.at k with
      | some (.row d _ e' xs) => bif Nat.beq e e' && !y.2.2.contains k && (!d || y.2.1 || i.t.flat) then (castL (b := i.t) xs).map fun xs => (decide (((xs.drop off).length + y.1.length) * i.bytes ≤ 140737488355328), .val false [.own k (e + 1) 0], (k, some (.row d i.t (e + 1) (xs.drop off ++ y.1))) :: gone H d y.2.2) else none
      | _ => none
     | _ => none else none
    | _, _, _ => none
   | _ => none
  | .builtin .min, [x, y] => match (ρ x).bind V.one, (ρ y).bind V.one with
   | some (.int k a), some (.int _ b) => some (true, .val false [.int k (bif decide (b < a) then b else a)], [])
   | _, _ => none
  | _, _ => none
 | _ => none
inductive CS where
 | int (k : IntKind) | bool | str | lst (t : T) | own (j : Nat) | ptr (j off : Nat) | fn (g : FuncId) (caps : List (Nat × Nat)) | nilp | prs (l : List (Nat × Nat)) | nilc | ownq (j : Nat) | errb
def CS.Den : CS → Type
 | .int _ => Int
 | .bool => Bool
 | .str => ByteArray
 | .lst t => List t.Den
 | .ownq _ => Bool
 | .errb => Bool
 | _ => Unit
def DenL : List CS → Type
 | [] => Unit
 | c :: cs => c.Den × DenL cs
structure VS where
 agg : Bool
 cs : List CS
def DenV : List VS → Type
 | [] => Unit
 | v :: vs => DenL v.cs × DenV vs
inductive OS where
 | box (cs : List CS) | cbox (cs : List CS) | row (d : Bool) (t : T) | bld (ty el : Nat) | orow (t : T) (cs : List CS) | crow (t : T)
def OS.Den : OS → Type
 | .box cs => DenL cs
 | .cbox cs => DenL cs
 | .row _ t => List t.Den
 | .bld _ _ => ByteArray
 | .orow t cs => (List t.Den × Nat) × DenL cs
 | .crow t => List t.Den
def DenO : List (Nat × OS) → Type
 | [] => Unit
 | o :: os => o.2.Den × DenO os
def CS.inst : (c : CS) → c.Den → C
 | .int k, n => .int k n
 | .bool, b => .bool b
 | .str, s => .str s
 | .lst t, xs => .lst t xs
 | .own j, _ => .own j 0 0
 | .ptr j off, _ => .ptr j off
 | .fn g caps, _ => .fn g caps
 | .nilp, _ => .nilp
 | .prs l, _ => .prs l
 | .nilc, _ => .nil
 | .ownq j, b => bif b then .own j 0 0 else .nil
 | .errb, b => .err b
def instL : (cs : List CS) → DenL cs → List C
 | [], _ => []
 | c :: cs, x => c.inst (Prod.fst (α := c.Den) (β := DenL cs) x) :: instL cs (Prod.snd (α := c.Den) (β := DenL cs) x)
def instV : (vs : List VS) → DenV vs → List (Bool × List C)
 | [], _ => []
 | v :: vs, x => (v.agg, instL v.cs (Prod.fst (α := DenL v.cs) (β := DenV vs) x)) :: instV vs (Prod.snd (α := DenL v.cs) (β := DenV vs) x)
def OS.inst : (o : OS) → o.Den → Obj
 | .box cs, x => .box (instL cs x)
 | .cbox cs, x => .cbox (instL cs x)
 | .row d t, xs => .row d t 0 xs
 | .bld ty el, s => .bld ty el s
 | .orow t cs, x => .orow t 0 (Prod.fst (α := List t.Den) (β := Nat) (Prod.fst (α := List t.Den × Nat) (β := DenL cs) x)) (Prod.snd (α := List t.Den) (β := Nat) (Prod.fst (α := List t.Den × Nat) (β := DenL cs) x)) (instL cs (Prod.snd (α := List t.Den × Nat) (β := DenL cs) x))
 | .crow t, xs => .fro t 0 xs
def instO : (os : List (Nat × OS)) → DenO os → Heap
 | [], _ => []
 | o :: os, x => (o.1, some (o.2.inst (Prod.fst (α := o.2.Den) (β := DenO os) x))) :: instO os (Prod.snd (α := o.2.Den) (β := DenO os) x)
structure U where
 mu : List (Nat × Option (Nat × Nat))
 sn : List Nat
def U.free (u : U) (o : Nat) : Bool := u.mu.all fun m => match m.2 with | some (o', _) => !Nat.beq o o' | none => true
def U.bind (u : U) (j : Nat) (x : Option (Nat × Nat)) : Option U :=
 match get u.mu j, x with
 | some (some (o, off)), some (o', off') => bif Nat.beq o o' && Nat.beq off off' then some u else none
 | some _, _ => none
 | none, some (o, off) => bif u.free o then some { u with mu := (j, some (o, off)) :: u.mu } else none
 | none, none => some { u with mu := (j, none) :: u.mu }
def uniCaps (u : U) : List (Nat × Nat) → List (Nat × Nat) → Option U
 | [], [] => some u
 | (j, off) :: l, (o, off') :: l' => bif Nat.beq off off' then (u.bind j (some (o, 0))).bind fun u => uniCaps u l l' else none
 | _, _ => none
def uniC (H : Heap) (u : U) : (c : CS) → C → Option (c.Den × U)
 | .int k, .int k' n => bif decide (k = k') then some (n, u) else none
 | .bool, .bool b => some (b, u)
 | .str, .str s => some (s, u)
 | .lst t, c => (lcO H t c).map fun x => (x.1, { u with sn := x.2 ++ u.sn })
 | .own j, .nil => (u.bind j none).map fun u => ((), u)
 | .own j, .own o e off => match H.at o with
  | some (.row _ _ e' _) => bif Nat.beq e e' then (u.bind j (some (o, off))).map fun u => ((), u) else none
  | some (.orow _ e' _ _ _) => bif Nat.beq e e' && Nat.beq off 0 then (u.bind j (some (o, 0))).map fun u => ((), u) else none
  | some (.fro _ e' _) => bif Nat.beq e e' && Nat.beq off 0 then (u.bind j (some (o, 0))).map fun u => ((), u) else none
  | _ => none
 | .ptr j off, .ptr o off' => bif Nat.beq off off' then (u.bind j (some (o, 0))).map fun u => ((), u) else none
 | .fn g caps, .fn g' caps' => bif Nat.beq g g' then (uniCaps u caps caps').map fun u => ((), u) else none
 | .nilp, .nilp => some ((), u)
 | .errb, .err b => some (b, u)
 | .prs l, .prs l' => (uniCaps u l l').map fun u => ((), u)
 | .nilc, .nil => some ((), u)
 | .ownq _, .nil => some (false, u)
 | .ownq j, .own o e off => match H.at o with
  | some (.row _ _ e' _) => bif Nat.beq e e' then (u.bind j (some (o, off))).map fun u => (true, u) else none
  | some (.fro _ e' _) => bif Nat.beq e e' && Nat.beq off 0 then (u.bind j (some (o, 0))).map fun u => (true, u) else none
  | _ => none
 | _, _ => none
def uniL (H : Heap) : (cs : List CS) → List C → U → Option (DenL cs × U)
 | [], [], u => some ((), u)
 | c :: cs, v :: vs, u => (uniC H u c v).bind fun x => (uniL H cs vs x.2).map fun y => ((x.1, y.1), y.2)
 | _, _, _ => none
def uniV (H : Heap) : (vs : List VS) → List V → U → Option (DenV vs × U)
 | [], [], u => some ((), u)
 | v :: vs, .val a cs :: l, u => bif v.agg == a then (uniL H v.cs cs u).bind fun x => (uniV H vs l x.2).map fun y => ((x.1, y.1), y.2) else none
 | _, _, _ => none
def uniO (H : Heap) (u : U) : (o : OS) → Option (Nat × Nat) → Option (o.Den × U)
 | .row _ _, none => some ([], u)
 | .row d t, some (o, off) => match H.at o with
  | some (.row d' _ _ xs) => bif d' == d || t.flat then (castL (b := t) xs).map fun xs => (xs.drop off, u) else none
  | _ => none
 | .box cs, some (o, 0) => match H.at o with
  | some (.box vs) => uniL H cs vs u
  | _ => none
 | .cbox cs, some (o, 0) => match H.at o with
  | some (.box vs) => uniL H cs vs u
  | some (.cbox vs) => uniL H cs vs u
  | _ => none
 | .bld ty el, some (o, 0) => match H.at o with
  | some (.bld ty' el' s) => bif Nat.beq ty' ty && Nat.beq el' el then some (s, u) else none
  | _ => none
 | .orow t cs, some (o, 0) => match H.at o with
  | some (.orow _ _ xs i vs) => (castL (b := t) xs).bind fun xs => (uniL H cs vs u).map fun y => (((xs, i), y.1), y.2)
  | _ => none
 | .crow t, some (o, 0) => match H.at o with
  | some (.row _ _ _ xs) => (castL (b := t) xs).map fun xs => (xs, u)
  | some (.fro _ _ xs) => (castL (b := t) xs).map fun xs => (xs, u)
  | _ => none
 | _, _ => none
def uniOs (H : Heap) : (os : List (Nat × OS)) → U → Option (DenO os × U)
 | [], u => some ((), u)
 | o :: os, u => match get u.mu o.1 with
  | some x => (uniO H u o.2 x).bind fun a => (uniOs H os a.2).map fun b => ((a.1, b.1), b.2)
  | none => none
def OS.isO : OS → Bool
 | .orow _ _ => true
 | _ => false
def OS.isC : OS → Bool
 | .cbox _ => true
 | .crow _ => true
 | _ => false
/-- A row that is only read, and may be named by what comes out. -/
def OS.isR : OS → Bool
 | .crow _ => true
 | _ => false
def Obj.isFro : Obj → Bool
 | .fro _ _ _ => true
 | _ => false
/-- Each label that is named is among the objects; what may be written is read by value nowhere. -/
def U.ok (u : U) (os : List (Nat × OS)) : Bool :=
 (u.mu.all fun m => (get os m.1).isSome) && os.all fun o => o.2.isC || (match get u.mu o.1 with | some (some (k, _)) => !u.sn.contains k | _ => true)
/-- The values and objects at a shape. -/
def uni (H : Heap) (vs : List VS) (os : List (Nat × OS)) (l : List V) (u : U) : Option ((DenV vs × DenO os) × U) :=
 (uniV H vs l u).bind fun x => (uniOs H os x.2).bind fun y => bif y.2.ok os && distinct (os.map (·.1)) then some ((x.1, y.1), y.2) else none

/-- What is known of a function at one kind of call: the shapes of what goes in and comes out, and the plain function. -/
structure FS where
 ins : List VS
 io : List (Nat × OS)
 tup : Bool
 outs : List VS
 oo : List (Nat × OS)
 keep : List Nat
 pf : DenV ins × DenO io → Option (DenV outs × DenO oo)
/-- The closures among the arguments. -/
def clos : List V → List FuncId
 | [] => []
 | .val _ cs :: l => (cs.filterMap fun c => match c with | .fn g _ => some g | _ => none) ++ clos l
 | _ :: l => clos l
structure Key where
 f : FuncId
 cl : List FuncId
def eqNs : List Nat → List Nat → Bool
 | [], [] => true
 | a :: l, b :: m => Nat.beq a b && eqNs l m
 | _, _ => false
abbrev Ents := List (Key × FS)
def find : Ents → FuncId → List FuncId → Option FS
 | [], _, _ => none
 | (k, s) :: l, f, cl => bif Nat.beq k.f f && eqNs k.cl cl then some s else find l f cl
def isLst : CS → Bool
 | .lst _ => true
 | .prs _ => true
 | _ => false
/-- What goes out may share memory with what was read by value. -/
def FS.shares (s : FS) : Bool := s.outs.any (fun v => v.cs.any isLst) || s.oo.any fun o => match o.2 with | .row d t => !d && !t.flat | .box cs => cs.any isLst | .cbox cs => cs.any isLst | .bld _ _ => false | .orow _ _ => false | .crow _ => false
/-- Behind a call: the object of a label (of what came in, or new), its epoch. -/
def backKey (k0 : Nat) (u : U) (j : Nat) : Nat :=
 bif Nat.ble 100 j then k0 + (j - 100) else match get u.mu j with | some (some (o, _)) => o | _ => k0 + 8 + j
def epochAt (H : Heap) (k : Nat) : Nat := match H.at k with | some (.row _ _ e _) => e | some (.orow _ e _ _ _) => e | some (.fro _ e _) => e | _ => 0
def backEpoch (H : Heap) (k0 : Nat) (u : U) (keep : List Nat) (j : Nat) : Nat :=
 bif Nat.ble 100 j then 0 else match get u.mu j with | some (some (o, _)) => (bif keep.contains j then epochAt H o else epochAt H o + 1) | _ => 0
def backC (H : Heap) (k0 : Nat) (u : U) (keep : List Nat) : C → C
 | .own j _ _ => .own (backKey k0 u j) (backEpoch H k0 u keep j) 0
 | .ptr j off => .ptr (backKey k0 u j) off
 | .fn g caps => .fn g (caps.map fun c => (backKey k0 u c.1, c.2))
 | .prs l => .prs (l.map fun c => (backKey k0 u c.1, c.2))
 | c => c
def backObj (H : Heap) (k0 : Nat) (u : U) (keep : List Nat) (j : Nat) : Obj → Obj
 | .row d t _ xs => .row d t (backEpoch H k0 u keep j) xs
 | .box cs => .box (cs.map (backC H k0 u keep))
 | .cbox cs => .cbox (cs.map (backC H k0 u keep))
 | .fro t _ xs => .fro t (backEpoch H k0 u keep j) xs
 | .bld ty el s => .bld ty el s
 | .orow t _ xs i cs => .orow t (backEpoch H k0 u keep j) xs i (cs.map (backC H k0 u keep))
def backHeap (H : Heap) (k0 : Nat) (u : U) (keep : List Nat) : Heap → Heap
 | [] => []
 | (j, some o) :: l => bif o.isFro then backHeap H k0 u keep l else (backKey k0 u j, some (backObj H k0 u keep j o)) :: backHeap H k0 u keep l
 | (_, none) :: l => backHeap H k0 u keep l
/-- What was read by value, or captured, is written no more where what comes may share memory with it. -/
def stop (H : Heap) (k : Nat) : Option Obj := match H.at k with
 | some (.box cs) => some (.cbox cs)
 | _ => freeze H k
def cboxes (io : List (Nat × OS)) (u : U) : List Nat := io.filterMap fun o => bif o.2.isC then (match get u.mu o.1 with | some (some (k, _)) => some k | _ => none) else none
def labelOk (j : Nat) : Bool := Nat.blt j 8 || (Nat.ble 100 j && Nat.blt j 108)
def isNew (u : U) (j : Nat) : Bool := Nat.ble 100 j || (match get u.mu j with | some (some _) => false | _ => true)
/-- What goes out has names of its own; what is new has none yet; all that came in and may have been written goes out. -/
def newOk (H : Heap) (k0 : Nat) (u : U) (s : FS) : Bool :=
 (s.oo.all fun o => labelOk o.1 && !o.2.isO && (bif o.2.isR then Nat.blt o.1 8 && s.keep.contains o.1 && (match get s.io o.1 with | some x => x.isR | none => false) && (match get u.mu o.1 with | some (some _) => true | _ => false)
  else !o.2.isC && (!isNew u o.1 || fresh H (backKey k0 u o.1)) && (Nat.ble 100 o.1 || (match get s.io o.1 with | some x => !x.isC | none => false)))) && distinct (s.oo.map (·.1)) &&
 s.io.all fun o => !o.2.isO && (o.2.isC || (Nat.blt o.1 8 && (match get s.oo o.1 with | some x => !x.isR | none => false)))
def outVal (tup : Bool) (f : C → C) (l : List (Bool × List C)) : V :=
 match tup, l with
 | false, [(a, cs)] => .val a (cs.map f)
 | _, l => .tup (l.map fun v => (v.1, v.2.map f))
/-- Which rows keep their place: nothing was cut off them ahead. -/
def keepOk (u : U) (keep : List Nat) : Bool := keep.all fun j => match get u.mu j with | some (some (_, off)) => Nat.beq off 0 | _ => false
/-- A slice that comes out, of what went in or none at all: which of both? (the first one) -/
def qL : (cs : List CS) → DenL cs → Option Bool
 | [], _ => none
 | .ownq _ :: _, x => some (show Bool from Prod.fst x)
 | _ :: cs, x => qL cs (Prod.snd x)
def qV : (vs : List VS) → DenV vs → Option Bool
 | [], _ => none
 | v :: vs, x => match qL v.cs (Prod.fst (α := DenL v.cs) (β := DenV vs) x) with
  | some b => some b
  | none => qV vs (Prod.snd (α := DenL v.cs) (β := DenV vs) x)
def setQL (b : Bool) : (cs : List CS) → DenL cs → DenL cs
 | [], x => x
 | .ownq _ :: _, x => (b, Prod.snd x)
 | _ :: cs, x => (Prod.fst x, setQL b cs (Prod.snd x))
def hasQ (cs : List CS) : Bool := cs.any fun c => match c with | .ownq _ => true | _ => false
def setQV (b : Bool) : (vs : List VS) → DenV vs → DenV vs
 | [], x => x
 | v :: vs, x => bif hasQ v.cs then (setQL b v.cs (Prod.fst (α := DenL v.cs) (β := DenV vs) x), Prod.snd (α := DenL v.cs) (β := DenV vs) x) else (Prod.fst (α := DenL v.cs) (β := DenV vs) x, setQV b vs (Prod.snd (α := DenL v.cs) (β := DenV vs) x))
def splitQ {R : Type} (vs : List VS) (y : DenV vs) (K : DenV vs → Option R) : Option R := match qV vs y with
 | none => K y
 | some b => bif b then K (setQV true vs y) else K (setQV false vs y)
/-- A call of a function that is known; the continuation is told what comes and what becomes of the objects. -/
def callF {R : Type} (E : Ents) (H : Heap) (k0 : Nat) (f : FuncId) (args : List V) (K : V → Heap → Option R) : Option R :=
 match find E f (clos args) with
 | none => none
 | some s => match uni H s.ins s.io args ⟨[], []⟩ with
  | none => none
  | some (x, u) => bif keepOk u s.keep && newOk H k0 u s then (s.pf x).bind fun y => splitQ s.outs y.1 fun y1 =>
    K (outVal s.tup (backC H k0 u s.keep) (instV s.outs y1))
     (backHeap H k0 u s.keep (instO s.oo y.2) ++ (bif s.shares then (u.sn ++ cboxes s.io u).map fun k => (k, stop H k) else [])) else none
def addCaps (caps : List (Nat × Nat)) : List V := caps.map fun c => .val false [.ptr c.1 c.2]
/-- A load of one of some pointers. -/
def padOf (o : Oper) (ρ : Operand → Option V) : Option (TypeId × List (Nat × Nat) × Nat) := match o.op with
 | .load t a => match (ρ a).bind V.one with
  | some (.pad l i) => some (t, l, i)
  | _ => none
 | _ => none
def pickP {R : Type} : List (Nat × Nat) → Nat → Nat → (V → Heap → Option R) → Option R
 | [], _, _, _ => none
 | p :: l, j, i, K => bif decide (i = j) then K (.val false [.ptr p.1 p.2]) [] else pickP l (j + 1) i K
/-- One operation, whether it calls or not. -/
def stepK {R : Type} (tab : Tab) (E : Ents) (H : Heap) (o : Oper) (ρ : Operand → Option V) (K : V → Heap → Option R) : Option R :=
 match o.op with
 | .call { callee := .value f, args, .. } => match (ρ f).bind V.one, evs ρ args.toList with
  | some (.fn g caps), some vs => callF E H (key0 o) g (vs ++ addCaps caps) K
  | _, _ => none
 | _ => match padOf o ρ with
  | some (t, l, i) => match get tab t with
   | some ti => bif Nat.beq ti.sz 1 && !ti.agg then pickP l 0 i K else none
   | none => none
  | none => match opv tab H o ρ with
   | some (b, v, e) => bif b then K v e else none
   | none => none
def setD (o : Oper) (v : V) (env : Env) : Env := match o.dst with | some d => (d, v) :: env | none => env
def dstAt (ops : List Oper) (j : Nat) : Option Nat := (ops[j]?).bind (·.dst)
/-- A region in its order. -/
def run {R : Type} (tab : Tab) (E : Ents) (all : List Oper) : List Oper → Env → Heap → (Env → Heap → Option R) → Option R
 | [], env, H, K => K env H
 | o :: os, env, H, K => match o.guard with
  | none => stepK tab E H o (ev env) fun v e => run tab E all os (setD o v env) (e ++ H) K
  | some (j, want) => match dstAt all j with
   | none => none
   | some d => match get env d with
    | some (.tup []) => run tab E all os (setD o (.tup []) env) H K
    | some (.val false [.bool p]) => match want with
     | true => bif p then stepK tab E H o (ev ((d, .val false [.bool true]) :: env)) fun v e => run tab E all os (setD o v ((d, .val false [.bool true]) :: env)) (e ++ H) K
       else run tab E all os (setD o (.tup []) ((d, .val false [.bool false]) :: env)) H K
     | false => bif p then run tab E all os (setD o (.tup []) ((d, .val false [.bool true]) :: env)) H K
       else stepK tab E H o (ev ((d, .val false [.bool false]) :: env)) fun v e => run tab E all os (setD o v ((d, .val false [.bool false]) :: env)) (e ++ H) K
    | _ => none
structure Rec where
 dst : Option Nat
 deps : Nat               -- what it depends on, through others too: a bit each
 v : V
 e : Heap
 k : Option Nat           -- the one object that it looks at, where that is known
def depsOf (recs : List Rec) (o : Oper) : Nat :=   -- recs: newest first
 o.after.toList.foldl (fun l e => bif Region.binds .any e then l ||| (2 ^ e.on ||| ((recs[recs.length - 1 - e.on]?).map (·.deps)).getD 0) else l) 0
def envOf (recs : List Rec) (deps : Nat) (env : Env) : Env :=
 match recs with
 | [] => env
 | r :: l => match r.dst with
  | some d => bif deps.testBit l.length then (d, r.v) :: envOf l deps env else envOf l deps env
  | none => envOf l deps env
def heapOf (recs : List Rec) (deps : Nat) (H : Heap) : Heap :=
 match recs with
 | [] => H
 | r :: l => bif deps.testBit l.length then r.e ++ heapOf l deps H else heapOf l deps H
def setRec (recs : List Rec) (j : Nat) (b : Bool) : List Rec :=
 match recs with
 | [] => []
 | r :: l => bif Nat.beq l.length j then { r with v := .val false [.bool b] } :: l else r :: setRec l j b
def reads (all : List Oper) (o : Oper) : List Nat :=
 (o.op.operands.toList.filterMap fun x => match x with | .tmp t => some t | _ => none) ++ (match o.guard with | some (j, _) => (dstAt all j).toList | none => [])
def touches : Op → Bool
 | .move _ | .assign _ | .pick .. | .alloc _ | .box .. | .build .. | .binOp .. | .unOp .. | .makeFunc .. | .makeSlice .. | .extract .. => false
 | _ => true
def keyed (o : Oper) (k : Nat) : Bool := Nat.ble (key0 o) k && Nat.blt k (key0 o + 16)
def ownKey (o : Oper) (k : Nat) : Bool := keyed o k && o.dst.isSome
def mutates (o : Oper) (r : Rec) : Bool := r.e.any fun x => !ownKey o x.1
def lookKey (ρ : Operand → Option V) (o : Oper) : Option Nat := match o.op with
 | .load _ x => match (ρ x).bind V.one with | some (.ptr k _) => some k | _ => none
 | .fieldAddr _ x _ => match (ρ x).bind V.one with | some (.ptr k _) => some k | _ => none
 | _ => none
def away (r : Rec) (e : Heap) : Bool := match r.k with
 | some k => e.all fun x => !Nat.beq x.1 k
 | none => false
/-- Two operations, the first one ahead in the text: nothing of either is of concern to the other, or the second one waits for the first. -/
def apart (all : List Oper) (i : Nat) (a : Oper) (ra : Rec) (b : Oper) (rb : Rec) : Bool :=
 (ra.e.all fun x => !ownKey b x.1) && (rb.deps.testBit i ||
 ((match ra.dst with | some d => !(reads all b).contains d && (match rb.dst with | some d' => !Nat.beq d d' | none => true) | none => true) &&
  (match rb.dst with | some d => !(reads all a).contains d | none => true) &&
  (!mutates a ra || ((!touches b.op || away rb ra.e) && !mutates b rb)) && (!mutates b rb || (!touches a.op || away ra rb.e)) &&
  (rb.e.all fun x => !keyed a x.1) && ra.e.all fun x => !keyed b x.1))
def apartAll (all : List Oper) : List Oper → List Rec → Bool   -- both newest first
 | b :: bs, rb :: rbs => (bs.zip rbs).zipIdx.all (fun x => apart all (bs.length - 1 - x.2) x.1.1 x.1.2 b rb) && apartAll all bs rbs
 | _, _ => true
/-- No two operations set one slot; what an operation makes was not there ahead. -/
def dstsOk (recs : List Rec) : Bool := distinct (recs.filterMap (·.dst))
def madeOk (H : Heap) : List Oper → List Rec → Bool
 | o :: os, r :: rs => (r.e.all fun x => !ownKey o x.1 || fresh H x.1) && madeOk H os rs
 | _, _ => true
/-- What an operation depends on lies ahead of it, and what that depends on too. -/
def edgesOk : List Oper → List Rec → Bool
 | o :: os, r :: rs => Nat.blt r.deps (2 ^ rs.length) && edgesOk os rs
 | _, _ => true
def runD {R : Type} (tab : Tab) (E : Ents) (all : List Oper) (env : Env) (H : Heap) : List Oper → List Rec → (Env → Heap → Option R) → Option R
 | [], recs, K => bif apartAll all all.reverse recs && dstsOk recs && madeOk H all.reverse recs && edgesOk all.reverse recs then K (envOf recs (2 ^ recs.length - 1) env) (heapOf recs (2 ^ recs.length - 1) H) else none
 | o :: os, recs, K =>
  let deps := depsOf recs o
  match o.guard with
  | none => stepK tab E (heapOf recs deps H) o (ev (envOf recs deps env)) fun v e => runD tab E all env H os (⟨o.dst, deps, v, e, lookKey (ev (envOf recs deps env)) o⟩ :: recs) K
  | some (j, want) => match dstAt all j with
   | none => none
   | some d => match get (envOf recs deps env) d with
    | some (.tup []) => runD tab E all env H os (⟨o.dst, deps, .tup [], [], none⟩ :: recs) K
    | some (.val false [.bool p]) => match want with
     | true => bif p then let recs := setRec recs j true; stepK tab E (heapOf recs deps H) o (ev (envOf recs deps env)) fun v e => runD tab E all env H os (⟨o.dst, deps, v, e, lookKey (ev (envOf recs deps env)) o⟩ :: recs) K
       else runD tab E all env H os (⟨o.dst, deps, .tup [], [], none⟩ :: setRec recs j false) K
     | false => bif p then runD tab E all env H os (⟨o.dst, deps, .tup [], [], none⟩ :: setRec recs j true) K
       else let recs := setRec recs j false; stepK tab E (heapOf recs deps H) o (ev (envOf recs deps env)) fun v e => runD tab E all env H os (⟨o.dst, deps, v, e, lookKey (ev (envOf recs deps env)) o⟩ :: recs) K
    | _ => none
structure Beta where
 ty : Nat
 p : Nat
 dv : Nat
 s : Nat
 dk : Nat
 f : FuncId
 dr : Nat
 ds : Nat
def betaOf4 (ld mv cl as1 : Oper) : Option Beta :=
 match ld.guard, mv.guard, cl.guard, as1.guard with
 | none, none, none, none => match ld.op, ld.dst, mv.op, mv.dst with
  | .load ty (.tmp p), some dv, .move (.tmp s), some dk => match cl.op, cl.dst, as1.op, as1.dst with
   | .call { callee := .value (.func f), args, .. }, some dr, .assign (.tmp r), some ds => match args.toList with
    | [.tmp x, .tmp y] => bif Nat.beq x dv && Nat.beq y dk && Nat.beq r dr && !Nat.beq dk dv && !Nat.beq s dv then some ⟨ty, p, dv, s, dk, f, dr, ds⟩ else none
    | _ => none
   | _, _, _, _ => none
  | _, _, _, _ => none
 | _, _, _, _ => none
/-- The operations ahead, and the last four. -/
def betaOf (l : List Oper) : Option (List Oper × Beta) :=
 match l.drop (l.length - 4) with
 | [ld, mv, cl, as1] => (betaOf4 ld mv cl as1).map fun b => (l.take (l.length - 4), b)
 | _ => none
def markPf {R : Type} (t1 : T) (S : FS) : Option (Int → List t1.Den → (Int → List t1.Den → Option R) → Option R) :=
 match S with
 | ⟨[⟨false, [.own 0]⟩, ⟨false, [.int .i64]⟩], [(0, .row true ta)], false, [⟨false, [.int .i64]⟩], [(0, .row true tb)], [0], pf⟩ =>
  some fun k ys K => (castL ys).bind fun zs => (pf ((((), ()), ((k, ()), ())), (zs, ()))).bind fun y => (castL (b := t1) (show List tb.Den from y.2.1)).bind fun ys' => K y.1.1.1 ys'
 | _ => none
def betaK {R : Type} (tab : Tab) (E : Ents) (b : Beta) (env : Env) (H : Heap) (K : Env → Heap → Option R) : Option (Option R) :=
 match get tab b.ty, get env b.p, get env b.s with
 | some ti, some (.val false [.pel o e [] i off]), some (.val false [.int .i64 k]) => match H.at o with
  | some (.row true t e' xs) => bif Nat.beq e e' && !ti.agg then match lensG t off, find E b.f [] with
   | some l, some S => match markPf l.t1 S with
    | some φ => some (φ k (l.get (xs.getD i t.dflt)) fun k' ys => K ((b.ds, .val false [.int .i64 k']) :: (b.dr, .val false [.int .i64 k']) :: (b.dk, .val false [.int .i64 k]) :: (b.dv, .x) :: env) ((o, some (.row true t e (xs.set i (l.set (xs.getD i t.dflt) ys)))) :: H))
    | none => none
   | _, _ => none else none
  | _ => none
 | _, _, _ => none
/-- A number is stored into an element of a row of one's own: the last operation. -/
structure Alpha where
 ty : Nat
 p : Nat
 s : Nat
def alphaOf1 (st : Oper) : Option Alpha :=
 match st.guard, st.dst, st.op with
 | none, none, .store ty (.tmp p) (.tmp s) => some ⟨ty, p, s⟩
 | _, _, _ => none
def alphaOf (l : List Oper) : Option (List Oper × Alpha) :=
 match l.drop (l.length - 1) with
 | [st] => (alphaOf1 st).map fun b => (l.take (l.length - 1), b)
 | _ => none
def alphaK {R : Type} (tab : Tab) (b : Alpha) (env : Env) (H : Heap) (K : Env → Heap → Option R) : Option (Option R) :=
 match get tab b.ty, get env b.p, get env b.s with
 | some ti, some (.val false [.pel o e [] i off]), some (.val false [.int kd n]) => match H.at o with
  | some (.row true t e' xs) => bif Nat.beq e e' && Nat.beq ti.sz 1 then match lensI t off kd with
   | some st => some (K env ((o, some (.row true t e (xs.set i (st (xs.getD i t.dflt) n)))) :: H))
   | none => none
   else none
  | _ => none
 | _, _, _ => none
def runA {R : Type} (tab : Tab) (E : Ents) (ops : List Oper) (env : Env) (H : Heap) (K : Env → Heap → Option R) : Option R :=
 match betaOf ops with
 | none => match alphaOf ops with
  | none => run tab E ops ops env H K
  | some x => run tab E ops x.1 env H fun env H => match alphaK tab x.2 env H K with
   | some r => r
   | none => run tab E ops (ops.drop (ops.length - 1)) env H K
 | some x => run tab E ops x.1 env H fun env H => match betaK tab E x.2 env H K with
  | some r => r
  | none => run tab E ops (ops.drop (ops.length - 4)) env H K
def joinFlag (E : Ents) : Bool := E.any fun x => eqNs x.1.cl [999999]
def joinOf (ops : List Oper) : Option Nat :=
 match ops.drop (ops.length - 1) with
 | [o] => match o.guard, o.dst, o.op with
  | none, some d, .assign _ => bif ops.any fun o => o.guard.isSome then some d else none
  | _, _, _ => none
 | _ => none
def dstsOf (ops : List Oper) : List Nat := ops.filterMap (·.dst)
def freshDsts (env : Env) (ops : List Oper) (d : Nat) : Bool := (dstsOf ops).all fun x => Nat.beq x d || (get env x).isNone
def knownB (H : Heap) (o : Nat) : Bool := (get H o).isSome
def closedC (H : Heap) : C → Bool
 | .own o _ _ => knownB H o
 | .ptr o _ => knownB H o
 | .pel o _ _ _ _ => knownB H o
 | .fn _ caps => caps.all fun c => knownB H c.1
 | .prs l => l.all fun c => knownB H c.1
 | .pad l _ => l.all fun c => knownB H c.1
 | _ => true
def closedV (H : Heap) : V → Bool
 | .val _ cs => cs.all (closedC H)
 | .tup l => l.all fun c => c.2.all (closedC H)
 | .x => true
def closedO (H : Heap) : Option Obj → Bool
 | some (.box cs) => cs.all (closedC H)
 | some (.cbox cs) => cs.all (closedC H)
 | some (.orow _ _ _ _ cs) => cs.all (closedC H)
 | _ => true
def closed (env : Env) (H : Heap) : Bool := env.all (fun x => closedV H x.2) && H.all fun x => closedO H x.2
def joinK (H : Heap) (d : Nat) (env' : Env) (H' : Heap) : Option Bool :=
 match get env' d with
 | some (.val false [.bool b]) => bif (H'.take (H'.length - H.length)).all fun x => !knownB H x.1 then some b else none
 | _ => none
def runB {R : Type} (tab : Tab) (E : Ents) (ops : List Oper) (env : Env) (H : Heap) (K : Env → Heap → Option R) : Option R :=
 match bif joinFlag E then joinOf ops else none with
 | none => runA tab E ops env H K
 | some d => bif freshDsts env ops d && closed env H then (run tab E ops ops env H (joinK H d)).bind fun b => K ((d, .val false [.bool b]) :: env) H else none
def openC : Nat → (t : T) → t.Den → List C
 | _, .int k, n => [.int k n]
 | _, .bool, b => [.bool b]
 | _, .str, s => [.str s]
 | k, .list _, _ => [.own k 0 0]
 | k, .pair a b, x => openC k a (Prod.fst (α := a.Den) (β := b.Den) x) ++ openC (k + a.sz) b (Prod.snd (α := a.Den) (β := b.Den) x)
 | _, .unit, _ => []
def openH : Nat → (t : T) → t.Den → Heap
 | k, .list t, xs => [(k, some (.row true t 0 xs))]
 | k, .pair a b, x => openH k a (Prod.fst (α := a.Den) (β := b.Den) x) ++ openH (k + a.sz) b (Prod.snd (α := a.Den) (β := b.Den) x)
 | _, _, _ => []
def freshAll (H : Heap) (k : Nat) : Nat → Bool
 | 0 => true
 | n + 1 => fresh H (k + n) && freshAll H k n
def ghostOf : Ents → Nat → List Nat
 | [], _ => []
 | (k, _) :: l, id => match k.cl with
  | 999998 :: i :: r => bif Nat.beq i id then r else ghostOf l id
  | _ => ghostOf l id
/-- 1 row slot key: open the element that the slot tells, its lists from the key on; 2 row: close it. -/
def ghosts {R : Type} (env : Env) : List Nat → Heap → (Heap → Option R) → Option R
 | 1 :: o :: s :: k0 :: l, H, K => match H.at o, (get env s).bind V.one with
  | some (.row true t e xs), some (.int .i64 n) => bif Nat.ble 100 k0 && freshAll H k0 t.sz && (Nat.blt o k0 || Nat.ble (k0 + t.sz) o) then
    (bif decide (0 ≤ n) && decide (n < (xs.length : Int)) then ghosts env l ((o, some (.orow t e xs n.toNat (openC k0 t (xs.getD n.toNat t.dflt)))) :: (openH k0 t (xs.getD n.toNat t.dflt) ++ H)) K else none) else none
  | _, _ => none
 | 2 :: o :: l, H, K => match H.at o with
  | some (.orow t e xs i cs) => match dec H t cs with
   | some (x, ks, []) => bif distinct (o :: ks) && deepCs H cs then ghosts env l ((o, some (.row true t e (xs.set i x))) :: (gone H true ks ++ H)) K else none
   | _ => none
  | _ => none
 | _, H, K => K H
inductive Ex where
 | normal | exit (id : Nat) | ret
/-- What is alive at the head of a loop, and the plain function of the loop with all that comes behind it. -/
structure LS (R : Type) where
 keep : List Nat
 live : List (Nat × VS)
 ob : List (Nat × OS)
 l : DenV (live.map (·.2)) × DenO ob → Option R
def getVs (env : Env) : List Nat → Option (List V)
 | [] => some []
 | s :: l => (get env s).bind fun v => (getVs env l).map fun r => v :: r
/-- Objects that came in keep their name. -/
def U.same (u : U) : Bool := u.mu.all fun m => match m.2 with | some (o, _) => (Nat.ble 100 m.1 && Nat.ble 100 o) || Nat.beq m.1 o | none => Nat.ble 100 m.1
def preset (ob : List (Nat × OS)) : U := ⟨(ob.filter fun o => !Nat.ble 100 o.1).map fun o => (o.1, some (o.1, 0)), []⟩
def keptOk (H : Heap) (keep : List Nat) : Bool := keep.all fun j => match H.at j with | some (.row _ _ 0 _) => true | some (.orow _ 0 _ _ _) => true | some (.fro _ 0 _) => true | _ => false
def LS.enter {R : Type} (L : LS R) (env : Env) (H : Heap) : Option R :=
 (getVs env (L.live.map (·.1))).bind fun vs => (uni H (L.live.map (·.2)) L.ob vs (preset L.ob)).bind fun x => bif x.2.same && keptOk H L.keep then L.l x.1 else none
def toEnv : List Nat → List (Bool × List C) → Env
 | s :: l, v :: vs => (s, .val v.1 v.2) :: toEnv l vs
 | _, _ => []
def LS.env {R : Type} (L : LS R) (x : DenV (L.live.map (·.2)) × DenO L.ob) : Env := toEnv (L.live.map (·.1)) (instV _ x.1)
def LS.heap {R : Type} (L : LS R) (x : DenV (L.live.map (·.2)) × DenO L.ob) : Heap := instO _ x.2
def nloops : Code → Nat
 | .seq a b => nloops a + nloops b
 | .cond _ a b => nloops a + nloops b
 | .block _ c => nloops c
 | .loop c => nloops c + 1
 | _ => 0
def exec {R : Type} (tab : Tab) (E : Ents) (LS_ : List (LS R)) : Code → Nat → Env → Heap → (Ex → Env → Heap → Option R) → Option R
 | .skip, _, env, H, K => K .normal env H
 | .region id ops draw, _, env, H, K => ghosts env (ghostOf E id) H fun H => match draw with
  | false => runB tab E ops.toList env H (K .normal)
  | true => runD tab E ops.toList env H ops.toList [] (K .normal)
 | .seq a b, i, env, H, K => exec tab E LS_ a i env H fun x env H => match x with
  | .normal => exec tab E LS_ b (i + nloops a) env H K
  | x => K x env H
 | .cond c a b, i, env, H, K => match (ev env c).bind V.one with
  | some (.bool p) => bif p then exec tab E LS_ a i env H K else exec tab E LS_ b (i + nloops a) env H K
  | _ => none
 | .block id c, i, env, H, K => exec tab E LS_ c i env H fun x env H => match x with
  | .exit j => bif Nat.beq j id then K .normal env H else K (.exit j) env H
  | x => K x env H
 | .loop _, i, env, H, _ => match LS_[i]? with
  | some L => L.enter env H
  | none => none
 | .exit id, _, env, H, K => K (.exit id) env H
 | .ret, _, env, H, K => K .ret env H
 | _, _, _, _, _ => none
/-- The code of a loop, by its number, and what comes behind it. -/
def loopAt {R : Type} (tab : Tab) (E : Ents) (LS_ : List (LS R)) : Code → Nat → Nat → (Ex → Env → Heap → Option R) → Option (Code × (Ex → Env → Heap → Option R))
 | .seq a b, i, n, K => bif Nat.blt n (i + nloops a) then loopAt tab E LS_ a i n (fun x env H => match x with
   | .normal => exec tab E LS_ b (i + nloops a) env H K
   | x => K x env H) else loopAt tab E LS_ b (i + nloops a) n K
 | .cond _ a b, i, n, K => bif Nat.blt n (i + nloops a) then loopAt tab E LS_ a i n K else loopAt tab E LS_ b (i + nloops a) n K
 | .block id c, i, n, K => loopAt tab E LS_ c i n (fun x env H => match x with
   | .exit j => bif Nat.beq j id then K .normal env H else K (.exit j) env H
   | x => K x env H)
 | .loop c, i, n, K => bif Nat.beq n i then some (c, K) else match LS_[i]? with
  | some L => loopAt tab E LS_ c (i + 1) n (fun x env H => match x with
     | .normal => L.enter env H
     | x => K x env H)
  | none => none
 | _, _, _, _ => none
/-- One round of a loop, by its number. -/
def roundOf {R : Type} (tab : Tab) (E : Ents) (LS_ : List (LS R)) (c : Code) (K : Ex → Env → Heap → Option R) (i : Nat) (L : LS R) (x : DenV (L.live.map (·.2)) × DenO L.ob) : Option R :=
 match loopAt tab E LS_ c 0 i K with
 | some (c, K) => exec tab E LS_ c (i + 1) (L.env x) (L.heap x) fun x env H => match x with
   | .normal => L.enter env H
   | x => K x env H
 | none => none
def resV (tab : Tab) (env : Env) (H : Heap) : List ResultVar → Option (List V)
 | [] => some []
 | .tmp t :: l => (get env t).bind fun v => (resV tab env H l).map fun r => v :: r
 | .cell a t :: l => match get tab t, (get env a).bind V.one with
  | some i, some (.ptr k o) => match behind H (.ptr k o) with
   | some (true, off, cs) => (cut off i.sz cs).bind fun r => (resV tab env H l).map fun r' => .val i.agg r :: r'
   | _ => none
  | _, _ => none
def fin (tab : Tab) (fn : Func) (s : FS) (x : Ex) (env : Env) (H : Heap) : Option (DenV s.outs × DenO s.oo) :=
 match x with
 | .exit _ => none
 | _ => (resV tab env H fn.results.toList).bind fun vs => (uni H s.outs s.oo vs (preset s.oo)).bind fun y => bif y.2.same && keptOk H s.keep then some y.1 else none
def envIn : Nat → List (Bool × List C) → Env
 | _, [] => []
 | n, v :: vs => (n, .val v.1 v.2) :: envIn (n + 1) vs
/-- The whole function at a shape. -/
def execF (tab : Tab) (E : Ents) (fn : Func) (c : Code) (s : FS) (LS_ : List (LS (DenV s.outs × DenO s.oo))) (x : DenV s.ins × DenO s.io) : Option (DenV s.outs × DenO s.oo) :=
 exec tab E LS_ c 0 (envIn 0 (instV s.ins x.1)) (instO s.io x.2) (fin tab fn s)
abbrev tInst : T := .pair (.int .i64) (.pair (.int .i64) (.pair (.int .i64) (.pair (.int .i64) (.pair (.int .i64) (.pair (.int .i64) (.pair (.list (.int .i64)) .unit))))))
abbrev tInstD : Type := Int × Int × Int × Int × Int × Int × (List Int) × Unit
def tab : Tab := [
 (2, ⟨1, 8, false, [.int .i64 0], [], 0, (.int .i64)⟩),
 (4, ⟨1, 1, false, [.bool false], [], 0, .bool⟩),
 (5, ⟨1, 1, false, [.int .u8 0], [], 0, (.int .u8)⟩),
 (9, ⟨1, 16, false, [.str .empty], [], 0, .str⟩),
 (22, ⟨1, 24, false, [.nil], [], 2, (.list (.int .i64))⟩),
 (24, ⟨7, 72, true, [.int .i64 0, .int .i64 0, .int .i64 0, .int .i64 0, .int .i64 0, .int .i64 0, .nil], [(0, 1), (1, 1), (2, 1), (3, 1), (4, 1), (5, 1), (6, 1)], 0, tInst⟩),
 (32, ⟨1, 24, false, [.nil], [], 9, (.list .str)⟩),
 (49, ⟨1, 16, false, [.err false], [], 0, .unit⟩),
 (54, ⟨1, 8, false, [.nilp], [], 0, .unit⟩),
 (55, ⟨1, 24, false, [.nil], [], 54, .unit⟩),
 (67, ⟨1, 24, false, [.nil], [], 5, (.list (.int .u8))⟩),
 (74, ⟨1, 8, false, [.int .u64 0], [], 0, (.int .u64)⟩)]
/-- What the law's row says of package-level variables. -/
def LT (w : World) : Prop := (∃ m, w.cell? ⟨2, 0, none⟩ = some (.int .i64 m)) ∧ Lib.TabIs Tryd.prog w "internal/strconv.uint64pow10" .u64 Lib.pow10Tab ∧ (∃ v, w.cell? ⟨0, 0, none⟩ = some v ∧ (v = .nilIface ∨ ∃ t p, v = .iface t p)) ∧ ∃ v, w.cell? ⟨1, 0, none⟩ = some v ∧ (v = .nilIface ∨ ∃ t p, v = .iface t p)
/-- The blocks that are laid: their numbers and what is in them; wherever they lie so, it is as the row says. -/
def LP (l : List (Nat × Go.Obj)) : Prop := ∀ w : World, (∀ x ∈ l, w.heap[x.1]? = some x.2) → LT w

/-- Cells that stand one behind the other in a block. -/
def At (w : World) (b o : Nat) (vs : List Value) : Prop := ∀ j v, vs[j]? = some v → w.cell? ⟨b, o + j, none⟩ = some v
theorem cell_eq {w w' : World} {b : Nat} (h : w'.heap[b]? = w.heap[b]?) (o : Nat) : w'.cell? ⟨b, o, none⟩ = w.cell? ⟨b, o, none⟩ := by simp only [World.cell?, h]
theorem At.mono {w w' : World} {b o : Nat} {vs : List Value} (h : At w b o vs) (e : w'.heap[b]? = w.heap[b]?) : At w' b o vs := fun j v hv => (cell_eq e _).trans (h j v hv)
theorem At.app {w : World} {b o : Nat} {us vs : List Value} (h : At w b o (us ++ vs)) : At w b o us ∧ At w b (o + us.length) vs := by
 refine ⟨fun j v hv => h j v ?_, fun j v hv => ?_⟩
 ·rw [List.getElem?_append_left (List.getElem?_eq_some_iff.1 hv).1]; exact hv
 ·have := h (us.length + j) v (by rw [List.getElem?_append_right (by omega)]; simpa using hv)
  rwa [← Nat.add_assoc] at this
theorem At.of_block {w : World} {b : Nat} {cur : Array Value} {e : TypeId} {fr : Nat × Nat} (h : w.heap[b]? = some (.cells cur e fr)) {pre us post : List Value} (hc : cur.toList = pre ++ us ++ post) : At w b pre.length us := by
 intro j v hv
 have : cur[pre.length + j]? = some v := by
  rw [← Array.getElem?_toList, hc, List.append_assoc, List.getElem?_append_right (by omega), List.getElem?_append_left (by have := (List.getElem?_eq_some_iff.1 hv).1; omega)]
  simpa using hv
 simp [World.cell?, h, this]
def ELs {α : Type} (R : α → List Value → Prop) (n : Nat) : List α → List Value → Prop
 | [], vs => vs = []
 | x :: xs, vs => ∃ u us, vs = u ++ us ∧ u.length = n ∧ R x u ∧ ELs R n xs us
def EFs {α : Type} (R : α → List Value → List Nat → Prop) (n : Nat) : List α → List Value → List Nat → Prop
 | [], vs, fp => vs = [] ∧ fp = []
 | x :: xs, vs, fp => ∃ u us f fs, vs = u ++ us ∧ fp = f ++ fs ∧ u.length = n ∧ R x u f ∧ EFs R n xs us fs
theorem ELs.mono {α : Type} {R R' : α → List Value → Prop} {n : Nat} (h : ∀ x u, R x u → R' x u) : ∀ {xs : List α} {vs : List Value}, ELs R n xs vs → ELs R' n xs vs
 | [], _, k => k
 | x :: xs, _, ⟨u, us, e, l, r, k⟩ => ⟨u, us, e, l, h x u r, k.mono h⟩
theorem ELs.length {α : Type} {R : α → List Value → Prop} {n : Nat} : ∀ {xs : List α} {vs : List Value}, ELs R n xs vs → vs.length = xs.length * n
 | [], _, k => by simp [ELs] at k; simp [k]
 | x :: xs, _, ⟨u, us, e, l, r, k⟩ => by have := k.length; simp [e, l, this, Nat.add_mul]; omega
theorem ELs.app {α : Type} {R : α → List Value → Prop} {n : Nat} : ∀ {xs ys : List α} {us vs : List Value}, ELs R n xs us → ELs R n ys vs → ELs R n (xs ++ ys) (us ++ vs)
 | [], _, _, _, k, k' => by simp only [ELs] at k; subst k; simpa using k'
 | x :: xs, _, _, _, ⟨u, us, e, l, r, k⟩, k' => ⟨u, us ++ _, by simp [e], l, r, k.app k'⟩
theorem ELs.split {α : Type} {R : α → List Value → Prop} {n : Nat} : ∀ {xs ys : List α} {vs : List Value}, ELs R n (xs ++ ys) vs → ∃ us ws, vs = us ++ ws ∧ ELs R n xs us ∧ ELs R n ys ws
 | [], _, vs, k => ⟨[], vs, rfl, rfl, k⟩
 | x :: xs, ys, _, ⟨u, us, e, l, r, k⟩ => by
  obtain ⟨a, b, e', k1, k2⟩ := ELs.split (xs := xs) (ys := ys) k
  exact ⟨u ++ a, b, by simp [e, e'], ⟨u, a, rfl, l, r, k1⟩, k2⟩
theorem ELs.at {α : Type} {R : α → List Value → Prop} {n : Nat} : ∀ {xs : List α} {vs : List Value} (k : ELs R n xs vs) (i : Nat) (x : α), xs[i]? = some x → ∃ pre u post, vs = pre ++ u ++ post ∧ pre.length = i * n ∧ u.length = n ∧ R x u
 | [], _, _, i, x, h => by simp at h
 | y :: xs, _, ⟨u, us, e, l, r, k⟩, 0, x, h => by
  simp only [List.getElem?_cons_zero, Option.some.injEq] at h; subst h
  exact ⟨[], u, us, by simp [e], by simp, l, r⟩
 | y :: xs, _, ⟨u, us, e, l, r, k⟩, i + 1, x, h => by
  simp only [List.getElem?_cons_succ] at h
  obtain ⟨pre, v, post, e', lp, lv, rv⟩ := ELs.at k i x h
  exact ⟨u ++ pre, v, post, by simp [e, e'], by simp [l, lp, Nat.add_mul]; omega, lv, rv⟩
theorem EFs.mono {α : Type} {R R' : α → List Value → List Nat → Prop} {n : Nat} : ∀ {xs : List α} {vs : List Value} {fp : List Nat}, EFs R n xs vs fp → (∀ x u f, (∀ b ∈ f, b ∈ fp) → R x u f → R' x u f) → EFs R' n xs vs fp
 | [], _, _, k, _ => k
 | x :: xs, _, _, ⟨u, us, f, fs, e, e', l, r, k⟩, h => ⟨u, us, f, fs, e, e', l, h x u f (by intro b hb; simp [e', hb]) r, k.mono fun x u f hf => h x u f (by intro b hb; have := hf b hb; simp [e', this])⟩
theorem EFs.length {α : Type} {R : α → List Value → List Nat → Prop} {n : Nat} : ∀ {xs : List α} {vs : List Value} {fp : List Nat}, EFs R n xs vs fp → vs.length = xs.length * n
 | [], _, _, k => by simp [EFs] at k; simp [k]
 | x :: xs, _, _, ⟨u, us, f, fs, e, e', l, r, k⟩ => by have := k.length; simp [e, l, this, Nat.add_mul]; omega
theorem EFs.app {α : Type} {R : α → List Value → List Nat → Prop} {n : Nat} : ∀ {xs ys : List α} {us vs : List Value} {f g : List Nat}, EFs R n xs us f → EFs R n ys vs g → EFs R n (xs ++ ys) (us ++ vs) (f ++ g)
 | [], _, _, _, _, _, k, k' => by obtain ⟨rfl, rfl⟩ := k; simpa using k'
 | x :: xs, _, _, _, _, _, ⟨u, us, f, fs, e, e', l, r, k⟩, k' => ⟨u, us ++ _, f, fs ++ _, by simp [e], by simp [e'], l, r, k.app k'⟩
theorem EFs.split {α : Type} {R : α → List Value → List Nat → Prop} {n : Nat} : ∀ {xs ys : List α} {vs : List Value} {fp : List Nat}, EFs R n (xs ++ ys) vs fp → ∃ us ws f g, vs = us ++ ws ∧ fp = f ++ g ∧ EFs R n xs us f ∧ EFs R n ys ws g
 | [], _, vs, fp, k => ⟨[], vs, [], fp, rfl, rfl, ⟨rfl, rfl⟩, k⟩
 | x :: xs, ys, _, _, ⟨u, us, f, fs, e, e', l, r, k⟩ => by
  obtain ⟨a, b, c, d, e1, e2, k1, k2⟩ := EFs.split (xs := xs) (ys := ys) k
  exact ⟨u ++ a, b, f ++ c, d, by simp [e, e1], by simp [e', e2], ⟨u, a, f, c, rfl, rfl, l, r, k1⟩, k2⟩
theorem EFs.at {α : Type} {R : α → List Value → List Nat → Prop} {n : Nat} {xs : List α} {vs : List Value} {fp : List Nat} (k : EFs R n xs vs fp) (i : Nat) (x : α) (h : xs[i]? = some x) :
  ∃ pre u post f g f', vs = pre ++ u ++ post ∧ fp = f ++ g ++ f' ∧ pre.length = i * n ∧ u.length = n ∧ R x u g ∧ EFs R n (xs.take i) pre f ∧ EFs R n (xs.drop (i + 1)) post f' := by
 have hi := (List.getElem?_eq_some_iff.1 h).1
 have hx := (List.getElem?_eq_some_iff.1 h).2
 have e : xs = xs.take i ++ (x :: xs.drop (i + 1)) := by rw [← hx, ← List.drop_eq_getElem_cons hi, List.take_append_drop]
 rw [e] at k
 obtain ⟨us, ws, f, g, e1, e2, k1, u, post, g1, f', e3, e4, l, r, k2⟩ := EFs.split k
 have hl := k1.length
 rw [List.length_take, Nat.min_eq_left (by omega)] at hl
 exact ⟨us, u, post, f, g1, f', by rw [e1, e3, List.append_assoc], by rw [e2, e4, List.append_assoc], hl, l, r, k1, k2⟩
theorem EFs.toELs {α : Type} {R : α → List Value → List Nat → Prop} {R' : α → List Value → Prop} {n : Nat} : ∀ {xs : List α} {vs : List Value} {fp : List Nat}, EFs R n xs vs fp → (∀ x u f, (∀ b ∈ f, b ∈ fp) → R x u f → R' x u) → ELs R' n xs vs
 | [], _, _, k, _ => k.1
 | x :: xs, _, _, ⟨u, us, f, fs, e, e', l, r, k⟩, h => ⟨u, us, e, l, h x u f (by intro b hb; simp [e', hb]) r, k.toELs fun x u f hf => h x u f (by intro b hb; have := hf b hb; simp [e', this])⟩
theorem ELs.toEFs {α : Type} {R : α → List Value → Prop} {R' : α → List Value → List Nat → Prop} {n : Nat} (h : ∀ x u, R x u → R' x u []) : ∀ {xs : List α} {vs : List Value}, ELs R n xs vs → EFs R' n xs vs []
 | [], _, k => ⟨k, rfl⟩
 | x :: xs, _, ⟨u, us, e, l, r, k⟩ => ⟨u, us, [], [], e, rfl, l, h x u r, k.toEFs h⟩
/-- What is read only: all its memory lies in blocks of F. -/
def Rd (F : Nat → Prop) (w : World) : (t : T) → t.Den → List Value → Prop
 | .int k, n, vs => vs = [.int k n]
 | .bool, b, vs => vs = [.bool b]
 | .str, s, vs => vs = [.string s]
 | .list t, xs, vs => ∃ A c, vs = [.slice A (List.length (α := t.Den) xs) c] ∧ List.length (α := t.Den) xs ≤ c ∧
   (xs ≠ ([] : List t.Den) → ∃ g o us, A = some ⟨g, o, none⟩ ∧ F g ∧ At w g o us ∧ ELs (Rd F w t) t.sz xs us)
 | .pair a b, x, vs => ∃ us ws, vs = us ++ ws ∧ Rd F w a (Prod.fst (α := a.Den) (β := b.Den) x) us ∧ Rd F w b (Prod.snd (α := a.Den) (β := b.Den) x) ws
 | .unit, _, vs => vs = []
/-- What is one's own, down to the last list: the blocks that it takes. -/
def Ow (w : World) : (t : T) → t.Den → List Value → List Nat → Prop
 | .int k, n, vs, fp => vs = [.int k n] ∧ fp = []
 | .bool, b, vs, fp => vs = [.bool b] ∧ fp = []
 | .str, s, vs, fp => vs = [.string s] ∧ fp = []
 | .list t, xs, vs, fp => (xs = ([] : List t.Den) ∧ fp = [] ∧ ∃ A, vs = [.slice A 0 0]) ∨
   ∃ g o c cur e pre us post f, vs = [.slice (some ⟨g, o, none⟩) (List.length (α := t.Den) xs) c] ∧ fp = g :: f ∧ w.heap[g]? = some (.cells cur e (0, 0)) ∧ cur.toList = pre ++ us ++ post ∧ (pre.length = o ∧ t.sz ∣ o) ∧
    List.length (α := t.Den) xs ≤ c ∧ o + c * t.sz ≤ cur.size ∧ EFs (Ow w t) t.sz xs us f
 | .pair a b, x, vs, fp => ∃ us ws f g, vs = us ++ ws ∧ fp = f ++ g ∧ Ow w a (Prod.fst (α := a.Den) (β := b.Den) x) us f ∧ Ow w b (Prod.snd (α := a.Den) (β := b.Den) x) ws g
 | .unit, _, vs, fp => vs = [] ∧ fp = []
theorem Rd.mono {F F' : Nat → Prop} {w w' : World} (hF : ∀ b, F b → F' b) (hw : ∀ b, F b → w'.heap[b]? = w.heap[b]?) : ∀ {t : T} {x : t.Den} {vs : List Value}, Rd F w t x vs → Rd F' w' t x vs
 | .int k, _, _, h => h
 | .bool, _, _, h => h
 | .str, _, _, h => h
 | .list t, xs, vs, ⟨A, c, e, l, h⟩ => ⟨A, c, e, l, fun hx => by
   obtain ⟨g, o, us, e', f, a, k⟩ := h hx
   exact ⟨g, o, us, e', hF g f, a.mono (hw g f), k.mono fun x u r => Rd.mono hF hw r⟩⟩
 | .pair a b, x, vs, ⟨us, ws, e, h, k⟩ => ⟨us, ws, e, Rd.mono hF hw h, Rd.mono hF hw k⟩
 | .unit, _, _, h => h
theorem Ow.mono {w w' : World} : ∀ {t : T} {x : t.Den} {vs : List Value} {fp : List Nat}, Ow w t x vs fp → (∀ b ∈ fp, w'.heap[b]? = w.heap[b]?) → Ow w' t x vs fp
 | .int k, _, _, _, h, _ => h
 | .bool, _, _, _, h, _ => h
 | .str, _, _, _, h, _ => h
 | .list t, xs, vs, fp, .inl h, _ => .inl h
 | .list t, xs, vs, fp, .inr ⟨g, o, c, cur, e, pre, us, post, f, e1, e2, hh, e3, e4, l, l', k⟩, hw =>
  .inr ⟨g, o, c, cur, e, pre, us, post, f, e1, e2, (hw g (by simp [e2])).trans hh, e3, e4, l, l', k.mono fun x u f' hf r => Ow.mono r fun b hb => hw b (by simp [e2, hf b hb])⟩
 | .pair a b, x, vs, fp, ⟨us, ws, f, g, e, e', h, k⟩, hw => ⟨us, ws, f, g, e, e', Ow.mono h fun b hb => hw b (by simp [e', hb]), Ow.mono k fun b hb => hw b (by simp [e', hb])⟩
 | .unit, _, _, _, h, _ => h
theorem Ow.rd {F : Nat → Prop} {w : World} : ∀ {t : T} {x : t.Den} {vs : List Value} {fp : List Nat}, Ow w t x vs fp → (∀ b ∈ fp, F b) → Rd F w t x vs
 | .int k, _, _, _, h, _ => h.1
 | .bool, _, _, _, h, _ => h.1
 | .str, _, _, _, h, _ => h.1
 | .list t, xs, vs, fp, .inl ⟨h, _, A, h'⟩, _ => by subst h; exact ⟨A, 0, h', Nat.le_refl _, fun hx => absurd rfl hx⟩
 | .list t, xs, vs, fp, .inr ⟨g, o, c, cur, e, pre, us, post, f, e1, e2, hh, e3, e4, l, l', k⟩, hF =>
  ⟨_, c, e1, l, fun _ => ⟨g, o, us, rfl, hF g (by simp [e2]), e4.1 ▸ At.of_block hh e3, k.toELs fun x u f' hf r => Ow.rd r fun b hb => hF b (by simp [e2, hf b hb])⟩⟩
 | .pair a b, x, vs, fp, ⟨us, ws, f, g, e, e', h, k⟩, hF => ⟨us, ws, e, Ow.rd h fun b hb => hF b (by simp [e', hb]), Ow.rd k fun b hb => hF b (by simp [e', hb])⟩
 | .unit, _, _, _, h, _ => h.1
theorem Rd.length {F : Nat → Prop} {w : World} : ∀ {t : T} {x : t.Den} {vs : List Value}, Rd F w t x vs → vs.length = t.sz
 | .int k, _, _, h => by simp [Rd] at h; simp [h, T.sz]
 | .bool, _, _, h => by simp [Rd] at h; simp [h, T.sz]
 | .str, _, _, h => by simp [Rd] at h; simp [h, T.sz]
 | .list t, _, _, ⟨A, c, e, _, _⟩ => by simp [e, T.sz]
 | .pair a b, _, _, ⟨us, ws, e, h, k⟩ => by simp [e, T.sz, Rd.length h, Rd.length k]
 | .unit, _, _, h => by simp [Rd] at h; simp [h, T.sz]
theorem Ow.length {w : World} : ∀ {t : T} {x : t.Den} {vs : List Value} {fp : List Nat}, Ow w t x vs fp → vs.length = t.sz
 | .int k, _, _, _, h => by simp [h.1, T.sz]
 | .bool, _, _, _, h => by simp [h.1, T.sz]
 | .str, _, _, _, h => by simp [h.1, T.sz]
 | .list t, _, _, _, .inl ⟨_, _, A, h⟩ => by simp [h, T.sz]
 | .list t, _, _, _, .inr ⟨g, o, c, cur, e, pre, us, post, f, e1, _⟩ => by simp [e1, T.sz]
 | .pair a b, _, _, _, ⟨us, ws, f, g, e, e', h, k⟩ => by simp [e, T.sz, Ow.length h, Ow.length k]
 | .unit, _, _, _, h => by simp [h.1, T.sz]
/-- Without a list inside, both are one. -/
theorem Rd.flat {F F' : Nat → Prop} {w w' : World} : ∀ {t : T} {x : t.Den} {vs : List Value}, t.flat = true → Rd F w t x vs → Rd F' w' t x vs
 | .int k, _, _, _, h => h
 | .bool, _, _, _, h => h
 | .str, _, _, _, h => h
 | .pair a b, _, _, hf, ⟨us, ws, e, h, k⟩ => by
  simp only [T.flat, Bool.and_eq_true] at hf
  exact ⟨us, ws, e, Rd.flat hf.1 h, Rd.flat hf.2 k⟩
 | .unit, _, _, _, h => h
theorem Rd.ow {F : Nat → Prop} {w w' : World} : ∀ {t : T} {x : t.Den} {vs : List Value}, t.flat = true → Rd F w t x vs → Ow w' t x vs []
 | .int k, _, _, _, h => ⟨h, rfl⟩
 | .bool, _, _, _, h => ⟨h, rfl⟩
 | .str, _, _, _, h => ⟨h, rfl⟩
 | .pair a b, _, _, hf, ⟨us, ws, e, h, k⟩ => by
  simp only [T.flat, Bool.and_eq_true] at hf
  exact ⟨us, ws, [], [], e, rfl, Rd.ow hf.1 h, Rd.ow hf.2 k⟩
 | .unit, _, _, _, h => ⟨h, rfl⟩
theorem Ow.flat {w w' : World} : ∀ {t : T} {x : t.Den} {vs : List Value} {fp : List Nat}, t.flat = true → Ow w t x vs fp → fp = [] ∧ Ow w' t x vs []
 | .int k, _, _, _, _, h => ⟨h.2, h.1, rfl⟩
 | .bool, _, _, _, _, h => ⟨h.2, h.1, rfl⟩
 | .str, _, _, _, _, h => ⟨h.2, h.1, rfl⟩
 | .pair a b, _, _, _, hf, ⟨us, ws, f, g, e, e', h, k⟩ => by
  simp only [T.flat, Bool.and_eq_true] at hf
  obtain ⟨rfl, h'⟩ := Ow.flat (w' := w') hf.1 h
  obtain ⟨rfl, k'⟩ := Ow.flat (w' := w') hf.2 k
  exact ⟨by simp [e'], us, ws, [], [], e, rfl, h', k'⟩
 | .unit, _, _, _, _, h => ⟨h.2, h.1, rfl⟩
/-- An element of a row: deep (one's own) or not. -/
def El (d : Bool) (F : Nat → Prop) (w : World) (t : T) (x : t.Den) (us : List Value) (fp : List Nat) : Prop := if d = true then Ow w t x us fp else Rd F w t x us ∧ fp = []
theorem El.mono {d : Bool} {F F' : Nat → Prop} {w w' : World} {t : T} {x : t.Den} {us : List Value} {fp : List Nat} (h : El d F w t x us fp) (hF : ∀ b, F b → F' b) (hw : ∀ b, F b → w'.heap[b]? = w.heap[b]?) (ho : ∀ b ∈ fp, w'.heap[b]? = w.heap[b]?) : El d F' w' t x us fp := by
 unfold El at *
 split <;> rename_i hd <;> simp only [hd, if_true] at h
 ·exact Ow.mono h ho
 ·simp at h; exact ⟨Rd.mono hF hw h.1, h.2⟩
theorem El.rd {d : Bool} {F F' : Nat → Prop} {w : World} {t : T} {x : t.Den} {us : List Value} {fp : List Nat} (h : El d F w t x us fp) (hF : ∀ b, F b → F' b) (ho : ∀ b ∈ fp, F' b) : Rd F' w t x us := by
 unfold El at h
 split at h
 ·exact Ow.rd h ho
 ·exact Rd.mono hF (fun _ _ => rfl) h.1
theorem El.length {d : Bool} {F : Nat → Prop} {w : World} {t : T} {x : t.Den} {us : List Value} {fp : List Nat} (h : El d F w t x us fp) : us.length = t.sz := by
 unfold El at h
 split at h
 ·exact Ow.length h
 ·exact Rd.length h.1
theorem El.flat {d d' : Bool} {F F' : Nat → Prop} {w w' : World} {t : T} {x : t.Den} {us : List Value} {fp : List Nat} (hf : t.flat = true) (h : El d F w t x us fp) : fp = [] ∧ El d' F' w' t x us [] := by
 have key : fp = [] ∧ Rd F' w' t x us := by
  unfold El at h
  split at h
  ·obtain ⟨rfl, h'⟩ := Ow.flat (w' := w') hf h
   exact ⟨rfl, Ow.rd h' (by simp)⟩
  ·exact ⟨h.2, Rd.flat hf h.1⟩
 refine ⟨key.1, ?_⟩
 unfold El
 split
 ·exact Rd.ow hf key.2
 ·exact ⟨key.2, rfl⟩

/-- Where the objects lie (block, first element), whose a block is, and which blocks are read only. -/
structure Gh where
 blk : Nat → Option (Nat × Nat)
 ow : Nat → Option Nat
 F : Nat → Prop
def Obj.isBox : Obj → Bool
 | .box _ | .cbox _ | .bld _ _ _ => true
 | _ => false
def Obj.isBld : Obj → Bool
 | .bld _ _ _ => true
 | _ => false
def Obj.isSeq (t : T) (e n : Nat) : Obj → Prop
 | .row _ t' e' xs => t' = t ∧ e' = e ∧ xs.length = n
 | .fro t' e' xs => t' = t ∧ e' = e ∧ xs.length = n
 | .orow t' e' xs _ _ => t' = t ∧ e' = e ∧ xs.length = n
 | _ => False
def known (H : Heap) (o : Nat) : Prop := (get H o).isSome = true
theorem known_of_at {H : Heap} {o : Nat} {ob : Obj} (h : H.at o = some ob) : known H o := by
 unfold Heap.at at h; unfold known
 cases hg : get H o <;> simp [hg] at h ⊢
def OwnRef (blk : Option (Nat × Nat)) (w : World) (sz n off : Nat) (v : Value) : Prop :=
 match blk with
 | none => n = 0 ∧ off = 0 ∧ ∃ A, v = .slice A 0 0
 | some (b, s) => ∃ A c cur e fr, v = .slice A (n - off) (c - off) ∧ off ≤ n ∧ n ≤ c ∧ w.heap[b]? = some (.cells cur e fr) ∧ (s + c) * sz ≤ cur.size ∧ (off < c → A = some ⟨b, (s + off) * sz, none⟩)
def PtrRef (g : Gh) (H : Heap) (o off : Nat) (v : Value) : Prop :=
 known H o ∧ ∀ ob, H.at o = some ob → ob.isBox = true → ∃ b, g.blk o = some (b, 0) ∧ v = .pointer (some ⟨b, off, none⟩)
def PtrRefs (g : Gh) (H : Heap) : List (Nat × Nat) → List Value → Prop
 | [], vs => vs = []
 | c :: cs, vs => ∃ u us, vs = u :: us ∧ u.oneCell = true ∧ PtrRef g H c.1 c.2 u ∧ PtrRefs g H cs us
def RC' (g : Gh) (H : Heap) (w : World) : C → Value → Prop
 | .int k n, v => v = .int k n
 | .bool b, v => v = .bool b
 | .str s, v => v = .string s
 | .lst t xs, v => Rd g.F w (.list t) xs [v]
 | .nil, v => ∃ A, v = .slice A 0 0
 | .own o e off, v => known H o ∧ (∀ ob t' e' n, H.at o = some ob → ob.isSeq t' e' n → e ≤ e') ∧ ∀ ob t n, H.at o = some ob → ob.isSeq t e n → OwnRef (g.blk o) w t.sz n off v
 | .nwn _ _ _, _ => True
 | .ptr o off, v => PtrRef g H o off v
 | .pel o e p i off, v => known H o ∧ (∀ ob t' e' n, H.at o = some ob → ob.isSeq t' e' n → e ≤ e') ∧ (p = [] → ∀ ob t n, H.at o = some ob → ob.isSeq t e n → i < n ∧ ∃ b s, g.blk o = some (b, s) ∧ v = .pointer (some ⟨b, (s + i) * t.sz + off, none⟩))
 | .at_ t x off, v => ∃ b o us, v = .pointer (some ⟨b, o + off, none⟩) ∧ g.F b ∧ At w b o us ∧ Rd g.F w t x us
 | .fn f caps, v => ∃ cv : Array Value, v = .func (.func f) #[] cv ∧ PtrRefs g H caps cv.toList
 | .prs l, v => ∃ b o us c, v = .slice (some ⟨b, o, none⟩) l.length c ∧ l.length ≤ c ∧ g.F b ∧ At w b o us ∧ PtrRefs g H l us
 | .pad l i, v => ∃ b o us, v = .pointer (some ⟨b, o + i, none⟩) ∧ g.F b ∧ At w b o us ∧ PtrRefs g H l us
 | .nilp, v => v = .pointer none ∨ v = .nilIface
 | .err b, v => match b with
  | true => ∃ t x, v = .iface t x
  | false => v = .nilIface
def RC (g : Gh) (H : Heap) (w : World) (c : C) (v : Value) : Prop := v.oneCell = true ∧ RC' g H w c v
def RCs (g : Gh) (H : Heap) (w : World) : List C → List Value → Prop
 | [], vs => vs = []
 | c :: cs, vs => ∃ u us, vs = u :: us ∧ RC g H w c u ∧ RCs g H w cs us
def RVal (g : Gh) (H : Heap) (w : World) (agg : Bool) (cs : List C) (v : Value) : Prop :=
 if agg = true then ∃ vs : Array Value, v = .agg vs ∧ RCs g H w cs vs.toList else RCs g H w cs [v]
def RVals (g : Gh) (H : Heap) (w : World) : List (Bool × List C) → List Value → Prop
 | [], vs => vs = []
 | c :: cs, vs => ∃ u us, vs = u :: us ∧ RVal g H w c.1 c.2 u ∧ RVals g H w cs us
def RV (g : Gh) (H : Heap) (w : World) : V → Value → Prop
 | .val agg cs, v => RVal g H w agg cs v
 | .tup l, v => ∃ vs : Array Value, v = .tuple vs ∧ RVals g H w l vs.toList
 | .x, _ => True
/-- The block and its row of bytes, whatever of it is frozen. -/
def Bld (own : Nat → Prop) (w : World) (b ty el : Nat) (s : ByteArray) : Prop :=
 own b ∧ ∃ p v, w.heap[b]? = some (.cells #[p, v] ty (0, 0)) ∧ (p = .pointer none ∨ p = .pointer (some ⟨b, 0, none⟩)) ∧ w.ownsRowF 0 el 1 v s.size (Lib.strCells s) ∧ (v = .slice none 0 0 ↔ s.size = 0) ∧ ∀ x, v.ownBlock = some x → x ≠ b ∧ own x
theorem ownsRowF_congr {w w' : World} {base e size : Nat} {v : Value} {n : Nat} {xs : List Value} (h : w.ownsRowF base e size v n xs) (hk : ∀ x, v.ownBlock = some x → w'.heap[x]? = w.heap[x]?) : w'.ownsRowF base e size v n xs := by
 refine ⟨h.1, h.2.imp (fun h => h) ?_⟩
 rintro ⟨g, cap, cur, fz, rfl, h2, h3, h4⟩
 exact ⟨g, cap, cur, fz, rfl, h2, (hk g rfl).trans h3, h4⟩
theorem Bld.congr {own own' : Nat → Prop} {w w' : World} {b ty el : Nat} {s : ByteArray} (h : Bld own w b ty el s) (hk : ∀ x, own x → own' x ∧ w'.heap[x]? = w.heap[x]?) : Bld own' w' b ty el s := by
 obtain ⟨h1, p, v, h2, h3, h4, h5, h6⟩ := h
 exact ⟨(hk b h1).1, p, v, (hk b h1).2.trans h2, h3, ownsRowF_congr h4 fun x hx => (hk x (h6 x hx).2).2, h5, fun x hx => ⟨(h6 x hx).1, (hk x (h6 x hx).2).1⟩⟩
def RO (g : Gh) (H : Heap) (w : World) (o : Nat) : Obj → Prop
 | .box cs => ∃ b cur e, g.blk o = some (b, 0) ∧ g.ow b = some o ∧ w.heap[b]? = some (.cells cur e (0, 0)) ∧ RCs g H w cs cur.toList
 | .cbox cs => ∃ b cur e fr, g.blk o = some (b, 0) ∧ g.F b ∧ w.heap[b]? = some (.cells cur e fr) ∧ RCs g H w cs cur.toList
 | .row d t e xs => match g.blk o with
  | none => xs = []
  | some (b, s) => ∃ cur ty pre us post fp, g.ow b = some o ∧ w.heap[b]? = some (.cells cur ty (0, 0)) ∧ cur.toList = pre ++ us ++ post ∧ pre.length = s * t.sz ∧ EFs (El d g.F w t) t.sz xs us fp ∧ (b :: fp).Nodup ∧ ∀ b' ∈ fp, g.ow b' = some o
 | .fro t e xs => match g.blk o with
  | none => xs = []
  | some (b, s) => ∃ us, g.F b ∧ At w b (s * t.sz) us ∧ ELs (Rd g.F w t) t.sz xs us
 | .bld ty el s => ∃ b, g.blk o = some (b, 0) ∧ Bld (fun x => g.ow x = some o) w b ty el s
 | .orow t e xs i cs => ∃ b s cur ty pre p1 u p2 post f1 f2, g.blk o = some (b, s) ∧ g.ow b = some o ∧ w.heap[b]? = some (.cells cur ty (0, 0)) ∧ cur.toList = pre ++ (p1 ++ u ++ p2) ++ post ∧ pre.length = s * t.sz ∧ i < xs.length ∧ u.length = t.sz ∧
   EFs (Ow w t) t.sz (xs.take i) p1 f1 ∧ EFs (Ow w t) t.sz (xs.drop (i + 1)) p2 f2 ∧ RCs g H w cs u ∧ (b :: (f1 ++ f2)).Nodup ∧ ∀ b' ∈ f1 ++ f2, g.ow b' = some o
structure Ge (g : Gh) (H : Heap) (w : World) (g' : Gh) (H' : Heap) (w' : World) : Prop where
 kn : ∀ o, known H o → known H' o
 bx : ∀ o ob', known H o → H'.at o = some ob' → ob'.isBox = true → (∃ ob, H.at o = some ob ∧ ob.isBox = true) ∧ g'.blk o = g.blk o
 sq : ∀ o ob' t e n, known H o → H'.at o = some ob' → ob'.isSeq t e n → (∃ ob, H.at o = some ob ∧ ((ob.isSeq t e n ∧ g'.blk o = g.blk o) ∨ ∃ t' e' n', ob.isSeq t' e' n' ∧ e' < e))
 F : ∀ b, g.F b → g'.F b ∧ w'.heap[b]? = w.heap[b]?
 sz : ∀ (b : Nat) (cur : Array Value) (e : TypeId) (fr : Nat × Nat), w.heap[b]? = some (Go.Obj.cells cur e fr) → ∃ (cur' : Array Value) (fr' : Nat × Nat), w'.heap[b]? = some (Go.Obj.cells cur' e fr') ∧ cur'.size = cur.size
theorem Obj.isSeq_det {ob : Obj} {t t' : T} {e e' n n' : Nat} (h : ob.isSeq t e n) (k : ob.isSeq t' e' n') : t = t' ∧ e = e' ∧ n = n' := by
 cases ob <;> simp only [Obj.isSeq] at h k
 all_goals exact ⟨h.1.symm.trans k.1, h.2.1.symm.trans k.2.1, h.2.2.symm.trans k.2.2⟩
theorem Ge.refl (g : Gh) (H : Heap) (w : World) : Ge g H w g H w :=
 ⟨fun _ h => h, fun o ob _ h hb => ⟨⟨ob, h, hb⟩, rfl⟩, fun o ob t e n _ h hs => ⟨ob, h, .inl ⟨hs, rfl⟩⟩, fun b h => ⟨h, rfl⟩, fun b cur e fr h => ⟨cur, fr, h, rfl⟩⟩
section
variable {g g' : Gh} {H H' : Heap} {w w' : World}
theorem Ge.rd (G : Ge g H w g' H' w') {t : T} {x : t.Den} {vs : List Value} (h : Rd g.F w t x vs) : Rd g'.F w' t x vs := Rd.mono (fun b hb => (G.F b hb).1) (fun b hb => (G.F b hb).2) h
theorem Ge.ownRef (G : Ge g H w g' H' w') {o sz n off : Nat} {v : Value} (e : g'.blk o = g.blk o) (h : OwnRef (g.blk o) w sz n off v) : OwnRef (g'.blk o) w' sz n off v := by
 rw [e]
 unfold OwnRef at *
 split <;> rename_i hb <;> simp only [hb] at h
 ·exact h
 ·obtain ⟨A, c, cur, ty, fr, h1, h2, h3, h4, h5, h6⟩ := h
  obtain ⟨cur', fr', k1, k2⟩ := G.sz _ _ _ _ h4
  exact ⟨A, c, cur', ty, fr', h1, h2, h3, k1, k2 ▸ h5, h6⟩
theorem Ge.ptrRef (G : Ge g H w g' H' w') {o off : Nat} {v : Value} (h : PtrRef g H o off v) : PtrRef g' H' o off v := by
 refine ⟨G.kn _ h.1, fun ob' hb hx => ?_⟩
 obtain ⟨⟨ob, k1, k2⟩, e⟩ := G.bx o ob' h.1 hb hx
 rw [e]; exact h.2 ob k1 k2
theorem Ge.ptrRefs (G : Ge g H w g' H' w') : ∀ {l : List (Nat × Nat)} {vs : List Value}, PtrRefs g H l vs → PtrRefs g' H' l vs
 | [], _, h => h
 | c :: cs, _, ⟨u, us, e, ho, h, k⟩ => ⟨u, us, e, ho, G.ptrRef h, G.ptrRefs k⟩
theorem Ge.ep (G : Ge g H w g' H' w') {o e : Nat} (hk : known H o) (h : ∀ ob t' e' n, H.at o = some ob → ob.isSeq t' e' n → e ≤ e') : ∀ ob t' e' n, H'.at o = some ob → ob.isSeq t' e' n → e ≤ e' := by
 intro ob' t' e' n h1 h2
 obtain ⟨ob, k1, k2⟩ := G.sq o ob' t' e' n hk h1 h2
 rcases k2 with ⟨k2, _⟩ | ⟨t'', e'', n'', k2, k3⟩
 ·exact h ob _ _ _ k1 k2
 ·have := h ob _ _ _ k1 k2; omega
theorem Ge.rc (G : Ge g H w g' H' w') : ∀ {c : C} {v : Value}, RC g H w c v → RC g' H' w' c v := by
 rintro c v ⟨h0, h⟩
 refine ⟨h0, ?_⟩
 cases c with
 | int k n => exact h
 | bool b => exact h
 | str s => exact h
 | lst t xs => exact G.rd h
 | nil => exact h
 | own o e off =>
  refine ⟨G.kn _ h.1, G.ep h.1 h.2.1, fun ob' t n h1 h2 => ?_⟩
  obtain ⟨ob, k1, k2⟩ := G.sq o ob' t e n h.1 h1 h2
  rcases k2 with ⟨k2, k3⟩ | ⟨t'', e'', n'', k2, k3⟩
  ·exact G.ownRef k3 (h.2.2 ob t n k1 k2)
  ·have := h.2.1 ob _ _ _ k1 k2; omega
 | nwn o e p => exact h
 | ptr o off => exact G.ptrRef h
 | pel o e p i off =>
  refine ⟨G.kn _ h.1, G.ep h.1 h.2.1, fun hp ob' t n h1 h2 => ?_⟩
  obtain ⟨ob, k1, k2⟩ := G.sq o ob' t e n h.1 h1 h2
  rcases k2 with ⟨k2, k3⟩ | ⟨t'', e'', n'', k2, k3⟩
  ·rw [k3]; exact h.2.2 hp ob t n k1 k2
  ·have := h.2.1 ob _ _ _ k1 k2; omega
 | at_ t x off =>
  obtain ⟨b, o, us, e, hF, ha, hr⟩ := h
  exact ⟨b, o, us, e, (G.F b hF).1, ha.mono (G.F b hF).2, G.rd hr⟩
 | fn f caps =>
  obtain ⟨cv, e, k⟩ := h
  exact ⟨cv, e, G.ptrRefs k⟩
 | prs l =>
  obtain ⟨b, o, us, c, h1, h2, h3, h4, h5⟩ := h
  exact ⟨b, o, us, c, h1, h2, (G.F b h3).1, h4.mono (G.F b h3).2, G.ptrRefs h5⟩
 | pad l i =>
  obtain ⟨b, o, us, h1, h3, h4, h5⟩ := h
  exact ⟨b, o, us, h1, (G.F b h3).1, h4.mono (G.F b h3).2, G.ptrRefs h5⟩
 | nilp => exact h
 | err b => exact h
theorem Ge.rcs (G : Ge g H w g' H' w') : ∀ {cs : List C} {vs : List Value}, RCs g H w cs vs → RCs g' H' w' cs vs
 | [], _, h => h
 | c :: cs, _, ⟨u, us, e, h, k⟩ => ⟨u, us, e, G.rc h, G.rcs k⟩
theorem Ge.rval (G : Ge g H w g' H' w') {agg : Bool} {cs : List C} {v : Value} (h : RVal g H w agg cs v) : RVal g' H' w' agg cs v := by
 unfold RVal at *
 split <;> rename_i hh <;> simp only [hh, if_true] at h
 ·obtain ⟨vs, e, k⟩ := h; exact ⟨vs, e, G.rcs k⟩
 ·exact G.rcs (by simpa using h)
theorem Ge.rvals (G : Ge g H w g' H' w') : ∀ {cs : List (Bool × List C)} {vs : List Value}, RVals g H w cs vs → RVals g' H' w' cs vs
 | [], _, h => h
 | c :: cs, _, ⟨u, us, e, h, k⟩ => ⟨u, us, e, G.rval h, G.rvals k⟩
theorem Ge.rv (G : Ge g H w g' H' w') : ∀ {v : V} {u : Value}, RV g H w v u → RV g' H' w' v u
 | .val _ _, _, h => G.rval h
 | .tup _, _, ⟨vs, e, k⟩ => ⟨vs, e, G.rvals k⟩
 | .x, _, _ => trivial
/-- An object that nothing has happened to. -/
theorem Ge.ro (G : Ge g H w g' H' w') {o : Nat} {ob : Obj} (hb : g'.blk o = g.blk o) (ho : ∀ b, g.ow b = some o → g'.ow b = some o ∧ w'.heap[b]? = w.heap[b]?) (h : RO g H w o ob) : RO g' H' w' o ob := by
 cases ob with
 | box cs =>
  obtain ⟨b, cur, e, h1, h2, h3, h4⟩ := h
  exact ⟨b, cur, e, hb.trans h1, (ho b h2).1, (ho b h2).2.trans h3, G.rcs h4⟩
 | cbox cs =>
  obtain ⟨b, cur, e, fr, h1, h2, h3, h4⟩ := h
  exact ⟨b, cur, e, fr, hb.trans h1, (G.F b h2).1, (G.F b h2).2.trans h3, G.rcs h4⟩
 | bld ty el s =>
  obtain ⟨b, h1, h2⟩ := h
  exact ⟨b, hb.trans h1, h2.congr ho⟩
 | orow t e xs i cs =>
  obtain ⟨b, s, cur, ty, pre, p1, u, p2, post, f1, f2, h1, h2, h3, h4, h5, h6, h7, h8, h9, h10, h11, h12⟩ := h
  exact ⟨b, s, cur, ty, pre, p1, u, p2, post, f1, f2, hb.trans h1, (ho _ h2).1, (ho _ h2).2.trans h3, h4, h5, h6, h7,
   h8.mono fun x u f hf r => r.mono fun b hb => (ho b (h12 b (by simp [hf b hb]))).2, h9.mono fun x u f hf r => r.mono fun b hb => (ho b (h12 b (by simp [hf b hb]))).2, G.rcs h10, h11, fun b' hb' => (ho _ (h12 b' hb')).1⟩
 | row d t e xs =>
  simp only [RO, hb] at h ⊢
  split <;> rename_i hh <;> simp only [hh] at h
  ·exact h
  ·obtain ⟨cur, ty, pre, us, post, fp, h1, h2, h3, h4, h5, h6, h7⟩ := h
   exact ⟨cur, ty, pre, us, post, fp, (ho _ h1).1, (ho _ h1).2.trans h2, h3, h4,
    h5.mono (fun x u f hf r => r.mono (fun b hb => (G.F b hb).1) (fun b hb => (G.F b hb).2) fun b hb => (ho b (h7 b (hf b hb))).2), h6, fun b' hb' => (ho _ (h7 b' hb')).1⟩
 | fro t e xs =>
  simp only [RO, hb] at h ⊢
  split <;> rename_i hh <;> simp only [hh] at h
  ·exact h
  ·obtain ⟨us, h1, h2, h3⟩ := h
   exact ⟨us, (G.F _ h1).1, h2.mono (G.F _ h1).2, h3.mono fun x u r => G.rd r⟩
end
/-- How it began: the world, and what came in. -/
structure Base where
 w : World
 g : Gh
 H : Heap
 n : Nat              -- how many slots
 keep : List Nat
/-- What a run may do to the world: blocks that are not its own stay. -/
structure Ext (own : Nat → Prop) (w w' : World) : Prop where
 os : w'.os = w.os
 tape : w'.tape = w.tape
 output : w'.output = w.output
 size : w.heap.size ≤ w'.heap.size
 block : ∀ b, b < w.heap.size → ¬ own b → w'.heap[b]? = w.heap[b]?
theorem Ext.refl (own : Nat → Prop) (w : World) : Ext own w w := ⟨rfl, rfl, rfl, Nat.le_refl _, fun _ _ _ => rfl⟩
theorem Ext.trans {own own' : Nat → Prop} {w w1 w2 : World} (h : Ext own w w1) (k : Ext own' w1 w2) (ho : ∀ b, b < w.heap.size → own' b → own b) : Ext own w w2 :=
 ⟨k.os.trans h.os, k.tape.trans h.tape, k.output.trans h.output, Nat.le_trans h.size k.size, fun b hb hn => (k.block b (Nat.lt_of_lt_of_le hb h.size) fun h' => hn (ho b hb h')).trans (h.block b hb hn)⟩
/-- What is laid ahead of the run lies there still, and is written no more. -/
def LX (F : Nat → Prop) (w : World) : Prop := ∃ l : List (Nat × Go.Obj), LP l ∧ ∀ x ∈ l, F x.1 ∧ w.heap[x.1]? = some x.2
theorem LX.mono {F F' : Nat → Prop} {w w' : World} (h : LX F w) (hF : ∀ b, F b → F' b ∧ w'.heap[b]? = w.heap[b]?) : LX F' w' := by
 obtain ⟨l, h1, h2⟩ := h
 exact ⟨l, h1, fun x hx => ⟨(hF _ (h2 x hx).1).1, (hF _ (h2 x hx).1).2.trans (h2 x hx).2⟩⟩
structure RelG (g : Gh) (H : Heap) (w : World) : Prop where
 obj : ∀ o ob, H.at o = some ob → RO g H w o ob
 ow : ∀ b o, g.ow b = some o → ¬ g.F b ∧ b < w.heap.size
 F : ∀ b, g.F b → b < w.heap.size
 lx : LX g.F w
structure Rel (B : Base) (g : Gh) (env : Env) (H : Heap) (a : Act) (w : World) : Prop extends RelG g H w where
 env : ∀ s v, get env s = some v → RV g H w v (a.tmps.getD s undef)
 sz : a.tmps.size = B.n
 df : a.defers = []
 fr : Ext (fun b => B.g.ow b ≠ none) B.w w
 owB : ∀ b o, g.ow b = some o → B.g.ow b ≠ none ∨ B.w.heap.size ≤ b
 FB : ∀ b, g.F b → B.g.F b ∨ B.g.ow b ≠ none ∨ B.w.heap.size ≤ b
 BF : ∀ b, B.g.F b → g.F b
 bs : ∀ (b : Nat) (cur : Array Value) (e : TypeId) (fr : Nat × Nat), B.w.heap[b]? = some (Go.Obj.cells cur e fr) → ∃ (cur' : Array Value) (fr' : Nat × Nat), w.heap[b]? = some (Go.Obj.cells cur' e fr') ∧ cur'.size = cur.size
 kp : ∀ j ∈ B.keep, j < 100 → ∀ ob t n, H.at j = some ob → ob.isSeq t 0 n → ∃ ob0, B.H.at j = some ob0 ∧ ob0.isSeq t 0 n ∧ g.blk j = B.g.blk j
 kd : ∀ j ob, j < 100 → H.at j = some ob → ∃ ob0, B.H.at j = some ob0 ∧ ob0.isBox = ob.isBox ∧ (ob.isBox = true → g.blk j = B.g.blk j)
theorem Obj.seq_of {ob : Obj} (h : ob.isBox = false) : ∃ t e n, ob.isSeq t e n := by
 cases ob with
 | box _ => cases h
 | cbox _ => cases h
 | bld _ _ _ => cases h
 | row d t e xs => exact ⟨t, e, xs.length, rfl, rfl, rfl⟩
 | fro t e xs => exact ⟨t, e, xs.length, rfl, rfl, rfl⟩
 | orow t e xs i cs => exact ⟨t, e, xs.length, rfl, rfl, rfl⟩
theorem Obj.of_seq {ob : Obj} {t : T} {e n : Nat} (h : ob.isSeq t e n) : ob.isBox = false := by
 cases ob with
 | box _ => exact h.elim
 | cbox _ => exact h.elim
 | bld _ _ _ => exact h.elim
 | row d t e xs => rfl
 | fro t e xs => rfl
 | orow t e xs i cs => rfl
theorem getD_put (a : Act) (d : Nat) (v : Value) (s : Nat) (hd : d < a.tmps.size) : (a.put (some d) v).tmps.getD s undef = if d = s then v else a.tmps.getD s undef := by
 simp only [Act.put, Array.getD_eq_getD_getElem?, Array.getElem?_setIfInBounds]
 by_cases e : d = s
 ·subst e; simp [hd]
 ·simp [e]
theorem get_cons {α : Type} (d s : Nat) (v : α) (l : List (Nat × α)) : get ((d, v) :: l) s = if d = s then some v else get l s := by
 simp only [get]
 by_cases e : d = s
 ·simp [e]
 ·have : Nat.beq d s = false := by rw [← Bool.not_eq_true]; exact fun h => e (Nat.eq_of_beq_eq_true h)
  simp [e, this]
theorem Rel.step {B : Base} {g g' : Gh} {env : Env} {H H' : Heap} {a : Act} {w w' : World} {o : Oper} {v : V} {cv : Value} (R : Rel B g env H a w) (G : Ge g H w g' H' w') (hd : ∀ d, o.dst = some d → d < B.n)
  (hv : RV g' H' w' v cv) (hG : RelG g' H' w') (hx : Ext (fun b => g.ow b ≠ none) w w') (hF : ∀ b, g'.F b → g.F b ∨ g.ow b ≠ none ∨ w.heap.size ≤ b) (ho : ∀ b o, g'.ow b = some o → g.ow b ≠ none ∨ w.heap.size ≤ b)
  (hn : ∀ j, j < 100 → known H' j → known H j) : Rel B g' (setD o v env) H' (a.put o.dst cv) w' := by
 refine { toRelG := hG, env := ?_, sz := ?_, df := ?_, fr := ?_, owB := ?_, FB := ?_, BF := ?_, bs := ?_, kp := ?_, kd := ?_ }
 ·intro s u hs
  cases hdst : o.dst with
  | none => simp only [setD, hdst] at hs; simpa [Act.put] using G.rv (R.env s u hs)
  | some d =>
   simp only [setD, hdst, get_cons] at hs
   rw [getD_put a d cv s (by rw [R.sz]; exact hd d hdst)]
   split at hs <;> rename_i e
   ·simp only [Option.some.injEq] at hs; subst hs; rw [if_pos e]; exact hv
   ·rw [if_neg e]; exact G.rv (R.env s u hs)
 ·cases hdst : o.dst <;> simp [Act.put, R.sz]
 ·cases hdst : o.dst <;> simp [Act.put, R.df]
 ·exact R.fr.trans hx fun b hb h => by
   cases hob : g.ow b with
   | none => exact absurd hob h
   | some o => exact (R.owB b o hob).resolve_right (by omega)
 ·intro b o' h
  rcases ho b o' h with h | h
  ·cases hob : g.ow b with
   | none => exact absurd hob h
   | some o => exact R.owB b o hob
  ·exact .inr (Nat.le_trans R.fr.size h)
 ·intro b h
  rcases hF b h with h | h | h
  ·exact R.FB b h
  ·cases hob : g.ow b with
   | none => exact absurd hob h
   | some o => exact .inr (R.owB b o hob)
  ·exact .inr (.inr (Nat.le_trans R.fr.size h))
 ·exact fun b h => (G.F b (R.BF b h)).1
 ·intro b cur e fr h
  obtain ⟨cur1, fr1, h1, h2⟩ := R.bs b cur e fr h
  obtain ⟨cur2, fr2, h3, h4⟩ := G.sz b cur1 e fr1 h1
  exact ⟨cur2, fr2, h3, h4.trans h2⟩
 ·intro j hj hlt ob' t n h1 h2
  obtain ⟨ob, k1, k2⟩ := G.sq j ob' t 0 n (hn j hlt (known_of_at h1)) h1 h2
  rcases k2 with ⟨k2, k3⟩ | ⟨t', e', n', k2, k3⟩
  ·obtain ⟨ob0, m1, m2, m3⟩ := R.kp j hj hlt ob t n k1 k2
   exact ⟨ob0, m1, m2, k3.trans m3⟩
  ·omega
 ·intro j ob' hlt h1
  have hkn := hn j hlt (known_of_at h1)
  cases hb : ob'.isBox with
  | true =>
   obtain ⟨⟨ob, k1, k2⟩, k3⟩ := G.bx j ob' hkn h1 hb
   obtain ⟨ob0, m1, m2, m3⟩ := R.kd j ob hlt k1
   exact ⟨ob0, m1, m2.trans k2, fun _ => k3.trans (m3 k2)⟩
  | false =>
   obtain ⟨t, e, n, hs⟩ := Obj.seq_of hb
   obtain ⟨ob, k1, k2⟩ := G.sq j ob' t e n hkn h1 hs
   obtain ⟨ob0, m1, m2, m3⟩ := R.kd j ob hlt k1
   have : ob.isBox = false := by
    rcases k2 with ⟨k2, _⟩ | ⟨_, _, _, k2, _⟩
    ·exact Obj.of_seq k2
    ·exact Obj.of_seq k2
   exact ⟨ob0, m1, m2.trans this, fun h => by simp at h⟩
/-- An operation that leaves world and objects alone. -/
theorem Rel.put {B : Base} {g : Gh} {env : Env} {H : Heap} {a : Act} {w : World} {o : Oper} {v : V} {cv : Value} (R : Rel B g env H a w) (hd : ∀ d, o.dst = some d → d < B.n) (hv : RV g H w v cv) : Rel B g (setD o v env) H (a.put o.dst cv) w :=
 R.step (Ge.refl g H w) hd hv R.toRelG (Ext.refl _ _) (fun b h => .inl h) (fun b o h => .inl (by rw [h]; simp)) fun j _ h => h

def zeroIs : List C → List Value → Prop
 | [], vs => vs = []
 | c :: cs, vs => ∃ u us, vs = u :: us ∧ (match c with | .int k n => u = .int k n | .bool b => u = .bool b | .str s => u = .string s | .nil => u = .slice none 0 0 | .nilp => u = .pointer none | .err b => b = false ∧ u = .nilIface | _ => False) ∧ zeroIs cs us
/-- What is said of a zero value that is told. -/
def okZ (i : TI) : Prop := i.zero ≠ [] ∨ i.agg = true ∨ i.sz = i.t.sz
theorem getZ_spec {tab : Tab} {t : Nat} {i : TI} (h : getZ tab t = some i) : get tab t = some i ∧ i.zero ≠ [] := by
 obtain ⟨j, h1, h2⟩ := Option.bind_eq_some_iff.1 h
 cases hz : j.zero.isEmpty with
 | true => rw [hz] at h2; cases h2
 | false =>
  rw [hz] at h2
  cases h2
  exact ⟨h1, fun e => by rw [e] at hz; cases hz⟩
structure TyOK (P : Program) (tab : Tab) (t : TypeId) (i : TI) : Prop where
 info : ∃ inf z, P.info? t = some inf ∧ inf.size = i.sz ∧ inf.bytes = i.bytes ∧ inf.zero = some z ∧ (okZ i → zeroIs i.zero z.cells.toList) ∧ (okZ i → i.zero.length = i.sz)
 und : ∃ d, P.underlying t = some d ∧ (match d with | .struct _ | .array _ _ => true | _ => false) = i.agg
 one : i.agg = false → i.sz = 1
 pos : 1 ≤ i.sz
 kint : ∀ k n, i.zero = [.int k n] → i.agg = false → P.underlying t = some (.int k)
 kstr : ∀ s, i.zero = [.str s] → i.agg = false → P.underlying t = some .string
 kbool : ∀ b, i.zero = [.bool b] → i.agg = false → P.underlying t = some .bool
 kif : ∀ b, i.zero = [.err b] → i.agg = false → ∃ ms, P.underlying t = some (.interface ms)
 slice : (get tab i.elem).isSome = true → P.underlying t = some (.slice i.elem)
 flds : ∀ (f off n : Nat), i.flds[f]? = some (off, n) → ∃ (fs : Array Field) (fd : Field) (inf : TypeInfo), P.underlying t = some (.struct fs) ∧ fs[f]? = some fd ∧ fd.offset = off ∧ P.info? fd.type = some inf ∧ inf.size = n
 fldn : i.agg = true → ∃ (fs : Array Field), P.underlying t = some (.struct fs) ∧ fs.size = i.flds.length
 elz : ∀ vs, zeroIs i.zero vs → i.sz = i.t.sz → ∀ w, Ow w i.t i.t.dflt vs []
def TabOK (P : Program) (tab : Tab) : Prop := ∀ t i, get tab t = some i → TyOK P tab t i
theorem rcs_zero {g : Gh} {H : Heap} {w : World} : ∀ {cs : List C} {vs : List Value}, zeroIs cs vs → RCs g H w cs vs
 | [], _, h => h
 | c :: cs, _, ⟨u, us, e, h, k⟩ => by
  refine ⟨u, us, e, ?_, rcs_zero k⟩
  cases c <;> simp only at h <;> first | exact h.elim | (obtain ⟨rfl, rfl⟩ := h; exact ⟨rfl, rfl⟩) | (subst h; exact ⟨rfl, by first | rfl | exact .inl rfl | exact ⟨_, rfl⟩⟩)
section
variable {g : Gh} {H : Heap} {w : World}
theorem rval_cells {agg : Bool} {cs : List C} {v : Value} (h : RVal g H w agg cs v) : RCs g H w cs v.cells.toList := by
 unfold RVal at h
 split at h
 ·obtain ⟨vs, rfl, h⟩ := h; exact h
 ·cases cs with
  | nil => simp [RCs] at h
  | cons c cs =>
   obtain ⟨u, us, e, h1, h2⟩ := h
   simp only [List.cons.injEq] at e
   obtain ⟨rfl, rfl⟩ := e
   have : v.cells = #[v] := by cases v <;> simp_all [Value.cells, Value.oneCell, RC]
   rw [this]
   exact ⟨v, [], rfl, h1, h2⟩
theorem rv_one {u : V} {c : C} {v : Value} (h : u.one = some c) (k : RV g H w u v) : RC g H w c v := by
 unfold V.one at h
 split at h
 ·simp only [Option.some.injEq] at h; subst h
  simp only [RV, RVal, Bool.false_eq_true, if_false] at k
  obtain ⟨u, us, e, h1, h2⟩ := k
  simp only [List.cons.injEq] at e
  rw [e.1]; exact h1
 ·cases h
theorem rv_mk {c : C} {v : Value} (h : RC g H w c v) : RV g H w (.val false [c]) v := by
 simp only [RV, RVal, Bool.false_eq_true, if_false]
 exact ⟨v, [], rfl, h, rfl⟩
theorem rv_cells {u : V} {cs : List C} {v : Value} (h : u.cells = some cs) (k : RV g H w u v) : RCs g H w cs v.cells.toList := by
 unfold V.cells at h
 split at h
 ·simp only [Option.some.injEq] at h; subst h; exact rval_cells k
 ·cases h
theorem RCs.length : ∀ {cs : List C} {vs : List Value}, RCs g H w cs vs → vs.length = cs.length
 | [], _, h => by simp only [RCs] at h; simp [h]
 | c :: cs, _, ⟨u, us, e, h, k⟩ => by simp [e, k.length]
theorem RCs.one : ∀ {cs : List C} {vs : List Value}, RCs g H w cs vs → ∀ u ∈ vs, u.oneCell = true
 | [], _, h => by simp only [RCs] at h; simp [h]
 | c :: cs, _, ⟨u, us, e, h, k⟩ => by
  subst e
  intro x hx
  simp only [List.mem_cons] at hx
  rcases hx with rfl | hx
  ·exact h.1
  ·exact k.one x hx
theorem RCs.drop : ∀ {cs : List C} {vs : List Value} (n : Nat), RCs g H w cs vs → RCs g H w (cs.drop n) (vs.drop n)
 | cs, vs, 0, h => by simpa using h
 | [], _, n + 1, h => by simp only [RCs] at h; simp [h, RCs]
 | c :: cs, _, n + 1, ⟨u, us, e, h, k⟩ => by subst e; simpa using k.drop n
theorem RCs.take : ∀ {cs : List C} {vs : List Value} (n : Nat), RCs g H w cs vs → RCs g H w (cs.take n) (vs.take n)
 | cs, vs, 0, h => by simp [RCs]
 | [], _, n + 1, h => by simp only [RCs] at h; simp [h, RCs]
 | c :: cs, _, n + 1, ⟨u, us, e, h, k⟩ => by subst e; exact ⟨u, us.take n, by simp, h, k.take n⟩
theorem RCs.app : ∀ {cs ds : List C} {vs us : List Value}, RCs g H w cs vs → RCs g H w ds us → RCs g H w (cs ++ ds) (vs ++ us)
 | [], _, _, _, h, k => by simp only [RCs] at h; subst h; simpa using k
 | c :: cs, _, _, _, ⟨u, us, e, h, k⟩, k' => ⟨u, us ++ _, by simp [e], h, k.app k'⟩
theorem RCs.get : ∀ {cs : List C} {vs : List Value}, RCs g H w cs vs → ∀ (j : Nat) (c : C), cs[j]? = some c → ∃ v, vs[j]? = some v ∧ RC g H w c v
 | [], _, h, j, c, hc => by simp at hc
 | c :: cs, _, ⟨u, us, e, h, k⟩, 0, c', hc => by simp only [List.getElem?_cons_zero, Option.some.injEq] at hc; subst hc; exact ⟨u, by simp [e], h⟩
 | c :: cs, _, ⟨u, us, e, h, k⟩, j + 1, c', hc => by
  simp only [List.getElem?_cons_succ] at hc
  obtain ⟨v, h1, h2⟩ := k.get j c' hc
  exact ⟨v, by simp [e, h1], h2⟩
theorem rcs_cells : ∀ {t : T} {x : t.Den} {vs : List Value}, Rd g.F w t x vs → RCs g H w (cellsOf t x) vs
 | .int k, _, _, h => ⟨_, [], h, ⟨rfl, rfl⟩, rfl⟩
 | .bool, _, _, h => ⟨_, [], h, ⟨rfl, rfl⟩, rfl⟩
 | .str, _, _, h => ⟨_, [], h, ⟨rfl, rfl⟩, rfl⟩
 | .list t, xs, _, h => by
  obtain ⟨A, c, e, l, k⟩ := h
  exact ⟨_, [], e, ⟨rfl, A, c, rfl, l, k⟩, rfl⟩
 | .pair a b, x, _, ⟨us, ws, e, h, k⟩ => by rw [e]; exact (rcs_cells h).app (rcs_cells k)
 | .unit, _, _, h => h
theorem cst_sound {c : Value} {v : V} (h : cst c = some v) : RV g H w v c := by
 unfold cst at h
 split at h <;> simp only [Option.some.injEq, reduceCtorEq] at h <;> subst h <;> refine rv_mk ⟨rfl, ?_⟩ <;> first | rfl | exact .inl rfl | exact ⟨_, rfl⟩
end
theorem Rel.ev {B : Base} {g : Gh} {env : Env} {H : Heap} {a : Act} {w : World} (R : Rel B g env H a w) {x : Operand} {v : V} (h : ev env x = some v) : RV g H w v (a.eval x) := by
 cases x with
 | tmp t => exact R.env t v h
 | const c => exact cst_sound h
 | global n => simp [V.ev] at h
 | func f =>
  simp only [V.ev, Option.some.injEq] at h; subst h
  exact rv_mk ⟨rfl, #[], rfl, rfl⟩
theorem Rel.ev1 {B : Base} {g : Gh} {env : Env} {H : Heap} {a : Act} {w : World} (R : Rel B g env H a w) {x : Operand} {c : C} (h : (V.ev env x).bind V.one = some c) : RC g H w c (a.eval x) := by
 cases hv : V.ev env x with
 | none => simp [hv] at h
 | some v => exact rv_one (by simpa [hv] using h) (R.ev hv)
/-- What an operation comes to. -/
def OpOK (P : Program) (B : Base) (g : Gh) (env : Env) (H : Heap) (a : Act) (w : World) (o : Oper) (v : V) (e : Heap) : Prop :=
 ∃ nx cv g' w', (execOp a.eval o).run P w = .ok nx w' ∧ (nx = .value cv ∨ (nx = .skip ∧ cv = undef)) ∧ Rel B g' (setD o v env) (e ++ H) (a.put o.dst cv) w'
section
variable {P : Program} {tab : Tab} {B : Base} {g : Gh} {env : Env} {H : Heap} {a : Act} {w : World} {o : Oper}
theorem OpOK.pure (R : Rel B g env H a w) (hd : ∀ d, o.dst = some d → d < B.n) {v : V} {cv : Value} (hr : (execOp a.eval o).run P w = .ok (.value cv) w) (hv : RV g H w v cv) : OpOK P B g env H a w o v [] :=
 ⟨.value cv, cv, g, w, hr, .inl rfl, R.put hd hv⟩
theorem ok_move (R : Rel B g env H a w) (hd : ∀ d, o.dst = some d → d < B.n) {x : Operand} (ho : o.op = .move x ∨ o.op = .assign x) {v : V} (h : ev env x = some v) : OpOK P B g env H a w o v [] := by
 refine OpOK.pure R hd ?_ (R.ev h)
 rcases ho with ho | ho <;> simp [execOp, ho]
theorem ok_pick (R : Rel B g env H a w) (hd : ∀ d, o.dst = some d → d < B.n) {c x y : Operand} (ho : o.op = .pick c x y) {p : Bool} (hc : (ev env c).bind V.one = some (.bool p)) {v : V} (h : ev env (if p = true then x else y) = some v) : OpOK P B g env H a w o v [] := by
 have h1 := R.ev1 hc
 have h2 : a.eval c = .bool p := h1.2
 refine OpOK.pure R hd ?_ (R.ev h)
 cases p <;> simp [execOp, ho, h2, asBool]
theorem run_eqGuard_int (op : BinOp) (t : TypeId) (x y : Operand) (k k' : IntKind) (m n : Int) (w : World) : (Go.eqGuard op t x y (.int k m) (.int k' n)).run P w = .ok () w := by
 cases op <;> simp [Go.eqGuard]
theorem run_eqGuard_str (op : BinOp) (t : TypeId) (x y : Operand) (m n : ByteArray) (w : World) : (Go.eqGuard op t x y (.string m) (.string n)).run P w = .ok () w := by
 cases op <;> simp [Go.eqGuard]
theorem run_eqGuard_bool (op : BinOp) (t : TypeId) (x y : Operand) (m n : Bool) (w : World) : (Go.eqGuard op t x y (.bool m) (.bool n)).run P w = .ok () w := by
 cases op <;> simp [Go.eqGuard]
theorem rc_int {k : IntKind} {n : Int} {v : Value} (h : RC g H w (.int k n) v) : v = .int k n := h.2
theorem rc_str {n : ByteArray} {v : Value} (h : RC g H w (.str n) v) : v = .string n := h.2
theorem rc_bool {n : Bool} {v : Value} (h : RC g H w (.bool n) v) : v = .bool n := h.2
theorem run_binOp_int {op : BinOp} {k : IntKind} {m n : Int} {r : Bool × C} (h : bin2 op (.int k m) (.int k n) = some r) (hb : r.1 = true) : ∃ z, (Go.binOp op 0 (.int k m) (.int k n)).run P w = .ok z w ∧ RC g H w r.2 z ∧ ∀ t, Go.binOp op t (.int k m) (.int k n) = Go.binOp op 0 (.int k m) (.int k n) := by
 cases op <;> simp only [bin2, decide_true, cond_true, reduceCtorEq, Option.some.injEq] at h <;> (try subst h)
 case add =>
  exact ⟨_, by simp [Go.binOp, Op.intArith] <;> rfl, ⟨rfl, rfl⟩, fun _ => rfl⟩
 case sub =>
  exact ⟨_, by simp [Go.binOp, Op.intArith] <;> rfl, ⟨rfl, rfl⟩, fun _ => rfl⟩
 case mul =>
  exact ⟨_, by simp [Go.binOp, Op.intArith] <;> rfl, ⟨rfl, rfl⟩, fun _ => rfl⟩
 case quo =>
  have hb' : n ≠ 0 := by simpa using hb
  exact ⟨_, by simp [Go.binOp, Op.intDiv, hb'] <;> rfl, ⟨rfl, rfl⟩, fun _ => rfl⟩
 case rem =>
  have hb' : n ≠ 0 := by simpa using hb
  exact ⟨_, by simp [Go.binOp, Op.intDiv, hb'] <;> rfl, ⟨rfl, rfl⟩, fun _ => rfl⟩
 case and =>
  exact ⟨_, by simp [Go.binOp, Op.intBits] <;> rfl, ⟨rfl, by simp [RC', band, bor, bxor]⟩, fun _ => rfl⟩
 case or =>
  exact ⟨_, by simp [Go.binOp, Op.intBits] <;> rfl, ⟨rfl, by simp [RC', band, bor, bxor]⟩, fun _ => rfl⟩
 case xor =>
  exact ⟨_, by simp [Go.binOp, Op.intBits] <;> rfl, ⟨rfl, by simp [RC', band, bor, bxor]⟩, fun _ => rfl⟩
 case eql =>
  exact ⟨_, by simp [Go.binOp, Op.intCmp] <;> rfl, ⟨rfl, by simp [RC'] <;> rfl⟩, fun _ => rfl⟩
 case neq =>
  exact ⟨_, by simp [Go.binOp, Op.intCmp] <;> rfl, ⟨rfl, by simp [RC'] <;> rfl⟩, fun _ => rfl⟩
 case lss =>
  exact ⟨_, by simp [Go.binOp, Op.intCmp] <;> rfl, ⟨rfl, by simp [RC'] <;> rfl⟩, fun _ => rfl⟩
 case leq =>
  exact ⟨_, by simp [Go.binOp, Op.intCmp] <;> rfl, ⟨rfl, by simp [RC'] <;> rfl⟩, fun _ => rfl⟩
 case gtr =>
  exact ⟨_, by simp [Go.binOp, Op.intCmp] <;> rfl, ⟨rfl, by simp [RC'] <;> rfl⟩, fun _ => rfl⟩
 case geq =>
  exact ⟨_, by simp [Go.binOp, Op.intCmp] <;> rfl, ⟨rfl, by simp [RC'] <;> rfl⟩, fun _ => rfl⟩
 case shl =>
  simp only [decide_eq_true_eq] at hb
  exact ⟨_, by simp [Go.binOp, Op.shift, Int.not_lt.2 hb] <;> rfl, ⟨rfl, by simp [RC', shl, shr]⟩, fun _ => rfl⟩
 case shr =>
  simp only [decide_eq_true_eq] at hb
  exact ⟨_, by simp [Go.binOp, Op.shift, Int.not_lt.2 hb] <;> rfl, ⟨rfl, by simp [RC', shl, shr]⟩, fun _ => rfl⟩
theorem run_equal_bool {t : TypeId} (ht : P.underlying t = some .bool) (m n : Bool) (w : World) : (Op.equal t (.bool m) (.bool n)).run P w = .ok (m == n) w := by
 unfold Op.equal Op.maxDepth Op.equalIn
 simp only [Sem.run_bind, run_underlying ht, Result.andThen_ok, Sem.run_pure]
theorem bin2_sound {op : BinOp} {c d : C} {r : Bool × C} (h : bin2 op c d = some r) (hb : r.1 = true) {u v : Value} (hu : RC g H w c u) (hv : RC g H w d v) (t : TypeId) (ht : isB c = true → P.underlying t = some .bool) (x y : Operand) :
  ∃ z, (Go.eqGuard op t x y u v).run P w = .ok () w ∧ (Go.binOp op t u v).run P w = .ok z w ∧ RC g H w r.2 z := by
 cases c with
 | int k m =>
  cases d with
  | int k' n =>
   obtain rfl := rc_int hu
   obtain rfl := rc_int hv
   by_cases hs : op = .shl ∨ op = .shr
   ·rcases hs with rfl | rfl <;> simp only [bin2, Option.some.injEq] at h <;> subst h <;> simp only [decide_eq_true_eq] at hb <;>
     exact ⟨_, run_eqGuard_int .., by simp [Go.binOp, Op.shift, Int.not_lt.2 hb]; rfl, rfl, by simp [RC', shl, shr]⟩
   ·by_cases hk : k = k'
    ·subst hk
     obtain ⟨z, h1, h2, h3⟩ := run_binOp_int (P := P) (g := g) (H := H) (w := w) h hb
     exact ⟨z, run_eqGuard_int .., by rw [h3 t]; exact h1, h2⟩
    ·cases op <;> simp_all [bin2]
  | _ => cases op <;> simp [bin2] at h
 | str m =>
  cases d with
  | str n =>
   obtain rfl := rc_str hu
   obtain rfl := rc_str hv
   cases op <;> simp only [bin2, reduceCtorEq, Option.some.injEq] at h <;> subst h
   ·have hb3 : m.size + n.size ≤ 9223372036854775807 := of_decide_eq_true hb
    have hb2 : ¬ (((m.size + n.size : Nat) : Int) > IntKind.i64.max) := by simp [IntKind.max, IntKind.signed, IntKind.bits]; omega
    exact ⟨.string (m ++ n), run_eqGuard_str .., by simp only [Go.binOp, Op.stringOp, if_neg hb2, Sem.run_pure], rfl, rfl⟩
   ·exact ⟨_, run_eqGuard_str .., by simp [Go.binOp, Op.stringOp]; rfl, rfl, rfl⟩
   ·exact ⟨_, run_eqGuard_str .., by simp [Go.binOp, Op.stringOp]; rfl, rfl, rfl⟩
  | _ => cases op <;> simp [bin2] at h
 | bool m =>
  cases d with
  | bool n =>
   obtain rfl := rc_bool hu
   obtain rfl := rc_bool hv
   have ht' := ht rfl
   cases op <;> simp only [bin2, reduceCtorEq, Option.some.injEq] at h <;> subst h
   ·exact ⟨.bool (m == n), run_eqGuard_bool .., by simp only [Go.binOp, Sem.run_bind, run_equal_bool ht', Result.andThen_ok, Sem.run_pure], rfl, rfl⟩
   ·exact ⟨.bool (!(m == n)), run_eqGuard_bool .., by simp only [Go.binOp, Sem.run_bind, run_equal_bool ht', Result.andThen_ok, Sem.run_pure], rfl, rfl⟩
  | _ => cases op <;> simp [bin2] at h
 | _ => cases op <;> simp [bin2] at h
theorem ok_binOp (hT : TabOK P tab) (R : Rel B g env H a w) (hd : ∀ d, o.dst = some d → d < B.n) {op : BinOp} {t ty' : TypeId} {x y : Operand} (ho : o.op = .binOp op t x y ty') {c d : C} (hc : (ev env x).bind V.one = some c) (hd' : (ev env y).bind V.one = some d)
  (hb : (!isB c || tyBool tab t) = true) {r : Bool × C} (h : bin2 op c d = some r) (hr : r.1 = true) : OpOK P B g env H a w o (.val false [r.2]) [] := by
 have ht : isB c = true → P.underlying t = some .bool := by
  intro h1
  simp only [h1, Bool.not_true, Bool.false_or] at hb
  unfold tyBool at hb
  split at hb
  ·rename_i hg
   exact (hT _ _ hg).kbool _ rfl rfl
  ·cases hb
 obtain ⟨z, h1, h2, h3⟩ := bin2_sound (P := P) h hr (R.ev1 hc) (R.ev1 hd') t ht x y
 refine OpOK.pure R hd ?_ (rv_mk h3)
 simp [execOp, ho, h1, h2]
theorem run_equal_if {t : TypeId} {ms : Array (String × TypeId)} (ht : P.underlying t = some (.interface ms)) (b : Bool) {v : Value} (hv : match b with | true => ∃ t x, v = .iface t x | false => v = .nilIface) (w : World) : (Op.equal t v .nilIface).run P w = .ok (!b) w := by
 unfold Op.equal Op.maxDepth Op.equalIn
 cases b with
 | true =>
  obtain ⟨tx, x, rfl⟩ := hv
  simp only [Sem.run_bind, run_underlying ht, Result.andThen_ok, Sem.run_pure, Bool.not_true]
 | false =>
  have hv' : v = .nilIface := hv
  subst hv'
  simp only [Sem.run_bind, run_underlying ht, Result.andThen_ok, Sem.run_pure, Bool.not_false]
theorem ok_ifNil (hT : TabOK P tab) (R : Rel B g env H a w) (hd : ∀ d, o.dst = some d → d < B.n) {op : BinOp} {t ty' : TypeId} {x : Operand} (ho : o.op = .binOp op t x (.const .nilIface) ty') {b : Bool} (hc : (ev env x).bind V.one = some (.err b))
  (hb : tyIf tab t = true) {r : Bool} (h : (op = .eql ∧ r = !b) ∨ (op = .neq ∧ r = b)) : OpOK P B g env H a w o (.val false [.bool r]) [] := by
 have ht : ∃ ms, P.underlying t = some (.interface ms) := by
  unfold tyIf at hb
  split at hb
  ·rename_i hg
   exact (hT _ _ hg).kif _ rfl rfl
  ·cases hb
 obtain ⟨ms, ht⟩ := ht
 have h1 := (R.ev1 hc).2
 have h2 : (Go.eqGuard op t x (.const .nilIface) (a.eval x) .nilIface).run P w = .ok () w := by
  cases b with
  | true =>
   obtain ⟨tx, q, h1'⟩ := h1
   rw [h1']
   rcases h with ⟨rfl, _⟩ | ⟨rfl, _⟩ <;> simp [Go.eqGuard]
  | false =>
   have h1' : a.eval x = .nilIface := h1
   rw [h1']
   rcases h with ⟨rfl, _⟩ | ⟨rfl, _⟩ <;> simp [Go.eqGuard]
 have h3 : (Op.equal t (a.eval x) .nilIface).run P w = .ok (!b) w := run_equal_if ht b h1 w
 have h4 : (Go.binOp op t (a.eval x) .nilIface).run P w = .ok (.bool r) w := by
  have hform : (∃ tx q, a.eval x = .iface tx q) ∨ a.eval x = .nilIface := by
   cases b with
   | true => exact .inl h1
   | false => exact .inr h1
  rcases h with ⟨rfl, rfl⟩ | ⟨rfl, rfl⟩ <;> rcases hform with ⟨tx, q, e⟩ | e <;> rw [e] at h3 ⊢ <;> simp only [Go.binOp, Sem.run_bind, h3, Result.andThen_ok, Sem.run_pure, Bool.not_not]
 refine OpOK.pure R hd ?_ (rv_mk ⟨rfl, rfl⟩)
 have h5 : a.eval (.const .nilIface) = .nilIface := rfl
 simp [execOp, ho, h5, h2, h4]
theorem ok_unOp (R : Rel B g env H a w) (hd : ∀ d, o.dst = some d → d < B.n) {op : UnOp} {t : TypeId} {x : Operand} (ho : o.op = .unOp op t x) {c d : C} (hc : (ev env x).bind V.one = some c) (h : un1 op c = some d) : OpOK P B g env H a w o (.val false [d]) [] := by
 have h1 := R.ev1 hc
 unfold un1 at h
 split at h <;> simp only [Option.some.injEq, reduceCtorEq] at h <;> subst h
 ·have h2 := rc_bool h1
  exact OpOK.pure (cv := .bool (!_)) R hd (by simp [execOp, ho, h2, Op.unary] <;> rfl) (rv_mk ⟨rfl, rfl⟩)
 ·have h2 := rc_int h1
  exact OpOK.pure R hd (by simp [execOp, ho, h2, Op.unary, Op.intArith] <;> rfl) (rv_mk ⟨rfl, by simp [RC']⟩)
 ·have h2 := rc_int h1
  exact OpOK.pure R hd (by simp [execOp, ho, h2, Op.unary, Op.intBits] <;> rfl) (rv_mk ⟨rfl, by simp [RC', bxor]⟩)
theorem ok_makeFunc (R : Rel B g env H a w) (hd : ∀ d, o.dst = some d → d < B.n) {f : FuncId} {captured : Array Operand} (ho : o.op = .makeFunc (.func f) #[] captured) {l : List (Nat × Nat)} (h : (evs (ev env) captured.toList).bind ptrs = some l) : OpOK P B g env H a w o (.val false [.fn f l]) [] := by
 refine OpOK.pure (cv := .func (.func f) #[] (captured.map a.eval)) R hd (by simp [execOp, ho, Instr.makeFunc]) (rv_mk ⟨rfl, captured.map a.eval, rfl, ?_⟩)
 have key : ∀ (xs : List Operand) (vs : List V) (l : List (Nat × Nat)), evs (ev env) xs = some vs → ptrs vs = some l → PtrRefs g H l (xs.map a.eval) := by
  intro xs
  induction xs with
  | nil => intro vs l h1 h2; simp only [evs, Option.some.injEq] at h1; subst h1; simp only [ptrs, Option.some.injEq] at h2; subst h2; rfl
  | cons x xs ih =>
   intro vs l h1 h2
   simp only [evs, Option.bind_eq_some_iff, Option.map_eq_some_iff] at h1
   obtain ⟨v, hv, vs', hvs, rfl⟩ := h1
   simp only [ptrs] at h2
   split at h2
   ·rename_i k off hone
    simp only [Option.map_eq_some_iff] at h2
    obtain ⟨l', h3, rfl⟩ := h2
    have h4 := rv_one hone (R.ev hv)
    exact ⟨_, _, rfl, h4.1, h4.2, ih vs' l' hvs h3⟩
   ·cases h2
 rw [Array.toList_map]
 cases hv : evs (ev env) captured.toList with
 | none => simp [hv] at h
 | some vs => exact key _ vs l hv (by simpa [hv] using h)
theorem rvals_get : ∀ {l : List (Bool × List C)} {vs : List Value}, RVals g H w l vs → ∀ (i : Nat) (c : Bool × List C), l[i]? = some c → ∃ v, vs[i]? = some v ∧ RVal g H w c.1 c.2 v
 | [], _, h, i, c, hc => by simp at hc
 | c :: cs, _, ⟨u, us, e, h, k⟩, 0, c', hc => by simp only [List.getElem?_cons_zero, Option.some.injEq] at hc; subst hc; exact ⟨u, by simp [e], h⟩
 | c :: cs, _, ⟨u, us, e, h, k⟩, i + 1, c', hc => by
  simp only [List.getElem?_cons_succ] at hc
  obtain ⟨v, h1, h2⟩ := rvals_get k i c' hc
  exact ⟨v, by simp [e, h1], h2⟩
theorem ok_extract (R : Rel B g env H a w) (hd : ∀ d, o.dst = some d → d < B.n) {x : Operand} {i : Nat} (ho : o.op = .extract x i) {l : List (Bool × List C)} (h : ev env x = some (.tup l)) {c : Bool × List C} (hc : l[i]? = some c) : OpOK P B g env H a w o (.val c.1 c.2) [] := by
 obtain ⟨vs, e, k⟩ := R.ev h
 obtain ⟨v, h1, h2⟩ := rvals_get k i c hc
 refine OpOK.pure (cv := v) R hd ?_ h2
 have h1' : vs[i]? = some v := by rw [← Array.getElem?_toList]; exact h1
 simp [execOp, ho, e, Instr.extract, h1']
theorem ok_nilCheck (R : Rel B g env H a w) (hd : ∀ d, o.dst = some d → d < B.n) {x : Operand} (ho : o.op = .nilCheck x) {k off : Nat} (h : ev env x = some (.val false [.ptr k off])) {ob : Obj} (hk : H.at k = some ob) (hbx : ob.isBox = true) : OpOK P B g env H a w o (.val false [.ptr k off]) [] := by
 have h1 := rv_one (c := .ptr k off) rfl (R.ev h)
 obtain ⟨b, h2, h3⟩ := h1.2.2 ob hk hbx
 refine OpOK.pure (cv := a.eval x) R hd ?_ (R.ev h)
 simp [execOp, ho, h3]
theorem ok_min (R : Rel B g env H a w) (hd : ∀ d, o.dst = some d → d < B.n) {x y : Operand} {ts : Array TypeId} (ho : o.op = .call { callee := .builtin .min, args := #[x, y], argTypes := ts }) {k k' : IntKind} {m n : Int} (hx : (ev env x).bind V.one = some (.int k m)) (hy : (ev env y).bind V.one = some (.int k' n)) :
  OpOK P B g env H a w o (.val false [.int k (bif decide (n < m) then n else m)]) [] := by
 have h1 := rc_int (R.ev1 hx)
 have h2 := rc_int (R.ev1 hy)
 refine OpOK.pure (cv := .int k (bif decide (n < m) then n else m)) R hd ?_ (rv_mk ⟨rfl, rfl⟩)
 by_cases hlt : n < m <;> simp [execOp, ho, resolve, invoke, builtin, Builtin.min_, Builtin.min2, h1, h2, hlt]
theorem ok_conv_int (hT : TabOK P tab) (R : Rel B g env H a w) (hd : ∀ d, o.dst = some d → d < B.n) {src dst : TypeId} {x : Operand} (ho : o.op = .convert src dst x) {is id : TI} (h1 : get tab src = some is) (h2 : get tab dst = some id) {k k' : IntKind} {z n : Int} (hz : id.zero = [.int k z]) (ha : id.agg = false)
  (hx : (ev env x).bind V.one = some (.int k' n)) : OpOK P B g env H a w o (.val false [.int k (k.wrap n)]) [] := by
 have h3 := rc_int (R.ev1 hx)
 obtain ⟨d, h4, _⟩ := (hT _ _ h1).und
 have h5 := (hT _ _ h2).kint k z hz ha
 refine OpOK.pure (cv := .int k (k.wrap n)) R hd ?_ (rv_mk ⟨rfl, rfl⟩)
 cases d <;> simp [execOp, ho, Go.convert, run_underlying h4, run_underlying h5, h3, Conv.intToInt]
theorem ok_fieldAddr (hT : TabOK P tab) (R : Rel B g env H a w) (hd : ∀ d, o.dst = some d → d < B.n) {s : TypeId} {x : Operand} {f : Nat} (ho : o.op = .fieldAddr s x f) {i : TI} (hi : get tab s = some i) {d n : Nat} (hf : i.flds[f]? = some (d, n)) (hn : 1 ≤ n)
  {ad : Addr} (hx : a.eval x = .pointer (some ad)) (hsp : ad.spot = none) : (execOp a.eval o).run P w = .ok (.value (.pointer (some ⟨ad.block, ad.off + d, none⟩))) w := by
 obtain ⟨fs, fd, inf, h1, h2, h3, h4, h5⟩ := (hT _ _ hi).flds f d n hf
 have h6 : inf.size ≠ 0 := by omega
 have h7 : ad.add d = ⟨ad.block, ad.off + d, none⟩ := by
  unfold Addr.add
  split
  ·rename_i hz; subst hz; cases ad; simp_all
  ·rfl
 simp [execOp, ho, Instr.fieldAt, run_underlying h1, h2, hx, Instr.sureAddr, fieldPlace, sizeOf, typeInfo, h4, h6, h3, h7]
theorem isBoxAt_spec {k : Nat} (h : isBoxAt H k = true) : ∃ ob, H.at k = some ob ∧ ob.isBox = true := by
 unfold isBoxAt at h
 split at h
 ·rename_i cs hk; exact ⟨_, hk, rfl⟩
 ·rename_i cs hk; exact ⟨_, hk, rfl⟩
 ·cases h
theorem isSeqAt_spec {k e : Nat} (h : isSeqAt H k e = true) : ∃ ob t n, H.at k = some ob ∧ ob.isSeq t e n := by
 unfold isSeqAt at h
 split at h
 ·rename_i d t e' xs hk; exact ⟨_, t, _, hk, rfl, (Nat.eq_of_beq_eq_true h).symm, rfl⟩
 ·rename_i t e' xs hk; exact ⟨_, t, _, hk, rfl, (Nat.eq_of_beq_eq_true h).symm, rfl⟩
 ·rename_i t e' xs i cs hk; exact ⟨_, t, _, hk, rfl, (Nat.eq_of_beq_eq_true h).symm, rfl⟩
 ·cases h
theorem ok_fieldPtr (hT : TabOK P tab) (R : Rel B g env H a w) (hd : ∀ d, o.dst = some d → d < B.n) {s : TypeId} {x : Operand} {f : Nat} (ho : o.op = .fieldAddr s x f) {i : TI} (hi : get tab s = some i) {d n : Nat} (hf : i.flds[f]? = some (d, n)) (hn : 1 ≤ n)
  {k off : Nat} (hx : (ev env x).bind V.one = some (.ptr k off)) (hb : isBoxAt H k = true) : OpOK P B g env H a w o (.val false [.ptr k (off + d)]) [] := by
 have h1 := R.ev1 hx
 obtain ⟨ob, h2, h3⟩ := isBoxAt_spec hb
 obtain ⟨b, h4, h5⟩ := h1.2.2 ob h2 h3
 refine OpOK.pure R hd (ok_fieldAddr hT R hd ho hi hf hn h5 rfl) (rv_mk ⟨rfl, h1.2.1, fun ob' h6 h7 => ⟨b, h4, rfl⟩⟩)
theorem ok_fieldAt (hT : TabOK P tab) (R : Rel B g env H a w) (hd : ∀ d, o.dst = some d → d < B.n) {s : TypeId} {x : Operand} {f : Nat} (ho : o.op = .fieldAddr s x f) {i : TI} (hi : get tab s = some i) {d n : Nat} (hf : i.flds[f]? = some (d, n)) (hn : 1 ≤ n)
  {t : T} {y : t.Den} {off : Nat} (hx : (ev env x).bind V.one = some (.at_ t y off)) : OpOK P B g env H a w o (.val false [.at_ t y (off + d)]) [] := by
 have h1 := R.ev1 hx
 obtain ⟨b, o', us, h2, h3, h4, h5⟩ := h1.2
 exact OpOK.pure R hd (ok_fieldAddr hT R hd ho hi hf hn h2 rfl) (rv_mk ⟨rfl, b, o', us, by simp [Nat.add_assoc], h3, h4, h5⟩)
theorem ok_fieldPel (hT : TabOK P tab) (R : Rel B g env H a w) (hd : ∀ d, o.dst = some d → d < B.n) {s : TypeId} {x : Operand} {f : Nat} (ho : o.op = .fieldAddr s x f) {i : TI} (hi : get tab s = some i) {d n : Nat} (hf : i.flds[f]? = some (d, n)) (hn : 1 ≤ n)
  {k e j off : Nat} (hx : (ev env x).bind V.one = some (.pel k e [] j off)) (hb : isSeqAt H k e = true) : OpOK P B g env H a w o (.val false [.pel k e [] j (off + d)]) [] := by
 have h1 := R.ev1 hx
 obtain ⟨ob, t, n', h2, h3⟩ := isSeqAt_spec hb
 obtain ⟨h4, b, s', h5, h6⟩ := h1.2.2.2 rfl ob t n' h2 h3
 refine OpOK.pure R hd (ok_fieldAddr hT R hd ho hi hf hn h6 rfl) (rv_mk ⟨rfl, h1.2.1, h1.2.2.1, fun _ ob' t' n'' h7 h8 => ?_⟩)
 obtain rfl : ob' = ob := Option.some.inj (h7.symm.trans h2)
 obtain ⟨rfl, _, rfl⟩ := Obj.isSeq_det h3 h8
 exact ⟨h4, b, s', h5, by simp [Nat.add_assoc]⟩
/-- A place in a slice. -/
theorem run_indexAt {t e : TypeId} {inf : TypeInfo} (ht : P.underlying t = some (.slice e)) (hi : P.info? e = some inf) {A : Addr} {n c : Nat} (hA : A.spot = none) {k : IntKind} {i : Int} (h0 : 0 ≤ i) (h1 : i < n) :
  (Instr.indexAt t (.slice (some A) n c) (.int k i)).run P w = .ok (.pointer (some ⟨A.block, A.off + i.toNat * inf.size, none⟩)) w := by
 have hadd : A.add (i.toNat * inf.size) = ⟨A.block, A.off + i.toNat * inf.size, none⟩ := by
  unfold Addr.add
  split
  ·rename_i hz; rw [hz]; cases A; simp_all
  ·rfl
 simp [Instr.indexAt, asIntOf, run_underlying ht, h0, h1, sizeOf, typeInfo, hi, hadd]
theorem ELs.nth {α : Type} {Rr : α → List Value → Prop} {n : Nat} {xs : List α} {vs : List Value} (h : ELs Rr n xs vs) {i : Nat} (hi : i < xs.length) (z : α) : ∃ pre u post, vs = pre ++ u ++ post ∧ pre.length = i * n ∧ u.length = n ∧ Rr (xs.getD i z) u := by
 obtain ⟨pre, u, post, h1, h2, h3, h4⟩ := h.at i xs[i] (List.getElem?_eq_getElem hi)
 exact ⟨pre, u, post, h1, h2, h3, by simpa [List.getD_eq_getElem?_getD, List.getElem?_eq_getElem hi] using h4⟩
theorem tabSlice (hT : TabOK P tab) {ty : TypeId} {ie : TI} (h : ((get tab ty).bind fun i => get tab i.elem) = some ie) : ∃ e inf, P.underlying ty = some (.slice e) ∧ get tab e = some ie ∧ P.info? e = some inf ∧ inf.size = ie.sz ∧ inf.bytes = ie.bytes := by
 obtain ⟨i, h1, h2⟩ := Option.bind_eq_some_iff.1 h
 obtain ⟨inf, z, h3, h4, h5, _⟩ := (hT _ _ h2).info
 exact ⟨i.elem, inf, (hT _ _ h1).slice (by simp [h2]), h2, h3, h4, h5⟩
theorem ok_indexLst (hT : TabOK P tab) (R : Rel B g env H a w) (hd : ∀ d, o.dst = some d → d < B.n) {ty : TypeId} {x ix : Operand} (ho : o.op = .indexAddr ty x ix) {ie : TI} (hi : ((get tab ty).bind fun i => get tab i.elem) = some ie)
  {t : T} {xs : List t.Den} (hx : (ev env x).bind V.one = some (.lst t xs)) {k : IntKind} {n : Int} (hn : (ev env ix).bind V.one = some (.int k n)) (hs : ie.sz = t.sz) (h0 : 0 ≤ n) (h1 : n < xs.length) :
  OpOK P B g env H a w o (.val false [.at_ t (xs.getD n.toNat t.dflt) 0]) [] := by
 obtain ⟨e, inf, h2, _, h3, h4, _⟩ := tabSlice hT hi
 obtain ⟨A, c, h5, h6, h7⟩ := (R.ev1 hx).2
 obtain ⟨g', o', us, h8, h9, h10, h11⟩ := h7 (by rintro rfl; simp at h1; omega)
 simp only [List.cons.injEq, and_true] at h5
 have h12 := rc_int (R.ev1 hn)
 obtain ⟨pre, u, post, h13, h14, h15, h16⟩ := h11.nth (i := n.toNat) (by omega) t.dflt
 subst h8
 have hrun := run_indexAt (P := P) (w := w) h2 h3 (A := ⟨g', o', none⟩) (n := xs.length) (c := c) rfl (k := k) h0 h1
 refine OpOK.pure R hd (cv := .pointer (some ⟨g', o' + n.toNat * inf.size, none⟩)) ?_ (rv_mk ⟨rfl, g', o' + n.toNat * t.sz, u, ?_, h9, ?_, h16⟩)
 ·simp only [execOp, ho, h5, h12, Sem.run_bind, hrun, Result.andThen_ok, Sem.run_pure]
 ·rw [h4, hs, Nat.add_zero]
 ·have h17 := h10
  rw [h13, List.append_assoc] at h17
  have h18 := h17.app.2.app.1
  rwa [h14] at h18
theorem ok_indexPrs (hT : TabOK P tab) (R : Rel B g env H a w) (hd : ∀ d, o.dst = some d → d < B.n) {ty : TypeId} {x ix : Operand} (ho : o.op = .indexAddr ty x ix) {ie : TI} (hi : ((get tab ty).bind fun i => get tab i.elem) = some ie)
  {l : List (Nat × Nat)} (hx : (ev env x).bind V.one = some (.prs l)) {k : IntKind} {n : Int} (hn : (ev env ix).bind V.one = some (.int k n)) (hs : ie.sz = 1) (h0 : 0 ≤ n) (h1 : n < l.length) :
  OpOK P B g env H a w o (.val false [.pad l n.toNat]) [] := by
 obtain ⟨e, inf, h2, _, h3, h4, _⟩ := tabSlice hT hi
 obtain ⟨b, o', us, c, h5, h6, h7, h8, h9⟩ := (R.ev1 hx).2
 have h12 := rc_int (R.ev1 hn)
 have hrun := run_indexAt (P := P) (w := w) h2 h3 (A := ⟨b, o', none⟩) (n := l.length) (c := c) rfl (k := k) h0 h1
 refine OpOK.pure R hd (cv := .pointer (some ⟨b, o' + n.toNat * inf.size, none⟩)) ?_ (rv_mk ⟨rfl, b, o', us, by rw [h4, hs, Nat.mul_one], h7, h8, h9⟩)
 simp only [execOp, ho, h5, h12, Sem.run_bind, hrun, Result.andThen_ok, Sem.run_pure]
theorem own_ref {k e off : Nat} {v : Value} {ob : Obj} {t : T} {n : Nat} (h : RC g H w (.own k e off) v) (h1 : H.at k = some ob) (h2 : ob.isSeq t e n) : OwnRef (g.blk k) w t.sz n off v := h.2.2.2 ob t n h1 h2
theorem ok_indexOwn (hT : TabOK P tab) (R : Rel B g env H a w) (hd : ∀ d, o.dst = some d → d < B.n) {ty : TypeId} {x ix : Operand} (ho : o.op = .indexAddr ty x ix) {ie : TI} (hi : ((get tab ty).bind fun i => get tab i.elem) = some ie)
  {k e off : Nat} (hx : (ev env x).bind V.one = some (.own k e off)) {kk : IntKind} {n : Int} (hn : (ev env ix).bind V.one = some (.int kk n)) {ob : Obj} {t : T} {len : Nat} (hk : H.at k = some ob) (hq : ob.isSeq t e len) (hs : ie.sz = t.sz) (h0 : 0 ≤ n) (h1 : n < ((len - off : Nat) : Int)) :
  OpOK P B g env H a w o (.val false [.pel k e [] (plusN off n.toNat) 0]) [] := by
 obtain ⟨e', inf, h2, _, h3, h4, _⟩ := tabSlice hT hi
 have h5 := R.ev1 hx
 have h6 := own_ref h5 hk hq
 have h12 := rc_int (R.ev1 hn)
 unfold OwnRef at h6
 split at h6 <;> rename_i hb
 ·obtain ⟨rfl, rfl, _⟩ := h6; simp at h1; omega
 ·rename_i b s
  obtain ⟨A, c, cur, e2, fr, h7, h8, h9, h10, h11, h13⟩ := h6
  have hA := h13 (by omega)
  subst hA
  have hp : plusN off n.toNat = off + n.toNat := by
   unfold plusN
   by_cases hz : off = 0
   ·subst hz; simp
   ·have : Nat.beq off 0 = false := by rw [← Bool.not_eq_true]; exact fun h => hz (Nat.eq_of_beq_eq_true h)
    simp [this]
  have hrun := run_indexAt (P := P) (w := w) h2 h3 (A := ⟨b, (s + off) * t.sz, none⟩) (n := len - off) (c := c - off) rfl (k := kk) h0 h1
  refine OpOK.pure R hd (cv := .pointer (some ⟨b, (s + off) * t.sz + n.toNat * inf.size, none⟩)) ?_ (rv_mk ⟨rfl, h5.2.1, h5.2.2.1, fun _ ob' t' n' h14 h15 => ?_⟩)
  ·simp only [execOp, ho, h7, h12, Sem.run_bind, hrun, Result.andThen_ok, Sem.run_pure]
  ·obtain rfl : ob' = ob := Option.some.inj (h14.symm.trans hk)
   obtain ⟨rfl, _, rfl⟩ := Obj.isSeq_det hq h15
   rw [hp]
   exact ⟨by omega, b, s, hb, by rw [h4, hs, Nat.add_zero, ← Nat.add_assoc, Nat.add_mul (s + off)]⟩
end
section
variable {P : Program} {tab : Tab} {B : Base} {g : Gh} {env : Env} {H : Heap} {a : Act} {w : World} {o : Oper}
theorem ok_index (R : Rel B g env H a w) (hd : ∀ d, o.dst = some d → d < B.n) {ty : TypeId} {x ix : Operand} (ho : o.op = .index ty x ix) (ht : P.underlying ty = some .string) {s : ByteArray} (hx : (ev env x).bind V.one = some (.str s)) {k : IntKind} {n : Int} (hn : (ev env ix).bind V.one = some (.int k n))
  (h0 : 0 ≤ n) (h1 : n < s.size) : OpOK P B g env H a w o (.val false [.int .u8 (byteAt s n.toNat)]) [] := by
 have h2 := rc_str (R.ev1 hx)
 have h3 := rc_int (R.ev1 hn)
 have h4 : n.toNat < s.size := by omega
 have h5 : s.data.toList.getD n.toNat 0 = s[n.toNat] := by
  have h6 : n.toNat < s.data.toList.length := by rw [Array.length_toList]; exact h4
  rw [List.getD_eq_getElem?_getD, List.getElem?_eq_getElem h6]
  rfl
 refine OpOK.pure (cv := .int .u8 (byteAt s n.toNat)) R hd ?_ (rv_mk ⟨rfl, rfl⟩)
 simp [execOp, ho, Instr.index, asIntOf, run_underlying ht, h2, h3, h0, h4, byteAt, h5] <;> rfl
theorem ok_len (R : Rel B g env H a w) (hd : ∀ d, o.dst = some d → d < B.n) {x : Operand} {ts : Array TypeId} {ty : TypeId} (hts : ts[0]? = some ty) (ho : o.op = .call { callee := .builtin .len, args := #[x], argTypes := ts }) {e : TypeId} (ht : P.underlying ty = some (.slice e)) {A : Option Addr} {n c : Nat} (hx : a.eval x = .slice A n c) :
  OpOK P B g env H a w o (.val false [.int .i64 (n : Int)]) [] := by
 refine OpOK.pure (cv := .int .i64 (n : Int)) R hd ?_ (rv_mk ⟨rfl, rfl⟩)
 simp [execOp, ho, resolve, invoke, builtin, Builtin.len_, hts, hx, run_underlying ht, goInt]
theorem ok_lenStr (R : Rel B g env H a w) (hd : ∀ d, o.dst = some d → d < B.n) {x : Operand} {ts : Array TypeId} {ty : TypeId} (hts : ts[0]? = some ty) (ho : o.op = .call { callee := .builtin .len, args := #[x], argTypes := ts }) (ht : P.underlying ty = some .string) {s : ByteArray} (hx : a.eval x = .string s) :
  OpOK P B g env H a w o (.val false [.int .i64 (s.size : Int)]) [] := by
 refine OpOK.pure (cv := .int .i64 (s.size : Int)) R hd ?_ (rv_mk ⟨rfl, rfl⟩)
 simp [execOp, ho, resolve, invoke, builtin, Builtin.len_, hts, hx, run_underlying ht, goInt]
theorem own_slice {k e off : Nat} {v : Value} {ob : Obj} {t : T} {n : Nat} (h : RC g H w (.own k e off) v) (h1 : H.at k = some ob) (h2 : ob.isSeq t e n) : ∃ A c, v = .slice A (n - off) c ∧ off ≤ n := by
 have h3 := own_ref h h1 h2
 unfold OwnRef at h3
 split at h3
 ·obtain ⟨rfl, rfl, A, h⟩ := h3; exact ⟨A, 0, h, Nat.le_refl _⟩
 ·obtain ⟨A, c, cur, e2, fr, h7, h8, _⟩ := h3; exact ⟨A, _, h7, h8⟩
/-- A cut of a slice. -/
theorem run_sliceAt {t e : TypeId} {inf : TypeInfo} (ht : P.underlying t = some (.slice e)) (hi : P.info? e = some inf) {A : Option Addr} {n c : Nat} {k : IntKind} {i : Int} (h0 : 0 ≤ i) (h1 : i ≤ n) :
  (Instr.sliceAt t (.slice A n c) (some (.int k i)) none none).run P w = .ok (.slice (if c = i.toNat then A else A.map (·.add (i.toNat * inf.size))) (n - i.toNat) (c - i.toNat)) w := by
 have h2 : i ≤ (n : Int) := h1
 simp [Instr.sliceAt, Instr.slice, Instr.sliceBounds, Instr.sliceBound, asIntOf, run_underlying ht, h0, h2, sizeOf, typeInfo, hi]
theorem run_sliceAt0 {t e : TypeId} {inf : TypeInfo} (ht : P.underlying t = some (.slice e)) (hi : P.info? e = some inf) {A : Option Addr} {n c : Nat} :
  (Instr.sliceAt t (.slice A n c) none none none).run P w = .ok (.slice (if c = 0 then A else A.map (·.add (0 * inf.size))) (n - 0) (c - 0)) w := by
 simp [Instr.sliceAt, Instr.slice, Instr.sliceBounds, Instr.sliceBound, asIntOf, run_underlying ht, sizeOf, typeInfo, hi]
theorem run_sliceAt2 {t e : TypeId} {inf : TypeInfo} (ht : P.underlying t = some (.slice e)) (hi : P.info? e = some inf) {A : Option Addr} {n c : Nat} {k k' : IntKind} {i j : Int} (h0 : 0 ≤ i) (h1 : i ≤ j) (h2 : j ≤ c) :
  (Instr.sliceAt t (.slice A n c) (some (.int k i)) (some (.int k' j)) none).run P w = .ok (.slice (if c = i.toNat then A else A.map (·.add (i.toNat * inf.size))) (j.toNat - i.toNat) (c - i.toNat)) w := by
 have h3 : 0 ≤ j := by omega
 have h4 : i ≤ max j 0 := by omega
 simp [Instr.sliceAt, Instr.slice, Instr.sliceBounds, Instr.sliceBound, asIntOf, run_underlying ht, h0, h1, h2, h3, h4, sizeOf, typeInfo, hi]
theorem run_sliceAt02 {t e : TypeId} {inf : TypeInfo} (ht : P.underlying t = some (.slice e)) (hi : P.info? e = some inf) {A : Option Addr} {n c : Nat} {k' : IntKind} {j : Int} (h1 : 0 ≤ j) (h2 : j ≤ c) :
  (Instr.sliceAt t (.slice A n c) none (some (.int k' j)) none).run P w = .ok (.slice (if c = 0 then A else A.map (·.add (0 * inf.size))) (j.toNat - 0) (c - 0)) w := by
 simp [Instr.sliceAt, Instr.slice, Instr.sliceBounds, Instr.sliceBound, asIntOf, run_underlying ht, h1, h2, sizeOf, typeInfo, hi]
theorem add_none {A : Addr} (hA : A.spot = none) (n : Nat) : A.add n = ⟨A.block, A.off + n, none⟩ := by
 unfold Addr.add
 split
 ·rename_i hz; rw [hz]; cases A; simp_all
 ·rfl
theorem Rd.drop {F : Nat → Prop} {t : T} {xs : List t.Den} {A : Option Addr} {c : Nat} (h : Rd F w (.list t) xs [.slice A xs.length c]) (i : Nat) (hi : i ≤ xs.length) {sz : Nat} (hs : sz = t.sz) :
  Rd F w (.list t) (xs.drop i) [.slice (if c = i then A else A.map (·.add (i * sz))) (xs.length - i) (c - i)] := by
 obtain ⟨A', c', h1, h2, h3⟩ := h
 simp only [List.cons.injEq, Value.slice.injEq, and_true] at h1
 obtain ⟨rfl, _, rfl⟩ := h1
 refine ⟨(if c = i then A else A.map (·.add (i * sz))), c - i, by simp, by simp; omega, fun hne => ?_⟩
 have hlt : i < xs.length := by
  rcases Nat.lt_or_ge i xs.length with h | h
  ·exact h
  ·exact absurd (List.drop_eq_nil_of_le h) hne
 obtain ⟨g', o', us, rfl, h5, h6, h7⟩ := h3 (by rintro rfl; simp at hlt)
 have e : xs = xs.take i ++ xs.drop i := (List.take_append_drop i xs).symm
 have h8 : ELs (Rd F w t) t.sz (xs.take i ++ xs.drop i) us := by rw [← e]; exact h7
 obtain ⟨ua, ub, h9, h10, h11⟩ := h8.split
 have h12 := h10.length
 rw [List.length_take, Nat.min_eq_left hi] at h12
 rw [if_neg (by omega)]
 refine ⟨g', o' + i * t.sz, ub, by simp only [Option.map_some, Option.some.injEq]; rw [add_none rfl, hs], h5, ?_, h11⟩
 rw [h9] at h6
 have := h6.app.2
 rwa [h12] at this
theorem Rd.take {F : Nat → Prop} {t : T} {xs : List t.Den} {A : Option Addr} {c : Nat} (h : Rd F w (.list t) xs [.slice A xs.length c]) (i : Nat) (hi : i ≤ xs.length) : Rd F w (.list t) (xs.take i) [.slice A (xs.take i).length c] := by
 obtain ⟨A', c', h1, h2, h3⟩ := h
 simp only [List.cons.injEq, Value.slice.injEq, and_true] at h1
 obtain ⟨rfl, _, rfl⟩ := h1
 refine ⟨A, c, rfl, by simp; omega, fun hne => ?_⟩
 obtain ⟨g', o', us, rfl, h5, h6, h7⟩ := h3 (by rintro rfl; exact hne List.take_nil)
 have h8 : ELs (Rd F w t) t.sz (xs.take i ++ xs.drop i) us := by rw [List.take_append_drop]; exact h7
 obtain ⟨ua, ub, h9, h10, h11⟩ := h8.split
 rw [h9] at h6
 exact ⟨g', o', ua, rfl, h5, h6.app.1, h10⟩
def loOk (env : Env) (lo : Option Operand) (n : Int) : Prop := match lo with | some l => ∃ k, (ev env l).bind V.one = some (.int k n) | none => n = 0
theorem ok_sliceLst (hT : TabOK P tab) (R : Rel B g env H a w) (hd : ∀ d, o.dst = some d → d < B.n) {ty : TypeId} {x : Operand} {lo : Option Operand} (ho : o.op = .slice ty x lo none none) {ie : TI} (hi : ((get tab ty).bind fun i => get tab i.elem) = some ie)
  {t : T} {xs : List t.Den} (hx : (ev env x).bind V.one = some (.lst t xs)) {n : Int} (hn : loOk env lo n) (hs : ie.sz = t.sz) (h0 : 0 ≤ n) (h1 : n ≤ xs.length) : OpOK P B g env H a w o (.val false [.lst t (xs.drop n.toNat)]) [] := by
 obtain ⟨e, inf, h2, _, h3, h4, _⟩ := tabSlice hT hi
 have h5 := (R.ev1 hx).2
 obtain ⟨A, c, h6, h7, h8⟩ := h5
 simp only [List.cons.injEq, and_true] at h6
 have h9 : Rd g.F w (.list t) xs [.slice A xs.length c] := ⟨A, c, rfl, h7, h8⟩
 have h10 := h9.drop n.toNat (by omega) (sz := inf.size) (by omega)
 refine OpOK.pure R hd ?_ (rv_mk ⟨rfl, h10⟩)
 cases lo with
 | some l =>
  obtain ⟨k, hk⟩ := hn
  have h11 := rc_int (R.ev1 hk)
  simp only [execOp, ho, h6, h11, Option.map_some, Option.map_none, Sem.run_bind, run_sliceAt h2 h3 h0 h1, Result.andThen_ok, Sem.run_pure]
 | none =>
  obtain rfl : n = 0 := hn
  simp only [execOp, ho, h6, Option.map_none, Sem.run_bind, run_sliceAt0 h2 h3, Result.andThen_ok, Sem.run_pure, Int.toNat_zero]
theorem ok_sliceLst2 (hT : TabOK P tab) (R : Rel B g env H a w) (hd : ∀ d, o.dst = some d → d < B.n) {ty : TypeId} {x hi' : Operand} {lo : Option Operand} (ho : o.op = .slice ty x lo (some hi') none) {ie : TI} (hi : ((get tab ty).bind fun i => get tab i.elem) = some ie)
  {t : T} {xs : List t.Den} (hx : (ev env x).bind V.one = some (.lst t xs)) {n m : Int} (hn : loOk env lo n) {k' : IntKind} (hm : (ev env hi').bind V.one = some (.int k' m)) (hs : ie.sz = t.sz) (h0 : 0 ≤ n) (h1 : n ≤ m) (h1' : m ≤ xs.length) :
  OpOK P B g env H a w o (.val false [.lst t ((xs.take m.toNat).drop n.toNat)]) [] := by
 obtain ⟨e, inf, h2, _, h3, h4, _⟩ := tabSlice hT hi
 have h5 := (R.ev1 hx).2
 obtain ⟨A, c, h6, h7, h8⟩ := h5
 simp only [List.cons.injEq, and_true] at h6
 have h9 : Rd g.F w (.list t) xs [.slice A xs.length c] := ⟨A, c, rfl, h7, h8⟩
 have h10 := (h9.take m.toNat (by omega)).drop n.toNat (by simp; omega) (sz := inf.size) (by omega)
 have hl : (xs.take m.toNat).length = m.toNat := by simp; omega
 rw [hl] at h10
 have h12 := rc_int (R.ev1 hm)
 refine OpOK.pure R hd ?_ (rv_mk ⟨rfl, h10⟩)
 cases lo with
 | some l =>
  obtain ⟨k, hk⟩ := hn
  have h11 := rc_int (R.ev1 hk)
  simp only [execOp, ho, h6, h11, h12, Option.map_some, Option.map_none, Sem.run_bind, run_sliceAt2 h2 h3 h0 h1 (show m ≤ c by omega), Result.andThen_ok, Sem.run_pure]
 | none =>
  obtain rfl : n = 0 := hn
  simp only [execOp, ho, h6, h12, Option.map_none, Option.map_some, Sem.run_bind, run_sliceAt02 h2 h3 h1 (show m ≤ c by omega), Result.andThen_ok, Sem.run_pure, Int.toNat_zero]
theorem ok_sliceOwn (hT : TabOK P tab) (R : Rel B g env H a w) (hd : ∀ d, o.dst = some d → d < B.n) {ty : TypeId} {x : Operand} {lo : Option Operand} (ho : o.op = .slice ty x lo none none) {ie : TI} (hi : ((get tab ty).bind fun i => get tab i.elem) = some ie)
  {k e off : Nat} (hx : (ev env x).bind V.one = some (.own k e off)) {ob : Obj} {t : T} {len : Nat} (hk : H.at k = some ob) (hq : ob.isSeq t e len) {n : Int} (hn : loOk env lo n) (hs : ie.sz = t.sz) (h0 : 0 ≤ n) (h1 : n ≤ ((len - off : Nat) : Int)) : OpOK P B g env H a w o (.val false [.own k e (plusN off n.toNat)]) [] := by
 obtain ⟨e', inf, h2, _, h3, h4, _⟩ := tabSlice hT hi
 have h5 := R.ev1 hx
 have h6 := own_ref h5 hk hq
 have hp : plusN off n.toNat = off + n.toNat := by
  unfold plusN
  by_cases hz : off = 0
  ·subst hz; simp
  ·have : Nat.beq off 0 = false := by rw [← Bool.not_eq_true]; exact fun h => hz (Nat.eq_of_beq_eq_true h)
   simp [this]
 obtain ⟨A, c, h7, h8⟩ := own_slice h5 hk hq
 have hrun : (execOp a.eval o).run P w = .ok (.value (.slice (if c = n.toNat then A else A.map (·.add (n.toNat * inf.size))) (len - off - n.toNat) (c - n.toNat))) w := by
  cases lo with
  | some l =>
   obtain ⟨kk, hk⟩ := hn
   have h11 := rc_int (R.ev1 hk)
   simp only [execOp, ho, h7, h11, Option.map_some, Option.map_none, Sem.run_bind, run_sliceAt h2 h3 h0 h1, Result.andThen_ok, Sem.run_pure]
  | none =>
   obtain rfl : n = 0 := hn
   simp only [execOp, ho, h7, Option.map_none, Sem.run_bind, run_sliceAt0 h2 h3, Result.andThen_ok, Sem.run_pure, Int.toNat_zero]
 refine OpOK.pure R hd hrun (rv_mk ⟨rfl, h5.2.1, h5.2.2.1, fun ob' t' n' h14 h15 => ?_⟩)
 obtain rfl : ob' = ob := Option.some.inj (h14.symm.trans hk)
 obtain ⟨rfl, _, rfl⟩ := Obj.isSeq_det hq h15
 rw [hp]
 cases hb : g.blk k with
 | none =>
  simp only [OwnRef, hb] at h6 ⊢
  obtain ⟨rfl, rfl, A', h9⟩ := h6
  obtain rfl : n = 0 := by simp at h1; omega
  refine ⟨rfl, rfl, A', ?_⟩
  rw [h7] at h9
  simp only [Value.slice.injEq] at h9
  obtain ⟨rfl, _, rfl⟩ := h9
  simp
 | some p =>
  obtain ⟨b, s⟩ := p
  simp only [OwnRef, hb] at h6 ⊢
  obtain ⟨A', c', cur, e2, fr, h9, h10, h11, h12, h13, h14⟩ := h6
  rw [h7] at h9
  simp only [Value.slice.injEq] at h9
  obtain ⟨rfl, _, rfl⟩ := h9
  refine ⟨(if c' - off = n.toNat then A else Option.map (fun x => x.add (n.toNat * inf.size)) A), c', cur, e2, fr, ?_, by omega, h11, h12, h13, fun hlt => ?_⟩
  ·congr 1 <;> omega
  ·rw [if_neg (by omega), h14 (by omega)]
   simp only [Option.map_some, Option.some.injEq]
   rw [add_none rfl, h4, hs, ← Nat.add_assoc s, Nat.add_mul (s + off)]
theorem ok_sliceStr (R : Rel B g env H a w) (hd : ∀ d, o.dst = some d → d < B.n) {ty : TypeId} {x : Operand} {lo : Option Operand} (ho : o.op = .slice ty x lo none none) (ht : P.underlying ty = some .string)
  {s : ByteArray} (hx : (ev env x).bind V.one = some (.str s)) {n : Int} (hn : loOk env lo n) (h0 : 0 ≤ n) (h1 : n ≤ s.size) : OpOK P B g env H a w o (.val false [.str (s.extract n.toNat s.size)]) [] := by
 have h2 := rc_str (R.ev1 hx)
 refine OpOK.pure (cv := .string (s.extract n.toNat s.size)) R hd ?_ (rv_mk ⟨rfl, rfl⟩)
 cases lo with
 | some l =>
  obtain ⟨k, hk⟩ := hn
  have h11 := rc_int (R.ev1 hk)
  simp [execOp, ho, h2, h11, Instr.sliceAt, Instr.slice, Instr.sliceBounds, Instr.sliceBound, asIntOf, run_underlying ht, h0, h1]
 | none =>
  obtain rfl : n = 0 := hn
  simp [execOp, ho, h2, Instr.sliceAt, Instr.slice, Instr.sliceBounds, Instr.sliceBound, asIntOf, run_underlying ht]
theorem ok_sliceStr2 (R : Rel B g env H a w) (hd : ∀ d, o.dst = some d → d < B.n) {ty : TypeId} {x hi' : Operand} {lo : Option Operand} (ho : o.op = .slice ty x lo (some hi') none) (ht : P.underlying ty = some .string)
  {s : ByteArray} (hx : (ev env x).bind V.one = some (.str s)) {n m : Int} (hn : loOk env lo n) {k' : IntKind} (hm : (ev env hi').bind V.one = some (.int k' m)) (h0 : 0 ≤ n) (h1 : n ≤ m) (h1' : m ≤ s.size) :
  OpOK P B g env H a w o (.val false [.str (s.extract n.toNat m.toNat)]) [] := by
 have h2 := rc_str (R.ev1 hx)
 have h12 := rc_int (R.ev1 hm)
 have h3 : 0 ≤ m := by omega
 have h4 : n ≤ max m 0 := by omega
 refine OpOK.pure (cv := .string (s.extract n.toNat m.toNat)) R hd ?_ (rv_mk ⟨rfl, rfl⟩)
 cases lo with
 | some l =>
  obtain ⟨k, hk⟩ := hn
  have h11 := rc_int (R.ev1 hk)
  simp [execOp, ho, h2, h11, h12, Instr.sliceAt, Instr.slice, Instr.sliceBounds, Instr.sliceBound, asIntOf, run_underlying ht, h0, h1, h1', h3, h4]
 | none =>
  obtain rfl : n = 0 := hn
  simp [execOp, ho, h2, h12, Instr.sliceAt, Instr.slice, Instr.sliceBounds, Instr.sliceBound, asIntOf, run_underlying ht, h1', h3]
end
section
variable {g : Gh} {H : Heap} {w : World}
theorem castL_cases {t t' : T} {xs : List t.Den} {ys : List t'.Den} (h : castL xs = some ys) : ∃ e : t = t', ys = e ▸ xs := by
 obtain ⟨e, h⟩ := castL_eq h; exact ⟨e, h.symm⟩
/-- What a row reads as from a place on. -/
theorem seq_rd {F' : Nat → Prop} (hF : ∀ b, g.F b → F' b) {k off : Nat} {ob : Obj} {t : T} {e : Nat} {xs : List t.Den} (hob : (∃ d, ob = .row d t e xs ∧ ∀ b, g.ow b = some k → F' b) ∨ ob = .fro t e xs) (hro : RO g H w k ob) {v : Value} (hr : OwnRef (g.blk k) w t.sz xs.length off v) : Rd F' w (.list t) (xs.drop off) [v] := by
 have key : ∀ b s, g.blk k = some (b, s) → ∃ us, F' b ∧ At w b (s * t.sz) us ∧ ELs (Rd F' w t) t.sz xs us := by
  intro b s hb
  rcases hob with ⟨d, rfl, hF'⟩ | rfl
  ·simp only [RO, hb] at hro
   obtain ⟨cur, ty, pre, us, post, fp, h1, h2, h3, h4, h5, h6, h7⟩ := hro
   exact ⟨us, hF' _ h1, h4 ▸ At.of_block h2 h3, h5.toELs fun x u f hf r => r.rd hF fun b hb => hF' b (h7 b (hf b hb))⟩
  ·simp only [RO, hb] at hro
   obtain ⟨us, h1, h2, h3⟩ := hro
   exact ⟨us, hF _ h1, h2, h3.mono fun x u r => Rd.mono hF (fun _ _ => rfl) r⟩
 cases hb : g.blk k with
 | none =>
  simp only [OwnRef, hb] at hr
  obtain ⟨h1, rfl, A, rfl⟩ := hr
  have : xs = [] := List.eq_nil_of_length_eq_zero h1
  subst this
  exact ⟨A, 0, rfl, Nat.le_refl _, fun h => absurd rfl h⟩
 | some p =>
  obtain ⟨b, s⟩ := p
  simp only [OwnRef, hb] at hr
  obtain ⟨A, c, cur, e2, fr, rfl, h2, h3, h4, h5, h6⟩ := hr
  obtain ⟨us, h7, h8, h9⟩ := key b s hb
  refine ⟨A, c - off, by simp, by simp; omega, fun hne => ?_⟩
  have hlt : off < xs.length := by
   rcases Nat.lt_or_ge off xs.length with h | h
   ·exact h
   ·exact absurd (List.drop_eq_nil_of_le h) hne
  rw [← List.take_append_drop off xs] at h9
  obtain ⟨ua, ub, h10, h11, h12⟩ := h9.split
  have h13 := h11.length
  rw [List.length_take, Nat.min_eq_left h2] at h13
  refine ⟨b, (s + off) * t.sz, ub, h6 (by omega), h7, ?_, h12⟩
  rw [h10] at h8
  have := h8.app.2
  rwa [h13, ← Nat.add_mul] at this
theorem nil_rd {F' : Nat → Prop} {t : T} {v : Value} (h : ∃ A, v = .slice A 0 0) : Rd F' w (.list t) ([] : List t.Den) [v] := by
 obtain ⟨A, rfl⟩ := h; exact ⟨A, 0, rfl, Nat.le_refl _, fun h => absurd rfl h⟩
theorem lc_rd {F' : Nat → Prop} (hF : ∀ b, g.F b → F' b) (hO : ∀ o ob, H.at o = some ob → RO g H w o ob) {t : T} {c : C} {xs : List t.Den} {ks : List Nat} (h : lc H t c = some (xs, ks)) (hk : ∀ b k, k ∈ ks → g.ow b = some k → F' b) {v : Value} (hv : RC g H w c v) : Rd F' w (.list t) xs [v] := by
 cases c with
 | lst t' ys =>
  simp only [lc, Option.map_eq_some_iff, Prod.mk.injEq] at h
  obtain ⟨zs, h1, rfl, rfl⟩ := h
  obtain ⟨rfl, rfl⟩ := castL_cases h1
  exact Rd.mono hF (fun _ _ => rfl) hv.2
 | nil =>
  simp only [lc, Option.some.injEq, Prod.mk.injEq] at h
  obtain ⟨rfl, rfl⟩ := h
  exact nil_rd hv.2
 | own o e off =>
  simp only [lc] at h
  split at h
  ·rename_i d t' e' ys hob
   cases hb : Nat.beq e e' with
   | false => simp [hb] at h
   | true =>
    simp only [hb, cond_true, Option.map_eq_some_iff, Prod.mk.injEq] at h
    obtain ⟨zs, h1, rfl, rfl⟩ := h
    obtain ⟨rfl, rfl⟩ := castL_cases h1
    have he := Nat.eq_of_beq_eq_true hb
    subst he
    exact seq_rd hF (.inl ⟨d, rfl, fun b hb => hk b o (by simp) hb⟩) (hO o _ hob) (own_ref hv hob ⟨rfl, rfl, rfl⟩)
  ·rename_i t' e' ys hob
   cases hb : Nat.beq e e' with
   | false => simp [hb] at h
   | true =>
    simp only [hb, cond_true, Option.map_eq_some_iff, Prod.mk.injEq] at h
    obtain ⟨zs, h1, rfl, rfl⟩ := h
    obtain ⟨rfl, rfl⟩ := castL_cases h1
    have he := Nat.eq_of_beq_eq_true hb
    subst he
    exact seq_rd hF (.inr rfl) (hO o _ hob) (own_ref hv hob ⟨rfl, rfl, rfl⟩)
  ·cases h
 | _ => simp [lc] at h
theorem row_ow {k off : Nat} {d : Bool} {t : T} {e : Nat} {xs : List t.Den} (hd : (d || t.flat) = true) (hro : RO g H w k (.row d t e xs)) {v : Value} (hr : OwnRef (g.blk k) w t.sz xs.length off v) : ∃ fp, Ow w (.list t) (xs.drop off) [v] fp ∧ fp.Nodup ∧ ∀ b ∈ fp, g.ow b = some k := by
 cases hb : g.blk k with
 | none =>
  simp only [OwnRef, hb] at hr
  obtain ⟨h1, rfl, A, rfl⟩ := hr
  have : xs = [] := List.eq_nil_of_length_eq_zero h1
  subst this
  exact ⟨[], .inl ⟨rfl, rfl, A, rfl⟩, List.nodup_nil, by simp⟩
 | some p =>
  obtain ⟨b, s⟩ := p
  simp only [OwnRef, hb] at hr
  obtain ⟨A, c, cur', e2, fr, rfl, h2, h3, h4, h5, h6⟩ := hr
  simp only [RO, hb] at hro
  obtain ⟨cur, ty, pre, us, post, fp, k1, k2, k3, k4, k5, k6, k7⟩ := hro
  rw [k2] at h4
  simp only [Option.some.injEq, Go.Obj.cells.injEq] at h4
  obtain ⟨rfl, rfl, rfl⟩ := h4
  have k5' : EFs (Ow w t) t.sz xs us fp := by
   refine k5.mono fun x u f hf r => ?_
   cases hdd : d with
   | true => rw [hdd] at r; simpa [El] using r
   | false =>
    have hfl : t.flat = true := by simpa [hdd] using hd
    obtain ⟨rfl, r'⟩ := El.flat (d' := true) (F' := g.F) (w' := w) hfl r
    simpa [El] using r'
  rcases Nat.lt_or_ge off c with hlt | hge
  ·have hA := h6 hlt
   subst hA
   rw [← List.take_append_drop off xs] at k5'
   obtain ⟨ua, ub, f, f', e1, e3, h10, h11⟩ := k5'.split
   have hl := h10.length
   rw [List.length_take, Nat.min_eq_left h2] at hl
   refine ⟨b :: f', .inr ⟨b, (s + off) * t.sz, c - off, cur, ty, pre ++ ua, ub, post, f', by simp, rfl, k2, ?_, ?_, by simp; omega, ?_, h11⟩, ?_, ?_⟩
   ·rw [k3, e1]; simp [List.append_assoc]
   ·exact ⟨by rw [List.length_append, k4, hl, Nat.add_mul], Nat.dvd_mul_left _ _⟩
   ·rw [← Nat.add_mul]; rw [show s + off + (c - off) = s + c by omega]; exact h5
   ·rw [e3] at k6
    simp only [List.nodup_cons, List.nodup_append, List.mem_append, not_or] at k6 ⊢
    exact ⟨k6.1.2, k6.2.2.1⟩
   ·intro b' hb'
    simp only [List.mem_cons] at hb'
    rcases hb' with rfl | hb'
    ·exact k1
    ·exact k7 b' (by rw [e3]; simp [hb'])
  ·refine ⟨[], .inl ⟨List.drop_eq_nil_of_le (by omega), rfl, A, ?_⟩, List.nodup_nil, by simp⟩
   rw [show xs.length - off = 0 by omega, show c - off = 0 by omega]
theorem lc_ow (hO : ∀ o ob, H.at o = some ob → RO g H w o ob) {t : T} {c : C} {xs : List t.Den} {ks : List Nat} (h : lc H t c = some (xs, ks)) (hd : deepC H c = true) {v : Value} (hv : RC g H w c v) : ∃ fp, Ow w (.list t) xs [v] fp ∧ fp.Nodup ∧ ∀ b ∈ fp, ∃ k ∈ ks, g.ow b = some k := by
 cases c with
 | lst t' ys => simp [deepC] at hd
 | nil =>
  simp only [lc, Option.some.injEq, Prod.mk.injEq] at h
  obtain ⟨rfl, rfl⟩ := h
  obtain ⟨A, rfl⟩ := hv.2
  exact ⟨[], .inl ⟨rfl, rfl, A, rfl⟩, List.nodup_nil, by simp⟩
 | own o e off =>
  simp only [lc] at h
  split at h
  ·rename_i d t' e' ys hob
   cases hb : Nat.beq e e' with
   | false => simp [hb] at h
   | true =>
    simp only [hb, cond_true, Option.map_eq_some_iff, Prod.mk.injEq] at h
    obtain ⟨zs, h1, rfl, rfl⟩ := h
    obtain ⟨rfl, rfl⟩ := castL_cases h1
    have he := Nat.eq_of_beq_eq_true hb
    subst he
    simp only [deepC, hob] at hd
    obtain ⟨fp, h2, h3, h4⟩ := row_ow hd (hO o _ hob) (own_ref hv hob ⟨rfl, rfl, rfl⟩)
    exact ⟨fp, h2, h3, fun b hb => ⟨o, by simp, h4 b hb⟩⟩
  ·rename_i t' e' ys hob
   simp [deepC, hob] at hd
  ·cases h
 | _ => simp [lc] at h
theorem dec_rd {F' : Nat → Prop} (hF : ∀ b, g.F b → F' b) (hO : ∀ o ob, H.at o = some ob → RO g H w o ob) : ∀ {t : T} {cs : List C} {x : t.Den} {ks : List Nat} {rest : List C}, dec H t cs = some (x, ks, rest) → (∀ b k, k ∈ ks → g.ow b = some k → F' b) → ∀ {vs : List Value}, RCs g H w cs vs → ∃ us ws, vs = us ++ ws ∧ Rd F' w t x us ∧ RCs g H w rest ws
 | .int k, cs, x, ks, rest, h, hk, vs, hv => by
  cases cs with
  | nil => simp [dec] at h
  | cons c cs =>
   cases c <;> simp only [dec, reduceCtorEq] at h
   rename_i k' n
   cases hd : decide (k = k') with
   | false => simp [hd] at h
   | true =>
    simp only [hd, cond_true, Option.some.injEq, Prod.mk.injEq] at h
    obtain ⟨rfl, rfl, rfl⟩ := h
    obtain ⟨u, us, rfl, h1, h2⟩ := hv
    have : k = k' := of_decide_eq_true hd
    subst this
    exact ⟨[u], us, rfl, by rw [rc_int h1]; rfl, h2⟩
 | .bool, cs, x, ks, rest, h, hk, vs, hv => by
  cases cs with
  | nil => simp [dec] at h
  | cons c cs =>
   cases c <;> simp only [dec, Option.some.injEq, Prod.mk.injEq, reduceCtorEq] at h
   obtain ⟨rfl, rfl, rfl⟩ := h
   obtain ⟨u, us, rfl, h1, h2⟩ := hv
   exact ⟨[u], us, rfl, by rw [rc_bool h1]; rfl, h2⟩
 | .str, cs, x, ks, rest, h, hk, vs, hv => by
  cases cs with
  | nil => simp [dec] at h
  | cons c cs =>
   cases c <;> simp only [dec, Option.some.injEq, Prod.mk.injEq, reduceCtorEq] at h
   obtain ⟨rfl, rfl, rfl⟩ := h
   obtain ⟨u, us, rfl, h1, h2⟩ := hv
   exact ⟨[u], us, rfl, by rw [rc_str h1]; rfl, h2⟩
 | .list t, cs, x, ks, rest, h, hk, vs, hv => by
  cases cs with
  | nil => simp [dec] at h
  | cons c cs =>
   simp only [dec, Option.map_eq_some_iff, Prod.mk.injEq] at h
   obtain ⟨y, h1, rfl, rfl, rfl⟩ := h
   obtain ⟨u, us, rfl, h2, h3⟩ := hv
   exact ⟨[u], us, rfl, lc_rd hF hO h1 hk h2, h3⟩
 | .pair a b, cs, x, ks, rest, h, hk, vs, hv => by
  simp only [dec, Option.bind_eq_some_iff, Option.map_eq_some_iff, Prod.mk.injEq] at h
  obtain ⟨⟨x1, k1, r1⟩, h1, ⟨x2, k2, r2⟩, h2, rfl, rfl, rfl⟩ := h
  obtain ⟨us, ws, rfl, h3, h4⟩ := dec_rd hF hO h1 (fun b k hk1 => hk b k (by simp [hk1])) hv
  obtain ⟨us2, ws2, rfl, h5, h6⟩ := dec_rd hF hO h2 (fun b k hk1 => hk b k (by simp [hk1])) h4
  exact ⟨us ++ us2, ws2, by simp, ⟨us, us2, rfl, h3, h5⟩, h6⟩
 | .unit, cs, x, ks, rest, h, hk, vs, hv => by
  simp only [dec, Option.some.injEq, Prod.mk.injEq] at h
  obtain ⟨_, rfl, rfl⟩ := h
  exact ⟨[], vs, rfl, rfl, hv⟩
theorem dec_ow (hO : ∀ o ob, H.at o = some ob → RO g H w o ob) : ∀ {t : T} {cs : List C} {x : t.Den} {ks : List Nat} {rest : List C}, dec H t cs = some (x, ks, rest) → deepCs H cs = true → ks.Nodup → ∀ {vs : List Value}, RCs g H w cs vs →
  ∃ us ws fp, vs = us ++ ws ∧ Ow w t x us fp ∧ fp.Nodup ∧ (∀ b ∈ fp, ∃ k ∈ ks, g.ow b = some k) ∧ RCs g H w rest ws ∧ deepCs H rest = true
 | .int k, cs, x, ks, rest, h, hdp, hn, vs, hv => by
  cases cs with
  | nil => simp [dec] at h
  | cons c cs =>
   cases c <;> simp only [dec, reduceCtorEq] at h
   rename_i k' n
   cases hd : decide (k = k') with
   | false => simp [hd] at h
   | true =>
    simp only [hd, cond_true, Option.some.injEq, Prod.mk.injEq] at h
    obtain ⟨rfl, rfl, rfl⟩ := h
    obtain ⟨u, us, rfl, h1, h2⟩ := hv
    have : k = k' := of_decide_eq_true hd
    subst this
    exact ⟨[u], us, [], rfl, ⟨by rw [rc_int h1], rfl⟩, List.nodup_nil, by simp, h2, by simp_all [deepCs]⟩
 | .bool, cs, x, ks, rest, h, hdp, hn, vs, hv => by
  cases cs with
  | nil => simp [dec] at h
  | cons c cs =>
   cases c <;> simp only [dec, Option.some.injEq, Prod.mk.injEq, reduceCtorEq] at h
   obtain ⟨rfl, rfl, rfl⟩ := h
   obtain ⟨u, us, rfl, h1, h2⟩ := hv
   exact ⟨[u], us, [], rfl, ⟨by rw [rc_bool h1], rfl⟩, List.nodup_nil, by simp, h2, by simp_all [deepCs]⟩
 | .str, cs, x, ks, rest, h, hdp, hn, vs, hv => by
  cases cs with
  | nil => simp [dec] at h
  | cons c cs =>
   cases c <;> simp only [dec, Option.some.injEq, Prod.mk.injEq, reduceCtorEq] at h
   obtain ⟨rfl, rfl, rfl⟩ := h
   obtain ⟨u, us, rfl, h1, h2⟩ := hv
   exact ⟨[u], us, [], rfl, ⟨by rw [rc_str h1], rfl⟩, List.nodup_nil, by simp, h2, by simp_all [deepCs]⟩
 | .list t, cs, x, ks, rest, h, hdp, hn, vs, hv => by
  cases cs with
  | nil => simp [dec] at h
  | cons c cs =>
   simp only [dec, Option.map_eq_some_iff, Prod.mk.injEq] at h
   obtain ⟨y, h1, rfl, rfl, rfl⟩ := h
   obtain ⟨u, us, rfl, h2, h3⟩ := hv
   simp only [deepCs, List.all_cons, Bool.and_eq_true] at hdp
   obtain ⟨fp, h4, h5, h6⟩ := lc_ow hO h1 hdp.1 h2
   exact ⟨[u], us, fp, rfl, h4, h5, h6, h3, hdp.2⟩
 | .pair a b, cs, x, ks, rest, h, hdp, hn, vs, hv => by
  simp only [dec, Option.bind_eq_some_iff, Option.map_eq_some_iff, Prod.mk.injEq] at h
  obtain ⟨⟨x1, k1, r1⟩, h1, ⟨x2, k2, r2⟩, h2, rfl, rfl, rfl⟩ := h
  have hn' := List.nodup_append.1 hn
  obtain ⟨us, ws, f1, rfl, h3, h4, h5, h6, h7⟩ := dec_ow hO h1 hdp hn'.1 hv
  obtain ⟨us2, ws2, f2, rfl, h8, h9, h10, h11, h12⟩ := dec_ow hO h2 h7 hn'.2.1 h6
  refine ⟨us ++ us2, ws2, f1 ++ f2, by simp, ⟨us, us2, f1, f2, rfl, rfl, h3, h8⟩, ?_, ?_, h11, h12⟩
  ·rw [List.nodup_append]
   refine ⟨h4, h9, fun b hb b' hb' hbb => ?_⟩
   subst hbb
   obtain ⟨k, hk, e1⟩ := h5 b hb
   obtain ⟨k', hk', e2⟩ := h10 b hb'
   have : k = k' := Option.some.inj (e1.symm.trans e2)
   subst this
   exact hn'.2.2 k hk k hk' rfl
  ·intro b hb
   simp only [List.mem_append] at hb
   rcases hb with hb | hb
   ·obtain ⟨k, hk, e1⟩ := h5 b hb; exact ⟨k, by simp [hk], e1⟩
   ·obtain ⟨k, hk, e1⟩ := h10 b hb; exact ⟨k, by simp [hk], e1⟩
 | .unit, cs, x, ks, rest, h, hdp, hn, vs, hv => by
  simp only [dec, Option.some.injEq, Prod.mk.injEq] at h
  obtain ⟨_, rfl, rfl⟩ := h
  exact ⟨[], vs, [], rfl, ⟨rfl, rfl⟩, List.nodup_nil, by simp, hv, hdp⟩
/-- What a reading of slices is good for. -/
def LcRd (g : Gh) (H : Heap) (w : World) (F' : Nat → Prop) (l : (t : T) → C → Option (List t.Den × List Nat)) : Prop := ∀ {t : T} {c : C} {xs : List t.Den} {ks : List Nat}, l t c = some (xs, ks) → (∀ b k, k ∈ ks → g.ow b = some k → F' b) → ∀ {v : Value}, RC g H w c v → Rd F' w (.list t) xs [v]
theorem decW_rd {F' : Nat → Prop} {l : (t : T) → C → Option (List t.Den × List Nat)} (hl : LcRd g H w F' l) : ∀ {t : T} {cs : List C} {x : t.Den} {ks : List Nat} {rest : List C}, decW l t cs = some (x, ks, rest) → (∀ b k, k ∈ ks → g.ow b = some k → F' b) → ∀ {vs : List Value}, RCs g H w cs vs → ∃ us ws, vs = us ++ ws ∧ Rd F' w t x us ∧ RCs g H w rest ws
 | .int k, cs, x, ks, rest, h, hk, vs, hv => by
  cases cs with
  | nil => simp [decW] at h
  | cons c cs =>
   cases c <;> simp only [decW, reduceCtorEq] at h
   rename_i k' n
   cases hd : decide (k = k') with
   | false => simp [hd] at h
   | true =>
    simp only [hd, cond_true, Option.some.injEq, Prod.mk.injEq] at h
    obtain ⟨rfl, rfl, rfl⟩ := h
    obtain ⟨u, us, rfl, h1, h2⟩ := hv
    have : k = k' := of_decide_eq_true hd
    subst this
    exact ⟨[u], us, rfl, by rw [rc_int h1]; rfl, h2⟩
 | .bool, cs, x, ks, rest, h, hk, vs, hv => by
  cases cs with
  | nil => simp [decW] at h
  | cons c cs =>
   cases c <;> simp only [decW, Option.some.injEq, Prod.mk.injEq, reduceCtorEq] at h
   obtain ⟨rfl, rfl, rfl⟩ := h
   obtain ⟨u, us, rfl, h1, h2⟩ := hv
   exact ⟨[u], us, rfl, by rw [rc_bool h1]; rfl, h2⟩
 | .str, cs, x, ks, rest, h, hk, vs, hv => by
  cases cs with
  | nil => simp [decW] at h
  | cons c cs =>
   cases c <;> simp only [decW, Option.some.injEq, Prod.mk.injEq, reduceCtorEq] at h
   obtain ⟨rfl, rfl, rfl⟩ := h
   obtain ⟨u, us, rfl, h1, h2⟩ := hv
   exact ⟨[u], us, rfl, by rw [rc_str h1]; rfl, h2⟩
 | .list t, cs, x, ks, rest, h, hk, vs, hv => by
  cases cs with
  | nil => simp [decW] at h
  | cons c cs =>
   simp only [decW, Option.map_eq_some_iff, Prod.mk.injEq] at h
   obtain ⟨y, h1, rfl, rfl, rfl⟩ := h
   obtain ⟨u, us, rfl, h2, h3⟩ := hv
   exact ⟨[u], us, rfl, hl h1 hk h2, h3⟩
 | .pair a b, cs, x, ks, rest, h, hk, vs, hv => by
  simp only [decW, Option.bind_eq_some_iff, Option.map_eq_some_iff, Prod.mk.injEq] at h
  obtain ⟨⟨x1, k1, r1⟩, h1, ⟨x2, k2, r2⟩, h2, rfl, rfl, rfl⟩ := h
  obtain ⟨us, ws, rfl, h3, h4⟩ := decW_rd hl h1 (fun b k hk1 => hk b k (by simp [hk1])) hv
  obtain ⟨us2, ws2, rfl, h5, h6⟩ := decW_rd hl h2 (fun b k hk1 => hk b k (by simp [hk1])) h4
  exact ⟨us ++ us2, ws2, by simp, ⟨us, us2, rfl, h3, h5⟩, h6⟩
 | .unit, cs, x, ks, rest, h, hk, vs, hv => by
  simp only [decW, Option.some.injEq, Prod.mk.injEq] at h
  obtain ⟨_, rfl, rfl⟩ := h
  exact ⟨[], vs, rfl, rfl, hv⟩
theorem seqO_rd {F' : Nat → Prop} {k off b s : Nat} {t : T} {xs : List t.Den} {us : List Value} (hb : g.blk k = some (b, s)) (hF : F' b) (hat : At w b (s * t.sz) us) (hel : ELs (Rd F' w t) t.sz xs us) {v : Value} (hr : OwnRef (g.blk k) w t.sz xs.length off v) : Rd F' w (.list t) (xs.drop off) [v] := by
 simp only [OwnRef, hb] at hr
 obtain ⟨A, c, cur, e2, fr, rfl, h2, h3, h4, h5, h6⟩ := hr
 refine ⟨A, c - off, by simp, by simp; omega, fun hne => ?_⟩
 have hlt : off < xs.length := by
  rcases Nat.lt_or_ge off xs.length with h | h
  ·exact h
  ·exact absurd (List.drop_eq_nil_of_le h) hne
 rw [← List.take_append_drop off xs] at hel
 obtain ⟨ua, ub, h10, h11, h12⟩ := hel.split
 have h13 := h11.length
 rw [List.length_take, Nat.min_eq_left h2] at h13
 refine ⟨b, (s + off) * t.sz, ub, h6 (by omega), hF, ?_, h12⟩
 rw [h10] at hat
 have := hat.app.2
 rwa [h13, ← Nat.add_mul] at this
theorem lcS_rd {F' : Nat → Prop} (hF : ∀ b, g.F b → F' b) (hO : ∀ o ob, H.at o = some ob → RO g H w o ob) {l : (t : T) → C → Option (List t.Den × List Nat)} (hl : LcRd g H w F' l) : LcRd g H w F' (lcS l H) := by
 intro t c xs ks h hk v hv
 unfold lcS at h
 split at h
 ·rename_i o e off
  split at h
  ·rename_i t' e' ys i cs hob
   cases hb : Nat.beq e e' with
   | false => simp [hb] at h
   | true =>
    simp only [hb, cond_true] at h
    have he := Nat.eq_of_beq_eq_true hb
    subst he
    split at h
    ·rename_i x ks' hdec
     simp only [Option.map_eq_some_iff, Prod.mk.injEq] at h
     obtain ⟨zs, h1, rfl, rfl⟩ := h
     obtain ⟨rfl, rfl⟩ := castL_cases h1
     obtain ⟨b, s, cur, ty, pre, p1, u, p2, post, f1, f2, q1, q2, q3, q4, q5, q6, q7, q8, q9, q10, q11, q12⟩ := hO o _ hob
     obtain ⟨us, ws, hus, h3, h4⟩ := decW_rd hl hdec (fun b k hk1 => hk b k (by simp [hk1])) q10
     simp only [RCs] at h4
     subst h4
     rw [List.append_nil] at hus
     subst hus
     have hown := hv.2.2.2 _ t' ys.length hob ⟨rfl, rfl, rfl⟩
     have hset : ys.set i x = ys.take i ++ (x :: ys.drop (i + 1)) := List.set_eq_take_append_cons_drop.trans (if_pos q6)
     have hel : ELs (Rd F' w t') t'.sz (ys.set i x) (p1 ++ u ++ p2) := by
      rw [hset, List.append_assoc]
      refine ELs.app (q8.toELs fun x u f hf r => Ow.rd r fun b hb => hk b o (by simp) (q12 b (by simp [hf b hb]))) ⟨u, p2, rfl, q7, h3, q9.toELs fun x u f hf r => Ow.rd r fun b hb => hk b o (by simp) (q12 b (by simp [hf b hb]))⟩
     exact seqO_rd q1 (hk b o (by simp) q2) (q5 ▸ At.of_block q3 q4) hel (by rw [List.length_set]; exact hown)
    ·cases h
  ·exact lc_rd hF hO h hk hv
 ·exact lc_rd hF hO h hk hv
theorem lcO_rd {F' : Nat → Prop} (hF : ∀ b, g.F b → F' b) (hO : ∀ o ob, H.at o = some ob → RO g H w o ob) {t : T} {c : C} {xs : List t.Den} {ks : List Nat} (h : lcO H t c = some (xs, ks)) (hk : ∀ b k, k ∈ ks → g.ow b = some k → F' b) {v : Value} (hv : RC g H w c v) : Rd F' w (.list t) xs [v] :=
 lcS_rd hF hO (lcS_rd hF hO fun h hk _ hv => lc_rd hF hO h hk hv) h hk hv
end
section
section
variable {g g1 g2 : Gh} {H H1 H2 : Heap} {w w1 w2 : World}
theorem Ge.trans (G : Ge g H w g1 H1 w1) (G' : Ge g1 H1 w1 g2 H2 w2) : Ge g H w g2 H2 w2 := by
 refine ⟨fun o h => G'.kn o (G.kn o h), fun o ob' hk h hb => ?_, fun o ob' t e n hk h hs => ?_, fun b h => ?_, fun b cur e fr h => ?_⟩
 ·obtain ⟨⟨ob1, h1, h2⟩, h3⟩ := G'.bx o ob' (G.kn o hk) h hb
  obtain ⟨h4, h5⟩ := G.bx o ob1 hk h1 h2
  exact ⟨h4, h3.trans h5⟩
 ·obtain ⟨ob1, h1, h2⟩ := G'.sq o ob' t e n (G.kn o hk) h hs
  rcases h2 with ⟨h2, h3⟩ | ⟨t', e', n', h2, h3⟩
  ·obtain ⟨ob0, h4, h5⟩ := G.sq o ob1 t e n hk h1 h2
   refine ⟨ob0, h4, ?_⟩
   rcases h5 with ⟨h5, h6⟩ | h5
   ·exact .inl ⟨h5, h3.trans h6⟩
   ·exact .inr h5
  ·obtain ⟨ob0, h4, h5⟩ := G.sq o ob1 t' e' n' hk h1 h2
   refine ⟨ob0, h4, .inr ?_⟩
   rcases h5 with ⟨h5, h6⟩ | ⟨t'', e'', n'', h5, h6⟩
   ·exact ⟨t', e', n', h5, h3⟩
   ·exact ⟨t'', e'', n'', h5, by omega⟩
 ·obtain ⟨h1, h2⟩ := G.F b h
  obtain ⟨h3, h4⟩ := G'.F b h1
  exact ⟨h3, h4.trans h2⟩
 ·obtain ⟨cur1, fr1, h1, h2⟩ := G.sz b cur e fr h
  obtain ⟨cur2, fr2, h3, h4⟩ := G'.sz b cur1 e fr1 h1
  exact ⟨cur2, fr2, h3, h4.trans h2⟩
theorem at_cons (K : Nat) (x : Option Obj) (H : Heap) (o : Nat) : Heap.at ((K, x) :: H) o = if K = o then x else H.at o := by
 unfold Heap.at
 rw [get_cons]
 by_cases h : K = o
 ·rw [if_pos h, if_pos h]
 ·rw [if_neg h, if_neg h]
theorem known_cons (K : Nat) (x : Option Obj) (H : Heap) (o : Nat) : known ((K, x) :: H) o ↔ K = o ∨ known H o := by
 unfold known
 rw [get_cons]
 by_cases h : K = o <;> simp [h]
theorem gone_at (d : Bool) : ∀ (ks : List Nat) (H' : Heap) (o : Nat), Heap.at (gone H d ks ++ H') o = if o ∈ ks then (if d = true then none else freeze H o) else H'.at o
 | [], H', o => by simp [gone]
 | k :: ks, H', o => by
  have ih := gone_at d ks H' o
  simp only [gone, List.map_cons, List.cons_append] at ih ⊢
  rw [at_cons, ih]
  by_cases h : k = o
  ·subst h; cases d <;> simp
  ·simp [h, Ne.symm h]
theorem gone_known (d : Bool) : ∀ (ks : List Nat) (H' : Heap) (o : Nat), known (gone H d ks ++ H') o ↔ o ∈ ks ∨ known H' o
 | [], H', o => by simp [gone]
 | k :: ks, H', o => by
  have ih := gone_known d ks H' o
  simp only [gone, List.map_cons, List.cons_append] at ih ⊢
  rw [known_cons, ih]
  simp [or_assoc, eq_comm]
def Rows (H : Heap) (ks : List Nat) : Prop := ∀ k ∈ ks, (∃ d t e xs, H.at k = some (.row d t e xs)) ∨ ∃ t e xs i cs, H.at k = some (.orow t e xs i cs)
theorem Rows.at {ks : List Nat} (h : Rows H ks) {k : Nat} (hk : k ∈ ks) : ∃ ob, H.at k = some ob := by
 rcases h k hk with ⟨d, t, e, xs, h⟩ | ⟨t, e, xs, i, cs, h⟩
 ·exact ⟨_, h⟩
 ·exact ⟨_, h⟩
theorem Rows.kn {ks : List Nat} (h : Rows H ks) {k : Nat} (hk : k ∈ ks) : known H k := by
 obtain ⟨ob, h⟩ := h.at hk
 exact known_of_at h
theorem freeze_orow {k : Nat} {t : T} {e : Nat} {xs : List t.Den} {i : Nat} {cs : List C} (h : H.at k = some (.orow t e xs i cs)) : freeze H k = none := by simp [freeze, h]
theorem freeze_row {k : Nat} {d : Bool} {t : T} {e : Nat} {xs : List t.Den} (h : H.at k = some (.row d t e xs)) : freeze H k = some (.fro t e xs) := by simp [freeze, h]
theorem lc_rows {t : T} {c : C} {xs : List t.Den} {ks : List Nat} (h : lc H t c = some (xs, ks)) : Rows H ks := by
 cases c with
 | own o e off =>
  simp only [lc] at h
  split at h
  ·rename_i d t' e' ys hob
   cases hb : Nat.beq e e' with
   | false => simp [hb] at h
   | true =>
    simp only [hb, cond_true, Option.map_eq_some_iff, Prod.mk.injEq] at h
    obtain ⟨zs, h1, rfl, rfl⟩ := h
    intro k hk
    simp only [List.mem_singleton] at hk
    subst hk
    exact .inl ⟨d, t', e', ys, hob⟩
  ·rename_i t' e' ys hob
   cases hb : Nat.beq e e' with
   | false => simp [hb] at h
   | true =>
    simp only [hb, cond_true, Option.map_eq_some_iff, Prod.mk.injEq] at h
    obtain ⟨zs, h1, rfl, rfl⟩ := h
    intro k hk; simp at hk
  ·cases h
 | lst t' ys =>
  simp only [lc, Option.map_eq_some_iff, Prod.mk.injEq] at h
  obtain ⟨zs, h1, rfl, rfl⟩ := h
  intro k hk; simp at hk
 | nil =>
  simp only [lc, Option.some.injEq, Prod.mk.injEq] at h
  obtain ⟨rfl, rfl⟩ := h
  intro k hk; simp at hk
 | _ => simp [lc] at h
theorem Rows.one {k : Nat} {t : T} {e : Nat} {xs : List t.Den} {i : Nat} {cs : List C} (h : H.at k = some (.orow t e xs i cs)) {ks : List Nat} (hr : Rows H ks) : Rows H (k :: ks) := by
 intro x hx
 rcases List.mem_cons.1 hx with rfl | hx
 ·exact .inr ⟨t, e, xs, i, cs, h⟩
 ·exact hr x hx
theorem Rows.app {ks ls : List Nat} (h : Rows H ks) (k : Rows H ls) : Rows H (ks ++ ls) := by
 intro x hx
 simp only [List.mem_append] at hx
 rcases hx with hx | hx
 ·exact h x hx
 ·exact k x hx
theorem dec_rows : ∀ {t : T} {cs : List C} {x : t.Den} {ks : List Nat} {rest : List C}, dec H t cs = some (x, ks, rest) → Rows H ks
 | .int k, cs, x, ks, rest, h => by
  cases cs with
  | nil => simp [dec] at h
  | cons c cs =>
   cases c <;> simp only [dec, reduceCtorEq] at h
   rename_i k' n
   cases hd : decide (k = k') <;> simp only [hd, cond_false, cond_true, reduceCtorEq, Option.some.injEq, Prod.mk.injEq] at h
   obtain ⟨rfl, rfl, rfl⟩ := h
   intro k hk; simp at hk
 | .bool, cs, x, ks, rest, h => by
  cases cs with
  | nil => simp [dec] at h
  | cons c cs =>
   cases c <;> simp only [dec, Option.some.injEq, Prod.mk.injEq, reduceCtorEq] at h
   obtain ⟨rfl, rfl, rfl⟩ := h
   intro k hk; simp at hk
 | .str, cs, x, ks, rest, h => by
  cases cs with
  | nil => simp [dec] at h
  | cons c cs =>
   cases c <;> simp only [dec, Option.some.injEq, Prod.mk.injEq, reduceCtorEq] at h
   obtain ⟨rfl, rfl, rfl⟩ := h
   intro k hk; simp at hk
 | .list t, cs, x, ks, rest, h => by
  cases cs with
  | nil => simp [dec] at h
  | cons c cs =>
   simp only [dec, Option.map_eq_some_iff, Prod.mk.injEq] at h
   obtain ⟨y, h1, rfl, rfl, rfl⟩ := h
   exact lc_rows h1
 | .pair a b, cs, x, ks, rest, h => by
  simp only [dec, Option.bind_eq_some_iff, Option.map_eq_some_iff, Prod.mk.injEq] at h
  obtain ⟨⟨x1, k1, r1⟩, h1, ⟨x2, k2, r2⟩, h2, rfl, rfl, rfl⟩ := h
  exact (dec_rows h1).app (dec_rows h2)
 | .unit, cs, x, ks, rest, h => by
  simp only [dec, Option.some.injEq, Prod.mk.injEq] at h
  obtain ⟨_, rfl, rfl⟩ := h
  intro k hk; simp at hk
theorem decW_rows {l : (t : T) → C → Option (List t.Den × List Nat)} (hl : ∀ {t : T} {c : C} {xs : List t.Den} {ks : List Nat}, l t c = some (xs, ks) → Rows H ks) : ∀ {t : T} {cs : List C} {x : t.Den} {ks : List Nat} {rest : List C}, decW l t cs = some (x, ks, rest) → Rows H ks
 | .int k, cs, x, ks, rest, h => by
  cases cs with
  | nil => simp [decW] at h
  | cons c cs =>
   cases c <;> simp only [decW, reduceCtorEq] at h
   rename_i k' n
   cases hd : decide (k = k') <;> simp only [hd, cond_false, cond_true, reduceCtorEq, Option.some.injEq, Prod.mk.injEq] at h
   obtain ⟨rfl, rfl, rfl⟩ := h
   intro k hk; simp at hk
 | .bool, cs, x, ks, rest, h => by
  cases cs with
  | nil => simp [decW] at h
  | cons c cs =>
   cases c <;> simp only [decW, Option.some.injEq, Prod.mk.injEq, reduceCtorEq] at h
   obtain ⟨rfl, rfl, rfl⟩ := h
   intro k hk; simp at hk
 | .str, cs, x, ks, rest, h => by
  cases cs with
  | nil => simp [decW] at h
  | cons c cs =>
   cases c <;> simp only [decW, Option.some.injEq, Prod.mk.injEq, reduceCtorEq] at h
   obtain ⟨rfl, rfl, rfl⟩ := h
   intro k hk; simp at hk
 | .list t, cs, x, ks, rest, h => by
  cases cs with
  | nil => simp [decW] at h
  | cons c cs =>
   simp only [decW, Option.map_eq_some_iff, Prod.mk.injEq] at h
   obtain ⟨y, h1, rfl, rfl, rfl⟩ := h
   exact hl h1
 | .pair a b, cs, x, ks, rest, h => by
  simp only [decW, Option.bind_eq_some_iff, Option.map_eq_some_iff, Prod.mk.injEq] at h
  obtain ⟨⟨x1, k1, r1⟩, h1, ⟨x2, k2, r2⟩, h2, rfl, rfl, rfl⟩ := h
  exact (decW_rows hl h1).app (decW_rows hl h2)
 | .unit, cs, x, ks, rest, h => by
  simp only [decW, Option.some.injEq, Prod.mk.injEq] at h
  obtain ⟨_, rfl, rfl⟩ := h
  intro k hk; simp at hk
theorem lcS_rows {l : (t : T) → C → Option (List t.Den × List Nat)} (hl : ∀ {t : T} {c : C} {xs : List t.Den} {ks : List Nat}, l t c = some (xs, ks) → Rows H ks) {t : T} {c : C} {xs : List t.Den} {ks : List Nat} (h : lcS l H t c = some (xs, ks)) : Rows H ks := by
 unfold lcS at h
 split at h
 ·split at h
  ·rename_i o e off _ t' e' ys i cs hob
   cases hb : Nat.beq e e' with
   | false => simp [hb] at h
   | true =>
    simp only [hb, cond_true] at h
    split at h
    ·rename_i x ks' hdec
     simp only [Option.map_eq_some_iff, Prod.mk.injEq] at h
     obtain ⟨zs, h1, rfl, rfl⟩ := h
     exact Rows.one hob (decW_rows hl hdec)
    ·cases h
  ·exact lc_rows h
 ·exact lc_rows h
theorem lcO_rows {t : T} {c : C} {xs : List t.Den} {ks : List Nat} (h : lcO H t c = some (xs, ks)) : Rows H ks := lcS_rows (lcS_rows lc_rows) h
open Classical in
noncomputable def Gh.take (g : Gh) (d : Bool) (K : Nat) (ks : List Nat) : Gh where
 blk := g.blk
 ow := fun b => match g.ow b with
  | some k => if k ∈ ks then (if d = true then some K else none) else some k
  | none => none
 F := fun b => g.F b ∨ (d = false ∧ ∃ k ∈ ks, g.ow b = some k)
theorem take_ow {d : Bool} {K : Nat} {ks : List Nat} {b o : Nat} (h : (g.take d K ks).ow b = some o) : (g.ow b = some o ∧ o ∉ ks) ∨ (d = true ∧ o = K ∧ ∃ k ∈ ks, g.ow b = some k) := by
 simp only [Gh.take] at h
 split at h
 ·rename_i k hk
  split at h
  ·rename_i hm
   cases d
   ·simp at h
   ·simp only [if_true, Option.some.injEq] at h
    exact .inr ⟨rfl, h.symm, k, hm, hk⟩
  ·rename_i hm
   simp only [Option.some.injEq] at h
   subst h; exact .inl ⟨hk, hm⟩
 ·cases h
theorem take_keep {d : Bool} {K : Nat} {ks : List Nat} {b o : Nat} (h : g.ow b = some o) (ho : o ∉ ks) : (g.take d K ks).ow b = some o := by simp [Gh.take, h, ho]
theorem take_deep {K : Nat} {ks : List Nat} {b k : Nat} (h : g.ow b = some k) (hk : k ∈ ks) : (g.take true K ks).ow b = some K := by simp [Gh.take, h, hk]
theorem take_ge {d : Bool} {K : Nat} {ks : List Nat} (hr : Rows H ks) : Ge g H w (g.take d K ks) (gone H d ks ++ H) w := by
 refine ⟨fun o h => (gone_known d ks H o).2 (.inr h), fun o ob' hk h hb => ?_, fun o ob' t e n hk h hs => ?_, fun b h => ⟨.inl h, rfl⟩, fun b cur e fr h => ⟨cur, fr, h, rfl⟩⟩
 ·rw [gone_at] at h
  split at h
  ·rename_i hm
   cases d
   ·rcases hr o hm with ⟨d', t, e, xs, h1⟩ | ⟨t, e, xs, i, cs, h1⟩
    ·simp [freeze_row h1] at h; subst h; simp [Obj.isBox] at hb
    ·simp [freeze_orow h1] at h
   ·simp at h
  ·exact ⟨⟨ob', h, hb⟩, rfl⟩
 ·rw [gone_at] at h
  split at h
  ·rename_i hm
   cases d
   ·rcases hr o hm with ⟨d', t', e', xs, h1⟩ | ⟨t', e', xs, i, cs, h1⟩
    ·simp [freeze_row h1] at h; subst h; exact ⟨_, h1, .inl ⟨hs, rfl⟩⟩
    ·simp [freeze_orow h1] at h
   ·simp at h
  ·exact ⟨ob', h, .inl ⟨hs, rfl⟩⟩
theorem take_ro {d : Bool} {K : Nat} {ks : List Nat} (hr : Rows H ks) (hO : ∀ o ob, H.at o = some ob → o ≠ K ∨ o ∈ ks → RO g H w o ob) : ∀ o ob, Heap.at (gone H d ks ++ H) o = some ob → o ≠ K ∨ o ∈ ks → RO (g.take d K ks) (gone H d ks ++ H) w o ob := by
 intro o ob h hoK
 have G := take_ge (g := g) (w := w) (d := d) (K := K) hr
 rw [gone_at] at h
 split at h
 ·rename_i hm
  cases d
  ·rcases hr o hm with ⟨d', t, e, xs, h1⟩ | ⟨t, e, xs, i, cs, h1⟩
   ·simp [freeze_row h1] at h; subst h
    have h2 := hO o _ h1 (.inr hm)
    simp only [RO, Gh.take] at h2 ⊢
    split <;> rename_i hb <;> simp only [hb] at h2
    ·exact h2
    ·obtain ⟨cur, ty, pre, us, post, fp, k1, k2, k3, k4, k5, k6, k7⟩ := h2
     refine ⟨us, ?_, k4 ▸ At.of_block k2 k3, k5.toELs fun x u f hf r => r.rd (fun b hb => Or.inl hb) fun b hb => ?_⟩
     ·exact Or.inr (by simpa using ⟨o, hm, k1⟩)
     ·exact Or.inr (by simpa using ⟨o, hm, k7 b (hf b hb)⟩)
   ·simp [freeze_orow h1] at h
  ·simp at h
 ·rename_i hm
  exact G.ro rfl (fun b hb => ⟨take_keep hb hm, rfl⟩) (hO o ob h (hoK.imp id fun h' => absurd h' hm))
/-- One object is made or changed. -/
theorem put_ro {K : Nat} {ob' : Obj} (hO : ∀ o ob, H1.at o = some ob → o ≠ K → RO g1 H1 w1 o ob) (G : Ge g1 H1 w1 g2 ((K, some ob') :: H1) w2) (hblk : ∀ o, o ≠ K → g2.blk o = g1.blk o) (how : ∀ o, o ≠ K → ∀ b, g1.ow b = some o → g2.ow b = some o ∧ w2.heap[b]? = w1.heap[b]?)
  (hK : RO g2 ((K, some ob') :: H1) w2 K ob') : ∀ o ob, Heap.at ((K, some ob') :: H1) o = some ob → RO g2 ((K, some ob') :: H1) w2 o ob := by
 intro o ob h
 rw [at_cons] at h
 split at h
 ·rename_i e
  simp only [Option.some.injEq] at h
  subst h; subst e; exact hK
 ·rename_i e
  exact G.ro (hblk o (Ne.symm e)) (how o (Ne.symm e)) (hO o ob h (Ne.symm e))
/-- A new object, with a new block or with none. -/
theorem new_ge {K : Nat} {ob' : Obj} (hK : ¬ known H1 K) (hb : ∀ o, o ≠ K → g2.blk o = g1.blk o) (hF : ∀ b, g1.F b → g2.F b ∧ w2.heap[b]? = w1.heap[b]?) (hs : ∀ (b : Nat) (cur : Array Value) (e : TypeId) (fr : Nat × Nat), w1.heap[b]? = some (Go.Obj.cells cur e fr) → w2.heap[b]? = some (Go.Obj.cells cur e fr)) :
  Ge g1 H1 w1 g2 ((K, some ob') :: H1) w2 := by
 refine ⟨fun o h => (known_cons K _ H1 o).2 (.inr h), fun o ob hk h hb' => ?_, fun o ob t e n hk h hs' => ?_, hF, fun b cur e fr h => ⟨cur, fr, hs b cur e fr h, rfl⟩⟩
 ·have hne : o ≠ K := fun e => hK (e ▸ hk)
  rw [at_cons, if_neg (Ne.symm hne)] at h
  exact ⟨⟨ob, h, hb'⟩, hb o hne⟩
 ·have hne : o ≠ K := fun e => hK (e ▸ hk)
  rw [at_cons, if_neg (Ne.symm hne)] at h
  exact ⟨ob, h, .inl ⟨hs', hb o hne⟩⟩
theorem fresh_spec {K : Nat} (h : fresh H K = true) : ¬ known H K := by
 unfold fresh at h; unfold known
 cases hg : get H K <;> simp [hg] at h ⊢
open Classical in
noncomputable def Gh.new (g : Gh) (K nb : Nat) : Gh where
 blk := fun o => if o = K then some (nb, 0) else g.blk o
 ow := fun b => if b = nb then some K else g.ow b
 F := g.F
open Classical in
noncomputable def Gh.new0 (g : Gh) (K : Nat) : Gh where
 blk := fun o => if o = K then none else g.blk o
 ow := g.ow
 F := g.F
theorem alloc_ext (own : Nat → Prop) (w : World) (o : Go.Obj) : Ext own w (w.alloc o) := ⟨rfl, rfl, rfl, by simp, fun b hb _ => heap_alloc_old w o hb⟩
theorem drew_ext (own : Nat → Prop) (w : World) : Ext own w w.drew := ⟨rfl, rfl, rfl, Nat.le_refl _, fun b hb _ => rfl⟩
theorem heap_lt {w : World} {b : Nat} {o : Go.Obj} (h : w.heap[b]? = some o) : b < w.heap.size := (Array.getElem?_eq_some_iff.1 h).1
end
end
section
variable {P : Program} {tab : Tab} {B : Base} {g : Gh} {env : Env} {H : Heap} {a : Act} {w : World} {o : Oper}
theorem RCs.of_get : ∀ {cs : List C} {vs : List Value}, vs.length = cs.length → (∀ (j : Nat) (c : C), cs[j]? = some c → ∃ v, vs[j]? = some v ∧ RC g H w c v) → RCs g H w cs vs
 | [], vs, hl, _ => by simpa [RCs] using hl
 | c :: cs, [], hl, _ => by simp at hl
 | c :: cs, v :: vs, hl, h => by
  obtain ⟨u, h1, h2⟩ := h 0 c rfl
  simp only [List.getElem?_cons_zero, Option.some.injEq] at h1
  subst h1
  exact ⟨v, vs, rfl, h2, RCs.of_get (by simpa using hl) fun j c' hc => by simpa using h (j + 1) c' (by simpa using hc)⟩
theorem ow_cells : ∀ {t : T} {x : t.Den} {us : List Value} {f : List Nat}, Ow w t x us f → (cellsOf t x).length = us.length ∧ ∀ (j : Nat) (c : C), (cellsOf t x)[j]? = some c → isLstC c = false → ∃ v, us[j]? = some v ∧ RC g H w c v
 | .int k, x, us, f, h => by
  obtain ⟨rfl, _⟩ := h
  refine ⟨rfl, fun j c hc _ => ?_⟩
  cases j with
  | zero => simp only [cellsOf, List.getElem?_cons_zero, Option.some.injEq] at hc; subst hc; exact ⟨_, rfl, rfl, rfl⟩
  | succ j => simp [cellsOf] at hc
 | .bool, x, us, f, h => by
  obtain ⟨rfl, _⟩ := h
  refine ⟨rfl, fun j c hc _ => ?_⟩
  cases j with
  | zero => simp only [cellsOf, List.getElem?_cons_zero, Option.some.injEq] at hc; subst hc; exact ⟨_, rfl, rfl, rfl⟩
  | succ j => simp [cellsOf] at hc
 | .str, x, us, f, h => by
  obtain ⟨rfl, _⟩ := h
  refine ⟨rfl, fun j c hc _ => ?_⟩
  cases j with
  | zero => simp only [cellsOf, List.getElem?_cons_zero, Option.some.injEq] at hc; subst hc; exact ⟨_, rfl, rfl, rfl⟩
  | succ j => simp [cellsOf] at hc
 | .list t, x, us, f, h => by
  refine ⟨by rw [Ow.length h]; rfl, fun j c hc hl => ?_⟩
  cases j with
  | zero => simp only [cellsOf, List.getElem?_cons_zero, Option.some.injEq] at hc; subst hc; simp [isLstC] at hl
  | succ j => simp [cellsOf] at hc
 | .pair a b, x, us, f, ⟨u1, u2, f1, f2, e1, e2, h1, h2⟩ => by
  obtain ⟨l1, k1⟩ := ow_cells h1
  obtain ⟨l2, k2⟩ := ow_cells h2
  subst e1
  refine ⟨by simp [cellsOf, l1, l2], fun j c hc hl => ?_⟩
  simp only [cellsOf] at hc
  rcases Nat.lt_or_ge j u1.length with hj | hj
  ·rw [List.getElem?_append_left (by omega)] at hc
   obtain ⟨v, hv, hr⟩ := k1 j c hc hl
   exact ⟨v, by rw [List.getElem?_append_left hj]; exact hv, hr⟩
  ·rw [List.getElem?_append_right (by omega), l1] at hc
   obtain ⟨v, hv, hr⟩ := k2 _ c hc hl
   exact ⟨v, by rw [List.getElem?_append_right hj]; exact hv, hr⟩
 | .unit, x, us, f, h => by
  obtain ⟨rfl, _⟩ := h
  exact ⟨rfl, fun j c hc _ => by simp [cellsOf] at hc⟩
theorem run_load {t : TypeId} {i : TI} (hT : TyOK P tab t i) {b p : Nat} {us : List Value} (hA : At w b p us) (hl : us.length = i.sz) :
  ∃ cv, (Instr.loadAt t (.pointer (some ⟨b, p, none⟩))).run P w = .ok cv w ∧ ∀ (g : Gh) (H : Heap) (r : List C), RCs g H w r us → RVal g H w i.agg r cv := by
 obtain ⟨d, h1, h2⟩ := hT.und
 obtain ⟨inf, z, h3, h4, _⟩ := hT.info
 cases hag : i.agg with
 | true =>
  refine ⟨.agg us.toArray, run_loadAt_mid w b p t us d hA h1 (by rw [hag] at h2; exact h2) (by simp [h3, h4, hl]), fun g H r hr => ?_⟩
  simp only [RVal, if_true]
  exact ⟨_, rfl, by simpa using hr⟩
 | false =>
  have h5 := hT.one hag
  obtain ⟨u, rfl⟩ : ∃ u, us = [u] := by
   match us, hl with
   | [u], _ => exact ⟨u, rfl⟩
   | [], hl => simp [h5] at hl
   | _ :: _ :: _, hl => simp [h5] at hl
  have h6 := hA 0 u rfl
  refine ⟨u, ?_, fun g H r hr => by simpa [RVal] using hr⟩
  have h7 : (isAgg t).run P w = .ok false w := by
   unfold isAgg
   rw [Sem.run_bind, run_underlying h1 w]
   rw [hag] at h2
   cases d <;> simp_all
  simp only [Nat.add_zero] at h6
  simp [Instr.loadAt, Instr.sureAddr, loadVar, h7, h6]
theorem behind_sound (hO : ∀ o ob, H.at o = some ob → RO g H w o ob) {c : C} {off : Nat} {cs : List C} {q : Bool} (h : behind H c = some (q, off, cs)) (hq : q = true) {v : Value} (hv : RC g H w c v) :
  q = true ∧ ∃ bk p us, v = .pointer (some ⟨bk, p + off, none⟩) ∧ At w bk p us ∧
   ((RCs g H w cs us ∧ ∀ r, thawless H c r = []) ∨ ∃ k e i t xs, c = .pel k e [] i off ∧ H.at k = some (.row true t e xs) ∧ cs = cellsOf t (xs.getD i t.dflt) ∧ ∃ f, Ow w t (xs.getD i t.dflt) us f ∧ ∀ b ∈ f, g.ow b = some k) := by
 cases c with
 | ptr k off' =>
  simp only [behind] at h
  split at h
  ·rename_i cs' hk
   simp only [Option.some.injEq, Prod.mk.injEq] at h
   obtain ⟨rfl, rfl, rfl⟩ := h
   obtain ⟨b, h1, h2⟩ := hv.2.2 _ hk rfl
   obtain ⟨b', cur, e, k1, k2, k3, k4⟩ := hO k _ hk
   rw [h1] at k1
   simp only [Option.some.injEq, Prod.mk.injEq, and_true] at k1
   subst k1
   exact ⟨rfl, b, 0, cur.toList, by simpa using h2, At.of_block (pre := []) (post := []) k3 (by simp), .inl ⟨k4, fun r => rfl⟩⟩
  ·rename_i cs' hk
   simp only [Option.some.injEq, Prod.mk.injEq] at h
   obtain ⟨rfl, rfl, rfl⟩ := h
   obtain ⟨b, h1, h2⟩ := hv.2.2 _ hk rfl
   obtain ⟨b', cur, e, fr, k1, k2, k3, k4⟩ := hO k _ hk
   rw [h1] at k1
   simp only [Option.some.injEq, Prod.mk.injEq, and_true] at k1
   subst k1
   exact ⟨rfl, b, 0, cur.toList, by simpa using h2, At.of_block (pre := []) (post := []) k3 (by simp), .inl ⟨k4, fun r => rfl⟩⟩
  ·cases h
 | at_ t x off' =>
  simp only [behind, Option.some.injEq, Prod.mk.injEq] at h
  obtain ⟨rfl, rfl, rfl⟩ := h
  obtain ⟨b, o', us, h1, h2, h3, h4⟩ := hv.2
  exact ⟨rfl, b, o', us, h1, h3, .inl ⟨rcs_cells h4, fun r => rfl⟩⟩
 | pel k e p i off' =>
  cases p with
  | cons _ _ => simp [behind] at h
  | nil =>
   simp only [behind] at h
   split at h
   ·rename_i d t e' xs hk
    cases hb : Nat.beq e e' with
    | false => simp [hb] at h
    | true =>
     simp only [hb, cond_true, Option.some.injEq, Prod.mk.injEq] at h
     obtain ⟨rfl, rfl, rfl⟩ := h
     have he := Nat.eq_of_beq_eq_true hb
     subst he
     obtain ⟨h1, b, s, h2, h3⟩ := hv.2.2.2 rfl _ t _ hk ⟨rfl, rfl, rfl⟩
     have h4 := hO k _ hk
     simp only [RO, h2] at h4
     obtain ⟨cur, ty, pre, us, post, fp, k1, k2, k3, k4, k5, k6, k7⟩ := h4
     obtain ⟨pre', u, post', f, gg, f', e1, e2, e3, e4, e5, _⟩ := k5.at i (xs.getD i t.dflt) (by simp [List.getD_eq_getElem?_getD, List.getElem?_eq_getElem h1])
     have hAt : At w b ((s + i) * t.sz) u := by
      have := At.of_block (b := b) k2 (pre := pre ++ pre') (us := u) (post := post' ++ post) (by rw [k3, e1]; simp [List.append_assoc])
      rwa [List.length_append, k4, e3, ← Nat.add_mul] at this
     refine ⟨rfl, b, (s + i) * t.sz, u, h3, hAt, ?_⟩
     cases d with
     | false =>
      have : Rd g.F w t (xs.getD i t.dflt) u := by simpa [El] using e5.rd (fun b hb => hb) (by
       have : gg = [] := by have := e5; unfold El at this; simp at this; exact this.2
       simp [this])
      exact .inl ⟨rcs_cells this, fun r => by simp [thawless, hk]⟩
     | true =>
      exact .inr ⟨k, e, i, t, xs, rfl, hk, rfl, gg, by simpa [El] using e5, fun b' hb' => k7 b' (by rw [e2]; simp [hb'])⟩
   ·rename_i t e' xs hk
    cases hb : Nat.beq e e' with
    | false => simp [hb] at h
    | true =>
     simp only [hb, cond_true, Option.some.injEq, Prod.mk.injEq] at h
     obtain ⟨rfl, rfl, rfl⟩ := h
     have he := Nat.eq_of_beq_eq_true hb
     subst he
     obtain ⟨h1, b, s, h2, h3⟩ := hv.2.2.2 rfl _ t _ hk ⟨rfl, rfl, rfl⟩
     have h4 := hO k _ hk
     simp only [RO, h2] at h4
     obtain ⟨us, k1, k2, k3⟩ := h4
     obtain ⟨pre', u, post', e1, e2, e3, e4⟩ := k3.nth h1 t.dflt
     have hAt : At w b ((s + i) * t.sz) u := by
      rw [e1, List.append_assoc] at k2
      have := k2.app.2.app.1
      rwa [e2, ← Nat.add_mul] at this
     exact ⟨rfl, b, (s + i) * t.sz, u, h3, hAt, .inl ⟨rcs_cells e4, fun r => by simp [thawless, hk]⟩⟩
   ·rename_i t e' xs j cs' hk
    cases hb : Nat.beq e e' with
    | false => simp [hb] at h
    | true =>
     simp only [hb, cond_true, Option.some.injEq, Prod.mk.injEq] at h
     obtain ⟨rfl, rfl, rfl⟩ := h
     have hij : i = j := of_decide_eq_true hq
     subst hij
     have he := Nat.eq_of_beq_eq_true hb
     subst he
     obtain ⟨h1, b, s, h2, h3⟩ := hv.2.2.2 rfl _ t _ hk ⟨rfl, rfl, rfl⟩
     obtain ⟨b', s', cur, ty, pre, p1, u, p2, post, f1, f2, q1, q2, q3, q4, q5, q6, q7, q8, q9, q10, q11, q12⟩ := hO k _ hk
     rw [h2] at q1
     simp only [Option.some.injEq, Prod.mk.injEq] at q1
     obtain ⟨rfl, rfl⟩ := q1
     have hp1 := q8.length
     rw [List.length_take, Nat.min_eq_left (Nat.le_of_lt q6)] at hp1
     have hAt : At w b ((s + i) * t.sz) u := by
      have := At.of_block (b := b) q3 (pre := pre ++ p1) (us := u) (post := p2 ++ post) (by rw [q4]; simp [List.append_assoc])
      rwa [List.length_append, q5, hp1, ← Nat.add_mul] at this
     exact ⟨hq, b, (s + i) * t.sz, u, h3, hAt, .inl ⟨q10, fun r => by simp [thawless, hk]⟩⟩
   ·cases h
 | _ => simp [behind] at h
theorem cut_spec {off n : Nat} {cs r : List C} (h : cut off n cs = some r) : off + n ≤ cs.length ∧ r = (cs.drop off).take n := by
 unfold cut at h
 cases hb : Nat.ble (off + n) cs.length with
 | false => simp [hb] at h
 | true => simp only [hb, cond_true, Option.some.injEq] at h; exact ⟨Nat.le_of_ble_eq_true hb, h.symm⟩
theorem At.sub {b p : Nat} {us : List Value} (h : At w b p us) (off n : Nat) (hl : off + n ≤ us.length) : At w b (p + off) ((us.drop off).take n) := by
 have e : us = us.take off ++ ((us.drop off).take n ++ (us.drop off).drop n) := by rw [List.take_append_drop, List.take_append_drop]
 rw [e] at h
 have := h.app.2.app.1
 rwa [List.length_take, Nat.min_eq_left (by omega)] at this
theorem Rel.heap {B : Base} {g g' : Gh} {env : Env} {H H' : Heap} {a : Act} {w w' : World} {o : Oper} {v : V} {cv : Value} (R : Rel B g env H a w) (G : Ge g H w g' H' w') (hd : ∀ d, o.dst = some d → d < B.n)
  (hv : RV g' H' w' v cv) (hO : ∀ o ob, H'.at o = some ob → RO g' H' w' o ob) (hx : Ext (fun b => g.ow b ≠ none) w w') (hF : ∀ b, g'.F b → b < w'.heap.size ∧ (g.F b ∨ g.ow b ≠ none ∨ w.heap.size ≤ b))
  (ho : ∀ b o, g'.ow b = some o → ¬ g'.F b ∧ b < w'.heap.size ∧ (g.ow b ≠ none ∨ w.heap.size ≤ b))
  (hn : ∀ j, j < 100 → known H' j → known H j) : Rel B g' (setD o v env) H' (a.put o.dst cv) w' :=
 R.step G hd hv ⟨hO, fun b o h => ⟨(ho b o h).1, (ho b o h).2.1⟩, fun b h => (hF b h).1, R.lx.mono G.F⟩ hx (fun b h => (hF b h).2) (fun b o h => (ho b o h).2.2) hn
/-- What 'take' does to the ghosts. -/
theorem take_F {d : Bool} {K : Nat} {ks : List Nat} (R : RelG g H w) {b : Nat} (h : (g.take d K ks).F b) : b < w.heap.size ∧ (g.F b ∨ g.ow b ≠ none ∨ w.heap.size ≤ b) := by
 rcases h with h | ⟨_, k, hk, h⟩
 ·exact ⟨R.F b h, .inl h⟩
 ·exact ⟨(R.ow b k h).2, .inr (.inl (by rw [h]; simp))⟩
theorem take_O {d : Bool} {K : Nat} {ks : List Nat} (R : RelG g H w) {b o : Nat} (h : (g.take d K ks).ow b = some o) : ¬ (g.take d K ks).F b ∧ b < w.heap.size ∧ (g.ow b ≠ none ∨ w.heap.size ≤ b) := by
 rcases take_ow h with ⟨h1, h2⟩ | ⟨hd, rfl, k, hk, h1⟩
 ·refine ⟨?_, (R.ow b o h1).2, .inl (by rw [h1]; simp)⟩
  rintro (h3 | ⟨_, k, hk, h3⟩)
  ·exact (R.ow b o h1).1 h3
  ·rw [h1] at h3; simp only [Option.some.injEq] at h3; exact h2 (h3 ▸ hk)
 ·refine ⟨?_, (R.ow b k h1).2, .inl (by rw [h1]; simp)⟩
  rintro (h3 | ⟨h4, _⟩)
  ·exact (R.ow b k h1).1 h3
  ·rw [hd] at h4; cases h4
theorem ok_load (hT : TabOK P tab) (R : Rel B g env H a w) (hd : ∀ d, o.dst = some d → d < B.n) {t : TypeId} {x : Operand} (ho : o.op = .load t x) {i : TI} (hi : get tab t = some i) {c : C} (hx : (ev env x).bind V.one = some c) {q : Bool} {off : Nat} {cs r : List C}
  (hb : behind H c = some (q, off, cs)) (hq : q = true) (hc : cut off i.sz cs = some r) : OpOK P B g env H a w o (.val i.agg r) (thawless H c r) := by
 have hv := R.ev1 hx
 obtain ⟨_, bk, p, us, h1, h2, h3⟩ := behind_sound R.obj hb hq hv
 obtain ⟨h4, h5⟩ := cut_spec hc
 have fin : ∀ (g' : Gh) (H' : Heap) (hl : us.length = cs.length), RCs g' H' w r ((us.drop off).take i.sz) → ∃ cv, (execOp a.eval o).run P w = .ok (.value cv) w ∧ RV g' H' w (.val i.agg r) cv := by
  intro g' H' hl hr
  obtain ⟨cv, h6, h7⟩ := run_load (P := P) (hT t i hi) (h2.sub off i.sz (by omega)) (by simp; omega)
  refine ⟨cv, ?_, h7 g' H' r hr⟩
  simp only [execOp, ho, h1, Sem.run_bind, h6, Result.andThen_ok, Sem.run_pure]
 rcases h3 with ⟨h3, h3'⟩ | ⟨k, e, j, ty, xs, rfl, hk, rfl, f, hf, hf'⟩
 ·rw [h3' r]
  obtain ⟨cv, h6, h7⟩ := fin g H h3.length (h5 ▸ (h3.drop off).take i.sz)
  exact OpOK.pure R hd h6 h7
 ·obtain ⟨hl, hcell⟩ := ow_cells (g := g) (H := H) hf
  cases ha : r.any isLstC with
  | false =>
   have : thawless H (.pel k e [] j off) r = [] := by simp [thawless, hk, ha]
   rw [this]
   obtain ⟨cv, h6, h7⟩ := fin g H hl.symm (RCs.of_get (by rw [h5, List.length_take, List.length_take, List.length_drop, List.length_drop, hl]) fun n c hc => by
    have hcl : isLstC c = false := by
     rw [List.any_eq_false] at ha
     simpa using ha c (List.mem_of_getElem? hc)
    rw [h5] at hc
    have hn : n < i.sz := by
     rcases Nat.lt_or_ge n i.sz with h | h
     ·exact h
     ·rw [List.getElem?_eq_none (by simp; omega)] at hc; cases hc
    rw [List.getElem?_take_of_lt hn, List.getElem?_drop] at hc
    obtain ⟨v, hv1, hv2⟩ := hcell _ c hc hcl
    exact ⟨v, by rw [List.getElem?_take_of_lt hn, List.getElem?_drop]; exact hv1, hv2⟩)
   exact OpOK.pure R hd h6 h7
  | true =>
   have he : thawless H (.pel k e [] j off) r = gone H false [k] := by simp [thawless, hk, ha, gone, freeze]
   rw [he]
   have hr : Rows H [k] := by
    intro k' hk'
    simp only [List.mem_singleton] at hk'
    subst hk'
    exact .inl ⟨true, ty, e, xs, hk⟩
   have G := take_ge (g := g) (w := w) (d := false) (K := k) hr
   have hrd : Rd (g.take false k [k]).F w ty (xs.getD j ty.dflt) us := Ow.rd hf fun b hb => .inr ⟨rfl, k, by simp, hf' b hb⟩
   have hcs := rcs_cells (H := gone H false [k] ++ H) (g := g.take false k [k]) hrd
   obtain ⟨cv, h6, h7⟩ := fin (g.take false k [k]) (gone H false [k] ++ H) hl.symm (h5 ▸ (hcs.drop off).take i.sz)
   refine ⟨.value cv, cv, g.take false k [k], w, h6, .inl rfl, R.heap G hd h7 ?_ (Ext.refl _ _) (fun b h => take_F R.toRelG h) (fun b o h => take_O R.toRelG h) ?_⟩
   ·intro o' ob h
    refine take_ro hr (fun o ob h _ => R.obj o ob h) o' ob h ?_
    by_cases hh : o' = k
    ·exact .inr (by simp [hh])
    ·exact .inl hh
   ·intro j' _ h
    rcases (gone_known _ _ _ _).1 h with h | h
    ·simp only [List.mem_singleton] at h
     subst h; exact known_of_at hk
    ·exact h
end
section
variable {P : Program} {tab : Tab} {B : Base} {g : Gh} {env : Env} {H : Heap} {a : Act} {w : World} {o : Oper}
theorem new_sz {w : World} {ob : Go.Obj} (b : Nat) (cur : Array Value) (e : TypeId) (fr : Nat × Nat) (h : w.heap[b]? = some (Go.Obj.cells cur e fr)) : (w.alloc ob).heap[b]? = some (Go.Obj.cells cur e fr) := (heap_alloc_old w ob (heap_lt h)).trans h
/-- A new object K in a new block; some rows are taken with it. -/
theorem new_rel (R : Rel B g env H a w) (hd : ∀ d, o.dst = some d → d < B.n) {d : Bool} {K : Nat} {ks : List Nat} (hK : ¬ known H K) (hKk : 100 ≤ K) (hr : Rows H ks) {cells : Array Value} {ty : TypeId} {ob : Obj} {v : V} {cv : Value}
  (hro : RO ((g.take d K ks).new K w.heap.size) ((K, some ob) :: (gone H d ks ++ H)) (w.alloc (.cells cells ty)) K ob)
  (hv : RV ((g.take d K ks).new K w.heap.size) ((K, some ob) :: (gone H d ks ++ H)) (w.alloc (.cells cells ty)) v cv) : ∃ g', Rel B g' (setD o v env) (((K, some ob) :: gone H d ks) ++ H) (a.put o.dst cv) (w.alloc (.cells cells ty)) := by
 have hKks : K ∉ ks := fun h => hK (hr.kn h)
 have G1 := take_ge (g := g) (w := w) (d := d) (K := K) hr
 have hK1 : ¬ known (gone H d ks ++ H) K := fun h => by
  rcases (gone_known d ks H K).1 h with h | h
  ·exact hKks h
  ·exact hK h
 have hlt : ∀ b o, (g.take d K ks).ow b = some o → b < w.heap.size := fun b o h => (take_O (d := d) (K := K) (ks := ks) R.toRelG h).2.1
 have G2 : Ge (g.take d K ks) (gone H d ks ++ H) w ((g.take d K ks).new K w.heap.size) ((K, some ob) :: (gone H d ks ++ H)) (w.alloc (.cells cells ty)) :=
  new_ge hK1 (fun o ho => by simp [Gh.new, ho]) (fun b hb => ⟨hb, heap_alloc_old w _ (take_F (d := d) (K := K) (ks := ks) R.toRelG hb).1⟩) new_sz
 refine ⟨(g.take d K ks).new K w.heap.size, R.heap (G1.trans G2) hd hv ?_ (alloc_ext _ _ _) ?_ ?_ ?_⟩
 ·refine put_ro (g1 := g.take d K ks) (w1 := w) (fun o' ob' h hne => take_ro hr (fun o ob h _ => R.obj o ob h) o' ob' h (.inl hne)) G2 (fun o ho => by simp [Gh.new, ho]) (fun o' ho b hb => ⟨?_, heap_alloc_old w _ (hlt b o' hb)⟩) hro
  have hb' := hlt b o' hb
  simp only [Gh.new]
  rw [if_neg (by omega)]; exact hb
 ·intro b h
  obtain ⟨h1, h2⟩ := take_F (d := d) (K := K) (ks := ks) R.toRelG h
  exact ⟨by simp; omega, h2⟩
 ·intro b o' h
  simp only [Gh.new] at h
  split at h
  ·rename_i e
   subst e
   refine ⟨fun h => ?_, by simp, .inr (Nat.le_refl _)⟩
   have := (take_F (d := d) (K := K) (ks := ks) R.toRelG h).1; omega
  ·obtain ⟨h1, h2, h3⟩ := take_O (d := d) (K := K) (ks := ks) R.toRelG h
   exact ⟨h1, by simp; omega, h3⟩
 ·intro j hj h
  rcases (known_cons K _ _ j).1 h with h | h
  ·omega
  ·rcases (gone_known d ks H j).1 h with h | h
   ·exact hr.kn h
   ·exact h
theorem new_ok (R : Rel B g env H a w) (hd : ∀ d, o.dst = some d → d < B.n) {d : Bool} {K : Nat} {ks : List Nat} (hK : ¬ known H K) (hKk : 100 ≤ K) (hr : Rows H ks) {cells : Array Value} {ty : TypeId} {ob : Obj} {v : V} {cv : Value}
  (hrun : (execOp a.eval o).run P w = .ok (.value cv) (w.alloc (.cells cells ty)))
  (hro : RO ((g.take d K ks).new K w.heap.size) ((K, some ob) :: (gone H d ks ++ H)) (w.alloc (.cells cells ty)) K ob)
  (hv : RV ((g.take d K ks).new K w.heap.size) ((K, some ob) :: (gone H d ks ++ H)) (w.alloc (.cells cells ty)) v cv) : OpOK P B g env H a w o v ((K, some ob) :: gone H d ks) := by
 obtain ⟨g', h⟩ := new_rel R hd hK hKk hr hro hv
 exact ⟨.value cv, cv, g', _, hrun, .inl rfl, h⟩
/-- A new object K without a block: an empty row. -/
theorem new0_ok (R : Rel B g env H a w) (hd : ∀ d, o.dst = some d → d < B.n) {d d' : Bool} {K : Nat} {ks : List Nat} (hK : ¬ known H K) (hKk : 100 ≤ K) (hr : Rows H ks) {t : T} {e : Nat} {v : V} {cv : Value}
  (hrun : (execOp a.eval o).run P w = .ok (.value cv) w)
  (hv : RV ((g.take d K ks).new0 K) ((K, some (.row d' t e [])) :: (gone H d ks ++ H)) w v cv) : OpOK P B g env H a w o v ((K, some (.row d' t e [])) :: gone H d ks) := by
 have hKks : K ∉ ks := fun h => hK (hr.kn h)
 have G1 := take_ge (g := g) (w := w) (d := d) (K := K) hr
 have hK1 : ¬ known (gone H d ks ++ H) K := fun h => by
  rcases (gone_known d ks H K).1 h with h | h
  ·exact hKks h
  ·exact hK h
 have G2 : Ge (g.take d K ks) (gone H d ks ++ H) w ((g.take d K ks).new0 K) ((K, some (.row d' t e [])) :: (gone H d ks ++ H)) w :=
  new_ge hK1 (fun o ho => by simp [Gh.new0, ho]) (fun b hb => ⟨hb, rfl⟩) (fun b cur e fr h => h)
 refine ⟨.value cv, cv, (g.take d K ks).new0 K, w, hrun, .inl rfl, R.heap (G1.trans G2) hd hv ?_ (Ext.refl _ _) ?_ ?_ ?_⟩
 ·exact put_ro (g1 := g.take d K ks) (w1 := w) (fun o' ob' h hne => take_ro hr (fun o ob h _ => R.obj o ob h) o' ob' h (.inl hne)) G2 (fun o ho => by simp [Gh.new0, ho]) (fun o' ho b hb => ⟨hb, rfl⟩) (by simp [RO, Gh.new0])
 ·exact fun b h => take_F (d := d) (K := K) (ks := ks) R.toRelG h
 ·exact fun b o' h => take_O (d := d) (K := K) (ks := ks) R.toRelG h
 ·intro j hj h
  rcases (known_cons K _ _ j).1 h with h | h
  ·omega
  ·rcases (gone_known d ks H j).1 h with h | h
   ·exact hr.kn h
   ·exact h
theorem gone_nil (d : Bool) : gone H d [] = [] := rfl
theorem rows_nil : Rows H [] := fun k hk => by simp at hk
theorem newPtr_rv {g' : Gh} {H' : Heap} {w' : World} {K nb : Nat} (h1 : known H' K) (h2 : g'.blk K = some (nb, 0)) : RV g' H' w' (.val false [.ptr K 0]) (.pointer (some ⟨nb, 0, none⟩)) :=
 rv_mk ⟨rfl, h1, fun ob _ _ => ⟨nb, h2, rfl⟩⟩
theorem ok_newBox (R : Rel B g env H a w) (hd : ∀ d, o.dst = some d → d < B.n) {K : Nat} (hK : ¬ known H K) (hKk : 100 ≤ K) {cells : Array Value} {ty : TypeId} {cs : List C} (hcs : RCs g H w cs cells.toList)
  (hrun : (execOp a.eval o).run P w = .ok (.value (.pointer (some ⟨w.heap.size, 0, none⟩))) (w.alloc (.cells cells ty))) : OpOK P B g env H a w o (.val false [.ptr K 0]) [(K, some (.box cs))] := by
 have G : Ge g H w ((g.take true K []).new K w.heap.size) ((K, some (.box cs)) :: (gone H true [] ++ H)) (w.alloc (.cells cells ty)) :=
  (take_ge (d := true) (K := K) (rows_nil)).trans (new_ge (by simpa [gone_nil] using hK) (fun o ho => by simp [Gh.new, ho]) (fun b hb => ⟨hb, heap_alloc_old w _ (take_F (d := true) (K := K) (ks := []) R.toRelG hb).1⟩) new_sz)
 have := new_ok (d := true) (ks := []) R hd hK hKk rows_nil (ob := .box cs) (v := .val false [.ptr K 0]) hrun
  ⟨w.heap.size, cells, ty, by simp [Gh.new], by simp [Gh.new], heap_alloc_new w _, G.rcs hcs⟩ (newPtr_rv ((known_cons K _ _ K).2 (.inl rfl)) (by simp [Gh.new]))
 simpa [gone_nil] using this
theorem ok_alloc (hT : TabOK P tab) (R : Rel B g env H a w) (hd : ∀ d, o.dst = some d → d < B.n) {K : Nat} (hK : ¬ known H K) (hKk : 100 ≤ K) {t : TypeId} (ho : o.op = .alloc t) {i : TI} (hi : get tab t = some i) (hz0 : i.zero ≠ []) : OpOK P B g env H a w o (.val false [.ptr K 0]) [(K, some (.box i.zero))] := by
 obtain ⟨inf, z, h1, h2, h3, h4, h5, h6⟩ := (hT t i hi).info
 replace h5 := h5 (.inl hz0)
 refine ok_newBox R hd hK hKk (cells := z.cells) (ty := t) (rcs_zero h5) ?_
 simp [execOp, ho, Instr.alloc, zeroValue, typeInfo, h1, h4, newVar, newRow]
theorem ok_allocB (hT : TabOK P tab) (R : Rel B g env H a w) (hd : ∀ d, o.dst = some d → d < B.n) {K : Nat} (hK : ¬ known H K) (hKk : 100 ≤ K) {t : TypeId} (ho : o.op = .alloc t) {i : TI} (hi : get tab t = some i) (hb : bldTy i = true) (el : Nat) : OpOK P B g env H a w o (.val false [.ptr K 0]) [(K, some (.bld t el ByteArray.empty))] := by
 obtain ⟨inf, z, h1, h2, h3, h4, h5, h6⟩ := (hT t i hi).info
 unfold bldTy at hb
 split at hb
 case h_2 => cases hb
 rename_i hz
 replace h5 := h5 (.inl (by rw [hz]; exact List.cons_ne_nil _ _))
 rw [hz] at h5
 obtain ⟨u, us, e1, e2, u', us', e3, e4, e5⟩ := h5
 simp only [zeroIs] at e5
 subst e5
 simp only [] at e2 e4
 subst e2; subst e4; subst e3
 have hc : z.cells = #[.pointer none, .slice none 0 0] := by rw [← Array.toArray_toList (xs := z.cells), e1]
 have hrun : (execOp a.eval o).run P w = .ok (.value (.pointer (some ⟨w.heap.size, 0, none⟩))) (w.alloc (.cells #[.pointer none, .slice none 0 0] t)) := by
  simp [execOp, ho, Instr.alloc, zeroValue, typeInfo, h1, h4, newVar, newRow, hc]
 have := new_ok (d := true) (ks := []) R hd hK hKk rows_nil (ob := .bld t el ByteArray.empty) (v := .val false [.ptr K 0]) hrun
  ⟨w.heap.size, by simp [Gh.new], by simp [Gh.new], .pointer none, .slice none 0 0, heap_alloc_new w _, .inl rfl, World.ownsRowF_nil _ _ _ _, by simp, fun x hx => by simp [Value.ownBlock] at hx⟩ (newPtr_rv ((known_cons K _ _ K).2 (.inl rfl)) (by simp [Gh.new]))
 simpa [gone_nil] using this
theorem ok_box (R : Rel B g env H a w) (hd : ∀ d, o.dst = some d → d < B.n) {K : Nat} (hK : ¬ known H K) (hKk : 100 ≤ K) {t : TypeId} {x : Operand} (ho : o.op = .box t x) {cs : List C} (hx : (ev env x).bind V.cells = some cs) : OpOK P B g env H a w o (.val false [.ptr K 0]) [(K, some (.box cs))] := by
 obtain ⟨v, hv, hc⟩ := Option.bind_eq_some_iff.1 hx
 refine ok_newBox R hd hK hKk (cells := (a.eval x).cells) (ty := t) (rv_cells hc (R.ev hv)) ?_
 simp [execOp, ho, Instr.box, newVar, newRow]
/-- A datum at the head of cells, at home in a row that is deep or not. -/
theorem dec_el {d : Bool} {K : Nat} (hO : ∀ o ob, H.at o = some ob → RO g H w o ob) {t : T} {cs : List C} {x : t.Den} {ks : List Nat} (h : dec H t cs = some (x, ks, [])) (hdp : d = true → deepCs H cs = true ∨ t.flat = true) (hn : ks.Nodup) {ls : List Nat} (hls : ∀ k ∈ ks, k ∈ ls) {vs : List Value} (hv : RCs g H w cs vs) :
  ∃ fp, El d (g.take d K ls).F w t x vs fp ∧ fp.Nodup ∧ ∀ b ∈ fp, d = true ∧ ∃ k ∈ ks, g.ow b = some k := by
 have rdcase : ∀ F' : Nat → Prop, (∀ b, g.F b → F' b) → (∀ b k, k ∈ ks → g.ow b = some k → F' b) → Rd F' w t x vs := by
  intro F' h1 h2
  obtain ⟨us, ws, rfl, h3, h4⟩ := dec_rd h1 hO h h2 hv
  simp only [RCs] at h4
  subst h4
  simpa using h3
 cases d with
 | false =>
  refine ⟨[], ?_, List.nodup_nil, by simp⟩
  simp only [El, Bool.false_eq_true, if_false, and_true]
  exact rdcase _ (fun b hb => .inl hb) fun b k hk hb => .inr ⟨rfl, k, hls k hk, hb⟩
 | true =>
  rcases hdp rfl with hdp | hfl
  ·obtain ⟨us, ws, fp, rfl, h1, h2, h3, h4, _⟩ := dec_ow hO h hdp hn hv
   simp only [RCs] at h4
   subst h4
   exact ⟨fp, by simpa [El] using h1, h2, fun b hb => ⟨rfl, h3 b hb⟩⟩
  ·refine ⟨[], ?_, List.nodup_nil, by simp⟩
   simp only [El, if_true]
   exact Rd.ow (F := fun _ => True) hfl (rdcase _ (fun _ _ => trivial) fun _ _ _ _ => trivial)
theorem distinct_nodup : ∀ {ks : List Nat}, distinct ks = true → ks.Nodup
 | [], _ => List.nodup_nil
 | k :: ks, h => by
  simp only [distinct, Bool.and_eq_true, Bool.not_eq_true', List.contains_eq_mem, decide_eq_false_iff_not] at h
  exact List.nodup_cons.2 ⟨h.1, distinct_nodup h.2⟩
theorem elems_el {d : Bool} {K : Nat} (R : Rel B g env H a w) {t : T} : ∀ {parts : List (Nat × Operand)} {ps : List (Nat × V)} {k : Nat} {xs : List t.Den} {ks : List Nat}, evParts (ev env) parts = some ps → elems H t k ps = some (xs, ks) → (d = true → partsDeep H ps = true ∨ t.flat = true) → ks.Nodup → ∀ {ls : List Nat}, (∀ k ∈ ks, k ∈ ls) →
  (parts.map fun p => (p.1, a.eval p.2)) = ((parts.map fun p => a.eval p.2).zipIdx k).map (fun x => (x.2, x.1)) ∧ (∀ v ∈ parts.map fun p => a.eval p.2, v.cells.size = t.sz) ∧
  ∃ fp, EFs (El d (g.take d K ls).F w t) t.sz xs ((parts.map fun p => a.eval p.2).flatMap fun v => v.cells.toList) fp ∧ fp.Nodup ∧ (∀ b ∈ fp, d = true ∧ ∃ k ∈ ks, g.ow b = some k) ∧ Rows H ks
 | [], ps, k, xs, ks, h1, h2, _, _, ls, _ => by
  simp only [evParts, Option.some.injEq] at h1
  subst h1
  simp only [elems, Option.some.injEq, Prod.mk.injEq] at h2
  obtain ⟨rfl, rfl⟩ := h2
  exact ⟨rfl, by simp, [], ⟨rfl, rfl⟩, List.nodup_nil, by simp, rows_nil⟩
 | (i, x) :: parts, ps, k, xs, ks, h1, h2, hdp, hn, ls, hls => by
  simp only [evParts, Option.bind_eq_some_iff, Option.map_eq_some_iff] at h1
  obtain ⟨v, hv, ps', hps, rfl⟩ := h1
  simp only [elems] at h2
  split at h2
  ·rename_i cs hcs
   cases hb : Nat.beq i k with
   | false => simp [hb] at h2
   | true =>
    simp only [hb, cond_true] at h2
    split at h2
    ·rename_i x' ks' hdec
     simp only [Option.map_eq_some_iff, Prod.mk.injEq] at h2
     obtain ⟨⟨ys, ks2⟩, h3, rfl, rfl⟩ := h2
     have hi := Nat.eq_of_beq_eq_true hb
     subst hi
     have hn' := List.nodup_append.1 hn
     have hdp1 : d = true → deepCs H cs = true ∨ t.flat = true := fun h => (hdp h).imp (fun h => by simp only [partsDeep, hcs, Bool.and_eq_true] at h; exact h.1) id
     have hdp2 : d = true → partsDeep H ps' = true ∨ t.flat = true := fun h => (hdp h).imp (fun h => by simp only [partsDeep, hcs, Bool.and_eq_true] at h; exact h.2) id
     obtain ⟨fp, k1, k2, k3⟩ := dec_el (d := d) (K := K) R.obj hdec hdp1 hn'.1 (ls := ls) (fun k hk => hls k (by simp [hk])) (rv_cells hcs (R.ev hv))
     obtain ⟨m1, m2, fp2, m3, m4, m5, m6⟩ := elems_el (d := d) (K := K) R hps h3 hdp2 hn'.2.1 (ls := ls) (fun k hk => hls k (by simp [hk]))
     refine ⟨?_, ?_, fp ++ fp2, ⟨_, _, fp, fp2, by simp, rfl, k1.length, k1, m3⟩, ?_, ?_, (dec_rows hdec).app m6⟩
     ·simp only [List.map_cons, List.zipIdx_cons, m1]
     ·intro u hu
      simp only [List.map_cons, List.mem_cons] at hu
      rcases hu with rfl | hu
      ·rw [← Array.length_toList]; exact k1.length
      ·exact m2 u hu
     ·rw [List.nodup_append]
      refine ⟨k2, m4, fun b hb b' hb' hbb => ?_⟩
      subst hbb
      obtain ⟨_, k, hk, e1⟩ := k3 b hb
      obtain ⟨_, k', hk', e2⟩ := m5 b hb'
      have : k = k' := Option.some.inj (e1.symm.trans e2)
      subst this
      exact hn'.2.2 k hk k hk' rfl
     ·intro b hb
      simp only [List.mem_append] at hb
      rcases hb with hb | hb
      ·obtain ⟨h, k, hk, e1⟩ := k3 b hb; exact ⟨h, k, by simp [hk], e1⟩
      ·obtain ⟨h, k, hk, e1⟩ := m5 b hb; exact ⟨h, k, by simp [hk], e1⟩
    ·cases h2
  ·cases h2
/-- A row in a new block. -/
theorem newRow_rel (R : Rel B g env H a w) (hd : ∀ d, o.dst = some d → d < B.n) {d : Bool} {K : Nat} {ks : List Nat} (hK : ¬ known H K) (hKk : 100 ≤ K) (hr : Rows H ks) {us post : List Value} {ty : TypeId} {t : T} {xs : List t.Den} {c : Nat} (hc : xs.length ≤ c) (hcs : c * t.sz ≤ (us ++ post).length)
  {fp : List Nat} (hel : EFs (El d (g.take d K ks).F w t) t.sz xs us fp) (hn : fp.Nodup) (hfp : ∀ b ∈ fp, d = true ∧ ∃ k ∈ ks, g.ow b = some k) : ∃ g', Rel B g' (setD o (.val false [.own K 0 0]) env) (((K, some (.row d t 0 xs)) :: gone H d ks) ++ H) (a.put o.dst (.slice (some ⟨w.heap.size, 0, none⟩) xs.length c)) (w.alloc (.cells (us ++ post).toArray ty)) := by
 have hlt : ∀ b ∈ fp, b < w.heap.size := fun b hb => by obtain ⟨_, k, hk, e1⟩ := hfp b hb; exact (R.ow b k e1).2
 refine new_rel R hd hK hKk hr ?_ (rv_mk (c := .own K 0 0) ⟨rfl, (known_cons K _ _ K).2 (.inl rfl), fun ob t' e' n h1 h2 => Nat.zero_le _, fun ob t' n h1 h2 => ?_⟩)
 ·simp only [RO, Gh.new, if_true]
  refine ⟨_, ty, [], us, post, fp, trivial, heap_alloc_new w _, by simp, by simp, ?_, ?_, ?_⟩
  ·exact hel.mono fun x u f hf r => r.mono (fun b hb => hb) (fun b hb => heap_alloc_old w _ (take_F (d := d) (K := K) (ks := ks) R.toRelG hb).1) fun b hb => heap_alloc_old w _ (hlt b (hf b hb))
  ·exact List.nodup_cons.2 ⟨fun h => by have := hlt _ h; omega, hn⟩
  ·intro b hb
   obtain ⟨hdd, k, hk, e1⟩ := hfp b hb
   subst hdd
   have := hlt b hb
   rw [if_neg (by omega)]
   exact take_deep e1 hk
 ·rw [at_cons, if_pos rfl] at h1
  simp only [Option.some.injEq] at h1
  subst h1
  obtain ⟨rfl, _, rfl⟩ := h2
  simp only [OwnRef, Gh.new, if_true]
  exact ⟨some ⟨w.heap.size, 0, none⟩, c, _, ty, (0, 0), by simp, Nat.zero_le _, hc, heap_alloc_new w _, by simpa using hcs, fun _ => by simp⟩
theorem newRow_ok (R : Rel B g env H a w) (hd : ∀ d, o.dst = some d → d < B.n) {d : Bool} {K : Nat} {ks : List Nat} (hK : ¬ known H K) (hKk : 100 ≤ K) (hr : Rows H ks) {us post : List Value} {ty : TypeId} {t : T} {xs : List t.Den} {c : Nat} (hc : xs.length ≤ c) (hcs : c * t.sz ≤ (us ++ post).length)
  (hrun : (execOp a.eval o).run P w = .ok (.value (.slice (some ⟨w.heap.size, 0, none⟩) xs.length c)) (w.alloc (.cells (us ++ post).toArray ty)))
  {fp : List Nat} (hel : EFs (El d (g.take d K ks).F w t) t.sz xs us fp) (hn : fp.Nodup) (hfp : ∀ b ∈ fp, d = true ∧ ∃ k ∈ ks, g.ow b = some k) : OpOK P B g env H a w o (.val false [.own K 0 0]) ((K, some (.row d t 0 xs)) :: gone H d ks) := by
 obtain ⟨g', h⟩ := newRow_rel (o := o) R hd hK hKk hr hc hcs hel hn hfp
 exact ⟨.value _, _, g', _, hrun, .inl rfl, h⟩
theorem ok_buildSlice (hT : TabOK P tab) (R : Rel B g env H a w) (hd : ∀ d, o.dst = some d → d < B.n) {K : Nat} (hK : ¬ known H K) (hKk : 100 ≤ K) {t : TypeId} {n : Nat} {parts : Array (Nat × Operand)} (ho : o.op = .buildSlice t n parts) {i : TI} (hi : ((get tab t).bind fun i => get tab i.elem) = some i)
  {ps : List (Nat × V)} (hps : evParts (ev env) parts.toList = some ps) {xs : List i.t.Den} {ks : List Nat} (hel : elems H i.t 0 ps = some (xs, ks)) (hlen : xs.length = n) (hbig : n * i.sz ≤ 16777216) (hs : i.sz = i.t.sz) (hn : ks.Nodup) :
  OpOK P B g env H a w o (.val false [.own K 0 0]) ((K, some (.row (litDeep H i.t ps) i.t 0 xs)) :: gone H (litDeep H i.t ps) ks) := by
 obtain ⟨e, inf, h1, h2, h3, h4, h5⟩ := tabSlice hT hi
 obtain ⟨inf', z, h6, h7, h8, h9, h10, h11⟩ := (hT e i h2).info
 replace h10 := h10 (.inr (.inr hs))
 replace h11 := h11 (.inr (.inr hs))
 rw [h3] at h6
 simp only [Option.some.injEq] at h6
 subst h6
 have hpos := (hT e i h2).pos
 have hdeep : litDeep H i.t ps = true → partsDeep H ps = true ∨ i.t.flat = true := fun h => by
  simp only [litDeep, Bool.and_eq_true] at h; exact .inl h.2
 obtain ⟨k1, k2, fp, k3, k4, k5, k6⟩ := elems_el (d := litDeep H i.t ps) (K := K) R hps hel hdeep hn (ls := ks) fun k hk => hk
 have hl := k3.length
 have hpl : (parts.toList.map fun p => a.eval p.2).length = n := by
  have h12 := k3.length
  have h13 : ∀ (l : List Value), (∀ v ∈ l, v.cells.size = i.t.sz) → (l.flatMap fun v => v.cells.toList).length = l.length * i.t.sz := by
   intro l
   induction l with
   | nil => simp
   | cons v l ih =>
    intro h
    rw [List.flatMap_cons, List.length_append, ih fun v hv => h v (by simp [hv]), Array.length_toList, h v (by simp), List.length_cons, Nat.add_mul]
    omega
  rw [h13 _ k2, hlen] at h12
  exact Nat.eq_of_mul_eq_mul_right (by omega) h12
 have hfill := Go.Great.fill_whole (s := i.t.sz) (by omega) (parts.toList.map fun p => a.eval p.2) ((Array.range (n * inf.size)).map (z.cells[· % z.cells.size]!)) k2 (by rw [hpl]; simp [h4, hs])
 rw [← k1] at hfill
 have hfl : ((parts.map fun p => (p.1, a.eval p.2)).toList) = parts.toList.map fun p => (p.1, a.eval p.2) := by simp
 refine newRow_ok R hd hK hKk k6 (c := xs.length) (Nat.le_refl _) (us := (parts.toList.map fun p => a.eval p.2).flatMap fun v => v.cells.toList) (post := []) (ty := e) (by rw [List.append_nil, hl]; exact Nat.le_refl _) ?_ k3 k4 k5
 have hb2 : ¬ (16777216 < n * inf.size) := by rw [h4]; omega
 rw [hlen, List.append_nil]
 by_cases hz : n * inf.size = 0
 ·have hn0 : n = 0 := by
   rcases Nat.mul_eq_zero.1 hz with h | h
   ·exact h
   ·omega
  have hp0 : parts = #[] := by
   have h := hpl
   rw [hn0] at h
   have h' : parts.toList = [] := by simpa using h
   exact Array.toList_inj.1 (by simpa using h')
  subst hn0
  subst hp0
  simp [execOp, ho, Instr.buildSlice, run_underlying h1, sizeOf, typeInfo, h3, Instr.fill, newRow]
  congr 2
  exact Array.eq_empty_of_size_eq_zero (by simp)
 ·have hfill2 : Instr.fill (fun i_1 => some (i_1 * inf.size, inf.size)) ((Array.range (n * inf.size)).map (z.cells[· % z.cells.size]!)) (parts.toList.map fun p => (p.1, a.eval p.2)) = some (List.flatMap (fun v => v.cells.toList) (parts.toList.map fun p => a.eval p.2)).toArray := by
   rw [h4, hs] at hfill ⊢; exact hfill
  simp [execOp, ho, Instr.buildSlice, run_underlying h1, sizeOf, typeInfo, h3, hb2, hz, zeroValue, h9, hfl, hfill2, newRow]
theorem ptrParts_spec (R : Rel B g env H a w) : ∀ {parts : List (Nat × Operand)} {ps : List (Nat × V)} {k : Nat} {l : List (Nat × Nat)}, evParts (ev env) parts = some ps → ptrParts k ps = some l →
  (parts.map fun p => (p.1, a.eval p.2)) = ((parts.map fun p => a.eval p.2).zipIdx k).map (fun x => (x.2, x.1)) ∧ (∀ v ∈ parts.map fun p => a.eval p.2, v.cells = #[v]) ∧ PtrRefs g H l (parts.map fun p => a.eval p.2) ∧ l.length = parts.length
 | [], ps, k, l, h1, h2 => by
  simp only [evParts, Option.some.injEq] at h1
  subst h1
  simp only [ptrParts, Option.some.injEq] at h2
  subst h2
  exact ⟨rfl, by simp, rfl, rfl⟩
 | (i, x) :: parts, ps, k, l, h1, h2 => by
  simp only [evParts, Option.bind_eq_some_iff, Option.map_eq_some_iff] at h1
  obtain ⟨v, hv, ps', hps, rfl⟩ := h1
  simp only [ptrParts] at h2
  split at h2
  ·rename_i o off ho
   cases hb : Nat.beq i k with
   | false => simp [hb] at h2
   | true =>
    simp only [hb, cond_true, Option.map_eq_some_iff] at h2
    obtain ⟨l', h3, rfl⟩ := h2
    have hi := Nat.eq_of_beq_eq_true hb
    subst hi
    have hrc := R.ev1 (x := x) (c := .ptr o off) (by rw [hv]; exact ho)
    obtain ⟨m1, m2, m3, m4⟩ := ptrParts_spec R hps h3
    refine ⟨by simp only [List.map_cons, List.zipIdx_cons, m1], fun u hu => ?_, ⟨_, _, rfl, hrc.1, hrc.2, m3⟩, by simp [m4]⟩
    simp only [List.map_cons, List.mem_cons] at hu
    rcases hu with rfl | hu
    ·cases hc : a.eval x <;> simp_all [Value.cells, Value.oneCell, RC]
    ·exact m2 u hu
  ·cases h2
theorem ok_buildPtrs (hT : TabOK P tab) (R : Rel B g env H a w) (hd : ∀ d, o.dst = some d → d < B.n) {t : TypeId} {n : Nat} {parts : Array (Nat × Operand)} (ho : o.op = .buildSlice t n parts) {i : TI} (hi : ((get tab t).bind fun i => get tab i.elem) = some i)
  {ps : List (Nat × V)} (hps : evParts (ev env) parts.toList = some ps) {l : List (Nat × Nat)} (hel : ptrParts 0 ps = some l) (hlen : l.length = n) (hbig : n ≤ 1000) (hs : i.sz = 1) (hn0 : 0 < n) :
  OpOK P B g env H a w o (.val false [.prs l]) [] := by
 obtain ⟨e, inf, h1, h2, h3, h4, h5⟩ := tabSlice hT hi
 obtain ⟨inf', z, h6, h7, h8, h9, h10, h11⟩ := (hT e i h2).info
 rw [h3] at h6
 simp only [Option.some.injEq] at h6
 subst h6
 obtain ⟨k1, k2, k3, k4⟩ := ptrParts_spec R hps hel
 have hpl : (parts.toList.map fun p => a.eval p.2).length = n := by rw [List.length_map, ← k4, hlen]
 have hfl1 : ∀ (l : List Value), (∀ v ∈ l, v.cells = #[v]) → (l.flatMap fun v => v.cells.toList) = l := by
  intro l
  induction l with
  | nil => simp
  | cons v l ih =>
   intro h
   rw [List.flatMap_cons, ih fun v hv => h v (by simp [hv]), h v (by simp)]
   rfl
 have hfill := Go.Great.fill_whole (s := 1) (by omega) (parts.toList.map fun p => a.eval p.2) ((Array.range (n * inf.size)).map (z.cells[· % z.cells.size]!)) (fun v hv => by rw [k2 v hv]; rfl) (by rw [hpl]; simp [h4, hs])
 rw [← k1] at hfill
 have hfl : ((parts.map fun p => (p.1, a.eval p.2)).toList) = parts.toList.map fun p => (p.1, a.eval p.2) := by simp
 have hb2 : ¬ (16777216 < n * inf.size) := by rw [h4, hs]; omega
 have hz : ¬ n * inf.size = 0 := by rw [h4, hs]; omega
 have hfill2 : Instr.fill (fun i_1 => some (i_1 * inf.size, inf.size)) ((Array.range (n * inf.size)).map (z.cells[· % z.cells.size]!)) (parts.toList.map fun p => (p.1, a.eval p.2)) = some (parts.toList.map fun p => a.eval p.2).toArray := by
  rw [h4, hs] at hfill ⊢
  rw [hfill, hfl1 _ k2]
 have hrun : (execOp a.eval o).run P w = .ok (.value (.slice (some ⟨w.heap.size, 0, none⟩) n n)) (w.alloc (.cells (parts.toList.map fun p => a.eval p.2).toArray e)) := by
  simp [execOp, ho, Instr.buildSlice, run_underlying h1, sizeOf, typeInfo, h3, hb2, hz, zeroValue, h9, hfl, hfill2, newRow]
 have hold : ∀ b, b < w.heap.size → (w.alloc (.cells (parts.toList.map fun p => a.eval p.2).toArray e)).heap[b]? = w.heap[b]? := fun b hb => heap_alloc_old w _ hb
 have G : Ge g H w ⟨g.blk, g.ow, fun b => g.F b ∨ b = w.heap.size⟩ H (w.alloc (.cells (parts.toList.map fun p => a.eval p.2).toArray e)) :=
  ⟨fun _ h => h, fun o ob hk h hb => ⟨⟨ob, h, hb⟩, rfl⟩, fun o ob t e n hk h hs => ⟨ob, h, .inl ⟨hs, rfl⟩⟩, fun b hb => ⟨.inl hb, hold b (R.F b hb)⟩, fun b cur e fr h => ⟨cur, fr, new_sz b cur e fr h, rfl⟩⟩
 refine ⟨.value _, _, ⟨g.blk, g.ow, fun b => g.F b ∨ b = w.heap.size⟩, _, hrun, .inl rfl, R.heap G hd (rv_mk ⟨rfl, w.heap.size, 0, parts.toList.map fun p => a.eval p.2, n, by rw [hlen], by omega, .inr rfl, ?_, G.ptrRefs k3⟩) (fun o' ob h => G.ro rfl (fun b hb => ⟨hb, hold b (R.ow b o' hb).2⟩) (R.obj o' ob h)) (alloc_ext _ _ _) (fun b hb => ?_) (fun b o' hb => ?_) (fun j _ h => h)⟩
 ·have := heap_alloc_new w (.cells (parts.toList.map fun p => a.eval p.2).toArray e)
  exact At.of_block (pre := []) (post := []) this (by simp)
 ·rcases hb with hb | rfl
  ·exact ⟨by have := R.F b hb; simp; omega, .inl hb⟩
  ·exact ⟨by simp, .inr (.inr (Nat.le_refl _))⟩
 ·obtain ⟨m1, m2⟩ := R.ow b o' hb
  refine ⟨?_, by simp; omega, .inl (by rw [hb]; simp)⟩
  rintro (h | h)
  ·exact m1 h
  ·omega
end
section
variable {P : Program} {tab : Tab} {B : Base} {g : Gh} {env : Env} {H : Heap} {a : Act} {w : World} {o : Oper}
theorem oneCell_eq (v : Value) : v.oneCell' = v.oneCell := by cases v <;> rfl
theorem setR_eq : ∀ (vs : List C) (cs : List C) (off : Nat), off + vs.length ≤ cs.length → setR cs off vs = cs.take off ++ vs ++ cs.drop (off + vs.length)
 | [], cs, off, _ => by simp [setR]
 | v :: vs, cs, off, h => by
  simp only [List.length_cons] at h
  have hlt : off < cs.length := by omega
  have e : cs.set off v = cs.take off ++ v :: cs.drop (off + 1) := by rw [List.set_eq_take_append_cons_drop, if_pos hlt]
  have l1 : (cs.take off).length = off := by simp; omega
  rw [setR, setR_eq vs _ (off + 1) (by simp; omega), e]
  have h1 : (cs.take off ++ v :: cs.drop (off + 1)).take (off + 1) = cs.take off ++ [v] := by
   rw [List.take_append, l1, List.take_of_length_le (by omega), show off + 1 - off = 1 by omega]
   simp
  have h2 : (cs.take off ++ v :: cs.drop (off + 1)).drop (off + 1 + vs.length) = cs.drop (off + (vs.length + 1)) := by
   rw [List.drop_append, l1, List.drop_eq_nil_of_le (by omega), show off + 1 + vs.length - off = vs.length + 1 by omega]
   simp [List.drop_drop]
   congr 1; omega
  rw [h1, h2]
  simp
theorem fold_put (l : List Value) (off : Nat) (cells : Array Value) (h : off + l.length ≤ cells.size) :
  (l.zipIdx.foldl (fun cs (x : Value × Nat) => cs.setIfInBounds (off + x.2) x.1) cells).toList = cells.toList.take off ++ l ++ cells.toList.drop (off + l.length) := by
 obtain ⟨h1, h2⟩ := Go.Great.foldl_set off l 0 cells
 apply List.ext_getElem?
 intro k
 rw [Array.getElem?_toList, h2 k]
 have l1 : (cells.toList.take off).length = off := by simp; omega
 split
 ·rename_i hk
  rw [List.append_assoc, List.getElem?_append_right (by omega), l1, List.getElem?_append_left (by omega)]
  simp
 ·rename_i hk
  rcases Nat.lt_or_ge k off with hlt | hge
  ·rw [List.append_assoc, List.getElem?_append_left (by omega), List.getElem?_take_of_lt hlt, Array.getElem?_toList]
  ·rcases Nat.lt_or_ge k (off + l.length) with hlt2 | hge2
   ·omega
   ·rw [List.getElem?_append_right (by simp; omega), List.getElem?_drop, Array.getElem?_toList]
    congr 1
    simp; omega
theorem RCs.put {cs vs : List C} {us ws : List Value} (h : RCs g H w cs us) (k : RCs g H w vs ws) {off : Nat} (hl : off + vs.length ≤ cs.length) : RCs g H w (setR cs off vs) (us.take off ++ ws ++ us.drop (off + ws.length)) := by
 rw [setR_eq vs cs off hl, k.length]
 exact ((h.take off).app k).app (h.drop _)
theorem lay_sound {flds : List (Nat × Nat)} (R : Rel B g env H a w) : ∀ {parts : List (Nat × Operand)} {ps : List (Nat × V)} {cs r : List C} {cells : Array Value}, evParts (ev env) parts = some ps → lay flds cs ps = some r → RCs g H w cs cells.toList →
  ∃ cells', Instr.fill (fun i => flds.toArray[i]?) cells (parts.map fun p => (p.1, a.eval p.2)) = some cells' ∧ RCs g H w r cells'.toList
 | [], ps, cs, r, cells, h1, h2, h3 => by
  simp only [evParts, Option.some.injEq] at h1
  subst h1
  simp only [lay, Option.some.injEq] at h2
  subst h2
  exact ⟨cells, rfl, h3⟩
 | (i, x) :: parts, ps, cs, r, cells, h1, h2, h3 => by
  simp only [evParts, Option.bind_eq_some_iff, Option.map_eq_some_iff] at h1
  obtain ⟨v, hv, ps', hps, rfl⟩ := h1
  simp only [lay] at h2
  split at h2
  ·rename_i off n vs hf hvc
   cases hb : (Nat.beq vs.length n && Nat.ble (off + n) cs.length) with
   | false => simp [hb] at h2
   | true =>
    simp only [hb, cond_true] at h2
    simp only [Bool.and_eq_true] at hb
    have hn := Nat.eq_of_beq_eq_true hb.1
    have hle := Nat.le_of_ble_eq_true hb.2
    have hrc := rv_cells hvc (R.ev hv)
    have hl1 := hrc.length
    have hl2 := h3.length
    simp only [Array.length_toList] at hl1 hl2
    have hfold := fold_put (a.eval x).cells.toList off cells (by simp; omega)
    have h4 := h3.put hrc (off := off) (by omega)
    rw [← hfold] at h4
    obtain ⟨cells', k1, k2⟩ := lay_sound R hps h2 h4
    refine ⟨cells', ?_, k2⟩
    simp only [List.map_cons]
    unfold Instr.fill
    have hf' : flds.toArray[i]? = some (off, n) := by simpa using hf
    simp only [hf']
    rw [if_neg (by simp; omega)]
    rw [← k1, ← Array.foldl_toList, Array.toList_zipIdx]
  ·cases h2
theorem run_places {P : Program} {w : World} : ∀ {fs : List Field} {l : List (Nat × Nat)}, fs.length = l.length → (∀ (j off n : Nat), l[j]? = some (off, n) → ∃ fd inf, fs[j]? = some fd ∧ fd.offset = off ∧ P.info? fd.type = some inf ∧ inf.size = n) →
  (fs.mapM (m := Sem) fun f => do pure (f.offset, ← sizeOf f.type)).run P w = .ok l w
 | [], [], _, _ => by simp
 | [], _ :: _, h, _ => by simp at h
 | _ :: _, [], h, _ => by simp at h
 | f :: fs, (off, n) :: l, h, k => by
  obtain ⟨fd, inf, h1, h2, h3, h4⟩ := k 0 off n rfl
  simp only [List.getElem?_cons_zero, Option.some.injEq] at h1
  subst h1
  have ih := run_places (P := P) (w := w) (fs := fs) (l := l) (by simpa using h) fun j off n hj => by simpa using k (j + 1) off n (by simpa using hj)
  have hsz : (sizeOf f.type).run P w = .ok n w := by simp [sizeOf, typeInfo, h3, h4]
  rw [List.mapM_cons]
  simp only [Sem.run_bind, hsz, Result.andThen_ok, Sem.run_pure, ih, h2]
theorem ok_build (hT : TabOK P tab) (R : Rel B g env H a w) (hd : ∀ d, o.dst = some d → d < B.n) {t : TypeId} {parts : Array (Nat × Operand)} (ho : o.op = .build t parts) {i : TI} (hi : get tab t = some i) (hag : i.agg = true) {ps : List (Nat × V)} (hps : evParts (ev env) parts.toList = some ps) {cs : List C}
  (hl : lay i.flds i.zero ps = some cs) : OpOK P B g env H a w o (.val true cs) [] := by
 obtain ⟨inf, z, h1, h2, h3, h4, h5, h6⟩ := (hT t i hi).info
 replace h5 := h5 (.inr (.inl hag))
 replace h6 := h6 (.inr (.inl hag))
 obtain ⟨fs, h7, h8⟩ := (hT t i hi).fldn hag
 obtain ⟨cells', k1, k2⟩ := lay_sound R hps hl (rcs_zero (g := g) (H := H) (w := w) h5)
 have hpl := run_places (P := P) (w := w) (fs := fs.toList) (l := i.flds) (by simpa using h8) fun j off n hj => by
  obtain ⟨fs', fd, inf', m1, m2, m3, m4, m5⟩ := (hT t i hi).flds j off n hj
  rw [h7] at m1
  simp only [Option.some.injEq, TypeDesc.struct.injEq] at m1
  subst m1
  exact ⟨fd, inf', by simpa using m2, m3, m4, m5⟩
 have hpl2 : (fs.mapM (m := Sem) fun f => do pure (f.offset, ← sizeOf f.type)).run P w = .ok i.flds.toArray w := by
  rw [Array.mapM_eq_mapM_toList]
  simp only [Sem.run_map, hpl, Result.andThen_ok]
 refine OpOK.pure (cv := .agg cells') R hd ?_ (by simp only [RV, RVal, if_true]; exact ⟨cells', rfl, k2⟩)
 have hzv : (zeroValue t).run P w = .ok z w := by simp [zeroValue, typeInfo, h1, h4]
 have hfl : (parts.map fun p => (p.1, a.eval p.2)).toList = parts.toList.map fun p => (p.1, a.eval p.2) := by simp
 simp only [execOp, ho, Instr.build, Sem.run_bind, hzv, Result.andThen_ok, run_underlying h7, hpl2, hfl, k1, Sem.run_pure]
theorem made_flat (z : Array Value) (s : Nat) (hz : z.size = s) (hs : 1 ≤ s) : ∀ n, (madeCells z (n * s)).toList = (List.replicate n z.toList).flatten := by
 have key : ∀ n, (List.range (n * s)).map (fun i => z[i % s]!) = (List.replicate n z.toList).flatten := by
  intro n
  induction n with
  | zero => simp
  | succ n ih =>
   rw [Nat.add_mul, Nat.one_mul, Nat.add_comm, List.range_add, List.map_append, List.map_map, List.replicate_succ, List.flatten_cons, ← ih]
   congr 1
   ·apply List.ext_getElem?
    intro j
    rw [List.getElem?_map]
    rcases Nat.lt_or_ge j s with h | h
    ·rw [List.getElem?_range h, Array.getElem?_toList]
     simp [Nat.mod_eq_of_lt h, h, hz]
    ·rw [List.getElem?_eq_none (by simpa using h), Array.getElem?_toList, Array.getElem?_eq_none (by omega)]
     rfl
   ·apply List.map_congr_left
    intro j hj
    simp [Nat.add_mod_left]
 intro n
 rw [← key n]
 simp [madeCells, hz]
theorem EFs.rep {α : Type} {Rr : α → List Value → List Nat → Prop} {x : α} {u : List Value} {n : Nat} (h : Rr x u []) (hl : u.length = n) : ∀ k, EFs Rr n (List.replicate k x) (List.replicate k u).flatten []
 | 0 => ⟨rfl, rfl⟩
 | k + 1 => ⟨u, _, [], [], by simp [List.replicate_succ], rfl, hl, h, EFs.rep h hl k⟩
theorem ok_makeSlice (hT : TabOK P tab) (R : Rel B g env H a w) (hd : ∀ d, o.dst = some d → d < B.n) {K : Nat} (hK : ¬ known H K) (hKk : 100 ≤ K) {t : TypeId} {l c : Operand} (ho : o.op = .makeSlice t l c) {i : TI} (hi : ((get tab t).bind fun i => get tab i.elem) = some i)
  {k k' : IntKind} {n : Int} (hl : (ev env l).bind V.one = some (.int k n)) (hm : (ev env c).bind V.one = some (.int k' n)) (h0 : 0 ≤ n) (hb : n * i.bytes ≤ 281474976710656) (hby : 1 ≤ i.bytes) (hs : i.sz = i.t.sz) :
  OpOK P B g env H a w o (.val false [.own K 0 0]) [(K, some (.row true i.t 0 (List.replicate n.toNat i.t.dflt)))] := by
 obtain ⟨e, inf, h1, h2, h3, h4, h5⟩ := tabSlice hT hi
 obtain ⟨inf', z, h6, h7, h8, h9, h10, h11⟩ := (hT e i h2).info
 replace h10 := h10 (.inr (.inr hs))
 replace h11 := h11 (.inr (.inr hs))
 rw [h3] at h6
 simp only [Option.some.injEq] at h6
 subst h6
 have hpos := (hT e i h2).pos
 obtain ⟨m, rfl⟩ : ∃ m : Nat, n = m := ⟨n.toNat, by omega⟩
 have hn63 : (m : Int) ≤ 281474976710656 := by
  have h12 : (m * 1 : Int) ≤ m * i.bytes := Int.mul_le_mul_of_nonneg_left (by omega) h0
  omega
 have hr := run_make (P := P) w t e inf z h1 h3 h9 k k' m m h0 (Int.le_refl _) (by rw [h5, Int.mul_comm]; exact hb) (by omega)
 have hzs : z.cells.size = i.t.sz := by
  have h13 := (rcs_zero (g := g) (H := H) (w := w) h10).length
  rw [Array.length_toList] at h13
  omega
 have hz := (hT e i h2).elz _ h10 hs
 have hel : EFs (El true (g.take true K []).F w i.t) i.t.sz (List.replicate m i.t.dflt) (List.replicate m z.cells.toList).flatten [] :=
  EFs.rep (by simpa [El] using hz w) (by simpa using hzs) m
 have := newRow_ok (d := true) (ks := []) (P := P) (o := o) R hd hK hKk rows_nil (us := (List.replicate m z.cells.toList).flatten) (post := []) (ty := e) (xs := List.replicate m i.t.dflt) (c := m) (by simp) (by rw [List.append_nil, hel.length]; simp) ?_ hel List.nodup_nil (by simp)
 ·simpa [gone_nil] using this
 ·have h14 := rc_int (R.ev1 hl)
  have h15 := rc_int (R.ev1 hm)
  have h16 : (List.replicate m z.cells.toList).flatten.toArray = madeCells z.cells (m * inf.size) := by
   rw [← made_flat z.cells i.t.sz hzs (by omega) m, h4, hs]
  simp only [execOp, ho, h14, h15, Sem.run_bind, hr, Result.andThen_ok, Sem.run_pure, List.append_nil, h16, Int.toNat_natCast, List.length_replicate]
theorem push_all (ns : List Int) : ∀ (b : ByteArray), ns.foldl (fun r n => r.push (UInt8.ofNat n.toNat)) b = ⟨b.data ++ (ns.map fun n => UInt8.ofNat n.toNat).toArray⟩ := by
 induction ns with
 | nil => intro b; simp
 | cons n ns ih =>
  intro b
  rw [List.foldl_cons, ih]
  simp [ByteArray.push]
theorem bytes_cells {F : Nat → Prop} : ∀ {xs : List Int} {us : List Value}, ELs (Rd F w (.int .u8)) (T.int .u8).sz (α := (T.int .u8).Den) xs us → us = xs.map (Value.int .u8)
 | [], us, h => by simpa [ELs] using h
 | x :: xs, us, ⟨u, vs, e, l, r, k⟩ => by
  rw [e, bytes_cells k]
  have : u = [.int .u8 x] := r
  rw [this]
  rfl
theorem ok_convStr (hT : TabOK P tab) (R : Rel B g env H a w) (hd : ∀ d, o.dst = some d → d < B.n) {src dst : TypeId} {x : Operand} (ho : o.op = .convert src dst x) {is id ie : TI} (h1 : get tab src = some is) (h2 : get tab dst = some id) {s0 : ByteArray} (hz : id.zero = [.str s0]) (ha : id.agg = false)
  (h3 : get tab is.elem = some ie) {n0 : Int} (hz' : ie.zero = [.int .u8 n0]) (ha' : ie.agg = false) {c : C} (hx : (ev env x).bind V.one = some c) {y : List Int × List Nat} (hl : lc H (.int .u8) c = some y) : OpOK P B g env H a w o (.val false [.str (strOf y.1)]) [] := by
 have h4 := (hT _ _ h1).slice (by simp [h3])
 have h5 := (hT _ _ h3).kint _ _ hz' ha'
 have h6 := (hT _ _ h2).kstr _ hz ha
 obtain ⟨xs, ks⟩ := y
 obtain ⟨A, cp, h7, h8, h9⟩ := lc_rd (F' := fun _ => True) (fun _ _ => trivial) R.obj hl (fun _ _ _ _ => trivial) (R.ev1 hx)
 simp only [List.cons.injEq, and_true] at h7
 refine OpOK.pure (cv := .string (strOf xs)) R hd ?_ (rv_mk ⟨rfl, rfl⟩)
 have hconv : (Go.convert src dst (a.eval x)).run P w = .ok (.string (strOf xs)) w := by
  rw [h7, run_convert_bytes_string w src dst _ A _ cp h4 h5 h6]
  cases A with
  | none =>
   have hnil : xs = [] := by
    cases hxs : xs with
    | nil => rfl
    | cons x xs' =>
     obtain ⟨g', o', us, hh, _⟩ := h9 (by rw [hxs]; exact List.cons_ne_nil _ _)
     cases hh
   subst hnil
   simp [Conv.bytesToString, strOf]
   rfl
  | some ad =>
   have hld : (loadCells ad xs.length).run P w = .ok (xs.map (Value.int .u8)).toArray w := by
    rcases Nat.eq_zero_or_pos xs.length with hz | hz
    ·have : xs = [] := List.eq_nil_of_length_eq_zero hz
     subst this
     exact run_loadCells_list (P := P) w ad [] (fun j v hj => by simp at hj)
    ·obtain ⟨g', o', us, hh, _, hAt, hels⟩ := h9 (by intro h; subst h; exact absurd hz (Nat.lt_irrefl 0))
     simp only [Option.some.injEq] at hh
     subst hh
     rw [bytes_cells hels] at hAt
     have := run_loadCells_list (P := P) w ⟨g', o', none⟩ (xs.map (Value.int .u8)) (fun j v hj => by rw [add_none rfl]; exact hAt j v hj)
     simpa using this
   have h10 := run_bytesToString w ad xs.length cp xs hld
   rw [push_all] at h10
   exact h10.trans (by simp only [strOf, ByteArray.data_empty, Array.empty_append])
 simp only [execOp, ho, Sem.run_bind, hconv, Result.andThen_ok, Sem.run_pure]
end
section
variable {P : Program} {tab : Tab} {B : Base} {g g2 : Gh} {env : Env} {H : Heap} {a : Act} {w w2 : World} {o : Oper}
/-- An object K is changed; some rows are taken with it. -/
theorem change_ok (R : Rel B g env H a w) (hd : ∀ d, o.dst = some d → d < B.n) {d : Bool} {K : Nat} {ks : List Nat} (hKks : K ∉ ks) (hr : Rows H ks) {old ob' : Obj} (hold : H.at K = some old) {v : V} {cv : Value} {nx : Next}
  (hblk : ∀ o, o ≠ K → g2.blk o = g.blk o)
  (how : ∀ b o, (g.take d K ks).ow b = some o → g2.ow b = some o)
  (how' : ∀ b o, g2.ow b = some o → (g.take d K ks).ow b = some o ∨ w.heap.size ≤ b ∧ b < w2.heap.size)
  (hF : ∀ b, g2.F b ↔ (g.take d K ks).F b)
  (hsame : ∀ b, b < w.heap.size → g.ow b ≠ some K → w2.heap[b]? = w.heap[b]?)
  (hsz : ∀ (b : Nat) (cur : Array Value) (e : TypeId) (fr : Nat × Nat), w.heap[b]? = some (Go.Obj.cells cur e fr) → ∃ (cur' : Array Value) (fr' : Nat × Nat), w2.heap[b]? = some (Go.Obj.cells cur' e fr') ∧ cur'.size = cur.size)
  (hx : Ext (fun b => g.ow b ≠ none) w w2)
  (hbx : ob'.isBox = true → old.isBox = true ∧ g2.blk K = g.blk K)
  (hsq : ∀ t e n, ob'.isSeq t e n → (old.isSeq t e n ∧ g2.blk K = g.blk K) ∨ ∃ t' e' n', old.isSeq t' e' n' ∧ e' < e)
  (hro : Ge g H w g2 ((K, some ob') :: (gone H d ks ++ H)) w2 → RO g2 ((K, some ob') :: (gone H d ks ++ H)) w2 K ob')
  (hrun : (execOp a.eval o).run P w = .ok nx w2) (hnx : nx = .value cv ∨ (nx = .skip ∧ cv = undef))
  (hv : Ge g H w g2 ((K, some ob') :: (gone H d ks ++ H)) w2 → RV g2 ((K, some ob') :: (gone H d ks ++ H)) w2 v cv) : OpOK P B g env H a w o v ((K, some ob') :: gone H d ks) := by
 have G1 := take_ge (g := g) (w := w) (d := d) (K := K) hr
 have hat : Heap.at (gone H d ks ++ H) K = some old := by rw [gone_at, if_neg hKks]; exact hold
 have hlt : ∀ b o, (g.take d K ks).ow b = some o → b < w.heap.size := fun b o h => (take_O (d := d) (K := K) (ks := ks) R.toRelG h).2.1
 have hnK : ∀ b, (g.take d K ks).F b → w2.heap[b]? = w.heap[b]? := fun b hb => by
  refine hsame b (take_F (d := d) (K := K) (ks := ks) R.toRelG hb).1 fun h => ?_
  exact (take_O (d := d) (K := K) (ks := ks) R.toRelG (take_keep (K := K) h hKks)).1 hb
 have G2 : Ge (g.take d K ks) (gone H d ks ++ H) w g2 ((K, some ob') :: (gone H d ks ++ H)) w2 := by
  refine ⟨fun o h => (known_cons K _ _ o).2 (.inr h), fun o ob hk h hb => ?_, fun o ob t e n hk h hs => ?_, fun b h => ⟨(hF b).2 h, hnK b h⟩, hsz⟩
  ·rw [at_cons] at h
   by_cases e : K = o
   ·subst e
    rw [if_pos rfl] at h
    simp only [Option.some.injEq] at h
    subst h
    exact ⟨⟨old, hat, (hbx hb).1⟩, (hbx hb).2⟩
   ·rw [if_neg e] at h
    exact ⟨⟨ob, h, hb⟩, hblk o (Ne.symm e)⟩
  ·rw [at_cons] at h
   by_cases e' : K = o
   ·subst e'
    rw [if_pos rfl] at h
    simp only [Option.some.injEq] at h
    subst h
    exact ⟨old, hat, hsq t e n hs⟩
   ·rw [if_neg e'] at h
    exact ⟨ob, h, .inl ⟨hs, hblk o (Ne.symm e')⟩⟩
 have G := G1.trans G2
 refine ⟨nx, cv, g2, w2, hrun, hnx, R.heap G hd (hv G) ?_ hx ?_ ?_ ?_⟩
 ·refine put_ro (g1 := g.take d K ks) (w1 := w) (fun o' ob' h hne => take_ro hr (fun o ob h _ => R.obj o ob h) o' ob' h (.inl hne)) G2 (fun o ho => hblk o ho) (fun o' ho b hb => ⟨how b o' hb, hsame b (hlt b o' hb) fun h => ?_⟩) (hro G)
  have := take_keep (d := d) (K := K) h hKks
  rw [hb] at this
  simp only [Option.some.injEq] at this
  exact ho this
 ·intro b h
  obtain ⟨h1, h2⟩ := take_F (d := d) (K := K) (ks := ks) R.toRelG ((hF b).1 h)
  exact ⟨Nat.lt_of_lt_of_le h1 hx.size, h2⟩
 ·intro b o' h
  rcases how' b o' h with h | ⟨h1, h2⟩
  ·obtain ⟨h1, h2, h3⟩ := take_O (d := d) (K := K) (ks := ks) R.toRelG h
   exact ⟨fun h' => h1 ((hF b).1 h'), Nat.lt_of_lt_of_le h2 hx.size, h3⟩
  ·refine ⟨fun h' => ?_, h2, .inr h1⟩
   have := (take_F (d := d) (K := K) (ks := ks) R.toRelG ((hF b).1 h')).1
   omega
 ·intro j hj h
  rcases (known_cons K _ _ j).1 h with h | h
  ·subst h; exact known_of_at hold
  ·rcases (gone_known d ks H j).1 h with h | h
   ·exact hr.kn h
   ·exact h
theorem setRow_sz {b : Nat} {cur cs : Array Value} {ty : TypeId} {fr : Nat × Nat} (hg : w.heap[b]? = some (.cells cur ty fr)) (hs : cs.size = cur.size) : ∀ (b' : Nat) (cur' : Array Value) (e : TypeId) (fr : Nat × Nat), w.heap[b']? = some (Go.Obj.cells cur' e fr) → ∃ (cur2 : Array Value) (fr' : Nat × Nat), (w.setRow b cs).heap[b']? = some (Go.Obj.cells cur2 e fr') ∧ cur2.size = cur'.size := by
 intro b' cur' e fr' h
 by_cases hb : b' = b
 ·subst hb
  rw [hg] at h
  simp only [Option.some.injEq, Go.Obj.cells.injEq] at h
  obtain ⟨rfl, rfl, rfl⟩ := h
  exact ⟨cs, _, setRow_heap w b' cur cs ty _ hg, hs⟩
 ·exact ⟨cur', fr', (setRow_other w b b' cs hb).trans h, rfl⟩
theorem setRow_ext {b k : Nat} (cs : Array Value) (hb : g.ow b = some k) : Ext (fun b => g.ow b ≠ none) w (w.setRow b cs) :=
 ⟨rfl, rfl, rfl, by simp, fun b' _ hn => setRow_other w b b' cs fun e => hn (by rw [e, hb]; simp)⟩
theorem run_storeAt_cells {t : TypeId} {inf : TypeInfo} (hi : P.info? t = some inf) {v : Value} (hs : v.cells.size = inf.size) (hone : ∀ u ∈ v.cells.toList, u.oneCell = true) {b off : Nat} {cur : Array Value} {ty : TypeId} (hg : w.heap[b]? = some (.cells cur ty (0, 0))) (hl : off + v.cells.size ≤ cur.size) :
  (Instr.storeAt t (.pointer (some ⟨b, off, none⟩)) v).run P w = .ok () (w.setRow b (cur.toList.take off ++ v.cells.toList ++ cur.toList.drop (off + v.cells.size)).toArray) := by
 have h1 := run_storeCells_at (P := P) b off ty v.cells.toList 0 cur w hg (by simpa using hl) (fun u hu => by rw [oneCell_eq]; exact hone u hu)
 simp only [Nat.add_zero, Array.length_toList] at h1
 have h2 : (sizeOf t).run P w = .ok inf.size w := by simp [sizeOf, typeInfo, hi]
 simp only [Instr.storeAt, Instr.sureAddr, storeVar, Sem.run_bind, Sem.run_pure, Result.andThen_ok, h2, hs, ne_eq, not_true_eq_false, if_false]
 rw [h1]
 simp [hs]
theorem gh_take_nil (g : Gh) (d : Bool) (K : Nat) : (g.take d K []).ow = g.ow ∧ ∀ b, (g.take d K []).F b ↔ g.F b := by
 refine ⟨funext fun b => ?_, fun b => ?_⟩
 ·simp only [Gh.take]
  split <;> rename_i h <;> simp_all
 ·simp [Gh.take]
theorem ok_storeBox (hT : TabOK P tab) (R : Rel B g env H a w) (hd : ∀ d, o.dst = some d → d < B.n) {t : TypeId} {x y : Operand} (ho : o.op = .store t x y) {i : TI} (hi : get tab t = some i) {k off : Nat} (hx : (ev env x).bind V.one = some (.ptr k off)) {vs : List C} (hy : (ev env y).bind V.cells = some vs)
  {cs : List C} (hk : H.at k = some (.box cs)) (hn : vs.length = i.sz) (hle : off + i.sz ≤ cs.length) : OpOK P B g env H a w o .x [(k, some (.box (setR cs off vs)))] := by
 obtain ⟨b, h1, h2⟩ := (R.ev1 hx).2.2 _ hk rfl
 obtain ⟨b', cur, ty, h3, h4, h5, h6⟩ := R.obj k _ hk
 rw [h1] at h3
 simp only [Option.some.injEq, Prod.mk.injEq, and_true] at h3
 subst h3
 obtain ⟨v, hv, hvc⟩ := Option.bind_eq_some_iff.1 hy
 have hrc := rv_cells hvc (R.ev hv)
 have hl1 := hrc.length
 have hl2 := h6.length
 simp only [Array.length_toList] at hl1 hl2
 obtain ⟨inf, z, m1, m2, _⟩ := (hT t i hi).info
 have hrun := run_storeAt_cells (P := P) (w := w) m1 (v := a.eval y) (by omega) hrc.one h5 (off := off) (by omega)
 obtain ⟨e1, e2⟩ := gh_take_nil g true k
 have := change_ok (P := P) (o := o) (g2 := g) (w2 := w.setRow b (cur.toList.take off ++ (a.eval y).cells.toList ++ cur.toList.drop (off + (a.eval y).cells.size)).toArray) (d := true) (ks := []) (nx := .skip) (cv := undef) (v := .x) (ob' := .box (setR cs off vs))
  R hd (by simp) rows_nil hk (fun _ _ => rfl) (fun b o h => by rw [e1] at h; exact h) (fun b o h => .inl (by rw [e1]; exact h)) (fun b => (e2 b).symm)
  (fun b2 hb2 hne => setRow_other w b b2 _ fun e => hne (by rw [e, h4])) (setRow_sz h5 (by simp; omega)) (setRow_ext _ h4) (fun _ => ⟨rfl, rfl⟩) (fun t e n h => h.elim)
  (fun G => ⟨b, _, ty, h1, h4, setRow_heap w b cur _ ty _ h5, by
   have := G.rcs (h6.put hrc (off := off) (by omega))
   simpa using this⟩) (by
   simp only [execOp, ho, h2, Sem.run_bind, hrun, Result.andThen_ok, Sem.run_pure]) (.inr ⟨rfl, rfl⟩) (fun _ => trivial)
 simpa [gone_nil] using this
theorem EFs.set {α : Type} {Rr : α → List Value → List Nat → Prop} {n : Nat} {xs : List α} {us : List Value} {fp : List Nat} (h : EFs Rr n xs us fp) {j : Nat} {x : α} {u : List Value} {f : List Nat} (hj : j < xs.length) (hu : u.length = n) (hr : Rr x u f) :
  ∃ (pre post g : List Value) (g' : List Nat) (g2 : List Nat × List Nat), us = pre ++ g ++ post ∧ g.length = n ∧ pre.length = j * n ∧ fp = g' ++ (g2.1 ++ g2.2) ∧ EFs Rr n (xs.set j x) (pre ++ u ++ post) (g' ++ f ++ g2.2) := by
 obtain ⟨pre, u0, post, f1, f2, f3, e1, e2, e3, e4, e5, e6, e7⟩ := h.at j xs[j] (List.getElem?_eq_getElem hj)
 refine ⟨pre, post, u0, f1, (f2, f3), e1, e4, e3, by rw [e2, List.append_assoc], ?_⟩
 rw [List.set_eq_take_append_cons_drop, if_pos hj, List.append_assoc, List.append_assoc]
 exact e6.app ⟨u, post, f, f3, rfl, rfl, hu, hr, e7⟩
theorem ok_storePel (hT : TabOK P tab) (R : Rel B g env H a w) (hd : ∀ d, o.dst = some d → d < B.n) {t : TypeId} {x y : Operand} (ho : o.op = .store t x y) {i : TI} (hi : get tab t = some i) {k e j : Nat} (hx : (ev env x).bind V.one = some (.pel k e [] j 0)) {vs : List C} (hy : (ev env y).bind V.cells = some vs)
  {d : Bool} {tt : T} {xs : List tt.Den} (hk : H.at k = some (.row d tt e xs)) (hn : vs.length = i.sz) (hs : i.sz = tt.sz) {z : tt.Den} {ks : List Nat} (hdec : dec H tt vs = some (z, ks, [])) (hdis : (k :: ks).Nodup) (hdp : d = true → deepCs H vs = true ∨ tt.flat = true) :
  OpOK P B g env H a w o .x ((k, some (.row d tt e (xs.set j z))) :: gone H d ks) := by
 have hnd := List.nodup_cons.1 hdis
 have hr := dec_rows hdec
 obtain ⟨hj, b, s, h1, h2⟩ := (R.ev1 hx).2.2.2 rfl _ tt _ hk ⟨rfl, rfl, rfl⟩
 have hro := R.obj k _ hk
 simp only [RO, h1] at hro
 obtain ⟨cur, ty, pre, us, post, fp, h4, h5, h6, h7, h8, h9, h10⟩ := hro
 obtain ⟨v, hv, hvc⟩ := Option.bind_eq_some_iff.1 hy
 have hrc := rv_cells hvc (R.ev hv)
 have hl1 := hrc.length
 simp only [Array.length_toList] at hl1
 obtain ⟨inf, z', m1, m2, _⟩ := (hT t i hi).info
 obtain ⟨f, k1, k2, k3⟩ := dec_el (d := d) (K := k) R.obj hdec hdp hnd.2 (ls := ks) (fun _ h => h) hrc
 have h8' : EFs (El d (g.take d k ks).F w tt) tt.sz xs us fp := h8.mono fun x u f' hf r => r.mono (fun b hb => .inl hb) (fun _ _ => rfl) fun _ _ => rfl
 obtain ⟨pre', post', u0, f1, ⟨f2, f3⟩, e1, e2, e3, e4, e5⟩ := h8'.set hj (by simp; omega) k1
 have hcl : cur.toList.length = pre.length + (pre'.length + u0.length + post'.length) + post.length := by
  rw [h6, e1]; simp; omega
 have hoff : (s + j) * tt.sz = pre.length + pre'.length := by rw [Nat.add_mul, h7, e3]
 have hrun := run_storeAt_cells (P := P) (w := w) m1 (v := a.eval y) (by omega) hrc.one h5 (off := (s + j) * tt.sz) (by
  rw [Array.length_toList] at hcl; omega)
 have hlist : cur.toList.take ((s + j) * tt.sz) ++ (a.eval y).cells.toList ++ cur.toList.drop ((s + j) * tt.sz + (a.eval y).cells.size) = pre ++ (pre' ++ (a.eval y).cells.toList ++ post') ++ post := by
  have q1 : cur.toList = (pre ++ pre') ++ (u0 ++ (post' ++ post)) := by rw [h6, e1]; simp [List.append_assoc]
  have q2 : (s + j) * tt.sz = (pre ++ pre').length := by rw [hoff, List.length_append]
  have q3 : (a.eval y).cells.size = u0.length := by omega
  rw [q1, q2, List.take_left, q3, ← List.drop_drop, List.drop_left, List.drop_left]
  simp [List.append_assoc]
 rw [hlist] at hrun
 refine change_ok (P := P) (o := o) (g2 := g.take d k ks) (w2 := w.setRow b (pre ++ (pre' ++ (a.eval y).cells.toList ++ post') ++ post).toArray) (d := d) (ks := ks) (nx := .skip) (cv := undef) (v := .x) (ob' := .row d tt e (xs.set j z))
  R hd hnd.1 hr hk (fun _ _ => rfl) (fun b o h => h) (fun b o h => .inl h) (fun b => Iff.rfl)
  (fun b2 hb2 hne => setRow_other w b b2 _ fun e => hne (by rw [e, h4])) (setRow_sz h5 (by
   rw [Array.length_toList] at hcl; simp; omega)) (setRow_ext _ h4) (fun h => by cases h) (fun t' e' n h => ?_)
  (fun G => ?_) (by simp only [execOp, ho, h2, Nat.add_zero, Sem.run_bind, hrun, Result.andThen_ok, Sem.run_pure]) (.inr ⟨rfl, rfl⟩) (fun _ => trivial)
 ·obtain ⟨rfl, rfl, rfl⟩ := h
  exact .inl ⟨⟨rfl, rfl, by simp⟩, rfl⟩
 ·have hbF : ∀ b', (g.take d k ks).F b' → b' ≠ b := fun b' hb' e => (take_O (d := d) (K := k) (ks := ks) R.toRelG (take_keep (K := k) h4 hnd.1)).1 (e ▸ hb')
  have hsub : ∀ b' ∈ f1 ++ f ++ f3, b' ∈ fp ∨ b' ∈ f := by
   intro b' hb'
   rw [e4]
   simp only [List.mem_append] at hb' ⊢
   rcases hb' with (h | h) | h
   ·exact .inl (.inl h)
   ·exact .inr h
   ·exact .inl (.inr (.inr h))
  have hnb : b ∉ fp := (List.nodup_cons.1 h9).1
  have hfb : ∀ b' ∈ f, b' ≠ b := fun b' hb' e => by
   obtain ⟨_, k', hk', h11⟩ := k3 b' hb'
   rw [e, h4] at h11
   simp only [Option.some.injEq] at h11
   exact hnd.1 (h11 ▸ hk')
  simp only [RO]
  have hblk : (g.take d k ks).blk k = some (b, s) := h1
  rw [hblk]
  refine ⟨_, ty, pre, pre' ++ (a.eval y).cells.toList ++ post', post, f1 ++ f ++ f3, take_keep h4 hnd.1, setRow_heap w b cur _ ty _ h5, by simp, h7, ?_, ?_, ?_⟩
  ·refine e5.mono fun x u f' hf r => r.mono (fun _ h => h) (fun b' hb' => setRow_other w b b' _ (hbF b' hb')) fun b' hb' => setRow_other w b b' _ fun e => ?_
   rcases hsub b' (hf b' hb') with h | h
   ·exact hnb (e ▸ h)
   ·exact hfb b' h e
  ·have hnf := (List.nodup_cons.1 h9).2
   rw [e4] at hnf
   have hdisj : ∀ b' ∈ fp, b' ∉ f := fun b' hb' hf => by
    obtain ⟨_, k', hk', h11⟩ := k3 b' hf
    rw [h10 b' hb'] at h11
    simp only [Option.some.injEq] at h11
    exact hnd.1 (h11 ▸ hk')
   refine List.nodup_cons.2 ⟨fun h => ?_, ?_⟩
   ·rcases hsub b h with h | h
    ·exact hnb h
    ·exact hfb b h rfl
   ·rw [List.nodup_append] at hnf
    obtain ⟨n1, n2, n3⟩ := hnf
    rw [List.nodup_append] at n2
    obtain ⟨n4, n5, n6⟩ := n2
    rw [List.nodup_append, List.nodup_append]
    refine ⟨⟨n1, k2, fun b1 hb1 b2 hb2 e => ?_⟩, n5, fun b1 hb1 b2 hb2 e => ?_⟩
    ·subst e
     exact hdisj b1 (by rw [e4]; simp [hb1]) hb2
    ·subst e
     simp only [List.mem_append] at hb1
     rcases hb1 with hb1 | hb1
     ·exact n3 b1 hb1 b1 (by simp [hb2]) rfl
     ·exact hdisj b1 (by rw [e4]; simp [hb2]) hb1
  ·intro b' hb'
   rcases hsub b' hb' with h | h
   ·exact take_keep (h10 b' h) hnd.1
   ·obtain ⟨hdd, k', hk', h11⟩ := k3 b' h
    subst hdd
    exact take_deep h11 hk'
/-- A store into the element that is open. -/
theorem ok_storeOpen (hT : TabOK P tab) (R : Rel B g env H a w) (hd : ∀ d, o.dst = some d → d < B.n) {t : TypeId} {x y : Operand} (ho : o.op = .store t x y) {i : TI} (hi : get tab t = some i) {k e j off : Nat} (hx : (ev env x).bind V.one = some (.pel k e [] j off)) {vs : List C} (hy : (ev env y).bind V.cells = some vs)
  {tt : T} {xs : List tt.Den} {cs : List C} (hk : H.at k = some (.orow tt e xs j cs)) (hn : vs.length = i.sz) (hle : off + i.sz ≤ cs.length) : OpOK P B g env H a w o .x [(k, some (.orow tt e xs j (setR cs off vs)))] := by
 obtain ⟨hj, b, s, h1, h2⟩ := (R.ev1 hx).2.2.2 rfl _ tt _ hk ⟨rfl, rfl, rfl⟩
 obtain ⟨b', s', cur, ty, pre, p1, u, p2, post, f1, f2, q1, q2, q3, q4, q5, q6, q7, q8, q9, q10, q11, q12⟩ := R.obj k _ hk
 rw [h1] at q1
 simp only [Option.some.injEq, Prod.mk.injEq] at q1
 obtain ⟨rfl, rfl⟩ := q1
 obtain ⟨v, hv, hvc⟩ := Option.bind_eq_some_iff.1 hy
 have hrc := rv_cells hvc (R.ev hv)
 have hl1 := hrc.length
 simp only [Array.length_toList] at hl1
 have hl2 := q10.length
 obtain ⟨inf, z, m1, m2, _⟩ := (hT t i hi).info
 have hp1 := q8.length
 rw [List.length_take, Nat.min_eq_left (Nat.le_of_lt q6)] at hp1
 have hcl : cur.toList.length = pre.length + (p1.length + u.length + p2.length) + post.length := by
  rw [q4]; simp; omega
 have hoff : (s + j) * tt.sz + off = (pre ++ p1).length + off := by rw [Nat.add_mul, List.length_append, q5, hp1]
 have hrun := run_storeAt_cells (P := P) (w := w) m1 (v := a.eval y) (by omega) hrc.one q3 (off := (s + j) * tt.sz + off) (by
  rw [Array.length_toList] at hcl; rw [List.length_append] at hoff; omega)
 have hlist : cur.toList.take ((s + j) * tt.sz + off) ++ (a.eval y).cells.toList ++ cur.toList.drop ((s + j) * tt.sz + off + (a.eval y).cells.size) = pre ++ (p1 ++ (u.take off ++ (a.eval y).cells.toList ++ u.drop (off + (a.eval y).cells.size)) ++ p2) ++ post := by
  have eu : u = u.take off ++ ((u.drop off).take (a.eval y).cells.size ++ u.drop (off + (a.eval y).cells.size)) := by
   rw [← List.drop_drop, List.take_append_drop, List.take_append_drop]
  have e1 : cur.toList = ((pre ++ p1) ++ u.take off) ++ ((u.drop off).take (a.eval y).cells.size ++ (u.drop (off + (a.eval y).cells.size) ++ (p2 ++ post))) := by
   rw [q4]
   conv => lhs; rw [eu]
   simp [List.append_assoc]
  have e2 : (s + j) * tt.sz + off = ((pre ++ p1) ++ u.take off).length := by
   have et : (u.take off).length = off := by rw [List.length_take, Nat.min_eq_left (by omega)]
   have ea : ((pre ++ p1) ++ u.take off).length = (pre ++ p1).length + (u.take off).length := List.length_append
   rw [ea, et, hoff]
  have e3 : ((u.drop off).take (a.eval y).cells.size).length = (a.eval y).cells.size := by rw [List.length_take, List.length_drop, Nat.min_eq_left (by omega)]
  have key : ∀ (A M C : List Value) (n : Nat), M.length = n → (A ++ (M ++ C)).take A.length ++ (a.eval y).cells.toList ++ (A ++ (M ++ C)).drop (A.length + n) = A ++ (a.eval y).cells.toList ++ C := fun A M C n hM => by
   subst hM
   rw [List.take_left, ← List.drop_drop, List.drop_left, List.drop_left]
  rw [e1, e2, key _ _ _ _ e3]
  simp [List.append_assoc]
 rw [hlist] at hrun
 have hlu : (u.take off ++ (a.eval y).cells.toList ++ u.drop (off + (a.eval y).cells.size)).length = u.length := by
  simp; omega
 obtain ⟨t1, t2⟩ := gh_take_nil g true k
 have := change_ok (P := P) (o := o) (g2 := g) (w2 := w.setRow b (pre ++ (p1 ++ (u.take off ++ (a.eval y).cells.toList ++ u.drop (off + (a.eval y).cells.size)) ++ p2) ++ post).toArray) (d := true) (ks := []) (nx := .skip) (cv := undef) (v := .x) (ob' := .orow tt e xs j (setR cs off vs))
  R hd (by simp) rows_nil hk (fun _ _ => rfl) (fun b o h => by rw [t1] at h; exact h) (fun b o h => .inl (by rw [t1]; exact h)) (fun b => (t2 b).symm)
  (fun b2 hb2 hne => setRow_other w b b2 _ fun e => hne (by rw [e, q2])) (setRow_sz q3 (by
   rw [Array.length_toList] at hcl; simp only [List.size_toArray, List.length_append] at hlu ⊢; omega)) (setRow_ext _ q2) (fun h => by cases h) (fun t' e' n h => .inl ⟨h, rfl⟩)
  (fun G => ?_) (by simp only [execOp, ho, h2, Sem.run_bind, hrun, Result.andThen_ok, Sem.run_pure]) (.inr ⟨rfl, rfl⟩) (fun _ => trivial)
 ·simpa [gone_nil] using this
 ·have hnb : b ∉ f1 ++ f2 := (List.nodup_cons.1 q11).1
  have hot : ∀ x ∈ f1 ++ f2, (w.setRow b (pre ++ (p1 ++ (u.take off ++ (a.eval y).cells.toList ++ u.drop (off + (a.eval y).cells.size)) ++ p2) ++ post).toArray).heap[x]? = w.heap[x]? := fun x hx => setRow_other w b x _ fun e => hnb (e ▸ hx)
  refine ⟨b, s, _, ty, pre, p1, _, p2, post, f1, f2, h1, q2, setRow_heap w b cur _ ty _ q3, by simp, q5, q6, hlu.trans q7, q8.mono fun x u f hf r => r.mono fun b hb => hot b (by simp [hf b hb]), q9.mono fun x u f hf r => r.mono fun b hb => hot b (by simp [hf b hb]), ?_, q11, q12⟩
  have := G.rcs (q10.put hrc (off := off) (by omega))
  simpa [gone_nil] using this
end
section
variable {P : Program} {tab : Tab} {B : Base} {g g2 : Gh} {env : Env} {H : Heap} {a : Act} {w w2 : World} {o : Oper}
theorem Rel.drew (R : Rel B g env H a w) : Rel B g env H a w.drew := by
 have G : Ge g H w g H w.drew := ⟨fun _ h => h, fun o ob _ h hb => ⟨⟨ob, h, hb⟩, rfl⟩, fun o ob t e n _ h hs => ⟨ob, h, .inl ⟨hs, rfl⟩⟩, fun b h => ⟨h, rfl⟩, fun b cur e fr h => ⟨cur, fr, h, rfl⟩⟩
 exact { obj := fun o ob h => G.ro rfl (fun b hb => ⟨hb, rfl⟩) (R.obj o ob h), ow := R.ow, F := R.F, lx := R.lx, env := fun s v h => G.rv (R.env s v h), sz := R.sz, df := R.df,
         fr := R.fr.trans (drew_ext (fun _ => False) w) (fun _ _ h => h.elim), owB := R.owB, FB := R.FB, BF := R.BF, bs := R.bs, kp := R.kp, kd := R.kd }
theorem rd_one {F : Nat → Prop} {t : T} {x : t.Den} {us : List Value} (h : Rd F w t x us) : ∀ u ∈ us, u.oneCell' = true := by
 intro u hu
 rw [oneCell_eq]
 exact (rcs_cells (g := ⟨fun _ => none, fun _ => none, F⟩) (H := []) h).one u hu
theorem els_one {F : Nat → Prop} {t : T} {n : Nat} : ∀ {xs : List t.Den} {us : List Value}, ELs (Rd F w t) n xs us → ∀ u ∈ us, u.oneCell' = true
 | [], us, h => by simp only [ELs] at h; subst h; simp
 | x :: xs, us, ⟨u, vs, e, l, r, k⟩ => by
  subst e
  intro v hv
  simp only [List.mem_append] at hv
  rcases hv with hv | hv
  ·exact rd_one r v hv
  ·exact els_one k v hv
def kindOk (P : Program) (tx : TypeId) : Prop := (∃ e', P.underlying tx = some (.slice e')) ∨ P.underlying tx = some .string
theorem src_empty {tx : TypeId} (hk : kindOk P tx) (A : Option Addr) (c sz : Nat) : Src P sz tx (.slice A 0 c) 0 [] w := by
 cases A with
 | none => exact ⟨hk, fun _ => rfl, run_firstCells_none w sz 0 0 c, run_firstCells_none w.drew sz 0 0 c, by simp, fun _ h => by cases h⟩
 | some A => exact ⟨hk, fun _ => rfl, run_firstCells_some w sz 0 A 0 c [] (by simp) (fun j v hj => by simp at hj), run_firstCells_some w.drew sz 0 A 0 c [] (by simp) (fun j v hj => by simp at hj), by simp, fun _ h => by cases h⟩
theorem src_at {tx : TypeId} (hk : kindOk P tx) {b o' n c sz : Nat} {us : List Value} (hl : us.length = n * sz) (h : At w b o' us) (h1 : ∀ u ∈ us, u.oneCell' = true) : Src P sz tx (.slice (some ⟨b, o', none⟩) n c) n us w :=
 ⟨hk, fun _ => rfl, run_firstCells_some w sz n _ n c us hl (fun j v hj => by rw [add_none rfl]; exact h j v hj), run_firstCells_some w.drew sz n _ n c us hl (fun j v hj => by rw [add_none rfl]; exact h j v hj), hl, h1⟩
theorem rd_src {tx : TypeId} (hk : kindOk P tx) {F : Nat → Prop} {t : T} {ys : List t.Den} {v : Value} (h : Rd F w (.list t) ys [v]) : ∃ news, Src P t.sz tx v ys.length news w ∧ ELs (Rd F w t) t.sz ys news := by
 obtain ⟨A, c, h1, h2, h3⟩ := h
 simp only [List.cons.injEq, and_true] at h1
 subst h1
 cases ys with
 | nil => exact ⟨[], src_empty hk A c _, rfl⟩
 | cons y ys =>
  obtain ⟨g', o', us, rfl, h5, h6, h7⟩ := h3 (List.cons_ne_nil _ _)
  exact ⟨us, src_at hk h7.length h6 (els_one h7), h7⟩
theorem ow_src {tx : TypeId} (hk : kindOk P tx) {t : T} {ys : List t.Den} {v : Value} {fp : List Nat} (h : Ow w (.list t) ys [v] fp) (hn : fp.Nodup) : ∃ news f, Src P t.sz tx v ys.length news w ∧ EFs (Ow w t) t.sz ys news f ∧ (∀ b ∈ f, b ∈ fp) ∧ f.Nodup := by
 rcases h with ⟨rfl, rfl, A, h⟩ | ⟨b, o', c, cur, e, pre, us, post, f, h1, rfl, h3, h4, h5, h6, h7, h8⟩
 ·simp only [List.cons.injEq, and_true] at h
  subst h
  exact ⟨[], [], src_empty hk A 0 _, ⟨rfl, rfl⟩, by simp, List.nodup_nil⟩
 ·simp only [List.cons.injEq, and_true] at h1
  subst h1
  have h9 : ELs (Rd (fun _ => True) w t) t.sz ys us := h8.toELs fun x u f hf r => Ow.rd r fun _ _ => trivial
  exact ⟨us, f, src_at hk h8.length (h5.1 ▸ At.of_block h3 h4) (els_one h9), h8, fun b hb => by simp [hb], (List.nodup_cons.1 hn).2⟩
theorem els_flat {F F' : Nat → Prop} {d : Bool} {t : T} (hf : t.flat = true) {n : Nat} {xs : List t.Den} {us : List Value} (h : ELs (Rd F w t) n xs us) : EFs (El d F' w t) n xs us [] :=
 ELs.toEFs (fun x u r => by
  unfold El
  split
  ·exact Rd.ow hf r
  ·exact ⟨Rd.flat hf r, rfl⟩) h
theorem els_shal {F F' : Nat → Prop} {t : T} (hF : ∀ b, F b → F' b) {n : Nat} {xs : List t.Den} {us : List Value} (h : ELs (Rd F w t) n xs us) : EFs (El false F' w t) n xs us [] :=
 ELs.toEFs (fun x u r => ⟨Rd.mono hF (fun _ _ => rfl) r, rfl⟩) h
theorem bytes_els {F : Nat → Prop} (s : ByteArray) : ELs (Rd F w (.int .u8)) 1 (α := (T.int .u8).Den) (bytesL s) (byteCells s) := by
 unfold bytesL byteCells
 induction s.data.toList with
 | nil => rfl
 | cons b l ih => exact ⟨[_], _, rfl, rfl, rfl, ih⟩
theorem src_sound (hO : ∀ o ob, H.at o = some ob → RO g H w o ob) {tx : TypeId} (hk : kindOk P tx) {t : T} {c : C} {ys : List t.Den} {deep : Bool} {ks : List Nat} (h : src H t c = some (ys, deep, ks)) {v : Value} (hv : RC g H w c v) {d : Bool} {K : Nat} {ls : List Nat} (hdp : d = true → deep = true ∨ t.flat = true) (hls : ∀ k ∈ ks, k ∈ ls) :
  Rows H ks ∧ ∃ news fp, Src P t.sz tx v ys.length news w ∧ EFs (El d (g.take d K ls).F w t) t.sz ys news fp ∧ fp.Nodup ∧ ∀ b ∈ fp, d = true ∧ ∃ k ∈ ks, g.ow b = some k := by
 have flatCase : ∀ {F : Nat → Prop}, t.flat = true → Rd F w (.list t) ys [v] → ∃ news fp, Src P t.sz tx v ys.length news w ∧ EFs (El d (g.take d K ls).F w t) t.sz ys news fp ∧ fp.Nodup ∧ ∀ b ∈ fp, d = true ∧ ∃ k ∈ ks, g.ow b = some k := by
  intro F hf hr
  obtain ⟨news, h1, h2⟩ := rd_src (P := P) hk hr
  exact ⟨news, [], h1, els_flat hf h2, List.nodup_nil, by simp⟩
 have shalCase : d = false → Rd (g.take d K ls).F w (.list t) ys [v] → ∃ news fp, Src P t.sz tx v ys.length news w ∧ EFs (El d (g.take d K ls).F w t) t.sz ys news fp ∧ fp.Nodup ∧ ∀ b ∈ fp, d = true ∧ ∃ k ∈ ks, g.ow b = some k := by
  rintro rfl hr
  obtain ⟨news, h1, h2⟩ := rd_src (P := P) hk hr
  exact ⟨news, [], h1, els_shal (fun _ h => h) h2, List.nodup_nil, by simp⟩
 have roCase : deep = t.flat → Rd g.F w (.list t) ys [v] → ∃ news fp, Src P t.sz tx v ys.length news w ∧ EFs (El d (g.take d K ls).F w t) t.sz ys news fp ∧ fp.Nodup ∧ ∀ b ∈ fp, d = true ∧ ∃ k ∈ ks, g.ow b = some k := by
  intro hde hr
  cases hf : t.flat with
  | true => exact flatCase hf hr
  | false =>
   refine shalCase ?_ (Rd.mono (fun b hb => .inl hb) (fun _ _ => rfl) hr)
   cases d with
   | false => rfl
   | true => rcases hdp rfl with h | h <;> simp_all
 cases c with
 | nil =>
  simp only [src, Option.some.injEq, Prod.mk.injEq] at h
  obtain ⟨rfl, rfl, rfl⟩ := h
  obtain ⟨A, rfl⟩ := hv.2
  exact ⟨rows_nil, [], [], src_empty hk A 0 _, ⟨rfl, rfl⟩, List.nodup_nil, by simp⟩
 | lst t' xs =>
  simp only [src, Option.map_eq_some_iff, Prod.mk.injEq] at h
  obtain ⟨zs, h1, rfl, rfl, rfl⟩ := h
  obtain ⟨rfl, rfl⟩ := castL_cases h1
  exact ⟨rows_nil, roCase rfl hv.2⟩
 | str s =>
  simp only [src, Option.map_eq_some_iff, Prod.mk.injEq] at h
  obtain ⟨zs, h1, rfl, rfl, rfl⟩ := h
  obtain ⟨rfl, rfl⟩ := castL_cases h1
  have : v = .string s := hv.2
  subst this
  refine ⟨rows_nil, byteCells s, [], ?_, els_flat (F := fun _ => True) rfl (bytes_els s), List.nodup_nil, by simp⟩
  have hlen : (bytesL s).length = s.size := by
   unfold bytesL
   rw [List.length_map, Array.length_toList]
   rfl
  show Src P 1 tx (.string s) (bytesL s).length (byteCells s) w
  rw [hlen]
  exact ⟨hk, fun _ => rfl, firstCells_string s w, firstCells_string s w.drew, by rw [byteCells_length, Nat.mul_one], fun u hu => by
   obtain ⟨_, _, rfl⟩ := List.mem_map.1 hu
   rfl⟩
 | own k e off =>
  simp only [src] at h
  split at h
  ·rename_i d' t' e' xs hob
   cases hb : Nat.beq e e' with
   | false => simp [hb] at h
   | true =>
    simp only [hb, cond_true, Option.map_eq_some_iff, Prod.mk.injEq] at h
    obtain ⟨zs, h1, rfl, rfl, rfl⟩ := h
    obtain ⟨rfl, rfl⟩ := castL_cases h1
    have he := Nat.eq_of_beq_eq_true hb
    subst he
    have hro := hO k _ hob
    have href := own_ref hv hob ⟨rfl, rfl, rfl⟩
    cases hf : t'.flat with
    | true =>
     refine ⟨by simpa [hf] using rows_nil, ?_⟩
     have := flatCase hf (seq_rd (F' := fun _ => True) (fun _ _ => trivial) (.inl ⟨d', rfl, fun _ _ => trivial⟩) hro href)
     simpa [hf] using this
    | false =>
     have hrows : Rows H [k] := by
      intro k' hk'
      simp only [List.mem_singleton] at hk'
      subst hk'
      exact .inl ⟨d', t', e, _, hob⟩
     simp only [hf, cond_false, Bool.or_false] at hls hdp ⊢
     refine ⟨hrows, ?_⟩
     simp only [hf, cond_false] at shalCase
     cases d with
     | false =>
      refine shalCase rfl (seq_rd (F' := (g.take false K ls).F) (fun b hb => .inl hb) (.inl ⟨d', rfl, fun b hb => .inr ⟨rfl, k, hls k (by simp), hb⟩⟩) hro href)
     | true =>
      have hd' : d' = true := by rcases hdp rfl with h | h <;> simp_all
      obtain ⟨fp, h2, h3, h4⟩ := row_ow (by simp [hd']) hro href
      obtain ⟨news, f, h5, h6, h7, h8⟩ := ow_src (P := P) hk h2 h3
      exact ⟨news, f, h5, h6.mono fun x u f' _ r => by simpa [El] using r, h8, fun b hb => ⟨rfl, k, by simp, h4 b (h7 b hb)⟩⟩
  ·rename_i t' e' xs hob
   cases hb : Nat.beq e e' with
   | false => simp [hb] at h
   | true =>
    simp only [hb, cond_true, Option.map_eq_some_iff, Prod.mk.injEq] at h
    obtain ⟨zs, h1, rfl, rfl, rfl⟩ := h
    obtain ⟨rfl, rfl⟩ := castL_cases h1
    have he := Nat.eq_of_beq_eq_true hb
    subst he
    exact ⟨rows_nil, roCase rfl (seq_rd (fun _ h => h) (.inr rfl) (hO k _ hob) (own_ref hv hob ⟨rfl, rfl, rfl⟩))⟩
  ·cases h
 | _ => simp [src] at h
theorem run_append_op {s x : Operand} {t0 t1 : TypeId} (ho : o.op = .call { callee := .builtin .append, args := #[s, x], argTypes := #[t0, t1] }) {v : Value} {w' : World} (h : ∀ ty, (Builtin.append_ #[t0, t1] ty #[a.eval s, a.eval x]).run P w = .ok v w') : (execOp a.eval o).run P w = .ok (.value v) w' := by
 simp [execOp, ho, resolve, invoke, builtin, h]
theorem nothing_run {t0 tx ty e : TypeId} {i : TypeInfo} (ht : P.underlying t0 = some (.slice e)) (hi : P.info? e = some i) (base : Option Addr) (sLen sCap : Nat) (hle : sLen ≤ sCap) {x : Value} (hs : Src P i.size tx x 0 [] w) :
  (Builtin.append_ #[t0, tx] ty #[.slice base sLen sCap, x]).run P w = .ok (.slice base sLen sCap) w := by
 rcases hs.kind with ⟨e', hk⟩ | hk <;> cases base <;> simp [Builtin.append_, run_underlying ht, run_underlying hk, sizeOf, typeInfo, hi, hs.len, hle, hs.cells, storeCells]
theorem src_nil {tx : TypeId} {v : Value} {sz : Nat} {news : List Value} (h : Src P sz tx v 0 news w) : news = [] := List.eq_nil_of_length_eq_zero (by rw [h.newsLen]; simp)
theorem bytes_bound {n b : Nat} (h : n * b ≤ 140737488355328) (hb : 1 ≤ b) : n ≤ 140737488355328 := Nat.le_trans (Nat.le_mul_of_pos_right n hb) h
/-- The cells of a row that is laid anew. -/
theorem grown_cells (olds news : List Value) (z : Array Value) (n : Nat) : (olds ++ news).toArray ++ Builtin.zeroCells z n = ((olds ++ news) ++ (Builtin.zeroCells z n).toList).toArray := by
 apply Array.ext'
 simp
theorem ok_appendNil (hT : TabOK P tab) (R : Rel B g env H a w) (hd : ∀ d, o.dst = some d → d < B.n) {K : Nat} (hK : ¬ known H K) (hKk : 100 ≤ K) {s x : Operand} {t0 t1 : TypeId} (ho : o.op = .call { callee := .builtin .append, args := #[s, x], argTypes := #[t0, t1] }) {i : TI} (hi : ((get tab t0).bind fun i => get tab i.elem) = some i)
  (hk : kindOk P t1) (hs : (ev env s).bind V.one = some .nil) {c : C} (hx : (ev env x).bind V.one = some c) {ys : List i.t.Den} {deep : Bool} {ks : List Nat} (hsrc : src H i.t c = some (ys, deep, ks)) (hnd : ks.Nodup) (hsz : i.sz = i.t.sz) (hby : 1 ≤ i.bytes) (hb : ys.length * i.bytes ≤ 140737488355328) :
  OpOK P B g env H a w o (.val false [.own K 0 0]) ((K, some (.row deep i.t 0 ys)) :: gone H deep ks) := by
 obtain ⟨e, inf, h1, h2, h3, h4, h5⟩ := tabSlice hT hi
 obtain ⟨inf', z, h6, h7, h8, h9, h10, h11⟩ := (hT e i h2).info
 replace h10 := h10 (.inr (.inr hsz))
 replace h11 := h11 (.inr (.inr hsz))
 rw [h3] at h6
 simp only [Option.some.injEq] at h6
 subst h6
 have hzs : z.cells.size = i.t.sz := by
  have h13 := (rcs_zero (g := g) (H := H) (w := w) h10).length
  rw [Array.length_toList] at h13
  omega
 obtain ⟨hr, news, fp, k1, k2, k3, k4⟩ := src_sound (P := P) (d := deep) (K := K) (ls := ks) R.obj hk hsrc (R.ev1 hx) (fun h => .inl h) (fun _ h => h)
 obtain ⟨A, hA⟩ := (R.ev1 hs).2
 have hsz' : inf.size = i.t.sz := by omega
 rcases Nat.eq_zero_or_pos ys.length with hz | hz
 ·have hy : ys = [] := List.eq_nil_of_length_eq_zero hz
  subst hy
  have hn := src_nil (P := P) k1
  subst hn
  refine new0_ok R hd hK hKk hr (cv := .slice A 0 0) (run_append_op ho fun ty => ?_) (rv_mk ⟨rfl, (known_cons K _ _ K).2 (.inl rfl), fun ob t' e' n h1 h2 => Nat.zero_le _, fun ob t' n q1 q2 => ?_⟩)
  ·rw [hA]
   exact nothing_run h1 h3 A 0 0 (Nat.le_refl _) (by rw [hsz']; exact k1)
  ·rw [at_cons, if_pos rfl] at q1
   simp only [Option.some.injEq] at q1
   subst q1
   obtain ⟨rfl, _, rfl⟩ := q2
   simp [OwnRef, Gh.new0]
 ·have hge := grownCap_ge w (0 + ys.length) 0 e
  have hb' := bytes_bound hb hby
  have hrun := fun ty => run_append_grow_src (P := P) w t0 t1 ty e inf z h1 h3 h9 A 0 0 [] (by
   cases A with
   | none => exact run_firstCells_none w.drew inf.size 0 0 0
   | some A => exact run_firstCells_some w.drew inf.size 0 A 0 0 [] (by simp) (fun j v hj => by simp at hj)) (a.eval x) ys.length news (by rw [hsz']; exact k1) (by omega) (by omega) (growslice_fits (by omega) (by rw [h5, Nat.zero_add]; exact hb))
  simp only [Nat.zero_add, List.nil_append] at hrun hge
  have hnl := k1.newsLen
  have hzl : ∀ m, (Builtin.zeroCells z.cells m).toList.length = m * i.t.sz := fun m => by
   have := size_zeroCells z.cells m
   rw [hzs] at this
   simpa using this
  obtain ⟨g', hrel⟩ := newRow_rel (o := o) (d := deep) (K := K) (ks := ks) R.drew hd hK hKk hr (us := news) (post := (Builtin.zeroCells z.cells (grownCap w ys.length 0 e - ys.length)).toList) (ty := e) (t := i.t) (xs := ys) (c := grownCap w ys.length 0 e) hge
   (by rw [List.length_append, hnl, hzl, ← Nat.add_mul]; exact Nat.mul_le_mul_right _ (by omega)) (k2.mono fun x u f _ r => r.mono (fun _ h => h) (fun _ _ => rfl) (fun _ _ => rfl)) k3 k4
  refine ⟨.value _, _, g', _, run_append_op ho fun ty => ?_, .inl rfl, hrel⟩
  rw [hA, hrun ty]
  have := grown_cells [] news z.cells (grownCap w ys.length 0 e - ys.length)
  rw [List.nil_append] at this
  rw [this]
  rfl
end
end
end Go.Proofs.YtlledfaplcgmdaaDoor.V
