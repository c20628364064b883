/-
  Flat, part 1: values and kinds of types without memory. (and 11 texts more)
-/
import GoSem.Dispatch
import Derived.Orders
import Derived.Below
import Derived.Tactics
import Derived.Laws.StructEq
import Derived.Laws.Rows
import Derived.WalkKit
import Derived.Laws.Slices
import Derived.ChangeKeysEq
import Derived.Laws.Tables
import Derived.Laws.AppendOwn
import Derived.Lib.AppendZeros
section
set_option linter.unusedVariables false
set_option linter.unusedSimpArgs false
namespace Go.Flat
inductive PV where
 | v (x : Value)
 | ps (xs : List (List PV))
 | pp (cs : List PV)
 | pz
 | han (id L off len : Nat)
 deriving Inhabited
inductive AV where
 | any
 | p (x : PV)
 | psf (xs : List (List PV))
 | ptr (id off : Nat)
 | sl (id L off len : Nat)
 | eptr (id L i off : Nat)
 | fn (f : Fn) (cap : List AV)
 | agg (cs : List AV)
 | tup (cs : List AV)
 deriving Inhabited
inductive TK where
 | int (k : IntKind) | bool | str | ptr (e : Nat) | sl (e : Nat) | arr (n e : Nat) | st (fs : List (Nat × Nat)) | fn | other
structure TI where
 k : TK
 size : Nat
 bytes : Nat
 zero : List AV
def look {α : Type} : Nat → List (Nat × α) → Option α
 | _, [] => none
 | k, (j, a) :: r => if k = j then some a else look k r
def AV.cells : AV → List AV
 | .agg cs => cs
 | a => [a]
def AV.ok : AV → Bool
 | .any => false
 | .tup _ => false
 | _ => true
def vv (x : Value) : AV := .p (.v x)
def PV.up : PV → AV
 | .han id L off len => .sl id L off len
 | .pz => .psf []
 | x => .p x
def TI.isAgg (i : TI) : Bool := match i.k with | .st _ => true | .arr _ _ => true | _ => false
inductive Loc where
 | tmp (k : Nat) | cell (id off : Nat) | var (id : Nat) | arr (id : Nat)
 deriving DecidableEq
inductive C where
 | av (a : AV)
 | n (k : Nat)
 | arr (e sz : Nat) (xs : List (List PV)) (pub : Nat)
abbrev Sto := Loc → Option C
def upd (t : Sto) (l : Loc) (c : Option C) : Sto := fun l' => if l' = l then c else t l'
abbrev Upd := List (Loc × Option C)
def appU : Upd → Sto → Sto
 | [], t => t
 | (l, c) :: r, t => appU r (upd t l c)
structure Eff where
 val : AV
 u : Upd
def fresh (t : Sto) (id : Nat) : Bool := (t (.var id)).isNone && (t (.arr id)).isNone
def lim : Nat := 140737488355328
def scalarC : Value → Option AV
 | .agg _ => none
 | .tuple _ => none
 | .slice none 0 0 => some (.psf [])
 | .slice _ _ _ => none
 | x => some (.p (.v x))
def scalarCs : List Value → Option (List AV)
 | [] => some []
 | x :: r => match scalarC x with
   | some a => (scalarCs r).map (a :: ·)
   | none => none
def constAV : Value → Option AV
 | .agg cs => (scalarCs cs.toList).map .agg
 | x => scalarC x
def ev (t : Sto) : Operand → Option AV
 | .tmp k => match t (.tmp k) with
   | some (.av a) => some a
   | _ => none
 | .const x => constAV x
 | .func f => some (.fn (.func f) [])
 | .global _ => none
def evs (t : Sto) : List Operand → Option (List AV)
 | [] => some []
 | x :: r => match ev t x with
   | some a => (evs t r).map (a :: ·)
   | none => none
def cut (i : TI) (cs : List AV) (off : Nat) : Option AV :=
 if i.isAgg then (if off + i.size ≤ cs.length then some (.agg ((cs.drop off).take i.size)) else none) else cs[off]?
def overwrite {α : Type} (cs : List α) (off : Nat) : List α → List α
 | [] => cs
 | a :: r => overwrite (cs.set off a) (off + 1) r
def toPV : AV → Option PV
 | .p x => some x
 | .psf xs => some (.ps xs)
 | _ => none
def toPVs : List AV → Option (List PV)
 | [] => some []
 | a :: r => match toPV a with
   | some x => (toPVs r).map (x :: ·)
   | none => none
def toPH : AV → Option PV
 | .sl id L off len => if 8589934592 ≤ id then some (.han id L off len) else none
 | .p x => some x
 | .psf xs => some (.ps xs)
 | _ => none
def toPHs : List AV → Option (List PV)
 | [] => some []
 | a :: r => match toPH a with
   | some x => (toPHs r).map (x :: ·)
   | none => none
section
variable (T : Nat → Option TI)
def place (i : TI) (k : Nat) : Option (Nat × TI) :=
 match i.k with
 | .st fs => match fs[k]? with
   | some f => (T f.1).map fun j => (f.2, j)
   | none => none
 | .arr _ e => (T e).map fun j => (k * j.size, j)
 | _ => none
def buildable : TK → Bool
 | .st _ => true
 | .arr _ e => (T e).isSome
 | _ => false
def fillC (i : TI) (t : Sto) : List AV → List (Nat × Operand) → Option (List AV)
 | cs, [] => some cs
 | cs, (k, x) :: r => match place T i k, ev t x with
   | some q, some a => if a.ok = true ∧ a.cells.length = q.2.size ∧ q.1 + q.2.size ≤ cs.length then fillC i t (overwrite cs q.1 a.cells) r else none
   | _, _ => none
def fillR (t : Sto) (sz : Nat) : List (List PV) → List (Nat × Operand) → Option (List (List PV))
 | rows, [] => some rows
 | rows, (k, x) :: r => match ev t x with
   | some a => match toPVs a.cells with
     | some row => if a.ok = true ∧ row.length = sz ∧ k < rows.length then fillR t sz (rows.set k row) r else none
     | none => none
   | none => none
def getCells (t : Sto) (id : Nat) : Nat → Nat → Option (List AV)
 | _, 0 => some []
 | off, n + 1 => match t (.cell id off) with
   | some (.av a) => (getCells t id (off + 1) n).map (a :: ·)
   | _ => none
def putCells (id : Nat) : Nat → List AV → Upd
 | _, [] => []
 | off, a :: r => (.cell id off, some (.av a)) :: putCells id (off + 1) r
def loadF (t : Sto) (i : TI) : AV → Option AV
 | .ptr id off => if i.isAgg then (getCells t id off i.size).map .agg else match t (.cell id off) with
   | some (.av a) => some a
   | _ => none
 | .eptr id L k off => match t (.arr id) with
   | some (.arr _ _ xs _) => if L = xs.length then (if 4294967296 ≤ id ∧ id < 8589934592 then cut i ((xs.getD k []).map PV.up) off else cut i ((xs.getD k []).map .p) off) else none
   | _ => none
 | .p (.pp cs) => cut i (cs.map .p) 0
 | _ => none
@[simp] def ovw {α : Type} (sz : Nat) (cs : List α) (off : Nat) (row : List α) : List α := if off = 0 ∧ row.length = sz then row else overwrite cs off row
def storeF (t : Sto) (i : TI) (x : AV) : AV → Option Upd
 | .ptr id off => match t (.var id) with
   | some (.n n) => if x.ok = true ∧ x.cells.length = i.size ∧ off + i.size ≤ n then some (putCells id off x.cells) else none
   | _ => none
 | .eptr id L k off => match t (.arr id), (if 4294967296 ≤ id ∧ id < 8589934592 then toPHs x.cells else toPVs x.cells) with
   | some (.arr e sz xs pub), some row => if x.ok = true ∧ L = xs.length ∧ pub ≤ k ∧ row.length = i.size ∧ off + i.size ≤ sz then some [(.arr id, some (.arr e sz (xs.set k (ovw sz (xs.getD k []) off row)) pub))] else none
   | _, _ => none
 | _ => none
def bandN (k : IntKind) (a b : Int) : Int := (BitVec.ofInt k.bits a &&& BitVec.ofInt k.bits b).toNat
def borN (k : IntKind) (a b : Int) : Int := (BitVec.ofInt k.bits a ||| BitVec.ofInt k.bits b).toNat
def bxorN (k : IntKind) (a b : Int) : Int := (BitVec.ofInt k.bits a ^^^ BitVec.ofInt k.bits b).toNat
def intBin : BinOp → IntKind → Int → Int → Option Value
 | .add, k, a, b => some (.int k (k.wrap (a + b)))
 | .sub, k, a, b => some (.int k (k.wrap (a - b)))
 | .mul, k, a, b => some (.int k (k.wrap (a * b)))
 | .eql, _, a, b => some (.bool (a == b))
 | .neq, _, a, b => some (.bool (a != b))
 | .lss, _, a, b => some (.bool (decide (a < b)))
 | .leq, _, a, b => some (.bool (decide (a ≤ b)))
 | .gtr, _, a, b => some (.bool (decide (a > b)))
 | .geq, _, a, b => some (.bool (decide (a ≥ b)))
 | .and, k, a, b => some (.int k (k.wrap (bandN k a b)))
 | .or, k, a, b => some (.int k (k.wrap (borN k a b)))
 | .xor, k, a, b => some (.int k (k.wrap (bxorN k a b)))
 | .quo, k, a, b => if b = 0 then none else some (.int k (k.wrap (a.tdiv b)))
 | .rem, k, a, b => if b = 0 then none else some (.int k (a.tmod b))
 | _, _, _, _ => none
def strBin : BinOp → ByteArray → ByteArray → Option Value
 | .eql, a, b => some (.bool (a.toList == b.toList))
 | .neq, a, b => some (.bool (!(a.toList == b.toList)))
 | .lss, a, b => some (.bool (Op.bytesLess a.toList b.toList))
 | .gtr, a, b => some (.bool (!(Op.bytesLess a.toList b.toList || a.toList == b.toList)))
 | _, _, _ => none
def isShift : BinOp → Bool
 | .shl => true
 | .shr => true
 | _ => false
def shiftBin (op : BinOp) (k : IntKind) (a b : Int) : Option Value :=
 if 0 ≤ b then (match op with
   | .shl => some (.int k (k.wrap (a * 2 ^ (min b.toNat k.bits))))
   | .shr => some (.int k (a.fdiv (2 ^ (min b.toNat k.bits))))
   | _ => none) else none
def scalarBin (op : BinOp) : Value → Value → Option Value
 | .int k a, .int k' b => if isShift op = true then shiftBin op k a b else if k = k' then intBin op k a b else none
 | .string a, .string b => strBin op a b
 | _, _ => none
def scalarEq : TK → AV → AV → Option Bool
 | .bool, .p (.v (.bool a)), .p (.v (.bool b)) => some (a == b)
 | .int _, .p (.v (.int k a)), .p (.v (.int k' b)) => if k = k' then some (a == b) else none
 | .str, .p (.v (.string a)), .p (.v (.string b)) => some (a.toList == b.toList)
 | _, _, _ => none
def allSome {α : Type} : List (Option α) → Option (List α)
 | [] => some []
 | some a :: r => (allSome r).map (a :: ·)
 | none :: _ => none
def andAll : List Bool → Bool
 | [] => true
 | [b] => b
 | b :: r => b && andAll r
def eqCut (E : Nat → AV → AV → Option Bool) (xs ys : List AV) (ty off : Nat) : Option Bool :=
 match T ty with
 | some j => match cut j xs off, cut j ys off with
   | some a, some b => E ty a b
   | _, _ => none
 | none => none
def eqT : Nat → Nat → AV → AV → Option Bool
 | 0, _, _, _ => none
 | d + 1, ty, x, y => match T ty with
   | none => none
   | some i => match i.k, x, y with
     | .st fs, .agg xs, .agg ys => (allSome (fs.map fun f => eqCut T (eqT d) xs ys f.1 f.2)).map andAll
     | .arr n e, .agg xs, .agg ys => match T e with
       | some j => (allSome ((List.range n).map fun k => eqCut T (eqT d) xs ys e (k * j.size))).map andAll
       | none => none
     | k, x, y => scalarEq k x y
def binF (op : BinOp) (ty : Nat) : AV → AV → Option AV
 | .p (.v (.bool a)), .p (.v (.bool b)) => match T ty with
   | some i => match i.k, op with
     | .bool, .eql => some (vv (.bool (a == b)))
     | .bool, .neq => some (vv (.bool (!(a == b))))
     | _, _ => none
   | none => none
 | .p (.v a), .p (.v b) => (scalarBin op a b).map vv
 | .agg xs, .agg ys => match op with
     | .eql => (eqT T 8 ty (.agg xs) (.agg ys)).map fun b => vv (.bool b)
     | .neq => (eqT T 8 ty (.agg xs) (.agg ys)).map fun b => vv (.bool (!b))
     | _ => none
 | _, _ => none
def unF (op : UnOp) : AV → Option AV
 | .p (.v (.int k n)) => match op with
   | .neg => some (vv (.int k (k.wrap (0 - n))))
   | .xor => some (vv (.int k (k.wrap (bxorN k (if k.signed then -1 else k.max) n))))
   | _ => none
 | .p (.v (.bool b)) => match op with
   | .not => some (vv (.bool (!b)))
   | _ => none
 | _ => none
def pickF (q : Bool) : AV → AV → AV
 | .p (.v (.bool x)), .p (.v (.bool y)) => vv (.bool (if q then x else y))
 | a, b => if q then a else b
def lenF : TK → AV → Option Nat
 | .sl _, .sl _ _ _ n => some n
 | .sl _, .p (.ps xs) => some xs.length
 | .sl _, .psf xs => some xs.length
 | .str, .p (.v (.string s)) => some s.size
 | .arr n _, _ => some n
 | _, _ => none
def maxF : AV → AV → Option AV
 | .p (.v (.int k x)), .p (.v (.int _ y)) => some (vv (.int k (if y > x then y else x)))
 | _, _ => none
def minF : AV → AV → Option AV
 | .p (.v (.int k x)), .p (.v (.int _ y)) => some (vv (.int k (if y < x then y else x)))
 | _, _ => none
def rowsF (t : Sto) : AV → Option (List (List PV))
 | .p (.ps ys) => some ys
 | .psf ys => some ys
 | .sl id L off len => match t (.arr id) with
   | some (.arr _ _ xs _) => if L = xs.length ∧ ¬ (4294967296 ≤ id ∧ id < 8589934592) then some ((xs.drop off).take len) else none
   | _ => none
 | _ => none
def appendF (t : Sto) (nid : Nat) (e : Nat) (i : TI) (s : AV) (ys : List (List PV)) : Option Eff :=
 if 0 < i.size ∧ (∀ row ∈ ys, row.length = i.size) then
   match s with
   | .psf [] => if fresh t nid = true ∧ ys.length * i.bytes ≤ lim ∧ ys.length ≤ lim then some ⟨.sl nid ys.length 0 ys.length, [(.arr nid, some (.arr e i.size ys 0))]⟩ else none
   | .psf (x0 :: r0) => if fresh t nid = true ∧ 0 < ys.length ∧ (∀ row ∈ x0 :: r0, row.length = i.size) ∧ ((x0 :: r0).length + ys.length) * i.bytes ≤ lim ∧ (x0 :: r0).length + ys.length ≤ lim then some ⟨.sl nid ((x0 :: r0).length + ys.length) 0 ((x0 :: r0).length + ys.length), [(.arr nid, some (.arr e i.size (x0 :: r0 ++ ys) 0))]⟩ else none
   | .sl id L off len => match t (.arr id) with
     | some (.arr e' sz xs pub) =>
       if e' = e ∧ sz = i.size ∧ L = xs.length ∧ off = 0 ∧ len = L ∧ (L + ys.length) * i.bytes ≤ lim ∧ L + ys.length ≤ lim then
         some ⟨.sl id (L + ys.length) 0 (L + ys.length), [(.arr id, some (.arr e sz (xs ++ ys) pub))]⟩
       else if e' = e ∧ sz = i.size ∧ L = xs.length ∧ off = 0 ∧ len < L ∧ pub ≤ len ∧ (len + ys.length) * i.bytes ≤ lim ∧ len + ys.length ≤ lim then
         some ⟨.sl id (max L (len + ys.length)) 0 (len + ys.length), [(.arr id, some (.arr e sz (xs.take len ++ ys ++ xs.drop (len + ys.length)) pub))]⟩
       else none
     | _ => none
   | _ => none
 else none
def builtinF (t : Sto) (nid : Nat) (b : Builtin) (tys : List Nat) (args : List AV) : Option Eff :=
 match b, args with
 | .len, [a] => match tys with
   | [ty] => match T ty with
     | some i => (lenF i.k a).map fun (n : Nat) => (⟨vv (.int .i64 (n : Int)), []⟩ : Eff)
     | none => none
   | _ => none
 | .cap, [a] => match tys with
   | [ty] => match T ty with
     | some i => match i.k, a with
       | .sl _, .psf xs => some ⟨vv (.int .i64 (xs.length : Int)), []⟩
       | _, _ => none
     | none => none
   | _ => none
 | .max, [a, b] => (maxF a b).map fun c => ⟨c, []⟩
 | .min, [a, b] => (minF a b).map fun c => ⟨c, []⟩
 | .append, [s, x] => match tys with
   | [ty, ty2] => match T ty, T ty2 with
     | some i, some i2 => match i.k, i2.k with
       | .sl e, .sl _ => match T e, rowsF t x with
         | some j, some ys => appendF t nid e j s ys
         | _, _ => none
       | .sl e, .int _ => match T e, s, x with
         | some j, .psf [], .p (.v (.int _ n)) => match toPVs j.zero with
           | some z => if fresh t nid = true ∧ 0 < n ∧ 0 < j.size ∧ n.toNat * j.bytes ≤ lim ∧ n.toNat ≤ lim then
               some ⟨.sl nid n.toNat 0 n.toNat, [(.arr nid, some (.arr e j.size (List.replicate n.toNat z) 0))]⟩
             else none
           | none => none
         | _, _, _ => none
       | _, _ => none
     | _, _ => none
   | _ => none
 | .copy, [d, x] => match tys with
   | [ty, _] => match T ty with
     | some i => match i.k, d with
       | .sl e, .sl id L off len => match T e, rowsF t x, t (.arr id) with
         | some j, some ys, some (.arr e' sz xs pub) =>
           if e' = e ∧ sz = j.size ∧ L = xs.length ∧ off = 0 ∧ len = L ∧ ys.length = L ∧ pub = 0 ∧ 0 < j.size ∧ (∀ row ∈ ys, row.length = j.size) then
             some ⟨vv (.int .i64 (L : Int)), [(.arr id, some (.arr e sz ys pub))]⟩
           else none
         | _, _, _ => none
       | _, _ => none
     | none => none
   | _ => none
 | .clear, [d] => match tys with
   | [ty] => match T ty with
     | some i => match i.k, d with
       | .sl e, .sl id L off len => match T e, t (.arr id) with
         | some j, some (.arr e' sz xs pub) => match toPVs j.zero with
           | some z => if e' = e ∧ sz = j.size ∧ L = xs.length ∧ off + len = L ∧ pub ≤ off ∧ 0 < j.size then
               some ⟨.tup [], [(.arr id, some (.arr e sz (xs.take off ++ List.replicate len z) pub))]⟩
             else none
           | none => none
         | _, _ => none
       | _, _ => none
     | none => none
   | _ => none
 | _, _ => none
def idxF (t : Sto) (i : TI) (k : Int) : AV → Option AV
 | .ptr id off => match i.k with
   | .arr n e => match T e with
     | some j => if 0 ≤ k ∧ k < n then some (.ptr id (off + k.toNat * j.size)) else none
     | none => none
   | _ => none
 | .eptr id L q off => match i.k with
   | .arr n e => match T e with
     | some j => if 0 ≤ k ∧ k < n then some (.eptr id L q (off + k.toNat * j.size)) else none
     | none => none
   | _ => none
 | .p (.pp cs) => match i.k with
   | .arr n e => match T e with
     | some j => if 0 ≤ k ∧ k < n then some (.p (.pp (cs.drop (k.toNat * j.size)))) else none
     | none => none
   | _ => none
 | .p (.ps xs) => match i.k with
   | .sl e => match T e with
     | some j => if 0 ≤ k ∧ k < xs.length ∧ (xs.getD k.toNat []).length = j.size then some (.p (.pp (xs.getD k.toNat []))) else none
     | none => none
   | _ => none
 | .psf xs => match i.k with
   | .sl e => match T e with
     | some j => if 0 ≤ k ∧ k < xs.length ∧ (xs.getD k.toNat []).length = j.size then some (.p (.pp (xs.getD k.toNat []))) else none
     | none => none
   | _ => none
 | .sl id L off len => match i.k, t (.arr id) with
   | .sl e, some (.arr _ sz xs _) => match T e with
     | some j => if 0 ≤ k ∧ k < len ∧ sz = j.size ∧ L = xs.length then some (.eptr id L (off + k.toNat) 0) else none
     | none => none
   | _, _ => none
 | _ => none
def natOf : Option AV → Nat → Option Nat
 | none, d => some d
 | some (.p (.v (.int _ k))), _ => if 0 ≤ k then some k.toNat else none
 | _, _ => none
def sliceP (es : Nat) (xs : List (List PV)) (full : Bool) (lo hi mx : Option AV) : Option AV :=
 match natOf lo 0, natOf hi xs.length, mx with
   | some l, some h, none => if l ≤ h ∧ h ≤ xs.length ∧ (∀ row ∈ xs, row.length = es) then
       (if full = true ∧ h = xs.length then some (.psf (xs.drop l)) else some (.p (.ps ((xs.drop l).take (h - l))))) else none
   | some l, some h, some m => if l ≤ h ∧ h ≤ xs.length ∧ hi.isSome = true ∧ natOf (some m) 0 = some h ∧ (∀ row ∈ xs, row.length = es) then some (.psf ((xs.drop l).take (h - l))) else none
   | _, _, _ => none
def sliceF (t : Sto) (i : TI) (lo hi mx : Option AV) : AV → Option AV
 | .p (.ps xs) => match i.k with
   | .sl e => match T e with
     | some j => sliceP j.size xs false lo hi mx
     | none => none
   | _ => none
 | .p (.pp cs) => match i.k with
   | .arr n e => match T e with
     | some j => if j.size = 1 ∧ n ≤ cs.length ∧ lo.isNone = true ∧ hi.isNone = true ∧ mx.isNone = true then some (.psf ((cs.take n).map fun c => [c])) else none
     | none => none
   | _ => none
 | .psf xs => match i.k with
   | .sl e => match T e with
     | some j => sliceP j.size xs true lo hi mx
     | none => none
   | _ => none
 | .sl id L off len => match i.k, t (.arr id) with
   | .sl e, some (.arr _ sz ys _) => match T e with
     | some j => match natOf lo 0, natOf hi len, mx with
       | some l, some h, none => if l ≤ h ∧ h ≤ len ∧ sz = j.size ∧ L = ys.length then some (.sl id L (off + l) (h - l)) else none
       | _, _, _ => none
     | none => none
   | _, _ => none
 | .p (.v (.string s)) => match i.k, natOf lo 0, natOf hi s.size, mx with
   | .str, some l, some h, none => if l ≤ h ∧ h ≤ s.size then some (vv (.string (s.extract l h))) else none
   | _, _, _, _ => none
 | _ => none
def optEv (t : Sto) : Option Operand → Option (Option AV)
 | none => some none
 | some x => (ev t x).map some
def evalOp (t : Sto) (nid : Nat) : Op → Option Eff
 | .move x => (ev t x).map fun a => ⟨a, []⟩
 | .assign x => (ev t x).map fun a => ⟨a, []⟩
 | .pick c a b => match ev t c, ev t a, ev t b with
   | some (.p (.v (.bool q))), some a, some b => some ⟨pickF q a b, []⟩
   | _, _, _ => none
 | .alloc e => match T e with
   | some i => if fresh t nid = true then some ⟨.ptr nid 0, (.var nid, some (.n i.zero.length)) :: putCells nid 0 i.zero⟩ else none
   | none => none
 | .box e x => match T e, ev t x with
   | some _, some a => if a.ok = true ∧ fresh t nid = true then some ⟨.ptr nid 0, (.var nid, some (.n a.cells.length)) :: putCells nid 0 a.cells⟩ else none
   | _, _ => none
 | .build ty ps => match T ty with
   | some i => if buildable T i.k = true then (fillC T i t i.zero ps.toList).map fun cs => ⟨.agg cs, []⟩ else none
   | none => none
 | .buildSlice ty len ps => match T ty with
   | some i => match i.k with
     | .sl e => match T e with
       | some j => match toPVs j.zero with
         | some z => if fresh t nid = true ∧ 0 < j.size ∧ len * j.size ≤ 16777216 then
             (fillR t j.size (List.replicate len z) ps.toList).map fun rows => ⟨.psf rows, []⟩
           else none
         | none => none
       | none => none
     | _ => none
   | none => none
 | .load ty x => match T ty, ev t x with
   | some i, some a => (loadF t i a).map fun r => ⟨r, []⟩
   | _, _ => none
 | .store ty x y => match T ty, ev t x, ev t y with
   | some i, some a, some b => (storeF t i b a).map fun u => ⟨.any, u⟩
   | _, _, _ => none
 | .nilCheck x => match ev t x with
   | some (.ptr id off) => some ⟨.ptr id off, []⟩
   | some (.eptr id L k off) => some ⟨.eptr id L k off, []⟩
   | some (.p (.pp cs)) => some ⟨.p (.pp cs), []⟩
   | some (.fn (.func f) cap) => some ⟨.fn (.func f) cap, []⟩
   | _ => none
 | .binOp op ty x y _ => match ev t x, ev t y with
   | some a, some b => (binF T op ty a b).map fun r => ⟨r, []⟩
   | _, _ => none
 | .unOp op _ x => match ev t x with
   | some a => (unF op a).map fun r => ⟨r, []⟩
   | none => none
 | .convert s d x => match T s, T d, ev t x with
   | some _, some i, some (.p (.v (.int _ n))) => match i.k with
     | .int k => some ⟨vv (.int k (k.wrap n)), []⟩
     | _ => none
   | some _, some i, some (.p (.v (.string b))) => match i.k with
     | .str => some ⟨vv (.string b), []⟩
     | _ => none
   | _, _, _ => none
 | .makeFunc f first cap => if first.toList = [] then (evs t cap.toList).map fun l => ⟨.fn f l, []⟩ else none
 | .makeSlice ty l c => match T ty, ev t l, ev t c with
   | some i, some (.p (.v (.int _ n))), some (.p (.v (.int _ m))) => match i.k with
     | .sl e => match T e with
       | some j => match toPVs j.zero with
         | some z => if fresh t nid = true ∧ 0 ≤ n ∧ n ≤ m ∧ 0 < j.size ∧ m.toNat * j.bytes ≤ lim ∧ m.toNat ≤ lim then
             some ⟨.sl nid n.toNat 0 n.toNat, [(.arr nid, some (.arr e j.size (List.replicate n.toNat z) 0))]⟩
           else none
         | none => none
       | none => none
     | _ => none
   | _, _, _ => none
 | .slice ty x lo hi mx => match T ty, ev t x, optEv t lo, optEv t hi, optEv t mx with
   | some i, some a, some lo, some hi, some mx => (sliceF T t i lo hi mx a).map fun r => ⟨r, []⟩
   | _, _, _, _, _ => none
 | .fieldAddr ty x f => match T ty, ev t x with
   | some i, some a => match i.k, place T i f with
     | .st _, some q => if q.2.size = 0 then none else match a with
       | .ptr id off => some ⟨.ptr id (off + q.1), []⟩
       | .eptr id L k off => some ⟨.eptr id L k (off + q.1), []⟩
       | .p (.pp cs) => some ⟨.p (.pp (cs.drop q.1)), []⟩
       | _ => none
     | _, _ => none
   | _, _ => none
 | .field ty x f => match T ty, ev t x with
   | some i, some (.agg cs) => match i.k, place T i f with
     | .st _, some q => (cut q.2 cs q.1).map fun r => ⟨r, []⟩
     | _, _ => none
   | _, _ => none
 | .indexAddr ty x ix => match T ty, ev t x, ev t ix with
   | some i, some a, some (.p (.v (.int _ k))) => (idxF T t i k a).map fun r => ⟨r, []⟩
   | _, _, _ => none
 | .extract x k => match ev t x with
   | some (.tup cs) => (cs[k]?).map fun a => ⟨a, []⟩
   | _ => none
 | .call { callee := .builtin b, args, argTypes } => match evs t args.toList with
   | some l => builtinF T t nid b argTypes.toList l
   | none => none
 | _ => none
end
end Go.Flat
end
section
set_option linter.unusedVariables false
set_option linter.unusedSimpArgs false
namespace Go.Flat
abbrev Ren := Nat → Option Nat
inductive PR (w : World) (S : Nat → Nat → Prop) : PV → Value → Prop
 | v {x : Value} (h : x.oneCell' = true) : PR w S (.v x) x
 | pz {a : Option Addr} : PR w S .pz (.slice a 0 0)
 | nil {a : Option Addr} {c : Nat} : PR w S (.ps []) (.slice a 0 c)
 | ps {xs : List (List PV)} {b o c sz : Nat} (val : Nat → Nat → Value) (hl : xs.length ≤ c) (hsz : ∀ row ∈ xs, row.length = sz)
     (hc : ∀ (i : Nat) (row : List PV), xs[i]? = some row → ∀ (j : Nat) (x : PV), row[j]? = some x → w.cell? ⟨b, o + i * sz + j, none⟩ = some (val i j))
     (hS : ∀ (i : Nat) (row : List PV), xs[i]? = some row → ∀ (j : Nat) (x : PV), row[j]? = some x → S b (o + i * sz + j))
     (hR : ∀ (i : Nat) (row : List PV), xs[i]? = some row → ∀ (j : Nat) (x : PV), row[j]? = some x → PR w S x (val i j)) :
     PR w S (.ps xs) (.slice (some ⟨b, o, none⟩) xs.length c)
 | pp {cs : List PV} {b o : Nat} (val : Nat → Value)
     (hc : ∀ (j : Nat) (x : PV), cs[j]? = some x → w.cell? ⟨b, o + j, none⟩ = some (val j))
     (hS : ∀ (j : Nat) (x : PV), cs[j]? = some x → S b (o + j))
     (hR : ∀ (j : Nat) (x : PV), cs[j]? = some x → PR w S x (val j)) :
     PR w S (.pp cs) (.pointer (some ⟨b, o, none⟩))
theorem PR.one {w : World} {S : Nat → Nat → Prop} {x : PV} {v : Value} (h : PR w S x v) : v.oneCell' = true := by
 cases h <;> first | assumption | rfl
theorem PR.mono {w w' : World} {S S' : Nat → Nat → Prop} (h : ∀ b o u, S b o → w.cell? ⟨b, o, none⟩ = some u → w'.cell? ⟨b, o, none⟩ = some u ∧ S' b o)
   {x : PV} {v : Value} (hp : PR w S x v) : PR w' S' x v := by
 induction hp with
 | v h1 => exact .v h1
 | pz => exact .pz
 | nil => exact .nil
 | ps val hl hsz hc hS hR ih =>
   exact .ps val hl hsz (fun i row hi j x hj => (h _ _ _ (hS i row hi j x hj) (hc i row hi j x hj)).1) (fun i row hi j x hj => (h _ _ _ (hS i row hi j x hj) (hc i row hi j x hj)).2) ih
 | pp val hc hS hR ih =>
   exact .pp val (fun j x hj => (h _ _ _ (hS j x hj) (hc j x hj)).1) (fun j x hj => (h _ _ _ (hS j x hj) (hc j x hj)).2) ih
def live (t : Sto) (id : Nat) : Prop := t (.var id) ≠ none ∨ t (.arr id) ≠ none
def Stb (F : Nat → Nat → Prop) (ρ : Ren) (t : Sto) (b o : Nat) : Prop :=
 ¬ F b o ∧ ∀ id, ρ id = some b → t (.var id) = none ∧ ∀ e sz xs pub, t (.arr id) = some (.arr e sz xs pub) → o < pub * sz
def SlOK (ρ : Ren) (t : Sto) (w : World) (id L off len : Nat) (v : Value) : Prop :=
 ∃ e sz xs pub, t (.arr id) = some (.arr e sz xs pub) ∧ L ≤ xs.length ∧ ∃ a c, v = .slice a len c ∧
   (xs.length = L → off + len ≤ L ∧ len ≤ c ∧ L ≤ off + c ∧ (c = 0 ∨ ∃ b n, ρ id = some b ∧ a = some ⟨b, off * sz, none⟩ ∧ w.shape? b = some (e, n) ∧ (off + c) * sz ≤ n))
def EpOK (ρ : Ren) (t : Sto) (id L i off : Nat) (v : Value) : Prop :=
 ∃ e sz xs pub, t (.arr id) = some (.arr e sz xs pub) ∧ L ≤ xs.length ∧ i < L ∧ ∃ a : Addr, v = .pointer (some a) ∧
   (xs.length = L → ρ id = some a.block ∧ a.off = i * sz + off ∧ a.spot = none)
inductive AR (F : Nat → Nat → Prop) (ρ : Ren) (t : Sto) (w : World) : AV → Value → Prop
 | any {v : Value} : AR F ρ t w .any v
 | p {x : PV} {v : Value} (h : PR w (Stb F ρ t) x v) : AR F ρ t w (.p x) v
 | psf {xs : List (List PV)} {a : Option Addr} {n : Nat} (h : PR w (Stb F ρ t) (.ps xs) (.slice a n n)) : AR F ρ t w (.psf xs) (.slice a n n)
 | ptr {id off b : Nat} (hl : t (.var id) ≠ none) (h : ρ id = some b) : AR F ρ t w (.ptr id off) (.pointer (some ⟨b, off, none⟩))
 | sl {id L off len : Nat} {v : Value} (h : SlOK ρ t w id L off len v) : AR F ρ t w (.sl id L off len) v
 | eptr {id L i off : Nat} {v : Value} (h : EpOK ρ t id L i off v) : AR F ρ t w (.eptr id L i off) v
 | fn {f : Fn} {cap : List AV} {vs : Array Value} (hn : vs.size = cap.length) (h : ∀ (j : Nat) (a : AV) (v : Value), cap[j]? = some a → vs[j]? = some v → AR F ρ t w a v) : AR F ρ t w (.fn f cap) (.func f #[] vs)
 | agg {cs : List AV} {vs : Array Value} (hn : vs.size = cs.length) (h1 : ∀ v ∈ vs, v.oneCell' = true) (h : ∀ (j : Nat) (a : AV) (v : Value), cs[j]? = some a → vs[j]? = some v → AR F ρ t w a v) : AR F ρ t w (.agg cs) (.agg vs)
 | tup {cs : List AV} {vs : Array Value} (hn : vs.size = cs.length) (h : ∀ (j : Nat) (a : AV) (v : Value), cs[j]? = some a → vs[j]? = some v → AR F ρ t w a v) : AR F ρ t w (.tup cs) (.tuple vs)
structure Ext (F : Nat → Nat → Prop) (ρ : Ren) (t : Sto) (w : World) (ρ' : Ren) (t' : Sto) (w' : World) : Prop where
 os : w'.os = w.os
 tape : w'.tape = w.tape
 output : w'.output = w.output
 size : w.heap.size ≤ w'.heap.size
 var : ∀ id, t (.var id) ≠ none → t' (.var id) ≠ none ∧ ρ' id = ρ id
 arr : ∀ id e sz xs pub, t (.arr id) = some (.arr e sz xs pub) → ∃ xs' pub', t' (.arr id) = some (.arr e sz xs' pub') ∧ xs.length ≤ xs'.length ∧
   (xs'.length = xs.length → ρ' id = ρ id ∧ ∀ b s, ρ id = some b → w.shape? b = some s → w'.shape? b = some s)
 stb : ∀ b o u, Stb F ρ t b o → w.cell? ⟨b, o, none⟩ = some u → w'.cell? ⟨b, o, none⟩ = some u ∧ Stb F ρ' t' b o
theorem Ext.refl (F : Nat → Nat → Prop) (ρ : Ren) (t : Sto) (w : World) : Ext F ρ t w ρ t w :=
 ⟨rfl, rfl, rfl, Nat.le_refl _, fun _ h => ⟨h, rfl⟩, fun _ _ _ xs pub h => ⟨xs, pub, h, Nat.le_refl _, fun _ => ⟨rfl, fun _ _ _ h => h⟩⟩, fun _ _ _ h hc => ⟨hc, h⟩⟩
theorem Ext.trans {F : Nat → Nat → Prop} {ρ ρ' ρ'' : Ren} {t t' t'' : Sto} {w w' w'' : World} (h : Ext F ρ t w ρ' t' w') (k : Ext F ρ' t' w' ρ'' t'' w'') : Ext F ρ t w ρ'' t'' w'' := by
 refine ⟨k.os.trans h.os, k.tape.trans h.tape, k.output.trans h.output, Nat.le_trans h.size k.size, ?_, ?_, ?_⟩
 · intro id hv
   obtain ⟨h1, h2⟩ := h.var id hv; obtain ⟨k1, k2⟩ := k.var id h1; exact ⟨k1, k2.trans h2⟩
 · intro id e sz xs pub ha
   obtain ⟨xs', pub', h1, h2, h3⟩ := h.arr id e sz xs pub ha; obtain ⟨xs'', pub'', k1, k2, k3⟩ := k.arr id e sz xs' pub' h1; refine ⟨xs'', pub'', k1, Nat.le_trans h2 k2, fun he => ?_⟩
   obtain ⟨k4, k5⟩ := k3 (by omega)
   obtain ⟨h4, h5⟩ := h3 (by omega)
   exact ⟨k4.trans h4, fun b s hb hs => k5 b s (h4.trans hb) (h5 b s hb hs)⟩
 · intro b o u hs hc
   obtain ⟨h1, h2⟩ := h.stb b o u hs hc; exact k.stb b o u h2 h1
def PQ (F : Nat → Nat → Prop) (ρ : Ren) (t : Sto) (w : World) (id : Nat) (x : PV) (u : Value) : Prop :=
 PR w (Stb F ρ t) x u ∨ ((4294967296 ≤ id ∧ id < 8589934592) ∧ ∃ k L off len, x = .han k L off len ∧ 8589934592 ≤ k ∧ SlOK ρ t w k L off len u)
theorem PQ.pr {F : Nat → Nat → Prop} {ρ : Ren} {t : Sto} {w : World} {id : Nat} {x : PV} {u : Value} (h : PQ F ρ t w id x u) (hid : ¬ (4294967296 ≤ id ∧ id < 8589934592)) : PR w (Stb F ρ t) x u :=
 h.resolve_right fun q => hid q.1
theorem PQ.one {F : Nat → Nat → Prop} {ρ : Ren} {t : Sto} {w : World} {id : Nat} {x : PV} {u : Value} (h : PQ F ρ t w id x u) : u.oneCell' = true := by
 rcases h with h | ⟨_, k, L, off, len, _, _, e, sz, xs, pub, _, _, a, c, rfl, _⟩
 · exact h.one
 · rfl
theorem PQ.up {F : Nat → Nat → Prop} {ρ : Ren} {t : Sto} {w : World} {id : Nat} {x : PV} {u : Value} (h : PQ F ρ t w id x u) : AR F ρ t w x.up u := by
 rcases h with h | ⟨_, k, L, off, len, rfl, _, h⟩
 · cases h with
   | v h => exact .p (.v h)
   | pz => exact .psf .nil
   | nil => exact .p .nil
   | ps val hl hsz hc hS hR => exact .p (.ps val hl hsz hc hS hR)
   | pp val hc hS hR => exact .p (.pp val hc hS hR)
 · exact .sl h
section
variable {F : Nat → Nat → Prop} {ρ ρ' : Ren} {t t' : Sto} {w w' : World}
theorem SlOK.ext (h : Ext F ρ t w ρ' t' w') {id L off len : Nat} {v : Value} (hs : SlOK ρ t w id L off len v) : SlOK ρ' t' w' id L off len v := by
 obtain ⟨e, sz, xs, pub, ha, hL, a, c, rfl, hq⟩ := hs; obtain ⟨xs', pub', h1, h2, h3⟩ := h.arr _ _ _ _ _ ha; refine ⟨e, sz, xs', pub', h1, by omega, a, c, rfl, fun he => ?_⟩
 obtain ⟨q1, q2, q4, q3⟩ := hq (by omega)
 obtain ⟨h4, h5⟩ := h3 (by omega)
 refine ⟨q1, q2, q4, ?_⟩; rcases q3 with q3 | ⟨b, n, g1, g2, g3, g4⟩
 · exact .inl q3
 · exact .inr ⟨b, n, h4.trans g1, g2, h5 b _ g1 g3, g4⟩
theorem PR.ext (h : Ext F ρ t w ρ' t' w') {x : PV} {v : Value} (hp : PR w (Stb F ρ t) x v) : PR w' (Stb F ρ' t') x v := hp.mono h.stb
theorem AR.ext (h : Ext F ρ t w ρ' t' w') {a : AV} {v : Value} (hp : AR F ρ t w a v) : AR F ρ' t' w' a v := by
 induction hp with
 | any => exact .any
 | p hx => exact .p (hx.ext h)
 | psf hx => exact .psf (hx.ext h)
 | ptr hl hb =>
   obtain ⟨h1, h2⟩ := h.var _ hl; exact .ptr h1 (h2.trans hb)
 | sl hs => exact .sl (hs.ext h)
 | eptr hs =>
   obtain ⟨e, sz, xs, pub, ha, hL, hi, a, rfl, hq⟩ := hs; obtain ⟨xs', pub', h1, h2, h3⟩ := h.arr _ _ _ _ _ ha; refine .eptr ⟨e, sz, xs', pub', h1, by omega, hi, a, rfl, fun he => ?_⟩
   obtain ⟨q1, q2, q3⟩ := hq (by omega)
   obtain ⟨h4, h5⟩ := h3 (by omega)
   exact ⟨h4.trans q1, q2, q3⟩
 | fn hn _ ih => exact .fn hn ih
 | agg hn h1 _ ih => exact .agg hn h1 ih
 | tup hn _ ih => exact .tup hn ih
theorem PQ.ext (h : Ext F ρ t w ρ' t' w') {id : Nat} {x : PV} {v : Value} (hp : PQ F ρ t w id x v) : PQ F ρ' t' w' id x v := by
 rcases hp with hp | ⟨h1, k, L, off, len, e, h2, hs⟩
 · exact .inl (hp.ext h)
 · exact .inr ⟨h1, k, L, off, len, e, h2, hs.ext h⟩
end
structure RelO (F : Nat → Nat → Prop) (ρ : Ren) (t : Sto) (w : World) : Prop where
 var : ∀ id c, t (.var id) = some c → ∃ n b cs e, c = .n n ∧ ρ id = some b ∧ w.heap[b]? = some (.cells cs e (0, 0)) ∧ cs.size = n
 cell : ∀ id j c, t (.cell id j) = some c → ∃ a n b u, c = .av a ∧ t (.var id) = some (.n n) ∧ j < n ∧ ρ id = some b ∧ w.cell? ⟨b, j, none⟩ = some u ∧ AR F ρ t w a u ∧ u.oneCell' = true
 arr : ∀ id c, t (.arr id) = some c → ∃ e sz xs pub, c = .arr e sz xs pub ∧ 0 < sz ∧ pub ≤ xs.length ∧ (∀ row ∈ xs, row.length = sz) ∧
   ((ρ id = none ∧ xs = []) ∨ ∃ b cs, ρ id = some b ∧ w.heap[b]? = some (.cells cs e (0, 0)) ∧ xs.length * sz ≤ cs.size ∧
     ∀ (i : Nat) (row : List PV), xs[i]? = some row → ∀ (j : Nat) (x : PV), row[j]? = some x → ∃ u, cs[i * sz + j]? = some u ∧ PQ F ρ t w id x u)
 inj : ∀ id id' b, live t id → live t id' → ρ id = some b → ρ id' = some b → id = id'
 excl : ∀ id, t (.var id) ≠ none → t (.arr id) = none
 apart : ∀ id b o, live t id → ρ id = some b → ¬ F b o
 bound : ∀ b o, F b o → b < w.heap.size
structure Start where
 ρ : Ren
 t : Sto
 w : World
 n : Nat
 d : List Deferred
structure Rel (F : Nat → Nat → Prop) (G : Start) (ρ : Ren) (t : Sto) (a : Act) (w : World) : Prop where
 o : RelO F ρ t w
 tmp : ∀ k c, t (.tmp k) = some c → ∃ x, c = .av x ∧ AR F ρ t w x (a.tmps.getD k undef)
 siz : a.tmps.size = G.n
 dfr : a.defers = G.d
 ext : Ext F G.ρ G.t G.w ρ t w
 own : ∀ id b, live t id → ρ id = some b → (live G.t id ∧ G.ρ id = some b) ∨ G.w.heap.size ≤ b
 frm : ∀ b, b < G.w.heap.size → (∀ id, live G.t id → G.ρ id ≠ some b) → w.heap[b]? = G.w.heap[b]?
@[simp] theorem upd_same (t : Sto) (l : Loc) (c : Option C) : upd t l c l = c := by simp [upd]
theorem upd_ne (t : Sto) {l l' : Loc} (c : Option C) (h : l' ≠ l) : upd t l c l' = t l' := by simp [upd, h]
theorem Ext.tmps {F : Nat → Nat → Prop} {ρ : Ren} {t t' : Sto} {w : World} (hv : ∀ id, t' (.var id) = t (.var id)) (ha : ∀ id, t' (.arr id) = t (.arr id)) : Ext F ρ t w ρ t' w :=
 ⟨rfl, rfl, rfl, Nat.le_refl _, fun _ h => ⟨by rw [hv]; exact h, rfl⟩, fun id e sz xs pub h => ⟨xs, pub, by rw [ha]; exact h, Nat.le_refl _, fun _ => ⟨rfl, fun _ _ _ h => h⟩⟩,
   fun b o u h hc => ⟨hc, h.1, fun id hb => by rw [hv, ha]; exact h.2 id hb⟩⟩
theorem live_congr {t t' : Sto} (hv : ∀ id, t' (.var id) = t (.var id)) (ha : ∀ id, t' (.arr id) = t (.arr id)) (id : Nat) : live t' id ↔ live t id := by simp [live, hv, ha]
theorem RelO.tmps {F : Nat → Nat → Prop} {ρ : Ren} {t t' : Sto} {w : World} (h : RelO F ρ t w) (hv : ∀ id, t' (.var id) = t (.var id)) (ha : ∀ id, t' (.arr id) = t (.arr id)) (hc : ∀ id j, t' (.cell id j) = t (.cell id j)) : RelO F ρ t' w := by
 have hE : Ext F ρ t w ρ t' w := .tmps hv ha; refine ⟨?_, ?_, ?_, ?_, ?_, ?_, h.bound⟩
 · intro id c h1; rw [hv] at h1; exact h.var id c h1
 · intro id j c h1
   rw [hc] at h1; obtain ⟨a, n, b, u, e1, e2, e3, e4, e5, e6, e7⟩ := h.cell id j c h1; exact ⟨a, n, b, u, e1, by rw [hv]; exact e2, e3, e4, e5, e6.ext hE, e7⟩
 · intro id c h1
   rw [ha] at h1; obtain ⟨e, sz, xs, pub, rfl, q1, q2, q3, q4⟩ := h.arr id c h1; refine ⟨e, sz, xs, pub, rfl, q1, q2, q3, ?_⟩; rcases q4 with q4 | ⟨b, cs, q4, q5, q6, q7⟩
   · exact .inl q4
   · exact .inr ⟨b, cs, q4, q5, q6, fun i row hi j x hj => by obtain ⟨u, u1, u2⟩ := q7 i row hi j x hj; exact ⟨u, u1, u2.ext hE⟩⟩
 · intro id id' b h1 h2; rw [live_congr hv ha] at h1 h2; exact h.inj id id' b h1 h2
 · intro id h1; rw [hv] at h1; rw [ha]; exact h.excl id h1
 · intro id b o h1; rw [live_congr hv ha] at h1; exact h.apart id b o h1
theorem Rel.put {F : Nat → Nat → Prop} {G : Start} {ρ : Ren} {t : Sto} {a : Act} {w : World} (h : Rel F G ρ t a w) {d : Nat} {x : AV} {v : Value} (hd : d < G.n) (hx : AR F ρ t w x v) :
   Rel F G ρ (upd t (.tmp d) (some (.av x))) (a.put (some d) v) w := by
 have hv : ∀ id, upd t (.tmp d) (some (.av x)) (.var id) = t (.var id) := fun id => upd_ne _ _ (by simp)
 have ha : ∀ id, upd t (.tmp d) (some (.av x)) (.arr id) = t (.arr id) := fun id => upd_ne _ _ (by simp)
 have hc : ∀ id j, upd t (.tmp d) (some (.av x)) (.cell id j) = t (.cell id j) := fun id j => upd_ne _ _ (by simp)
 have hE : Ext F ρ t w ρ (upd t (.tmp d) (some (.av x))) w := .tmps hv ha; refine ⟨h.o.tmps hv ha hc, ?_, by simp [Act.put, h.siz], h.dfr, h.ext.trans hE, ?_, h.frm⟩
 · intro k c hk
   by_cases e : k = d
   · subst e
     simp at hk; refine ⟨x, hk.symm, ?_⟩
     have : (a.put (some k) v).tmps.getD k undef = v := by
       have : k < a.tmps.size := by rw [h.siz]; exact hd
       simp [Act.put, this]
     rw [this]; exact hx.ext hE
   · rw [upd_ne _ _ (by simpa using e)] at hk
     obtain ⟨y, hy, hr⟩ := h.tmp k c hk; refine ⟨y, hy, ?_⟩
     have : (a.put (some d) v).tmps.getD k undef = a.tmps.getD k undef := by
       simp [Act.put, Array.getElem?_setIfInBounds, Ne.symm e]
     rw [this]; exact hr.ext hE
 · intro id b hl; rw [live_congr hv ha] at hl; exact h.own id b hl
end Go.Flat
end
section
set_option linter.unusedVariables false
set_option linter.unusedSimpArgs false
namespace Go.Flat
def kindOf (P : Program) (t : TypeId) : TypeDesc → Option TK
 | .int k => some (.int k)
 | .bool => some .bool
 | .string => some .str
 | .pointer e => some (.ptr e)
 | .slice e => some (.sl e)
 | .array n e => if P.eqGuardType P.depth t then none else some (.arr n e)
 | .struct fs => if (fs.toList.all (fun f => f.name != "_") && fs.toList.all (fun f => (P.info? f.type).isSome)) && !P.stoodInHeld t && !P.eqGuardType P.depth t then some (.st (fs.toList.map fun f => (f.type, f.offset))) else none
 | .func _ _ _ => some .fn
 | .map _ _ => some .other
 | _ => none
def tyOf (P : Program) (t : TypeId) : Option TI :=
 match P.info? t, P.underlying t with
 | some i, some d => match kindOf P t d, i.zero with
   | some k, some z => match scalarCs z.cells.toList with
     | some zs => if z.cells.size = i.size then some ⟨k, i.size, i.bytes, zs⟩ else none
     | none => none
   | _, _ => none
 | _, _ => none
structure TyFacts (P : Program) (t : TypeId) (i : TI) where
 inf : TypeInfo
 d : TypeDesc
 z : Value
 hi : P.info? t = some inf
 hd : P.underlying t = some d
 hk : kindOf P t d = some i.k
 hz : inf.zero = some z
 hzs : scalarCs z.cells.toList = some i.zero
 hzn : z.cells.size = i.size
 hsz : inf.size = i.size
 hby : inf.bytes = i.bytes
theorem tyOf_facts {P : Program} {t : TypeId} {i : TI} (h : tyOf P t = some i) : Nonempty (TyFacts P t i) := by
 unfold tyOf at h; split at h
 · rename_i inf d hi hd
   split at h
   · rename_i k z hk hz
     split at h
     · rename_i zs hzs
       split at h
       · rename_i hn
         simp only [Option.some.injEq] at h; subst h; exact ⟨⟨inf, d, z, hi, hd, hk, hz, hzs, hn, rfl, rfl⟩⟩
       · simp at h
     · simp at h
   · simp at h
 · simp at h
section
variable {P : Program} {F : Nat → Nat → Prop} {G : Start} {ρ : Ren} {t : Sto} {a : Act} {w : World}
theorem scalarC_ar {v : Value} {x : AV} (h : scalarC v = some x) : AR F ρ t w x v ∧ v.oneCell' = true := by
 unfold scalarC at h; split at h
 · simp at h
 · simp at h
 · simp only [Option.some.injEq] at h; subst h; exact ⟨.psf .nil, rfl⟩
 · simp at h
 · rename_i h1 h2 h3 h4
   simp only [Option.some.injEq] at h; subst h; have : v.oneCell' = true := by cases v <;> first | rfl | exact absurd rfl (h1 _) | exact absurd rfl (h2 _)
   exact ⟨.p (.v this), this⟩
theorem scalarCs_ar : ∀ {vs : List Value} {xs : List AV}, scalarCs vs = some xs → xs.length = vs.length ∧ (∀ v ∈ vs, v.oneCell' = true) ∧ ∀ (j : Nat) (x : AV) (v : Value), xs[j]? = some x → vs[j]? = some v → AR F ρ t w x v
 | [], xs, h => by simp [scalarCs] at h; subst h; simp
 | v :: vs, xs, h => by
   simp only [scalarCs] at h; split at h
   · rename_i x hx
     cases hr : scalarCs vs with
     | none => simp [hr] at h
     | some ys =>
       simp only [hr, Option.map_some, Option.some.injEq] at h; subst h; obtain ⟨h1, h2, h3⟩ := scalarCs_ar hr; obtain ⟨g1, g2⟩ := scalarC_ar (F := F) (ρ := ρ) (t := t) (w := w) hx; refine ⟨by simp [h1], by simpa using ⟨g2, h2⟩, fun j x' v' hj hv => ?_⟩
       cases j with
       | zero => simp at hj hv; subst hj; subst hv; exact g1
       | succ j => simp at hj hv; exact h3 j x' v' hj hv
   · simp at h
theorem constAV_ar {v : Value} {x : AV} (h : constAV v = some x) : AR F ρ t w x v := by
 unfold constAV at h; split at h
 · rename_i cs
   cases hr : scalarCs cs.toList with
   | none => simp [hr] at h
   | some ys =>
     simp only [hr, Option.map_some, Option.some.injEq] at h; subst h; obtain ⟨h1, h2, h3⟩ := scalarCs_ar (F := F) (ρ := ρ) (t := t) (w := w) hr; exact .agg (by simpa using h1.symm) (fun v hv => h2 v (by simpa using hv)) (fun j x v hj hv => h3 j x v hj (by simpa using hv))
 · exact (scalarC_ar h).1
theorem ev_ar (hr : Rel F G ρ t a w) {x : Operand} {y : AV} (h : ev t x = some y) : AR F ρ t w y (a.eval x) := by
 unfold ev at h; split at h
 · split at h
   · rename_i k b hb
     simp only [Option.some.injEq] at h; subst h; obtain ⟨z, hz, hA⟩ := hr.tmp _ _ hb; simp only [C.av.injEq] at hz; subst hz; exact hA
   · simp at h
 · exact constAV_ar h
 · simp only [Option.some.injEq] at h
   subst h; exact .fn (by simp) (by simp)
 · simp at h
theorem evs_ar (hr : Rel F G ρ t a w) : ∀ {xs : List Operand} {ys : List AV}, evs t xs = some ys → ys.length = xs.length ∧ ∀ (j : Nat) (y : AV) (v : Value), ys[j]? = some y → (xs.map a.eval)[j]? = some v → AR F ρ t w y v
 | [], ys, h => by simp [evs] at h; subst h; simp
 | x :: xs, ys, h => by
   simp only [evs] at h; split at h
   · rename_i y hy
     cases hq : evs t xs with
     | none => simp [hq] at h
     | some zs =>
       simp only [hq, Option.map_some, Option.some.injEq] at h; subst h; obtain ⟨h1, h2⟩ := evs_ar hr hq; refine ⟨by simp [h1], fun j y' v hj hv => ?_⟩
       cases j with
       | zero => simp at hj hv; subst hj; subst hv; exact ev_ar hr hy
       | succ j => simp only [List.getElem?_cons_succ, List.map_cons] at hj hv; exact h2 j y' v hj hv
   · simp at h
def Goes (P : Program) (F : Nat → Nat → Prop) (G : Start) (t : Sto) (a : Act) (w : World) (o : Oper) (f : Eff) : Prop :=
 ∃ ρ' v w' nx, (execOp a.eval o).run P w = .ok nx w' ∧ (nx = .value v ∨ (nx = .skip ∧ v = undef)) ∧ Rel F G ρ' (appU f.u t) a w' ∧ AR F ρ' (appU f.u t) w' f.val v
theorem Goes.quiet (hr : Rel F G ρ t a w) {o : Oper} {x : AV} {v : Value} (h : (execOp a.eval o).run P w = .ok (.value v) w) (hx : AR F ρ t w x v) : Goes P F G t a w o ⟨x, []⟩ :=
 ⟨ρ, v, w, .value v, h, .inl rfl, hr, hx⟩
theorem cut_ar {i : TI} {cs : List AV} {vs : Array Value} {off : Nat} {x : AV} {ty : TypeId} (f : TyFacts P ty i) (hn : vs.size = cs.length) (h1 : ∀ v ∈ vs, v.oneCell' = true)
   (h : ∀ (j : Nat) (a : AV) (v : Value), cs[j]? = some a → vs[j]? = some v → AR F ρ t w a v) (hc : cut i cs off = some x) :
   ∃ v, (Go.part ty vs off).run P w = .ok v w ∧ AR F ρ t w x v := by
 unfold cut at hc; have hu := run_underlying (w := w) f.hd; split at hc
 · rename_i hg
   split at hc
   · rename_i hle
     simp only [Option.some.injEq] at hc; subst hc
     have hag : (isAgg ty).run P w = .ok true w := by
       have hk := f.hk; unfold TI.isAgg at hg; unfold isAgg; simp only [Sem.run_bind, hu, Result.andThen_ok]; cases hd : f.d <;> simp only [hd, kindOf] at hk <;> first | rfl | (split at hk <;> first | (simp only [Option.some.injEq] at hk; rw [← hk] at hg; simp at hg) | (simp at hk)) | (simp only [Option.some.injEq] at hk; rw [← hk] at hg; simp at hg) | (simp at hk)
     refine ⟨.agg (vs.extract off (off + i.size)), ?_, ?_⟩
     · unfold Go.part
       have hs : (sizeOf ty).run P w = .ok i.size w := by
         unfold sizeOf typeInfo; simp [f.hi, f.hsz]
       simp only [Sem.run_bind, hag, Result.andThen_ok, if_true, hs, Sem.run_pure]
     · refine .agg ?_ ?_ ?_
       · simp [hn]; omega
       · intro v hv
         obtain ⟨j, hj, rfl⟩ := Array.mem_iff_getElem.1 hv; simp only [Array.getElem_extract]; exact h1 _ (Array.getElem_mem _)
       · intro j b v hj hv
         have e1 : cs[off + j]? = some b := by
           rw [List.getElem?_take] at hj; split at hj
           · rwa [List.getElem?_drop] at hj
           · simp at hj
         have e2 : vs[off + j]? = some v := by
           rw [Array.getElem?_extract] at hv; split at hv
           · exact hv
           · simp at hv
         exact h _ b v e1 e2
   · simp at hc
 · rename_i hg
   have hag : (isAgg ty).run P w = .ok false w := by
     have hk := f.hk; unfold TI.isAgg at hg; unfold isAgg; simp only [Sem.run_bind, hu, Result.andThen_ok]; cases hd : f.d <;> simp only [hd, kindOf] at hk <;> first | rfl | (split at hk <;> first | (simp only [Option.some.injEq] at hk; rw [← hk] at hg; simp at hg) | (simp at hk)) | (simp only [Option.some.injEq] at hk; rw [← hk] at hg; simp at hg) | (simp at hk)
   have hlt : off < vs.size := by
     rw [hn]; exact (List.getElem?_eq_some_iff.1 hc).1
   refine ⟨vs[off], ?_, h off x _ hc (by simp [hlt])⟩
   unfold Go.part; simp [hag, hlt]
end
end Go.Flat
end
section
set_option linter.unusedVariables false
set_option linter.unusedSimpArgs false
namespace Go.Flat
section
variable {P : Program} {F : Nat → Nat → Prop} {G : Start} {ρ : Ren} {t : Sto} {a : Act} {w : World}
theorem AR.vv_inv {x v : Value} (h : AR F ρ t w (vv x) v) : v = x := by
 cases h with
 | p h => cases h; rfl
theorem AR.v_inv {x v : Value} (h : AR F ρ t w (.p (.v x)) v) : v = x := h.vv_inv
theorem AR.vv_mk {x : Value} (h : x.oneCell' = true) : AR F ρ t w (vv x) x := .p (.v h)
theorem AR.agg_inv {cs : List AV} {v : Value} (h : AR F ρ t w (.agg cs) v) : ∃ vs : Array Value, v = .agg vs ∧ vs.size = cs.length ∧ (∀ v ∈ vs, v.oneCell' = true) ∧
   ∀ (j : Nat) (a : AV) (v : Value), cs[j]? = some a → vs[j]? = some v → AR F ρ t w a v := by
 cases h with
 | agg hn h1 h => exact ⟨_, rfl, hn, h1, h⟩
theorem AR.tup_inv {cs : List AV} {v : Value} (h : AR F ρ t w (.tup cs) v) : ∃ vs : Array Value, v = .tuple vs ∧ vs.size = cs.length ∧
   ∀ (j : Nat) (a : AV) (v : Value), cs[j]? = some a → vs[j]? = some v → AR F ρ t w a v := by
 cases h with
 | tup hn h => exact ⟨_, rfl, hn, h⟩
theorem goes_move (hr : Rel F G ρ t a w) {o : Oper} {x : Operand} {f : Eff} (ho : o.op = .move x) (h : (ev t x).map (fun a => (⟨a, []⟩ : Eff)) = some f) : Goes P F G t a w o f := by
 cases he : ev t x with
 | none => simp [he] at h
 | some y =>
   simp only [he, Option.map_some, Option.some.injEq] at h; subst h; exact .quiet hr (by simp [execOp, ho]) (ev_ar hr he)
theorem goes_assign (hr : Rel F G ρ t a w) {o : Oper} {x : Operand} {f : Eff} (ho : o.op = .assign x) (h : (ev t x).map (fun a => (⟨a, []⟩ : Eff)) = some f) : Goes P F G t a w o f := by
 cases he : ev t x with
 | none => simp [he] at h
 | some y =>
   simp only [he, Option.map_some, Option.some.injEq] at h; subst h; exact .quiet hr (by simp [execOp, ho]) (ev_ar hr he)
theorem pickF_ar {q : Bool} {x y : AV} {u v : Value} (hx : AR F ρ t w x u) (hy : AR F ρ t w y v) : AR F ρ t w (pickF q x y) (if q then u else v) := by
 unfold pickF; split
 · rename_i b c
   rw [hx.v_inv, hy.v_inv]; cases q <;> exact .vv_mk rfl
 · cases q
   · exact hy
   · exact hx
theorem goes_pick (hr : Rel F G ρ t a w) {T : Nat → Option TI} {nid : Nat} {o : Oper} {c x y : Operand} {f : Eff} (ho : o.op = .pick c x y) (h : evalOp T t nid o.op = some f) : Goes P F G t a w o f := by
 rw [ho] at h; simp only [evalOp] at h; split at h
 · rename_i q x' y' hc hx hy
   simp only [Option.some.injEq] at h; subst h; have := (ev_ar hr hc).v_inv; refine .quiet hr ?_ (pickF_ar (ev_ar hr hx) (ev_ar hr hy)); simp [execOp, ho, this, asBool]
 · simp at h
theorem goes_nilCheck (hr : Rel F G ρ t a w) {T : Nat → Option TI} {nid : Nat} {o : Oper} {x : Operand} {f : Eff} (ho : o.op = .nilCheck x) (h : evalOp T t nid o.op = some f) : Goes P F G t a w o f := by
 rw [ho] at h; simp only [evalOp] at h; split at h <;> first | (simp only [Option.some.injEq] at h; subst h) | (simp at h; done)
 · rename_i id off he
   have hx := ev_ar hr he; refine .quiet hr (v := a.eval x) ?_ hx; cases hv : a.eval x <;> rw [hv] at hx <;> cases hx
   simp [execOp, ho, hv]
 · rename_i id L k off he
   have hx := ev_ar hr he; refine .quiet hr (v := a.eval x) ?_ hx; generalize hv : a.eval x = v at hx
   cases hx with
   | eptr hq =>
     obtain ⟨_, _, _, _, _, _, _, b, rfl, _⟩ := hq; simp [execOp, ho, hv]
 · rename_i cs he
   have hx := ev_ar hr he; refine .quiet hr (v := a.eval x) ?_ hx; generalize hv : a.eval x = v at hx
   cases hx with
   | p hq =>
     cases hq; simp [execOp, ho, hv]
 · rename_i fn cap he
   have hx := ev_ar hr he; refine .quiet hr (v := a.eval x) ?_ hx; generalize hv : a.eval x = v at hx
   cases hx with
   | fn hn hq => simp [execOp, ho, hv]
theorem scalarBin_run {op : BinOp} {x y z : Value} {ty : TypeId} {p q : Operand} (h : scalarBin op x y = some z) : (do eqGuard op ty p q x y; binOp op ty x y : Sem Value).run P w = .ok z w ∧ z.oneCell' = true := by
 unfold scalarBin at h; split at h
 · rename_i k b k' c
   have hg : (eqGuard op ty p q (.int k b) (.int k' c)).run P w = .ok () w := by
     unfold eqGuard; cases op <;> rfl
   simp only [Sem.run_bind, hg, Result.andThen_ok]; split at h
   · unfold shiftBin at h
     split at h <;> try (simp at h; done)
     rename_i hb
     have hb' : ¬ c < 0 := by omega
     cases op <;> simp only [Option.some.injEq, reduceCtorEq] at h <;> subst h
     · exact ⟨by simp [binOp, Op.shift, hb'], rfl⟩
     · exact ⟨by simp [binOp, Op.shift, hb'], rfl⟩
   · split at h <;> try (simp at h; done)
     rename_i hns hk
     subst hk
     cases op <;> first
       | (simp only [intBin, Option.some.injEq] at h; subst h; exact ⟨by simp [binOp, Op.intArith, Op.intCmp, Op.intBits, bandN, borN, bxorN], rfl⟩)
       | (simp [intBin] at h; done)
       | (simp [isShift] at hns; done)
       | (simp only [intBin] at h; split at h <;> simp only [Option.some.injEq, reduceCtorEq] at h; rename_i hb; subst h; exact ⟨by simp [binOp, Op.intDiv, hb], rfl⟩)
 · rename_i b c
   have hg : (eqGuard op ty p q (.string b) (.string c)).run P w = .ok () w := by
     unfold eqGuard; cases op <;> rfl
   simp only [Sem.run_bind, hg, Result.andThen_ok]
   cases op <;> first
     | (simp only [strBin, Option.some.injEq] at h; subst h; exact ⟨by simp [binOp, Op.stringOp], rfl⟩)
     | (simp [strBin] at h; done)
 · simp at h
theorem goes_unOp (hr : Rel F G ρ t a w) {T : Nat → Option TI} {nid : Nat} {o : Oper} {op : UnOp} {ty : TypeId} {x : Operand} {f : Eff} (ho : o.op = .unOp op ty x) (h : evalOp T t nid o.op = some f) : Goes P F G t a w o f := by
 rw [ho] at h; simp only [evalOp] at h; split at h
 · rename_i y he
   cases hu : unF op y with
   | none => simp [hu] at h
   | some z =>
     simp only [hu, Option.map_some, Option.some.injEq] at h; subst h; have hx := ev_ar hr he; unfold unF at hu; split at hu
     · rename_i k n
       have hv := hx.v_inv; cases op <;> simp only [Option.some.injEq, reduceCtorEq] at hu <;> subst hu
       · exact .quiet hr (by simp [execOp, ho, hv, Op.unary, Op.intArith]) (.vv_mk rfl)
       · exact .quiet hr (by simp [execOp, ho, hv, Op.unary, Op.intBits, bxorN]) (.vv_mk rfl)
     · rename_i b
       have hv := hx.v_inv; cases op <;> simp only [Option.some.injEq, reduceCtorEq] at hu
       subst hu; exact .quiet hr (by simp [execOp, ho, hv, Op.unary]) (.vv_mk rfl)
     · simp at hu
 · simp at h
theorem goes_extract (hr : Rel F G ρ t a w) {T : Nat → Option TI} {nid : Nat} {o : Oper} {x : Operand} {k : Nat} {f : Eff} (ho : o.op = .extract x k) (h : evalOp T t nid o.op = some f) : Goes P F G t a w o f := by
 rw [ho] at h; simp only [evalOp] at h; split at h
 · rename_i cs he
   cases hk : cs[k]? with
   | none => simp [hk] at h
   | some z =>
     simp only [hk, Option.map_some, Option.some.injEq] at h; subst h; obtain ⟨vs, hv, hn, hA⟩ := (ev_ar hr he).tup_inv; have hlt : k < vs.size := by rw [hn]; exact (List.getElem?_eq_some_iff.1 hk).1
     refine .quiet hr (v := vs[k]) ?_ (hA k z _ hk (by simp [hlt]))
     simp [execOp, ho, hv, Instr.extract, hlt]
 · simp at h
theorem goes_makeFunc (hr : Rel F G ρ t a w) {T : Nat → Option TI} {nid : Nat} {o : Oper} {fn : Fn} {fi cap : Array Operand} {f : Eff} (ho : o.op = .makeFunc fn fi cap) (h : evalOp T t nid o.op = some f) : Goes P F G t a w o f := by
 rw [ho] at h; simp only [evalOp] at h; split at h
 · rename_i hf
   cases hq : evs t cap.toList with
   | none => simp [hq] at h
   | some l =>
     simp only [hq, Option.map_some, Option.some.injEq] at h; subst h; obtain ⟨h1, h2⟩ := evs_ar hr hq
     have : fi = #[] := by
       cases fi; simp at hf; simp [hf]
     subst this; refine .quiet hr (v := .func fn #[] (cap.map a.eval)) ?_ (.fn (by simpa using h1.symm) (fun j b v hj hv => h2 j b v hj (by rw [← Array.toList_map]; simpa using hv)))
     simp [execOp, ho, Instr.makeFunc]
 · simp at h
theorem goes_convert (hr : Rel F G ρ t a w) {nid : Nat} {o : Oper} {s d : TypeId} {x : Operand} {f : Eff} (ho : o.op = .convert s d x) (h : evalOp (tyOf P) t nid o.op = some f) : Goes P F G t a w o f := by
 rw [ho] at h; simp only [evalOp] at h; split at h
 · rename_i i1 i k n h1 h2 he
   obtain ⟨f1⟩ := tyOf_facts h1; obtain ⟨f2⟩ := tyOf_facts h2; have hv := (ev_ar hr he).v_inv; split at h
   · rename_i k' hk
     simp only [Option.some.injEq] at h; subst h
     have hd : f2.d = .int k' := by
       have := f2.hk; rw [hk] at this; cases hd : f2.d <;> simp only [hd, kindOf] at this <;> first | (simp at this; done) | (simp at this; rw [this]) | (split at this <;> simp at this)
     refine .quiet hr (v := .int k' (k'.wrap n)) ?_ (.vv_mk rfl); have e1 := run_underlying (w := w) f1.hd; have e2 := run_underlying (w := w) f2.hd; rw [hd] at e2; simp only [execOp, ho, hv]; simp [convert, e1, e2, Conv.intToInt]
   · simp at h
 · rename_i i1 i b h1 h2 he
   obtain ⟨f1⟩ := tyOf_facts h1; obtain ⟨f2⟩ := tyOf_facts h2; have hv := (ev_ar hr he).v_inv; split at h
   · rename_i hk
     simp only [Option.some.injEq] at h; subst h
     have hd : f2.d = .string := by
       have := f2.hk; rw [hk] at this; cases hd : f2.d <;> simp only [hd, kindOf] at this <;> first | rfl | (simp at this; done) | (split at this <;> simp at this)
     refine .quiet hr (v := .string b) ?_ (.vv_mk rfl); have e1 := run_underlying (w := w) f1.hd; have e2 := run_underlying (w := w) f2.hd; rw [hd] at e2; simp only [execOp, ho, hv]; simp [convert, e1, e2]
   · simp at h
 · simp at h
end
end Go.Flat
end
section
set_option linter.unusedVariables false
set_option linter.unusedSimpArgs false
namespace Go.Flat
section
variable {P : Program} {F : Nat → Nat → Prop} {G : Start} {ρ : Ren} {t : Sto} {a : Act} {w : World}
theorem kind_struct {ty : TypeId} {i : TI} {fs : List (Nat × Nat)} (f : TyFacts P ty i) (hk : i.k = .st fs) : ∃ fields : Array Field, P.underlying ty = some (.struct fields) ∧ fs = fields.toList.map (fun f => (f.type, f.offset)) ∧
   (∀ g ∈ fields.toList, (g.name != "_") = true) ∧ P.stoodInHeld ty = false ∧ P.eqGuardType P.depth ty = false ∧ (∀ g ∈ fields.toList, (P.info? g.type).isSome = true) := by
 have h := f.hk; rw [hk] at h; cases hd : f.d <;> simp only [hd, kindOf] at h <;> try (first | (simp at h; done) | (split at h <;> simp at h; done))
 rename_i fields
 split at h
 · rename_i hc
   simp only [Option.some.injEq, TK.st.injEq] at h; simp only [Bool.and_eq_true, List.all_eq_true, Bool.not_eq_true'] at hc; exact ⟨fields, by rw [f.hd, hd], h.symm, hc.1.1.1, hc.1.2, hc.2, hc.1.1.2⟩
 · simp at h
theorem kind_slice {ty : TypeId} {i : TI} {e : Nat} (f : TyFacts P ty i) (hk : i.k = .sl e) : P.underlying ty = some (.slice e) := by
 have h := f.hk; rw [hk] at h; cases hd : f.d <;> simp only [hd, kindOf] at h <;> try (first | (simp at h; done) | (split at h <;> simp at h; done))
 simp at h; rw [f.hd, hd, h]
theorem kind_array {ty : TypeId} {i : TI} {n e : Nat} (f : TyFacts P ty i) (hk : i.k = .arr n e) : P.underlying ty = some (.array n e) ∧ P.eqGuardType P.depth ty = false := by
 have h := f.hk; rw [hk] at h; cases hd : f.d <;> simp only [hd, kindOf] at h <;> try (first | (simp at h; done) | (split at h <;> simp at h; done))
 split at h
 · simp at h
 · rename_i hc
   simp at h; rw [f.hd, hd, h.1, h.2]; exact ⟨rfl, by simpa using hc⟩
theorem kind_str {ty : TypeId} {i : TI} (f : TyFacts P ty i) (hk : i.k = .str) : P.underlying ty = some .string := by
 have h := f.hk; rw [hk] at h; cases hd : f.d <;> simp only [hd, kindOf] at h <;> try (first | (simp at h; done) | (split at h <;> simp at h; done))
 rw [f.hd, hd]
theorem run_sizeOf' {ty : TypeId} {i : TI} (f : TyFacts P ty i) : (sizeOf ty).run P w = .ok i.size w := by
 unfold sizeOf typeInfo; simp [f.hi, f.hsz]
theorem run_isAgg' {ty : TypeId} {i : TI} (f : TyFacts P ty i) : (isAgg ty).run P w = .ok i.isAgg w := by
 have hk := f.hk; have hu := run_underlying (w := w) f.hd; unfold TI.isAgg isAgg; simp only [Sem.run_bind, hu, Result.andThen_ok]; cases hd : f.d <;> simp only [hd, kindOf] at hk <;> first | (simp only [Option.some.injEq] at hk; rw [← hk]; rfl) | (split at hk <;> first | (simp only [Option.some.injEq] at hk; rw [← hk]; rfl) | (simp at hk)) | (simp at hk)
theorem place_struct {T : Nat → Option TI} {i : TI} {k : Nat} {q : Nat × TI} {fs : List (Nat × Nat)} (hk : i.k = .st fs) (h : place T i k = some q) : ∃ f, fs[k]? = some f ∧ T f.1 = some q.2 ∧ q.1 = f.2 := by
 unfold place at h; rw [hk] at h; simp only at h; split at h
 · rename_i f hf
   cases hT : T f.1 with
   | none => simp [hT] at h
   | some j => simp [hT] at h; subst h; exact ⟨f, hf, hT, rfl⟩
 · simp at h
theorem addr_add (b o n : Nat) : Addr.add ⟨b, o, none⟩ n = ⟨b, o + n, none⟩ := by
 unfold Addr.add; split
 · rename_i h; subst h; rfl
 · rfl
theorem PR.pp_drop {S : Nat → Nat → Prop} {cs : List PV} {b o n : Nat} (h : PR w S (.pp cs) (.pointer (some ⟨b, o, none⟩))) : PR w S (.pp (cs.drop n)) (.pointer (some ⟨b, o + n, none⟩)) := by
 cases h with
 | pp val hc hS hR =>
   refine .pp (fun j => val (n + j)) ?_ ?_ ?_ <;> intro j x hj <;> rw [List.getElem?_drop] at hj
   · have := hc _ x hj; rwa [← Nat.add_assoc] at this
   · have := hS _ x hj; rwa [← Nat.add_assoc] at this
   · exact hR _ x hj
theorem goes_fieldAddr (hr : Rel F G ρ t a w) {nid : Nat} {o : Oper} {ty : TypeId} {x : Operand} {n : Nat} {f : Eff} (ho : o.op = .fieldAddr ty x n) (h : evalOp (tyOf P) t nid o.op = some f) : Goes P F G t a w o f := by
 rw [ho] at h; simp only [evalOp] at h; split at h
 · rename_i i y hi he
   obtain ⟨fi⟩ := tyOf_facts hi; split at h
   · rename_i fs q hk hp
     obtain ⟨fields, hu, hfs, -, -, -, -⟩ := kind_struct fi hk; obtain ⟨g, hg, hT, hq⟩ := place_struct hk hp; rw [hfs, List.getElem?_map] at hg; obtain ⟨fl, hfl, rfl⟩ := Option.map_eq_some_iff.1 hg; obtain ⟨f2⟩ := tyOf_facts hT; have hfl' : fields[n]? = some fl := by simpa using hfl
     split at h
     · simp at h
     · rename_i hne
       have hrun : ∀ b o', (Instr.fieldAt ty (.pointer (some ⟨b, o', none⟩)) n).run P w = .ok (.pointer (some ⟨b, o' + q.1, none⟩)) w := by
         intro b o'; unfold Instr.fieldAt; simp [run_underlying hu, hfl', Instr.sureAddr, fieldPlace, run_sizeOf' f2, hne, hq, addr_add]
       have hx := ev_ar hr he; split at h <;> first | (simp only [Option.some.injEq] at h; subst h) | (simp at h; done)
       · rename_i id off
         generalize hv : a.eval x = v at hx
         cases hx with
         | ptr hl hb =>
           refine .quiet hr (v := .pointer (some ⟨_, off + q.1, none⟩)) ?_ (.ptr hl hb); simp [execOp, ho, hv, hrun]
       · rename_i id L k off
         generalize hv : a.eval x = v at hx
         cases hx with
         | eptr hs =>
           obtain ⟨e, sz, xs, pub, ha, hL, hi', b, rfl, hq'⟩ := hs; obtain ⟨bb, bo, bs⟩ := b
           by_cases hL' : xs.length = L
           · obtain ⟨q1, q2, q3⟩ := hq' hL'
             simp only at q1 q2 q3; subst q3; refine .quiet hr (v := .pointer (some ⟨bb, bo + q.1, none⟩)) ?_ (.eptr ⟨e, sz, xs, pub, ha, hL, hi', _, rfl, fun _ => ⟨q1, by simp only; omega, rfl⟩⟩)
             simp [execOp, ho, hv, hrun]
           · refine .quiet hr (v := .pointer (some (Addr.add ⟨bb, bo, bs⟩ fl.offset))) ?_ (.eptr ⟨e, sz, xs, pub, ha, hL, hi', _, rfl, fun h => absurd h hL'⟩)
             simp [execOp, ho, hv, Instr.fieldAt, run_underlying hu, hfl', Instr.sureAddr, fieldPlace, run_sizeOf' f2, hne]
       · rename_i cs
         generalize hv : a.eval x = v at hx
         cases hx with
         | p hp' =>
           cases hp' with
           | pp val hc hS hR =>
             refine .quiet hr ?_ (.p (PR.pp_drop (PR.pp val hc hS hR))); simp [execOp, ho, hv, hrun]
   · simp at h
 · simp at h
theorem goes_field (hr : Rel F G ρ t a w) {nid : Nat} {o : Oper} {ty : TypeId} {x : Operand} {n : Nat} {f : Eff} (ho : o.op = .field ty x n) (h : evalOp (tyOf P) t nid o.op = some f) : Goes P F G t a w o f := by
 rw [ho] at h; simp only [evalOp] at h; split at h
 · rename_i i cs hi he
   obtain ⟨fi⟩ := tyOf_facts hi; split at h
   · rename_i fs q hk hp
     obtain ⟨fields, hu, hfs, -, -, -, -⟩ := kind_struct fi hk; obtain ⟨g, hg, hT, hq⟩ := place_struct hk hp; rw [hfs, List.getElem?_map] at hg; obtain ⟨fl, hfl, rfl⟩ := Option.map_eq_some_iff.1 hg; obtain ⟨f2⟩ := tyOf_facts hT; have hfl' : fields[n]? = some fl := by simpa using hfl
     cases hc : cut q.2 cs q.1 with
     | none => simp [hc] at h
     | some y =>
       simp only [hc, Option.map_some, Option.some.injEq] at h; subst h; obtain ⟨vs, hv, hn, h1, hA⟩ := (ev_ar hr he).agg_inv; obtain ⟨v, hrun, hx⟩ := cut_ar (P := P) (w := w) f2 hn h1 hA hc; refine .quiet hr (v := v) ?_ hx; rw [hq] at hrun; simp [execOp, ho, hv, Instr.field, run_underlying hu, hfl', asAgg, hrun]
   · simp at h
 · simp at h
theorem load_row {ty : TypeId} {i : TI} (f : TyFacts P ty i) {b o : Nat} {xs : List AV} {y : AV} (val : Nat → Value)
   (hc : ∀ (j : Nat) (x : AV), xs[j]? = some x → w.cell? ⟨b, o + j, none⟩ = some (val j) ∧ AR F ρ t w x (val j) ∧ (val j).oneCell' = true)
   (hy : (i.isAgg = true ∧ xs.length = i.size ∧ y = .agg xs) ∨ (i.isAgg = false ∧ xs = [y])) :
   ∃ v, (loadVar ty ⟨b, o, none⟩).run P w = .ok v w ∧ AR F ρ t w y v := by
 rcases hy with ⟨hg, hn, rfl⟩ | ⟨hg, rfl⟩
 · refine ⟨.agg ((List.range xs.length).map val).toArray, ?_, .agg (by simp) ?_ ?_⟩
   · unfold loadVar
     simp only [Sem.run_bind, run_isAgg' f, hg, Result.andThen_ok, if_true, run_sizeOf' f, ← hn]
     have := run_loadCells (P := P) w ⟨b, o, none⟩ xs.length val (by
       intro j hj; rw [addr_add]
       exact (hc j xs[j] (by simp [hj])).1)
     rw [this]; simp
   · intro v hv
     simp only [List.mem_toArray, List.mem_map, List.mem_range] at hv; obtain ⟨j, hj, rfl⟩ := hv; exact (hc j xs[j] (by simp [hj])).2.2
   · intro j b' v hj hv
     have hlt : j < xs.length := (List.getElem?_eq_some_iff.1 hj).1; simp only [List.getElem?_toArray, List.getElem?_map, List.getElem?_range hlt, Option.map_some, Option.some.injEq] at hv; subst hv; exact (hc j b' hj).2.1
 · obtain ⟨h1, h2, h3⟩ := hc 0 y (by simp)
   refine ⟨val 0, ?_, h2⟩; unfold loadVar; simp only [Sem.run_bind, run_isAgg' f, hg, Result.andThen_ok, Bool.false_eq_true, if_false]; simp at h1; simp [h1]
theorem arr_row (hr : RelO F ρ t w) {id e sz pub : Nat} {xs : List (List PV)} (ha : t (.arr id) = some (.arr e sz xs pub)) {k : Nat} (hk : k < xs.length) :
   (xs.getD k []).length = sz ∧ ∃ b cs, ρ id = some b ∧ w.heap[b]? = some (.cells cs e (0, 0)) ∧ xs.length * sz ≤ cs.size ∧
     ∀ (j : Nat) (x : PV), (xs.getD k [])[j]? = some x → ∃ u, w.cell? ⟨b, k * sz + j, none⟩ = some u ∧ PQ F ρ t w id x u := by
 obtain ⟨e', sz', xs', pub', hc, h0, hp, hl, hd⟩ := hr.arr _ _ ha; simp only [C.arr.injEq] at hc; obtain ⟨rfl, rfl, rfl, rfl⟩ := hc; have hg : xs.getD k [] = xs[k] := by simp [List.getD, hk]
 rw [hg]; refine ⟨hl _ (List.getElem_mem _), ?_⟩; rcases hd with ⟨_, rfl⟩ | ⟨b, cs, h1, h2, h3, h4⟩
 · simp at hk
 · refine ⟨b, cs, h1, h2, h3, fun j x hj => ?_⟩
   obtain ⟨u, hu, hR⟩ := h4 k xs[k] (by simp [hk]) j x hj
   refine ⟨u, ?_, hR⟩; rw [cell_of_row w b _ cs e _ h2]; exact hu
theorem choose_vals {α : Type} {xs : List α} {p : Nat → α → Value → Prop} (h : ∀ (j : Nat) (x : α), xs[j]? = some x → ∃ u, p j x u) : ∃ val : Nat → Value, ∀ (j : Nat) (x : α), xs[j]? = some x → p j x (val j) := by
 have h' : ∀ j : Nat, ∃ u : Value, ∀ x, xs[j]? = some x → p j x u := by
   intro j
   cases hj : xs[j]? with
   | none => exact ⟨undef, fun x hx => by simp at hx⟩
   | some y =>
     obtain ⟨u, hu⟩ := h j y hj; exact ⟨u, fun x hx => by simp only [Option.some.injEq] at hx; subst hx; exact hu⟩
 exact ⟨fun j => Classical.choose (h' j), fun j => Classical.choose_spec (h' j)⟩
theorem getCells_at {id : Nat} : ∀ {n off : Nat} {xs : List AV}, getCells t id off n = some xs → xs.length = n ∧ ∀ (j : Nat) (x : AV), xs[j]? = some x → t (.cell id (off + j)) = some (.av x)
 | 0, off, xs, h => by simp [getCells] at h; subst h; simp
 | n + 1, off, xs, h => by
   simp only [getCells] at h; split at h
   · rename_i b hb
     cases hq : getCells t id (off + 1) n with
     | none => simp [hq] at h
     | some ys =>
       simp only [hq, Option.map_some, Option.some.injEq] at h; subst h; obtain ⟨h1, h2⟩ := getCells_at hq; refine ⟨by simp [h1], fun j x hj => ?_⟩
       cases j with
       | zero => simp at hj; subst hj; exact hb
       | succ j => simp at hj; have := h2 j x hj; rwa [Nat.add_assoc, Nat.add_comm 1 j] at this
   · simp at h
theorem cut_hy {i : TI} {cs : List AV} {off : Nat} {y : AV} (h : cut i cs off = some y) :
   ∃ xs : List AV, (∀ (j : Nat) (x : AV), xs[j]? = some x → cs[off + j]? = some x) ∧ ((i.isAgg = true ∧ xs.length = i.size ∧ y = .agg xs) ∨ (i.isAgg = false ∧ xs = [y])) := by
 unfold cut at h; split at h
 · rename_i hg
   split at h
   · rename_i hle
     simp only [Option.some.injEq] at h; refine ⟨(cs.drop off).take i.size, fun j x hj => ?_, .inl ⟨hg, by simp; omega, h.symm⟩⟩
     rw [List.getElem?_take] at hj; split at hj
     · rwa [List.getElem?_drop] at hj
     · simp at hj
   · simp at h
 · rename_i hg
   refine ⟨[y], fun j x hj => ?_, .inr ⟨by simpa using hg, rfl⟩⟩
   cases j with
   | zero => simp at hj; subst hj; exact h
   | succ j => simp at hj
theorem load_any (hr : RelO F ρ t w) {ty : TypeId} {i : TI} (f : TyFacts P ty i) {p : AV} {y : AV} {v : Value} (hp : AR F ρ t w p v) (h : loadF t i p = some y) :
   ∃ (ad : Addr) (u : Value), v = .pointer (some ad) ∧ (loadVar ty ad).run P w = .ok u w ∧ AR F ρ t w y u := by
 unfold loadF at h; split at h
 · rename_i id off
   cases hp with
   | ptr hl hb =>
     rename_i b
     refine ⟨⟨b, off, none⟩, ?_⟩
     have hcell : ∀ j x, t (.cell id (off + j)) = some (.av x) → ∃ u, w.cell? ⟨b, off + j, none⟩ = some u ∧ AR F ρ t w x u ∧ u.oneCell' = true := by
       intro j x hj; obtain ⟨a', n', b', u, e1, e2, e3, e4, e5, e6, e7⟩ := hr.cell _ _ _ hj; simp only [C.av.injEq] at e1; subst e1; rw [hb] at e4; simp only [Option.some.injEq] at e4; subst e4; exact ⟨u, e5, e6, e7⟩
     split at h
     · rename_i hg
       cases hq : getCells t id off i.size with
       | none => simp [hq] at h
       | some xs =>
         simp only [hq, Option.map_some, Option.some.injEq] at h; obtain ⟨h1, h2⟩ := getCells_at hq; obtain ⟨val, hval⟩ := choose_vals (xs := xs) (p := fun j x u => w.cell? ⟨b, off + j, none⟩ = some u ∧ AR F ρ t w x u ∧ u.oneCell' = true) (fun j x hj => hcell j x (h2 j x hj))
         obtain ⟨u, g1, g2⟩ := load_row (P := P) f (y := y) val hval (.inl ⟨hg, h1, h.symm⟩); exact ⟨u, rfl, g1, g2⟩
     · rename_i hg
       split at h
       · rename_i b' hb'
         simp only [Option.some.injEq] at h; subst h
         obtain ⟨val, hval⟩ := choose_vals (xs := [b']) (p := fun j x u => w.cell? ⟨b, off + j, none⟩ = some u ∧ AR F ρ t w x u ∧ u.oneCell' = true) (fun j x hj => by
           cases j with
           | zero => simp at hj; subst hj; exact hcell 0 _ hb'
           | succ j => simp at hj)
         obtain ⟨u, g1, g2⟩ := load_row (P := P) f (y := b') val hval (.inr ⟨by simpa using hg, rfl⟩)
         exact ⟨u, rfl, g1, g2⟩
       · simp at h
 · rename_i id L k off
   split at h
   · rename_i e sz xs pub ha
     split at h
     · rename_i hL
       cases hp with
       | eptr hs =>
         obtain ⟨e', sz', xs', pub', ha', hL', hk, ad, rfl, hq⟩ := hs; rw [ha] at ha'; simp only [Option.some.injEq, C.arr.injEq] at ha'; obtain ⟨rfl, rfl, rfl, rfl⟩ := ha'; obtain ⟨q1, q2, q3⟩ := hq hL.symm; obtain ⟨hlen, b, cs, r1, r2, r3, r4⟩ := arr_row hr ha (k := k) (by omega)
         obtain ⟨ab, ao, as⟩ := ad; simp only at q1 q2 q3; subst q3; rw [r1] at q1; simp only [Option.some.injEq] at q1; subst q1
         have key : ∃ g : PV → AV, cut i ((xs.getD k []).map g) off = some y ∧ ∀ pv u, PQ F ρ t w id pv u → AR F ρ t w (g pv) u := by
           split at h
           · exact ⟨_, h, fun pv u hq => hq.up⟩
           · rename_i hid
             exact ⟨_, h, fun pv u hq => .p (hq.pr hid)⟩
         clear h; obtain ⟨g, h, hgA⟩ := key; obtain ⟨ys, hys, hy⟩ := cut_hy h
         obtain ⟨val, hval⟩ := choose_vals (xs := ys) (p := fun j x u => w.cell? ⟨b, ao + j, none⟩ = some u ∧ AR F ρ t w x u ∧ u.oneCell' = true) (fun j x hj => by
           have := hys j x hj; rw [List.getElem?_map] at this; obtain ⟨pv, hpv, rfl⟩ := Option.map_eq_some_iff.1 this; obtain ⟨u, u1, u2⟩ := r4 _ _ hpv
           exact ⟨u, by rw [q2, Nat.add_assoc]; exact u1, hgA _ _ u2, u2.one⟩)
         obtain ⟨u, g1, g2⟩ := load_row (P := P) f (y := y) val hval hy; exact ⟨_, u, rfl, g1, g2⟩
     · simp at h
   · simp at h
 · rename_i cs
   cases hp with
   | p hp =>
     cases hp with
     | pp val0 hc hS hR =>
       rename_i b o
       obtain ⟨ys, hys, hy⟩ := cut_hy h
       obtain ⟨val, hval⟩ := choose_vals (xs := ys) (p := fun j x u => w.cell? ⟨b, o + j, none⟩ = some u ∧ AR F ρ t w x u ∧ u.oneCell' = true) (fun j x hj => by
         have := hys j x hj; rw [Nat.zero_add, List.getElem?_map] at this; obtain ⟨pv, hpv, rfl⟩ := Option.map_eq_some_iff.1 this
         exact ⟨val0 j, hc _ _ hpv, .p (hR _ _ hpv), (hR _ _ hpv).one⟩)
       obtain ⟨u, g1, g2⟩ := load_row (P := P) f (y := y) val hval hy; exact ⟨_, u, rfl, g1, g2⟩
 · simp at h
theorem goes_load (hr : Rel F G ρ t a w) {nid : Nat} {o : Oper} {ty : TypeId} {x : Operand} {f : Eff} (ho : o.op = .load ty x) (h : evalOp (tyOf P) t nid o.op = some f) : Goes P F G t a w o f := by
 rw [ho] at h; simp only [evalOp] at h; split at h
 · rename_i i y hi he
   obtain ⟨fi⟩ := tyOf_facts hi
   cases hq : loadF t i y with
   | none => simp [hq] at h
   | some z =>
     simp only [hq, Option.map_some, Option.some.injEq] at h; subst h; obtain ⟨ad, u, e1, e2, e3⟩ := load_any (P := P) hr.o fi (ev_ar hr he) hq; refine .quiet hr (v := u) ?_ e3; simp [execOp, ho, e1, Instr.loadAt, Instr.sureAddr, e2]
 · simp at h
end
end Go.Flat
end
section
set_option linter.unusedVariables false
set_option linter.unusedSimpArgs false
namespace Go.Flat
section
variable {P : Program} {F : Nat → Nat → Prop} {G : Start} {ρ : Ren} {t : Sto} {a : Act} {w : World}
theorem PR.ps_inv {S : Nat → Nat → Prop} {xs : List (List PV)} {v : Value} (h : PR w S (.ps xs) v) : ∃ ad c, v = .slice ad xs.length c ∧ (xs ≠ [] → xs.length ≤ c ∧ ∃ b o sz, ad = some ⟨b, o, none⟩ ∧ (∀ row ∈ xs, row.length = sz) ∧
   ∃ val : Nat → Nat → Value, ∀ (i : Nat) (row : List PV), xs[i]? = some row → ∀ (j : Nat) (x : PV), row[j]? = some x → w.cell? ⟨b, o + i * sz + j, none⟩ = some (val i j) ∧ S b (o + i * sz + j) ∧ PR w S x (val i j)) := by
 cases h with
 | nil => exact ⟨_, _, rfl, fun h => absurd rfl h⟩
 | ps val hl hsz hc hS hR => exact ⟨_, _, rfl, fun _ => ⟨hl, _, _, _, rfl, hsz, val, fun i row hi j x hj => ⟨hc i row hi j x hj, hS i row hi j x hj, hR i row hi j x hj⟩⟩⟩
theorem PR.ps_mk {S : Nat → Nat → Prop} {xs : List (List PV)} {ad : Option Addr} {c : Nat} (hl : xs.length ≤ c) (h : xs ≠ [] → ∃ b o sz, ad = some ⟨b, o, none⟩ ∧ (∀ row ∈ xs, row.length = sz) ∧
   ∃ val : Nat → Nat → Value, ∀ (i : Nat) (row : List PV), xs[i]? = some row → ∀ (j : Nat) (x : PV), row[j]? = some x → w.cell? ⟨b, o + i * sz + j, none⟩ = some (val i j) ∧ S b (o + i * sz + j) ∧ PR w S x (val i j)) :
   PR w S (.ps xs) (.slice ad xs.length c) := by
 by_cases hx : xs = []
 · subst hx; exact .nil
 · obtain ⟨b, o, sz, rfl, hsz, val, hv⟩ := h hx
   exact .ps val hl hsz (fun i row hi j x hj => (hv i row hi j x hj).1) (fun i row hi j x hj => (hv i row hi j x hj).2.1) (fun i row hi j x hj => (hv i row hi j x hj).2.2)
theorem AR.psf_inv {xs : List (List PV)} {v : Value} (h : AR F ρ t w (.psf xs) v) : ∃ ad, v = .slice ad xs.length xs.length ∧ PR w (Stb F ρ t) (.ps xs) v := by
 cases h with
 | psf h =>
   have hn := h
   cases h with
   | nil => exact ⟨_, rfl, hn⟩
   | ps => exact ⟨_, rfl, hn⟩
theorem PR.row {S : Nat → Nat → Prop} {xs : List (List PV)} {ad : Option Addr} {n c k sz : Nat} (h : PR w S (.ps xs) (.slice ad n c)) (hk : k < xs.length) (hs : (xs.getD k []).length = sz) :
   ∃ b o, ad = some ⟨b, o, none⟩ ∧ n = xs.length ∧ PR w S (.pp (xs.getD k [])) (.pointer (some ⟨b, o + k * sz, none⟩)) := by
 obtain ⟨ad', c', he, h2⟩ := h.ps_inv; simp only [Value.slice.injEq] at he; obtain ⟨rfl, rfl, rfl⟩ := he; have hg : xs.getD k [] = xs[k] := by simp [List.getD, hk]
 rw [hg] at hs ⊢; obtain ⟨_, b, o, sz', rfl, hsz, val, hv⟩ := h2 (by intro e; simp [e] at hk)
 have : sz' = sz := by rw [← hs]; exact (hsz _ (List.getElem_mem _)).symm
 subst this; have hi : xs[k]? = some xs[k] := by simp [hk]
 exact ⟨b, o, rfl, rfl, .pp (fun j => val k j) (fun j x hj => (hv k _ hi j x hj).1) (fun j x hj => (hv k _ hi j x hj).2.1) (fun j x hj => (hv k _ hi j x hj).2.2)⟩
theorem run_indexAt_slice {ty e : TypeId} {j : TI} (hu : P.underlying ty = some (.slice e)) (fj : TyFacts P e j) {b o n c : Nat} {k : IntKind} {z : Int} (h0 : 0 ≤ z) (h1 : z < n) :
   (Instr.indexAt ty (.slice (some ⟨b, o, none⟩) n c) (.int k z)).run P w = .ok (.pointer (some ⟨b, o + z.toNat * j.size, none⟩)) w := by
 unfold Instr.indexAt; simp [asIntOf, run_underlying hu, h0, h1, run_sizeOf' fj, addr_add]
theorem run_indexAt_array {ty e n : Nat} {j : TI} (hu : P.underlying ty = some (.array n e)) (fj : TyFacts P e j) {ad : Addr} {k : IntKind} {z : Int} (h0 : 0 ≤ z) (h1 : z < n) :
   (Instr.indexAt ty (.pointer (some ad)) (.int k z)).run P w = .ok (.pointer (some (ad.add (z.toNat * j.size)))) w := by
 unfold Instr.indexAt; simp [asIntOf, run_underlying hu, Instr.sureAddr, h0, h1, run_sizeOf' fj]
theorem idx_any (ho : RelO F ρ t w) {ty : TypeId} {i : TI} (fi : TyFacts P ty i) {k : IntKind} {z : Int} {x y : AV} {v : Value} (hx : AR F ρ t w x v) (h : idxF (tyOf P) t i z x = some y) :
   ∃ u, (Instr.indexAt ty v (.int k z)).run P w = .ok u w ∧ AR F ρ t w y u := by
 unfold idxF at h; split at h
 · rename_i id off
   split at h <;> try (simp at h; done)
   rename_i n e hk
   obtain ⟨hu, -⟩ := kind_array fi hk; split at h <;> try (simp at h; done)
   rename_i j hj
   obtain ⟨fj⟩ := tyOf_facts hj; split at h <;> try (simp at h; done)
   rename_i hb
   simp only [Option.some.injEq] at h; subst h
   cases hx with
   | ptr hl hb' =>
     refine ⟨_, run_indexAt_array hu fj hb.1 hb.2, ?_⟩; rw [addr_add]; exact .ptr hl hb'
 · rename_i id L q off
   split at h <;> try (simp at h; done)
   rename_i n e hk
   obtain ⟨hu, -⟩ := kind_array fi hk; split at h <;> try (simp at h; done)
   rename_i j hj
   obtain ⟨fj⟩ := tyOf_facts hj; split at h <;> try (simp at h; done)
   rename_i hb
   simp only [Option.some.injEq] at h; subst h
   cases hx with
   | eptr hs =>
     obtain ⟨e', sz, xs, pub, ha, hL, hi', ad, rfl, hq'⟩ := hs; obtain ⟨bb, bo, bs⟩ := ad; refine ⟨_, run_indexAt_array hu fj hb.1 hb.2, .eptr ⟨e', sz, xs, pub, ha, hL, hi', _, rfl, fun hL' => ?_⟩⟩
     obtain ⟨q1, q2, q3⟩ := hq' hL'; simp only at q1 q2 q3; subst q3; rw [addr_add]; exact ⟨q1, by simp only; omega, rfl⟩
 · rename_i cs
   split at h <;> try (simp at h; done)
   rename_i n e hk
   obtain ⟨hu, -⟩ := kind_array fi hk; split at h <;> try (simp at h; done)
   rename_i j hj
   obtain ⟨fj⟩ := tyOf_facts hj; split at h <;> try (simp at h; done)
   rename_i hb
   simp only [Option.some.injEq] at h; subst h
   cases hx with
   | p hp =>
     cases hp with
     | pp val hc hS hR =>
       refine ⟨_, run_indexAt_array hu fj hb.1 hb.2, ?_⟩; rw [addr_add]; exact .p (PR.pp_drop (.pp val hc hS hR))
 · rename_i xs
   split at h <;> try (simp at h; done)
   rename_i e hk
   have hu := kind_slice fi hk; split at h <;> try (simp at h; done)
   rename_i j hj
   obtain ⟨fj⟩ := tyOf_facts hj; split at h <;> try (simp at h; done)
   rename_i hb
   simp only [Option.some.injEq] at h; subst h
   cases hx with
   | p hp =>
     obtain ⟨ad, c, rfl, _⟩ := hp.ps_inv; obtain ⟨b, o, rfl, -, hp'⟩ := hp.row (k := z.toNat) (by omega) hb.2.2
     exact ⟨_, run_indexAt_slice hu fj hb.1 hb.2.1, .p hp'⟩
 · rename_i xs
   split at h <;> try (simp at h; done)
   rename_i e hk
   have hu := kind_slice fi hk; split at h <;> try (simp at h; done)
   rename_i j hj
   obtain ⟨fj⟩ := tyOf_facts hj; split at h <;> try (simp at h; done)
   rename_i hb
   simp only [Option.some.injEq] at h; subst h; obtain ⟨ad, rfl, hp⟩ := hx.psf_inv; obtain ⟨b, o, rfl, -, hp'⟩ := hp.row (k := z.toNat) (by omega) hb.2.2
   exact ⟨_, run_indexAt_slice hu fj hb.1 hb.2.1, .p hp'⟩
 · rename_i id L off len
   split at h <;> try (simp at h; done)
   rename_i e e' sz xs pub hk ha
   have hu := kind_slice fi hk; split at h <;> try (simp at h; done)
   rename_i j hj
   obtain ⟨fj⟩ := tyOf_facts hj; split at h <;> try (simp at h; done)
   rename_i hb
   obtain ⟨b0, b1, b2, b3⟩ := hb; simp only [Option.some.injEq] at h; subst h
   cases hx with
   | sl hs =>
     obtain ⟨e2, sz2, xs2, pub2, ha2, hL, ad, c, rfl, hq⟩ := hs; rw [ha] at ha2; simp only [Option.some.injEq, C.arr.injEq] at ha2; obtain ⟨rfl, rfl, rfl, rfl⟩ := ha2; obtain ⟨q1, q2, q3, q4⟩ := hq b3.symm; rcases q4 with rfl | ⟨b, n, g1, rfl, g2, g3⟩
     · omega
     · refine ⟨_, run_indexAt_slice hu fj b0 b1, .eptr ⟨e', sz, xs, pub, ha, hL, by omega, _, rfl, fun _ => ⟨g1, ?_, rfl⟩⟩⟩
       simp only [← b2, Nat.add_mul, Nat.add_zero]
 · simp at h
theorem goes_indexAddr (hr : Rel F G ρ t a w) {nid : Nat} {o : Oper} {ty : TypeId} {x ix : Operand} {f : Eff} (ho : o.op = .indexAddr ty x ix) (h : evalOp (tyOf P) t nid o.op = some f) : Goes P F G t a w o f := by
 rw [ho] at h; simp only [evalOp] at h; split at h
 · rename_i i y k z hi he hz
   obtain ⟨fi⟩ := tyOf_facts hi
   cases hq : idxF (tyOf P) t i z y with
   | none => simp [hq] at h
   | some r =>
     simp only [hq, Option.map_some, Option.some.injEq] at h; subst h; have hv := (ev_ar hr hz).v_inv; obtain ⟨u, h1, h2⟩ := idx_any (P := P) (k := k) hr.o fi (ev_ar hr he) hq; refine .quiet hr (v := u) ?_ h2; simp [execOp, ho, hv, h1]
 · simp at h
theorem natOf_run {lo : Option AV} {v : Option Value} {d l : Nat} (h : natOf lo d = some l) (hv : ∀ x, lo = some x → ∃ u, v = some u ∧ AR F ρ t w x u) (hn : lo = none → v = none) :
   (v = none ∧ l = d) ∨ ∃ k, v = some (.int k l) := by
 unfold natOf at h; split at h
 · simp only [Option.some.injEq] at h; exact .inl ⟨hn rfl, h.symm⟩
 · rename_i k z
   split at h
   · rename_i h0
     simp only [Option.some.injEq] at h; obtain ⟨u, hu, hA⟩ := hv _ rfl; rw [hA.v_inv] at hu; exact .inr ⟨k, by rw [hu, ← h, Int.toNat_of_nonneg h0]⟩
   · simp at h
 · simp at h
theorem run_sliceBound' (k : IntKind) (n y : Nat) (code : BoundsCode) (h : n ≤ y) : (Instr.sliceBound (.int k n) y code).run P w = .ok n w := by
 rw [run_sliceBound _ _ _ _ _ (by omega) (by omega)]
 simp
theorem run_bounds {isS : Bool} {len cap l h : Nat} {lo hi : Option Value} (hlo : (lo = none ∧ l = 0) ∨ ∃ k, lo = some (.int k l)) (hhi : (hi = none ∧ h = len) ∨ ∃ k, hi = some (.int k h)) (h1 : l ≤ h) (h2 : h ≤ cap) :
   (Instr.sliceBounds isS len cap lo hi none).run P w = .ok (l, h, cap) w := by
 unfold Instr.sliceBounds; rcases hlo with ⟨rfl, rfl⟩ | ⟨k, rfl⟩ <;> rcases hhi with ⟨rfl, rfl⟩ | ⟨k2, rfl⟩ <;> simp [run_sliceBound', h1, h2]
theorem run_bounds3 {isS : Bool} {len cap l h : Nat} {lo : Option Value} {k1 k2 : IntKind} (hlo : (lo = none ∧ l = 0) ∨ ∃ k, lo = some (.int k l)) (h1 : l ≤ h) (h2 : h ≤ cap) :
   (Instr.sliceBounds isS len cap lo (some (.int k1 h)) (some (.int k2 h))).run P w = .ok (l, h, h) w := by
 unfold Instr.sliceBounds; rcases hlo with ⟨rfl, rfl⟩ | ⟨k, rfl⟩ <;> simp [run_sliceBound', h1, h2]
theorem run_slice_gen {ty e : TypeId} {j : TI} (hu : P.underlying ty = some (.slice e)) (fj : TyFacts P e j) {ad : Option Addr} {n c l h m : Nat} {lo hi mx : Option Value}
   (hb : (Instr.sliceBounds true n c lo hi mx).run P w = .ok (l, h, m) w) :
   (Instr.sliceAt ty (.slice ad n c) lo hi mx).run P w = .ok (.slice (if m = l then ad else ad.map (·.add (l * j.size))) (h - l) (m - l)) w := by
 unfold Instr.sliceAt Instr.slice; simp [run_underlying hu, hb, run_sizeOf' fj]
theorem PR.part {S : Nat → Nat → Prop} {xs : List (List PV)} {ad : Option Addr} {c l h m sz : Nat} (hp : PR w S (.ps xs) (.slice ad xs.length c)) (hs : ∀ row ∈ xs, row.length = sz) (h1 : l ≤ h) (h2 : h ≤ xs.length) (h3 : h ≤ m) :
   PR w S (.ps ((xs.drop l).take (h - l))) (.slice (if m = l then ad else ad.map (·.add (l * sz))) (h - l) (m - l)) := by
 have hn : ((xs.drop l).take (h - l)).length = h - l := by simp; omega
 obtain ⟨ad', c', he, h4⟩ := hp.ps_inv; simp only [Value.slice.injEq] at he; obtain ⟨rfl, -, rfl⟩ := he
 suffices hS : PR w S (.ps ((xs.drop l).take (h - l))) (.slice (if m = l then ad else ad.map (·.add (l * sz))) ((xs.drop l).take (h - l)).length (m - l)) by rwa [hn] at hS
 refine PR.ps_mk (by omega) fun hne => ?_
 have hlt : l < h := by
   rcases Nat.lt_or_ge l h with q | q
   · exact q
   · exfalso; apply hne; apply List.eq_nil_of_length_eq_zero; omega
 have hx : xs ≠ [] := by intro e; simp [e] at h2; omega
 obtain ⟨_, b, o, sz', rfl, hsz, val, hv⟩ := h4 hx
 have : sz' = sz := by
   obtain ⟨row, hrow⟩ := List.exists_mem_of_ne_nil xs hx; rw [← hsz row hrow, hs row hrow]
 subst this; refine ⟨b, o + l * sz', sz', ?_, fun row hrow => hs row (List.mem_of_mem_drop (List.mem_of_mem_take hrow)), fun i j => val (l + i) j, fun i row hi j x hj => ?_⟩
 · rw [if_neg (by omega)]
   simp [addr_add]
 · have hi' : xs[l + i]? = some row := by
     rw [List.getElem?_take] at hi; split at hi
     · rwa [List.getElem?_drop] at hi
     · simp at hi
   have := hv _ row hi' j x hj; rw [Nat.add_mul, ← Nat.add_assoc] at this; exact this
theorem optEv_run (hr : Rel F G ρ t a w) {x : Option Operand} {y : Option AV} (h : optEv t x = some y) : (∀ z, y = some z → ∃ u, x.map a.eval = some u ∧ AR F ρ t w z u) ∧ (y = none → x.map a.eval = none) := by
 unfold optEv at h; split at h
 · simp only [Option.some.injEq] at h
   subst h; exact ⟨fun z hz => by simp at hz, fun _ => rfl⟩
 · rename_i x
   cases he : ev t x with
   | none => simp [he] at h
   | some b =>
     simp only [he, Option.map_some, Option.some.injEq] at h; subst h; exact ⟨fun z hz => by simp only [Option.some.injEq] at hz; subst hz; exact ⟨_, rfl, ev_ar hr he⟩, fun h => by simp at h⟩
theorem natOf_mx {v : Option Value} {m : AV} {h : Nat} (hm : natOf (some m) 0 = some h) (hv : ∃ u, v = some u ∧ AR F ρ t w m u) : ∃ k, v = some (.int k h) := by
 rcases natOf_run (v := v) hm (fun x hx => by simp only [Option.some.injEq] at hx; subst hx; exact hv) (by simp) with ⟨hn, _⟩ | hk
 · obtain ⟨u, hu, _⟩ := hv
   rw [hu] at hn; simp at hn
 · exact hk
theorem sliceP_any {ty e : TypeId} {j : TI} (hu : P.underlying ty = some (.slice e)) (fj : TyFacts P e j) {xs : List (List PV)} {full : Bool} {ad : Option Addr} {c : Nat} {lo hi mx : Option AV} {vl vh vm : Option Value} {y : AV}
   (hp : PR w (Stb F ρ t) (.ps xs) (.slice ad xs.length c)) (hc : xs.length ≤ c ∨ xs = []) (hf : full = true → c = xs.length)
   (hlo : (∀ z, lo = some z → ∃ u, vl = some u ∧ AR F ρ t w z u) ∧ (lo = none → vl = none)) (hhi : (∀ z, hi = some z → ∃ u, vh = some u ∧ AR F ρ t w z u) ∧ (hi = none → vh = none))
   (hmx : (∀ z, mx = some z → ∃ u, vm = some u ∧ AR F ρ t w z u) ∧ (mx = none → vm = none)) (h : sliceP j.size xs full lo hi mx = some y) :
   ∃ u, (Instr.sliceAt ty (.slice ad xs.length c) vl vh vm).run P w = .ok u w ∧ AR F ρ t w y u := by
 unfold sliceP at h; split at h <;> try (simp at h; done)
 · rename_i l hh hl hh'
   split at h <;> try (simp at h; done)
   rename_i hb
   obtain ⟨b1, b2, b3⟩ := hb; have e1 := natOf_run (v := vl) hl hlo.1 hlo.2; have e2 := natOf_run (v := vh) hh' hhi.1 hhi.2; have e3 := hmx.2 rfl; subst e3
   have hle : hh ≤ c := by
     rcases hc with hc | hc
     · omega
     · simp [hc] at b2; omega
   refine ⟨_, run_slice_gen hu fj (run_bounds e1 e2 b1 hle), ?_⟩; have hP := hp.part b3 b1 b2 hle; split at h
   · rename_i hfull
     simp only [Option.some.injEq] at h; subst h; obtain ⟨g1, g2⟩ := hfull; have := hf g1; subst this; subst g2; have : (xs.drop l).take (xs.length - l) = xs.drop l := List.take_of_length_le (by simp)
     rw [this] at hP; exact .psf hP
   · simp only [Option.some.injEq] at h
     subst h; exact .p hP
 · rename_i l hh m hl hh'
   split at h <;> try (simp at h; done)
   rename_i hb
   obtain ⟨b1, b2, b5, b4, b3⟩ := hb; simp only [Option.some.injEq] at h; subst h; have e1 := natOf_run (v := vl) hl hlo.1 hlo.2; obtain ⟨k2, e3⟩ := natOf_mx b4 (hmx.1 m rfl); subst e3
   have hle : hh ≤ c := by
     rcases hc with hc | hc
     · omega
     · simp [hc] at b2; omega
   have hP := hp.part b3 b1 b2 (Nat.le_refl hh); rcases natOf_run (v := vh) hh' hhi.1 hhi.2 with ⟨e2, e4⟩ | ⟨k1, e2⟩
   · exfalso
     obtain ⟨z, hz⟩ := Option.isSome_iff_exists.1 b5; obtain ⟨u, hu', _⟩ := hhi.1 z hz; rw [e2] at hu'; simp at hu'
   · subst e2
     exact ⟨_, run_slice_gen hu fj (run_bounds3 e1 b1 hle), .psf hP⟩
theorem slice_arr {ty e n : Nat} {j : TI} (hua : P.underlying ty = some (.array n e)) (fj : TyFacts P e j) (h1 : j.size = 1) {cs : List PV} (hn : n ≤ cs.length) {v : Value} (hp : PR w (Stb F ρ t) (.pp cs) v) :
   ∃ u, (Instr.sliceAt ty v none none none).run P w = .ok u w ∧ AR F ρ t w (.psf ((cs.take n).map fun c => [c])) u := by
 cases hp with
 | @pp cs b o val hc hS hR =>
   have hl : ((cs.take n).map fun c => [c]).length = n := by simp; omega
   have hat : ∀ (i : Nat) (row : List PV), ((cs.take n).map fun c => [c])[i]? = some row → ∀ (k : Nat) (x : PV), row[k]? = some x → k = 0 ∧ cs[i]? = some x := by
     intro i row hi k x hk; rw [List.getElem?_map, Option.map_eq_some_iff] at hi; obtain ⟨c, h1, rfl⟩ := hi
     have hin : i < n := by
       have := (List.getElem?_eq_some_iff.1 h1).1; simp only [List.length_take] at this; omega
     rw [List.getElem?_take_of_lt hin] at h1
     cases k with
     | zero => simp at hk; subst hk; exact ⟨rfl, h1⟩
     | succ k => simp at hk
   refine ⟨.slice (some ⟨b, o, none⟩) n n, ?_, ?_⟩
   · unfold Instr.sliceAt
     have hb := run_bounds (P := P) (w := w) (isS := false) (len := n) (cap := n) (l := 0) (h := n) (lo := none) (hi := none) (.inl ⟨rfl, rfl⟩) (.inl ⟨rfl, rfl⟩) (Nat.zero_le n) (Nat.le_refl n); simp [run_underlying hua, Instr.sureAddr, hb, run_sizeOf' fj]; intro hn0; simp [Addr.add]
   · refine .psf ?_
     have := PR.ps (w := w) (S := Stb F ρ t) (xs := (cs.take n).map fun c => [c]) (b := b) (o := o) (c := n) (sz := 1) (fun i _ => val i) (by omega) (by
       intro row hrow; simp only [List.mem_map] at hrow; obtain ⟨c, _, rfl⟩ := hrow
       rfl) (fun i row hi k x hk => by obtain ⟨rfl, h2⟩ := hat i row hi k x hk; simpa using hc i x h2) (fun i row hi k x hk => by obtain ⟨rfl, h2⟩ := hat i row hi k x hk; simpa using hS i x h2) (fun i row hi k x hk => by obtain ⟨rfl, h2⟩ := hat i row hi k x hk; exact hR i x h2)
     rw [hl] at this; exact this
theorem goes_slice (hr : Rel F G ρ t a w) {nid : Nat} {o : Oper} {ty : TypeId} {x : Operand} {lo hi mx : Option Operand} {f : Eff} (ho : o.op = .slice ty x lo hi mx) (h : evalOp (tyOf P) t nid o.op = some f) : Goes P F G t a w o f := by
 rw [ho] at h; simp only [evalOp] at h; split at h <;> try (simp at h; done)
 rename_i i y lo' hi' mx' hi1 he h2 h3 h4
 obtain ⟨fi⟩ := tyOf_facts hi1
 cases hq : sliceF (tyOf P) t i lo' hi' mx' y with
 | none => simp [hq] at h
 | some r =>
   simp only [hq, Option.map_some, Option.some.injEq] at h; subst h; have hx := ev_ar hr he; have r2 := optEv_run hr h2; have r3 := optEv_run hr h3; have r4 := optEv_run hr h4
   suffices ∃ u, (Instr.sliceAt ty (a.eval x) (lo.map a.eval) (hi.map a.eval) (mx.map a.eval)).run P w = .ok u w ∧ AR F ρ t w r u by
     obtain ⟨u, h1, h2⟩ := this; refine .quiet hr (v := u) ?_ h2; simp [execOp, ho, h1]
   unfold sliceF at hq; split at hq
   · rename_i xs
     split at hq <;> try (simp at hq; done)
     rename_i e hk
     have hu := kind_slice fi hk; split at hq <;> try (simp at hq; done)
     rename_i j hj
     obtain ⟨fj⟩ := tyOf_facts hj; generalize hv : a.eval x = v at hx ⊢
     cases hx with
     | p hp =>
       obtain ⟨ad, c, rfl, h5⟩ := hp.ps_inv; exact sliceP_any hu fj hp (Classical.byCases (fun hx => .inr hx) (fun hx => .inl (h5 hx).1)) (by simp) r2 r3 r4 hq
   · rename_i cs
     split at hq <;> try (simp at hq; done)
     rename_i n e hka
     have hua := (kind_array fi hka).1; split at hq <;> try (simp at hq; done)
     rename_i j hj
     obtain ⟨fj⟩ := tyOf_facts hj; split at hq <;> try (simp at hq; done)
     rename_i hb
     obtain ⟨b0, b1, b2, b3, b4⟩ := hb; simp only [Option.some.injEq] at hq; subst hq; rw [Option.isNone_iff_eq_none] at b2 b3 b4; rw [r2.2 b2, r3.2 b3, r4.2 b4]; generalize hv : a.eval x = v at hx ⊢
     cases hx with
     | p hp => exact slice_arr hua fj b0 b1 hp
   · rename_i xs
     split at hq <;> try (simp at hq; done)
     rename_i e hk
     have hu := kind_slice fi hk; split at hq <;> try (simp at hq; done)
     rename_i j hj
     obtain ⟨fj⟩ := tyOf_facts hj; obtain ⟨ad, hv, hp⟩ := hx.psf_inv; rw [hv] at hp ⊢; exact sliceP_any hu fj hp (.inl (Nat.le_refl _)) (fun _ => rfl) r2 r3 r4 hq
   · rename_i id L off len
     split at hq <;> try (simp at hq; done)
     rename_i e e' sz xs pub hk ha
     have hu := kind_slice fi hk; split at hq <;> try (simp at hq; done)
     rename_i j hj
     obtain ⟨fj⟩ := tyOf_facts hj; split at hq <;> try (simp at hq; done)
     rename_i l hh hl hh'
     split at hq <;> try (simp at hq; done)
     rename_i hb
     obtain ⟨b0, b1, b2, b3⟩ := hb; simp only [Option.some.injEq] at hq; subst hq; have e3 := r4.2 rfl; rw [e3]; generalize hv : a.eval x = v at hx ⊢
     cases hx with
     | sl hs =>
       obtain ⟨e2, sz2, xs2, pub2, ha2, hL, ad, c, rfl, hq⟩ := hs; rw [ha] at ha2; simp only [Option.some.injEq, C.arr.injEq] at ha2; obtain ⟨rfl, rfl, rfl, rfl⟩ := ha2; obtain ⟨q1, q2, q5, q4⟩ := hq b3.symm; refine ⟨_, run_slice_gen hu fj (run_bounds (natOf_run hl r2.1 r2.2) (natOf_run hh' r3.1 r3.2) b0 (by omega)), .sl ⟨e', sz, xs, pub, ha, hL, _, _, rfl, fun _ => ⟨by omega, by omega, by omega, ?_⟩⟩⟩
       rcases q4 with rfl | ⟨b, n, g1, rfl, g2, g3⟩
       · exact .inl (by omega)
       · by_cases hc : c = l
         · exact .inl (by omega)
         · refine .inr ⟨b, n, g1, ?_, g2, by rw [show off + l + (c - l) = off + c by omega]; exact g3⟩
           rw [if_neg hc]; simp [addr_add, ← b2, Nat.add_mul]
   · rename_i s
     split at hq <;> try (simp at hq; done)
     rename_i l hh hk hl hh'
     have hu := kind_str fi hk; split at hq <;> try (simp at hq; done)
     rename_i hb
     simp only [Option.some.injEq] at hq; subst hq; rw [hx.v_inv, r4.2 rfl]; refine ⟨.string (s.extract l hh), ?_, .vv_mk rfl⟩; unfold Instr.sliceAt Instr.slice; simp [run_underlying hu, run_bounds (natOf_run hl r2.1 r2.2) (natOf_run hh' r3.1 r3.2) hb.1 hb.2]
   · simp at hq
theorem len_any {x : AV} {v : Value} {n : Nat} {ty ret : TypeId} {i : TI} (hx : AR F ρ t w x v) (fi : TyFacts P ty i) (h : lenF i.k x = some n) :
   (Builtin.len_ #[ty] ret #[v]).run P w = .ok (.int .i64 n) w := by
 unfold lenF at h; unfold Builtin.len_; split at h
 · rename_i e id L off m hk
   have hd := kind_slice fi hk; simp only [Option.some.injEq] at h; subst h
   cases hx with
   | sl hs' =>
     obtain ⟨_, _, _, _, _, _, ad, c, rfl, _⟩ := hs'; simp [run_underlying hd, goInt]
 · rename_i e xs hk
   have hd := kind_slice fi hk; simp only [Option.some.injEq] at h; subst h
   cases hx with
   | p hp =>
     obtain ⟨ad, c, rfl, _⟩ := hp.ps_inv; simp [run_underlying hd, goInt]
 · rename_i e xs hk
   have hd := kind_slice fi hk; simp only [Option.some.injEq] at h; subst h; obtain ⟨ad, rfl, _⟩ := hx.psf_inv; simp [run_underlying hd, goInt]
 · rename_i s hk
   have hd := kind_str fi hk; simp only [Option.some.injEq] at h; subst h; have := hx.v_inv; subst this; simp [run_underlying hd, goInt]
 · rename_i m e y hk
   have hd := (kind_array fi hk).1; simp only [Option.some.injEq] at h; subst h; simp [run_underlying hd, goInt]
 · simp at h
theorem max_any {x y z : AV} {u v : Value} {ts : Array TypeId} {ret : TypeId} (hx : AR F ρ t w x u) (hy : AR F ρ t w y v) (h : maxF x y = some z) : ∃ r, (Builtin.max_ ts ret #[u, v]).run P w = .ok r w ∧ AR F ρ t w z r := by
 unfold maxF at h; split at h
 · simp only [Option.some.injEq] at h; subst h
   rw [hx.v_inv, hy.v_inv]; exact ⟨_, run_max_int2 _ _ _ _ _ _ _, .vv_mk rfl⟩
 · simp at h
theorem min_any {x y z : AV} {u v : Value} {ts : Array TypeId} {ret : TypeId} (hx : AR F ρ t w x u) (hy : AR F ρ t w y v) (h : minF x y = some z) : ∃ r, (Builtin.min_ ts ret #[u, v]).run P w = .ok r w ∧ AR F ρ t w z r := by
 unfold minF at h; split at h
 · simp only [Option.some.injEq] at h; subst h
   rw [hx.v_inv, hy.v_inv]; exact ⟨_, run_min_int2 _ _ _ _ _ _ _, .vv_mk rfl⟩
 · simp at h
theorem kind_bool {ty : TypeId} {i : TI} (f : TyFacts P ty i) (hk : i.k = .bool) : P.underlying ty = some .bool := by
 have h := f.hk; rw [hk] at h; cases hd : f.d <;> simp only [hd, kindOf] at h <;> try (first | (simp at h; done) | (split at h <;> simp at h; done))
 rw [f.hd, hd]
theorem kind_int {ty : TypeId} {i : TI} {k : IntKind} (f : TyFacts P ty i) (hk : i.k = .int k) : P.underlying ty = some (.int k) := by
 have h := f.hk; rw [hk] at h; cases hd : f.d <;> simp only [hd, kindOf] at h <;> try (first | (simp at h; done) | (split at h <;> simp at h; done))
 simp at h; rw [f.hd, hd, h]
theorem allSome_inv {α : Type} : ∀ {l : List (Option α)} {r : List α}, allSome l = some r → l = r.map some
 | [], r, h => by simp [allSome] at h; subst h; rfl
 | none :: l, r, h => by simp [allSome] at h
 | some b :: l, r, h => by
   simp only [allSome] at h
   cases hq : allSome l with
   | none => simp [hq] at h
   | some q =>
     simp only [hq, Option.map_some, Option.some.injEq] at h; subst h; rw [allSome_inv hq]; rfl
theorem andAll_cons (b : Bool) (r : List Bool) : andAll (b :: r) = (b && andAll r) := by
 cases r with
 | nil => simp [andAll]
 | cons c r => rfl
theorem eqT_run (d : Nat) : ∀ (ty : TypeId) (x y : AV) (u v : Value) (b : Bool) (D : Nat), d ≤ D → eqT (tyOf P) d ty x y = some b → AR F ρ t w x u → AR F ρ t w y v → (Op.equalIn D ty u v).run P w = .ok b w := by
 induction d with
 | zero => intro ty x y u v b D _ h; simp [eqT] at h
 | succ d ih =>
   intro ty x y u v b D hD h hx hy; obtain ⟨D, rfl⟩ : ∃ m, D = m + 1 := ⟨D - 1, by omega⟩
   simp only [eqT] at h; split at h
   · simp at h
   · rename_i i hi
     obtain ⟨fi⟩ := tyOf_facts hi; split at h
     · rename_i fs xs ys hk
       obtain ⟨fields, hu, hfs, hnm, hst, -, -⟩ := kind_struct fi hk; obtain ⟨us, rfl, un, u1, uA⟩ := hx.agg_inv; obtain ⟨vs, rfl, vn, v1, vA⟩ := hy.agg_inv; have hF : P.fieldsOf ty = fields := by simp [Program.fieldsOf, hu]
       rw [run_equalIn_struct w D ty us vs (by rw [hF]; exact hu) hst, hF]
       cases hq : allSome (fs.map fun f => eqCut (tyOf P) (eqT (tyOf P) d) xs ys f.1 f.2) with
       | none => simp only [hq, Option.map_none, reduceCtorEq] at h
       | some bs =>
         simp only [hq, Option.map_some, Option.some.injEq] at h; subst h; have hq' := allSome_inv hq; rw [hfs, List.map_map] at hq'; clear hq hfs hu hF
         revert bs
         generalize fields.toList = fl at hnm
         induction fl with
         | nil => intro bs hb; simp at hb; subst hb; simp [Op.eqFields, andAll]
         | cons f fl ihl =>
           intro bs hb
           cases bs with
           | nil => simp at hb
           | cons c bs =>
             simp only [List.map_cons, List.cons.injEq, Function.comp] at hb; obtain ⟨hb1, hb2⟩ := hb; unfold eqCut at hb1; split at hb1 <;> try (simp at hb1; done)
             rename_i j hj
             obtain ⟨fj⟩ := tyOf_facts hj; split at hb1 <;> try (simp at hb1; done)
             rename_i p q hp hq
             obtain ⟨pv, p1, p2⟩ := cut_ar (P := P) (w := w) fj un u1 uA hp; obtain ⟨qv, q1, q2⟩ := cut_ar (P := P) (w := w) fj vn v1 vA hq; have he := ih f.type p q pv qv c D (by omega) hb1 p2 q2
             have hn : f.name ≠ "_" := by have := hnm f (by simp); simpa using this
             simp only [Op.eqFields, hn, ne_eq, not_false_eq_true, if_true, Sem.run_bind, p1, q1, Result.andThen_ok, he, andAll_cons]; cases c
             · simp
             · simp only [Bool.not_true, Bool.false_eq_true, if_false, Bool.true_and]
               exact ihl (fun g hg => hnm g (by simp [hg])) bs hb2
     · rename_i n e xs ys hk
       obtain ⟨hu, -⟩ := kind_array fi hk; obtain ⟨us, rfl, un, u1, uA⟩ := hx.agg_inv; obtain ⟨vs, rfl, vn, v1, vA⟩ := hy.agg_inv; split at h <;> try (simp at h; done)
       rename_i j hj
       obtain ⟨fj⟩ := tyOf_facts hj; have hc : P.cellsOf e = j.size := by simp [Program.cellsOf, fj.hi, fj.hsz]
       rw [run_equalIn_array w D us vs hu fj.hi, hc]
       cases hq : allSome ((List.range n).map fun k => eqCut (tyOf P) (eqT (tyOf P) d) xs ys e (k * j.size)) with
       | none => simp only [hq, Option.map_none, reduceCtorEq] at h
       | some bs =>
         simp only [hq, Option.map_some, Option.some.injEq] at h; subst h; have hq' := allSome_inv hq; clear hq
         revert bs
         generalize List.range n = fl
         induction fl with
         | nil => intro bs hb; simp at hb; subst hb; simp [Op.eqItems, andAll]
         | cons f fl ihl =>
           intro bs hb
           cases bs with
           | nil => simp at hb
           | cons c bs =>
             simp only [List.map_cons, List.cons.injEq] at hb; obtain ⟨hb1, hb2⟩ := hb; unfold eqCut at hb1; rw [hj] at hb1; simp only at hb1; split at hb1 <;> try (simp at hb1; done)
             rename_i p q hp hq
             obtain ⟨pv, p1, p2⟩ := cut_ar (P := P) (w := w) fj un u1 uA hp; obtain ⟨qv, q1, q2⟩ := cut_ar (P := P) (w := w) fj vn v1 vA hq; have he := ih e p q pv qv c D (by omega) hb1 p2 q2
             simp only [Op.eqItems, Sem.run_bind, p1, q1, Result.andThen_ok, he, andAll_cons]; cases c
             · simp
             · simp only [Bool.not_true, Bool.false_eq_true, if_false, Bool.true_and]
               exact ihl bs hb2
     · rename_i k x y hns hna
       unfold scalarEq at h; split at h
       · rename_i a b hk
         simp only [Option.some.injEq] at h; subst h; rw [hx.v_inv, hy.v_inv]; exact run_equalIn_bool w D ty _ _ (kind_bool fi hk)
       · rename_i k' ka a kb b hk
         split at h <;> try (simp at h; done)
         rename_i hkk
         subst hkk; simp only [Option.some.injEq] at h; subst h; rw [hx.v_inv, hy.v_inv]; exact run_equalIn_int w D ty _ _ _ _ (kind_int fi hk)
       · rename_i a b hk
         simp only [Option.some.injEq] at h; subst h; rw [hx.v_inv, hy.v_inv]; exact run_equalIn_string w D ty _ _ (kind_str fi hk)
       · simp at h
theorem eqGuard_agg {op : BinOp} {ty : TypeId} {x y : Operand} {us vs : Array Value} (h : P.eqGuardType P.depth ty = false) : (eqGuard op ty x y (.agg us) (.agg vs)).run P w = .ok () w := by
 unfold eqGuard; cases op <;> simp [h]
theorem goes_binOp (hr : Rel F G ρ t a w) {nid : Nat} {o : Oper} {op : BinOp} {ty ty2 : TypeId} {x y : Operand} {f : Eff} (ho : o.op = .binOp op ty x y ty2) (h : evalOp (tyOf P) t nid o.op = some f) : Goes P F G t a w o f := by
 rw [ho] at h; simp only [evalOp] at h; split at h <;> try (simp at h; done)
 rename_i p q hp hq
 have hx := ev_ar hr hp; have hy := ev_ar hr hq
 cases hb : binF (tyOf P) op ty p q with
 | none => simp [hb] at h
 | some r =>
   simp only [hb, Option.map_some, Option.some.injEq] at h; subst h
   suffices ∃ u, (do eqGuard op ty x y (a.eval x) (a.eval y); Go.binOp op ty (a.eval x) (a.eval y) : Sem Value).run P w = .ok u w ∧ AR F ρ t w r u by
     obtain ⟨u, h1, h2⟩ := this; refine .quiet hr (v := u) ?_ h2; simp only [execOp, ho]; rw [Sem.run_bind, h1]; rfl
   unfold binF at hb; split at hb
   · rename_i b c
     have e1 := hx.v_inv; have e2 := hy.v_inv; rw [e1, e2]
     have hg : (eqGuard op ty x y (.bool b) (.bool c)).run P w = .ok () w := by
       unfold eqGuard; cases op <;> rfl
     simp only [Sem.run_bind, hg, Result.andThen_ok]; split at hb <;> try (simp at hb; done)
     rename_i i hi
     obtain ⟨fi⟩ := tyOf_facts hi; split at hb <;> try (simp at hb; done)
     · rename_i hk
       simp only [Option.some.injEq] at hb; subst hb; exact ⟨_, run_eql_bool _ _ _ _ (kind_bool fi hk), .vv_mk rfl⟩
     · rename_i hk
       simp only [Option.some.injEq] at hb; subst hb; exact ⟨_, run_neq_bool _ _ _ _ (kind_bool fi hk), .vv_mk rfl⟩
   · rename_i u v _
     cases hs : scalarBin op u v with
     | none => simp [hs] at hb
     | some z =>
       simp only [hs, Option.map_some, Option.some.injEq] at hb; subst hb; obtain ⟨h1, h2⟩ := scalarBin_run (P := P) (w := w) (ty := ty) (p := x) (q := y) hs; rw [hx.v_inv, hy.v_inv]; exact ⟨z, h1, .vv_mk h2⟩
   · rename_i xs ys
     have hgt : ∀ b, eqT (tyOf P) 8 ty (.agg xs) (.agg ys) = some b → P.eqGuardType P.depth ty = false := by
       intro b hb; simp only [eqT] at hb; split at hb <;> try (simp at hb; done)
       rename_i i hi
       obtain ⟨fi⟩ := tyOf_facts hi; split at hb
       · rename_i hk _ _; exact (kind_struct fi hk).choose_spec.2.2.2.2.1
       · rename_i hk _ _; exact (kind_array fi hk).2
       · unfold scalarEq at hb
         split at hb <;> simp_all
     obtain ⟨us, hu, un, u1, uA⟩ := hx.agg_inv; obtain ⟨vs, hv, vn, v1, vA⟩ := hy.agg_inv; split at hb <;> try (simp at hb; done)
     all_goals
       cases he : eqT (tyOf P) 8 ty (.agg xs) (.agg ys) with
       | none => simp [he] at hb
       | some b =>
         simp only [he, Option.map_some, Option.some.injEq] at hb; subst hb; have hg := hgt b he; have hrun := eqT_run (P := P) (w := w) 8 ty (.agg xs) (.agg ys) (a.eval x) (a.eval y) b 10000 (by omega) he hx hy
         rw [hu, hv] at hrun ⊢; refine ⟨_, ?_, .vv_mk rfl⟩; simp only [Sem.run_bind, eqGuard_agg hg, Result.andThen_ok]; simp [Go.binOp, Op.equal, Op.maxDepth, hrun]
   · simp at hb
end
end Go.Flat
end
section
set_option linter.unusedVariables false
set_option linter.unusedSimpArgs false
namespace Go.Flat
section
variable {P : Program} {F : Nat → Nat → Prop} {G : Start} {ρ ρ' : Ren} {t t' : Sto} {a : Act} {w w' : World}
theorem Rel.step (h : Rel F G ρ t a w) (hE : Ext F ρ t w ρ' t' w') (ho : RelO F ρ' t' w') (ht : ∀ k, t' (.tmp k) = t (.tmp k))
   (hown : ∀ id b, live t' id → ρ' id = some b → (live t id ∧ ρ id = some b) ∨ w.heap.size ≤ b)
   (hfrm : ∀ b, b < w.heap.size → (∀ id, live t id → ρ id ≠ some b) → w'.heap[b]? = w.heap[b]?) : Rel F G ρ' t' a w' := by
 refine ⟨ho, ?_, h.siz, h.dfr, h.ext.trans hE, ?_, ?_⟩
 · intro k c hk
   rw [ht] at hk; obtain ⟨x, hx, hA⟩ := h.tmp k c hk; exact ⟨x, hx, hA.ext hE⟩
 · intro id b hl hb
   rcases hown id b hl hb with ⟨h1, h2⟩ | h1
   · exact h.own id b h1 h2
   · exact .inr (Nat.le_trans h.ext.size h1)
 · intro b hb hn
   rw [hfrm b (Nat.lt_of_lt_of_le hb h.ext.size) ?_]
   · exact h.frm b hb hn
   · intro id hl hbb
     rcases h.own id b hl hbb with ⟨h1, h2⟩ | h1
     · exact hn id h1 h2
     · omega
theorem appU_ne {u : Upd} {l : Loc} (h : ∀ p ∈ u, p.1 ≠ l) : appU u t l = t l := by
 induction u generalizing t with
 | nil => rfl
 | cons p u ih =>
   obtain ⟨l', c⟩ := p; simp only [appU]; rw [ih (fun q hq => h q (by simp [hq]))]
   exact upd_ne _ _ (fun e => h (l', c) (by simp) e.symm)
theorem putCells_mem {id off : Nat} {cs : List AV} {p : Loc × Option C} (h : p ∈ putCells id off cs) : ∃ j, p.1 = .cell id j := by
 induction cs generalizing off with
 | nil => simp [putCells] at h
 | cons a cs ih =>
   simp only [putCells, List.mem_cons] at h; rcases h with rfl | h
   · exact ⟨off, rfl⟩
   · exact ih h
theorem putCells_other {id off : Nat} {cs : List AV} {l : Loc} (h : ∀ j, l ≠ .cell id j) : appU (putCells id off cs) t l = t l :=
 appU_ne fun p hp e => by obtain ⟨j, hj⟩ := putCells_mem hp; exact h j (by rw [← e, hj])
theorem putCells_at {id : Nat} : ∀ {cs : List AV} {off j : Nat} {t : Sto}, appU (putCells id off cs) t (.cell id j) = if off ≤ j ∧ j < off + cs.length then (cs[j - off]?).map .av else t (.cell id j)
 | [], off, j, t => by
   rw [if_neg (by simp only [List.length_nil]; omega)]
   rfl
 | a :: cs, off, j, t => by
   simp only [putCells, appU]; rw [putCells_at]
   by_cases h : off + 1 ≤ j ∧ j < off + 1 + cs.length
   · rw [if_pos h, if_pos (by simp; omega)]
     rw [show j - off = (j - (off + 1)) + 1 by omega]
     simp
   · rw [if_neg h]
     by_cases e : j = off
     · subst e
       simp
     · rw [if_neg (by simp; omega), upd_ne _ _ (by simpa using e)]
theorem shape_of {b : Nat} {cs : Array Value} {e : TypeId} {fr : Nat × Nat} (h : w.heap[b]? = some (.cells cs e fr)) : w.shape? b = some (e, cs.size) := by simp [World.shape?, h]
theorem cell_lt {b o : Nat} {u : Value} (h : w.cell? ⟨b, o, none⟩ = some u) : b < w.heap.size := World.block_lt_of_cell? (a := ⟨b, o, none⟩) w h
theorem live_lt (h : RelO F ρ t w) {id b : Nat} (hl : live t id) (hb : ρ id = some b) : b < w.heap.size := by
 rcases hl with hl | hl
 · obtain ⟨c, hc⟩ := Option.ne_none_iff_exists'.1 hl
   obtain ⟨n, b', cs, e, rfl, h2, h3, h4⟩ := h.var id c hc; rw [hb] at h2; simp only [Option.some.injEq] at h2; subst h2; exact (Array.getElem?_eq_some_iff.1 h3).1
 · obtain ⟨c, hc⟩ := Option.ne_none_iff_exists'.1 hl
   obtain ⟨e, sz, xs, pub, rfl, h0, h1, h2, h3⟩ := h.arr id c hc; rcases h3 with ⟨h3, _⟩ | ⟨b', cs, h3, h4, _⟩
   · rw [hb] at h3; simp at h3
   · rw [hb] at h3
     simp only [Option.some.injEq] at h3; subst h3; exact (Array.getElem?_eq_some_iff.1 h4).1
def setR (ρ : Ren) (id b : Nat) : Ren := fun k => if k = id then some b else ρ k
theorem setR_same (ρ : Ren) (id b : Nat) : setR ρ id b id = some b := by simp [setR]
theorem setR_ne (ρ : Ren) {id k : Nat} (b : Nat) (h : k ≠ id) : setR ρ id b k = ρ k := by simp [setR, h]
theorem Ext.new {id : Nat} {obj : Obj} (hw : RelO F ρ t w) (h1 : t (.var id) = none) (h2 : t (.arr id) = none)
   (hv : ∀ k, k ≠ id → t' (.var k) = t (.var k)) (ha : ∀ k, k ≠ id → t' (.arr k) = t (.arr k)) : Ext F ρ t w (setR ρ id w.heap.size) t' (w.alloc obj) := by
 refine ⟨rfl, rfl, rfl, by simp, ?_, ?_, ?_⟩
 · intro k hk
   have : k ≠ id := fun e => hk (e ▸ h1)
   exact ⟨by rw [hv k this]; exact hk, setR_ne _ _ this⟩
 · intro k e sz xs pub hk
   have : k ≠ id := fun e => by rw [e, h2] at hk; simp at hk
   refine ⟨xs, pub, by rw [ha k this]; exact hk, Nat.le_refl _, fun _ => ⟨setR_ne _ _ this, fun b s hb hs => ?_⟩⟩
   have hlt := live_lt hw (id := k) (.inr (by rw [hk]; simp)) hb
   unfold World.shape? at hs ⊢; rw [heap_alloc_old w obj hlt]; exact hs
 · intro b o u hs hc
   have hlt := cell_lt hc; refine ⟨by rw [World.cell?_alloc_lt _ _ _ hlt]; exact hc, hs.1, fun k hk => ?_⟩
   by_cases e : k = id
   · subst e
     rw [setR_same] at hk; simp only [Option.some.injEq] at hk; omega
   · rw [setR_ne _ _ e] at hk
     rw [hv k e, ha k e]; exact hs.2 k hk
theorem RelO.new {id : Nat} {cs : Array Value} {e : TypeId} (h : RelO F ρ t w) (h1 : t (.var id) = none) (h2 : t (.arr id) = none)
   (hv : ∀ k, k ≠ id → t' (.var k) = t (.var k)) (ha : ∀ k, k ≠ id → t' (.arr k) = t (.arr k)) (hc : ∀ k j, k ≠ id → t' (.cell k j) = t (.cell k j))
   (hvar : ∀ c, t' (.var id) = some c → c = .n cs.size)
   (hcell : ∀ j c, t' (.cell id j) = some c → ∃ x u, c = .av x ∧ t' (.var id) = some (.n cs.size) ∧ cs[j]? = some u ∧ AR F ρ t w x u ∧ u.oneCell' = true)
   (harr : ∀ c, t' (.arr id) = some c → ∃ sz xs pub, c = .arr e sz xs pub ∧ 0 < sz ∧ pub = 0 ∧ (∀ row ∈ xs, row.length = sz) ∧ xs.length * sz ≤ cs.size ∧
     ∀ (i : Nat) (row : List PV), xs[i]? = some row → ∀ (j : Nat) (x : PV), row[j]? = some x → ∃ u, cs[i * sz + j]? = some u ∧ PQ F ρ t w id x u)
   (hex : t' (.var id) ≠ none → t' (.arr id) = none) :
   RelO F (setR ρ id w.heap.size) t' (w.alloc (.cells cs e)) ∧ Ext F ρ t w (setR ρ id w.heap.size) t' (w.alloc (.cells cs e)) := by
 have hE : Ext F ρ t w (setR ρ id w.heap.size) t' (w.alloc (.cells cs e)) := .new h h1 h2 hv ha; have hlive : ∀ k, k ≠ id → (live t' k ↔ live t k) := fun k hk => by simp [live, hv k hk, ha k hk]
 refine ⟨⟨?_, ?_, ?_, ?_, ?_, ?_, ?_⟩, hE⟩
 · intro k c hk
   by_cases ek : k = id
   · subst ek
     exact ⟨cs.size, w.heap.size, cs, e, hvar c hk, setR_same _ _ _, heap_alloc_new w _, rfl⟩
   · rw [hv k ek] at hk
     obtain ⟨n, b, cs', e', rfl, q1, q2, q3⟩ := h.var k c hk; exact ⟨n, b, cs', e', rfl, by rw [setR_ne _ _ ek]; exact q1, by rw [heap_alloc_old w _ (Array.getElem?_eq_some_iff.1 q2).1]; exact q2, q3⟩
 · intro k j c hk
   by_cases ek : k = id
   · subst ek
     obtain ⟨x, u, rfl, q1, q2, q3, q4⟩ := hcell j c hk; refine ⟨x, cs.size, w.heap.size, u, rfl, q1, (Array.getElem?_eq_some_iff.1 q2).1, setR_same _ _ _, ?_, q3.ext hE, q4⟩; rw [cell_of_row _ _ _ cs e _ (heap_alloc_new w _)]; exact q2
   · rw [hc k j ek] at hk
     obtain ⟨x, n, b, u, rfl, q1, q2, q3, q4, q5, q6⟩ := h.cell k j c hk; exact ⟨x, n, b, u, rfl, by rw [hv k ek]; exact q1, q2, by rw [setR_ne _ _ ek]; exact q3, by rw [World.cell?_alloc_lt _ _ _ (cell_lt q4)]; exact q4, q5.ext hE, q6⟩
 · intro k c hk
   by_cases ek : k = id
   · subst ek
     obtain ⟨sz, xs, pub, rfl, q1, rfl, q3, q4, q5⟩ := harr c hk; refine ⟨e, sz, xs, 0, rfl, q1, Nat.zero_le _, q3, .inr ⟨w.heap.size, cs, setR_same _ _ _, heap_alloc_new w _, q4, fun i row hi j x hj => ?_⟩⟩
     obtain ⟨u, u1, u2⟩ := q5 i row hi j x hj; exact ⟨u, u1, u2.ext hE⟩
   · rw [ha k ek] at hk
     obtain ⟨e', sz, xs, pub, rfl, q1, q2, q3, q4⟩ := h.arr k c hk; refine ⟨e', sz, xs, pub, rfl, q1, q2, q3, ?_⟩; rcases q4 with ⟨q4, q5⟩ | ⟨b, cs', q4, q5, q6, q7⟩
     · exact .inl ⟨by rw [setR_ne _ _ ek]; exact q4, q5⟩
     · refine .inr ⟨b, cs', by rw [setR_ne _ _ ek]; exact q4, by rw [heap_alloc_old w _ (Array.getElem?_eq_some_iff.1 q5).1]; exact q5, q6, fun i row hi j x hj => ?_⟩
       obtain ⟨u, u1, u2⟩ := q7 i row hi j x hj; exact ⟨u, u1, u2.ext hE⟩
 · intro k k' b hk hk' hb hb'
   by_cases ek : k = id <;> by_cases ek' : k' = id
   · rw [ek, ek']
   · subst ek
     rw [setR_same] at hb; rw [setR_ne _ _ ek'] at hb'; have := live_lt h ((hlive k' ek').1 hk') hb'; simp only [Option.some.injEq] at hb; omega
   · subst ek'
     rw [setR_same] at hb'; rw [setR_ne _ _ ek] at hb; have := live_lt h ((hlive k ek).1 hk) hb; simp only [Option.some.injEq] at hb'; omega
   · rw [setR_ne _ _ ek] at hb
     rw [setR_ne _ _ ek'] at hb'; exact h.inj k k' b ((hlive k ek).1 hk) ((hlive k' ek').1 hk') hb hb'
 · intro k hk
   by_cases ek : k = id
   · subst ek; exact hex hk
   · rw [hv k ek] at hk; rw [ha k ek]; exact h.excl k hk
 · intro k b o hk hb hF
   by_cases ek : k = id
   · subst ek
     rw [setR_same] at hb; simp only [Option.some.injEq] at hb; have := h.bound b o hF; omega
   · rw [setR_ne _ _ ek] at hb
     exact h.apart k b o ((hlive k ek).1 hk) hb hF
 · intro b o hF
   have := h.bound b o hF; simp; omega
theorem Rel.new {id : Nat} {cs : Array Value} {e : TypeId} (h : Rel F G ρ t a w) (hv : ∀ k, k ≠ id → t' (.var k) = t (.var k)) (ha : ∀ k, k ≠ id → t' (.arr k) = t (.arr k)) (ht : ∀ k, t' (.tmp k) = t (.tmp k))
   (hO : RelO F (setR ρ id w.heap.size) t' (w.alloc (.cells cs e)) ∧ Ext F ρ t w (setR ρ id w.heap.size) t' (w.alloc (.cells cs e))) : Rel F G (setR ρ id w.heap.size) t' a (w.alloc (.cells cs e)) := by
 refine h.step hO.2 hO.1 ht ?_ ?_
 · intro k b hl hb
   by_cases ek : k = id
   · subst ek
     rw [setR_same] at hb; simp only [Option.some.injEq] at hb; exact .inr (by omega)
   · rw [setR_ne _ _ ek] at hb
     exact .inl ⟨by simpa [live, hv k ek, ha k ek] using hl, hb⟩
 · intro b hb _
   exact heap_alloc_old w _ hb
theorem newVar {id : Nat} {xs : List AV} {cs : Array Value} {e : TypeId} (h : Rel F G ρ t a w) (h1 : t (.var id) = none) (h2 : t (.arr id) = none) (hn : cs.size = xs.length)
   (hA : ∀ (j : Nat) (x : AV) (u : Value), xs[j]? = some x → cs[j]? = some u → AR F ρ t w x u ∧ u.oneCell' = true) :
   Rel F G (setR ρ id w.heap.size) (appU ((.var id, some (.n xs.length)) :: putCells id 0 xs) t) a (w.alloc (.cells cs e)) ∧
   AR F (setR ρ id w.heap.size) (appU ((.var id, some (.n xs.length)) :: putCells id 0 xs) t) (w.alloc (.cells cs e)) (.ptr id 0) (.pointer (some ⟨w.heap.size, 0, none⟩)) := by
 have hc0 : ∀ j, t (.cell id j) = none := by
   intro j
   cases hj : t (.cell id j) with
   | none => rfl
   | some c =>
     obtain ⟨_, n, _, _, _, q, _⟩ := h.o.cell id j c hj; rw [h1] at q; simp at q
 generalize ht' : appU ((.var id, some (.n xs.length)) :: putCells id 0 xs) t = t'
 have hat : ∀ l, (∀ j, l ≠ .cell id j) → l ≠ .var id → t' l = t l := by
   intro l hl hl'; rw [← ht', appU, putCells_other hl, upd_ne _ _ hl']
 have hvid : t' (.var id) = some (.n xs.length) := by
   rw [← ht', appU, putCells_other (by simp)]
   simp
 have hcid : ∀ j, t' (.cell id j) = if j < xs.length then (xs[j]?).map .av else none := by
   intro j; rw [← ht', appU, putCells_at]; simp only [Nat.zero_le, true_and, Nat.zero_add, Nat.sub_zero]; split
   · rfl
   · rw [upd_ne _ _ (by simp)]; exact hc0 j
 have hv : ∀ k, k ≠ id → t' (.var k) = t (.var k) := fun k hk => hat _ (by simp) (by simpa using hk)
 have ha : ∀ k, t' (.arr k) = t (.arr k) := fun k => hat _ (by simp) (by simp)
 have hc : ∀ k j, k ≠ id → t' (.cell k j) = t (.cell k j) := fun k j hk => hat _ (by simp [hk]) (by simp)
 have ht : ∀ k, t' (.tmp k) = t (.tmp k) := fun k => hat _ (by simp) (by simp)
 refine ⟨h.new hv (fun k _ => ha k) ht (h.o.new h1 h2 hv (fun k _ => ha k) hc ?_ ?_ ?_ ?_), .ptr (by rw [hvid]; simp) (setR_same _ _ _)⟩
 · intro c hk
   rw [hvid] at hk; simp only [Option.some.injEq] at hk; rw [← hk, hn]
 · intro j c hk
   rw [hcid] at hk; split at hk <;> try (simp at hk; done)
   rename_i hj
   simp only [List.getElem?_eq_getElem hj, Option.map_some, Option.some.injEq] at hk; subst hk; have hj' : j < cs.size := by omega
   obtain ⟨q1, q2⟩ := hA j xs[j] cs[j] (by simp [hj]) (by simp [hj'])
   exact ⟨xs[j], cs[j], rfl, by rw [hvid, hn], by simp [hj'], q1, q2⟩
 · intro c hk
   rw [ha, h2] at hk; simp at hk
 · intro _
   rw [ha, h2]
theorem cells_ar {x : AV} {v : Value} (h : AR F ρ t w x v) (hv : ∀ cs, x ≠ .tup cs) (hany : x ≠ .any) : v.cells.size = x.cells.length ∧ ∀ (j : Nat) (y : AV) (u : Value), x.cells[j]? = some y → v.cells[j]? = some u → AR F ρ t w y u ∧ u.oneCell' = true := by
 have single : ∀ {y : AV} {u : Value}, AR F ρ t w y u → u.oneCell' = true → y.cells = [y] → v = u → x = y → v.cells.size = x.cells.length ∧ ∀ (j : Nat) (y : AV) (u : Value), x.cells[j]? = some y → v.cells[j]? = some u → AR F ρ t w y u ∧ u.oneCell' = true := by
   rintro y u h1 h2 h3 rfl rfl; have : v.cells = #[v] := by cases v <;> first | rfl | simp [Value.oneCell'] at h2
   rw [h3, this]; refine ⟨rfl, fun j y u hj hu => ?_⟩
   cases j with
   | zero => simp at hj hu; subst hj; subst hu; exact ⟨h1, h2⟩
   | succ j => simp at hj
 cases h with
 | any => exact absurd rfl hany
 | p hp => exact single (.p hp) hp.one rfl rfl rfl
 | psf hp => exact single (.psf hp) rfl rfl rfl rfl
 | ptr h1 h2 => exact single (.ptr h1 h2) rfl rfl rfl rfl
 | sl hs => 
   obtain ⟨_, _, _, _, _, _, ad, c, rfl, _⟩ := id hs; exact single (.sl hs) rfl rfl rfl rfl
 | eptr hs =>
   obtain ⟨_, _, _, _, _, _, _, ad, rfl, _⟩ := id hs; exact single (.eptr hs) rfl rfl rfl rfl
 | fn h1 h2 => exact single (.fn h1 h2) rfl rfl rfl rfl
 | agg h1 h2 h3 =>
   refine ⟨h1, fun j y u hj hu => ⟨h3 j y u hj hu, h2 u (Array.mem_of_getElem? hu)⟩⟩
 | tup => exact absurd rfl (hv _)
end
end Go.Flat
end
section
set_option linter.unusedVariables false
set_option linter.unusedSimpArgs false
namespace Go.Flat
section
variable {P : Program} {F : Nat → Nat → Prop} {G : Start} {ρ ρ' : Ren} {t t' : Sto} {a : Act} {w w' : World}
theorem AV.ok_any {x : AV} (h : x.ok = true) : (∀ cs, x ≠ .tup cs) ∧ x ≠ .any := by
 cases x <;> simp_all [AV.ok]
theorem fresh_inv {nid : Nat} (h : fresh t nid = true) : t (.var nid) = none ∧ t (.arr nid) = none := by
 simpa [fresh] using h
theorem goes_box (hr : Rel F G ρ t a w) {nid : Nat} {o : Oper} {e : TypeId} {x : Operand} {f : Eff} (ho : o.op = .box e x) (h : evalOp (tyOf P) t nid o.op = some f) : Goes P F G t a w o f := by
 rw [ho] at h; simp only [evalOp] at h; split at h <;> try (simp at h; done)
 rename_i i y hi he
 split at h <;> try (simp at h; done)
 rename_i hok
 obtain ⟨hok, hfr⟩ := hok; obtain ⟨h1, h2⟩ := fresh_inv hfr; simp only [Option.some.injEq] at h; subst h; obtain ⟨k1, k2⟩ := AV.ok_any hok; obtain ⟨hn, hA⟩ := cells_ar (ev_ar hr he) k1 k2; obtain ⟨g1, g2⟩ := newVar (e := e) hr h1 h2 hn hA; refine ⟨_, _, _, .value _, ?_, .inl rfl, g1, g2⟩; simp [execOp, ho, Instr.box, newVar, newRow, Go.newVar]
theorem run_zero {ty : TypeId} {i : TI} (f : TyFacts P ty i) : (zeroValue ty).run P w = .ok f.z w := by
 unfold zeroValue typeInfo; simp [f.hi, f.hz]
theorem zero_cells {ty : TypeId} {i : TI} (f : TyFacts P ty i) : f.z.cells.size = i.zero.length ∧ ∀ (j : Nat) (x : AV) (u : Value), i.zero[j]? = some x → f.z.cells[j]? = some u → AR F ρ t w x u ∧ u.oneCell' = true := by
 obtain ⟨h1, h2, h3⟩ := scalarCs_ar (F := F) (ρ := ρ) (t := t) (w := w) f.hzs; refine ⟨by simpa using h1.symm, fun j x u hj hu => ⟨h3 j x u hj (by simpa using hu), h2 u ?_⟩⟩
 have := Array.mem_of_getElem? hu
 simpa using this
theorem goes_alloc (hr : Rel F G ρ t a w) {nid : Nat} {o : Oper} {e : TypeId} {f : Eff} (ho : o.op = .alloc e) (h : evalOp (tyOf P) t nid o.op = some f) : Goes P F G t a w o f := by
 rw [ho] at h; simp only [evalOp] at h; split at h <;> try (simp at h; done)
 rename_i i hi
 obtain ⟨fi⟩ := tyOf_facts hi; split at h <;> try (simp at h; done)
 rename_i hfr
 obtain ⟨h1, h2⟩ := fresh_inv hfr; simp only [Option.some.injEq] at h; subst h; obtain ⟨hn, hA⟩ := zero_cells (F := F) (ρ := ρ) (t := t) (w := w) fi; obtain ⟨g1, g2⟩ := newVar (e := e) hr h1 h2 hn hA; refine ⟨_, _, _, .value _, ?_, .inl rfl, g1, g2⟩; simp [execOp, ho, Instr.alloc, run_zero fi, newRow, Go.newVar]
theorem overwrite_length {α : Type} : ∀ (r cs : List α) (off : Nat), (overwrite cs off r).length = cs.length
 | [], cs, off => rfl
 | x :: r, cs, off => by simp only [overwrite]; rw [overwrite_length r]; simp
theorem overwrite_at {α : Type} : ∀ (r cs : List α) (off j : Nat), off + r.length ≤ cs.length → (overwrite cs off r)[j]? = if off ≤ j ∧ j < off + r.length then r[j - off]? else cs[j]?
 | [], cs, off, j, _ => by rw [if_neg (by simp only [List.length_nil]; omega)]; rfl
 | x :: r, cs, off, j, h => by
   simp only [List.length_cons] at h; simp only [overwrite]; rw [overwrite_at r _ _ _ (by simp; omega)]
   by_cases h1 : off + 1 ≤ j ∧ j < off + 1 + r.length
   · rw [if_pos h1, if_pos (by simp only [List.length_cons]; omega), show j - off = (j - (off + 1)) + 1 by omega]
     simp
   · rw [if_neg h1]
     by_cases e : j = off
     · subst e
       rw [if_pos (by simp only [List.length_cons]; omega), List.getElem?_set_self (by omega)]
       simp
     · rw [if_neg (by simp only [List.length_cons]; omega), List.getElem?_set_ne (Ne.symm e)]
theorem fold_cells (off : Nat) : ∀ (r : List Value) (k : Nat) (cs : Array Value), (r.zipIdx k).foldl (fun cs (p : Value × Nat) => cs.setIfInBounds (off + p.2) p.1) cs = ⟨overwrite cs.toList (off + k) r⟩
 | [], k, cs => rfl
 | x :: r, k, cs => by
   simp only [List.zipIdx_cons, List.foldl_cons, overwrite]; rw [fold_cells off r (k + 1)]; simp [Nat.add_assoc]
theorem fill_any {T : Nat → Option TI} {i : TI} {pl : Nat → Option (Nat × Nat)} (hpl : ∀ k q, place T i k = some q → pl k = some (q.1, q.2.size)) (hr : Rel F G ρ t a w) :
   ∀ (ps : List (Nat × Operand)) (cs : List AV) (vs : Array Value) (r : List AV), fillC T i t cs ps = some r → vs.size = cs.length → (∀ v ∈ vs, v.oneCell' = true) →
     (∀ (j : Nat) (x : AV) (v : Value), cs[j]? = some x → vs[j]? = some v → AR F ρ t w x v) →
     ∃ us : Array Value, Instr.fill pl vs (ps.map fun p => (p.1, a.eval p.2)) = some us ∧ us.size = r.length ∧ (∀ v ∈ us, v.oneCell' = true) ∧ ∀ (j : Nat) (x : AV) (v : Value), r[j]? = some x → us[j]? = some v → AR F ρ t w x v
 | [], cs, vs, r, h, h1, h2, h3 => by
   simp only [fillC, Option.some.injEq] at h; subst h; exact ⟨vs, rfl, h1, h2, h3⟩
 | (k, x) :: ps, cs, vs, r, h, h1, h2, h3 => by
   simp only [fillC] at h; split at h <;> try (simp at h; done)
   rename_i q y hq hy
   split at h <;> try (simp at h; done)
   rename_i hc
   obtain ⟨c1, c2, c3⟩ := hc; obtain ⟨k1, k2⟩ := AV.ok_any c1; obtain ⟨hn, hA⟩ := cells_ar (ev_ar hr hy) k1 k2; have hns : (a.eval x).cells.size = q.2.size := by omega
   have hfold : (Array.foldl (fun cs (p : Value × Nat) => cs.setIfInBounds (q.1 + p.2) p.1) vs (a.eval x).cells.zipIdx) = ⟨overwrite vs.toList q.1 (a.eval x).cells.toList⟩ := by
     rw [← Array.foldl_toList]
     simpa using fold_cells q.1 (a.eval x).cells.toList 0 vs
   have hstep : Instr.fill pl vs (((k, x) :: ps).map fun p => (p.1, a.eval p.2)) = Instr.fill pl ⟨overwrite vs.toList q.1 (a.eval x).cells.toList⟩ (ps.map fun p => (p.1, a.eval p.2)) := by
     simp only [List.map_cons, Instr.fill, hpl k q hq]; rw [if_neg (by simp [h1, hns]; omega)]
     rw [hfold]
   rw [hstep]; have hlen : q.1 + (a.eval x).cells.toList.length ≤ vs.toList.length := by simp; omega
   refine fill_any hpl hr ps _ _ r h (by simp [overwrite_length, h1]) ?_ ?_
   · intro v hv
     obtain ⟨j, hj, rfl⟩ := Array.mem_iff_getElem.1 hv; have e := overwrite_at (a.eval x).cells.toList vs.toList q.1 j hlen; have hj' : j < (overwrite vs.toList q.1 (a.eval x).cells.toList).length := by simpa using hj
     rw [List.getElem?_eq_getElem hj'] at e; split at e
     · rename_i hin
       have hk : j - q.1 < (a.eval x).cells.toList.length := by simp at hin ⊢; omega
       rw [List.getElem?_eq_getElem hk] at e; simp only [Option.some.injEq] at e; simp only [List.getElem_toArray, e]; have hk2 : j - q.1 < y.cells.length := by simp at hk; omega
       exact (hA (j - q.1) y.cells[j - q.1] _ (by simp [hk2]) (by simp at hk; simp [hk])).2
     · have hk : j < vs.toList.length := by simpa [overwrite_length] using hj'
       rw [List.getElem?_eq_getElem hk] at e; simp only [Option.some.injEq] at e; simp only [List.getElem_toArray, e]; exact h2 _ (by simp)
   · intro j z v hj hv
     have e := overwrite_at (a.eval x).cells.toList vs.toList q.1 j hlen; rw [overwrite_at _ _ _ _ (by omega)] at hj
     simp only [List.getElem?_toArray] at hv; rw [e] at hv; simp only [Array.length_toList, hn] at hv; split at hj
     · rename_i hin
       rw [if_pos hin] at hv; exact (hA (j - q.1) z v hj (by simpa using hv)).1
     · rename_i hin
       rw [if_neg hin] at hv; exact h3 j z v hj (by simpa using hv)
theorem goes_build (hr : Rel F G ρ t a w) {nid : Nat} {o : Oper} {ty : TypeId} {ps : Array (Nat × Operand)} {f : Eff} (ho : o.op = .build ty ps) (h : evalOp (tyOf P) t nid o.op = some f) : Goes P F G t a w o f := by
 rw [ho] at h; simp only [evalOp] at h; split at h <;> try (simp at h; done)
 rename_i i hi
 obtain ⟨fi⟩ := tyOf_facts hi; split at h <;> try (simp at h; done)
 rename_i hag
 cases hq : fillC (tyOf P) i t i.zero ps.toList with
 | none => simp [hq] at h
 | some r =>
   simp only [hq, Option.map_some, Option.some.injEq] at h; subst h; obtain ⟨zn, zA⟩ := zero_cells (F := F) (ρ := ρ) (t := t) (w := w) fi
   have z1 : ∀ v ∈ fi.z.cells, v.oneCell' = true := by
     intro v hv; obtain ⟨j, hj, rfl⟩ := Array.mem_iff_getElem.1 hv; exact (zA j i.zero[j] _ (by simp [← zn, hj]) (by simp [hj])).2
   have zA' : ∀ (j : Nat) (x : AV) (v : Value), i.zero[j]? = some x → fi.z.cells[j]? = some v → AR F ρ t w x v := fun j x v hj hv => (zA j x v hj hv).1
   have hmap : (ps.map fun p : Nat × Operand => (p.1, a.eval p.2)).toList = ps.toList.map fun p => (p.1, a.eval p.2) := by simp
   have hfin : ∀ pl : Nat → Option (Nat × Nat), (∀ k q, place (tyOf P) i k = some q → pl k = some (q.1, q.2.size)) → (∀ us, Instr.fill pl fi.z.cells (ps.toList.map fun p => (p.1, a.eval p.2)) = some us → P.built ty (ps.toList.map fun p => (p.1, a.eval p.2)) = some us) → Goes P F G t a w o ⟨.agg r, []⟩ := by
     intro pl hp1 hp2; obtain ⟨us, hus, un, u1, uA⟩ := fill_any hp1 hr ps.toList i.zero fi.z.cells r hq zn z1 zA'; refine .quiet hr (v := .agg us) ?_ (.agg un u1 uA); have := run_build (P := P) w ty (ps.map fun p : Nat × Operand => (p.1, a.eval p.2)) us (by rw [hmap]; exact hp2 us hus)
     simp only [execOp, ho, Sem.run_bind]; rw [this]; rfl
   cases hk : i.k with
   | st fs =>
     obtain ⟨fields, hu, hfs, -, -, -, hinf⟩ := kind_struct fi hk
     have hpl : ∃ places : List (Nat × Nat), fields.toList.mapM (fun f => (P.info? f.type).map fun i => (f.offset, i.size)) = some places ∧ ∀ k q, place (tyOf P) i k = some q → places.toArray[k]? = some (q.1, q.2.size) := by
       have hgen : ∀ fl : List Field, (∀ g ∈ fl, (P.info? g.type).isSome = true) → ∃ places : List (Nat × Nat), fl.mapM (fun f => (P.info? f.type).map fun i => (f.offset, i.size)) = some places ∧
           ∀ (k : Nat) (g : Field) (j : TI), fl[k]? = some g → tyOf P g.type = some j → places[k]? = some (g.offset, j.size) := by
         intro fl
         induction fl with
         | nil => intro _; exact ⟨[], by simp, by simp⟩
         | cons g fl ih =>
           intro hg; obtain ⟨places, h1, h2⟩ := ih (fun x hx => hg x (by simp [hx]))
           obtain ⟨inf, hinf⟩ := Option.isSome_iff_exists.1 (hg g (by simp))
           refine ⟨(g.offset, inf.size) :: places, by simp [List.mapM_cons, hinf, h1], fun k x j hk hj => ?_⟩
           cases k with
           | zero =>
             simp at hk; subst hk; obtain ⟨fj⟩ := tyOf_facts hj; have := fj.hi; rw [hinf] at this; simp only [Option.some.injEq] at this; subst this; simp [fj.hsz]
           | succ k => simp at hk; simpa using h2 k x j hk hj
       obtain ⟨places, h1, h2⟩ := hgen fields.toList hinf; refine ⟨places, h1, fun k q hp => ?_⟩
       obtain ⟨g, hg, hT, hq⟩ := place_struct hk hp; rw [hfs, List.getElem?_map] at hg; obtain ⟨fl, hfl, rfl⟩ := Option.map_eq_some_iff.1 hg
       simpa [hq] using h2 k fl q.2 hfl hT
     obtain ⟨places, hp1, hp2⟩ := hpl; refine hfin (places.toArray[·]?) hp2 fun us hus => ?_
     simp only [Program.built, fi.hi, hu, fi.hz, hp1]; exact hus
   | arr n e =>
     obtain ⟨hu, -⟩ := kind_array fi hk
     cases hT : tyOf P e with
     | none => rw [hk] at hag; simp [buildable, hT] at hag
     | some j =>
       obtain ⟨fj⟩ := tyOf_facts hT; refine hfin (fun k => some (k * j.size, j.size)) ?_ fun us hus => ?_
       · intro k q hp
         simp only [place, hk, hT, Option.map_some, Option.some.injEq] at hp; subst hp; rfl
       · simp only [Program.built, fi.hi, hu, fi.hz, fj.hi, fj.hsz]
         exact hus
   | _ => rw [hk] at hag; simp [buildable] at hag
end
end Go.Flat
end
section
set_option linter.unusedVariables false
set_option linter.unusedSimpArgs false
namespace Go.Flat
section
variable {P : Program} {F : Nat → Nat → Prop} {G : Start} {ρ ρ' : Ren} {t t' : Sto} {a : Act} {w w' : World}
structure Wrote (w w' : World) (b : Nat) (cs : Array Value) (e : TypeId) : Prop where
 os : w'.os = w.os
 tape : w'.tape = w.tape
 output : w'.output = w.output
 size : w'.heap.size = w.heap.size
 here : w'.heap[b]? = some (.cells cs e (0, 0))
 there : ∀ k, k ≠ b → w'.heap[k]? = w.heap[k]?
theorem run_storeCells (P : Program) {b : Nat} {e : TypeId} (off : Nat) : ∀ (vs : List Value) (i : Nat) (w : World) (cs : Array Value), w.heap[b]? = some (.cells cs e (0, 0)) → off + i + vs.length ≤ cs.size → (∀ v ∈ vs, v.oneCell' = true) →
   ∃ w', (storeCells ⟨b, off, none⟩ vs i).run P w = .ok () w' ∧ Wrote w w' b ⟨overwrite cs.toList (off + i) vs⟩ e
 | [], i, w, cs, h, _, _ => ⟨w, by simp [storeCells], ⟨rfl, rfl, rfl, rfl, h, fun _ _ => rfl⟩⟩
 | v :: vs, i, w, cs, h, hn, h1 => by
   simp only [List.length_cons] at hn; have hlt : off + i < cs.size := by omega
   have hcell : w.cell? ⟨b, off + i, none⟩ = some cs[off + i] := by
     rw [cell_of_row w b _ cs e _ h]; simp [hlt]
   have hfr : w.frozen? ⟨b, off + i, none⟩ = false := frozen_of_row w b _ cs e h; have hset : (w.setCell ⟨b, off + i, none⟩ v).heap[b]? = some (.cells (cs.setIfInBounds (off + i) v) e (0, 0)) := heap_setCell_same w b (off + i) cs e v h; obtain ⟨w', hw, hW⟩ := run_storeCells P off vs (i + 1) (w.setCell ⟨b, off + i, none⟩ v) (cs.setIfInBounds (off + i) v) hset (by simp; omega) (fun x hx => h1 x (by simp [hx]))
   refine ⟨w', ?_, ?_⟩
   · simp only [storeCells, Sem.run_bind, addr_add]
     rw [run_store _ _ _ _ _ (h1 v (by simp)), hcell]
     simp only [hfr, Bool.false_eq_true, if_false, Result.andThen_ok]; exact hw
   · refine ⟨hW.os, hW.tape, hW.output, by rw [hW.size]; simp, ?_, fun k hk => ?_⟩
     · rw [hW.here]
       simp [overwrite, Nat.add_assoc]
     · rw [hW.there k hk, heap_setCell_other w _ k v hk]
theorem run_storeVar {ty : TypeId} {i : TI} (f : TyFacts P ty i) {b off : Nat} {e : TypeId} {v : Value} {cs : Array Value} (h : w.heap[b]? = some (.cells cs e (0, 0))) (hn : v.cells.size = i.size) (hl : off + i.size ≤ cs.size) (h1 : ∀ u ∈ v.cells, u.oneCell' = true) :
   ∃ w', (storeVar ty ⟨b, off, none⟩ v).run P w = .ok () w' ∧ Wrote w w' b ⟨overwrite cs.toList off v.cells.toList⟩ e := by
 obtain ⟨w', h2, h3⟩ := run_storeCells P off v.cells.toList 0 w cs h (by simp; omega) (by simpa using h1)
 refine ⟨w', ?_, h3⟩; unfold storeVar; simp [run_sizeOf' f, hn, h2]
theorem Wrote.cell {b o k : Nat} {cs : Array Value} {e : TypeId} (h : Wrote w w' b cs e) (hk : k ≠ b) : w'.cell? ⟨k, o, none⟩ = w.cell? ⟨k, o, none⟩ := World.cell?_of_block (w := w) (h.there k hk)
theorem Wrote.shape {b k : Nat} {cs cs0 : Array Value} {e : TypeId} (h : Wrote w w' b cs e) (h0 : w.heap[b]? = some (.cells cs0 e (0, 0))) (hs : cs.size = cs0.size) : w'.shape? k = w.shape? k := by
 by_cases hk : k = b
 · subst hk
   rw [shape_of h.here, shape_of h0, hs]
 · unfold World.shape?
   rw [h.there k hk]
theorem Ext.wrote {b : Nat} {cs cs0 : Array Value} {e : TypeId} (hW : Wrote w w' b cs e) (h0 : w.heap[b]? = some (.cells cs0 e (0, 0))) (hs : cs.size = cs0.size)
   (hv : ∀ k, t' (.var k) = t (.var k)) (ha : ∀ k e sz xs pub, t (.arr k) = some (.arr e sz xs pub) → ∃ xs', t' (.arr k) = some (.arr e sz xs' pub) ∧ xs.length ≤ xs'.length)
   (ha' : ∀ k e sz xs pub, t' (.arr k) = some (.arr e sz xs pub) → ∃ xs', t (.arr k) = some (.arr e sz xs' pub))
   (hst : ∀ o u, Stb F ρ t b o → w.cell? ⟨b, o, none⟩ = some u → w'.cell? ⟨b, o, none⟩ = some u) : Ext F ρ t w ρ t' w' := by
 refine ⟨hW.os, hW.tape, hW.output, by rw [hW.size]; exact Nat.le_refl _, fun k hk => ⟨by rw [hv]; exact hk, rfl⟩, ?_, ?_⟩
 · intro k e sz xs pub hk
   obtain ⟨xs', h1, h2⟩ := ha k e sz xs pub hk; exact ⟨xs', pub, h1, h2, fun _ => ⟨rfl, fun b s _ hs' => by rw [hW.shape h0 hs]; exact hs'⟩⟩
 · intro k o u h hc
   refine ⟨?_, h.1, fun id hid => ?_⟩
   · by_cases hk : k = b
     · subst hk; exact hst o u h hc
     · rw [hW.cell hk]; exact hc
   · obtain ⟨h1, h2⟩ := h.2 id hid
     refine ⟨by rw [hv]; exact h1, fun e sz xs pub hx => ?_⟩
     obtain ⟨xs', hx'⟩ := ha' id e sz xs pub hx; exact h2 e sz xs' pub hx'
theorem storeVarAt {id off n b : Nat} {xs : List AV} {vs : List Value} {cs : Array Value} {e : TypeId} (h : Rel F G ρ t a w) (hv : t (.var id) = some (.n n)) (hb : ρ id = some b) (h0 : w.heap[b]? = some (.cells cs e (0, 0))) (hle : off + xs.length ≤ n)
   (hn : vs.length = xs.length) (hA : ∀ (j : Nat) (x : AV) (u : Value), xs[j]? = some x → vs[j]? = some u → AR F ρ t w x u ∧ u.oneCell' = true) (hW : Wrote w w' b ⟨overwrite cs.toList off vs⟩ e) :
   Rel F G ρ (appU (putCells id off xs) t) a w' := by
 generalize ht' : appU (putCells id off xs) t = t'
 have hat : ∀ l, (∀ j, l ≠ .cell id j) → t' l = t l := by
   intro l hl; rw [← ht', putCells_other hl]
 have hcid : ∀ j, t' (.cell id j) = if off ≤ j ∧ j < off + xs.length then (xs[j - off]?).map .av else t (.cell id j) := by
   intro j; rw [← ht', putCells_at]
 have hv' : ∀ k, t' (.var k) = t (.var k) := fun k => hat _ (by simp)
 have ha' : ∀ k, t' (.arr k) = t (.arr k) := fun k => hat _ (by simp)
 have hlv : live t id := .inl (by rw [hv]; simp)
 obtain ⟨n', b', cs', e', hcn, q1, q2, q3⟩ := h.o.var id _ hv; simp only [C.n.injEq] at hcn; subst hcn; rw [hb] at q1; simp only [Option.some.injEq] at q1; subst q1; rw [h0] at q2; simp only [Option.some.injEq, Obj.cells.injEq] at q2; obtain ⟨rfl, rfl, _⟩ := q2; have hsz : (⟨overwrite cs.toList off vs⟩ : Array Value).size = cs.size := by simp [overwrite_length]
 have hE : Ext F ρ t w ρ t' w' := by
   refine .wrote hW h0 hsz hv' (fun k e sz xs pub hk => ⟨xs, by rw [ha']; exact hk, Nat.le_refl _⟩) (fun k e sz xs pub hk => ⟨xs, by rw [← ha']; exact hk⟩) fun o u hs _ => ?_
   have := (hs.2 id hb).1; rw [hv] at this; simp at this
 refine h.step hE ?_ (fun k => hat _ (by simp)) ?_ ?_
 · refine ⟨?_, ?_, ?_, ?_, ?_, ?_, ?_⟩
   · intro k c hk
     rw [hv'] at hk; obtain ⟨m, bk, csk, ek, rfl, r1, r2, r3⟩ := h.o.var k c hk
     by_cases hbk : bk = b
     · subst hbk
       have : k = id := h.o.inj k id bk (.inl (by rw [hk]; simp)) hlv r1 hb
       subst this; rw [hv] at hk; simp only [Option.some.injEq, C.n.injEq] at hk; exact ⟨m, bk, _, e, rfl, r1, hW.here, by rw [hsz]; omega⟩
     · exact ⟨m, bk, csk, ek, rfl, r1, by rw [hW.there _ hbk]; exact r2, r3⟩
   · intro k j c hk
     by_cases hkid : k = id
     · subst hkid
       rw [hcid] at hk; split at hk
       · rename_i hin
         obtain ⟨x, hx, rfl⟩ := Option.map_eq_some_iff.1 hk; have hj' : j - off < vs.length := by omega
         obtain ⟨g1, g2⟩ := hA (j - off) x vs[j - off] hx (by simp [hj'])
         refine ⟨x, _, b, vs[j - off], rfl, by rw [hv']; exact hv, by omega, hb, ?_, g1.ext hE, g2⟩
         rw [cell_of_row w' b _ _ e _ hW.here]; simp only [List.getElem?_toArray]; rw [overwrite_at _ _ _ _ (by simp; omega), if_pos (by omega)]
         simp [hj']
       · rename_i hin
         obtain ⟨x, m, bk, u, rfl, r1, r2, r3, r4, r5, r6⟩ := h.o.cell k j c hk; rw [hb] at r3; simp only [Option.some.injEq] at r3; subst r3; refine ⟨x, m, b, u, rfl, by rw [hv']; exact r1, r2, hb, ?_, r5.ext hE, r6⟩
         rw [cell_of_row w b _ cs e _ h0] at r4; rw [cell_of_row w' b _ _ e _ hW.here]; simp only [List.getElem?_toArray]; rw [overwrite_at _ _ _ _ (by simp; omega), if_neg (by omega)]
         simpa using r4
     · rw [hat _ (by simp [hkid])] at hk
       obtain ⟨x, m, bk, u, rfl, r1, r2, r3, r4, r5, r6⟩ := h.o.cell k j c hk
       have hbk : bk ≠ b := by
         rintro rfl; exact hkid (h.o.inj k id bk (.inl (by rw [r1]; simp)) hlv r3 hb)
       exact ⟨x, m, bk, u, rfl, by rw [hv']; exact r1, r2, r3, by rw [hW.cell hbk]; exact r4, r5.ext hE, r6⟩
   · intro k c hk
     rw [ha'] at hk; obtain ⟨ek, sz, ys, pub, rfl, r1, r2, r3, r4⟩ := h.o.arr k c hk; refine ⟨ek, sz, ys, pub, rfl, r1, r2, r3, ?_⟩; rcases r4 with r4 | ⟨bk, csk, r4, r5, r6, r7⟩
     · exact .inl r4
     · have hbk : bk ≠ b := by
         rintro rfl; have := h.o.inj k id bk (.inr (by rw [hk]; simp)) hlv r4 hb
         subst this; rw [h.o.excl k (by rw [hv]; simp)] at hk
         simp at hk
       refine .inr ⟨bk, csk, r4, by rw [hW.there _ hbk]; exact r5, r6, fun i row hi j x hj => ?_⟩
       obtain ⟨u, u1, u2⟩ := r7 i row hi j x hj; exact ⟨u, u1, u2.ext hE⟩
   · intro k k' bb hk hk'
     rw [live_congr hv' ha'] at hk hk'; exact h.o.inj k k' bb hk hk'
   · intro k hk
     rw [hv'] at hk; rw [ha']; exact h.o.excl k hk
   · intro k bb o hk
     rw [live_congr hv' ha'] at hk; exact h.o.apart k bb o hk
   · intro bb o hF
     rw [hW.size]; exact h.o.bound bb o hF
 · intro k bb hk hbb
   rw [live_congr hv' ha'] at hk; exact .inl ⟨hk, hbb⟩
 · intro k hk hn'
   exact hW.there k (fun e => hn' id hlv (e ▸ hb))
theorem toPVs_at : ∀ {xs : List AV} {row : List PV}, toPVs xs = some row → row.length = xs.length ∧ ∀ (j : Nat) (x : PV), row[j]? = some x → ∃ y, xs[j]? = some y ∧ toPV y = some x
 | [], row, h => by simp [toPVs] at h; subst h; simp
 | y :: xs, row, h => by
   simp only [toPVs] at h; split at h <;> try (simp at h; done)
   rename_i x hx
   cases hq : toPVs xs with
   | none => simp [hq] at h
   | some r =>
     simp only [hq, Option.map_some, Option.some.injEq] at h; subst h; obtain ⟨h1, h2⟩ := toPVs_at hq; refine ⟨by simp [h1], fun j z hj => ?_⟩
     cases j with
     | zero => simp at hj; subst hj; exact ⟨y, by simp, hx⟩
     | succ j => simp at hj; simpa using h2 j z hj
theorem toPV_ar {y : AV} {x : PV} {v : Value} (h : toPV y = some x) (hy : AR F ρ t w y v) : PR w (Stb F ρ t) x v := by
 unfold toPV at h; split at h <;> try (simp at h; done)
 · simp only [Option.some.injEq] at h; subst h
   cases hy with | p hp => exact hp
 · simp only [Option.some.injEq] at h; subst h
   exact hy.psf_inv.choose_spec.2
theorem toPHs_at : ∀ {xs : List AV} {row : List PV}, toPHs xs = some row → row.length = xs.length ∧ ∀ (j : Nat) (x : PV), row[j]? = some x → ∃ y, xs[j]? = some y ∧ toPH y = some x
 | [], row, h => by simp [toPHs] at h; subst h; simp
 | y :: xs, row, h => by
   simp only [toPHs] at h; split at h <;> try (simp at h; done)
   rename_i x hx
   cases hq : toPHs xs with
   | none => simp [hq] at h
   | some r =>
     simp only [hq, Option.map_some, Option.some.injEq] at h; subst h; obtain ⟨h1, h2⟩ := toPHs_at hq; refine ⟨by simp [h1], fun j z hj => ?_⟩
     cases j with
     | zero => simp at hj; subst hj; exact ⟨y, by simp, hx⟩
     | succ j => simp at hj; simpa using h2 j z hj
theorem toPH_ar {y : AV} {x : PV} {v : Value} {id : Nat} (hid : 4294967296 ≤ id ∧ id < 8589934592) (h : toPH y = some x) (hy : AR F ρ t w y v) : PQ F ρ t w id x v := by
 unfold toPH at h; split at h <;> try (simp at h; done)
 · split at h <;> try (simp at h; done)
   rename_i hk
   simp only [Option.some.injEq] at h; subst h; cases hy with | sl hs => exact .inr ⟨hid, _, _, _, _, rfl, hk, hs⟩
 · simp only [Option.some.injEq] at h; subst h
   cases hy with | p hp => exact .inl hp
 · simp only [Option.some.injEq] at h; subst h
   exact .inl hy.psf_inv.choose_spec.2
theorem rowQ {id : Nat} {xs : List AV} {row : List PV} (h : (if 4294967296 ≤ id ∧ id < 8589934592 then toPHs xs else toPVs xs) = some row) : row.length = xs.length ∧
   ∀ (j : Nat) (x : PV), row[j]? = some x → ∃ y, xs[j]? = some y ∧ ∀ v, AR F ρ t w y v → PQ F ρ t w id x v := by
 split at h
 · rename_i hid
   obtain ⟨h1, h2⟩ := toPHs_at h; exact ⟨h1, fun j x hj => by obtain ⟨y, e1, e2⟩ := h2 j x hj; exact ⟨y, e1, fun v hv => toPH_ar hid e2 hv⟩⟩
 · obtain ⟨h1, h2⟩ := toPVs_at h
   exact ⟨h1, fun j x hj => by obtain ⟨y, e1, e2⟩ := h2 j x hj; exact ⟨y, e1, fun v hv => .inl (toPV_ar e2 hv)⟩⟩
theorem overwrite_whole {α : Type} {cs row : List α} (h : row.length = cs.length) : overwrite cs 0 row = row := by
 apply List.ext_getElem?; intro j; rw [overwrite_at _ _ _ _ (by omega)]
 split
 · simp
 · rw [List.getElem?_eq_none (by omega), List.getElem?_eq_none (by omega)]
theorem ovw_eq {α : Type} {sz off : Nat} {cs row : List α} (h : cs.length = sz) : ovw sz cs off row = overwrite cs off row := by
 unfold ovw; split
 · rename_i hc
   rw [hc.1, overwrite_whole (hc.2.trans h.symm)]
 · rfl
theorem storeArrAt {id k off b pub sz e : Nat} {xs : List (List PV)} {row : List PV} {vs : List Value} {cs : Array Value} (h : Rel F G ρ t a w) (hid : t (.arr id) = some (.arr e sz xs pub)) (hk : k < xs.length) (hpub : pub ≤ k) (hb : ρ id = some b) (h0 : w.heap[b]? = some (.cells cs e (0, 0))) (hle : off + row.length ≤ sz)
   (hn : vs.length = row.length) (hA : ∀ (j : Nat) (x : PV) (u : Value), row[j]? = some x → vs[j]? = some u → PQ F ρ t w id x u) (hW : Wrote w w' b ⟨overwrite cs.toList (k * sz + off) vs⟩ e) :
   Rel F G ρ (appU [(.arr id, some (.arr e sz (xs.set k (overwrite (xs.getD k []) off row)) pub))] t) a w' := by
 generalize ht' : appU [(.arr id, some (.arr e sz (xs.set k (overwrite (xs.getD k []) off row)) pub))] t = t'
 have hat : ∀ l, l ≠ .arr id → t' l = t l := by
   intro l hl; rw [← ht']; simp only [appU]; exact upd_ne _ _ hl
 have hid' : t' (.arr id) = some (.arr e sz (xs.set k (overwrite (xs.getD k []) off row)) pub) := by rw [← ht']; simp [appU]
 have hv' : ∀ k, t' (.var k) = t (.var k) := fun k => hat _ (by simp)
 have hlv : live t id := .inr (by rw [hid]; simp)
 have hlive : ∀ q, live t' q ↔ live t q := by
   intro q
   by_cases hq : q = id
   · subst hq; exact ⟨fun _ => hlv, fun _ => .inr (by rw [hid']; simp)⟩
   · simp [live, hv', hat (.arr q) (by simp [hq])]
 obtain ⟨e', sz', xs', pub', hc, s0, s1, s2, s3⟩ := h.o.arr id _ hid; simp only [C.arr.injEq] at hc; obtain ⟨rfl, rfl, rfl, rfl⟩ := hc; obtain ⟨b', cs', q1, q2, q3, q4⟩ := s3.resolve_left (by rintro ⟨_, rfl⟩; simp at hk)
 rw [hb] at q1; simp only [Option.some.injEq] at q1; subst q1; rw [h0] at q2; simp only [Option.some.injEq, Obj.cells.injEq] at q2; obtain ⟨rfl, -, -⟩ := q2; have hrl : (xs.getD k []).length = sz := (arr_row h.o hid hk).1
 have hkk : k * sz + sz ≤ xs.length * sz := by
   have := Nat.mul_le_mul_right sz (show k + 1 ≤ xs.length from hk)
   rw [Nat.add_mul, Nat.one_mul] at this; exact this
 have hsz : (⟨overwrite cs.toList (k * sz + off) vs⟩ : Array Value).size = cs.size := by simp [overwrite_length]
 have hE : Ext F ρ t w ρ t' w' := by
   refine .wrote hW h0 hsz hv' ?_ ?_ fun o u hs hcu => ?_
   · intro q e2 sz2 xs2 pub2 hq
     by_cases hqi : q = id
     · subst hqi
       rw [hid] at hq; simp only [Option.some.injEq, C.arr.injEq] at hq; obtain ⟨rfl, rfl, rfl, rfl⟩ := hq; exact ⟨_, hid', by simp⟩
     · exact ⟨xs2, by rw [hat _ (by simp [hqi])]; exact hq, Nat.le_refl _⟩
   · intro q e2 sz2 xs2 pub2 hq
     by_cases hqi : q = id
     · subst hqi
       rw [hid'] at hq; simp only [Option.some.injEq, C.arr.injEq] at hq; obtain ⟨rfl, rfl, rfl, rfl⟩ := hq; exact ⟨_, hid⟩
     · rw [hat _ (by simp [hqi])] at hq
       exact ⟨xs2, hq⟩
   · have hlt := (hs.2 id hb).2 _ _ _ _ hid
     rw [cell_of_row w b _ cs e _ h0] at hcu; rw [cell_of_row w' b _ _ e _ hW.here]; simp only [List.getElem?_toArray]; have : pub * sz ≤ k * sz := Nat.mul_le_mul_right sz hpub; rw [overwrite_at _ _ _ _ (by simp; omega), if_neg (by omega)]
     simpa using hcu
 refine h.step hE ?_ (fun k => hat _ (by simp)) ?_ ?_
 · refine ⟨?_, ?_, ?_, ?_, ?_, ?_, ?_⟩
   · intro q c hq
     rw [hv'] at hq; obtain ⟨m, bk, csk, ek, rfl, r1, r2, r3⟩ := h.o.var q c hq
     have hbk : bk ≠ b := by
       rintro rfl; have := h.o.inj q id bk (.inl (by rw [hq]; simp)) hlv r1 hb
       subst this; have := h.o.excl q (by rw [hq]; simp)
       rw [hid] at this; simp at this
     exact ⟨m, bk, csk, ek, rfl, r1, by rw [hW.there _ hbk]; exact r2, r3⟩
   · intro q j c hq
     rw [hat _ (by simp)] at hq
     obtain ⟨x, m, bk, u, rfl, r1, r2, r3, r4, r5, r6⟩ := h.o.cell q j c hq
     have hbk : bk ≠ b := by
       rintro rfl; have := h.o.inj q id bk (.inl (by rw [r1]; simp)) hlv r3 hb
       subst this; have := h.o.excl q (by rw [r1]; simp)
       rw [hid] at this; simp at this
     exact ⟨x, m, bk, u, rfl, by rw [hv']; exact r1, r2, r3, by rw [hW.cell hbk]; exact r4, r5.ext hE, r6⟩
   · intro q c hq
     by_cases hqi : q = id
     · subst hqi
       rw [hid'] at hq; simp only [Option.some.injEq] at hq; refine ⟨e, sz, _, pub, hq.symm, s0, by simpa using s1, ?_, .inr ⟨b, _, hb, hW.here, by rw [hsz]; simpa using q3, ?_⟩⟩
       · intro r hr
         rcases List.mem_or_eq_of_mem_set hr with hr | rfl
         · exact s2 r hr
         · rw [overwrite_length]; exact hrl
       · intro i r hi j x hj
         have hi' : i < xs.length := by have := (List.getElem?_eq_some_iff.1 hi).1; simpa using this
         have hj' : j < r.length := (List.getElem?_eq_some_iff.1 hj).1; simp only [List.getElem?_toArray]; rw [overwrite_at _ _ _ _ (by simp; omega)]
         by_cases hik : i = k
         · subst hik
           rw [List.getElem?_set_self hk] at hi; simp only [Option.some.injEq] at hi; subst hi; rw [overwrite_length, hrl] at hj'; rw [overwrite_at _ _ _ _ (by omega)] at hj
           by_cases hin : off ≤ j ∧ j < off + row.length
           · rw [if_pos hin] at hj
             rw [if_pos (by omega)]
             have hlt : j - off < vs.length := by omega
             refine ⟨vs[j - off], ?_, (hA (j - off) x _ hj (by simp [hlt])).ext hE⟩
             rw [show i * sz + j - (i * sz + off) = j - off by omega]
             simp [hlt]
           · rw [if_neg hin] at hj
             rw [if_neg (by omega)]
             obtain ⟨u, u1, u2⟩ := q4 i xs[i] (by simp [hi']) j x (by simpa [List.getD, hi'] using hj)
             exact ⟨u, by simpa using u1, u2.ext hE⟩
         · rw [List.getElem?_set_ne (Ne.symm hik)] at hi
           obtain ⟨u, u1, u2⟩ := q4 i r hi j x hj; have hjl : j < sz := by rw [← s2 r (List.mem_of_getElem? hi)]; exact hj'
           have hne : ¬ (k * sz + off ≤ i * sz + j ∧ i * sz + j < k * sz + off + vs.length) := by
             rcases Nat.lt_or_gt_of_ne hik with h1 | h1
             · have : i * sz + sz ≤ k * sz := by
                 have := Nat.mul_le_mul_right sz (show i + 1 ≤ k from h1)
                 rw [Nat.add_mul, Nat.one_mul] at this; exact this
               omega
             · have : k * sz + sz ≤ i * sz := by
                 have := Nat.mul_le_mul_right sz (show k + 1 ≤ i from h1)
                 rw [Nat.add_mul, Nat.one_mul] at this; exact this
               omega
           rw [if_neg hne]; exact ⟨u, by simpa using u1, u2.ext hE⟩
     · rw [hat _ (by simp [hqi])] at hq
       obtain ⟨ek, sz2, ys, pub2, rfl, r1, r2, r3, r4⟩ := h.o.arr q c hq; refine ⟨ek, sz2, ys, pub2, rfl, r1, r2, r3, ?_⟩; rcases r4 with r4 | ⟨bk, csk, r4, r5, r6, r7⟩
       · exact .inl r4
       · have hbk : bk ≠ b := by
           rintro rfl; exact hqi (h.o.inj q id bk (.inr (by rw [hq]; simp)) hlv r4 hb)
         refine .inr ⟨bk, csk, r4, by rw [hW.there _ hbk]; exact r5, r6, fun i row hi j x hj => ?_⟩
         obtain ⟨u, u1, u2⟩ := r7 i row hi j x hj; exact ⟨u, u1, u2.ext hE⟩
   · intro q q' bb hq hq'
     rw [hlive] at hq hq'; exact h.o.inj q q' bb hq hq'
   · intro q hq
     rw [hv'] at hq
     by_cases hqi : q = id
     · subst hqi
       have := h.o.excl q hq; rw [hid] at this; simp at this
     · rw [hat _ (by simp [hqi])]; exact h.o.excl q hq
   · intro q bb o hq
     rw [hlive] at hq; exact h.o.apart q bb o hq
   · intro bb o hF
     rw [hW.size]; exact h.o.bound bb o hF
 · intro q bb hq hbb
   rw [hlive] at hq; exact .inl ⟨hq, hbb⟩
 · intro q hq hn'
   exact hW.there q (fun e => hn' id hlv (e ▸ hb))
theorem goes_store (hr : Rel F G ρ t a w) {nid : Nat} {o : Oper} {ty : TypeId} {x y : Operand} {f : Eff} (ho : o.op = .store ty x y) (h : evalOp (tyOf P) t nid o.op = some f) : Goes P F G t a w o f := by
 rw [ho] at h; simp only [evalOp] at h; split at h <;> try (simp at h; done)
 rename_i i p q hi hp hq
 obtain ⟨fi⟩ := tyOf_facts hi; have hx := ev_ar hr hp; have hy := ev_ar hr hq
 cases hs : storeF t i q p with
 | none => simp [hs] at h
 | some u =>
   simp only [hs, Option.map_some, Option.some.injEq] at h; subst h
   suffices ∃ ad w', a.eval x = .pointer (some ad) ∧ (storeVar ty ad (a.eval y)).run P w = .ok () w' ∧ Rel F G ρ (appU u t) a w' by
     obtain ⟨ad, w', e1, e2, e3⟩ := this; refine ⟨ρ, undef, w', .skip, ?_, .inr ⟨rfl, rfl⟩, e3, .any⟩; simp [execOp, ho, e1, Instr.storeAt, Instr.sureAddr, e2]
   unfold storeF at hs; split at hs
   · rename_i id off
     split at hs <;> try (simp at hs; done)
     rename_i n hn
     split at hs <;> try (simp at hs; done)
     rename_i hc
     obtain ⟨c1, c2, c3⟩ := hc; simp only [Option.some.injEq] at hs; subst hs; obtain ⟨k1, k2⟩ := AV.ok_any c1; obtain ⟨hn', hA⟩ := cells_ar hy k1 k2; generalize hv : a.eval x = v at hx ⊢
     cases hx with
     | ptr hl hb =>
       obtain ⟨n', b', cs, e, hcn, q1, q2, q3⟩ := hr.o.var id _ hn; simp only [C.n.injEq] at hcn; subst hcn; rw [hb] at q1; simp only [Option.some.injEq] at q1; subst q1
       obtain ⟨w', g1, g2⟩ := run_storeVar (P := P) fi (off := off) (v := a.eval y) q2 (by omega) (by omega) (by
         intro u hu; obtain ⟨j, hj, rfl⟩ := Array.mem_iff_getElem.1 hu
         exact (hA j q.cells[j] _ (by simp [← hn', hj]) (by simp [hj])).2)
       exact ⟨_, w', rfl, g1, storeVarAt hr hn hb q2 (by omega) (by simpa using hn') (fun j z u hj hu => hA j z u hj (by simpa using hu)) g2⟩
   · rename_i id L k off
     split at hs <;> try (simp at hs; done)
     rename_i e sz xs pub row ha hrow
     split at hs <;> try (simp at hs; done)
     rename_i hc
     obtain ⟨c1, c2, c3, c4, c5⟩ := hc; simp only [Option.some.injEq] at hs; subst hs; obtain ⟨k1, k2⟩ := AV.ok_any c1; obtain ⟨hn', hA⟩ := cells_ar hy k1 k2; obtain ⟨p1, p2⟩ := rowQ (F := F) (ρ := ρ) (t := t) (w := w) hrow; generalize hv : a.eval x = v at hx ⊢
     cases hx with
     | eptr hs =>
       obtain ⟨e', sz', xs', pub', ha', hL', hk, ad, rfl, hq'⟩ := hs; rw [ha] at ha'; simp only [Option.some.injEq, C.arr.injEq] at ha'; obtain ⟨rfl, rfl, rfl, rfl⟩ := ha'; obtain ⟨q1, q2, q3⟩ := hq' c2.symm; obtain ⟨hlen, b, cs, r1, r2, r3, r4⟩ := arr_row hr.o ha (k := k) (by omega)
       obtain ⟨ab, ao, as⟩ := ad; simp only at q1 q2 q3; subst q3; rw [r1] at q1; simp only [Option.some.injEq] at q1; subst q1; subst q2
       have hkk : k * sz + sz ≤ xs.length * sz := by
         have := Nat.mul_le_mul_right sz (show k + 1 ≤ xs.length by omega)
         rw [Nat.add_mul, Nat.one_mul] at this; exact this
       obtain ⟨w', g1, g2⟩ := run_storeVar (P := P) fi (off := k * sz + off) (v := a.eval y) r2 (by omega) (by omega) (by
         intro u hu; obtain ⟨j, hj, rfl⟩ := Array.mem_iff_getElem.1 hu
         exact (hA j q.cells[j] _ (by simp [← hn', hj]) (by simp [hj])).2)
       rw [ovw_eq hlen]; refine ⟨_, w', rfl, g1, storeArrAt hr ha (by omega) c3 r1 r2 (by omega) (by simp; omega) (fun j z u hj hu => ?_) g2⟩
       obtain ⟨y', hy1, hy2⟩ := p2 j z hj; exact hy2 _ (hA j y' u hy1 (by simpa using hu)).1
   · simp at hs
end
end Go.Flat
end
section
set_option linter.unusedVariables false
set_option linter.unusedSimpArgs false
namespace Go.Flat
section
variable {P : Program} {F : Nat → Nat → Prop} {G : Start} {ρ ρ' : Ren} {t t' : Sto} {a : Act} {w w' : World}
def Holds (w : World) (S : Nat → Nat → Prop) (sz : Nat) (rows : List (List PV)) (vs : List Value) : Prop :=
 (∀ v ∈ vs, v.oneCell' = true) ∧ rows.length * sz ≤ vs.length ∧ ∀ (i : Nat) (row : List PV), rows[i]? = some row → ∀ (j : Nat) (x : PV), row[j]? = some x → ∃ u, vs[i * sz + j]? = some u ∧ PR w S x u
def HoldsQ (F : Nat → Nat → Prop) (ρ : Ren) (t : Sto) (w : World) (id sz : Nat) (rows : List (List PV)) (vs : List Value) : Prop :=
 (∀ v ∈ vs, v.oneCell' = true) ∧ rows.length * sz ≤ vs.length ∧ ∀ (i : Nat) (row : List PV), rows[i]? = some row → ∀ (j : Nat) (x : PV), row[j]? = some x → ∃ u, vs[i * sz + j]? = some u ∧ PQ F ρ t w id x u
theorem Holds.q {id sz : Nat} {rows : List (List PV)} {vs : List Value} (h : Holds w (Stb F ρ t) sz rows vs) : HoldsQ F ρ t w id sz rows vs :=
 ⟨h.1, h.2.1, fun i row hi j x hj => by obtain ⟨u, u1, u2⟩ := h.2.2 i row hi j x hj; exact ⟨u, u1, .inl u2⟩⟩
theorem newArr {id e sz : Nat} {rows : List (List PV)} {cs : Array Value} {n c : Nat} (h : Rel F G ρ t a w) (h1 : t (.var id) = none) (h2 : t (.arr id) = none) (hs0 : 0 < sz) (hrow : ∀ row ∈ rows, row.length = sz)
   (hH : Holds w (Stb F ρ t) sz rows cs.toList) (hn : n = rows.length) (hc : n ≤ c) (hcs : c * sz ≤ cs.size) :
   Rel F G (setR ρ id w.heap.size) (appU [(.arr id, some (.arr e sz rows 0))] t) a (w.alloc (.cells cs e)) ∧
   AR F (setR ρ id w.heap.size) (appU [(.arr id, some (.arr e sz rows 0))] t) (w.alloc (.cells cs e)) (.sl id n 0 n) (.slice (some ⟨w.heap.size, 0, none⟩) n c) := by
 generalize ht' : appU [(.arr id, some (.arr e sz rows 0))] t = t'
 have hat : ∀ l, l ≠ .arr id → t' l = t l := by
   intro l hl; rw [← ht']; simp only [appU]; exact upd_ne _ _ hl
 have hid' : t' (.arr id) = some (.arr e sz rows 0) := by rw [← ht']; simp [appU]
 have hc0 : ∀ j, t (.cell id j) = none := by
   intro j
   cases hj : t (.cell id j) with
   | none => rfl
   | some c =>
     obtain ⟨_, n, _, _, _, q, _⟩ := h.o.cell id j c hj; rw [h1] at q; simp at q
 obtain ⟨g1, g2, g3⟩ := hH; simp only [Array.length_toList] at g2; refine ⟨h.new (fun k _ => hat _ (by simp)) (fun k hk => hat _ (by simp [hk])) (fun k => hat _ (by simp)) (h.o.new h1 h2 (fun k _ => hat _ (by simp)) (fun k hk => hat _ (by simp [hk])) (fun k j _ => hat _ (by simp)) ?_ ?_ ?_ ?_), .sl ⟨e, sz, rows, 0, hid', by omega, _, _, rfl, fun _ => ⟨by omega, hc, by omega, .inr ⟨w.heap.size, cs.size, setR_same _ _ _, by simp, shape_of (heap_alloc_new w _), by simpa using hcs⟩⟩⟩⟩
 · intro c hk
   rw [hat _ (by simp), h1] at hk; simp at hk
 · intro j c hk
   rw [hat _ (by simp), hc0] at hk; simp at hk
 · intro c hk
   rw [hid'] at hk; simp only [Option.some.injEq] at hk; exact ⟨sz, rows, 0, hk.symm, hs0, rfl, hrow, g2, fun i row hi j x hj => by obtain ⟨u, u1, u2⟩ := g3 i row hi j x hj; exact ⟨u, by simpa using u1, .inl u2⟩⟩
 · intro hk
   rw [hat _ (by simp), h1] at hk
   exact absurd rfl hk
open Classical in
noncomputable def onlyLive (ρ : Ren) (t : Sto) : Ren := fun k => if live t k then ρ k else none
theorem onlyLive_live {k : Nat} (h : live t k) : onlyLive ρ t k = ρ k := by simp [onlyLive, h]
theorem onlyLive_some {k b : Nat} (h : onlyLive ρ t k = some b) : live t k ∧ ρ k = some b := by
 unfold onlyLive at h; split at h
 · exact ⟨by assumption, h⟩
 · simp at h
theorem Ext.block {obj : Obj} (hw : RelO F ρ t w) : Ext F ρ t w (onlyLive ρ t) t (w.alloc obj) := by
 refine ⟨rfl, rfl, rfl, by simp, fun k hk => ⟨hk, onlyLive_live (.inl hk)⟩, ?_, ?_⟩
 · intro k e sz xs pub hk
   have hl : live t k := .inr (by rw [hk]; simp)
   refine ⟨xs, pub, hk, Nat.le_refl _, fun _ => ⟨onlyLive_live hl, fun b s hb hs => ?_⟩⟩
   have hlt := live_lt hw hl hb; unfold World.shape? at hs ⊢; rw [heap_alloc_old w obj hlt]; exact hs
 · intro b o u hs hc
   exact ⟨by rw [World.cell?_alloc_lt _ _ _ (cell_lt hc)]; exact hc, hs.1, fun k hk => hs.2 k (onlyLive_some hk).2⟩
theorem RelO.block {obj : Obj} (h : RelO F ρ t w) : RelO F (onlyLive ρ t) t (w.alloc obj) := by
 have hE : Ext F ρ t w (onlyLive ρ t) t (w.alloc obj) := .block h; refine ⟨?_, ?_, ?_, fun k k' b hk hk' hb hb' => h.inj k k' b hk hk' (onlyLive_some hb).2 (onlyLive_some hb').2, h.excl, fun k b o hk hb => h.apart k b o hk (onlyLive_some hb).2, fun b o hF => by have := h.bound b o hF; simp; omega⟩
 · intro k c hk
   obtain ⟨n, b, cs', e', rfl, q1, q2, q3⟩ := h.var k c hk; exact ⟨n, b, cs', e', rfl, by rw [onlyLive_live (.inl (by rw [hk]; simp))]; exact q1, by rw [heap_alloc_old w _ (Array.getElem?_eq_some_iff.1 q2).1]; exact q2, q3⟩
 · intro k j c hk
   obtain ⟨x, n, b, u, rfl, q1, q2, q3, q4, q5, q6⟩ := h.cell k j c hk; exact ⟨x, n, b, u, rfl, q1, q2, by rw [onlyLive_live (.inl (by rw [q1]; simp))]; exact q3, by rw [World.cell?_alloc_lt _ _ _ (cell_lt q4)]; exact q4, q5.ext hE, q6⟩
 · intro k c hk
   obtain ⟨e', sz, xs, pub, rfl, q1, q2, q3, q4⟩ := h.arr k c hk; have hl : live t k := .inr (by rw [hk]; simp)
   refine ⟨e', sz, xs, pub, rfl, q1, q2, q3, ?_⟩; rcases q4 with ⟨q4, q5⟩ | ⟨b, cs', q4, q5, q6, q7⟩
   · exact .inl ⟨by rw [onlyLive_live hl]; exact q4, q5⟩
   · refine .inr ⟨b, cs', by rw [onlyLive_live hl]; exact q4, by rw [heap_alloc_old w _ (Array.getElem?_eq_some_iff.1 q5).1]; exact q5, q6, fun i row hi j x hj => ?_⟩
     obtain ⟨u, u1, u2⟩ := q7 i row hi j x hj; exact ⟨u, u1, u2.ext hE⟩
theorem newStable {e sz : Nat} {rows : List (List PV)} {cs : Array Value} {c : Nat} (h : Rel F G ρ t a w) (hrow : ∀ row ∈ rows, row.length = sz)
   (hH : Holds w (Stb F ρ t) sz rows cs.toList) (hc : rows.length ≤ c) :
   Rel F G (onlyLive ρ t) t a (w.alloc (.cells cs e)) ∧ PR (w.alloc (.cells cs e)) (Stb F (onlyLive ρ t) t) (.ps rows) (.slice (some ⟨w.heap.size, 0, none⟩) rows.length c) := by
 have hE : Ext F ρ t w (onlyLive ρ t) t (w.alloc (.cells cs e)) := .block h.o; obtain ⟨g1, g2, g3⟩ := hH; refine ⟨h.step hE h.o.block (fun _ => rfl) (fun k b hl hb => .inl ⟨hl, (onlyLive_some hb).2⟩) (fun b hb _ => heap_alloc_old w _ hb), ?_⟩
 refine .ps (sz := sz) (fun i j => (cs[i * sz + j]?).getD undef) hc hrow ?_ ?_ ?_
 · intro i row hi j x hj
   obtain ⟨u, u1, u2⟩ := g3 i row hi j x hj; rw [cell_of_row _ _ _ cs e _ (heap_alloc_new w _)]; simp only [Nat.zero_add]; have u1' : cs[i * sz + j]? = some u := by simpa using u1
   rw [u1']; rfl
 · intro i row hi j x hj
   refine ⟨fun hF => ?_, fun k hk => ?_⟩
   · have := h.o.bound _ _ hF; omega
   · obtain ⟨k1, k2⟩ := onlyLive_some hk
     have := live_lt h.o k1 k2; omega
 · intro i row hi j x hj
   obtain ⟨u, u1, u2⟩ := g3 i row hi j x hj; have u1' : cs[i * sz + j]? = some u := by simpa using u1
   rw [u1']; exact u2.ext hE
theorem Ext.drew : Ext F ρ t w ρ t w.drew := ⟨rfl, rfl, rfl, Nat.le_refl _, fun _ h => ⟨h, rfl⟩, fun _ _ _ xs pub h => ⟨xs, pub, h, Nat.le_refl _, fun _ => ⟨rfl, fun _ _ _ h => h⟩⟩, fun _ _ _ h hc => ⟨hc, h⟩⟩
theorem RelO.drew (h : RelO F ρ t w) : RelO F ρ t w.drew := by
 refine ⟨h.var, ?_, ?_, h.inj, h.excl, h.apart, h.bound⟩
 · intro id j c hc
   obtain ⟨x, n, b, u, e, r1, r2, r3, r4, r5, r6⟩ := h.cell id j c hc; exact ⟨x, n, b, u, e, r1, r2, r3, r4, r5.ext Ext.drew, r6⟩
 · intro id c hc
   obtain ⟨e, sz, xs, pub, rfl, r1, r2, r3, r4⟩ := h.arr id c hc; refine ⟨e, sz, xs, pub, rfl, r1, r2, r3, ?_⟩; rcases r4 with r4 | ⟨b, cs, r4, r5, r6, r7⟩
   · exact .inl r4
   · exact .inr ⟨b, cs, r4, r5, r6, fun i row hi j x hj => by obtain ⟨u, u1, u2⟩ := r7 i row hi j x hj; exact ⟨u, u1, u2.ext Ext.drew⟩⟩
theorem Rel.drew (h : Rel F G ρ t a w) : Rel F G ρ t a w.drew := h.step Ext.drew h.o.drew (fun _ => rfl) (fun _ _ hl hb => .inl ⟨hl, hb⟩) (fun _ _ _ => rfl)
theorem zeroPV {ty : TypeId} {i : TI} (f : TyFacts P ty i) {z : List PV} (hz : toPVs i.zero = some z) : z.length = i.size ∧ f.z.cells.size = i.size ∧ (∀ v ∈ f.z.cells, v.oneCell' = true) ∧ ∀ (j : Nat) (x : PV), z[j]? = some x → ∃ u, f.z.cells[j]? = some u ∧ PR w (Stb F ρ t) x u := by
 obtain ⟨h1, h2⟩ := toPVs_at hz; obtain ⟨h3, h4⟩ := zero_cells (F := F) (ρ := ρ) (t := t) (w := w) f; have hn := f.hzn; refine ⟨by omega, hn, ?_, fun j x hj => ?_⟩
 · intro v hv
   obtain ⟨j, hj, rfl⟩ := Array.mem_iff_getElem.1 hv; exact (h4 j i.zero[j] _ (by simp [← h3, hj]) (by simp [hj])).2
 · obtain ⟨y, hy1, hy2⟩ := h2 j x hj
   have hlt : j < i.zero.length := (List.getElem?_eq_some_iff.1 hy1).1; have hlt' : j < f.z.cells.size := by omega
   exact ⟨f.z.cells[j], by simp [hlt'], toPV_ar hy2 (h4 j y _ hy1 (by simp [hlt'])).1⟩
theorem zeros_at {z : Array Value} {sz n i j : Nat} (hz : z.size = sz) (hi : i < n) (hj : j < sz) : ((Array.range (n * sz)).map fun k => z[k % z.size]!)[i * sz + j]? = z[j]? := by
 have hlt : i * sz + j < n * sz := by
   have := Nat.mul_le_mul_right sz (show i + 1 ≤ n from hi)
   rw [Nat.add_mul, Nat.one_mul] at this; omega
 have hmod : (i * sz + j) % sz = j := by
   rw [Nat.add_comm, Nat.add_mul_mod_self_right]; exact Nat.mod_eq_of_lt hj
 simp only [Array.getElem?_map, Array.getElem?_range, if_pos hlt, Option.map_some]; rw [hz, hmod]; have : j < z.size := by omega
 simp [this]
theorem holds_zero {ty : TypeId} {i : TI} (f : TyFacts P ty i) {z : List PV} (hz : toPVs i.zero = some z) (h0 : 0 < i.size) (n m : Nat) (hnm : n ≤ m) :
   Holds w (Stb F ρ t) i.size (List.replicate n z) ((Array.range (m * i.size)).map fun k => f.z.cells[k % f.z.cells.size]!).toList := by
 obtain ⟨h1, h2, h3, h4⟩ := zeroPV (F := F) (ρ := ρ) (t := t) (w := w) f hz; refine ⟨?_, ?_, fun k row hk j x hj => ?_⟩
 · intro v hv
   simp only [Array.toList_map, List.mem_map, Array.mem_toList_iff, Array.mem_range] at hv; obtain ⟨k, hk, rfl⟩ := hv; have hlt : k % f.z.cells.size < f.z.cells.size := Nat.mod_lt _ (by omega)
   rw [getElem!_pos f.z.cells _ hlt]; exact h3 _ (Array.getElem_mem _)
 · simp only [List.length_replicate, Array.toList_map, List.length_map, Array.length_toList, Array.size_range]
   exact Nat.mul_le_mul_right _ hnm
 · rw [List.getElem?_replicate] at hk
   split at hk <;> try (simp at hk; done)
   rename_i hkn
   simp only [Option.some.injEq] at hk; subst hk; have hj' : j < i.size := by have := (List.getElem?_eq_some_iff.1 hj).1; omega
   obtain ⟨u, u1, u2⟩ := h4 j x hj; refine ⟨u, ?_, u2⟩; rw [Array.getElem?_toList, zeros_at h2 (by omega) hj']
   exact u1
theorem fillR_any (hr : Rel F G ρ t a w) {sz : Nat} : ∀ (ps : List (Nat × Operand)) (rows : List (List PV)) (vs : Array Value) (r : List (List PV)), fillR t sz rows ps = some r → vs.size = rows.length * sz → (∀ row ∈ rows, row.length = sz) → Holds w (Stb F ρ t) sz rows vs.toList →
   ∃ us : Array Value, Instr.fill (fun i => some (i * sz, sz)) vs (ps.map fun p => (p.1, a.eval p.2)) = some us ∧ us.size = r.length * sz ∧ (∀ row ∈ r, row.length = sz) ∧ Holds w (Stb F ρ t) sz r us.toList ∧ r.length = rows.length
 | [], rows, vs, r, h, h1, h2, h3 => by
   simp only [fillR, Option.some.injEq] at h; subst h; exact ⟨vs, rfl, h1, h2, h3, rfl⟩
 | (k, x) :: ps, rows, vs, r, h, h1, h2, h3 => by
   simp only [fillR] at h; split at h <;> try (simp at h; done)
   rename_i y hy
   split at h <;> try (simp at h; done)
   rename_i row hrow
   split at h <;> try (simp at h; done)
   rename_i hc
   obtain ⟨c1, c2, c3⟩ := hc; obtain ⟨k1, k2⟩ := AV.ok_any c1; obtain ⟨hn, hA⟩ := cells_ar (ev_ar hr hy) k1 k2; obtain ⟨p1, p2⟩ := toPVs_at hrow; have hns : (a.eval x).cells.size = sz := by omega
   have hkk : k * sz + sz ≤ rows.length * sz := by
     have := Nat.mul_le_mul_right sz (show k + 1 ≤ rows.length by omega)
     rw [Nat.add_mul, Nat.one_mul] at this; exact this
   have hfold : (Array.foldl (fun cs (p : Value × Nat) => cs.setIfInBounds (k * sz + p.2) p.1) vs (a.eval x).cells.zipIdx) = ⟨overwrite vs.toList (k * sz) (a.eval x).cells.toList⟩ := by
     rw [← Array.foldl_toList]
     simpa using fold_cells (k * sz) (a.eval x).cells.toList 0 vs
   have hstep : Instr.fill (fun i => some (i * sz, sz)) vs (((k, x) :: ps).map fun p => (p.1, a.eval p.2)) = Instr.fill (fun i => some (i * sz, sz)) ⟨overwrite vs.toList (k * sz) (a.eval x).cells.toList⟩ (ps.map fun p => (p.1, a.eval p.2)) := by
     simp only [List.map_cons, Instr.fill]; rw [if_neg (by simp [h1, hns]; omega)]
     rw [hfold]
   rw [hstep]; have hlen : k * sz + (a.eval x).cells.toList.length ≤ vs.toList.length := by simp; omega
   obtain ⟨us, u1, u2, u3, u4, u5⟩ := fillR_any hr ps (rows.set k row) ⟨overwrite vs.toList (k * sz) (a.eval x).cells.toList⟩ r h (by simp [overwrite_length, h1]) (by
     intro q hq; rcases List.mem_or_eq_of_mem_set hq with hq | rfl
     · exact h2 q hq
     · exact c2) (by
     obtain ⟨g1, g2, g3⟩ := h3; refine ⟨?_, ?_, ?_⟩
     · intro v hv
       obtain ⟨j, hj, rfl⟩ := List.mem_iff_getElem.1 hv; have e := overwrite_at (a.eval x).cells.toList vs.toList (k * sz) j hlen; rw [List.getElem?_eq_getElem hj] at e; split at e
       · rename_i hin
         have hk : j - k * sz < (a.eval x).cells.toList.length := by simp at hin ⊢; omega
         rw [List.getElem?_eq_getElem hk] at e; simp only [Option.some.injEq] at e; rw [e]; have hk2 : j - k * sz < y.cells.length := by simp at hk; omega
         exact (hA (j - k * sz) y.cells[j - k * sz] _ (by simp [hk2]) (by simp at hk; simp [hk])).2
       · have hk : j < vs.toList.length := by simpa [overwrite_length] using hj
         rw [List.getElem?_eq_getElem hk] at e; simp only [Option.some.injEq] at e; rw [e]; exact g1 _ (List.getElem_mem _)
     · simpa [overwrite_length] using g2
     · intro i q hi j z hj
       have hi' : i < rows.length := by have := (List.getElem?_eq_some_iff.1 hi).1; simpa using this
       show ∃ u, (overwrite vs.toList (k * sz) (a.eval x).cells.toList)[i * sz + j]? = some u ∧ _; rw [overwrite_at _ _ _ _ hlen]; simp only [Array.length_toList, hns]
       by_cases hik : i = k
       · subst hik
         rw [List.getElem?_set_self hi'] at hi; simp only [Option.some.injEq] at hi; subst hi; have hj' : j < sz := by have := (List.getElem?_eq_some_iff.1 hj).1; omega
         rw [if_pos (by omega)]
         obtain ⟨y', hy1, hy2⟩ := p2 j z hj; have hlt : j < (a.eval x).cells.size := by omega
         refine ⟨(a.eval x).cells[j], ?_, toPV_ar hy2 (hA j y' _ hy1 (by simp [hlt])).1⟩
         rw [show i * sz + j - i * sz = j by omega]
         simp [hlt]
       · rw [List.getElem?_set_ne (Ne.symm hik)] at hi
         have hj' : j < sz := by have := (List.getElem?_eq_some_iff.1 hj).1; rw [h2 q (List.mem_of_getElem? hi)] at this; exact this
         have hne : ¬ (k * sz ≤ i * sz + j ∧ i * sz + j < k * sz + sz) := by
           rcases Nat.lt_or_gt_of_ne hik with h1 | h1
           · have : i * sz + sz ≤ k * sz := by
               have := Nat.mul_le_mul_right sz (show i + 1 ≤ k from h1)
               rw [Nat.add_mul, Nat.one_mul] at this; exact this
             omega
           · have : k * sz + sz ≤ i * sz := by
               have := Nat.mul_le_mul_right sz (show k + 1 ≤ i from h1)
               rw [Nat.add_mul, Nat.one_mul] at this; exact this
             omega
         rw [if_neg hne]
         exact g3 i q hi j z hj)
   exact ⟨us, u1, u2, u3, u4, by simpa using u5⟩
theorem goes_buildSlice (hr : Rel F G ρ t a w) {nid : Nat} {o : Oper} {ty : TypeId} {len : Nat} {ps : Array (Nat × Operand)} {f : Eff} (ho : o.op = .buildSlice ty len ps) (h : evalOp (tyOf P) t nid o.op = some f) : Goes P F G t a w o f := by
 rw [ho] at h; simp only [evalOp] at h; split at h <;> try (simp at h; done)
 rename_i i hi
 obtain ⟨fi⟩ := tyOf_facts hi; split at h <;> try (simp at h; done)
 rename_i e hk
 have hu := kind_slice fi hk; split at h <;> try (simp at h; done)
 rename_i j hj
 obtain ⟨fj⟩ := tyOf_facts hj; split at h <;> try (simp at h; done)
 rename_i z hz
 split at h <;> try (simp at h; done)
 rename_i hc
 obtain ⟨hfr, c1, c2⟩ := hc; obtain ⟨h1, h2⟩ := fresh_inv hfr
 cases hq : fillR t j.size (List.replicate len z) ps.toList with
 | none => simp [hq] at h
 | some rows =>
   simp only [hq, Option.map_some, Option.some.injEq] at h; subst h; have hz1 := (zeroPV (F := F) (ρ := ρ) (t := t) (w := w) fj hz).1; have hzn := fj.hzn; obtain ⟨us, u1, u2, u3, u4, u5⟩ := fillR_any hr ps.toList _ _ rows hq (by simp) (by intro row hrow; rw [(List.mem_replicate.1 hrow).2]; exact hz1) (holds_zero (F := F) (ρ := ρ) (t := t) (w := w) fj hz c1 len len (Nat.le_refl _))
   simp only [List.length_replicate] at u5; obtain ⟨g1, g2⟩ := newStable (e := e) hr u3 u4 (c := len) (by omega)
   rw [u5] at g2; refine ⟨_, _, _, .value _, ?_, .inl rfl, g1, .psf g2⟩; have hmap : (ps.map fun p : Nat × Operand => (p.1, a.eval p.2)).toList = ps.toList.map fun p => (p.1, a.eval p.2) := by simp
   have hgt : ¬ (len * j.size > 2 ^ 24) := by omega
   simp only [execOp, ho, Instr.buildSlice, Sem.run_bind, run_underlying hu, Result.andThen_ok, run_sizeOf' fj, Sem.run_ite, hgt, if_false, Sem.run_pure, run_zero fj]
   by_cases h0 : len * j.size = 0
   · have e0 : ∀ f : Nat → Value, (Array.range (len * j.size)).map f = #[] := by intro f; simp [h0]
     rw [e0] at u1; simp only [if_pos h0, Result.andThen_ok, e0, hmap, u1]; simp [newRow, Go.newRow]
   · simp only [h0, if_false, Result.andThen_ok, hmap, u1]
     simp [newRow, Go.newRow]
end
end Go.Flat
end
section
set_option linter.unusedVariables false
set_option linter.unusedSimpArgs false
namespace Go.Flat
section
variable {P : Program} {F : Nat → Nat → Prop} {G : Start} {ρ ρ' : Ren} {t t' : Sto} {a : Act} {w w' : World}
theorem wrap_small {n : Nat} (h : n ≤ lim) : IntKind.i64.wrap (n : Int) = n := by
 unfold lim at h; have h1 : (-9223372036854775808 : Int) ≤ (n : Int) := by omega
 have h2 : (n : Int) < 9223372036854775808 := by omega
 exact IntWalk.i64_in _ (by omega)
theorem goes_makeSlice (hr : Rel F G ρ t a w) {nid : Nat} {o : Oper} {ty : TypeId} {l c : Operand} {f : Eff} (ho : o.op = .makeSlice ty l c) (h : evalOp (tyOf P) t nid o.op = some f) : Goes P F G t a w o f := by
 rw [ho] at h; simp only [evalOp] at h; split at h <;> try (simp at h; done)
 rename_i i kn n km m hi hl hc
 obtain ⟨fi⟩ := tyOf_facts hi; split at h <;> try (simp at h; done)
 rename_i e hk
 have hu := kind_slice fi hk; split at h <;> try (simp at h; done)
 rename_i j hj
 obtain ⟨fj⟩ := tyOf_facts hj; split at h <;> try (simp at h; done)
 rename_i z hz
 split at h <;> try (simp at h; done)
 rename_i hcond
 obtain ⟨hfr, c0, c1, c2, c3, c4⟩ := hcond; obtain ⟨h1, h2⟩ := fresh_inv hfr; simp only [Option.some.injEq] at h; subst h; obtain ⟨n, rfl⟩ := Int.eq_ofNat_of_zero_le c0; obtain ⟨m, rfl⟩ := Int.eq_ofNat_of_zero_le (Int.le_trans c0 c1); simp only [Int.toNat_natCast] at c3 c4 ⊢; have hnm : n ≤ m := by omega
 have hz1 := (zeroPV (F := F) (ρ := ρ) (t := t) (w := w) fj hz).1; have hzn := fj.hzn; obtain ⟨g1, g2⟩ := newArr (e := e) (n := n) (c := m) hr h1 h2 c2 (rows := List.replicate n z) (by intro row hrow; rw [(List.mem_replicate.1 hrow).2]; exact hz1) (holds_zero (F := F) (ρ := ρ) (t := t) (w := w) fj hz c2 n m hnm) (by simp) hnm (by simp)
 refine ⟨_, _, _, .value _, ?_, .inl rfl, g1, g2⟩; have e1 := (ev_ar hr hl).v_inv; have e2 := (ev_ar hr hc).v_inv
 have hbig : ¬ ((j.bytes : Int) * (m : Int) > 2 ^ 48) := by
   have : j.bytes * m ≤ lim := by rw [Nat.mul_comm]; exact c3
   unfold lim at this; have : ((j.bytes * m : Nat) : Int) ≤ 140737488355328 := by omega
   rw [Int.natCast_mul] at this; omega
 have hti : (typeInfo e).run P w = .ok fj.inf w := by simp [typeInfo, fj.hi]
 simp only [execOp, ho, e1, e2, Instr.makeSlice, Sem.run_bind, run_underlying hu, Result.andThen_ok, asInt, asIntOf, Sem.run_pure, hti, fj.hby, wrap_small c4, wrap_small (Nat.le_trans hnm c4)]; have h3 : ¬ ((m : Int) < 0) := by omega
 have h4 : ¬ ((n : Int) < 0) := by omega
 have h5 : ¬ ((n : Int) > (m : Int)) := by omega
 simp only [h3, h4, h5, hbig, decide_false, Bool.or_false, Bool.false_eq_true, if_false, Sem.run_ite, Sem.run_pure, Result.andThen_ok, run_askRoom, Int.toNat_natCast, run_sizeOf' fj]
 by_cases h0 : m * j.size = 0
 · have e0 : ∀ f : Nat → Value, (Array.range (m * j.size)).map f = #[] := by intro f; simp [h0]
   simp only [newRow, Sem.run_bind, run_sizeOf' fj, Sem.run_pure, Sem.run_ite, Result.andThen_ok, h0, if_true, run_newObj]
   have e1 : ∀ f g : Nat → Value, (Array.range 0).map f = (Array.range 0).map g := by
     intro f g; have a1 := e0 f; have a2 := e0 g; rw [h0] at a1 a2; rw [a1, a2]
   simp only [World.alloc_eq, run_askRoom, Result.andThen_ok]; rw [e1 _ (fun k => fj.z.cells[k % fj.z.cells.size]!)]
 · simp [newRow, run_sizeOf' fj, h0, run_zero fj]
theorem rows_read_q (ho : RelO F ρ t w) {id L off len e sz' pub : Nat} {xs : List (List PV)} {v : Value} {ys : List (List PV)} {sz : Nat} (hx : AR F ρ t w (.sl id L off len) v) (ha : t (.arr id) = some (.arr e sz' xs pub)) (hL : L = xs.length) (h : (xs.drop off).take len = ys) (hs0 : 0 < sz) (hrow : ∀ row ∈ ys, row.length = sz) :
   ∃ ad c, v = .slice ad ys.length c ∧ ∃ vs : Array Value, (Builtin.firstCells sz ys.length v).run P w = .ok vs w ∧ vs.size = ys.length * sz ∧ HoldsQ F ρ t w id sz ys vs.toList := by
 cases hx with
 | sl hs =>
   obtain ⟨e2, sz2, xs2, pub2, ha2, hL2, ad, c, rfl, hq⟩ := hs; rw [ha] at ha2; simp only [Option.some.injEq, C.arr.injEq] at ha2; obtain ⟨rfl, rfl, rfl, rfl⟩ := ha2; obtain ⟨q1, q2, q3, q4⟩ := hq hL.symm; have hn : ys.length = len := by rw [← h]; simp; omega
   refine ⟨ad, c, by rw [hn], ?_⟩
   by_cases hne : len = 0
   · have : ys = [] := List.eq_nil_of_length_eq_zero (by omega)
     subst this; refine ⟨#[], ?_, by simp, ⟨by simp, by simp, by simp⟩⟩
     cases ad <;> simp [Builtin.firstCells, loadCells, loadCellsFrom]
   · rcases q4 with rfl | ⟨b, n, g1, rfl, g2, g3⟩
     · omega
     · obtain ⟨e3, sz3, xs3, pub3, hc3, s0, s1, s2, s3⟩ := ho.arr id _ ha
       simp only [C.arr.injEq] at hc3; obtain ⟨rfl, rfl, rfl, rfl⟩ := hc3; obtain ⟨b', cs, r1, r2, r3, r4⟩ := s3.resolve_left (by rintro ⟨r, _⟩; rw [g1] at r; simp at r)
       rw [g1] at r1; simp only [Option.some.injEq] at r1; subst r1
       have hszz : sz' = sz := by
         have hm : ys[0]'(by omega) ∈ ys := List.getElem_mem _
         rw [← hrow _ hm]
         have hm2 : ys[0]'(by omega) ∈ xs := by
           have : ys[0]'(by omega) ∈ (xs.drop off).take len := by rw [h]; exact hm
           exact List.mem_of_mem_drop (List.mem_of_mem_take this)
         exact (s2 _ hm2).symm
       subst hszz; refine ⟨((List.range (len * sz')).map fun k => cs[off * sz' + k]?.getD undef).toArray, ?_, by simp [hn], ?_⟩
       · simp only [Builtin.firstCells, hn]
         refine run_loadCells _ _ _ _ fun k hk => ?_
         rw [addr_add, cell_of_row w b _ cs e _ r2]
         have : off * sz' + k < cs.size := by
           have := Nat.mul_le_mul_right sz' q1; rw [Nat.add_mul] at this; rw [← hL] at r3; omega
         simp [this]
       · have hkey : ∀ i j, i < len → j < sz' → ∃ (row : List PV) (x : PV) (u : Value), ys[i]? = some row ∧ row[j]? = some x ∧ cs[off * sz' + (i * sz' + j)]? = some u ∧ PQ F ρ t w id x u := by
           intro i j hi hj; have hi2 : i < ys.length := by omega
           have hx' : xs[off + i]? = some ys[i] := by
             have : ((xs.drop off).take len)[i]? = some ys[i] := by rw [h]; simp [hi2]
             rw [List.getElem?_take] at this; split at this
             · rwa [List.getElem?_drop] at this
             · omega
           have hl := hrow _ (List.getElem_mem hi2); have hj2 : j < ys[i].length := by omega
           obtain ⟨u, u1, u2⟩ := r4 _ _ hx' j ys[i][j] (by simp [hj2])
           rw [Nat.add_mul, Nat.add_assoc] at u1; exact ⟨ys[i], ys[i][j], u, by simp [hi2], by simp [hj2], u1, u2⟩
         refine ⟨?_, by simp [hn], ?_⟩
         · intro v hv'
           simp only [List.mem_map, List.mem_range] at hv'; obtain ⟨k, hk, rfl⟩ := hv'; have hi : k / sz' < len := Nat.div_lt_of_lt_mul (by rw [Nat.mul_comm]; exact hk)
           obtain ⟨row, x, u, _, _, u1, u2⟩ := hkey (k / sz') (k % sz') hi (Nat.mod_lt _ s0); rw [Nat.mul_comm (k / sz'), Nat.div_add_mod] at u1; rw [u1]; exact u2.one
         · intro i row hi j x hj
           have hi' : i < len := by have := (List.getElem?_eq_some_iff.1 hi).1; omega
           have hj' : j < sz' := by have := (List.getElem?_eq_some_iff.1 hj).1; rwa [hrow row (List.mem_of_getElem? hi)] at this
           obtain ⟨row', x', u, e1, e2, u1, u2⟩ := hkey i j hi' hj'; rw [hi] at e1; simp only [Option.some.injEq] at e1; subst e1; rw [hj] at e2; simp only [Option.some.injEq] at e2; subst e2; refine ⟨u, ?_, u2⟩
           have hlt : i * sz' + j < len * sz' := by
             have := Nat.mul_le_mul_right sz' (show i + 1 ≤ len from hi')
             rw [Nat.add_mul, Nat.one_mul] at this; omega
           simp [List.getElem?_range hlt, u1]
theorem rows_read (ho : RelO F ρ t w) {x : AV} {v : Value} {ys : List (List PV)} {sz : Nat} (hx : AR F ρ t w x v) (h : rowsF t x = some ys) (hs0 : 0 < sz) (hrow : ∀ row ∈ ys, row.length = sz) :
   ∃ ad c, v = .slice ad ys.length c ∧ ∃ vs : Array Value, (Builtin.firstCells sz ys.length v).run P w = .ok vs w ∧ vs.size = ys.length * sz ∧ Holds w (Stb F ρ t) sz ys vs.toList := by
 have hpure : ∀ {ad c}, PR w (Stb F ρ t) (.ps ys) (.slice ad ys.length c) → ∃ vs : Array Value, (Builtin.firstCells sz ys.length (.slice ad ys.length c)).run P w = .ok vs w ∧ vs.size = ys.length * sz ∧ Holds w (Stb F ρ t) sz ys vs.toList := by
   intro ad c hp
   by_cases hne : ys = []
   · subst hne
     refine ⟨#[], ?_, by simp, ⟨by simp, by simp, by simp⟩⟩
     cases ad <;> simp [Builtin.firstCells, loadCells, loadCellsFrom]
   · obtain ⟨ad', c', he, h2⟩ := hp.ps_inv
     simp only [Value.slice.injEq] at he; obtain ⟨rfl, -, rfl⟩ := he; obtain ⟨_, b, o, sz', rfl, hsz, val, hv⟩ := h2 hne
     have : sz' = sz := by
       obtain ⟨row, hr⟩ := List.exists_mem_of_ne_nil ys hne; rw [← hsz row hr, hrow row hr]
     subst this; refine ⟨((List.range (ys.length * sz')).map fun k => val (k / sz') (k % sz')).toArray, ?_, by simp, ?_⟩
     · simp only [Builtin.firstCells]
       refine run_loadCells _ _ _ _ fun k hk => ?_
       have hi : k / sz' < ys.length := Nat.div_lt_of_lt_mul (by rw [Nat.mul_comm]; exact hk)
       have hj : k % sz' < ys[k / sz'].length := by rw [hsz _ (List.getElem_mem _)]; exact Nat.mod_lt _ hs0
       have := (hv (k / sz') ys[k / sz'] (by simp [hi]) (k % sz') ys[k / sz'][k % sz'] (by simp [hj])).1
       rw [addr_add]; rw [← this, Nat.add_assoc, Nat.mul_comm (k / sz'), Nat.div_add_mod]
     · have hlt : ∀ i j, i < ys.length → j < sz' → i * sz' + j < ys.length * sz' := by
         intro i j hi hj; have := Nat.mul_le_mul_right sz' (show i + 1 ≤ ys.length from hi)
         rw [Nat.add_mul, Nat.one_mul] at this; omega
       refine ⟨?_, by simp, ?_⟩
       · intro v hv'
         simp only [List.mem_map, List.mem_range] at hv'; obtain ⟨k, hk, rfl⟩ := hv'; have hi : k / sz' < ys.length := Nat.div_lt_of_lt_mul (by rw [Nat.mul_comm]; exact hk)
         have hj : k % sz' < ys[k / sz'].length := by rw [hsz _ (List.getElem_mem _)]; exact Nat.mod_lt _ hs0
         exact (hv (k / sz') ys[k / sz'] (by simp [hi]) (k % sz') ys[k / sz'][k % sz'] (by simp [hj])).2.2.one
       · intro i row hi j x hj
         have hi' : i < ys.length := (List.getElem?_eq_some_iff.1 hi).1; have hj' : j < sz' := by have := (List.getElem?_eq_some_iff.1 hj).1; rwa [hsz row (List.mem_of_getElem? hi)] at this
         refine ⟨val i j, ?_, (hv i row hi j x hj).2.2⟩
         have h1 : (i * sz' + j) / sz' = i := by
           rw [Nat.add_comm, Nat.add_mul_div_right _ _ hs0, Nat.div_eq_of_lt hj', Nat.zero_add]
         have h2 : (i * sz' + j) % sz' = j := by
           rw [Nat.add_comm, Nat.add_mul_mod_self_right]; exact Nat.mod_eq_of_lt hj'
         simp only [List.getElem?_map, List.getElem?_range (hlt i j hi' hj'), Option.map_some, h1, h2]
 unfold rowsF at h; split at h <;> try (simp at h; done)
 · simp only [Option.some.injEq] at h
   subst h
   cases hx with
   | p hp =>
     obtain ⟨ad, c, rfl, _⟩ := hp.ps_inv; exact ⟨ad, c, rfl, hpure hp⟩
 · simp only [Option.some.injEq] at h
   subst h; obtain ⟨ad, rfl, hp⟩ := hx.psf_inv; exact ⟨ad, _, rfl, hpure hp⟩
 · rename_i id L off len
   split at h <;> try (simp at h; done)
   rename_i e sz' xs pub ha
   split at h <;> try (simp at h; done)
   rename_i hL
   obtain ⟨hL, hid⟩ := hL; simp only [Option.some.injEq] at h; obtain ⟨ad, c, e1, vs, e2, e3, e4⟩ := rows_read_q (P := P) ho hx ha hL h hs0 hrow; exact ⟨ad, c, e1, vs, e2, e3, e4.1, e4.2.1, fun i row hi j x hj => by obtain ⟨u, u1, u2⟩ := e4.2.2 i row hi j x hj; exact ⟨u, u1, u2.pr hid⟩⟩
theorem HoldsQ.append {id sz : Nat} {xs ys : List (List PV)} {us vs rest : List Value} (h1 : ∀ v ∈ us, v.oneCell' = true) (hu : us.length = xs.length * sz)
   (hx : ∀ (i : Nat) (row : List PV), xs[i]? = some row → ∀ (j : Nat) (x : PV), row[j]? = some x → ∃ u, us[i * sz + j]? = some u ∧ PQ F ρ t w id x u) (hrx : ∀ row ∈ xs, row.length = sz)
   (hy : HoldsQ F ρ t w id sz ys vs) (hv : vs.length = ys.length * sz) (hr : ∀ v ∈ rest, v.oneCell' = true) : HoldsQ F ρ t w id sz (xs ++ ys) (us ++ vs ++ rest) := by
 obtain ⟨g1, g2, g3⟩ := hy; refine ⟨?_, ?_, ?_⟩
 · intro v hvv
   simp only [List.mem_append] at hvv; rcases hvv with (hvv | hvv) | hvv
   · exact h1 v hvv
   · exact g1 v hvv
   · exact hr v hvv
 · simp only [List.length_append, hu, hv, Nat.add_mul]
   omega
 · intro i row hi j x hj
   have hjl : j < row.length := (List.getElem?_eq_some_iff.1 hj).1; rw [List.append_assoc]
   by_cases hlt : i < xs.length
   · rw [List.getElem?_append_left hlt] at hi
     obtain ⟨u, u1, u2⟩ := hx i row hi j x hj; refine ⟨u, ?_, u2⟩; rw [List.getElem?_append_left (List.getElem?_eq_some_iff.1 u1).1]; exact u1
   · rw [List.getElem?_append_right (by omega)] at hi
     obtain ⟨u, u1, u2⟩ := g3 _ row hi j x hj; refine ⟨u, ?_, u2⟩; have hle : xs.length * sz ≤ i * sz := Nat.mul_le_mul_right sz (by omega)
     rw [List.getElem?_append_right (by omega), List.getElem?_append_left (by
       have := (List.getElem?_eq_some_iff.1 u1).1; rw [Nat.sub_mul] at this
       omega)]
     rw [Nat.sub_mul] at u1; rw [show i * sz + j - us.length = i * sz - xs.length * sz + j by omega]
     exact u1
theorem arr_holds (ho : RelO F ρ t w) {id e sz pub : Nat} {xs : List (List PV)} (ha : t (.arr id) = some (.arr e sz xs pub)) {b : Nat} (hb : ρ id = some b) :
   ∃ cs : Array Value, w.heap[b]? = some (.cells cs e (0, 0)) ∧ xs.length * sz ≤ cs.size ∧ 0 < sz ∧ (∀ row ∈ xs, row.length = sz) ∧ (∀ i row, xs[i]? = some row → ∀ (j : Nat) (x : PV), row[j]? = some x → ∃ u, cs[i * sz + j]? = some u ∧ PQ F ρ t w id x u) ∧
     ∀ k, k < xs.length * sz → ∃ u, cs[k]? = some u ∧ u.oneCell' = true := by
 obtain ⟨e3, sz3, xs3, pub3, hc3, s0, s1, s2, s3⟩ := ho.arr id _ ha; simp only [C.arr.injEq] at hc3; obtain ⟨rfl, rfl, rfl, rfl⟩ := hc3; obtain ⟨b', cs, r1, r2, r3, r4⟩ := s3.resolve_left (by rintro ⟨r, _⟩; rw [hb] at r; simp at r)
 rw [hb] at r1; simp only [Option.some.injEq] at r1; subst r1; refine ⟨cs, r2, r3, s0, s2, r4, fun k hk => ?_⟩
 have hi : k / sz < xs.length := Nat.div_lt_of_lt_mul (by rw [Nat.mul_comm]; exact hk)
 have hj : k % sz < xs[k / sz].length := by rw [s2 _ (List.getElem_mem _)]; exact Nat.mod_lt _ s0
 obtain ⟨u, u1, u2⟩ := r4 (k / sz) xs[k / sz] (by simp [hi]) (k % sz) xs[k / sz][k % sz] (by simp [hj])
 rw [Nat.mul_comm (k / sz), Nat.div_add_mod] at u1; exact ⟨u, u1, u2.one⟩
theorem zero_one {ty : TypeId} {i : TI} (f : TyFacts P ty i) : ∀ v ∈ f.z.cells, v.oneCell' = true := by
 obtain ⟨h1, h2, h3⟩ := scalarCs_ar (F := fun _ _ => False) (ρ := fun _ => none) (t := fun _ => none) (w := default) f.hzs
 intro v hv; exact h2 v (by simpa using hv)
theorem run_append_new {ty ty2 ret e e2 : TypeId} {j : TI} (hu : P.underlying ty = some (.slice e)) (hu2 : P.underlying ty2 = some (.slice e2)) (fj : TyFacts P e j) {ad xd : Option Addr} {n c m cx : Nat} {old new : Array Value}
   (hc : c < n + m) (hlim : (n + m) * j.bytes ≤ lim) (hl2 : n + m ≤ lim) (ho : (Builtin.firstCells j.size n (.slice ad n c)).run P w.drew = .ok old w.drew) (hn : (Builtin.firstCells j.size m (.slice xd m cx)).run P w.drew = .ok new w.drew) :
   ∃ (cap : Nat) (rest : List Value), n + m ≤ cap ∧ rest.length = (cap - (n + m)) * j.size ∧ (∀ v ∈ rest, v.oneCell' = true) ∧
     (Builtin.append_ #[ty, ty2] ret #[.slice ad n c, .slice xd m cx]).run P w = .ok (.slice (some ⟨w.heap.size, 0, none⟩) (n + m) cap) (w.drew.alloc (.cells ⟨old.toList ++ new.toList ++ rest⟩ e)) := by
 have hti : ∀ w', (typeInfo e).run P w' = .ok fj.inf w' := fun w' => by simp [typeInfo, fj.hi]
 have hsz : ∀ w', (sizeOf e).run P w' = .ok j.size w' := fun w' => run_sizeOf' fj
 have hz : ∀ w', (zeroValue e).run P w' = .ok fj.z w' := fun w' => run_zero fj
 let cap := n + m + (w.tape w.drawn (.appendCap (n + m) c e)) % (2 ^ 63 - (n + m))
 refine ⟨cap, (Builtin.zeroCells fj.z.cells (cap - (n + m))).toList, Nat.le_add_right _ _, ?_, ?_, ?_⟩
 · simp [Builtin.zeroCells, fj.hzn]
 · intro v hv
   simp only [Builtin.zeroCells, Array.toList_map, List.mem_map, Array.mem_toList_iff, Array.mem_range] at hv; obtain ⟨k, hk, rfl⟩ := hv
   have hpos : 0 < fj.z.cells.size := by
     rcases Nat.eq_zero_or_pos fj.z.cells.size with h | h
     · rw [h] at hk; simp at hk
     · exact h
   have hlt : k % fj.z.cells.size < fj.z.cells.size := Nat.mod_lt _ hpos; rw [getElem!_pos fj.z.cells _ hlt]; exact zero_one fj _ (Array.getElem_mem _)
 · have h1 : ¬ (n + m ≤ c) := by omega
   have h2 : ¬ (((n + m : Nat) : Int) > IntKind.i64.max) := by
     unfold lim at hl2; have : IntKind.i64.max = 9223372036854775807 := by decide
     omega
   have h3 : ¬ (Builtin.nextslicecap (n + m) c * j.bytes > 2 ^ 48) := by
     have := growslice_fits (need := n + m) (old := c) (bytes := j.bytes) (by omega) hlim
     omega
   unfold Builtin.append_
   have hchoose : ∀ w' : World, (choose (.appendCap (n + m) c e)).run P w' = .ok (n + m + (w'.tape w'.drawn (.appendCap (n + m) c e)) % (2 ^ 63 - (n + m))) w'.drew := by
     intro w'; rw [run_choose]; rfl
   simp only [Sem.run_bind, Sem.run_pure, Sem.run_ite, Result.andThen_ok, run_underlying hu, run_underlying hu2, hsz, Builtin.lenOf, List.getElem?_toArray, List.getElem?_cons_zero, List.getElem?_cons_succ, Bool.false_eq_true, if_false, if_true, h1, h2, h3, hti, fj.hby, hchoose, run_askRoom, ho, hn, hz, false_and, and_false, Bool.not_false, newRow, run_newObj, World.alloc_eq]; have harr : ∀ z : Array Value, old ++ new ++ z = ⟨old.toList ++ new.toList ++ z.toList⟩ := fun z => by apply Array.ext'; simp
   rw [harr]; rfl
theorem run_append_in {ty ty2 ret e e2 : TypeId} {j : TI} (hu : P.underlying ty = some (.slice e)) (hu2 : P.underlying ty2 = some (.slice e2)) (fj : TyFacts P e j) {ad xd : Option Addr} {n c m cx : Nat} {new : Array Value}
   (hc : n + m ≤ c) (hn : (Builtin.firstCells j.size m (.slice xd m cx)).run P w = .ok new w) (h : (match ad with | some b => (storeCells (b.add (n * j.size)) new.toList).run P w | none => .ok () w) = .ok () w') :
   (Builtin.append_ #[ty, ty2] ret #[.slice ad n c, .slice xd m cx]).run P w = .ok (.slice ad (n + m) c) w' := by
 unfold Builtin.append_; simp only [Sem.run_bind, Sem.run_pure, Sem.run_ite, Result.andThen_ok, run_underlying hu, run_underlying hu2, run_sizeOf' fj, Builtin.lenOf, List.getElem?_toArray, List.getElem?_cons_zero, List.getElem?_cons_succ, Bool.false_eq_true, if_false, if_true, hc, hn, Bool.not_false]
 cases ad with
 | none =>
   simp only [Result.ok.injEq, true_and] at h; subst h; rfl
 | some b =>
   simp only [Sem.run_bind]; simp only at h; rw [h]; rfl
theorem extendAt {id b pub sz e : Nat} {xs ys : List (List PV)} {vs : List Value} {cs : Array Value} (h : Rel F G ρ t a w) (hid : t (.arr id) = some (.arr e sz xs pub)) (hb : ρ id = some b) (h0 : w.heap[b]? = some (.cells cs e (0, 0)))
   (hrow : ∀ row ∈ ys, row.length = sz) (hn : vs.length = ys.length * sz) (hle : (xs.length + ys.length) * sz ≤ cs.size) (hH : Holds w (Stb F ρ t) sz ys vs) (hW : Wrote w w' b ⟨overwrite cs.toList (xs.length * sz) vs⟩ e) :
   Rel F G ρ (appU [(.arr id, some (.arr e sz (xs ++ ys) pub))] t) a w' ∧ Ext F ρ t w ρ (appU [(.arr id, some (.arr e sz (xs ++ ys) pub))] t) w' := by
 generalize ht' : appU [(.arr id, some (.arr e sz (xs ++ ys) pub))] t = t'
 have hat : ∀ l, l ≠ .arr id → t' l = t l := by
   intro l hl; rw [← ht']; simp only [appU]; exact upd_ne _ _ hl
 have hid' : t' (.arr id) = some (.arr e sz (xs ++ ys) pub) := by rw [← ht']; simp [appU]
 have hv' : ∀ k, t' (.var k) = t (.var k) := fun k => hat _ (by simp)
 have hlv : live t id := .inr (by rw [hid]; simp)
 have hlive : ∀ q, live t' q ↔ live t q := by
   intro q
   by_cases hq : q = id
   · subst hq; exact ⟨fun _ => hlv, fun _ => .inr (by rw [hid']; simp)⟩
   · simp [live, hv', hat (.arr q) (by simp [hq])]
 obtain ⟨e', sz', xs', pub', hc, s0, s1, s2, s3⟩ := h.o.arr id _ hid; simp only [C.arr.injEq] at hc; obtain ⟨rfl, rfl, rfl, rfl⟩ := hc; obtain ⟨b', cs', q1, q2, q3, q4⟩ := s3.resolve_left (by rintro ⟨r, _⟩; rw [hb] at r; simp at r)
 rw [hb] at q1; simp only [Option.some.injEq] at q1; subst q1; rw [h0] at q2; simp only [Option.some.injEq, Obj.cells.injEq] at q2; obtain ⟨rfl, -, -⟩ := q2; rw [Nat.add_mul] at hle; have hsz : (⟨overwrite cs.toList (xs.length * sz) vs⟩ : Array Value).size = cs.size := by simp [overwrite_length]
 have hE : Ext F ρ t w ρ t' w' := by
   refine .wrote hW h0 hsz hv' ?_ ?_ fun o u hs hcu => ?_
   · intro q e2 sz2 xs2 pub2 hq
     by_cases hqi : q = id
     · subst hqi
       rw [hid] at hq; simp only [Option.some.injEq, C.arr.injEq] at hq; obtain ⟨rfl, rfl, rfl, rfl⟩ := hq; exact ⟨_, hid', by simp⟩
     · exact ⟨xs2, by rw [hat _ (by simp [hqi])]; exact hq, Nat.le_refl _⟩
   · intro q e2 sz2 xs2 pub2 hq
     by_cases hqi : q = id
     · subst hqi
       rw [hid'] at hq; simp only [Option.some.injEq, C.arr.injEq] at hq; obtain ⟨rfl, rfl, rfl, rfl⟩ := hq; exact ⟨_, hid⟩
     · rw [hat _ (by simp [hqi])] at hq
       exact ⟨xs2, hq⟩
   · have hlt := (hs.2 id hb).2 _ _ _ _ hid
     rw [cell_of_row w b _ cs e _ h0] at hcu; rw [cell_of_row w' b _ _ e _ hW.here]; simp only [List.getElem?_toArray]; have : pub * sz ≤ xs.length * sz := Nat.mul_le_mul_right sz s1; rw [overwrite_at _ _ _ _ (by simp; omega), if_neg (by omega)]
     simpa using hcu
 refine ⟨h.step hE ?_ (fun k => hat _ (by simp)) ?_ ?_, hE⟩
 · refine ⟨?_, ?_, ?_, ?_, ?_, ?_, ?_⟩
   · intro q c hq
     rw [hv'] at hq; obtain ⟨m, bk, csk, ek, rfl, r1, r2, r3⟩ := h.o.var q c hq
     have hbk : bk ≠ b := by
       rintro rfl; have := h.o.inj q id bk (.inl (by rw [hq]; simp)) hlv r1 hb
       subst this; have := h.o.excl q (by rw [hq]; simp)
       rw [hid] at this; simp at this
     exact ⟨m, bk, csk, ek, rfl, r1, by rw [hW.there _ hbk]; exact r2, r3⟩
   · intro q j c hq
     rw [hat _ (by simp)] at hq
     obtain ⟨x, m, bk, u, rfl, r1, r2, r3, r4, r5, r6⟩ := h.o.cell q j c hq
     have hbk : bk ≠ b := by
       rintro rfl; have := h.o.inj q id bk (.inl (by rw [r1]; simp)) hlv r3 hb
       subst this; have := h.o.excl q (by rw [r1]; simp)
       rw [hid] at this; simp at this
     exact ⟨x, m, bk, u, rfl, by rw [hv']; exact r1, r2, r3, by rw [hW.cell hbk]; exact r4, r5.ext hE, r6⟩
   · intro q c hq
     by_cases hqi : q = id
     · subst hqi
       rw [hid'] at hq; simp only [Option.some.injEq] at hq; refine ⟨e, sz, _, pub, hq.symm, s0, by simp; omega, ?_, .inr ⟨b, _, hb, hW.here, by rw [hsz, List.length_append, Nat.add_mul]; exact hle, ?_⟩⟩
       · intro r hr
         rcases List.mem_append.1 hr with hr | hr
         · exact s2 r hr
         · exact hrow r hr
       · intro i r hi j x hj
         have hj' : j < r.length := (List.getElem?_eq_some_iff.1 hj).1; simp only [List.getElem?_toArray]; rw [overwrite_at _ _ _ _ (by simp; omega)]
         by_cases hlt : i < xs.length
         · rw [List.getElem?_append_left hlt] at hi
           obtain ⟨u, u1, u2⟩ := q4 i r hi j x hj; have hjl : j < sz := by rw [← s2 r (List.mem_of_getElem? hi)]; exact hj'
           have : i * sz + sz ≤ xs.length * sz := by
             have := Nat.mul_le_mul_right sz (show i + 1 ≤ xs.length from hlt)
             rw [Nat.add_mul, Nat.one_mul] at this; exact this
           rw [if_neg (by omega)]
           exact ⟨u, by simpa using u1, u2.ext hE⟩
         · rw [List.getElem?_append_right (by omega)] at hi
           obtain ⟨u, u1, u2⟩ := hH.2.2 _ r hi j x hj; have hle2 : xs.length * sz ≤ i * sz := Nat.mul_le_mul_right sz (by omega)
           have hlt2 := (List.getElem?_eq_some_iff.1 u1).1; rw [Nat.sub_mul] at hlt2 u1; rw [if_pos (by omega)]
           refine ⟨u, ?_, .inl (u2.ext hE)⟩; rw [show i * sz + j - xs.length * sz = i * sz - xs.length * sz + j by omega]
           exact u1
     · rw [hat _ (by simp [hqi])] at hq
       obtain ⟨ek, sz2, zs, pub2, rfl, r1, r2, r3, r4⟩ := h.o.arr q c hq; refine ⟨ek, sz2, zs, pub2, rfl, r1, r2, r3, ?_⟩; rcases r4 with r4 | ⟨bk, csk, r4, r5, r6, r7⟩
       · exact .inl r4
       · have hbk : bk ≠ b := by
           rintro rfl; exact hqi (h.o.inj q id bk (.inr (by rw [hq]; simp)) hlv r4 hb)
         refine .inr ⟨bk, csk, r4, by rw [hW.there _ hbk]; exact r5, r6, fun i row hi j x hj => ?_⟩
         obtain ⟨u, u1, u2⟩ := r7 i row hi j x hj; exact ⟨u, u1, u2.ext hE⟩
   · intro q q' bb hq hq'
     rw [hlive] at hq hq'; exact h.o.inj q q' bb hq hq'
   · intro q hq
     rw [hv'] at hq
     by_cases hqi : q = id
     · subst hqi
       have := h.o.excl q hq; rw [hid] at this; simp at this
     · rw [hat _ (by simp [hqi])]; exact h.o.excl q hq
   · intro q bb o hq
     rw [hlive] at hq; exact h.o.apart q bb o hq
   · intro bb o hF
     rw [hW.size]; exact h.o.bound bb o hF
 · intro q bb hq hbb
   rw [hlive] at hq; exact .inl ⟨hq, hbb⟩
 · intro q hq hn'
   exact hW.there q (fun e => hn' id hlv (e ▸ hb))
theorem moveTo {id pub sz e : Nat} {xs zs : List (List PV)} {cs : Array Value} (h : Rel F G ρ t a w) (hid : t (.arr id) = some (.arr e sz xs pub)) (hlen : xs.length < zs.length) (hrow : ∀ row ∈ zs, row.length = sz) (hH : HoldsQ F ρ t w id sz zs cs.toList) :
   Rel F G (setR ρ id w.heap.size) (appU [(.arr id, some (.arr e sz zs pub))] t) a (w.alloc (.cells cs e)) := by
 generalize ht' : appU [(.arr id, some (.arr e sz zs pub))] t = t'
 have hat : ∀ l, l ≠ .arr id → t' l = t l := by
   intro l hl; rw [← ht']; simp only [appU]; exact upd_ne _ _ hl
 have hid' : t' (.arr id) = some (.arr e sz zs pub) := by rw [← ht']; simp [appU]
 have hv' : ∀ k, t' (.var k) = t (.var k) := fun k => hat _ (by simp)
 have hnv : t (.var id) = none := by
   cases hq : t (.var id) with
   | none => rfl
   | some c => have := h.o.excl id (by rw [hq]; simp); rw [hid] at this; simp at this
 have hlv : live t id := .inr (by rw [hid]; simp)
 have hlive : ∀ q, live t' q ↔ live t q := by
   intro q
   by_cases hq : q = id
   · subst hq; exact ⟨fun _ => hlv, fun _ => .inr (by rw [hid']; simp)⟩
   · simp [live, hv', hat (.arr q) (by simp [hq])]
 obtain ⟨e', sz', xs', pub', hc, s0, s1, s2, s3⟩ := h.o.arr id _ hid; simp only [C.arr.injEq] at hc; obtain ⟨rfl, rfl, rfl, rfl⟩ := hc; obtain ⟨g1, g2, g3⟩ := hH; simp only [Array.length_toList] at g2
 have hE : Ext F ρ t w (setR ρ id w.heap.size) t' (w.alloc (.cells cs e)) := by
   refine ⟨rfl, rfl, rfl, by simp, ?_, ?_, ?_⟩
   · intro k hk
     have : k ≠ id := fun e => hk (e ▸ hnv)
     exact ⟨by rw [hv' k]; exact hk, setR_ne _ _ this⟩
   · intro k e2 sz2 xs2 pub2 hk
     by_cases hki : k = id
     · subst hki
       rw [hid] at hk; simp only [Option.some.injEq, C.arr.injEq] at hk; obtain ⟨rfl, rfl, rfl, rfl⟩ := hk; exact ⟨zs, pub, hid', by omega, fun he => by omega⟩
     · refine ⟨xs2, pub2, by rw [hat _ (by simp [hki])]; exact hk, Nat.le_refl _, fun _ => ⟨setR_ne _ _ hki, fun b s hb hs => ?_⟩⟩
       have hlt := live_lt h.o (id := k) (.inr (by rw [hk]; simp)) hb
       unfold World.shape? at hs ⊢; rw [heap_alloc_old w _ hlt]; exact hs
   · intro b o u hs hc
     have hlt := cell_lt hc; refine ⟨by rw [World.cell?_alloc_lt _ _ _ hlt]; exact hc, hs.1, fun k hk => ?_⟩
     by_cases e : k = id
     · subst e
       rw [setR_same] at hk; simp only [Option.some.injEq] at hk; omega
     · rw [setR_ne _ _ e] at hk
       rw [hv' k, hat _ (by simp [e])]
       exact hs.2 k hk
 refine h.step hE ⟨?_, ?_, ?_, ?_, ?_, ?_, ?_⟩ (fun k => hat _ (by simp)) ?_ (fun b hb _ => heap_alloc_old w _ hb)
 · intro k c hk
   rw [hv' k] at hk; have ek : k ≠ id := fun e => by rw [e, hnv] at hk; simp at hk
   obtain ⟨n, b, cs', e', rfl, q1, q2, q3⟩ := h.o.var k c hk; exact ⟨n, b, cs', e', rfl, by rw [setR_ne _ _ ek]; exact q1, by rw [heap_alloc_old w _ (Array.getElem?_eq_some_iff.1 q2).1]; exact q2, q3⟩
 · intro k j c hk
   rw [hat _ (by simp)] at hk
   obtain ⟨x, n, b, u, rfl, q1, q2, q3, q4, q5, q6⟩ := h.o.cell k j c hk; have ek : k ≠ id := fun e => by rw [e, hnv] at q1; simp at q1
   exact ⟨x, n, b, u, rfl, by rw [hv' k]; exact q1, q2, by rw [setR_ne _ _ ek]; exact q3, by rw [World.cell?_alloc_lt _ _ _ (cell_lt q4)]; exact q4, q5.ext hE, q6⟩
 · intro k c hk
   by_cases ek : k = id
   · subst ek
     rw [hid'] at hk; simp only [Option.some.injEq] at hk; refine ⟨e, sz, zs, pub, hk.symm, s0, by omega, hrow, .inr ⟨w.heap.size, cs, setR_same _ _ _, heap_alloc_new w _, g2, fun i row hi j x hj => ?_⟩⟩
     obtain ⟨u, u1, u2⟩ := g3 i row hi j x hj; exact ⟨u, by simpa using u1, u2.ext hE⟩
   · rw [hat _ (by simp [ek])] at hk
     obtain ⟨e', sz2, ys, pub2, rfl, q1, q2, q3, q4⟩ := h.o.arr k c hk; refine ⟨e', sz2, ys, pub2, rfl, q1, q2, q3, ?_⟩; rcases q4 with ⟨q4, q5⟩ | ⟨b, cs', q4, q5, q6, q7⟩
     · exact .inl ⟨by rw [setR_ne _ _ ek]; exact q4, q5⟩
     · refine .inr ⟨b, cs', by rw [setR_ne _ _ ek]; exact q4, by rw [heap_alloc_old w _ (Array.getElem?_eq_some_iff.1 q5).1]; exact q5, q6, fun i row hi j x hj => ?_⟩
       obtain ⟨u, u1, u2⟩ := q7 i row hi j x hj; exact ⟨u, u1, u2.ext hE⟩
 · intro k k' b hk hk' hb hb'
   rw [hlive] at hk hk'
   by_cases ek : k = id <;> by_cases ek' : k' = id
   · rw [ek, ek']
   · subst ek
     rw [setR_same] at hb; rw [setR_ne _ _ ek'] at hb'; have := live_lt h.o hk' hb'; simp only [Option.some.injEq] at hb; omega
   · subst ek'
     rw [setR_same] at hb'; rw [setR_ne _ _ ek] at hb; have := live_lt h.o hk hb; simp only [Option.some.injEq] at hb'; omega
   · rw [setR_ne _ _ ek] at hb
     rw [setR_ne _ _ ek'] at hb'; exact h.o.inj k k' b hk hk' hb hb'
 · intro k hk
   rw [hv' k] at hk; have ek : k ≠ id := fun e => hk (e ▸ hnv)
   rw [hat _ (by simp [ek])]
   exact h.o.excl k hk
 · intro k b o hk hb hF
   rw [hlive] at hk
   by_cases ek : k = id
   · subst ek
     rw [setR_same] at hb; simp only [Option.some.injEq] at hb; have := h.o.bound b o hF; omega
   · rw [setR_ne _ _ ek] at hb
     exact h.o.apart k b o hk hb hF
 · intro b o hF
   have := h.o.bound b o hF; simp; omega
 · intro k b hl hb
   rw [hlive] at hl
   by_cases ek : k = id
   · subst ek
     rw [setR_same] at hb; simp only [Option.some.injEq] at hb; exact .inr (by omega)
   · rw [setR_ne _ _ ek] at hb
     exact .inl ⟨hl, hb⟩
end
end Go.Flat
end
section
set_option linter.unusedVariables false
set_option linter.unusedSimpArgs false
namespace Go.Flat
section
variable {P : Program} {F : Nat → Nat → Prop} {G : Start} {ρ ρ' : Ren} {t t' : Sto} {a : Act} {w w' : World}
theorem writeAt {id b pub sz e n : Nat} {xs ys : List (List PV)} {vs : List Value} {cs : Array Value} (h : Rel F G ρ t a w) (hid : t (.arr id) = some (.arr e sz xs pub)) (hb : ρ id = some b) (h0 : w.heap[b]? = some (.cells cs e (0, 0)))
   (hnx : n ≤ xs.length) (hpn : pub ≤ n) (hrow : ∀ row ∈ ys, row.length = sz) (hn : vs.length = ys.length * sz) (hle : (n + ys.length) * sz ≤ cs.size) (hH : Holds w (Stb F ρ t) sz ys vs) (hW : Wrote w w' b ⟨overwrite cs.toList (n * sz) vs⟩ e) :
   Rel F G ρ (appU [(.arr id, some (.arr e sz (xs.take n ++ ys ++ xs.drop (n + ys.length)) pub))] t) a w' ∧ Ext F ρ t w ρ (appU [(.arr id, some (.arr e sz (xs.take n ++ ys ++ xs.drop (n + ys.length)) pub))] t) w' := by
 generalize ht' : appU [(.arr id, some (.arr e sz (xs.take n ++ ys ++ xs.drop (n + ys.length)) pub))] t = t'
 have hat : ∀ l, l ≠ .arr id → t' l = t l := by
   intro l hl; rw [← ht']; simp only [appU]; exact upd_ne _ _ hl
 have hid' : t' (.arr id) = some (.arr e sz (xs.take n ++ ys ++ xs.drop (n + ys.length)) pub) := by rw [← ht']; simp [appU]
 have hv' : ∀ k, t' (.var k) = t (.var k) := fun k => hat _ (by simp)
 have hlv : live t id := .inr (by rw [hid]; simp)
 have hlive : ∀ q, live t' q ↔ live t q := by
   intro q
   by_cases hq : q = id
   · subst hq; exact ⟨fun _ => hlv, fun _ => .inr (by rw [hid']; simp)⟩
   · simp [live, hv', hat (.arr q) (by simp [hq])]
 obtain ⟨e', sz', xs', pub', hc, s0, s1, s2, s3⟩ := h.o.arr id _ hid; simp only [C.arr.injEq] at hc; obtain ⟨rfl, rfl, rfl, rfl⟩ := hc; obtain ⟨b', cs', q1, q2, q3, q4⟩ := s3.resolve_left (by rintro ⟨r, _⟩; rw [hb] at r; simp at r)
 rw [hb] at q1; simp only [Option.some.injEq] at q1; subst q1; rw [h0] at q2; simp only [Option.some.injEq, Obj.cells.injEq] at q2; obtain ⟨rfl, -, -⟩ := q2; rw [Nat.add_mul] at hle; have hsz : (⟨overwrite cs.toList (n * sz) vs⟩ : Array Value).size = cs.size := by simp [overwrite_length]
 have hE : Ext F ρ t w ρ t' w' := by
   refine .wrote hW h0 hsz hv' ?_ ?_ fun o u hs hcu => ?_
   · intro q e2 sz2 xs2 pub2 hq
     by_cases hqi : q = id
     · subst hqi
       rw [hid] at hq; simp only [Option.some.injEq, C.arr.injEq] at hq; obtain ⟨rfl, rfl, rfl, rfl⟩ := hq; exact ⟨_, hid', by simp; omega⟩
     · exact ⟨xs2, by rw [hat _ (by simp [hqi])]; exact hq, Nat.le_refl _⟩
   · intro q e2 sz2 xs2 pub2 hq
     by_cases hqi : q = id
     · subst hqi
       rw [hid'] at hq; simp only [Option.some.injEq, C.arr.injEq] at hq; obtain ⟨rfl, rfl, rfl, rfl⟩ := hq; exact ⟨_, hid⟩
     · rw [hat _ (by simp [hqi])] at hq
       exact ⟨xs2, hq⟩
   · have hlt := (hs.2 id hb).2 _ _ _ _ hid
     rw [cell_of_row w b _ cs e _ h0] at hcu; rw [cell_of_row w' b _ _ e _ hW.here]; simp only [List.getElem?_toArray]; have : pub * sz ≤ n * sz := Nat.mul_le_mul_right sz hpn; rw [overwrite_at _ _ _ _ (by simp; omega), if_neg (by omega)]
     simpa using hcu
 refine ⟨h.step hE ?_ (fun k => hat _ (by simp)) ?_ ?_, hE⟩
 · refine ⟨?_, ?_, ?_, ?_, ?_, ?_, ?_⟩
   · intro q c hq
     rw [hv'] at hq; obtain ⟨m, bk, csk, ek, rfl, r1, r2, r3⟩ := h.o.var q c hq
     have hbk : bk ≠ b := by
       rintro rfl; have := h.o.inj q id bk (.inl (by rw [hq]; simp)) hlv r1 hb
       subst this; have := h.o.excl q (by rw [hq]; simp)
       rw [hid] at this; simp at this
     exact ⟨m, bk, csk, ek, rfl, r1, by rw [hW.there _ hbk]; exact r2, r3⟩
   · intro q j c hq
     rw [hat _ (by simp)] at hq
     obtain ⟨x, m, bk, u, rfl, r1, r2, r3, r4, r5, r6⟩ := h.o.cell q j c hq
     have hbk : bk ≠ b := by
       rintro rfl; have := h.o.inj q id bk (.inl (by rw [r1]; simp)) hlv r3 hb
       subst this; have := h.o.excl q (by rw [r1]; simp)
       rw [hid] at this; simp at this
     exact ⟨x, m, bk, u, rfl, by rw [hv']; exact r1, r2, r3, by rw [hW.cell hbk]; exact r4, r5.ext hE, r6⟩
   · intro q c hq
     by_cases hqi : q = id
     · subst hqi
       rw [hid'] at hq; simp only [Option.some.injEq] at hq; refine ⟨e, sz, _, pub, hq.symm, s0, by simp; omega, ?_, .inr ⟨b, _, hb, hW.here, ?_, ?_⟩⟩
       · intro r hr
         rcases List.mem_append.1 hr with hr | hr
         · rcases List.mem_append.1 hr with hr | hr
           · exact s2 r (List.mem_of_mem_take hr)
           · exact hrow r hr
         · exact s2 r (List.mem_of_mem_drop hr)
       · rw [hsz]
         by_cases hc : xs.length ≤ n + ys.length
         · have e1 : (xs.take n ++ ys ++ xs.drop (n + ys.length)).length = n + ys.length := by simp; omega
           rw [e1, Nat.add_mul]; exact hle
         · have e1 : (xs.take n ++ ys ++ xs.drop (n + ys.length)).length = xs.length := by simp; omega
           rw [e1]; exact q3
       · intro i r hi j x hj
         have hj' : j < r.length := (List.getElem?_eq_some_iff.1 hj).1; simp only [List.getElem?_toArray]; rw [overwrite_at _ _ _ _ (by simp; omega)]
         by_cases h1 : i < n
         · rw [List.append_assoc, List.getElem?_append_left (by simp; omega), List.getElem?_take, if_pos h1] at hi
           obtain ⟨u, u1, u2⟩ := q4 i r hi j x hj; have hjl : j < sz := by rw [← s2 r (List.mem_of_getElem? hi)]; exact hj'
           have : i * sz + sz ≤ n * sz := by
             have := Nat.mul_le_mul_right sz (show i + 1 ≤ n from h1)
             rw [Nat.add_mul, Nat.one_mul] at this; exact this
           rw [if_neg (by omega)]
           exact ⟨u, by simpa using u1, u2.ext hE⟩
         · have htl : (xs.take n).length = n := by simp; omega
           by_cases h2 : i < n + ys.length
           · rw [List.append_assoc, List.getElem?_append_right (by omega), htl, List.getElem?_append_left (by omega)] at hi
             obtain ⟨u, u1, u2⟩ := hH.2.2 _ r hi j x hj; have hle2 : n * sz ≤ i * sz := Nat.mul_le_mul_right sz (by omega)
             have hlt2 := (List.getElem?_eq_some_iff.1 u1).1; rw [Nat.sub_mul] at hlt2 u1; rw [if_pos (by omega)]
             refine ⟨u, ?_, .inl (u2.ext hE)⟩; rw [show i * sz + j - n * sz = i * sz - n * sz + j by omega]
             exact u1
           · rw [List.getElem?_append_right (by simp; omega), List.getElem?_drop] at hi
             have hi' : xs[i]? = some r := by
               rw [← hi]; congr 1; simp; omega
             obtain ⟨u, u1, u2⟩ := q4 i r hi' j x hj
             have : n * sz + ys.length * sz ≤ i * sz := by
               rw [← Nat.add_mul]; exact Nat.mul_le_mul_right sz (by omega)
             rw [if_neg (by omega)]
             exact ⟨u, by simpa using u1, u2.ext hE⟩
     · rw [hat _ (by simp [hqi])] at hq
       obtain ⟨ek, sz2, zs, pub2, rfl, r1, r2, r3, r4⟩ := h.o.arr q c hq; refine ⟨ek, sz2, zs, pub2, rfl, r1, r2, r3, ?_⟩; rcases r4 with r4 | ⟨bk, csk, r4, r5, r6, r7⟩
       · exact .inl r4
       · have hbk : bk ≠ b := by
           rintro rfl; exact hqi (h.o.inj q id bk (.inr (by rw [hq]; simp)) hlv r4 hb)
         refine .inr ⟨bk, csk, r4, by rw [hW.there _ hbk]; exact r5, r6, fun i row hi j x hj => ?_⟩
         obtain ⟨u, u1, u2⟩ := r7 i row hi j x hj; exact ⟨u, u1, u2.ext hE⟩
   · intro q q' bb hq hq'
     rw [hlive] at hq hq'; exact h.o.inj q q' bb hq hq'
   · intro q hq
     rw [hv'] at hq
     by_cases hqi : q = id
     · subst hqi
       have := h.o.excl q hq; rw [hid] at this; simp at this
     · rw [hat _ (by simp [hqi])]; exact h.o.excl q hq
   · intro q bb o hq
     rw [hlive] at hq; exact h.o.apart q bb o hq
   · intro bb o hF
     rw [hW.size]; exact h.o.bound bb o hF
 · intro q bb hq hbb
   rw [hlive] at hq; exact .inl ⟨hq, hbb⟩
 · intro q hq hn'
   exact hW.there q (fun e => hn' id hlv (e ▸ hb))
theorem run_append_zeros {ty ty2 ret e : TypeId} {j : TI} {kn : IntKind} (hu : P.underlying ty = some (.slice e)) (hu2 : P.underlying ty2 = some (.int kn)) (fj : TyFacts P e j) {ad : Option Addr} {n : Nat} {k : IntKind} (h0 : 0 < n) (hs : 0 < j.size) (hlim : n * j.bytes ≤ lim) (hl2 : n ≤ lim) :
   ∃ (cap : Nat) (rest : List Value), n ≤ cap ∧ rest.length = (cap - n) * j.size ∧ (∀ v ∈ rest, v.oneCell' = true) ∧
     (Builtin.append_ #[ty, ty2] ret #[.slice ad 0 0, .int k n]).run P w = .ok (.slice (some ⟨w.heap.size, 0, none⟩) n cap) (w.drew.alloc (.cells ⟨(Builtin.zeroCells fj.z.cells n).toList ++ rest⟩ e)) := by
 have hti : ∀ w', (typeInfo e).run P w' = .ok fj.inf w' := fun w' => by simp [typeInfo, fj.hi]
 have hsz : ∀ w', (sizeOf e).run P w' = .ok j.size w' := fun w' => run_sizeOf' fj
 have hz : ∀ w', (zeroValue e).run P w' = .ok fj.z w' := fun w' => run_zero fj
 refine ⟨n + (w.tape w.drawn (.appendCap n 0 e)) % (2 ^ 63 - n), (Builtin.zeroCells fj.z.cells (n + (w.tape w.drawn (.appendCap n 0 e)) % (2 ^ 63 - n) - n)).toList, Nat.le_add_right _ _, ?_, ?_, ?_⟩
 · simp [Builtin.zeroCells, fj.hzn]
 · intro v hv
   simp only [Builtin.zeroCells, Array.toList_map, List.mem_map, Array.mem_toList_iff, Array.mem_range] at hv; obtain ⟨k, hk, rfl⟩ := hv
   have hpos : 0 < fj.z.cells.size := by
     rcases Nat.eq_zero_or_pos fj.z.cells.size with h | h
     · rw [h] at hk; simp at hk
     · exact h
   have hlt : k % fj.z.cells.size < fj.z.cells.size := Nat.mod_lt _ hpos; rw [getElem!_pos fj.z.cells _ hlt]; exact zero_one fj _ (Array.getElem_mem _)
 · have hw : IntKind.i64.wrap (n : Int) = n := wrap_small hl2
   have hn : n ≠ 0 := by omega
   unfold lim at hl2 hlim; have h1 : ¬ (n ≤ 0) := by omega
   have h2 : ¬ ((n : Int) > IntKind.i64.max) := by
     have : IntKind.i64.max = 9223372036854775807 := by decide
     omega
   have h3 : ¬ (Builtin.nextslicecap n 0 * j.bytes > 2 ^ 48) := by
     have : Builtin.nextslicecap n 0 = n := by simp [Builtin.nextslicecap]; omega
     rw [this]; omega
   have h4 : ¬ ((n : Int) < 0) := by omega
   have h5 : ¬ ((n : Int) * (j.bytes : Int) > 2 ^ 48) := by
     rw [← Int.natCast_mul]; omega
   have hns : ¬ (n * j.size = 0) := Nat.mul_ne_zero hn (by omega)
   have hchoose : ∀ w' : World, (choose (.appendCap n 0 e)).run P w' = .ok (n + (w'.tape w'.drawn (.appendCap n 0 e)) % (2 ^ 63 - n)) w'.drew := by
     intro w'; rw [run_choose]; rfl
   have hold : ∀ w' : World, (Builtin.firstCells j.size 0 (.slice ad 0 0)).run P w' = .ok #[] w' := by
     intro w'; cases ad <;> simp [Builtin.firstCells, loadCells, loadCellsFrom]
   unfold Builtin.append_; simp only [Sem.run_bind, Sem.run_pure, Sem.run_ite, Result.andThen_ok, run_underlying hu, run_underlying hu2, hsz, asInt, asIntOf, hw, h4, h5, List.getElem?_toArray, List.getElem?_cons_zero, List.getElem?_cons_succ, Bool.false_eq_true, if_false, if_true, hti, fj.hby, Int.toNat_natCast, Nat.zero_add, h1, h2, h3, hns, hchoose, run_askRoom, hold, hz, false_and, Bool.not_true]; have harr : ∀ A B : Array Value, #[] ++ A ++ B = ⟨A.toList ++ B.toList⟩ := fun A B => by apply Array.ext'; simp
   rw [harr]; rfl
end
end Go.Flat
end
