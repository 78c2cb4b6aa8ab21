/- The operations of our own plain machine, what each does, and how the program's operations are turned into them. -/
import Derived.Test.YthclmjelknibhaaEv4
namespace Go.Proofs.Ythclmjelknibhaa.Ev
open Go Go.RowKit
set_option linter.unusedVariables false
set_option linter.unusedSimpArgs false
set_option linter.unusedSectionVars false

/-- A key's leaf; a key type's shape. -/
inductive KL where
  | str
  | int (k : IntKind)
  | bl
  deriving DecidableEq
inductive KS where
  | one (l : KL)
  | agg (ls : List KL)
def fitsL : KL → Value → Bool
  | .str, .string s => decide (s.size ≤ maxLen)
  | .int q, .int q' n => decide (q = q') && (Lit.int q' n).wf
  | .bl, .bool _ => true
  | _, _ => false
def fitsLs : List KL → List Value → Bool
  | [], [] => true
  | l :: ls, v :: vs => fitsL l v && fitsLs ls vs
  | _, _ => false
def fits : KS → Value → Bool
  | .one l, v => fitsL l v
  | .agg ls, .agg cs => decide (cs.size = ls.length) && fitsLs ls cs.toList
  | _, _ => false
def keqL : Value → Value → Bool
  | .string a, .string b => decide (a = b)
  | .int k a, .int k' b => decide (k = k') && decide (a = b)
  | .bool a, .bool b => decide (a = b)
  | _, _ => false
def keqLs : List Value → List Value → Bool
  | [], [] => true
  | a :: as, b :: bs => keqL a b && keqLs as bs
  | _, _ => false
def keq : KS → Value → Value → Bool
  | .one _, a, b => keqL a b
  | .agg _, .agg as, .agg bs => keqLs as.toList bs.toList
  | _, _, _ => false
/-- Where a key stands. -/
def mixs (ks : KS) (k : Value) : List (Value × Value) → Nat → List Nat
  | [], _ => []
  | e :: es, n => if keq ks k e.1 then n :: mixs ks k es (n + 1) else mixs ks k es (n + 1)
def mfind (ks : KS) (k : Value) (es : List (Value × Value)) : Option (Option Nat) :=
  if fits ks k && es.all (fun e => fits ks e.1) then
    match mixs ks k es 0 with
    | [] => some none
    | [i] => some (some i)
    | _ => none
  else none

inductive EOp where
  | mov (x : Operand)
  | pick (c a b : Operand)
  | bin (op : BinOp) (x y : Operand)
  | eqB (neg : Bool) (x y : Operand)
  | eqN (kind : Nat) (neg : Bool) (x y : Operand)
  | eqA (neg : Bool) (ls : List KL) (x y : Operand)
  | un (op : UnOp) (x : Operand)
  | cvI (k : IntKind) (x : Operand)
  | cvS (x : Operand)
  | fld (sz : Option Nat) (off : Nat) (x : Operand)
  | ext (i : Nat) (x : Operand)
  | build (zero : List Value) (parts : List (Nat × Nat × Operand))
  | fad (off : Nat) (x : Operand)
  | iad (size : Nat) (x i : Operand)
  | iadA (len size : Nat) (x i : Operand)
  | idxS (x i : Operand)
  | idxA (len size : Nat) (agg : Bool) (x i : Operand)
  | slS (x : Operand) (lo hi : Option Operand)
  | slV (size : Nat) (x : Operand) (lo hi mx : Option Operand)
  | nilc (x : Operand)
  | mkf (f : FuncId) (first captured : List Operand)
  | len (str : Bool) (x : Operand)
  | con (v : Value)
  | mx (xs : List Operand)
  | mn (xs : List Operand)
  | ld (sz : Option Nat) (x : Operand)
  | cvBS (x : Operand)
  | st (size : Nat) (x v : Operand)
  | cpy (size : Nat) (d s : Operand)
  | mkm (r : Option Operand)
  | mlk (ks : KS) (z : Value) (ok : Bool) (x k : Operand)
  | mup (ks : KS) (x k v : Operand)
  | mdel (ks : KS) (x k : Operand)
  | lenM (x : Operand)
  | capn (x : Operand)
  | mark (x : Operand)
  | box (elem es : Nat) (v : Operand)
  | new (elem es : Nat) (cells : List Value)
  | lit (elem size : Nat) (zero : List Value) (n : Nat) (parts : List (Nat × Nat × Operand))
  | mks (elem size bytes : Nat) (zero : List Value) (l c : Operand)
  | cvSB (elem : Nat) (x : Operand)
  | app (elem size bytes : Nat) (s x : Operand)
  | appz (elem size bytes : Nat) (zero : List Value) (s x : Operand)
  | call (f : FuncId) (args : List Operand)
  | callV (f : Operand) (args : List Operand)
  | bx (f : FuncId) (args : List Operand)
  | no

/-- What an operation comes to. -/
inductive Res where
  | val (v : Value) (S : AW)
  | call (f : FuncId) (args : List Value)

def iop (op : BinOp) (k : IntKind) (a b : Int) : Option Value :=
  match op with
  | .add => some (.int k (k.wrap (a + b)))
  | .sub => some (.int k (k.wrap (a - b)))
  | .mul => some (.int k (k.wrap (a * b)))
  | .quo => if b = 0 then none else some (.int k (k.wrap (a.tdiv b)))
  | .rem => if b = 0 then none else some (.int k (a.tmod b))
  | .and => some (.int k (k.wrap ((BitVec.ofInt k.bits a &&& BitVec.ofInt k.bits b).toNat : Nat)))
  | .or => some (.int k (k.wrap ((BitVec.ofInt k.bits a ||| BitVec.ofInt k.bits b).toNat : Nat)))
  | .xor => some (.int k (k.wrap ((BitVec.ofInt k.bits a ^^^ BitVec.ofInt k.bits b).toNat : Nat)))
  | .andNot => some (.int k (k.wrap ((BitVec.ofInt k.bits a &&& ~~~ BitVec.ofInt k.bits b).toNat : Nat)))
  | .eql => some (.bool (decide (a = b)))
  | .neq => some (.bool (!decide (a = b)))
  | .lss => some (.bool (decide (a < b)))
  | .leq => some (.bool (decide (a ≤ b)))
  | .gtr => some (.bool (decide (b < a)))
  | .geq => some (.bool (decide (b ≤ a)))
  | _ => none
def shop (op : BinOp) (k : IntKind) (a b : Int) : Option Value :=
  match op with
  | .shl => if b < 0 then none else some (.int k (k.wrap (a * 2 ^ (min b.toNat k.bits))))
  | .shr => if b < 0 then none else some (.int k (a.fdiv (2 ^ (min b.toNat k.bits))))
  | _ => none
def sop (op : BinOp) (a b : ByteArray) : Option Value :=
  match op with
  | .add => if a.size + b.size ≤ 9223372036854775807 then some (.string (a ++ b)) else none
  | .eql => some (.bool (decide (a = b)))
  | .neq => some (.bool (!decide (a = b)))
  | .lss => some (.bool (Op.bytesLess a.data.toList b.data.toList))
  | _ => none
def binV (op : BinOp) (x y : Value) : Option Value :=
  match x, y with
  | .int k a, .int k' b => match op with
    | .shl => shop .shl k a b
    | .shr => shop .shr k a b
    | op => if k = k' then iop op k a b else none
  | .string a, .string b => sop op a b
  | _, _ => none
/-- Two values, one of which is a nil: are they one? (0 pointers, 1 slices, 2 maps, 3 functions) -/
def nilV (kind : Nat) (x y : Value) : Option Bool :=
  match kind, x, y with
  | 0, .pointer none, .pointer b => some b.isNone
  | 0, .pointer (some _), .pointer none => some false
  | 1, .slice none _ _, .slice b _ _ => some b.isNone
  | 1, .slice (some _) _ _, .slice none _ _ => some false
  | 2, .map none, .map b => some b.isNone
  | 2, .map (some _), .map none => some false
  | 3, .nilFunc, .nilFunc => some true
  | 3, .nilFunc, .func _ _ _ => some false
  | 3, .func _ _ _, .nilFunc => some false
  | _, _, _ => none
/-- Two cells: are they one? -/
def ceq (x y : Value) : Option Bool :=
  match x, y with
  | .int k a, .int k' b => if k = k' then some (decide (a = b)) else none
  | .string a, .string b => some (decide (a = b))
  | .bool a, .bool b => some (decide (a = b))
  | _, _ => none
def ceqs : List Value → List Value → Option Bool
  | [], [] => some true
  | x :: xs, y :: ys => match ceq x y with
    | some true => ceqs xs ys
    | some false => some false
    | none => none
  | _, _ => none
def unV (op : UnOp) (x : Value) : Option Value :=
  match op, x with
  | .neg, .int k n => some (.int k (k.wrap (0 - n)))
  | .xor, .int k n => iop .xor k (if k.signed then -1 else k.max) n
  | .not, .bool b => some (.bool !b)
  | _, _ => none
def cellsOf (v : Value) : List Value := match v with | .agg cs => cs.toList | v => [v]
def fillL (cells : List Value) : List (Nat × Nat × Value) → Option (List Value)
  | [] => some cells
  | (off, size, v) :: rest =>
    if isBad v then none else
    if (cellsOf v).length = size ∧ off + size ≤ cells.length then fillL (cells.take off ++ cellsOf v ++ cells.drop (off + size)) rest else none
def oint : Option Value → Option (Option Int)
  | none => some none
  | some (.int _ n) => some (some n)
  | _ => none
/-- The bounds of a cut. -/
def cutB (len cap : Nat) (lo hi mx : Option Int) : Option (Nat × Nat × Nat) :=
  let m : Int := mx.getD cap
  let h : Int := hi.getD len
  let l : Int := lo.getD 0
  if mx.isSome && hi.isNone then none else
  if 0 ≤ l ∧ l ≤ h ∧ h ≤ m ∧ m ≤ (cap : Int) then some (l.toNat, h.toNat, m.toNat) else none
def mstep (mx : Bool) (x y : Value) : Option Value :=
  match x, y with
  | .int k a, .int k' b => if k = k' then some (.int k (if mx then (if b > a then b else a) else (if b < a then b else a))) else none
  | _, _ => none
def mmV (mx : Bool) : List Value → Option Value
  | .int k a :: vs => vs.foldlM (mstep mx) (.int k a)
  | _ => none

/-- A cell that may be read. -/
def AW.cell (S : AW) (i o : Nat) : Option Value :=
  match S.raw i with
  | some r => match r.c[o]? with
    | some v => if isBad v then none else some v
    | none => none
  | none => none
/-- Cells that may be read. -/
def rowOk (l : List Value) (o n : Nat) : Option (List Value) :=
  let m := (l.drop o).take n
  if m.length = n && m.all (fun v => !isBad v) then some m else none
def AW.row (S : AW) (i o n : Nat) : Option (List Value) :=
  match S.raw i with
  | some r => rowOk r.c o n
  | none => none
/-- A variable that may be read. -/
def AW.ldV (S : AW) (sz : Option Nat) (i o : Nat) : Option Value :=
  match sz with
  | none => S.cell i o
  | some n => (S.row i o n).map fun l => .agg l.toArray
def bytesV : List Value → Option (List UInt8)
  | [] => some []
  | .int .u8 n :: l => (bytesV l).map (UInt8.ofNat n.toNat :: ·)
  | _ => none
def strCells (s : ByteArray) : List Value := s.data.toList.map fun b => .int .u8 b.toNat
/-- The cells that are put behind a slice. -/
def srcCells (S : AW) (size : Nat) (x : Value) : Option (Nat × List Value) :=
  match x with
  | .slice none _ _ => some (0, [])
  | .slice (some ⟨i, o, none⟩) n _ => if n * size = 0 then some (n, []) else (S.row i o (n * size)).map fun l => (n, l)
  | .string s => if size = 1 then some (s.size, strCells s) else none
  | _ => none

/-- What our append comes to. -/
def appV (S : AW) (elem size bytes : Nat) (s : Value) (n : Nat) (nw : List Value) : Option (Value × AW) :=
  match s with
  | .slice none 0 0 => if n = 0 then some (.slice none 0 0, S) else
    if (2 * n + 192) * bytes ≤ 281474976710656 && n ≤ 140737488355328 then some (.slice (some ⟨S.next, 0, none⟩) n n, S.new nw elem size) else none
  | .slice (some ⟨i, o, none⟩) l c => if n = 0 then some (.slice (some ⟨i, o, none⟩) l c, S) else match S.raw i with
    | none => none
    | some r => if r.ro || !(r.es = size) || !(r.elem = elem) then none else
      if l + n ≤ c then
        if (rowOk r.c (o + l * size) (n * size)).isSome then
          some (.slice (some ⟨i, o, none⟩) (l + n) c, S.put i r (r.c.take (o + l * size) ++ nw ++ r.c.drop (o + l * size + n * size))) else none
      else if (rowOk r.c o (l * size)).isSome && o + l * size ≤ r.c.length && (2 * (l + n) + 192) * bytes ≤ 281474976710656 && l + n ≤ 140737488355328 then
        some (.slice (some ⟨S.next, o, none⟩) (l + n) (l + n), S.grow r o (l * size) nw) else none
  | _ => none

/-- What is copied at most. -/
def cutS (k : Nat) (x : Value) : Option Value :=
  match x with
  | .slice a n c => some (.slice a (min n k) c)
  | .string s => if s.size ≤ k then some (.string s) else none
  | _ => none
/-- What our copy comes to: how many, memory behind it. -/
def cpyV (S : AW) (size : Nat) (d s : Value) : Option (Nat × AW) :=
  match d with
  | .slice base dl _ => match cutS dl s with
    | none => none
    | some x => match srcCells S size x with
      | none => none
      | some (n, nw) => if nw = [] then some (n, S) else match base with
        | some ⟨i, o, none⟩ => match S.raw i with
          | some r => if !r.ro && nw.all cellOk && (rowOk r.c o nw.length).isSome then some (n, S.put i r (r.c.take o ++ nw ++ r.c.drop (o + nw.length))) else none
          | none => none
        | _ => none
  | _ => none

def lookOut (ok : Bool) (v : Value) (b : Bool) : Value := if ok then .tuple #[v, .bool b] else v
def mlkV (S : AW) (ks : KS) (z : Value) (ok : Bool) (x k : Value) : Option Value :=
  match x with
  | .map none => match mfind ks k [] with
    | some _ => some (lookOut ok z false)
    | none => none
  | .map (some i) => match S.mapv i with
    | some es => match mfind ks k es with
      | some none => some (lookOut ok z false)
      | some (some j) => match es[j]? with
        | some e => some (lookOut ok e.2 true)
        | none => none
      | none => none
    | none => none
  | _ => none
def mupV (S : AW) (ks : KS) (x k v : Value) : Option AW :=
  match x with
  | .map (some i) => match S.mapv i with
    | some es => match mfind ks k es with
      | some none => some (S.putMap i (es ++ [(k, v)]) ((S.bir i).1 ++ [(S.bir i).2], (S.bir i).2 + 1))
      | some (some j) => some (S.putMap i (es.set j (k, v)) (S.bir i))
      | none => none
    | none => none
  | _ => none
def mdelV (S : AW) (ks : KS) (x k : Value) : Option AW :=
  match x with
  | .map none => match mfind ks k [] with
    | some _ => some S
    | none => none
  | .map (some i) => match S.mapv i with
    | some es => match mfind ks k es with
      | some none => some (S.putMap i es (S.bir i))
      | some (some j) => some (S.putMap i (es.eraseIdx j) ((S.bir i).1.eraseIdx j, (S.bir i).2))
      | none => none
    | none => none
  | _ => none
def lenMV (S : AW) (x : Value) : Option Value :=
  match x with
  | .map none => some (.int .i64 0)
  | .map (some i) => match S.mapv i with
    | some es => some (.int .i64 es.length)
    | none => none
  | _ => none

/-- Two structs of such cells: are they one? -/
def eqaV (ls : List KL) (x y : Value) : Option Bool :=
  match x, y with
  | .agg xs, .agg ys => if fitsLs ls xs.toList && fitsLs ls ys.toList then ceqs xs.toList ys.toList else none
  | _, _ => none
def EOp.run (e : EOp) (F : AF) (S : AW) : Option Res :=
  let ρ := F.ev
  let v (x : Option Value) : Option Res := match x with | some v => some (.val v S) | none => none
  match e with
  | .mov x => some (.val (ρ x) S)
  | .con x => some (.val x S)
  | .pick c a b => match ρ c with | .bool t => some (.val (if t then ρ a else ρ b) S) | _ => none
  | .bin op x y => v (binV op (ρ x) (ρ y))
  | .eqB neg x y => match ρ x, ρ y with | .bool a, .bool b => some (.val (.bool (if neg then !decide (a = b) else decide (a = b))) S) | _, _ => none
  | .eqN kind neg x y => match nilV kind (ρ x) (ρ y) with | some b => some (.val (.bool (if neg then !b else b)) S) | none => none
  | .eqA neg n x y => match eqaV n (ρ x) (ρ y) with | some b => some (.val (.bool (if neg then !b else b)) S) | none => none
  | .un op x => v (unV op (ρ x))
  | .cvI k x => match ρ x with | .int _ n => some (.val (.int k (k.wrap n)) S) | _ => none
  | .cvS x => match ρ x with | .int _ n => some (.val (.string (Utf8.encode n)) S) | .string s => some (.val (.string s) S) | _ => none
  | .fld sz off x => match ρ x with
    | .agg cs => match sz with
      | some n => some (.val (.agg (cs.extract off (off + n))) S)
      | none => v cs[off]?
    | _ => none
  | .ext i x => match ρ x with | .tuple cs => v cs[i]? | _ => none
  | .build zero parts => match fillL zero (parts.map fun (o, s, x) => (o, s, ρ x)) with | some l => some (.val (.agg l.toArray) S) | none => none
  | .fad off x => match ρ x with | .pointer (some ⟨i, o, none⟩) => some (.val (.pointer (some ⟨i, o + off, none⟩)) S) | _ => none
  | .iad size x ix => match ρ x, ρ ix with
    | .slice (some ⟨i, o, none⟩) n _, .int _ k => if 0 ≤ k ∧ k < n then some (.val (.pointer (some ⟨i, o + k.toNat * size, none⟩)) S) else none
    | _, _ => none
  | .iadA ln size x ix => match ρ x, ρ ix with
    | .pointer (some ⟨i, o, none⟩), .int _ k => if 0 ≤ k ∧ k < ln then some (.val (.pointer (some ⟨i, o + k.toNat * size, none⟩)) S) else none
    | _, _ => none
  | .idxS x ix => match ρ x, ρ ix with
    | .string s, .int _ k => if 0 ≤ k then match s.data.toList[k.toNat]? with | some b => some (.val (.int .u8 b.toNat) S) | none => none else none
    | _, _ => none
  | .idxA ln size ag x ix => match ρ x, ρ ix with
    | .agg cs, .int _ k => if 0 ≤ k ∧ k < ln then
        (if ag then some (.val (.agg (cs.extract (k.toNat * size) (k.toNat * size + size))) S) else v cs[k.toNat * size]?) else none
    | _, _ => none
  | .slS x lo hi => match ρ x, oint (lo.map ρ), oint (hi.map ρ) with
    | .string s, some l, some h => match cutB s.size s.size l h none with | some (l, h, _) => some (.val (.string (s.extract l h)) S) | none => none
    | _, _, _ => none
  | .slV size x lo hi mm => match ρ x, oint (lo.map ρ), oint (hi.map ρ), oint (mm.map ρ) with
    | .slice none 0 0, some l, some h, some m => match cutB 0 0 l h m with | some _ => some (.val (.slice none 0 0) S) | none => none
    | .slice (some ⟨i, o, none⟩) n c, some l, some h, some m => match S.raw i with
      | some r => if r.es = size then match cutB n c l h m with
          | some (l, h, m) => some (.val (.slice (some ⟨i, o + l * size, none⟩) (h - l) (m - l)) S)
          | none => none
        else none
      | none => none
    | _, _, _, _ => none
  | .nilc x => match ρ x with | .pointer (some a) => some (.val (.pointer (some a)) S) | .func f a b => some (.val (.func f a b) S) | _ => none
  | .mkf f fs cs => some (.val (.func (.func f) (fs.map ρ).toArray (cs.map ρ).toArray) S)
  | .len str x => match str, ρ x with
    | true, .string s => some (.val (.int .i64 s.size) S)
    | false, .slice _ n _ => some (.val (.int .i64 n) S)
    | _, _ => none
  | .mx xs => v (mmV true (xs.map ρ))
  | .mn xs => v (mmV false (xs.map ρ))
  | .ld sz x => match ρ x with
    | .pointer (some ⟨i, o, none⟩) => v (S.ldV sz i o)
    | _ => none
  | .cvBS x => match ρ x with
    | .slice none _ _ => some (.val (.string .empty) S)
    | .slice (some ⟨i, o, none⟩) n _ => match S.row i o n with
      | some l => match bytesV l with | some bs => some (.val (.string ⟨bs.toArray⟩) S) | none => none
      | none => none
    | _ => none
  | .st size x y => match ρ x with
    | .pointer (some ⟨i, o, none⟩) => match S.raw i with
      | some r => if !r.ro && (cellsOf (ρ y)).length = size && (cellsOf (ρ y)).all cellOk && (rowOk r.c o size).isSome then
          some (.val undef (S.put i r (r.c.take o ++ cellsOf (ρ y) ++ r.c.drop (o + size)))) else none
      | none => none
    | _ => none
  | .cpy size d s => match cpyV S size (ρ d) (ρ s) with
    | some (n, S') => some (.val (.int .i64 n) S')
    | none => none
  | .mkm r => match oint (r.map ρ) with
    | some _ => some (.val (.map (some S.next)) S.newMap)
    | none => none
  | .mlk ks z ok x k => v (mlkV S ks z ok (ρ x) (ρ k))
  | .mup ks x k y => match mupV S ks (ρ x) (ρ k) (ρ y) with
    | some S' => some (.val undef S')
    | none => none
  | .mdel ks x k => match mdelV S ks (ρ x) (ρ k) with
    | some S' => some (.val undef S')
    | none => none
  | .lenM x => v (lenMV S (ρ x))
  | .capn x => match ρ x with | .slice none 0 0 => some (.val (.int .i64 0) S) | _ => none
  | .mark x => match ρ x with
    | .slice (some ⟨i, o, none⟩) n c => match S.raw i with
      | some r => if r.ro = false ∧ 0 < c then some (.val (.slice (some ⟨i, o, none⟩) n c) S) else none
      | none => none
    | _ => none
  | .box elem es x => if isBad (ρ x) then none else some (.val (.pointer (some ⟨S.next, 0, none⟩)) (S.new (cellsOf (ρ x)) elem es))
  | .new elem es cells => some (.val (.pointer (some ⟨S.next, 0, none⟩)) (S.new cells elem es))
  | .lit elem size zero n parts =>
    match fillL ((List.replicate n zero).flatten) (parts.map fun (o, s, x) => (o, s, ρ x)) with
    | some l => some (.val (.slice (some ⟨S.next, 0, none⟩) n n) (S.new l elem size))
    | none => none
  | .mks elem size bytes zero l c => match ρ l, ρ c with
    | .int _ l, .int _ c => if 0 ≤ l ∧ l ≤ c ∧ c ≤ 140737488355328 ∧ c * bytes ≤ 281474976710656 then
        some (.val (.slice (some ⟨S.next, 0, none⟩) l.toNat c.toNat) (S.new ((List.replicate c.toNat zero).flatten) elem size)) else none
    | _, _ => none
  | .cvSB elem x => match ρ x with
    | .string s => if s.size < 4611686018427387904 then some (.val (.slice (some ⟨S.next, 0, none⟩) s.size s.size) (S.new (strCells s) elem 1)) else none
    | _ => none
  | .app elem size bytes s x => match srcCells S size (ρ x) with
    | none => none
    | some (n, nw) => if !nw.all cellOk then none else match appV S elem size bytes (ρ s) n nw with
      | some (v, S') => some (.val v S')
      | none => none
  | .appz elem size bytes zero s x => match ρ x with
    | .int .i64 k => if 0 ≤ k ∧ k ≤ 140737488355328 ∧ k * bytes ≤ 281474976710656 then
        (if !((List.replicate k.toNat zero).flatten).all cellOk then none else match appV S elem size bytes (ρ s) k.toNat ((List.replicate k.toNat zero).flatten) with
        | some (v, S') => some (.val v S')
        | none => none) else none
    | _ => none
  | .call f args => some (.call f (args.map ρ))
  | .callV f args => match ρ f with
    | .func (.func g) first captured => some (.call g (first.toList ++ args.map ρ ++ captured.toList))
    | _ => none
  | .bx f args => some (.call f (args.map ρ))
  | .no => none
end Go.Proofs.Ythclmjelknibhaa.Ev
