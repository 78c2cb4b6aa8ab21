/- How the program's operations are turned into ours, and that each of them does the same. -/
import Derived.Test.YthclmjelknibhaaEvM
namespace Go.Proofs.Ythclmjelknibhaa.Ev
open Go Go.RowKit
set_option linter.unusedVariables false
set_option linter.unusedSimpArgs false
set_option linter.unusedSectionVars false

/-- A type's row: its size and its nought. -/
def rowT (P : Program) (t : TypeId) : Option (Nat × Nat × List Value) :=
  match P.info? t with
  | some i => match i.zero with
    | some z => if z.cells.toList.all scalar && z.cells.size = i.size then some (i.size, i.bytes, z.cells.toList) else none
    | none => none
  | none => none
theorem rowT_some {P : Program} {t : TypeId} {n b : Nat} {z : List Value} (h : rowT P t = some (n, b, z)) :
    ∃ i v, P.info? t = some i ∧ i.zero = some v ∧ v.cells.toList.all scalar = true ∧ v.cells.size = i.size ∧ n = i.size ∧ b = i.bytes ∧ z = v.cells.toList := by
  unfold rowT at h
  split at h
  · rename_i i hi
    split at h
    · rename_i v hv
      split at h
      · rename_i hc
        simp only [Bool.and_eq_true, decide_eq_true_eq] at hc
        simp only [Option.some.injEq, Prod.mk.injEq] at h
        exact ⟨i, v, hi, hv, hc.1, hc.2, h.1.symm, h.2.1.symm, h.2.2.symm⟩
      · cases h
    · cases h
  · cases h
def sizeT (P : Program) (t : TypeId) : Option Nat := (P.info? t).map (·.size)
theorem sizeT_some {P : Program} {t : TypeId} {n : Nat} (h : sizeT P t = some n) : ∃ i, P.info? t = some i ∧ n = i.size := by
  obtain ⟨i, h1, h2⟩ := Option.map_eq_some_iff.mp h
  exact ⟨i, h1, h2.symm⟩
def fieldsT (P : Program) (t : TypeId) (f : Nat) : Option Field :=
  match P.underlying t with
  | some (.struct fs) => fs[f]?
  | _ => none
theorem fieldsT_some {P : Program} {t : TypeId} {f : Nat} {fd : Field} (h : fieldsT P t f = some fd) : ∃ fs, P.underlying t = some (.struct fs) ∧ fs[f]? = some fd := by
  unfold fieldsT at h
  split at h
  · rename_i fs hfs; exact ⟨fs, hfs, h⟩
  · cases h
def elemT (P : Program) (t : TypeId) : Option TypeId :=
  match P.underlying t with
  | some (.slice e) => some e
  | _ => none
theorem elemT_some {P : Program} {t e : TypeId} (h : elemT P t = some e) : P.underlying t = some (.slice e) := by
  unfold elemT at h
  split at h
  · rename_i e' he; simp only [Option.some.injEq] at h; subst h; exact he
  · cases h
def isU8 (P : Program) (t : TypeId) : Bool :=
  match P.underlying t with
  | some (.int .u8) => true
  | _ => false
theorem isU8_true {P : Program} {t : TypeId} (h : isU8 P t = true) : P.underlying t = some (.int .u8) := by
  unfold isU8 at h
  split at h
  · assumption
  · cases h
def isStr (P : Program) (t : TypeId) : Bool :=
  match P.underlying t with
  | some .string => true
  | _ => false
theorem isStr_true {P : Program} {t : TypeId} (h : isStr P t = true) : P.underlying t = some .string := by
  unfold isStr at h
  split at h
  · assumption
  · cases h

/-- The fields of a struct that is compared cell by cell. -/
def leafFs (P : Program) : Nat → List Field → Option (List KL)
  | _, [] => some []
  | i, f :: fs => match leafOf P f.type, leafFs P (i + 1) fs with
    | some l, some ls => if decide (f.offset = i) && decide (f.name ≠ "_") && decide (szOf P f.type = some none) then some (l :: ls) else none
    | _, _ => none
/-- The cells of such a struct. -/
def eqS (P : Program) (t : TypeId) : Option (List KL) :=
  match P.underlying t with
  | some (.struct fs) => if !P.stoodInHeld t && !P.eqGuardType P.depth t then leafFs P 0 fs.toList else none
  | _ => none
def eqC (P : Program) (neg : Bool) (t : TypeId) (x y : Operand) : Option EOp :=
  match P.underlying t with
  | some (.int _) | some .string => some (.bin (if neg then .neq else .eql) x y)
  | some .bool => some (.eqB neg x y)
  | some d => match nilK d with
    | some k => some (.eqN k neg x y)
    | none => match eqS P t with
      | some n => some (.eqA neg n x y)
      | none => none
  | none => none
def cvC (P : Program) (src dst : TypeId) (x : Operand) : Option EOp :=
  match P.underlying src, P.underlying dst with
  | some s, some (.int k) => some (.cvI k x)
  | some (.slice e), some .string => if isU8 P e then some (.cvBS x) else none
  | some s, some .string => some (.cvS x)
  | some .string, some (.slice e) => if isU8 P e then some (.cvSB e x) else none
  | some (.slice _), some (.slice e) => if src = dst ∧ isU8 P e = true then some (.mark x) else none
  | _, _ => none
def placeOf (P : Program) (fs : Array Field) (i : Nat) : Option (Nat × Nat) :=
  (fs[i]?).bind fun f => (sizeT P f.type).map fun s => (f.offset, s)
def buildC (P : Program) (t : TypeId) (parts : Array (Nat × Operand)) : Option EOp :=
  match rowT P t, P.underlying t with
  | some (_, _, z), some (.struct fs) =>
    (parts.toList.mapM fun (p : Nat × Operand) => (placeOf P fs p.1).map fun q => (q.1, q.2, p.2)).bind fun qs =>
      if fs.all fun f => (sizeT P f.type).isSome then some (.build z qs) else none
  | some (_, _, z), some (.array _ e) => match sizeT P e with
    | some s => (parts.toList.mapM fun (p : Nat × Operand) => (some (p.1 * s, s) : Option (Nat × Nat)).map fun q => (q.1, q.2, p.2)).map fun qs => .build z qs
    | none => none
  | _, _ => none
def litC (P : Program) (t : TypeId) (n : Nat) (parts : Array (Nat × Operand)) : Option EOp :=
  match elemT P t with
  | some e => match rowT P e with
    | some (s, _, z) => if n * s ≤ 2 ^ 24 then (parts.toList.mapM fun (p : Nat × Operand) => (some (p.1 * s, s) : Option (Nat × Nat)).map fun q => (q.1, q.2, p.2)).map fun qs => .lit e s z n qs else none
    | none => none
  | none => none
def sliceC (P : Program) (t : TypeId) (x : Operand) (lo hi mx : Option Operand) : Option EOp :=
  match P.underlying t with
  | some .string => if mx.isNone then some (.slS x lo hi) else none
  | some (.slice e) => (sizeT P e).map fun s => .slV s x lo hi mx
  | _ => none
def appC (P : Program) (argTypes : Array TypeId) (args : Array Operand) : Option EOp :=
  match argTypes[0]?, argTypes[1]?, args.toList with
  | some sT, some xT, [s, x] => match elemT P sT, P.underlying xT with
    | some e, some d => match rowT P e with
      | some (sz, b, z) => if isIntT d then some (.appz e sz b z s x) else some (.app e sz b s x)
      | none => none
    | _, _ => none
  | _, _, _ => none
def lenC (P : Program) (argTypes : Array TypeId) (args : Array Operand) : Option EOp :=
  match argTypes[0]?, args.toList with
  | some t, [x] => match P.underlying t with
    | some .string => some (.len true x)
    | some (.slice _) => some (.len false x)
    | some (.array n _) => some (.con (.int .i64 n))
    | some (.map _ _) => some (.lenM x)
    | _ => none
  | _, _ => none
/-- A map type: its key's type and shape, its element's type. -/
def mapT (P : Program) (t : TypeId) : Option (TypeId × TypeId × KS) :=
  match P.underlying t with
  | some (.map k e) => (ksOf P k).map fun ks => (k, e, ks)
  | _ => none
theorem mapT_some {P : Program} {t k e : TypeId} {ks : KS} (h : mapT P t = some (k, e, ks)) : P.underlying t = some (.map k e) ∧ ksOf P k = some ks := by
  unfold mapT at h
  split at h
  · rename_i k' e' hu
    obtain ⟨ks', h1, h2⟩ := Option.map_eq_some_iff.mp h
    simp only [Prod.mk.injEq] at h2
    obtain ⟨rfl, rfl, rfl⟩ := h2
    exact ⟨hu, h1⟩
  · cases h
def zeroT (P : Program) (t : TypeId) : Option Value :=
  match P.info? t with
  | some i => match i.zero with
    | some z => if flat z then some z else none
    | none => none
  | none => none
theorem zeroT_some {P : Program} {t : TypeId} {z : Value} (h : zeroT P t = some z) : ∃ i, P.info? t = some i ∧ i.zero = some z ∧ flat z = true := by
  unfold zeroT at h
  split at h
  · rename_i i hi
    split at h
    · rename_i z' hz
      split at h
      · rename_i hf
        simp only [Option.some.injEq] at h
        subst h
        exact ⟨i, hi, hz, hf⟩
      · cases h
    · cases h
  · cases h
def mlkC (P : Program) (t : TypeId) (x i : Operand) (ok : Bool) : Option EOp :=
  match mapT P t with
  | some (_, e, ks) => (zeroT P e).map fun z => .mlk ks z ok x i
  | none => none
def delC (P : Program) (argTypes : Array TypeId) (args : Array Operand) : Option EOp :=
  match argTypes[0]?, args.toList with
  | some t, [x, k] => (mapT P t).map fun m => .mdel m.2.2 x k
  | _, _ => none
def cpyC (P : Program) (argTypes : Array TypeId) (args : Array Operand) : Option EOp :=
  match argTypes[0]?, args.toList with
  | some dT, [d, s] => match elemT P dT with
    | some e => (sizeT P e).map fun sz => .cpy sz d s
    | none => none
  | _, _ => none
/-- A nil slice's room. -/
def capC (P : Program) (argTypes : Array TypeId) (args : Array Operand) : Option EOp :=
  match argTypes[0]?, args.toList with
  | some t, [x] => match P.underlying t with
    | some (.slice _) => some (.capn x)
    | _ => none
  | _, _ => none
def callC (P : Program) (c : Call) : Option EOp :=
  match c.callee with
  | .value (.func f) => some (.call f c.args.toList)
  | .value x => some (.callV x c.args.toList)
  | .builtin .append => appC P c.argTypes c.args
  | .builtin .len => lenC P c.argTypes c.args
  | .builtin .copy => cpyC P c.argTypes c.args
  | .builtin .delete => delC P c.argTypes c.args
  | .builtin .max => some (.mx c.args.toList)
  | .builtin .min => some (.mn c.args.toList)
  | .builtin .cap => capC P c.argTypes c.args
  | _ => none
def compileOp0 (P : Program) (o : Op) : Option EOp :=
  match o with
  | .move x | .assign x => some (.mov x)
  | .pick c a b => some (.pick c a b)
  | .binOp .eql t x y _ => eqC P false t x y
  | .binOp .neq t x y _ => eqC P true t x y
  | .binOp op t x y _ => some (.bin op x y)
  | .unOp op _ x => some (.un op x)
  | .convert src dst x => cvC P src dst x
  | .field t x f => (fieldsT P t f).bind fun fd => (szOf P fd.type).map fun sz => .fld sz fd.offset x
  | .extract x i => some (.ext i x)
  | .build t parts => buildC P t parts
  | .fieldAddr t x f => (fieldsT P t f).bind fun fd => (sizeT P fd.type).bind fun s => if s = 0 then none else some (.fad fd.offset x)
  | .indexAddr t x i => match P.underlying t with
    | some (.slice e) => (sizeT P e).map fun s => .iad s x i
    | some (.array n e) => (sizeT P e).map fun s => .iadA n s x i
    | _ => none
  | .index t x i => match P.underlying t with
    | some .string => some (.idxS x i)
    | some (.array n e) => match szOf P e, sizeT P e with
      | some sz, some s => some (.idxA n s sz.isSome x i)
      | _, _ => none
    | _ => none
  | .slice t x lo hi mx => sliceC P t x lo hi mx
  | .nilCheck x => some (.nilc x)
  | .makeFunc (.func f) a b => some (.mkf f a.toList b.toList)
  | .load t x => (szOf P t).map fun sz => .ld sz x
  | .store t x y => (sizeT P t).map fun s => .st s x y
  | .alloc e => (rowT P e).map fun r => .new e r.1 r.2.2
  | .box e x => (sizeT P e).map fun s => .box e s x
  | .buildSlice t n parts => litC P t n parts
  | .makeSlice t l c => (elemT P t).bind fun e => (rowT P e).map fun r => .mks e r.1 r.2.1 r.2.2 l c
  | .makeMap t r => (mapT P t).map fun _ => .mkm r
  | .lookup t x i ok => mlkC P t x i ok
  | .mapUpdate t m k x | .insert t m k x => (mapT P t).map fun q => .mup q.2.2 m k x
  | .call c => callC P c
  | _ => none

/-- What we do not do is stuck. -/
def compileOp (P : Program) (o : Op) : Option EOp :=
  match compileOp0 P o with
  | some e => some e
  | none => some .no
theorem compileOp_inv {P : Program} {o : Op} {e : EOp} (h : compileOp P o = some e) : compileOp0 P o = some e ∨ e = .no := by
  unfold compileOp at h
  split at h
  · rename_i e' he; simp only [Option.some.injEq] at h; subst h; exact .inl he
  · simp only [Option.some.injEq] at h; exact .inr h.symm

/-- 0: nothing of memory is asked; 1: it is read; 2: a row is made; 3: all else. -/
def EOp.kind : EOp → Nat
  | .slV .. | .ld .. | .cvBS _ | .mlk .. | .lenM _ => 1
  | .box .. | .new .. | .lit .. | .mks .. | .cvSB .. => 2
  | .st .. | .cpy .. | .mkm _ | .mup .. | .mdel .. | .app .. | .appz .. | .call .. | .callV .. | .bx .. | .no | .mark _ => 3
  | _ => 0
/-- What our step comes to, the program's comes to. (q: it is one that leaves memory as it is) -/
def StepOk (P : Program) (W0 : Fz) (ρ : Ren) (o : Oper) (a : Act) (w : World) (S : AW) (q : Bool) : Res → Prop
  | .val v S' => ∃ ρ' v' w', Grow S.next S'.next ρ ρ' ∧ RelW W0 ρ' S' w' ∧ VRel ρ' v v' ∧ ((execOp a.eval o).run P w = .ok (.value v') w' ∨ ((execOp a.eval o).run P w = .ok .skip w' ∧ v' = undef)) ∧ (q = true → ρ' = ρ ∧ S' = S)
  | .call f args => ∃ args', ARel ρ args.toArray args' ∧ (execOp a.eval o).run P w = (callFunc f args').run P w
/-- Nothing of memory is asked. -/
theorem StepOk.quiet {P : Program} {W0 : Fz} {ρ : Ren} {o : Oper} {a : Act} {w : World} {S : AW} {q : Bool} (h : RelW W0 ρ S w) {v v' : Value} (hv : VRel ρ v v') (he : (execOp a.eval o).run P w = .ok (.value v') w) : StepOk P W0 ρ o a w S q (.val v S) :=
  ⟨ρ, v', w, Grow.refl _ ρ, h, hv, .inl he, fun _ => ⟨rfl, rfl⟩⟩
end Go.Proofs.Ythclmjelknibhaa.Ev
