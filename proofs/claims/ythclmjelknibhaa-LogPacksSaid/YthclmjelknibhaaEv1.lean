/- Values and worlds in which addresses are numbers of our own, and how they stand to the model's: a plain description of a run without order or capacity. -/
import Derived.Calls
import Derived.Below
import Derived.Orders
import Derived.LoopN
namespace Go.Proofs.Ythclmjelknibhaa.Ev
open Go Go.RowKit
set_option linter.unusedVariables false
set_option linter.unusedSimpArgs false
set_option linter.unusedSectionVars false

/-- Where a block of ours lies: its block, how far it is shifted, how many cells the block has, how many an element has. -/
structure Place where
  blk : Nat
  d : Int
  size : Nat
  es : Nat

abbrev Ren := Nat → Option Place

def Ren.le (ρ ρ' : Ren) : Prop := ∀ i p, ρ i = some p → ρ' i = some p
theorem Ren.le_refl (ρ : Ren) : ρ.le ρ := fun _ _ h => h
theorem Ren.le_trans {a b c : Ren} (h : a.le b) (k : b.le c) : a.le c := fun i p e => k i p (h i p e)

/-- The unknown value. -/
def bad : Value := .chan (some 0)

/-- A value of ours and the model's. -/
inductive VRel (ρ : Ren) : Value → Value → Prop
  | bad (v') : VRel ρ bad v'
  | bool (b) : VRel ρ (.bool b) (.bool b)
  | int (k n) : VRel ρ (.int k n) (.int k n)
  | float (k n) : VRel ρ (.float k n) (.float k n)
  | string (s) : VRel ρ (.string s) (.string s)
  | nilp : VRel ρ (.pointer none) (.pointer none)
  | ptr {i o : Nat} {p : Place} {o' : Nat} (h : ρ i = some p) (e : (o' : Int) = o + p.d) : VRel ρ (.pointer (some ⟨i, o, none⟩)) (.pointer (some ⟨p.blk, o', none⟩))
  | nils : VRel ρ (.slice none 0 0) (.slice none 0 0)
  | slice {i o n c c' : Nat} {p : Place} {a' : Addr} (h : ρ i = some p) (hn : n ≤ c) (hc : c ≤ c')
      (hp : 0 < c' → ∃ o' : Nat, a' = ⟨p.blk, o', none⟩ ∧ (o' : Int) = o + p.d ∧ o' + c' * p.es ≤ p.size) :
      VRel ρ (.slice (some ⟨i, o, none⟩) n c) (.slice (some a') n c')
  | nilm : VRel ρ (.map none) (.map none)
  | map {i : Nat} {p : Place} (h : ρ i = some p) : VRel ρ (.map (some i)) (.map (some p.blk))
  | nilf : VRel ρ .nilFunc .nilFunc
  | func (f : FuncId) (fs cs fs' cs' : Array Value) (h1 : fs.size = fs'.size) (h2 : ∀ i (h : i < fs.size) (h' : i < fs'.size), VRel ρ fs[i] fs'[i])
      (h3 : cs.size = cs'.size) (h4 : ∀ i (h : i < cs.size) (h' : i < cs'.size), VRel ρ cs[i] cs'[i]) : VRel ρ (.func (.func f) fs cs) (.func (.func f) fs' cs')
  | agg (cs cs' : Array Value) (h1 : cs.size = cs'.size) (h2 : ∀ i (h : i < cs.size) (h' : i < cs'.size), VRel ρ cs[i] cs'[i]) : VRel ρ (.agg cs) (.agg cs')
  | tuple (cs cs' : Array Value) (h1 : cs.size = cs'.size) (h2 : ∀ i (h : i < cs.size) (h' : i < cs'.size), VRel ρ cs[i] cs'[i]) : VRel ρ (.tuple cs) (.tuple cs')

theorem VRel.mono {ρ ρ' : Ren} (hle : ρ.le ρ') {v v' : Value} (h : VRel ρ v v') : VRel ρ' v v' := by
  induction h with
  | bad v' => exact .bad v'
  | bool b => exact .bool b
  | int k n => exact .int k n
  | float k n => exact .float k n
  | string s => exact .string s
  | nilp => exact .nilp
  | ptr h e => exact .ptr (hle _ _ h) e
  | nils => exact .nils
  | slice h hn hc hp => exact .slice (hle _ _ h) hn hc hp
  | nilm => exact .nilm
  | map h => exact .map (hle _ _ h)
  | nilf => exact .nilf
  | func f fs cs fs' cs' h1 _ h3 _ i1 i2 => exact .func f fs cs fs' cs' h1 i1 h3 i2
  | agg cs cs' h1 _ i1 => exact .agg cs cs' h1 i1
  | tuple cs cs' h1 _ i1 => exact .tuple cs cs' h1 i1

theorem VRel.undef {ρ : Ren} : VRel ρ undef undef := .tuple #[] #[] rfl (fun i h => by simp at h)

/-- Rows of values. -/
def ARel (ρ : Ren) (a a' : Array Value) : Prop := a.size = a'.size ∧ ∀ i (h : i < a.size) (h' : i < a'.size), VRel ρ a[i] a'[i]
theorem ARel.mono {ρ ρ' : Ren} (hle : ρ.le ρ') {a a' : Array Value} (h : ARel ρ a a') : ARel ρ' a a' := ⟨h.1, fun i p q => (h.2 i p q).mono hle⟩
theorem VRel.agg' {ρ : Ren} {a a' : Array Value} (h : ARel ρ a a') : VRel ρ (.agg a) (.agg a') := .agg _ _ h.1 h.2
theorem VRel.tuple' {ρ : Ren} {a a' : Array Value} (h : ARel ρ a a') : VRel ρ (.tuple a) (.tuple a') := .tuple _ _ h.1 h.2

/-- Lists of values. -/
inductive LRel (ρ : Ren) : List Value → List Value → Prop
  | nil : LRel ρ [] []
  | cons {v v' l l'} (h : VRel ρ v v') (t : LRel ρ l l') : LRel ρ (v :: l) (v' :: l')

/-- A value without addresses. -/
def scalar : Value → Bool
  | .bool _ | .int _ _ | .float _ _ | .string _ | .pointer none | .map none | .nilFunc => true
  | .slice none 0 0 => true
  | _ => false
def flat : Value → Bool
  | .agg cs => cs.toList.all scalar
  | v => scalar v

theorem VRel.of_scalar {ρ : Ren} {v v' : Value} (h : VRel ρ v v') (hs : scalar v = true) : v' = v := by
  cases h <;> first | rfl | (simp [scalar, Ev.bad] at hs)
theorem VRel.scalar_refl {ρ : Ren} {v : Value} (hs : scalar v = true) : VRel ρ v v := by
  cases v with
  | bool b => exact .bool b
  | int k n => exact .int k n
  | float k n => exact .float k n
  | string s => exact .string s
  | pointer a => cases a with
    | none => exact .nilp
    | some a => simp [scalar] at hs
  | map a => cases a with
    | none => exact .nilm
    | some a => simp [scalar] at hs
  | slice a n c => cases a with
    | none => cases n with
      | zero => cases c with
        | zero => exact .nils
        | succ c => simp [scalar] at hs
      | succ n => simp [scalar] at hs
    | some a => simp [scalar] at hs
  | nilFunc => exact .nilf
  | _ => simp [scalar] at hs
theorem VRel.of_flat {ρ : Ren} {v v' : Value} (h : VRel ρ v v') (hs : flat v = true) : v' = v := by
  cases v with
  | agg cs =>
    cases h with
    | agg cs cs' h1 h2 =>
      simp only [flat, List.all_eq_true] at hs
      refine congrArg Value.agg (Array.ext h1.symm fun i h h' => ?_)
      exact (h2 i h' h).of_scalar (hs _ (by simp))
  | _ => exact VRel.of_scalar h hs
theorem VRel.flat_refl {ρ : Ren} {v : Value} (hs : flat v = true) : VRel ρ v v := by
  cases v with
  | agg cs =>
    simp only [flat, List.all_eq_true] at hs
    exact .agg cs cs rfl fun i h _ => VRel.scalar_refl (hs _ (by simp))
  | _ => exact VRel.scalar_refl (by simpa [flat] using hs)

/-- A frame's slots. -/
structure AF where
  n : Nat
  l : List (Nat × Value)
def getL : List (Nat × Value) → Nat → Value
  | [], _ => undef
  | (t, v) :: r, x => if x = t then v else getL r x
def putL : List (Nat × Value) → Nat → Value → List (Nat × Value)
  | [], t, v => [(t, v)]
  | (u, w) :: r, t, v => if t = u then (u, v) :: r else (u, w) :: putL r t v
theorem getL_putL : ∀ (l : List (Nat × Value)) (t : Nat) (v : Value) (x : Nat), getL (putL l t v) x = if x = t then v else getL l x
  | [], t, v, x => by simp [putL, getL]
  | (u, w) :: r, t, v, x => by
    unfold putL
    by_cases h : t = u
    · subst h
      simp only [if_true, getL]
      by_cases hx : x = t <;> simp [hx]
    · simp only [if_neg h, getL]
      by_cases hx : x = u
      · subst hx; simp [Ne.symm h]
      · simp [hx, getL_putL r t v x]
def AF.get (F : AF) (t : Nat) : Value := getL F.l t
def AF.put (F : AF) (t : Nat) (v : Value) : AF := ⟨F.n, putL F.l t v⟩
@[simp] theorem AF.get_put (F : AF) (t : Nat) (v : Value) (x : Nat) : (F.put t v).get x = if x = t then v else F.get x := getL_putL _ _ _ _
@[simp] theorem AF.n_put (F : AF) (t : Nat) (v : Value) : (F.put t v).n = F.n := rfl

/-- What an operand is worth. -/
def AF.ev (F : AF) : Operand → Value
  | .tmp t => F.get t
  | .const v => if flat v then v else bad
  | .global _ => bad
  | .func f => .func (.func f) #[] #[]

structure FRel (ρ : Ren) (F : AF) (a : Act) : Prop where
  size : a.tmps.size = F.n
  slot : ∀ t, VRel ρ (F.get t) (a.tmps.getD t undef)
  defers : a.defers = []
theorem FRel.mono {ρ ρ' : Ren} (hle : ρ.le ρ') {F : AF} {a : Act} (h : FRel ρ F a) : FRel ρ' F a := ⟨h.size, fun t => (h.slot t).mono hle, h.defers⟩
theorem FRel.eval {ρ : Ren} {F : AF} {a : Act} (h : FRel ρ F a) (x : Operand) : VRel ρ (F.ev x) (a.eval x) := by
  cases x with
  | tmp t => exact h.slot t
  | const v =>
    simp only [AF.ev, Act.eval]
    split
    · rename_i hf; exact .flat_refl hf
    · exact .bad _
  | global g => exact .bad _
  | func f => exact .func f #[] #[] #[] #[] rfl (fun i h => by simp at h) rfl (fun i h => by simp at h)
/-- A result is put into its slot. -/
def AF.dst (F : AF) (d : Option Tmp) (v : Value) : Option AF :=
  match d with
  | none => some F
  | some t => if t < F.n then some (F.put t v) else none
theorem FRel.dst {ρ : Ren} {F F' : AF} {a : Act} (h : FRel ρ F a) {d : Option Tmp} {v v' : Value} (hv : VRel ρ v v') (e : F.dst d v = some F') : FRel ρ F' (a.put d v') := by
  cases d with
  | none => simp only [AF.dst, Option.some.injEq] at e; subst e; exact h
  | some t =>
    simp only [AF.dst] at e
    split at e
    · rename_i hlt
      simp only [Option.some.injEq] at e
      subst e
      refine ⟨by simp [Act.put, h.size], fun x => ?_, h.defers⟩
      simp only [Act.put, AF.get_put]
      by_cases hx : x = t
      · subst hx
        rw [if_pos rfl]
        have : x < a.tmps.size := by rw [h.size]; exact hlt
        simpa [Array.getD, this] using hv
      · rw [if_neg hx]
        have := h.slot x
        have e2 : (a.tmps.setIfInBounds t v').getD x undef = a.tmps.getD x undef := by
          simp only [Array.getD_eq_getD_getElem?, Array.getElem?_setIfInBounds]
          rw [if_neg (fun h => hx h.symm)]
        rw [e2]; exact this
    · simp at e

/-- A part of a run that asks nothing of memory. -/
def pureRun {α : Type} (P : Program) : Sem α → Option α
  | .pure a => some a
  | .program k => pureRun P (k P)
  | _ => none
theorem pureRun_run {α : Type} {P : Program} {s : Sem α} {a : α} (h : pureRun P s = some a) (w : World) : s.run P w = .ok a w := by
  induction s with
  | pure b => simp only [pureRun, Option.some.injEq] at h; subst h; rfl
  | program k ih => simp only [pureRun] at h; exact ih P h
  | _ => simp [pureRun] at h
end Go.Proofs.Ythclmjelknibhaa.Ev
