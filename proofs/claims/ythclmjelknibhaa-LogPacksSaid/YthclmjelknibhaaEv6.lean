/- What each operation that asks nothing of memory does, is what the program's own does. -/
import Derived.Test.YthclmjelknibhaaEv5
import Derived.Laws.StructEq
import Derived.Laws.Cells
namespace Go.Proofs.Ythclmjelknibhaa.Ev
open Go Go.RowKit
set_option linter.unusedVariables false
set_option linter.unusedSimpArgs false
set_option linter.unusedSectionVars false

section runs
variable {P : Program} (w : World)
theorem run_info {t : TypeId} {i : TypeInfo} (h : P.info? t = some i) : (typeInfo t).run P w = .ok i w := by
  simp [typeInfo, h]
theorem run_size {t : TypeId} {i : TypeInfo} (h : P.info? t = some i) : (sizeOf t).run P w = .ok i.size w := by
  simp [sizeOf, run_info w h]
def aggT : TypeDesc → Bool
  | .struct _ | .array _ _ => true
  | _ => false
theorem run_agg {t : TypeId} {d : TypeDesc} (h : P.underlying t = some d) : (isAgg t).run P w = .ok (aggT d) w := by
  unfold isAgg
  simp only [Sem.run_bind, run_underlying h, Result.andThen_ok]
  cases d <;> rfl
end runs

theorem beqB (a b : ByteArray) : (a == b) = decide (a = b) := by
  rw [beq_toListBytes, ByteArray.toList_eq, ByteArray.toList_eq, Bool.eq_iff_iff]
  obtain ⟨⟨x⟩⟩ := a
  obtain ⟨⟨y⟩⟩ := b
  simp
theorem beqL (a b : ByteArray) : (a.data.toList == b.data.toList) = decide (a = b) := by rw [← beqB, beq_toListBytes, ByteArray.toList_eq, ByteArray.toList_eq]

theorem binV_ok (P : Program) (op : BinOp) (t : TypeId) (X Y : Operand) {x y v : Value} (h : binV op x y = some v) (w : World) :
    (do eqGuard op t X Y x y; binOp op t x y : Sem Value).run P w = .ok v w := by
  have hg : (eqGuard op t X Y x y).run P w = .ok () w := by
    cases x <;> cases y <;> (try (simp [binV] at h; done)) <;> cases op <;> simp [eqGuard]
  simp only [Sem.run_bind, hg, Result.andThen_ok]
  cases x with
  | int k a =>
    cases y with
    | int k' b =>
      cases op <;> simp only [binV] at h <;> simp only [binOp] <;>
        first
        | (simp only [shop] at h
           split at h
           · cases h
           · rename_i hb
             simp only [Option.some.injEq] at h
             subst h
             simp only [Op.shift, if_neg hb]
             rfl)
        | (split at h
           · rename_i hk
             subst hk
             simp only [iop] at h
             first
             | (simp only [Option.some.injEq] at h; subst h; simp [Op.intArith, Op.intBits, Op.intCmp]; try (rw [Bool.eq_iff_iff]; simp))
             | (split at h
                · cases h
                · rename_i hb
                  simp only [Option.some.injEq] at h
                  subst h
                  simp [Op.intDiv, hb])
             | cases h
           · cases h)
    | _ => simp [binV] at h
  | string a =>
    cases y with
    | string b =>
      cases op <;> simp only [binV, sop] at h <;> simp only [binOp] <;>
        first
        | (cases h; done)
        | (split at h
           · rename_i hs
             simp only [Option.some.injEq] at h
             subst h
             have : ¬ (((a.size + b.size : Nat) : Int) > IntKind.i64.max) := by
               have e : IntKind.i64.max = 9223372036854775807 := by decide
               omega
             simp only [Op.stringOp, if_neg this]
             rfl
           · cases h)
        | (simp only [Option.some.injEq] at h
           subst h
           simp only [Op.stringOp, ByteArray.toList_eq, Sem.run_pure, Result.ok.injEq, Value.bool.injEq, and_true, beqL])
    | _ => simp [binV] at h
  | _ => simp [binV] at h

theorem eqB_ok (P : Program) {t : TypeId} (ht : P.underlying t = some .bool) (op : BinOp) (neg : Bool) (hop : op = if neg then .neq else .eql) (X Y : Operand) (a b : Bool) (w : World) :
    (do eqGuard op t X Y (.bool a) (.bool b); binOp op t (.bool a) (.bool b) : Sem Value).run P w = .ok (.bool (if neg then !decide (a = b) else decide (a = b))) w := by
  subst hop
  cases neg
  · simp only [Bool.false_eq_true, if_false, Sem.run_bind, show (eqGuard .eql t X Y (.bool a) (.bool b)).run P w = .ok () w from by simp [eqGuard], Result.andThen_ok, run_eql_bool w t a b ht]
    cases a <;> cases b <;> rfl
  · simp only [if_true, Sem.run_bind, show (eqGuard .neq t X Y (.bool a) (.bool b)).run P w = .ok () w from by simp [eqGuard], Result.andThen_ok, run_neq_bool w t a b ht]
    cases a <;> cases b <;> rfl

/-- The kind of a type whose values are compared with nil alone. -/
def nilK : TypeDesc → Option Nat
  | .pointer _ => some 0
  | .slice _ => some 1
  | .map _ _ => some 2
  | .func _ _ _ => some 3
  | _ => none
theorem run_eq_gen (P : Program) {t : TypeId} (op : BinOp) (neg : Bool) (hop : op = if neg then .neq else .eql) (X Y : Operand) (x y : Value) (r : Bool) (w : World)
    (hb1 : binOp .eql t x y = do pure (.bool (← Op.equal t x y))) (hb2 : binOp .neq t x y = do pure (.bool (!(← Op.equal t x y))))
    (hg : (eqGuard op t X Y x y).run P w = .ok () w) (he : (Op.equal t x y).run P w = .ok r w) :
    (do eqGuard op t X Y x y; binOp op t x y : Sem Value).run P w = .ok (.bool (if neg then !r else r)) w := by
  subst hop
  cases neg
  · simp only [Bool.false_eq_true, if_false] at hg ⊢
    simp only [Sem.run_bind, hg, Result.andThen_ok, hb1, he, Sem.run_pure]
  · simp only [if_true] at hg ⊢
    simp only [Sem.run_bind, hg, Result.andThen_ok, hb2, he, Sem.run_pure]
theorem eqN_ok (P : Program) {t : TypeId} {d : TypeDesc} (ht : P.underlying t = some d) {kind : Nat} (hk : nilK d = some kind) (op : BinOp) (neg : Bool) (hop : op = if neg then .neq else .eql) (X Y : Operand)
    {ρ : Ren} {x y x' y' : Value} (hx : VRel ρ x x') (hy : VRel ρ y y') {r : Bool} (h : nilV kind x y = some r) (w : World) :
    (do eqGuard op t X Y x' y'; binOp op t x' y' : Sem Value).run P w = .ok (.bool (if neg then !r else r)) w := by
  cases d <;> simp only [nilK, Option.some.injEq, reduceCtorEq] at hk <;> subst hk
  all_goals
    cases hx <;> (try (simp [nilV, Ev.bad] at h; done)) <;> cases hy <;> (try (simp [nilV, Ev.bad] at h; done))
  all_goals
    simp only [nilV, Option.some.injEq, Option.isNone_none, Option.isNone_some] at h
    subst h
    refine run_eq_gen P op neg hop X Y _ _ _ w (by simp only [binOp]) (by simp only [binOp]) (by subst hop; cases neg <;> simp [eqGuard]) ?_
    suffices he : ∀ d : Nat, (Op.equalIn (d + 1) t _ _).run P w = .ok _ w from he 9999
    intro d
    simp [Op.equalIn, run_underlying ht]

theorem unV_ok (P : Program) {op : UnOp} {x v : Value} (h : unV op x = some v) (w : World) : (Op.unary op x).run P w = .ok v w := by
  cases op <;> cases x <;> simp only [unV, reduceCtorEq, Option.some.injEq] at h
  all_goals (try subst h)
  all_goals (try simp only [iop, Option.some.injEq] at h)
  all_goals (try subst h)
  all_goals simp [Op.unary, Op.intArith, Op.intBits]

theorem ARel.get {ρ : Ren} {a a' : Array Value} (h : ARel ρ a a') {i : Nat} {v : Value} (e : a[i]? = some v) : ∃ v', a'[i]? = some v' ∧ VRel ρ v v' := by
  obtain ⟨h1, h2⟩ := Array.getElem?_eq_some_iff.mp e
  have h3 : i < a'.size := by rw [← h.1]; exact h1
  exact ⟨a'[i], Array.getElem?_eq_getElem h3, by rw [← h2]; exact h.2 i h1 h3⟩
theorem ARel.extract {ρ : Ren} {a a' : Array Value} (h : ARel ρ a a') (i j : Nat) : ARel ρ (a.extract i j) (a'.extract i j) := by
  refine ⟨by simp [h.1], fun k hk hk' => ?_⟩
  simp only [Array.getElem_extract]
  exact h.2 _ _ _
theorem VRel.agg_inv {ρ : Ren} {cs : Array Value} {v' : Value} (h : VRel ρ (.agg cs) v') : ∃ cs', v' = .agg cs' ∧ ARel ρ cs cs' := by
  cases h with
  | agg _ cs' h1 h2 => exact ⟨cs', rfl, h1, h2⟩
theorem VRel.tuple_inv {ρ : Ren} {cs : Array Value} {v' : Value} (h : VRel ρ (.tuple cs) v') : ∃ cs', v' = .tuple cs' ∧ ARel ρ cs cs' := by
  cases h with
  | tuple _ cs' h1 h2 => exact ⟨cs', rfl, h1, h2⟩
theorem VRel.int_inv {ρ : Ren} {k : IntKind} {n : Int} {v' : Value} (h : VRel ρ (.int k n) v') : v' = .int k n := by cases h; rfl
theorem VRel.string_inv {ρ : Ren} {s : ByteArray} {v' : Value} (h : VRel ρ (.string s) v') : v' = .string s := by cases h; rfl
theorem VRel.bool_inv {ρ : Ren} {s : Bool} {v' : Value} (h : VRel ρ (.bool s) v') : v' = .bool s := by cases h; rfl

/-- How a part of a type lies: none: one cell; some n: n of them, as a whole. -/
def szOf (P : Program) (t : TypeId) : Option (Option Nat) :=
  match P.underlying t, P.info? t with
  | some d, some i => some (if aggT d then some i.size else none)
  | _, _ => none
theorem szOf_some {P : Program} {t : TypeId} {sz : Option Nat} (h : szOf P t = some sz) : ∃ d i, P.underlying t = some d ∧ P.info? t = some i ∧ sz = if aggT d then some i.size else none := by
  unfold szOf at h
  split at h
  · rename_i d i h1 h2
    simp only [Option.some.injEq] at h
    exact ⟨d, i, h1, h2, h.symm⟩
  · cases h
def partV (sz : Option Nat) (cs : Array Value) (off : Nat) : Option Value :=
  match sz with
  | some n => some (.agg (cs.extract off (off + n)))
  | none => cs[off]?
theorem part_ok {P : Program} {t : TypeId} {sz : Option Nat} (h : szOf P t = some sz) {ρ : Ren} {cs cs' : Array Value} (hc : ARel ρ cs cs') {off : Nat} {v : Value} (hv : partV sz cs off = some v) :
    ∃ v', (∀ w, (part t cs' off).run P w = .ok v' w) ∧ VRel ρ v v' := by
  obtain ⟨d, i, hd, hi, rfl⟩ := szOf_some h
  cases e : aggT d with
  | true =>
    simp only [e, if_true, partV, Option.some.injEq] at hv
    subst hv
    exact ⟨_, fun w => by simp only [part, Sem.run_bind, run_agg w hd, Result.andThen_ok, e, if_true, run_size w hi, Sem.run_pure], .agg' (hc.extract _ _)⟩
  | false =>
    simp only [e, partV] at hv
    obtain ⟨v', h1, h2⟩ := hc.get hv
    exact ⟨v', fun w => by simp only [part, Sem.run_bind, run_agg w hd, Result.andThen_ok, e, Bool.false_eq_true, if_false, h1, Sem.run_pure], h2⟩
end Go.Proofs.Ythclmjelknibhaa.Ev
