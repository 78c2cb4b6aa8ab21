/- Each operation of the program does what ours does. -/
import Derived.Test.YtgejdfhfgphcbaaEv14
namespace Go.Proofs.Ytgejdfhfgphcbaa.Ev
open Go Go.RowKit
set_option linter.unusedVariables false
set_option linter.unusedSimpArgs false
set_option linter.unusedSectionVars false

section ops
variable {P : Program} {W0 : World} {ρ : Ren} {S : AW} {w : World} {F : AF} {a : Act} (h : RelW W0 ρ S w) (hF : FRel ρ F a) {o : Oper} {r : Res} {q : Bool}
include h hF

theorem ok_mov {x : Operand} (ho : o.op = .move x ∨ o.op = .assign x) (hr : (EOp.mov x).run F S = some r) : StepOk P W0 ρ o a w S q r := by
  simp only [EOp.run, Option.some.injEq] at hr
  subst hr
  exact .quiet h (hF.eval x) (by rcases ho with ho | ho <;> simp only [execOp, ho] <;> rfl)

theorem ok_pick {c x y : Operand} (ho : o.op = .pick c x y) (hr : (EOp.pick c x y).run F S = some r) : StepOk P W0 ρ o a w S q r := by
  simp only [EOp.run] at hr
  split at hr
  · rename_i t ht
    simp only [Option.some.injEq] at hr
    subst hr
    have hc := hF.eval c
    rw [ht] at hc
    have hc := hc.bool_inv
    refine .quiet h (v' := if t then a.eval x else a.eval y) ?_ ?_
    · cases t
      · exact hF.eval y
      · exact hF.eval x
    · simp only [execOp, ho, hc, Sem.run_bind, asBool, Sem.run_pure, Result.andThen_ok]
  · cases hr

/-- A result that asks nothing. -/
theorem ok_v {x : Option Value} (hr : (match x with | some v => some (.val v S) | none => none : Option Res) = some r) (hx : ∀ v, x = some v → ∃ v', VRel ρ v v' ∧ (execOp a.eval o).run P w = .ok (.value v') w) : StepOk P W0 ρ o a w S q r := by
  cases x with
  | none => simp at hr
  | some v =>
    simp only [Option.some.injEq] at hr
    subst hr
    obtain ⟨v', h1, h2⟩ := hx v rfl
    exact .quiet h h1 h2

omit h hF in
theorem binV_scalar {op : BinOp} {x y v : Value} (e : binV op x y = some v) : scalar x = true ∧ scalar y = true ∧ scalar v = true := by
  have aux : ∀ {op k i j v}, iop op k i j = some v → scalar v = true := by
    intro op k i j v e
    cases op <;> simp only [iop, reduceCtorEq, Option.some.injEq] at e <;> first | (subst e; rfl) | (split at e <;> simp only [reduceCtorEq, Option.some.injEq] at e; subst e; rfl)
  cases x with
  | int k i =>
    cases y with
    | int k' j =>
      refine ⟨rfl, rfl, ?_⟩
      cases op <;> simp only [binV, shop] at e <;> split at e <;> first | (cases e; done) | exact aux e | (simp only [Option.some.injEq] at e; subst e; rfl)
    | _ => simp [binV] at e
  | string s =>
    cases y with
    | string s' =>
      refine ⟨rfl, rfl, ?_⟩
      cases op <;> simp only [binV, sop, reduceCtorEq, Option.some.injEq] at e <;> first | (subst e; rfl) | (split at e <;> simp only [reduceCtorEq, Option.some.injEq] at e; subst e; rfl)
    | _ => simp [binV] at e
  | _ => simp [binV] at e

theorem ok_bin {op : BinOp} {t yt : TypeId} {x y : Operand} (ho : o.op = .binOp op t x y yt) (hr : (EOp.bin op x y).run F S = some r) : StepOk P W0 ρ o a w S q r := by
  refine ok_v h hF hr fun v hv => ?_
  obtain ⟨s1, s2, s3⟩ := binV_scalar hv
  have e1 := (hF.eval x).of_scalar s1
  have e2 := (hF.eval y).of_scalar s2
  refine ⟨v, .scalar_refl s3, ?_⟩
  have := binV_ok P op t x y hv w
  simp only [execOp, ho, e1, e2]
  simp only [Sem.run_bind] at this ⊢
  rw [this]; rfl

theorem ok_eq {neg : Bool} {t yt : TypeId} {x y : Operand} {e : EOp} (ho : o.op = .binOp (if neg then .neq else .eql) t x y yt) (hc : eqC P neg t x y = some e) (hr : e.run F S = some r) : StepOk P W0 ρ o a w S q r := by
  unfold eqC at hc
  split at hc
  · simp only [Option.some.injEq] at hc; subst hc; exact ok_bin h hF ho hr
  · simp only [Option.some.injEq] at hc; subst hc; exact ok_bin h hF ho hr
  · rename_i ht
    simp only [Option.some.injEq] at hc; subst hc
    simp only [EOp.run] at hr
    split at hr
    · rename_i b1 b2 e1 e2
      simp only [Option.some.injEq] at hr
      subst hr
      have g1 := hF.eval x; rw [e1] at g1; have g1 := g1.bool_inv
      have g2 := hF.eval y; rw [e2] at g2; have g2 := g2.bool_inv
      refine .quiet h (.bool _) ?_
      have := eqB_ok P ht _ neg rfl x y b1 b2 w
      simp only [execOp, ho, g1, g2]
      simp only [Sem.run_bind] at this ⊢
      rw [this]; rfl
    · cases hr
  · rename_i d _ _ _ ht
    split at hc
    · rename_i k hk
      simp only [Option.some.injEq] at hc; subst hc
      simp only [EOp.run] at hr
      split at hr
      · rename_i b hb
        simp only [Option.some.injEq] at hr
        subst hr
        refine .quiet h (.bool _) ?_
        have := eqN_ok P ht hk _ neg rfl x y (hF.eval x) (hF.eval y) hb w
        simp only [execOp, ho]
        simp only [Sem.run_bind] at this ⊢
        rw [this]; rfl
      · cases hr
    · cases hc
  · cases hc

theorem ok_un {op : UnOp} {t : TypeId} {x : Operand} (ho : o.op = .unOp op t x) (hr : (EOp.un op x).run F S = some r) : StepOk P W0 ρ o a w S q r := by
  refine ok_v h hF hr fun v hv => ?_
  have s1 : scalar (F.ev x) = true ∧ scalar v = true := by
    generalize F.ev x = y at hv
    cases op <;> cases y <;> simp only [unV, iop, reduceCtorEq, Option.some.injEq] at hv <;> subst hv <;> exact ⟨rfl, rfl⟩
  have e1 := (hF.eval x).of_scalar s1.1
  refine ⟨v, .scalar_refl s1.2, ?_⟩
  simp only [execOp, ho, e1, Sem.run_bind, unV_ok P hv w, Result.andThen_ok, Sem.run_pure]

theorem ok_cv {src dst : TypeId} {x : Operand} {e : EOp} (ho : o.op = .convert src dst x) (hc : cvC P src dst x = some e) (hr : e.run F S = some r) (hq : q = true → e.kind ≤ 1) : StepOk P W0 ρ o a w S q r := by
  unfold cvC at hc
  split at hc
  · rename_i s k hs hd
    simp only [Option.some.injEq] at hc; subst hc
    simp only [EOp.run] at hr
    split at hr
    · rename_i k' n e1
      simp only [Option.some.injEq] at hr; subst hr
      have g1 := hF.eval x; rw [e1] at g1; have g1 := g1.int_inv
      refine .quiet h (.int _ _) ?_
      simp only [execOp, ho, g1, convert, Sem.run_bind, run_underlying hs, run_underlying hd, Result.andThen_ok, Conv.intToInt, Sem.run_pure]
    · cases hr
  · rename_i s hs hd
    split at hc
    · rename_i hu
      have hu := isU8_true hu
      simp only [Option.some.injEq] at hc; subst hc
      simp only [EOp.run] at hr
      split at hr
      · rename_i n c e1
        simp only [Option.some.injEq] at hr; subst hr
        have g1 := hF.eval x; rw [e1] at g1
        obtain ⟨g1, _, _⟩ := g1.nils_inv
        refine .quiet h (.string _) ?_
        simp only [execOp, ho, g1, Sem.run_bind]
        rw [run_convert_bytes_string w src dst s _ _ _ hs hu hd]
        rfl
      · rename_i i o' n c e1
        split at hr
        · rename_i l hl
          split at hr
          · rename_i bs hb
            simp only [Option.some.injEq] at hr; subst hr
            have g1 := hF.eval x; rw [e1] at g1
            refine .quiet h (.string _) ?_
            have := cvBS_ok P hs hu hd h g1 hl hb
            simp only [execOp, ho, Sem.run_bind, this, Result.andThen_ok, Sem.run_pure]
          · cases hr
        · cases hr
      · cases hr
    · cases hc
  · rename_i s _ hs hd
    simp only [Option.some.injEq] at hc; subst hc
    simp only [EOp.run] at hr
    split at hr
    · rename_i k n e1
      simp only [Option.some.injEq] at hr; subst hr
      have g1 := hF.eval x; rw [e1] at g1; have g1 := g1.int_inv
      refine .quiet h (.string _) ?_
      simp only [execOp, ho, g1, convert, Sem.run_bind, run_underlying hs, run_underlying hd, Result.andThen_ok, Conv.intToString, Sem.run_pure]
    · rename_i s' e1
      simp only [Option.some.injEq] at hr; subst hr
      have g1 := hF.eval x; rw [e1] at g1; have g1 := g1.string_inv
      refine .quiet h (.string _) ?_
      simp only [execOp, ho, g1, convert, Sem.run_bind, run_underlying hs, run_underlying hd, Result.andThen_ok, Sem.run_pure]
    · cases hr
  · rename_i e' hs hd
    split at hc
    · rename_i hu
      have hu := isU8_true hu
      simp only [Option.some.injEq] at hc; subst hc
      simp only [EOp.run] at hr
      split at hr
      · rename_i s e1
        split at hr
        · rename_i hlt
          simp only [Option.some.injEq] at hr; subst hr
          have g1 := hF.eval x; rw [e1] at g1; have g1 := g1.string_inv
          obtain ⟨ρ', v', w', f1, f2, f3, f4⟩ := cvSB_ok P h e' s hlt
          refine ⟨ρ', v', w', f1, f3, f4, .inl ?_, fun hh => by have := hq hh; simp [EOp.kind] at this⟩
          simp only [execOp, ho, g1, convert, Sem.run_bind, run_underlying hs, run_underlying hd, run_underlying hu, Result.andThen_ok, f2, Sem.run_pure]
        · cases hr
      · cases hr
    · cases hc
  · cases hc
end ops
end Go.Proofs.Ytgejdfhfgphcbaa.Ev
