/- Each operation of the program does what ours does. -/
import Derived.Test.YthclmjelknibhaaEv14
namespace Go.Proofs.Ythclmjelknibhaa.Ev
open Go Go.RowKit
set_option linter.unusedVariables false
set_option linter.unusedSimpArgs false
set_option linter.unusedSectionVars false

theorem beq_bytes (s1 s2 : ByteArray) : (s1 == s2) = decide (s1 = s2) := by
  obtain ⟨⟨x⟩⟩ := s1
  obtain ⟨⟨y⟩⟩ := s2
  show ((⟨x⟩ : Array UInt8) == ⟨y⟩) = _
  by_cases h : x = y
  · subst h; simp
  · have h1 : ¬ (ByteArray.mk ⟨x⟩ = ByteArray.mk ⟨y⟩) := fun q => h (by simpa using q)
    rw [decide_eq_false h1]
    simpa using h
theorem ceq_ok {P : Program} {t : TypeId} {l : KL} (hl : leafOf P t = some l) {ρ : Ren} {x x' y y' : Value} (hx : VRel ρ x x') (hy : VRel ρ y y') (fx : fitsL l x = true) (fy : fitsL l y = true) {b : Bool} (hb : ceq x y = some b) (d : Nat) (w : World) : (Op.equalIn (d + 1) t x' y').run P w = .ok b w := by
  rcases leafOf_some hl with ⟨rfl, hu⟩ | ⟨q, rfl, hu⟩ | ⟨rfl, hu⟩
  · cases x <;> simp [fitsL] at fx
    cases y <;> simp [fitsL] at fy
    simp only [ceq, Option.some.injEq] at hb
    subst hb
    rw [hx.string_inv, hy.string_inv, run_equalIn_string w d t _ _ hu]
    rename_i s1 s2
    rw [← beq_toListBytes]
    rw [beq_bytes]
  · cases x <;> simp [fitsL] at fx
    cases y <;> simp [fitsL] at fy
    obtain ⟨rfl, fx⟩ := fx
    obtain ⟨rfl, fy⟩ := fy
    simp only [ceq, if_true, Option.some.injEq] at hb
    subst hb
    rw [hx.int_inv, hy.int_inv, run_equalIn_int w d t q q _ _ hu]
    rfl
  · cases x <;> simp [fitsL] at fx
    cases y <;> simp [fitsL] at fy
    simp only [ceq, Option.some.injEq] at hb
    subst hb
    rw [hx.bool_inv, hy.bool_inv, run_equalIn_bool' w d t _ _ hu]
    congr 1
theorem eqFs_ok {P : Program} {ρ : Ren} {xs xs' ys ys' : Array Value} (hx : ARel ρ xs xs') (hy : ARel ρ ys ys') (d : Nat) (w : World) : ∀ (fs : List Field) (ls : List KL) (i : Nat) (b : Bool), leafFs P i fs = some ls → fitsLs ls (xs.toList.drop i) = true → fitsLs ls (ys.toList.drop i) = true → ceqs (xs.toList.drop i) (ys.toList.drop i) = some b → (Op.eqFields (d + 1) xs' ys' fs).run P w = .ok b w
  | [], ls, i, b, h, h1, h2, hb => by
    simp only [leafFs, Option.some.injEq] at h
    subst h
    cases e1 : xs.toList.drop i with
    | cons v vs => rw [e1] at h1; simp [fitsLs] at h1
    | nil =>
      cases e2 : ys.toList.drop i with
      | cons v vs => rw [e2] at h2; simp [fitsLs] at h2
      | nil =>
        rw [e1, e2] at hb
        simp only [ceqs, Option.some.injEq] at hb
        subst hb
        simp [Op.eqFields]
  | f :: fs, ls, i, b, h, h1, h2, hb => by
    unfold leafFs at h
    split at h
    · rename_i l ls' hl hls
      split at h
      · rename_i hc
        simp only [Option.some.injEq] at h
        subst h
        simp only [Bool.and_eq_true, decide_eq_true_eq] at hc
        obtain ⟨⟨ho, hn⟩, hs⟩ := hc
        cases e1 : xs.toList.drop i with
        | nil => rw [e1] at h1; simp [fitsLs] at h1
        | cons v vs =>
          cases e2 : ys.toList.drop i with
          | nil => rw [e2] at h2; simp [fitsLs] at h2
          | cons u us =>
            rw [e1] at h1 hb
            rw [e2] at h2 hb
            simp only [fitsLs, Bool.and_eq_true] at h1 h2
            have gx : xs[i]? = some v := by rw [← Array.getElem?_toList, ← List.head?_drop, e1]; rfl
            have gy : ys[i]? = some u := by rw [← Array.getElem?_toList, ← List.head?_drop, e2]; rfl
            have dx : xs.toList.drop (i + 1) = vs := by rw [← List.drop_drop, e1]; rfl
            have dy : ys.toList.drop (i + 1) = us := by rw [← List.drop_drop, e2]; rfl
            obtain ⟨v', p1, q1⟩ := part_ok hs hx (off := i) (v := v) gx
            obtain ⟨u', p2, q2⟩ := part_ok hs hy (off := i) (v := u) gy
            simp only [Op.eqFields, hn, ne_eq, not_false_eq_true, if_true, Sem.run_bind, ho, p1, p2, Result.andThen_ok]
            simp only [ceqs] at hb
            cases hcq : ceq v u with
            | none => rw [hcq] at hb; cases hb
            | some c =>
              rw [hcq] at hb
              rw [ceq_ok hl q1 q2 h1.1 h2.1 hcq d w]
              cases c with
              | true =>
                simp only at hb
                simp only [Result.andThen_ok, Bool.not_true, Bool.false_eq_true, if_false]
                exact eqFs_ok hx hy d w fs ls' (i + 1) b hls (by rw [dx]; exact h1.2) (by rw [dy]; exact h2.2) (by rw [dx, dy]; exact hb)
              | false =>
                simp only [Option.some.injEq] at hb
                subst hb
                simp only [Result.andThen_ok, Bool.not_false, if_true, Sem.run_pure]
      · cases h
    · cases h
theorem eqA_ok (P : Program) {t : TypeId} {ls : List KL} (ht : eqS P t = some ls) (op : BinOp) (neg : Bool) (hop : op = if neg then .neq else .eql) (X Y : Operand) {ρ : Ren} {x y x' y' : Value} (hx : VRel ρ x x') (hy : VRel ρ y y') {b : Bool} (hb : eqaV ls x y = some b) (w : World) :
    (do eqGuard op t X Y x' y'; binOp op t x' y' : Sem Value).run P w = .ok (.bool (if neg then !b else b)) w := by
  unfold eqS at ht
  split at ht
  · rename_i fs hu
    split at ht
    · rename_i hc
      simp only [Bool.and_eq_true, Bool.not_eq_true'] at hc
      unfold eqaV at hb
      split at hb
      · rename_i xs ys
        split at hb
        · rename_i hf
          simp only [Bool.and_eq_true] at hf
          obtain ⟨xs', rfl, ax⟩ := hx.agg_inv
          obtain ⟨ys', rfl, ay⟩ := hy.agg_inv
          have hfo : P.fieldsOf t = fs := by unfold Program.fieldsOf; rw [hu]
          have heq : (Op.equalIn 10000 t (.agg xs') (.agg ys')).run P w = .ok b w := by
            rw [run_equalIn_struct w 9999 t xs' ys' (by rw [hfo]; exact hu) hc.1, hfo]
            exact eqFs_ok ax ay 9998 w fs.toList ls 0 b ht (by simpa using hf.1) (by simpa using hf.2) (by simpa using hb)
          subst hop
          cases neg
          · simp only [Bool.false_eq_true, if_false, Sem.run_bind, run_eqGuard_agg w _ t X Y xs' ys' hc.2, Result.andThen_ok, run_eql_struct, heq]
          · simp only [if_true, Sem.run_bind, run_eqGuard_agg w _ t X Y xs' ys' hc.2, Result.andThen_ok, run_neq_struct, heq]
        · cases hb
      · cases hb
    · cases ht
  · cases ht
section ops
variable {P : Program} {W0 : Fz} {ρ : Ren} {S : AW} {w : World} {F : AF} {a : Act} (h : RelW W0 ρ S w) (hF : FRel ρ F a) {o : Oper} {r : Res} {q : Bool}
include h hF

theorem ok_mov {x : Operand} (ho : o.op = .move x ∨ o.op = .assign x) (hr : (EOp.mov x).run F S = some r) : StepOk P W0 ρ o a w S q r := by
  simp only [EOp.run, Option.some.injEq] at hr
  subst hr
  exact .quiet h (hF.eval x) (by rcases ho with ho | ho <;> simp only [execOp, ho] <;> rfl)

theorem ok_pick {c x y : Operand} (ho : o.op = .pick c x y) (hr : (EOp.pick c x y).run F S = some r) : StepOk P W0 ρ o a w S q r := by
  simp only [EOp.run] at hr
  split at hr
  · rename_i t ht
    simp only [Option.some.injEq] at hr
    subst hr
    have hc := hF.eval c
    rw [ht] at hc
    have hc := hc.bool_inv
    refine .quiet h (v' := if t then a.eval x else a.eval y) ?_ ?_
    · cases t
      · exact hF.eval y
      · exact hF.eval x
    · simp only [execOp, ho, hc, Sem.run_bind, asBool, Sem.run_pure, Result.andThen_ok]
  · cases hr

/-- A result that asks nothing. -/
theorem ok_v {x : Option Value} (hr : (match x with | some v => some (.val v S) | none => none : Option Res) = some r) (hx : ∀ v, x = some v → ∃ v', VRel ρ v v' ∧ (execOp a.eval o).run P w = .ok (.value v') w) : StepOk P W0 ρ o a w S q r := by
  cases x with
  | none => simp at hr
  | some v =>
    simp only [Option.some.injEq] at hr
    subst hr
    obtain ⟨v', h1, h2⟩ := hx v rfl
    exact .quiet h h1 h2

omit h hF in
theorem binV_scalar {op : BinOp} {x y v : Value} (e : binV op x y = some v) : scalar x = true ∧ scalar y = true ∧ scalar v = true := by
  have aux : ∀ {op k i j v}, iop op k i j = some v → scalar v = true := by
    intro op k i j v e
    cases op <;> simp only [iop, reduceCtorEq, Option.some.injEq] at e <;> first | (subst e; rfl) | (split at e <;> simp only [reduceCtorEq, Option.some.injEq] at e; subst e; rfl)
  cases x with
  | int k i =>
    cases y with
    | int k' j =>
      refine ⟨rfl, rfl, ?_⟩
      cases op <;> simp only [binV, shop] at e <;> split at e <;> first | (cases e; done) | exact aux e | (simp only [Option.some.injEq] at e; subst e; rfl)
    | _ => simp [binV] at e
  | string s =>
    cases y with
    | string s' =>
      refine ⟨rfl, rfl, ?_⟩
      cases op <;> simp only [binV, sop, reduceCtorEq, Option.some.injEq] at e <;> first | (subst e; rfl) | (split at e <;> simp only [reduceCtorEq, Option.some.injEq] at e; subst e; rfl)
    | _ => simp [binV] at e
  | _ => simp [binV] at e

theorem ok_bin {op : BinOp} {t yt : TypeId} {x y : Operand} (ho : o.op = .binOp op t x y yt) (hr : (EOp.bin op x y).run F S = some r) : StepOk P W0 ρ o a w S q r := by
  refine ok_v h hF hr fun v hv => ?_
  obtain ⟨s1, s2, s3⟩ := binV_scalar hv
  have e1 := (hF.eval x).of_scalar s1
  have e2 := (hF.eval y).of_scalar s2
  refine ⟨v, .scalar_refl s3, ?_⟩
  have := binV_ok P op t x y hv w
  simp only [execOp, ho, e1, e2]
  simp only [Sem.run_bind] at this ⊢
  rw [this]; rfl

theorem ok_eq {neg : Bool} {t yt : TypeId} {x y : Operand} {e : EOp} (ho : o.op = .binOp (if neg then .neq else .eql) t x y yt) (hc : eqC P neg t x y = some e) (hr : e.run F S = some r) : StepOk P W0 ρ o a w S q r := by
  unfold eqC at hc
  split at hc
  · simp only [Option.some.injEq] at hc; subst hc; exact ok_bin h hF ho hr
  · simp only [Option.some.injEq] at hc; subst hc; exact ok_bin h hF ho hr
  · rename_i ht
    simp only [Option.some.injEq] at hc; subst hc
    simp only [EOp.run] at hr
    split at hr
    · rename_i b1 b2 e1 e2
      simp only [Option.some.injEq] at hr
      subst hr
      have g1 := hF.eval x; rw [e1] at g1; have g1 := g1.bool_inv
      have g2 := hF.eval y; rw [e2] at g2; have g2 := g2.bool_inv
      refine .quiet h (.bool _) ?_
      have := eqB_ok P ht _ neg rfl x y b1 b2 w
      simp only [execOp, ho, g1, g2]
      simp only [Sem.run_bind] at this ⊢
      rw [this]; rfl
    · cases hr
  · rename_i d _ _ _ ht
    split at hc
    · rename_i k hk
      simp only [Option.some.injEq] at hc; subst hc
      simp only [EOp.run] at hr
      split at hr
      · rename_i b hb
        simp only [Option.some.injEq] at hr
        subst hr
        refine .quiet h (.bool _) ?_
        have := eqN_ok P ht hk _ neg rfl x y (hF.eval x) (hF.eval y) hb w
        simp only [execOp, ho]
        simp only [Sem.run_bind] at this ⊢
        rw [this]; rfl
      · cases hr
    · split at hc
      · rename_i n hn
        simp only [Option.some.injEq] at hc; subst hc
        simp only [EOp.run] at hr
        split at hr
        · rename_i b hb
          simp only [Option.some.injEq] at hr
          subst hr
          refine .quiet h (.bool _) ?_
          have := eqA_ok P hn _ neg rfl x y (hF.eval x) (hF.eval y) hb w
          simp only [execOp, ho]
          simp only [Sem.run_bind] at this ⊢
          rw [this]; rfl
        · cases hr
      · cases hc
  · cases hc

theorem ok_un {op : UnOp} {t : TypeId} {x : Operand} (ho : o.op = .unOp op t x) (hr : (EOp.un op x).run F S = some r) : StepOk P W0 ρ o a w S q r := by
  refine ok_v h hF hr fun v hv => ?_
  have s1 : scalar (F.ev x) = true ∧ scalar v = true := by
    generalize F.ev x = y at hv
    cases op <;> cases y <;> simp only [unV, iop, reduceCtorEq, Option.some.injEq] at hv <;> subst hv <;> exact ⟨rfl, rfl⟩
  have e1 := (hF.eval x).of_scalar s1.1
  refine ⟨v, .scalar_refl s1.2, ?_⟩
  simp only [execOp, ho, e1, Sem.run_bind, unV_ok P hv w, Result.andThen_ok, Sem.run_pure]

theorem ok_cv {src dst : TypeId} {x : Operand} {e : EOp} (ho : o.op = .convert src dst x) (hc : cvC P src dst x = some e) (hr : e.run F S = some r) (hq : q = true → e.kind ≤ 1) : StepOk P W0 ρ o a w S q r := by
  unfold cvC at hc
  split at hc
  · rename_i s k hs hd
    simp only [Option.some.injEq] at hc; subst hc
    simp only [EOp.run] at hr
    split at hr
    · rename_i k' n e1
      simp only [Option.some.injEq] at hr; subst hr
      have g1 := hF.eval x; rw [e1] at g1; have g1 := g1.int_inv
      refine .quiet h (.int _ _) ?_
      simp only [execOp, ho, g1, convert, Sem.run_bind, run_underlying hs, run_underlying hd, Result.andThen_ok, Conv.intToInt, Sem.run_pure]
    · cases hr
  · rename_i s hs hd
    split at hc
    · rename_i hu
      have hu := isU8_true hu
      simp only [Option.some.injEq] at hc; subst hc
      simp only [EOp.run] at hr
      split at hr
      · rename_i n c e1
        simp only [Option.some.injEq] at hr; subst hr
        have g1 := hF.eval x; rw [e1] at g1
        obtain ⟨g1, _, _⟩ := g1.nils_inv
        refine .quiet h (.string _) ?_
        simp only [execOp, ho, g1, Sem.run_bind]
        rw [run_convert_bytes_string w src dst s _ _ _ hs hu hd]
        rfl
      · rename_i i o' n c e1
        split at hr
        · rename_i l hl
          split at hr
          · rename_i bs hb
            simp only [Option.some.injEq] at hr; subst hr
            have g1 := hF.eval x; rw [e1] at g1
            refine .quiet h (.string _) ?_
            have := cvBS_ok P hs hu hd h g1 hl hb
            simp only [execOp, ho, Sem.run_bind, this, Result.andThen_ok, Sem.run_pure]
          · cases hr
        · cases hr
      · cases hr
    · cases hc
  · rename_i s _ hs hd
    simp only [Option.some.injEq] at hc; subst hc
    simp only [EOp.run] at hr
    split at hr
    · rename_i k n e1
      simp only [Option.some.injEq] at hr; subst hr
      have g1 := hF.eval x; rw [e1] at g1; have g1 := g1.int_inv
      refine .quiet h (.string _) ?_
      simp only [execOp, ho, g1, convert, Sem.run_bind, run_underlying hs, run_underlying hd, Result.andThen_ok, Conv.intToString, Sem.run_pure]
    · rename_i s' e1
      simp only [Option.some.injEq] at hr; subst hr
      have g1 := hF.eval x; rw [e1] at g1; have g1 := g1.string_inv
      refine .quiet h (.string _) ?_
      simp only [execOp, ho, g1, convert, Sem.run_bind, run_underlying hs, run_underlying hd, Result.andThen_ok, Sem.run_pure]
    · cases hr
  · rename_i e' hs hd
    split at hc
    · rename_i hu
      have hu := isU8_true hu
      simp only [Option.some.injEq] at hc; subst hc
      simp only [EOp.run] at hr
      split at hr
      · rename_i s e1
        split at hr
        · rename_i hlt
          simp only [Option.some.injEq] at hr; subst hr
          have g1 := hF.eval x; rw [e1] at g1; have g1 := g1.string_inv
          obtain ⟨ρ', v', w', f1, f2, f3, f4⟩ := cvSB_ok P h e' s hlt
          refine ⟨ρ', v', w', f1, f3, f4, .inl ?_, fun hh => by have := hq hh; simp [EOp.kind] at this⟩
          simp only [execOp, ho, g1, convert, Sem.run_bind, run_underlying hs, run_underlying hd, run_underlying hu, Result.andThen_ok, f2, Sem.run_pure]
        · cases hr
      · cases hr
    · cases hc
  · rename_i e0 e' hs hd
    split at hc
    · rename_i hu
      obtain ⟨rfl, hu⟩ := hu
      have hu := isU8_true hu
      rw [hs] at hd
      simp only [Option.some.injEq, TypeDesc.slice.injEq] at hd
      subst hd
      simp only [Option.some.injEq] at hc; subst hc
      simp only [EOp.run] at hr
      split at hr
      · rename_i i o' n c e1
        split at hr
        · rename_i r0 hr0
          split at hr
          · rename_i hcc
            simp only [Option.some.injEq] at hr; subst hr
            have g1 := hF.eval x; rw [e1] at g1
            obtain ⟨v', w', f1, f2, f3⟩ := mark_ok P hs hu h g1 hr0 hcc.1 hcc.2
            refine ⟨ρ, v', w', Grow.refl _ ρ, f2, f3, .inl ?_, fun hh => by have := hq hh; simp [EOp.kind] at this⟩
            simp only [execOp, ho, Sem.run_bind, f1, Result.andThen_ok, Sem.run_pure]
          · cases hr
        · cases hr
      · cases hr
    · cases hc
  · cases hc
end ops
end Go.Proofs.Ythclmjelknibhaa.Ev
