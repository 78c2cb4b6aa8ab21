/- Our code: steps, statements, loops, calls; what it comes to, the program's code comes to. -/
import Derived.Test.YthclmjelknibhaaEv17
import Derived.Scope
namespace Go.Proofs.Ythclmjelknibhaa.Ev
open Go Go.RowKit
set_option linter.unusedVariables false
set_option linter.unusedSimpArgs false
set_option linter.unusedSectionVars false

structure EOper where
  dst : Option Nat
  guard : Option (Nat × Bool)
  op : EOp
abbrev Callee := FuncId → List Value → AW → Option (Value × AW)

/-- A call's or an operation's result is put into its slot. -/
def put1 (F : AF) (d : Option Nat) : Option (Value × AW) → Option (AF × AW)
  | some (v, S) => match F.dst d v with
    | some F' => some (F', S)
    | none => none
  | none => none
def evStep (C : Callee) (o : EOper) (F : AF) (S : AW) : Option (AF × AW) :=
  match o.op.run F S with
  | some (.val v S') => put1 F o.dst (some (v, S'))
  | some (.call f args) => put1 F o.dst (C f args S)
  | none => none
/-- What a guard says: whether the operation runs, where that is known. -/
def gd (v : Value) (want : Bool) : Option Bool :=
  match v with
  | .bool b => some (b == want)
  | .tuple _ => some false
  | _ => none
def evOper (C : Callee) (o : EOper) (F : AF) (S : AW) : Option (AF × AW) :=
  match o.guard with
  | none => evStep C o F S
  | some (t, want) => match gd (F.get t) want with
    | some true => evStep C o F S
    | some false => put1 F o.dst (some (undef, S))
    | none => none
def evOps (C : Callee) : List EOper → AF → AW → Option (AF × AW)
  | [], F, S => some (F, S)
  | o :: l, F, S => match evOper C o F S with
    | some (F', S') => evOps C l F' S'
    | none => none

/-- What a function is taken to do, it does. -/
def COk (P : Program) (C : Callee) : Prop := ∀ W0 ρ S w f args args' v S', RelW W0 ρ S w → ARel ρ (List.toArray args) args' → C f args S = some (v, S') →
  ((callFunc f args').run P w = .ok (.enter f args') w ∧ Calls P f args' w fun e w' => ∃ ρ' v', Grow S.next S'.next ρ ρ' ∧ e = .returned v' ∧ VRel ρ' v v' ∧ RelW W0 ρ' S' w') ∨
  (∃ ρ' v' w', Grow S.next S'.next ρ ρ' ∧ (callFunc f args').run P w = .ok (.value v') w' ∧ VRel ρ' v v' ∧ RelW W0 ρ' S' w')

def compileG (ops : Array Oper) (g : Option (Nat × Bool)) : Option (Option (Nat × Bool)) :=
  match g with
  | none => some none
  | some (j, want) => match (ops[j]?).bind (·.dst) with
    | some t => some (some (t, want))
    | none => none
def compileOper (P : Program) (ops : Array Oper) (o : Oper) : Option EOper :=
  match compileG ops o.guard, compileOp P o.op with
  | some g, some e => some ⟨o.dst, g, e⟩
  | _, _ => none
theorem compileOper_some {P : Program} {ops : Array Oper} {o : Oper} {eo : EOper} (h : compileOper P ops o = some eo) :
    compileG ops o.guard = some eo.guard ∧ compileOp P o.op = some eo.op ∧ eo.dst = o.dst := by
  unfold compileOper at h
  split at h
  · rename_i g e h1 h2
    simp only [Option.some.injEq] at h
    subst h
    exact ⟨h1, h2, rfl⟩
  · cases h

theorem wanted_none {ops : Array Oper} {o : Oper} (h1 : compileG ops o.guard = some none) (y : Nat → Option Bool) : Region.wanted o y = true := by
  have hgo : o.guard = none := by
    unfold compileG at h1
    split at h1
    · rename_i e; exact e
    · split at h1 <;> simp at h1
  simp [Region.wanted, hgo]
theorem wanted_gd {ops : Array Oper} {o : Oper} {t : Nat} {want q : Bool} (h1 : compileG ops o.guard = some (some (t, want))) {ρ : Ren} {F : AF} {a : Act} (hF : FRel ρ F a) (hq : gd (F.get t) want = some q) : Region.wanted o (yielded ops a.tmps) = q := by
  obtain ⟨j, hgo, hj⟩ : ∃ j, o.guard = some (j, want) ∧ (ops[j]?).bind (·.dst) = some t := by
    unfold compileG at h1
    split at h1
    · simp at h1
    · rename_i j want' e
      split at h1
      · rename_i t' ht'
        simp only [Option.some.injEq, Prod.mk.injEq] at h1
        obtain ⟨rfl, rfl⟩ := h1
        exact ⟨j, e, ht'⟩
      · cases h1
  have hs := hF.slot t
  generalize F.get t = z at hs hq
  cases z with
  | bool b =>
    have hs := hs.bool_inv
    have hy : yielded ops a.tmps j = some b := by
      unfold yielded
      rw [hj]
      simp only [Option.bind_some]
      have : a.tmps[t]? = some (.bool b) := by
        rw [Array.getD_eq_getD_getElem?] at hs
        cases e : a.tmps[t]? with
        | none => rw [e] at hs; simp [undef] at hs
        | some v => rw [e] at hs; simpa using hs
      rw [this]
    simp only [gd, Option.some.injEq] at hq
    subst hq
    simp only [Region.wanted, hgo, hy]
    cases b <;> cases want <;> rfl
  | tuple cs =>
    have hs : ∃ cs', a.tmps.getD t undef = .tuple cs' := by
      generalize a.tmps.getD t undef = z' at hs
      cases hs
      exact ⟨_, rfl⟩
    obtain ⟨cs', hs⟩ := hs
    have hy : yielded ops a.tmps j = none := by
      unfold yielded
      rw [hj]
      simp only [Option.bind_some]
      cases e : a.tmps[t]? with
      | none => rfl
      | some v =>
        rw [Array.getD_eq_getD_getElem?, e] at hs
        simp only [Option.getD_some] at hs
        rw [hs]
    simp only [gd, Option.some.injEq] at hq
    subst hq
    simp only [Region.wanted, hgo, hy]
    rfl
  | _ => simp [gd] at hq

section
variable {P : Program} {C : Callee} (hC : COk P C) {W0 : Fz} {ρ : Ren} {S : AW} {w : World} {F : AF} {a : Act} (h : RelW W0 ρ S w) (hF : FRel ρ F a)
include hC h hF
theorem step_wp {o : Oper} {eo : EOper} (hd : eo.dst = o.dst) (hc : compileOp P o.op = some eo.op) {F' : AF} {S' : AW} (he : evStep C eo F S = some (F', S')) {K : Act → World → Prop} {Q : Exit → Act → World → Prop}
    (hK : ∀ ρ' a' w', Grow S.next S'.next ρ ρ' → FRel ρ' F' a' → RelW W0 ρ' S' w' → K a' w') : o.wp P a w K Q := by
  have put1_some : ∀ {v S1}, put1 F eo.dst (some (v, S1)) = some (F', S') → F.dst o.dst v = some F' ∧ S1 = S' := by
    intro v S1 e
    simp only [put1] at e
    split at e
    · rename_i F1 hF1
      simp only [Option.some.injEq, Prod.mk.injEq] at e
      obtain ⟨rfl, rfl⟩ := e
      rw [← hd]; exact ⟨hF1, rfl⟩
    · cases e
  unfold evStep at he
  unfold Oper.wp
  split at he
  · rename_i v S1 hr
    obtain ⟨e1, rfl⟩ := put1_some he
    obtain ⟨ρ', v', w', k1, k2, k3, k4, _⟩ := op_ok h hF hc hr
    have hF' := (hF.mono k1.le).dst k3 e1
    rcases k4 with k4 | ⟨k4, rfl⟩
    · rw [k4]; exact hK ρ' _ w' k1 hF' k2
    · rw [k4]; exact hK ρ' _ w' k1 hF' k2
  · rename_i f args hr
    obtain ⟨args', k1, k2⟩ := op_ok h hF hc hr
    cases hcall : C f args S with
    | none => rw [hcall] at he; simp [put1] at he
    | some r =>
      obtain ⟨v, S1⟩ := r
      rw [hcall] at he
      obtain ⟨e1, rfl⟩ := put1_some he
      rcases hC W0 ρ S w f args args' v S1 h k1 hcall with ⟨q1, q2⟩ | ⟨ρ', v', w', q1, q2, q3, q4⟩
      · rw [k2, q1]
        refine q2.mono ?_
        rintro e w' ⟨ρ', v', p1, rfl, p2, p3⟩
        exact hK ρ' _ w' p1 ((hF.mono p1.le).dst p2 e1) p3
      · rw [k2, q2]
        exact hK ρ' _ w' q1 ((hF.mono q1.le).dst q3 e1) q4
  · cases he

theorem oper_wp {ops : Array Oper} {i : Nat} {o : Oper} {eo : EOper} (hi : ops[i]? = some o) (hc : compileOper P ops o = some eo) {F' : AF} {S' : AW} (he : evOper C eo F S = some (F', S')) {K : Act → World → Prop} {Q : Exit → Act → World → Prop}
    (hK : ∀ ρ' a' w', Grow S.next S'.next ρ ρ' → FRel ρ' F' a' → RelW W0 ρ' S' w' → K a' w') : wpOp P ops Q i K a w := by
  obtain ⟨h1, h2, h3⟩ := compileOper_some hc
  unfold wpOp
  rw [hi]
  simp only
  unfold evOper at he
  split at he
  · rename_i hg
    rw [hg] at h1
    have hgo : o.guard = none := by
      unfold compileG at h1
      split at h1
      · rename_i e; exact e
      · split at h1 <;> simp at h1
    have hw : Region.wanted o (yielded ops a.tmps) = true := by simp [Region.wanted, hgo]
    rw [if_pos hw]
    exact .inl (step_wp hC h hF h3 h2 he hK)
  · rename_i t want hg
    rw [hg] at h1
    have hw : ∀ q, gd (F.get t) want = some q → Region.wanted o (yielded ops a.tmps) = q := fun q hq => wanted_gd h1 hF hq
    split at he
    · rename_i hq
      rw [hw _ hq, if_pos rfl]
      exact .inl (step_wp hC h hF h3 h2 he hK)
    · rename_i hq
      rw [hw _ hq, if_neg (by simp)]
      simp only [put1] at he
      split at he
      · rename_i F1 hF1
        simp only [Option.some.injEq, Prod.mk.injEq] at he
        obtain ⟨rfl, rfl⟩ := he
        rw [h3] at hF1
        exact hK ρ _ w (Grow.refl _ ρ) (hF.dst .undef hF1) h
      · cases he
    · cases he
end

/-- Operations in the text's order. -/
theorem ops_wp {P : Program} {C : Callee} (hC : COk P C) {W0 : Fz} {ops : Array Oper} {Q : Exit → Act → World → Prop} : ∀ (l : List Oper) (el : List EOper) (k : Nat) (ρ : Ren) (S : AW) (w : World) (F : AF) (a : Act) (F' : AF) (S' : AW),
    (∀ j : Nat, l[j]? = ops[k + j]?) → l.mapM (compileOper P ops) = some el → RelW W0 ρ S w → FRel ρ F a → evOps C el F S = some (F', S') →
    (∀ ρ' a' w', Grow S.next S'.next ρ ρ' → FRel ρ' F' a' → RelW W0 ρ' S' w' → Q .normal a' w') → wpOps P ops Q (List.range' k l.length) a w := by
  intro l
  induction l with
  | nil =>
    intro el k ρ S w F a F' S' hl hm h hF he hQ
    simp only [List.mapM_nil, Option.pure_def, Option.some.injEq] at hm
    subst hm
    simp only [evOps, Option.some.injEq, Prod.mk.injEq] at he
    obtain ⟨rfl, rfl⟩ := he
    exact hQ ρ a w (Grow.refl _ ρ) hF h
  | cons o l ih =>
    intro el k ρ S w F a F' S' hl hm h hF he hQ
    simp only [List.mapM_cons, Option.bind_eq_bind, Option.pure_def] at hm
    obtain ⟨eo, ho, hm⟩ := Option.bind_eq_some_iff.mp hm
    obtain ⟨el', hel, hm⟩ := Option.bind_eq_some_iff.mp hm
    simp only [Option.some.injEq] at hm
    subst hm
    simp only [evOps] at he
    split at he
    · rename_i F1 S1 h1
      rw [List.length_cons, List.range'_succ, wpOps_cons]
      have h0 := hl 0
      refine oper_wp hC h hF (ops := ops) (o := o) (by simpa using h0.symm) ho h1 ?_
      intro ρ1 a1 w1 g1 g2 g3
      refine ih el' (k + 1) ρ1 S1 w1 F1 a1 F' S' (fun j => ?_) hel g3 g2 he (fun ρ' a' w' r1 r2 r3 => hQ ρ' a' w' (g1.trans r1) r2 r3)
      have := hl (j + 1)
      rw [show k + 1 + j = k + (j + 1) from by omega, ← this]
      simp
    · cases he

inductive EX where
  | normal
  | exit (id : Nat)
  | ret
def EX.to : EX → Exit
  | .normal => .normal
  | .exit id => .exit id
  | .ret => .ret
/-- Where control stands behind a piece of code, the frame and memory. -/
abbrev Out := Option (EX × AF × AW)
def iter (b : AF → AW → Out) : Nat → AF → AW → Out
  | 0, _, _ => none
  | n + 1, F, S => match b F S with
    | some (.normal, F', S') => iter b n F' S'
    | r => r
end Go.Proofs.Ythclmjelknibhaa.Ev
