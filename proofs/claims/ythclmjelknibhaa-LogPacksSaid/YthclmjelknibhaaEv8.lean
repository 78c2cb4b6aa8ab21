/- What the operations that ask nothing of memory do: cuts, places, lengths, calls that answer at once. -/
import Derived.Test.YthclmjelknibhaaEv7
namespace Go.Proofs.Ythclmjelknibhaa.Ev
open Go Go.RowKit
set_option linter.unusedVariables false
set_option linter.unusedSimpArgs false
set_option linter.unusedSectionVars false

theorem oint_some {ρ : Ren} {x : Option Value} {x' : Option Value} {o : Option Int} (h : oint x = some o) (hx : ∀ v, x = some v → ∃ v', x' = some v' ∧ VRel ρ v v') (hn : x = none → x' = none) :
    (o = none ∧ x' = none) ∨ ∃ k n, o = some n ∧ x' = some (.int k n) := by
  cases x with
  | none => simp only [oint, Option.some.injEq] at h; exact .inl ⟨h.symm, hn rfl⟩
  | some v =>
    obtain ⟨v', rfl, hv⟩ := hx v rfl
    cases v with
    | int k n => simp only [oint, Option.some.injEq] at h; exact .inr ⟨k, n, h.symm, by rw [hv.int_inv]⟩
    | _ => simp [oint] at h
theorem oint_ev {ρ : Ren} {F : AF} {a : Act} (h : FRel ρ F a) {x : Option Operand} {o : Option Int} (e : oint (x.map F.ev) = some o) :
    (o = none ∧ x.map a.eval = none) ∨ ∃ k n, o = some n ∧ x.map a.eval = some (.int k n) := by
  refine oint_some (ρ := ρ) e (fun v hv => ?_) (fun hn => ?_)
  · obtain ⟨y, rfl, rfl⟩ := Option.map_eq_some_iff.mp hv
    exact ⟨_, rfl, h.eval y⟩
  · simpa using hn

theorem bound_ok (P : Program) (k : IntKind) (n : Int) (y : Nat) (code : BoundsCode) (h0 : 0 ≤ n) (h1 : n ≤ y) (w : World) : (Instr.sliceBound (.int k n) y code).run P w = .ok n.toNat w := by
  simp [Instr.sliceBound, asIntOf, h0, h1]

theorem bounds_ok (P : Program) (isSlice : Bool) {n c c' : Nat} (hc : c ≤ c') {lo hi mx : Option Int} {lo' hi' mx' : Option Value}
    (hl : (lo = none ∧ lo' = none) ∨ ∃ k n, lo = some n ∧ lo' = some (.int k n)) (hh : (hi = none ∧ hi' = none) ∨ ∃ k n, hi = some n ∧ hi' = some (.int k n))
    (hm : (mx = none ∧ mx' = none) ∨ ∃ k n, mx = some n ∧ mx' = some (.int k n)) {l h m : Nat} (e : cutB n c lo hi mx = some (l, h, m)) (w : World) :
    (Instr.sliceBounds isSlice n c' lo' hi' mx').run P w = .ok (l, h, if mx.isSome then m else c') w ∧ l ≤ h ∧ h ≤ m ∧ m ≤ c ∧ (mx.isSome = false → m = c) := by
  unfold cutB at e
  simp only at e
  split at e
  · cases e
  · rename_i hmh
    split at e
    · rename_i hb
      simp only [Option.some.injEq, Prod.mk.injEq] at e
      obtain ⟨rfl, rfl, rfl⟩ := e
      obtain ⟨b1, b2, b3, b4⟩ := hb
      have key : ∀ (y : Nat) (code : BoundsCode) (k : IntKind) (n : Int), 0 ≤ n → n ≤ y → (Instr.sliceBound (.int k n) y code).run P w = .ok n.toNat w := fun y code k n a b => bound_ok P k n y code a b w
      rcases hl with ⟨rfl, rfl⟩ | ⟨kl, vl, rfl, rfl⟩ <;> rcases hh with ⟨rfl, rfl⟩ | ⟨kh, vh, rfl, rfl⟩ <;> rcases hm with ⟨rfl, rfl⟩ | ⟨km, vm, rfl, rfl⟩
      all_goals simp only [Option.getD_none, Option.getD_some, Option.isSome_none, Option.isSome_some, Option.isNone_none, Option.isNone_some, Bool.and_true, Bool.and_false, Bool.true_and, Bool.false_and, Bool.false_eq_true, if_false, not_true_eq_false] at b1 b2 b3 b4 hmh ⊢
      all_goals
        simp only [Instr.sliceBounds, Sem.run_bind, Sem.run_pure, Result.andThen_ok, Option.isSome_none, Option.isSome_some, Bool.false_eq_true, if_false, if_true]
        refine ⟨?_, by omega, by omega, by omega, fun hh => by first | (cases hh; done) | omega⟩
        repeat (first | rw [key _ _ _ _ (by omega) (by omega)] | simp only [Result.andThen_ok, Sem.run_pure])
        try rfl
    · cases e

theorem str_get (s : ByteArray) (k : Nat) : s[k]? = s.data.toList[k]? := by
  obtain ⟨⟨l⟩⟩ := s
  simp only [getElem?_def]
  rfl

theorem fit_add {b o' n : Nat} : (⟨b, o', none⟩ : Addr).add n = ⟨b, o' + n, none⟩ := by
  unfold Addr.add
  split
  · rename_i h; subst h; rfl
  · rfl

def mm2 (mx : Bool) : Value → Value → Sem Value := if mx then Builtin.max2 else Builtin.min2
theorem mm2_int (mx : Bool) (k : IntKind) (a b : Int) : mm2 mx (.int k a) (.int k b) = pure (.int k (if mx then (if b > a then b else a) else (if b < a then b else a))) := by
  cases mx <;> simp [mm2, Builtin.max2, Builtin.min2]
theorem mm_fold (P : Program) {ρ : Ren} (mx : Bool) : ∀ (vs vs' : List Value) (k : IntKind) (a : Int) (v : Value), ARel ρ vs.toArray vs'.toArray →
    vs.foldlM (mstep mx) (.int k a) = some v → (∀ w, (vs'.foldlM (mm2 mx) (.int k a)).run P w = .ok v w) ∧ flat v = true := by
  intro vs
  induction vs with
  | nil =>
    intro vs' k a v hr h
    obtain rfl : vs' = [] := by cases vs' with | nil => rfl | cons _ _ => have := hr.1; simp at this
    simp only [List.foldlM_nil, Option.pure_def, Option.some.injEq] at h
    subst h
    exact ⟨fun w => rfl, rfl⟩
  | cons y ys ih =>
    intro vs' k a v hr h
    cases vs' with
    | nil => have := hr.1; simp at this
    | cons y' ys' =>
      have hy : VRel ρ y y' := hr.2 0 (by simp) (by simp)
      have hys : ARel ρ ys.toArray ys'.toArray := ⟨by have := hr.1; simpa using this, fun i a b => by
        have := hr.2 (i + 1) (by simp at a ⊢; omega) (by simp at b ⊢; omega)
        simpa using this⟩
      simp only [List.foldlM_cons, Option.bind_eq_bind] at h
      obtain ⟨z, hz, h⟩ := Option.bind_eq_some_iff.mp h
      cases y with
      | int k' b =>
        simp only [mstep] at hz
        split at hz
        · rename_i hk
          subst hk
          simp only [Option.some.injEq] at hz
          subst hz
          have hy' := hy.int_inv
          subst hy'
          obtain ⟨h1, h2⟩ := ih ys' _ _ v hys h
          refine ⟨fun w => ?_, h2⟩
          simp only [List.foldlM_cons, Sem.run_bind, mm2_int, Sem.run_pure, Result.andThen_ok]
          exact h1 w
        · cases hz
      | _ => simp [mstep] at hz
theorem mm_ok (P : Program) (ts : Array TypeId) (t : TypeId) (mx : Bool) {ρ : Ren} {vs vs' : List Value} {v : Value} (h : mmV mx vs = some v) (hv : ARel ρ vs.toArray vs'.toArray) :
    (∀ w, ((if mx then Builtin.max_ else Builtin.min_) ts t vs'.toArray).run P w = .ok v w) ∧ flat v = true := by
  cases vs with
  | nil => simp [mmV] at h
  | cons x xs =>
    cases vs' with
    | nil => have := hv.1; simp at this
    | cons x' xs' =>
      have hx : VRel ρ x x' := hv.2 0 (by simp) (by simp)
      have hys : ARel ρ xs.toArray xs'.toArray := ⟨by have := hv.1; simpa using this, fun i a b => by
        have := hv.2 (i + 1) (by simp at a ⊢; omega) (by simp at b ⊢; omega)
        simpa using this⟩
      cases x with
      | int k a =>
        have := hx.int_inv
        subst this
        simp only [mmV] at h
        obtain ⟨h1, h2⟩ := mm_fold P mx xs xs' k a v hys h
        refine ⟨fun w => ?_, h2⟩
        cases mx
        · simpa [Builtin.min_, mm2] using h1 w
        · simpa [Builtin.max_, mm2] using h1 w
      | _ => simp [mmV] at h
end Go.Proofs.Ythclmjelknibhaa.Ev
