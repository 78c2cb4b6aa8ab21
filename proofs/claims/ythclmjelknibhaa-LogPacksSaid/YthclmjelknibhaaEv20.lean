/- Operations that make rows, told without our memory; operations that read alone. -/
import Derived.Test.YthclmjelknibhaaEv19
namespace Go.Proofs.Ythclmjelknibhaa.Ev
open Go Go.RowKit
set_option linter.unusedVariables false
set_option linter.unusedSimpArgs false
set_option linter.unusedSectionVars false

/-- A row is made, whatever our memory is. -/
def Fact (P : Program) (ρ : Ren) (o : Oper) (a : Act) (w : World) (c : List Value) (el es : Nat) (sh : Nat → Value) : Prop :=
  ∃ (C : Array Value) (Fz : Nat × Nat) (w0 : World) (v' : Value), (execOp a.eval o).run P w = .ok (.value v') (w0.alloc (.cells C el Fz)) ∧ (w0 = w ∨ w0 = w.drew) ∧ Nf Fz C.size ∧
    (∀ (k : Nat) (v : Value), c[k]? = some v → isBad v = false → ∃ v'', C[k]? = some v'' ∧ VRel ρ v v'') ∧
    ∀ (ρ' : Ren) (n : Nat), ρ' n = some ⟨w.heap.size, 0, C.size, es⟩ → VRel ρ' (sh n) v'

theorem ARel.cont {ρ : Ren} {c : List Value} {C : Array Value} (h : ARel ρ c.toArray C) : ∀ (k : Nat) (v : Value), c[k]? = some v → isBad v = false → ∃ v'', C[k]? = some v'' ∧ VRel ρ v v'' :=
  fun k v hk _ => h.get (i := k) (v := v) (by simpa using hk)

theorem alloc_op {P : Program} {ρ : Ren} {F : AF} {a : Act} (hF : FRel ρ F a) {o : Oper} {e : EOp} (hc : compileOp P o.op = some e) (hk : e.kind = 2) {S : AW} {r : Res} (hr : e.run F S = some r) :
    ∃ c el es sh, r = .val (sh S.next) (S.new c el es) ∧ ∀ w, Fact P ρ o a w c el es sh := by
  have hc : compileOp0 P o.op = some e := by
    rcases compileOp_inv hc with hc | rfl
    · exact hc
    · simp [EOp.kind] at hk
  have comp : ∀ x, compileOp0 P x = some e → e.kind = 2 → (∃ el, x = .alloc el) ∨ (∃ el y, x = .box el y) ∨ (∃ t n ps, x = .buildSlice t n ps) ∨ (∃ t l c, x = .makeSlice t l c) ∨ (∃ s d y, x = .convert s d y) := by
    intro x hx hk
    have none_of : ∀ {y : Option EOp}, y = some e → (∀ e', y = some e' → e'.kind ≠ 2) → False := fun h1 h2 => h2 e h1 hk
    cases x with
    | alloc el => exact .inl ⟨el, rfl⟩
    | box el y => exact .inr (.inl ⟨el, y, rfl⟩)
    | buildSlice t n ps => exact .inr (.inr (.inl ⟨t, n, ps, rfl⟩))
    | makeSlice t l c => exact .inr (.inr (.inr (.inl ⟨t, l, c, rfl⟩)))
    | convert s d y => exact .inr (.inr (.inr (.inr ⟨s, d, y, rfl⟩)))
    | binOp op t x y yt =>
      exfalso
      cases op <;> simp only [compileOp0, Option.some.injEq] at hx
      case eql => unfold eqC at hx; split at hx <;> first | (simp only [Option.some.injEq] at hx; subst hx; simp [EOp.kind] at hk) | (split at hx <;> first | (simp only [Option.some.injEq] at hx; subst hx; simp [EOp.kind] at hk) | (split at hx <;> first | (simp only [Option.some.injEq] at hx; subst hx; simp [EOp.kind] at hk) | cases hx) | cases hx) | cases hx
      case neq => unfold eqC at hx; split at hx <;> first | (simp only [Option.some.injEq] at hx; subst hx; simp [EOp.kind] at hk) | (split at hx <;> first | (simp only [Option.some.injEq] at hx; subst hx; simp [EOp.kind] at hk) | (split at hx <;> first | (simp only [Option.some.injEq] at hx; subst hx; simp [EOp.kind] at hk) | cases hx) | cases hx) | cases hx
      all_goals (subst hx; simp [EOp.kind] at hk)
    | field t y f =>
      exfalso
      simp only [compileOp0] at hx
      obtain ⟨_, _, hx⟩ := Option.bind_eq_some_iff.mp hx
      obtain ⟨_, _, hx⟩ := Option.map_eq_some_iff.mp hx
      subst hx; simp [EOp.kind] at hk
    | fieldAddr t y f =>
      exfalso
      simp only [compileOp0] at hx
      obtain ⟨_, _, hx⟩ := Option.bind_eq_some_iff.mp hx
      obtain ⟨_, _, hx⟩ := Option.bind_eq_some_iff.mp hx
      split at hx
      · cases hx
      · simp only [Option.some.injEq] at hx; subst hx; simp [EOp.kind] at hk
    | build t ps =>
      exfalso
      simp only [compileOp0, buildC] at hx
      split at hx
      · obtain ⟨_, _, hx⟩ := Option.bind_eq_some_iff.mp hx
        split at hx
        · simp only [Option.some.injEq] at hx; subst hx; simp [EOp.kind] at hk
        · cases hx
      · split at hx
        · obtain ⟨_, _, hx⟩ := Option.map_eq_some_iff.mp hx
          subst hx; simp [EOp.kind] at hk
        · cases hx
      · cases hx
    | indexAddr t y i =>
      exfalso
      simp only [compileOp0] at hx
      split at hx
      · obtain ⟨_, _, hx⟩ := Option.map_eq_some_iff.mp hx
        subst hx; simp [EOp.kind] at hk
      · obtain ⟨_, _, hx⟩ := Option.map_eq_some_iff.mp hx
        subst hx; simp [EOp.kind] at hk
      · cases hx
    | index t y i =>
      exfalso
      simp only [compileOp0] at hx
      split at hx
      · simp only [Option.some.injEq] at hx; subst hx; simp [EOp.kind] at hk
      · split at hx
        · simp only [Option.some.injEq] at hx; subst hx; simp [EOp.kind] at hk
        · cases hx
      · cases hx
    | slice t y lo hi mx =>
      exfalso
      simp only [compileOp0, sliceC] at hx
      split at hx
      · split at hx
        · simp only [Option.some.injEq] at hx; subst hx; simp [EOp.kind] at hk
        · cases hx
      · obtain ⟨_, _, hx⟩ := Option.map_eq_some_iff.mp hx
        subst hx; simp [EOp.kind] at hk
      · cases hx
    | makeFunc fn fs cs =>
      exfalso
      cases fn <;> simp only [compileOp0, Option.some.injEq, reduceCtorEq] at hx
      subst hx; simp [EOp.kind] at hk
    | load t y =>
      exfalso
      simp only [compileOp0] at hx
      obtain ⟨_, _, hx⟩ := Option.map_eq_some_iff.mp hx
      subst hx; simp [EOp.kind] at hk
    | store t y z =>
      exfalso
      simp only [compileOp0] at hx
      obtain ⟨_, _, hx⟩ := Option.map_eq_some_iff.mp hx
      subst hx; simp [EOp.kind] at hk
    | makeMap t r0 =>
      exfalso
      simp only [compileOp0] at hx
      obtain ⟨_, _, hx⟩ := Option.map_eq_some_iff.mp hx
      subst hx; simp [EOp.kind] at hk
    | lookup t y i b =>
      exfalso
      simp only [compileOp0, mlkC] at hx
      split at hx
      · obtain ⟨_, _, hx⟩ := Option.map_eq_some_iff.mp hx
        subst hx; simp [EOp.kind] at hk
      · cases hx
    | mapUpdate t y z u =>
      exfalso
      simp only [compileOp0] at hx
      obtain ⟨_, _, hx⟩ := Option.map_eq_some_iff.mp hx
      subst hx; simp [EOp.kind] at hk
    | insert t y z u =>
      exfalso
      simp only [compileOp0] at hx
      obtain ⟨_, _, hx⟩ := Option.map_eq_some_iff.mp hx
      subst hx; simp [EOp.kind] at hk
    | call c =>
      exfalso
      simp only [compileOp0, callC] at hx
      split at hx
      · simp only [Option.some.injEq] at hx; subst hx; simp [EOp.kind] at hk
      · simp only [Option.some.injEq] at hx; subst hx; simp [EOp.kind] at hk
      · unfold appC at hx
        split at hx
        · split at hx
          · split at hx
            · split at hx <;> (simp only [Option.some.injEq] at hx; subst hx; simp [EOp.kind] at hk)
            · cases hx
          · cases hx
        · cases hx
      · unfold lenC at hx
        split at hx
        · split at hx <;> first | (simp only [Option.some.injEq] at hx; subst hx; simp [EOp.kind] at hk) | cases hx
        · cases hx
      · unfold cpyC at hx
        split at hx
        · split at hx
          · obtain ⟨_, _, hx⟩ := Option.map_eq_some_iff.mp hx
            subst hx; simp [EOp.kind] at hk
          · cases hx
        · cases hx
      · unfold delC at hx
        split at hx
        · obtain ⟨_, _, hx⟩ := Option.map_eq_some_iff.mp hx
          subst hx; simp [EOp.kind] at hk
        · cases hx
      · simp only [Option.some.injEq] at hx; subst hx; simp [EOp.kind] at hk
      · simp only [Option.some.injEq] at hx; subst hx; simp [EOp.kind] at hk
      · unfold capC at hx
        split at hx
        · split at hx <;> first | (simp only [Option.some.injEq] at hx; subst hx; simp [EOp.kind] at hk) | cases hx
        · cases hx
      · cases hx
    | _ => exfalso; simp only [compileOp0, Option.some.injEq, reduceCtorEq] at hx <;> (subst hx; simp [EOp.kind] at hk)
  rcases comp o.op hc hk with ⟨el, ho⟩ | ⟨el, x, ho⟩ | ⟨t, n, ps, ho⟩ | ⟨t, l, c, ho⟩ | ⟨src, dst, x, ho⟩
  · rw [ho] at hc
    simp only [compileOp0] at hc
    obtain ⟨⟨s, b, z⟩, h2, hc⟩ := Option.map_eq_some_iff.mp hc
    subst hc
    obtain ⟨inf, v, hi, hv, hs, hsz, rfl, rfl, rfl⟩ := rowT_some h2
    simp only [EOp.run, Option.some.injEq] at hr
    refine ⟨_, el, inf.size, fun n => .pointer (some ⟨n, 0, none⟩), hr.symm, fun w => ⟨v.cells, (0, 0), w, .pointer (some ⟨w.heap.size, 0, none⟩), ?_, .inl rfl, .inl rfl, ARel.cont (by simpa using scalars_rel (ρ := ρ) hs), fun ρ' n hn => ptr_new hn⟩⟩
    simp only [execOp, ho, Instr.alloc, newVar, Sem.run_bind, run_zero hi hv, newRow_run, Result.andThen_ok, Sem.run_pure]
  · rw [ho] at hc
    simp only [compileOp0] at hc
    obtain ⟨s, h2, hc⟩ := Option.map_eq_some_iff.mp hc
    subst hc
    simp only [EOp.run] at hr
    split at hr
    · cases hr
    · rename_i hb
      simp only [Option.some.injEq] at hr
      refine ⟨_, el, s, fun n => .pointer (some ⟨n, 0, none⟩), hr.symm, fun w => ⟨(a.eval x).cells, (0, 0), w, .pointer (some ⟨w.heap.size, 0, none⟩), ?_, .inl rfl, .inl rfl, ARel.cont ((hF.eval x).cells (by simpa using hb)), fun ρ' n hn => ptr_new hn⟩⟩
      simp only [execOp, ho, Instr.box, newVar, Sem.run_bind, newRow_run, Result.andThen_ok, Sem.run_pure]
  · rw [ho] at hc
    simp only [compileOp0, litC] at hc
    split at hc
    · rename_i el hel
      have ht := elemT_some hel
      split at hc
      · rename_i s b z hz
        obtain ⟨inf, v, hi, hv, hs, hsz, rfl, rfl, rfl⟩ := rowT_some hz
        split at hc
        · rename_i hn
          obtain ⟨qs, hqs, hc⟩ := Option.map_eq_some_iff.mp hc
          subst hc
          simp only [EOp.run] at hr
          split at hr
          · rename_i l hl
            simp only [Option.some.injEq] at hr
            refine ⟨l, el, inf.size, fun m => .slice (some ⟨m, 0, none⟩) n n, hr.symm, fun w => ?_⟩
            obtain ⟨C, k1, k2, k3⟩ := lit_fact P ht hi hv hs hsz w hF hn hqs hl
            refine ⟨C, (0, 0), w, _, ?_, .inl rfl, .inl rfl, k2.cont, fun ρ' m hm => slice_new hm (Nat.le_refl _) (Nat.le_refl _) (by omega)⟩
            simp only [execOp, ho, Sem.run_bind, k1, Result.andThen_ok, Sem.run_pure]
          · cases hr
        · cases hc
      · cases hc
    · cases hc
  · rw [ho] at hc
    simp only [compileOp0] at hc
    obtain ⟨el, h1, hc⟩ := Option.bind_eq_some_iff.mp hc
    obtain ⟨⟨s, b, z⟩, h2, hc⟩ := Option.map_eq_some_iff.mp hc
    subst hc
    obtain ⟨inf, v, hi, hv, hs, hsz, rfl, rfl, rfl⟩ := rowT_some h2
    simp only [EOp.run] at hr
    split at hr
    · rename_i k lv k' cv e1 e2
      split at hr
      · rename_i hcc
        simp only [Option.some.injEq] at hr
        obtain ⟨c1, c2, c3, c4⟩ := hcc
        have g1 := hF.eval l; rw [e1] at g1; have g1 := g1.int_inv
        have g2 := hF.eval c; rw [e2] at g2; have g2 := g2.int_inv
        refine ⟨_, el, inf.size, fun m => .slice (some ⟨m, 0, none⟩) lv.toNat cv.toNat, hr.symm, fun w => ?_⟩
        obtain ⟨C, k1, k2, k3⟩ := mks_fact P (elemT_some h1) hi hv hs hsz ρ w (k := k) (k' := k') c1 c2 c3 c4
        refine ⟨C, (0, 0), w, _, ?_, .inl rfl, .inl rfl, k2.cont, fun ρ' m hm => slice_new hm (by omega) (Nat.le_refl _) (by omega)⟩
        simp only [execOp, ho, g1, g2, Sem.run_bind, k1, Result.andThen_ok, Sem.run_pure]
      · cases hr
    · cases hr
  · rw [ho] at hc
    simp only [compileOp0, cvC] at hc
    split at hc
    · simp only [Option.some.injEq] at hc; subst hc; simp [EOp.kind] at hk
    · split at hc
      · simp only [Option.some.injEq] at hc; subst hc; simp [EOp.kind] at hk
      · cases hc
    · simp only [Option.some.injEq] at hc; subst hc; simp [EOp.kind] at hk
    · rename_i e' hs hd
      split at hc
      · rename_i hu
        have hu := isU8_true hu
        simp only [Option.some.injEq] at hc; subst hc
        simp only [EOp.run] at hr
        split at hr
        · rename_i s e1
          split at hr
          · rename_i hlt
            simp only [Option.some.injEq] at hr
            have g1 := hF.eval x; rw [e1] at g1; have g1 := g1.string_inv
            refine ⟨_, e', 1, fun m => .slice (some ⟨m, 0, none⟩) s.size s.size, hr.symm, fun w => ?_⟩
            obtain ⟨C, cap, k1, k2, k3, k4⟩ := cvSB_fact P ρ w e' s hlt
            refine ⟨C, (C.size, C.size + 1), w.drew, _, ?_, .inr rfl, .inr (Nat.le_refl _), k4, fun ρ' m hm => slice_new hm (Nat.le_refl _) k2 (by omega)⟩
            simp only [execOp, ho, g1, convert, Sem.run_bind, run_underlying hs, run_underlying hd, run_underlying hu, Result.andThen_ok, k1, Sem.run_pure]
          · cases hr
        · cases hr
      · cases hc
    · split at hc
      · simp only [Option.some.injEq] at hc; subst hc; simp [EOp.kind] at hk
      · cases hc
    · cases hc

/-- An operation that reads alone, where its result is what it was. -/
theorem quiet_op {P : Program} {W0 : Fz} {ρ : Ren} {S : AW} {w : World} (h : RelW W0 ρ S w) {F : AF} {a : Act} (hF : FRel ρ F a) {o : Oper} {e : EOp} (hc : compileOp P o.op = some e) (hk : e.kind ≤ 1) {v : Value} {S' : AW} (hr : e.run F S = some (.val v S')) :
    ∃ v' w', RelW W0 ρ S w' ∧ VRel ρ v v' ∧ ((execOp a.eval o).run P w = .ok (.value v') w' ∨ ((execOp a.eval o).run P w = .ok .skip w' ∧ v' = undef)) := by
  obtain ⟨ρ', v', w', k1, k2, k3, k4, k5⟩ := op_ok h hF hc hr
  obtain ⟨rfl, rfl⟩ := k5 (by simpa using hk)
  exact ⟨v', w', k2, k3, k4⟩
theorem quiet_val {e : EOp} (hk : e.kind ≤ 1) {F : AF} {S : AW} {r : Res} (hr : e.run F S = some r) : ∃ v, r = .val v S := by
  cases e <;> (try (simp [EOp.kind] at hk; done)) <;> simp only [EOp.run] at hr
  all_goals
    first
    | (simp only [Option.some.injEq] at hr; subst hr; exact ⟨_, rfl⟩)
    | (repeat' (split at hr)) <;> first | (cases hr; done) | (simp only [Option.some.injEq] at hr; subst hr; exact ⟨_, rfl⟩)
end Go.Proofs.Ythclmjelknibhaa.Ev
