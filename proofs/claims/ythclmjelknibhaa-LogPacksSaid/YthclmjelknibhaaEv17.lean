/- Each operation of the program does what ours does: memory, calls; all together. -/
import Derived.Test.YthclmjelknibhaaEv16
namespace Go.Proofs.Ythclmjelknibhaa.Ev
open Go Go.RowKit
set_option linter.unusedVariables false
set_option linter.unusedSimpArgs false
set_option linter.unusedSectionVars false

theorem FRel.evals {ρ : Ren} {F : AF} {a : Act} (h : FRel ρ F a) (xs : List Operand) : ARel ρ (xs.map F.ev).toArray (xs.map a.eval).toArray := by
  refine ⟨by simp, fun i h1 h2 => ?_⟩
  simp only [List.getElem_toArray, List.getElem_map]
  exact h.eval _
theorem ARel.append {ρ : Ren} {a b a' b' : Array Value} (h : ARel ρ a a') (k : ARel ρ b b') : ARel ρ (a ++ b) (a' ++ b') := by
  refine ⟨by simp [h.1, k.1], fun i h1 h2 => ?_⟩
  simp only [Array.getElem_append]
  have := h.1
  by_cases c : i < a.size
  · rw [dif_pos c, dif_pos (by omega)]; exact h.2 i c (by omega)
  · rw [dif_neg c, dif_neg (by omega)]
    have e : i - a'.size = i - a.size := by omega
    simp only [e]
    exact k.2 _ (by simp at h1; omega) _

section ops
variable {P : Program} {W0 : Fz} {ρ : Ren} {S : AW} {w : World} {F : AF} {a : Act} (h : RelW W0 ρ S w) (hF : FRel ρ F a) {o : Oper} {r : Res} {q : Bool}
include h hF

theorem ok_nilc {x : Operand} (ho : o.op = .nilCheck x) (hr : (EOp.nilc x).run F S = some r) : StepOk P W0 ρ o a w S q r := by
  simp only [EOp.run] at hr
  split at hr
  · rename_i ad e1
    simp only [Option.some.injEq] at hr; subst hr
    have g1 := hF.eval x; rw [e1] at g1
    cases g1e : a.eval x with
    | pointer q =>
      rw [g1e] at g1
      cases q with
      | none => cases g1
      | some q =>
        refine .quiet h g1 ?_
        simp only [execOp, ho, g1e]; rfl
    | _ => rw [g1e] at g1; cases g1
  · rename_i fn b1 b2 e1
    simp only [Option.some.injEq] at hr; subst hr
    have g1 := hF.eval x; rw [e1] at g1
    generalize hv : a.eval x = v' at g1
    have g2 := g1
    cases g1 with
    | func f fs cs fs' cs' h1 h2 h3 h4 =>
      refine .quiet h g2 ?_
      simp only [execOp, ho, hv]; rfl
  · cases hr

theorem ok_mkf {f : FuncId} {fs cs : Array Operand} (ho : o.op = .makeFunc (.func f) fs cs) (hr : (EOp.mkf f fs.toList cs.toList).run F S = some r) : StepOk P W0 ρ o a w S q r := by
  simp only [EOp.run, Option.some.injEq] at hr
  subst hr
  have h1 := hF.evals fs.toList
  have h2 := hF.evals cs.toList
  refine .quiet h (.func f _ _ _ _ h1.1 h1.2 h2.1 h2.2) ?_
  simp only [execOp, ho, Instr.makeFunc, Sem.run_bind, Sem.run_pure, Result.andThen_ok]
  congr 2
  exact congr (congrArg _ (by apply Array.ext'; simp)) (by apply Array.ext'; simp)

omit h hF in
/-- A call of a builtin function. -/
theorem run_builtin {c : Call} {b : Builtin} (ho : o.op = .call c) (hc : c.callee = .builtin b) : ∃ cs, (execOp a.eval o).run P w = (builtin b c.argTypes o.type cs (c.args.map a.eval)).run P w := by
  simp only [execOp, ho, resolve, hc, Sem.run_bind, Sem.run_pure, Result.andThen_ok, invoke]
  exact ⟨_, rfl⟩

theorem ok_cap {c : Call} {e : EOp} (ho : o.op = .call c) (hc : c.callee = .builtin .cap) (he : capC P c.argTypes c.args = some e) (hr : e.run F S = some r) : StepOk P W0 ρ o a w S q r := by
  obtain ⟨ks, hb⟩ := run_builtin (P := P) (w := w) (a := a) ho hc
  unfold capC at he
  split at he
  · rename_i t x h0 hx
    have hargs : c.args.map a.eval = #[a.eval x] := by apply Array.ext'; simp [hx]
    split at he
    · rename_i el ht
      simp only [Option.some.injEq] at he; subst he
      simp only [EOp.run] at hr
      split at hr
      · rename_i e1
        simp only [Option.some.injEq] at hr; subst hr
        have g1 := hF.eval x; rw [e1] at g1
        have g2 : a.eval x = .slice none 0 0 := by revert g1; generalize a.eval x = y; intro g1; cases g1; rfl
        refine .quiet h (.int _ _) ?_
        rw [hb, hargs]
        have hrun : (Builtin.cap_ c.argTypes o.type #[a.eval x]).run P w = .ok (.int .i64 0) w := by simp [Builtin.cap_, h0, g2, run_underlying ht, goInt]
        simp only [builtin, Sem.run_bind, hrun, Result.andThen_ok, Sem.run_pure]
      · cases hr
    · cases he
  · cases he
theorem ok_len {c : Call} {e : EOp} (ho : o.op = .call c) (hc : c.callee = .builtin .len) (he : lenC P c.argTypes c.args = some e) (hr : e.run F S = some r) : StepOk P W0 ρ o a w S q r := by
  obtain ⟨ks, hb⟩ := run_builtin (P := P) (w := w) (a := a) ho hc
  unfold lenC at he
  split at he
  · rename_i t x h0 hx
    have hargs : c.args.map a.eval = #[a.eval x] := by apply Array.ext'; simp [hx]
    have key : ∀ n : Nat, (Builtin.len_ c.argTypes o.type #[a.eval x]).run P w = .ok (.int .i64 n) w → StepOk P W0 ρ o a w S q (.val (.int .i64 n) S) := by
      intro n hrun
      refine .quiet h (.int _ _) ?_
      rw [hb, hargs]
      simp only [builtin, Sem.run_bind, hrun, Result.andThen_ok, Sem.run_pure]
    split at he
    · rename_i ht
      simp only [Option.some.injEq] at he; subst he
      simp only [EOp.run] at hr
      split at hr
      · rename_i s _ e1
        simp only [Option.some.injEq] at hr; subst hr
        have g1 := hF.eval x; rw [e1] at g1; have g1 := g1.string_inv
        refine key _ ?_
        simp [Builtin.len_, h0, g1, run_underlying ht, goInt]
      · rename_i e1 _; cases e1
      · cases hr
    · rename_i el ht
      simp only [Option.some.injEq] at he; subst he
      simp only [EOp.run] at hr
      split at hr
      · rename_i e1 _; cases e1
      · rename_i ad n cc _ e1
        simp only [Option.some.injEq] at hr; subst hr
        have g1 := hF.eval x; rw [e1] at g1
        refine key _ ?_
        generalize a.eval x = x' at g1
        cases g1 <;> simp [Builtin.len_, h0, run_underlying ht, goInt]
      · cases hr
    · rename_i n el ht
      simp only [Option.some.injEq] at he; subst he
      simp only [EOp.run, Option.some.injEq] at hr; subst hr
      refine key _ ?_
      simp [Builtin.len_, h0, run_underlying ht, goInt]
    · rename_i kT el ht
      simp only [Option.some.injEq] at he; subst he
      simp only [EOp.run] at hr
      refine ok_v h hF hr fun v hv => ?_
      obtain ⟨v', k1, k2⟩ := lenM_ok P (ty := o.type) h0 ht h (hF.eval x) hv
      refine ⟨v', k2, ?_⟩
      rw [hb, hargs]
      simp only [builtin, Sem.run_bind, k1, Result.andThen_ok, Sem.run_pure]
    · cases he
  · cases he

theorem ok_mm {c : Call} (mx : Bool) (ho : o.op = .call c) (hc : c.callee = .builtin (if mx then .max else .min)) (hr : (if mx then EOp.mx c.args.toList else EOp.mn c.args.toList).run F S = some r) : StepOk P W0 ρ o a w S q r := by
  obtain ⟨ks, hb⟩ := run_builtin (P := P) (w := w) (a := a) ho hc
  have key : ∀ v, mmV mx (c.args.toList.map F.ev) = some v → ∃ v', VRel ρ v v' ∧ (execOp a.eval o).run P w = .ok (.value v') w := by
    intro v hv
    obtain ⟨k1, k2⟩ := mm_ok P c.argTypes o.type mx hv (hF.evals c.args.toList)
    refine ⟨v, .flat_refl k2, ?_⟩
    rw [hb]
    have hargs : c.args.map a.eval = (c.args.toList.map a.eval).toArray := by apply Array.ext'; simp
    rw [hargs]
    have := k1 w
    cases mx
    · simp only [Bool.false_eq_true, if_false] at this ⊢
      simp only [builtin, Sem.run_bind, this, Result.andThen_ok, Sem.run_pure]
    · simp only [if_true] at this ⊢
      simp only [builtin, Sem.run_bind, this, Result.andThen_ok, Sem.run_pure]
  cases mx
  · exact ok_v h hF hr key
  · exact ok_v h hF hr key

theorem ok_ld {t : TypeId} {x : Operand} {sz : Option Nat} (ho : o.op = .load t x) (hs : szOf P t = some sz) (hr : (EOp.ld sz x).run F S = some r) : StepOk P W0 ρ o a w S q r := by
  simp only [EOp.run] at hr
  split at hr
  · rename_i i o' e1
    refine ok_v h hF hr fun v hv => ?_
    have g1 := hF.eval x; rw [e1] at g1
    obtain ⟨v', k1, k2⟩ := ld_ok P hs h g1 hv
    exact ⟨v', k2, by simp only [execOp, ho, Sem.run_bind, k1, Result.andThen_ok, Sem.run_pure]⟩
  · cases hr

theorem ok_st {t : TypeId} {x y : Operand} {s : Nat} (ho : o.op = .store t x y) (hs : sizeT P t = some s) (hr : (EOp.st s x y).run F S = some r) (hq : q = false) : StepOk P W0 ρ o a w S q r := by
  obtain ⟨inf, hi, rfl⟩ := sizeT_some hs
  simp only [EOp.run] at hr
  split at hr
  · rename_i i o' e1
    split at hr
    · rename_i rr hrr
      split at hr
      · rename_i hc
        simp only [Option.some.injEq] at hr; subst hr
        simp only [Bool.and_eq_true, Bool.not_eq_true', decide_eq_true_eq] at hc
        obtain ⟨⟨⟨c1, c2⟩, c3⟩, c4⟩ := hc
        have g1 := hF.eval x; rw [e1] at g1
        obtain ⟨w', k1, k2⟩ := st_ok P hi h g1 hrr c1 (hF.eval y) c2 c3 c4
        refine ⟨ρ, undef, w', Grow.refl _ ρ, k2, .undef, .inr ⟨?_, rfl⟩, fun hh => by rw [hq] at hh; cases hh⟩
        simp only [execOp, ho, Sem.run_bind, k1, Result.andThen_ok, Sem.run_pure]
      · cases hr
    · cases hr
  · cases hr

theorem ok_new {el s b : Nat} {z : List Value} (ho : o.op = .alloc el) (hz : rowT P el = some (s, b, z)) (hr : (EOp.new el s z).run F S = some r) (hq : q = false) : StepOk P W0 ρ o a w S q r := by
  obtain ⟨inf, v, hi, hv, hs, hsz, rfl, rfl, rfl⟩ := rowT_some hz
  simp only [EOp.run, Option.some.injEq] at hr; subst hr
  obtain ⟨ρ', v', w', k1, k2, k3, k4⟩ := alloc_ok P h hi hv hs inf.size
  exact ⟨ρ', v', w', k1, k3, k4, .inl (by simp only [execOp, ho, Sem.run_bind, k2, Result.andThen_ok, Sem.run_pure]), fun hh => by rw [hq] at hh; cases hh⟩

theorem ok_box {el s : Nat} {x : Operand} (ho : o.op = .box el x) (hr : (EOp.box el s x).run F S = some r) (hq : q = false) : StepOk P W0 ρ o a w S q r := by
  simp only [EOp.run] at hr
  split at hr
  · cases hr
  · rename_i hb
    simp only [Option.some.injEq] at hr; subst hr
    obtain ⟨ρ', v', w', k1, k2, k3, k4⟩ := box_ok P h (hF.eval x) (by simpa using hb) el s
    exact ⟨ρ', v', w', k1, k3, k4, .inl (by simp only [execOp, ho, Sem.run_bind, k2, Result.andThen_ok, Sem.run_pure]), fun hh => by rw [hq] at hh; cases hh⟩

theorem ok_lit {t : TypeId} {n : Nat} {parts : Array (Nat × Operand)} {e : EOp} (ho : o.op = .buildSlice t n parts) (hc : litC P t n parts = some e) (hr : e.run F S = some r) (hq : q = false) : StepOk P W0 ρ o a w S q r := by
  unfold litC at hc
  split at hc
  · rename_i el hel
    have ht := elemT_some hel
    split at hc
    · rename_i s b z hz
      obtain ⟨inf, v, hi, hv, hs, hsz, rfl, rfl, rfl⟩ := rowT_some hz
      split at hc
      · rename_i hn
        obtain ⟨qs, hqs, hc⟩ := Option.map_eq_some_iff.mp hc
        subst hc
        simp only [EOp.run] at hr
        split at hr
        · rename_i l hl
          simp only [Option.some.injEq] at hr; subst hr
          obtain ⟨ρ', v', w', k1, k2, k3, k4⟩ := lit_ok P ht hi hv hs hsz h hF hn hqs hl
          exact ⟨ρ', v', w', k1, k3, k4, .inl (by simp only [execOp, ho, Sem.run_bind, k2, Result.andThen_ok, Sem.run_pure]), fun hh => by rw [hq] at hh; cases hh⟩
        · cases hr
      · cases hc
    · cases hc
  · cases hc

theorem ok_mks {t el : TypeId} {l c : Operand} {s b : Nat} {z : List Value} (ho : o.op = .makeSlice t l c) (hel : elemT P t = some el) (hz : rowT P el = some (s, b, z)) (hr : (EOp.mks el s b z l c).run F S = some r) (hq : q = false) : StepOk P W0 ρ o a w S q r := by
  obtain ⟨inf, v, hi, hv, hs, hsz, rfl, rfl, rfl⟩ := rowT_some hz
  simp only [EOp.run] at hr
  split at hr
  · rename_i k lv k' cv e1 e2
    split at hr
    · rename_i hc
      simp only [Option.some.injEq] at hr; subst hr
      obtain ⟨c1, c2, c3, c4⟩ := hc
      have g1 := hF.eval l; rw [e1] at g1; have g1 := g1.int_inv
      have g2 := hF.eval c; rw [e2] at g2; have g2 := g2.int_inv
      obtain ⟨ρ', v', w', k1, k2, k3, k4⟩ := mks_ok P (elemT_some hel) hi hv hs hsz h (k := k) (k' := k') c1 c2 c3 c4
      exact ⟨ρ', v', w', k1, k3, k4, .inl (by simp only [execOp, ho, g1, g2, Sem.run_bind, k2, Result.andThen_ok, Sem.run_pure]), fun hh => by rw [hq] at hh; cases hh⟩
    · cases hr
  · cases hr

theorem ok_app {c : Call} {e : EOp} (ho : o.op = .call c) (hc : c.callee = .builtin .append) (he : appC P c.argTypes c.args = some e) (hr : e.run F S = some r) (hq : q = false) : StepOk P W0 ρ o a w S q r := by
  unfold appC at he
  split at he
  · rename_i sT xT s x h0 h1 hargs
    have ha : c.args.map a.eval = #[a.eval s, a.eval x] := by apply Array.ext'; simp [hargs]
    split at he
    · rename_i el d hel hd
      split at he
      · rename_i sz b z hz
        obtain ⟨inf, v, hi, hv, hs, hsz, rfl, rfl, rfl⟩ := rowT_some hz
        split at he
        · rename_i hint
          simp only [Option.some.injEq] at he; subst he
          obtain ⟨kx, rfl⟩ : ∃ kx, d = .int kx := by cases d <;> first | exact ⟨_, rfl⟩ | simp [isIntT] at hint
          simp only [EOp.run] at hr
          split at hr
          · rename_i k hk
            split at hr
            · rename_i hb
              obtain ⟨b1, b2, b3⟩ := hb
              split at hr
              · cases hr
              · rename_i hok
                split at hr
                · rename_i v' S' hv'
                  simp only [Option.some.injEq] at hr; subst hr
                  have gx := hF.eval x; rw [hk] at gx; have gx := gx.int_inv
                  have hkn : k = ((k.toNat : Nat) : Int) := by omega
                  obtain ⟨ρ', u', w', k1, k2, k3, k4⟩ := appz_ok P (ty := o.type) h0 h1 (elemT_some hel) hd hi hv hsz hs h (hF.eval s) (n := k.toNat) (by omega) (by
                    have : ((k.toNat * inf.bytes : Nat) : Int) ≤ 281474976710656 := by rw [Int.natCast_mul, ← hkn]; exact b3
                    omega) (by cases hb : ((List.replicate k.toNat v.cells.toList).flatten).all cellOk with | true => rfl | false => rw [hb] at hok; exact absurd rfl hok) hv'
                  rw [← hkn] at k2
                  refine ⟨ρ', u', w', k1, k3, k4, .inl ?_, fun hh => by rw [hq] at hh; cases hh⟩
                  obtain ⟨ks, hb⟩ := run_builtin (P := P) (w := w) (a := a) ho hc
                  rw [hb, ha, gx]
                  simp only [builtin, Sem.run_bind, k2, Result.andThen_ok, Sem.run_pure]
                · cases hr
            · cases hr
          · cases hr
        · rename_i hint
          simp only [Option.some.injEq] at he; subst he
          simp only [EOp.run] at hr
          split at hr
          · cases hr
          · rename_i n nw hsrc
            split at hr
            · cases hr
            · rename_i hok
              split at hr
              · rename_i v' S' hv'
                simp only [Option.some.injEq] at hr; subst hr
                obtain ⟨ρ', u', w', k1, k2, k3, k4⟩ := app_ok P (ty := o.type) h0 h1 (elemT_some hel) hd (by simpa using hint) hi hv hsz h (hF.eval s) (hF.eval x) hsrc (by simpa using hok) hv'
                refine ⟨ρ', u', w', k1, k3, k4, .inl ?_, fun hh => by rw [hq] at hh; cases hh⟩
                obtain ⟨ks, hb⟩ := run_builtin (P := P) (w := w) (a := a) ho hc
                rw [hb, ha]
                simp only [builtin, Sem.run_bind, k2, Result.andThen_ok, Sem.run_pure]
              · cases hr
      · cases he
    · cases he
  · cases he

theorem ok_call {c : Call} {x : Operand} (ho : o.op = .call c) (hc : c.callee = .value x) (hr : (EOp.callV x c.args.toList).run F S = some r) : StepOk P W0 ρ o a w S q r := by
  simp only [EOp.run] at hr
  split at hr
  · rename_i g fs cs e1
    simp only [Option.some.injEq] at hr; subst hr
    have g1 := hF.eval x; rw [e1] at g1
    generalize hv : a.eval x = v' at g1
    cases g1 with
    | func f fs cs fs' cs' h1 h2 h3 h4 =>
      refine ⟨fs' ++ (c.args.toList.map a.eval).toArray ++ cs', ?_, ?_⟩
      · have := (ARel.append (⟨h1, h2⟩ : ARel ρ fs fs') (hF.evals c.args.toList)).append (⟨h3, h4⟩ : ARel ρ cs cs')
        have e2 : (fs.toList ++ c.args.toList.map F.ev ++ cs.toList).toArray = fs ++ (c.args.toList.map F.ev).toArray ++ cs := by apply Array.ext'; simp
        rw [e2]; exact this
      · have ha : c.args.map a.eval = (c.args.toList.map a.eval).toArray := by apply Array.ext'; simp
        simp only [execOp, ho, resolve, hc, hv, Deferred.ofValue, Sem.run_bind, Sem.run_pure, Result.andThen_ok, invoke, ha]
  · cases hr
theorem ok_callF {c : Call} {f : FuncId} (ho : o.op = .call c) (hc : c.callee = .value (.func f)) (hr : (EOp.call f c.args.toList).run F S = some r) : StepOk P W0 ρ o a w S q r := by
  refine ok_call h hF ho hc ?_
  simp only [EOp.run, Option.some.injEq] at hr
  subst hr
  simp [EOp.run, AF.ev]

omit h hF in
theorem litC_kind {t : TypeId} {n : Nat} {parts : Array (Nat × Operand)} {e : EOp} (hc : litC P t n parts = some e) : decide (e.kind ≤ 1) = false := by
  unfold litC at hc
  split at hc
  · split at hc
    · split at hc
      · obtain ⟨qs, _, hc⟩ := Option.map_eq_some_iff.mp hc
        subst hc; rfl
      · cases hc
    · cases hc
  · cases hc
omit h hF in
theorem appC_kind {ts : Array TypeId} {xs : Array Operand} {e : EOp} (hc : appC P ts xs = some e) : decide (e.kind ≤ 1) = false := by
  unfold appC at hc
  split at hc
  · split at hc
    · split at hc
      · split at hc <;> (simp only [Option.some.injEq] at hc; subst hc; rfl)
      · cases hc
    · cases hc
  · cases hc

theorem ok_mkm {t : TypeId} {r0 : Option Operand} {m : TypeId × TypeId × KS} (ho : o.op = .makeMap t r0) (hm : mapT P t = some m) (hr : (EOp.mkm r0).run F S = some r) (hq : q = false) : StepOk P W0 ρ o a w S q r := by
  obtain ⟨k, e, ks⟩ := m
  obtain ⟨hu, _⟩ := mapT_some hm
  simp only [EOp.run] at hr
  split at hr
  · rename_i on hon
    simp only [Option.some.injEq] at hr; subst hr
    obtain ⟨ρ', v', w', k1, k2, k3, k4⟩ := mkm_ok P hu h (r := r0.map F.ev) (r' := r0.map a.eval) (fun v hv => by
      obtain ⟨x, rfl, rfl⟩ := Option.map_eq_some_iff.mp hv
      exact ⟨_, rfl, hF.eval x⟩) (fun hn => by cases r0 with | none => rfl | some _ => simp at hn) hon
    exact ⟨ρ', v', w', k1, k3, k4, .inl (by simp only [execOp, ho, Sem.run_bind, k2, Result.andThen_ok, Sem.run_pure]), fun hh => by rw [hq] at hh; cases hh⟩
  · cases hr
theorem ok_mlk {t : TypeId} {x i : Operand} {b : Bool} {e : EOp} (ho : o.op = .lookup t x i b) (hc : mlkC P t x i b = some e) (hr : e.run F S = some r) : StepOk P W0 ρ o a w S q r := by
  unfold mlkC at hc
  split at hc
  · rename_i k el ks hm
    obtain ⟨hu, hks⟩ := mapT_some hm
    obtain ⟨z, hz, hc⟩ := Option.map_eq_some_iff.mp hc
    obtain ⟨inf, hi, hiz, hf⟩ := zeroT_some hz
    subst hc
    simp only [EOp.run] at hr
    refine ok_v h hF hr fun v hv => ?_
    obtain ⟨v', k1, k2⟩ := mlk_ok P hu hks hi hiz hf h (hF.eval x) (hF.eval i) hv
    exact ⟨v', k2, by simp only [execOp, ho, Sem.run_bind, k1, Result.andThen_ok, Sem.run_pure]⟩
  · cases hc
theorem ok_mup {t : TypeId} {x k y : Operand} {m : TypeId × TypeId × KS} (ho : o.op = .mapUpdate t x k y ∨ o.op = .insert t x k y) (hm : mapT P t = some m) (hr : (EOp.mup m.2.2 x k y).run F S = some r) (hq : q = false) : StepOk P W0 ρ o a w S q r := by
  obtain ⟨kT, e, ks⟩ := m
  obtain ⟨hu, hks⟩ := mapT_some hm
  simp only [EOp.run] at hr
  split at hr
  · rename_i S' hS'
    simp only [Option.some.injEq] at hr; subst hr
    obtain ⟨w', k1, k2, k3⟩ := mup_ok P hu hks h (hF.eval x) (hF.eval k) (hF.eval y) hS'
    refine ⟨ρ, undef, w', by rw [k3]; exact Grow.refl _ ρ, k2, .undef, .inr ⟨?_, rfl⟩, fun hh => by rw [hq] at hh; cases hh⟩
    rcases ho with ho | ho <;> simp only [execOp, ho, Sem.run_bind, k1, Result.andThen_ok, Sem.run_pure]
  · cases hr
theorem ok_mdel {c : Call} {e : EOp} (ho : o.op = .call c) (hc : c.callee = .builtin .delete) (he : delC P c.argTypes c.args = some e) (hr : e.run F S = some r) {q : Bool} (hq : e.kind = 3 → q = false) : StepOk P W0 ρ o a w S q r := by
  unfold delC at he
  split at he
  · rename_i t x k h0 hargs
    obtain ⟨⟨kT, el, ks⟩, hm, he⟩ := Option.map_eq_some_iff.mp he
    obtain ⟨hu, hks⟩ := mapT_some hm
    subst he
    have hq := hq rfl
    simp only [EOp.run] at hr
    split at hr
    · rename_i S' hv
      simp only [Option.some.injEq] at hr; subst hr
      obtain ⟨w', k1, k2, k3⟩ := mdel_ok P (ty := o.type) h0 hu hks h (hF.eval x) (hF.eval k) hv
      refine ⟨ρ, _, w', by rw [k3]; exact Grow.refl _ ρ, k2, .undef, .inl ?_, fun hh => by rw [hq] at hh; cases hh⟩
      have ha : c.args.map a.eval = #[a.eval x, a.eval k] := by apply Array.ext'; simp [hargs]
      obtain ⟨cs, hb⟩ := run_builtin (P := P) (w := w) (a := a) ho hc
      rw [hb, ha]
      simp only [builtin, Sem.run_bind, k1, Result.andThen_ok, Sem.run_pure]
      rfl
    · cases hr
  · cases he

theorem ok_cpy {c : Call} {e : EOp} (ho : o.op = .call c) (hc : c.callee = .builtin .copy) (he : cpyC P c.argTypes c.args = some e) (hr : e.run F S = some r) {q : Bool} (hq : e.kind = 3 → q = false) : StepOk P W0 ρ o a w S q r := by
  unfold cpyC at he
  split at he
  · rename_i dT d s h0 hargs
    split at he
    · rename_i el hel
      obtain ⟨sz, hsz, he⟩ := Option.map_eq_some_iff.mp he
      obtain ⟨inf, hi, rfl⟩ := sizeT_some hsz
      subst he
      have hq := hq rfl
      simp only [EOp.run] at hr
      split at hr
      · rename_i n S' hv
        simp only [Option.some.injEq] at hr; subst hr
        obtain ⟨w', k1, k2, k3⟩ := cpy_ok P (ty := o.type) h0 (elemT_some hel) hi h (hF.eval d) (hF.eval s) hv
        refine ⟨ρ, _, w', by rw [k3]; exact Grow.refl _ ρ, k2, .int _ _, .inl ?_, fun hh => by rw [hq] at hh; cases hh⟩
        have ha : c.args.map a.eval = #[a.eval d, a.eval s] := by apply Array.ext'; simp [hargs]
        obtain ⟨ks, hb⟩ := run_builtin (P := P) (w := w) (a := a) ho hc
        rw [hb, ha]
        simp only [builtin, Sem.run_bind, k1, Result.andThen_ok, Sem.run_pure]
      · cases hr
    · cases he
  · cases he

theorem op_ok0 {e : EOp} (hc : compileOp0 P o.op = some e) (hr : e.run F S = some r) : StepOk P W0 ρ o a w S (decide (e.kind ≤ 1)) r := by
  cases ho : o.op with
  | move x => rw [ho] at hc; simp only [compileOp0, Option.some.injEq] at hc; subst hc; exact ok_mov h hF (.inl ho) hr
  | assign x => rw [ho] at hc; simp only [compileOp0, Option.some.injEq] at hc; subst hc; exact ok_mov h hF (.inr ho) hr
  | pick c x y => rw [ho] at hc; simp only [compileOp0, Option.some.injEq] at hc; subst hc; exact ok_pick h hF ho hr
  | binOp op t x y yt =>
    rw [ho] at hc
    cases op <;> simp only [compileOp0, Option.some.injEq] at hc
    case eql => exact ok_eq h hF (neg := false) ho hc hr
    case neq => exact ok_eq h hF (neg := true) ho hc hr
    all_goals (subst hc; exact ok_bin h hF ho hr)
  | unOp op t x => rw [ho] at hc; simp only [compileOp0, Option.some.injEq] at hc; subst hc; exact ok_un h hF ho hr
  | convert s d x => rw [ho] at hc; simp only [compileOp0] at hc; exact ok_cv h hF ho hc hr (by simp)
  | field t x f =>
    rw [ho] at hc
    simp only [compileOp0] at hc
    obtain ⟨fd, h1, hc⟩ := Option.bind_eq_some_iff.mp hc
    obtain ⟨sz, h2, hc⟩ := Option.map_eq_some_iff.mp hc
    subst hc
    exact ok_fld h hF ho h1 h2 hr
  | extract x i => rw [ho] at hc; simp only [compileOp0, Option.some.injEq] at hc; subst hc; exact ok_ext h hF ho hr
  | build t parts => rw [ho] at hc; simp only [compileOp0] at hc; exact ok_build h hF ho hc hr
  | fieldAddr t x f =>
    rw [ho] at hc
    simp only [compileOp0] at hc
    obtain ⟨fd, h1, hc⟩ := Option.bind_eq_some_iff.mp hc
    obtain ⟨s, h2, hc⟩ := Option.bind_eq_some_iff.mp hc
    split at hc
    · cases hc
    · rename_i h0
      simp only [Option.some.injEq] at hc
      subst hc
      exact ok_fad h hF ho h1 h2 h0 hr
  | indexAddr t x i =>
    rw [ho] at hc
    simp only [compileOp0] at hc
    split at hc
    · rename_i el ht
      obtain ⟨s, h2, hc⟩ := Option.map_eq_some_iff.mp hc
      subst hc
      exact ok_iad h hF ho ht h2 hr
    · rename_i n el ht
      obtain ⟨s, h2, hc⟩ := Option.map_eq_some_iff.mp hc
      subst hc
      exact ok_iadA h hF ho ht h2 hr
    · cases hc
  | index t x i =>
    rw [ho] at hc
    simp only [compileOp0] at hc
    split at hc
    · rename_i ht
      simp only [Option.some.injEq] at hc
      subst hc
      exact ok_idxS h hF ho ht hr
    · rename_i n el ht
      split at hc
      · rename_i sz s h1 h2
        simp only [Option.some.injEq] at hc
        subst hc
        exact ok_idxA h hF ho ht h1 h2 hr
      · cases hc
    · cases hc
  | slice t x lo hi mx => rw [ho] at hc; simp only [compileOp0] at hc; exact ok_slice h hF ho hc hr
  | nilCheck x => rw [ho] at hc; simp only [compileOp0, Option.some.injEq] at hc; subst hc; exact ok_nilc h hF ho hr
  | makeFunc fn fs cs =>
    rw [ho] at hc
    cases fn <;> simp only [compileOp0, Option.some.injEq, reduceCtorEq] at hc
    subst hc
    exact ok_mkf h hF ho hr
  | load t x =>
    rw [ho] at hc
    simp only [compileOp0] at hc
    obtain ⟨sz, h2, hc⟩ := Option.map_eq_some_iff.mp hc
    subst hc
    exact ok_ld h hF ho h2 hr
  | store t x y =>
    rw [ho] at hc
    simp only [compileOp0] at hc
    obtain ⟨sz, h2, hc⟩ := Option.map_eq_some_iff.mp hc
    subst hc
    exact ok_st h hF ho h2 hr rfl
  | alloc el =>
    rw [ho] at hc
    simp only [compileOp0] at hc
    obtain ⟨⟨s, b, z⟩, h2, hc⟩ := Option.map_eq_some_iff.mp hc
    subst hc
    exact ok_new h hF ho h2 hr rfl
  | box el x =>
    rw [ho] at hc
    simp only [compileOp0] at hc
    obtain ⟨s, h2, hc⟩ := Option.map_eq_some_iff.mp hc
    subst hc
    exact ok_box h hF ho hr rfl
  | buildSlice t n parts => rw [ho] at hc; simp only [compileOp0] at hc; exact ok_lit h hF ho hc hr (litC_kind hc)
  | makeSlice t l c =>
    rw [ho] at hc
    simp only [compileOp0] at hc
    obtain ⟨el, h1, hc⟩ := Option.bind_eq_some_iff.mp hc
    obtain ⟨⟨s, b, z⟩, h2, hc⟩ := Option.map_eq_some_iff.mp hc
    subst hc
    exact ok_mks h hF ho h1 h2 hr rfl
  | makeMap t r0 =>
    rw [ho] at hc
    simp only [compileOp0] at hc
    obtain ⟨m, h1, hc⟩ := Option.map_eq_some_iff.mp hc
    subst hc
    exact ok_mkm h hF ho h1 hr rfl
  | lookup t x i b => rw [ho] at hc; simp only [compileOp0] at hc; exact ok_mlk h hF ho hc hr
  | mapUpdate t x k y =>
    rw [ho] at hc
    simp only [compileOp0] at hc
    obtain ⟨m, h1, hc⟩ := Option.map_eq_some_iff.mp hc
    subst hc
    exact ok_mup h hF (.inl ho) h1 hr rfl
  | insert t x k y =>
    rw [ho] at hc
    simp only [compileOp0] at hc
    obtain ⟨m, h1, hc⟩ := Option.map_eq_some_iff.mp hc
    subst hc
    exact ok_mup h hF (.inr ho) h1 hr rfl
  | call c =>
    rw [ho] at hc
    simp only [compileOp0, callC] at hc
    split at hc
    · rename_i f hcal
      simp only [Option.some.injEq] at hc; subst hc
      exact ok_callF h hF ho hcal hr
    · rename_i x _ hcal
      simp only [Option.some.injEq] at hc; subst hc
      exact ok_call h hF ho hcal hr
    · rename_i hcal; exact ok_app h hF ho hcal hc hr (appC_kind hc)
    · rename_i hcal; exact ok_len h hF ho hcal hc hr
    · rename_i hcal; exact ok_cpy h hF ho hcal hc hr (fun hk => by simp [hk])
    · rename_i hcal; exact ok_mdel h hF ho hcal hc hr (fun hk => by simp [hk])
    · rename_i hcal
      simp only [Option.some.injEq] at hc; subst hc
      exact ok_mm h hF true ho hcal hr
    · rename_i hcal
      simp only [Option.some.injEq] at hc; subst hc
      exact ok_mm h hF false ho hcal hr
    · rename_i hcal; exact ok_cap h hF ho hcal hc hr
    · cases hc
  | _ => rw [ho] at hc; simp [compileOp0] at hc
theorem op_ok {e : EOp} (hc : compileOp P o.op = some e) (hr : e.run F S = some r) : StepOk P W0 ρ o a w S (decide (e.kind ≤ 1)) r := by
  rcases compileOp_inv hc with hc | rfl
  · exact op_ok0 h hF hc hr
  · simp [EOp.run] at hr
end ops
end Go.Proofs.Ythclmjelknibhaa.Ev
