/- A tree is a function of the program; the world at the start; functions that have no text. -/
import Derived.Test.YthclmjelknibhaaEv30
namespace Go.Proofs.Ythclmjelknibhaa.Ev
open Go Go.RowKit
set_option linter.unusedVariables false
set_option linter.unusedSimpArgs false
set_option linter.unusedSectionVars false
/-- A function's tree form is its program's. -/
def toX (P : Program) (f : FuncId) (K : List Nat) (nx : Nat) : Option XFunc :=
  match compileF P f with
  | some ef => normF K nx ef
  | none => none
def IsX (P : Program) (f : FuncId) (xf : XFunc) : Prop := toX P f xf.K xf.nx = some xf
theorem IsX.inv {P : Program} {f : FuncId} {xf : XFunc} (h : IsX P f xf) : ∃ ef, compileF P f = some ef ∧ normF xf.K xf.nx ef = some xf := by
  unfold IsX toX at h
  split at h
  · rename_i ef hef; exact ⟨ef, hef, h⟩
  · cases h

theorem look_mem {α : Type} : ∀ {l : List (Nat × α)} {x : Nat} {v : α}, look l x = some v → (x, v) ∈ l
  | (t, w) :: r, x, v, h => by
    simp only [look] at h
    split at h
    · rename_i hx
      simp only [Option.some.injEq] at h
      subst h; subst hx
      exact List.mem_cons_self
    · exact List.mem_cons_of_mem _ (look_mem h)

theorem isx_cons {P : Program} {x : FuncId} {xf : XFunc} {l : List (Nat × XFunc)} (h : IsX P x xf) (t : ∀ p ∈ l, IsX P p.1 p.2) : ∀ p ∈ (x, xf) :: l, IsX P p.1 p.2 := by
  intro p hp
  rcases List.mem_cons.mp hp with rfl | hp
  · exact h
  · exact t p hp
/-- Nothing is known at the start. -/
theorem RelW.empty (W : World) : RelW (Fz.of W) (fun _ => none) ⟨[], [], 0, []⟩ W :=
  ⟨Bel.refl (Fz.of W), fun _ _ => rfl, fun i o h => by simp [AW.obj, look] at h, fun i r h => by simp [AW.obj, look] at h, fun i r h => by simp [AW.obj, look] at h, fun i p h => (nomatch h), fun i p r h => (nomatch h), fun i j p q r s _ h => (nomatch h),
    fun i r h => by simp [AW.raw, AW.obj, look] at h, fun i p es h => (nomatch h), fun i j p q es fs _ h => (nomatch h)⟩

/-- A function that has no text. -/
theorem ext_ok {P : Program} {f : FuncId} {fn : Func} (hf : P.funcs[f]? = some fn) (hb : fn.body.isNone = true) (hname : (fn.name == "runtime.NumGoroutine") = false) (hn : Extern.findNext fn = none) {e : Array Value → Sem Value} (he : Extern.find fn = some e)
    {args : Array Value} {w w' : World} {v : Value} (h : (e args).run P w = .ok v w') : (callFunc f args).run P w = .ok (.value v) w' := by
  simp only [callFunc, Sem.run_bind, run_program, Result.andThen_ok, hf, hb, hname, hn, he, if_true, Bool.false_eq_true, if_false, run_mark, h, Sem.run_pure]
end Go.Proofs.Ythclmjelknibhaa.Ev
