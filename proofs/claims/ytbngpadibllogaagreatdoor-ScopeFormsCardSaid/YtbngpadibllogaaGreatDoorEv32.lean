/- From our machine to what is asked: the world at the start, the call. -/
import Derived.Test.YtbngpadibllogaaGreatDoorEv31
namespace Go.Proofs.YtbngpadibllogaaGreatDoor.Ev
open Go Go.RowKit
set_option linter.unusedVariables false
set_option linter.unusedSimpArgs false
set_option linter.unusedSectionVars false

theorem look_mem {α : Type} : ∀ {l : List (Nat × α)} {x : Nat} {v : α}, look l x = some v → (x, v) ∈ l
  | (t, w) :: r, x, v, h => by
    simp only [look] at h
    split at h
    · rename_i hx
      simp only [Option.some.injEq] at h
      subst h; subst hx
      exact List.mem_cons_self
    · exact List.mem_cons_of_mem _ (look_mem h)

theorem isx_cons {P : Program} {x : FuncId} {xf : XFunc} {l : List (Nat × XFunc)} (h : IsX P x xf) (t : ∀ p ∈ l, IsX P p.1 p.2) : ∀ p ∈ (x, xf) :: l, IsX P p.1 p.2 := by
  intro p hp
  rcases List.mem_cons.mp hp with rfl | hp
  · exact h
  · exact t p hp
/-- Nothing is known at the start. -/
theorem RelW.empty (W : World) : RelW W (fun _ => none) ⟨[], [], 0⟩ W :=
  ⟨Below.refl _ W, fun _ _ => rfl, fun i o h => by simp [AW.obj, look] at h, fun i r h => by simp [AW.obj, look] at h, fun i r h => by simp [AW.obj, look] at h, fun i p h => (nomatch h), fun i p r h => (nomatch h), fun i j p q r s _ h => (nomatch h),
    fun i r h => by simp [AW.raw, AW.obj, look] at h, fun i p es h => (nomatch h), fun i j p q es fs _ h => (nomatch h)⟩

/-- A law that our machine answers with true. -/
theorem main_ok {P : Program} (hmx : P.follows .mixedOrders = true) {E : FuncId → Option XFunc} {X : Callee} (hE : ∀ f xf, E f = some xf → IsX P f xf) (hX : COk P X) {f : FuncId} {xf : XFunc} (hf : E f = some xf)
    {W : World} {ρ : Ren} {S : AW} {args : List Value} {args' : Array Value} (hw : RelW W ρ S W) (ha : ARel ρ args.toArray args') {S' : AW} (h : CL E X f args S = some (.bool true, S')) :
    Calls P f args' W fun e W' => e = .returned (.bool true) ∧ Below W.heap.size W W' := by
  obtain ⟨n, hn⟩ := (CL_lim E X).lim f args S _ h
  cases n with
  | zero => simp [clN] at hn
  | succ n =>
    simp only [clN, hf] at hn
    obtain ⟨ef, h1, h2⟩ := (hE f xf hf).inv
    obtain ⟨S1, h3, _⟩ := XF_ok h2 hn
    refine ((fn_ok hmx (clN_ok hmx hE hX n) n h1 hw ha h3).2).mono fun e W' hq => ?_
    obtain ⟨ρ', v', _, rfl, q1, q2⟩ := hq
    exact ⟨by rw [q1.bool_inv], q2.below⟩
def yes : Option (Value × AW) → Bool
  | some (.bool b, _) => b
  | _ => false
theorem yes_of {E : FuncId → Option XFunc} {X : Callee} {n : Nat} {f : FuncId} {args : List Value} {S : AW} (h : yes (clN E X n f args S) = true) : ∃ S', CL E X f args S = some (.bool true, S') := by
  cases hx : clN E X n f args S with
  | none => rw [hx] at h; cases h
  | some r =>
    obtain ⟨v, S'⟩ := r
    rw [hx] at h
    cases v with
    | bool b =>
      have h : b = true := h
      subst h
      exact ⟨S', CL_of E X hx⟩
    | _ => cases h

/-- A function that has no text. -/
theorem ext_ok {P : Program} {f : FuncId} {fn : Func} (hf : P.funcs[f]? = some fn) (hb : fn.body.isNone = true) (hname : (fn.name == "runtime.NumGoroutine") = false) (hn : Extern.findNext fn = none) {e : Array Value → Sem Value} (he : Extern.find fn = some e)
    {args : Array Value} {w w' : World} {v : Value} (h : (e args).run P w = .ok v w') : (callFunc f args).run P w = .ok (.value v) w' := by
  simp only [callFunc, Sem.run_bind, run_program, Result.andThen_ok, hf, hb, hname, hn, he, if_true, Bool.false_eq_true, if_false, run_mark, h, Sem.run_pure]
end Go.Proofs.YtbngpadibllogaaGreatDoor.Ev
