/- Our statements and functions; what they come to, the program's come to. -/
import Derived.Test.YthclmjelknibhaaEv25
namespace Go.Proofs.Ythclmjelknibhaa.Ev
open Go Go.RowKit
set_option linter.unusedVariables false
set_option linter.unusedSimpArgs false
set_option linter.unusedSectionVars false

inductive ECode where
  | skip
  | ops (l : List EOper)
  | dra (all : List DOper) (L : List Nat) (m : Nat)
  | seq (a b : ECode)
  | cond (c : Operand) (a b : ECode)
  | block (id : Nat) (a : ECode)
  | loop (a : ECode)
  | exit (id : Nat)
  | ret

/-- A region whose order is open, in our order. -/
def evDra (C : Callee) (all : List DOper) (L : List Nat) (m : Nat) (F : AF) (S : AW) : Option (AF × AW) :=
  match L.mapM (fun i => (all[i]?).map fun d => (i, d)) with
  | some ol => match trace C ol F S with
    | some (es, F', S') => if dynOk m (stillAll all) es S' then some (F', S') else none
    | none => none
  | none => none
def thenN (x : Option (AF × AW)) : Out :=
  match x with
  | some (F, S) => some (.normal, F, S)
  | none => none
def evCode (C : Callee) (n : Nat) : ECode → AF → AW → Out
  | .skip, F, S => some (.normal, F, S)
  | .ops l, F, S => thenN (evOps C l F S)
  | .dra all L m, F, S => thenN (evDra C all L m F S)
  | .seq a b, F, S => match evCode C n a F S with
    | some (.normal, F', S') => evCode C n b F' S'
    | r => r
  | .cond c a b, F, S => match F.ev c with
    | .bool true => evCode C n a F S
    | .bool false => evCode C n b F S
    | _ => none
  | .block id a, F, S => match evCode C n a F S with
    | some (.exit id', F', S') => if id' = id then some (.normal, F', S') else some (.exit id', F', S')
    | r => r
  | .loop a, F, S => iter (evCode C n a) n F S
  | .exit id, F, S => some (.exit id, F, S)
  | .ret, F, S => some (.ret, F, S)

/-- What we do not do is stuck. -/
def stuckC : ECode := .ops [⟨none, none, .no⟩]
theorem stuck_none (C : Callee) (n : Nat) (F : AF) (S : AW) : evCode C n stuckC F S = none := rfl
def compileCode (P : Program) : Code → Option ECode
  | .skip => some .skip
  | .region _ ops draw => if draw then
      match compileD P ops with
      | some (all, L, m) => if planOk all m L then some (.dra all L m) else some stuckC
      | none => some stuckC
    else match ops.toList.mapM (compileOper P ops) with
      | some l => some (.ops l)
      | none => none
  | .seq a b => match compileCode P a, compileCode P b with
    | some a, some b => some (.seq a b)
    | _, _ => none
  | .cond c a b => match compileCode P a, compileCode P b with
    | some a, some b => some (.cond c a b)
    | _, _ => none
  | .block id a => match compileCode P a with
    | some a => some (.block id a)
    | none => none
  | .loop a => match compileCode P a with
    | some a => some (.loop a)
    | none => none
  | .exit id => some (.exit id)
  | .ret => some .ret
  | _ => some stuckC

/-- What our code comes to is what is asked of the program's. -/
def Post (W0 : Fz) (n : Nat) (ρ : Ren) (r : EX × AF × AW) : Exit → Act → World → Prop := fun e a' w' => e = r.1.to ∧ ∃ ρ', Grow n r.2.2.next ρ ρ' ∧ FRel ρ' r.2.1 a' ∧ RelW W0 ρ' r.2.2 w'

theorem code_ok {P : Program} (hmx : P.follows .mixedOrders = true) {C : Callee} (hC : COk P C) {W0 : Fz} (n : Nat) : ∀ (c : Code) (ec : ECode), compileCode P c = some ec →
    ∀ (ρ : Ren) (S : AW) (w : World) (F : AF) (a : Act) (r : EX × AF × AW), RelW W0 ρ S w → FRel ρ F a → evCode C n ec F S = some r → c.wp P (Post W0 S.next ρ r) a w := by
  intro c
  induction c with
  | skip =>
    intro ec hc ρ S w F a r h hF he
    simp only [compileCode, Option.some.injEq] at hc
    subst hc
    simp only [evCode, Option.some.injEq] at he
    subst he
    exact wp_skip ⟨rfl, ρ, Grow.refl _ ρ, hF, h⟩
  | region id ops draw =>
    intro ec hc ρ S w F a r h hF he
    cases draw with
    | true =>
      simp only [compileCode, if_true] at hc
      split at hc
      · rename_i all L m hcd
        split at hc
        · rename_i hpl
          simp only [Option.some.injEq] at hc
          subst hc
          simp only [evCode, evDra] at he
          split at he
          · rename_i ol hol
            split at he
            · rename_i es F' S' htr
              split at he
              · rename_i hdyn
                simp only [thenN, Option.some.injEq] at he
                subst he
                exact dra_wp hC (compileD_ok hcd) (told hpl hol htr) hdyn hmx h hF fun ρ' a' w' q1 q2 q3 => ⟨rfl, ρ', q1, q2, q3⟩
              · simp [thenN] at he
            · simp [thenN] at he
          · simp [thenN] at he
        · simp only [Option.some.injEq] at hc; subst hc; rw [stuck_none] at he; cases he
      · simp only [Option.some.injEq] at hc; subst hc; rw [stuck_none] at he; cases he
    | false =>
      simp only [compileCode, Bool.false_eq_true, if_false] at hc
      split at hc
      · rename_i l hl
        simp only [Option.some.injEq] at hc
        subst hc
        simp only [evCode] at he
        cases hev : evOps C l F S with
        | none => rw [hev] at he; simp [thenN] at he
        | some q =>
          obtain ⟨F', S'⟩ := q
          rw [hev] at he
          simp only [thenN, Option.some.injEq] at he
          subst he
          refine wp_region ?_
          have := ops_wp (Q := Post W0 S.next ρ (.normal, F', S')) hC ops.toList l 0 ρ S w F a F' S' (fun j => by simp) hl h hF hev fun ρ' a' w' q1 q2 q3 => ⟨rfl, ρ', q1, q2, q3⟩
          rw [List.range_eq_range']
          simpa using this
      · cases hc
  | seq x y ihx ihy =>
    intro ec hc ρ S w F a r h hF he
    simp only [compileCode] at hc
    split at hc
    · rename_i ex ey hx hy
      simp only [Option.some.injEq] at hc
      subst hc
      simp only [evCode] at he
      refine wp_seq ?_
      split at he
      · rename_i F' S' hx1
        refine wp_mono (ihx ex hx ρ S w F a _ h hF hx1) ?_
        rintro e a' w' ⟨rfl, ρ', q1, q2, q3⟩
        refine wp_mono (ihy ey hy ρ' S' w' F' a' r q3 q2 he) ?_
        rintro e2 a2 w2 ⟨rfl, ρ2, p1, p2, p3⟩
        exact ⟨rfl, ρ2, q1.trans p1, p2, p3⟩
      · rename_i hne
        refine wp_mono (ihx ex hx ρ S w F a _ h hF he) ?_
        rintro e a' w' ⟨rfl, ρ', q1, q2, q3⟩
        obtain ⟨x, F', S'⟩ := r
        cases x with
        | normal => exact absurd he (hne F' S')
        | exit id => exact ⟨rfl, ρ', q1, q2, q3⟩
        | ret => exact ⟨rfl, ρ', q1, q2, q3⟩
    · cases hc
  | cond c x y ihx ihy =>
    intro ec hc ρ S w F a r h hF he
    simp only [compileCode] at hc
    split at hc
    · rename_i ex ey hx hy
      simp only [Option.some.injEq] at hc
      subst hc
      simp only [evCode] at he
      split at he
      · rename_i hb
        have hv := hF.eval c
        rw [hb] at hv
        exact wp_cond_true hv.bool_inv (ihx ex hx ρ S w F a r h hF he)
      · rename_i hb
        have hv := hF.eval c
        rw [hb] at hv
        exact wp_cond_false hv.bool_inv (ihy ey hy ρ S w F a r h hF he)
      · cases he
    · cases hc
  | block id x ihx =>
    intro ec hc ρ S w F a r h hF he
    simp only [compileCode] at hc
    split at hc
    · rename_i ex hx
      simp only [Option.some.injEq] at hc
      subst hc
      simp only [evCode] at he
      refine wp_block ?_
      split at he
      · rename_i id' F' S' hx1
        refine wp_mono (ihx ex hx ρ S w F a _ h hF hx1) ?_
        rintro e a' w' ⟨rfl, ρ', q1, q2, q3⟩
        simp only [EX.to, Exit.inBlock]
        split at he
        · rename_i hid
          simp only [Option.some.injEq] at he
          subst he
          rw [if_pos hid]
          exact ⟨rfl, ρ', q1, q2, q3⟩
        · rename_i hid
          simp only [Option.some.injEq] at he
          subst he
          rw [if_neg hid]
          exact ⟨rfl, ρ', q1, q2, q3⟩
      · rename_i hne
        refine wp_mono (ihx ex hx ρ S w F a _ h hF he) ?_
        rintro e a' w' ⟨rfl, ρ', q1, q2, q3⟩
        obtain ⟨x, F', S'⟩ := r
        cases x with
        | normal => exact ⟨rfl, ρ', q1, q2, q3⟩
        | exit id => exact absurd he (hne id F' S')
        | ret => exact ⟨rfl, ρ', q1, q2, q3⟩
    · cases hc
  | loop x ihx =>
    intro ec hc ρ S w F a r h hF he
    simp only [compileCode] at hc
    split at hc
    · rename_i ex hx
      simp only [Option.some.injEq] at hc
      subst hc
      simp only [evCode] at he
      have key : ∀ (k : Nat) (ρ1 : Ren) (S1 : AW) (w : World) (F : AF) (a : Act), Grow S.next S1.next ρ ρ1 → RelW W0 ρ1 S1 w → FRel ρ1 F a → iter (evCode C n ex) k F S1 = some r → Code.rounds P x (Post W0 S.next ρ r) k a w := by
        intro k
        induction k with
        | zero => intro ρ1 S1 w F a _ h hF he; simp [iter] at he
        | succ k ih =>
          intro ρ1 S1 w F a hle h hF he
          simp only [iter] at he
          rw [rounds_succ]
          split at he
          · rename_i F' S' hx1
            refine wp_mono (ihx ex hx ρ1 S1 w F a _ h hF hx1) ?_
            rintro e a' w' ⟨rfl, ρ', q1, q2, q3⟩
            exact ih ρ' S' w' F' a' (hle.trans q1) q3 q2 he
          · rename_i hne
            refine wp_mono (ihx ex hx ρ1 S1 w F a _ h hF he) ?_
            rintro e a' w' ⟨rfl, ρ', q1, q2, q3⟩
            obtain ⟨x, F', S'⟩ := r
            cases x with
            | normal => exact absurd he (hne F' S')
            | exit id => exact ⟨rfl, ρ', hle.trans q1, q2, q3⟩
            | ret => exact ⟨rfl, ρ', hle.trans q1, q2, q3⟩
      exact wp_loop_rounds n (key n ρ S w F a (Grow.refl _ ρ) h hF he)
    · cases hc
  | exit id =>
    intro ec hc ρ S w F a r h hF he
    simp only [compileCode, Option.some.injEq] at hc
    subst hc
    simp only [evCode, Option.some.injEq] at he
    subst he
    exact wp_exit ⟨rfl, ρ, Grow.refl _ ρ, hF, h⟩
  | ret =>
    intro ec hc ρ S w F a r h hF he
    simp only [compileCode, Option.some.injEq] at hc
    subst hc
    simp only [evCode, Option.some.injEq] at he
    subst he
    exact wp_ret ⟨rfl, ρ, Grow.refl _ ρ, hF, h⟩
  | _ =>
    intro ec hc ρ S w F a r h hF he
    simp only [compileCode, Option.some.injEq] at hc
    subst hc
    rw [stuck_none] at he
    cases he

/-- A function. -/
structure EFunc where
  ntmps : Nat
  body : ECode
  results : List (Nat × Option (Option Nat))

def compileR (P : Program) : ResultVar → Option (Nat × Option (Option Nat))
  | .tmp t => some (t, none)
  | .cell a t => match szOf P t with
    | some sz => some (a, some sz)
    | none => none
def compileF (P : Program) (f : FuncId) : Option EFunc :=
  match P.funcs[f]? with
  | some fn => match fn.body with
    | some c => match compileCode P c, fn.results.toList.mapM (compileR P) with
      | some ec, some rs => if fn.name == "runtime.NumGoroutine" then none else some ⟨fn.ntmps, ec, rs⟩
      | _, _ => none
    | none => none
  | none => none

def resV (F : AF) (S : AW) : List (Nat × Option (Option Nat)) → Option (List Value)
  | [] => some []
  | (t, none) :: l => match resV F S l with
    | some vs => some (F.get t :: vs)
    | none => none
  | (t, some sz) :: l => match F.get t with
    | .pointer (some ⟨i, o, none⟩) => match S.ldV sz i o, resV F S l with
      | some v, some vs => some (v :: vs)
      | _, _ => none
    | _ => none
def tupV (vs : List Value) : Value :=
  match vs with
  | [v] => v
  | vs => .tuple vs.toArray
def AF.enter (n : Nat) (args : List Value) : AF := ⟨args.length + (n - args.length), args.mapIdx fun i v => (i, v)⟩
def finish (rs : List (Nat × Option (Option Nat))) (o : Out) : Option (Value × AW) :=
  match o with
  | some (.exit _, _, _) => none
  | some (_, F, S) => match resV F S rs with
    | some vs => some (tupV vs, S)
    | none => none
  | none => none
def evFn (C : Callee) (n : Nat) (ef : EFunc) (args : List Value) (S : AW) : Option (Value × AW) :=
  finish ef.results (evCode C n ef.body (AF.enter ef.ntmps args) S)
def evF (E : FuncId → Option EFunc) (X : Callee) : Nat → Callee
  | 0 => X
  | n + 1 => fun f args S => match E f with
    | some ef => evFn (evF E X n) n ef args S
    | none => X f args S

theorem enter_get {n : Nat} (args : List Value) (t : Nat) : (AF.enter n args).get t = (args[t]?).getD undef := by
  unfold AF.enter AF.get
  have : ∀ (l : List Value) (k t : Nat), getL (l.mapIdx fun i v => (i + k, v)) t = if k ≤ t then (l[t - k]?).getD undef else undef := by
    intro l
    induction l with
    | nil => intro k t; simp [getL]
    | cons v l ih =>
      intro k t
      simp only [List.mapIdx_cons, getL, Nat.zero_add]
      by_cases h : t = k
      · subst h; simp
      · rw [if_neg h]
        have := ih (k + 1) t
        simp only [Nat.add_assoc, Nat.add_comm 1 k] at this ⊢
        rw [this]
        by_cases h2 : k + 1 ≤ t
        · rw [if_pos h2, if_pos (by omega), show t - k = (t - (k + 1)) + 1 from by omega]
          simp
        · rw [if_neg h2, if_neg (by omega)]
  have := this args 0 t
  simpa using this

def resOne (tmps : Array Value) : ResultVar → Sem Value
  | .tmp t => pure (tmps.getD t undef)
  | .cell a t => do loadVar t (← asAddr (tmps.getD a undef))
theorem results_eq (fn : Func) (tmps : Array Value) : results fn tmps = (do
  let vs ← fn.results.mapM (resOne tmps)
  pure (if h : vs.size = 1 then vs[0] else .tuple vs)) := rfl
theorem res_ok {P : Program} {W0 : Fz} {ρ : Ren} {S : AW} {w : World} (h : RelW W0 ρ S w) {F : AF} {a : Act} (hF : FRel ρ F a) : ∀ (rs : List ResultVar) (ers : List (Nat × Option (Option Nat))) (vs : List Value), rs.mapM (compileR P) = some ers → resV F S ers = some vs →
    ∃ vs' : List Value, (rs.mapM (resOne a.tmps)).run P w = .ok vs' w ∧ ARel ρ vs.toArray vs'.toArray
  | [], ers, vs, hm, hv => by
    simp only [List.mapM_nil, Option.pure_def, Option.some.injEq] at hm
    subst hm
    simp only [resV, Option.some.injEq] at hv
    subst hv
    exact ⟨[], rfl, rfl, fun i h => by simp at h⟩
  | r :: rs, ers, vs, hm, hv => by
    simp only [List.mapM_cons, Option.bind_eq_bind, Option.pure_def] at hm
    obtain ⟨er, h1, hm⟩ := Option.bind_eq_some_iff.mp hm
    obtain ⟨ers', h2, hm⟩ := Option.bind_eq_some_iff.mp hm
    simp only [Option.some.injEq] at hm
    subst hm
    have cons_rel : ∀ {v v' : Value} {l l' : List Value}, VRel ρ v v' → ARel ρ l.toArray l'.toArray → ARel ρ (v :: l).toArray (v' :: l').toArray := by
      intro v v' l l' hv hl
      refine ⟨by have := hl.1; simp at this; simp [this], fun i a1 a2 => ?_⟩
      cases i with
      | zero => exact hv
      | succ i => have := hl.2 i (by simp at a1 ⊢; omega) (by simp at a2 ⊢; omega); simpa using this
    cases r with
    | tmp t =>
      simp only [compileR, Option.some.injEq] at h1
      subst h1
      simp only [resV] at hv
      split at hv
      · rename_i vs1 hvs1
        simp only [Option.some.injEq] at hv
        subst hv
        obtain ⟨vs', k1, k2⟩ := res_ok h hF rs ers' vs1 h2 hvs1
        refine ⟨a.tmps.getD t undef :: vs', ?_, cons_rel (hF.slot t) k2⟩
        simp only [List.mapM_cons, Sem.run_bind, resOne, Sem.run_pure, Result.andThen_ok, k1]
      · cases hv
    | cell x t =>
      simp only [compileR] at h1
      split at h1
      · rename_i sz hsz
        simp only [Option.some.injEq] at h1
        subst h1
        simp only [resV] at hv
        split at hv
        · rename_i i o hx
          split at hv
          · rename_i v vs1 hld hvs1
            simp only [Option.some.injEq] at hv
            subst hv
            have hs := hF.slot x
            rw [hx] at hs
            obtain ⟨v', q1, q2⟩ := ld_ok P hsz h hs hld
            obtain ⟨p, o', hp, ho, hs'⟩ := hs.ptr_inv
            obtain ⟨vs', k1, k2⟩ := res_ok h hF rs ers' vs1 h2 hvs1
            refine ⟨v' :: vs', ?_, cons_rel q2 k2⟩
            rw [hs'] at q1
            simp only [Instr.loadAt, Instr.sureAddr, Sem.run_bind, Sem.run_pure, Result.andThen_ok] at q1
            simp only [List.mapM_cons, Sem.run_bind, resOne, hs', asAddr, Sem.run_pure, Result.andThen_ok, q1, k1]
          · cases hv
        · cases hv
      · cases h1

theorem fn_ok {P : Program} (hmx : P.follows .mixedOrders = true) {C : Callee} (hC : COk P C) (n : Nat) {f : FuncId} {ef : EFunc} (hc : compileF P f = some ef) {W0 : Fz} {ρ : Ren} {S : AW} {w : World} (h : RelW W0 ρ S w)
    {args : List Value} {args' : Array Value} (ha : ARel ρ args.toArray args') {v : Value} {S' : AW} (he : evFn C n ef args S = some (v, S')) :
    (callFunc f args').run P w = .ok (.enter f args') w ∧ Calls P f args' w fun e w' => ∃ ρ' v', Grow S.next S'.next ρ ρ' ∧ e = .returned v' ∧ VRel ρ' v v' ∧ RelW W0 ρ' S' w' := by
  unfold compileF at hc
  split at hc
  · rename_i fn hfn
    split at hc
    · rename_i c hb
      split at hc
      · rename_i ec rs hec hrs
        split at hc
        · cases hc
        · rename_i hname
          simp only [Option.some.injEq] at hc
          subst hc
          constructor
          · simp only [callFunc, Sem.run_bind, run_program, Result.andThen_ok, hfn, hb, Option.isNone_some, Bool.false_eq_true, if_false, hname, Sem.run_ite, Sem.run_pure]
          · refine calls_of_wp hfn hb ?_
            unfold evFn finish at he
            simp only at he
            have hlen : args.length = args'.size := by simpa using ha.1
            have hF : FRel ρ (AF.enter fn.ntmps args) { tmps := args' ++ Array.replicate (fn.ntmps - args'.size) undef, defers := [] } := by
              refine ⟨by simp [AF.enter, hlen], fun t => ?_, rfl⟩
              rw [enter_get]
              simp only [Array.getD_eq_getD_getElem?]
              by_cases ht : t < args.length
              · have h1 : t < args'.size := by omega
                rw [List.getElem?_eq_getElem ht, Array.getElem?_append_left h1, Array.getElem?_eq_getElem h1]
                exact ha.2 t (by simpa using ht) h1
              · rw [List.getElem?_eq_none (by omega), Array.getElem?_append_right (by omega), Array.getElem?_replicate]
                split <;> exact .undef
            have fin : ∀ (F' : AF) (S1 : AW) (ρ' : Ren) (a' : Act) (w' : World), Grow S.next S1.next ρ ρ' → FRel ρ' F' a' → RelW W0 ρ' S1 w' → (match resV F' S1 rs with | some vs => some (tupV vs, S1) | none => none) = some (v, S') →
                a'.defers = [] ∧ ∃ v', (results fn a'.tmps).run P w' = .ok v' w' ∧ ∃ ρ' v'', Grow S.next S'.next ρ ρ' ∧ Ending.returned v' = .returned v'' ∧ VRel ρ' v v'' ∧ RelW W0 ρ' S' w' := by
              intro F' S1 ρ' a' w' q1 q2 q3 hr
              refine ⟨q2.defers, ?_⟩
              split at hr
              · rename_i vs hvs
                simp only [Option.some.injEq, Prod.mk.injEq] at hr
                obtain ⟨rfl, rfl⟩ := hr
                obtain ⟨vs', k1, k2⟩ := res_ok q3 q2 fn.results.toList rs vs hrs hvs
                have hmap : (fn.results.mapM (resOne a'.tmps)).run P w' = .ok vs'.toArray w' := by
                  rw [Array.mapM_eq_mapM_toList, Sem.run_map, k1]
                  rfl
                have hsz : vs.length = vs'.length := by have := k2.1; simpa using this
                refine ⟨if h : vs'.toArray.size = 1 then vs'.toArray[0] else .tuple vs'.toArray, ?_, ρ', _, q1, rfl, ?_, q3⟩
                · rw [results_eq, Sem.run_bind, hmap]
                  rfl
                · unfold tupV
                  split
                  · rename_i v1
                    have h1 : vs'.length = 1 := by rw [← hsz]; rfl
                    rw [dif_pos (by simpa using h1)]
                    have := k2.2 0 (by simp) (by simp [h1])
                    simpa using this
                  · rename_i hne
                    have h1 : ¬ vs'.length = 1 := by
                      intro h1
                      obtain ⟨x, hx⟩ := List.length_eq_one_iff.mp (hsz.trans h1)
                      exact hne x hx
                    rw [dif_neg (by simpa using h1)]
                    exact .tuple' k2
              · cases hr
            split at he
            · cases he
            · rename_i x F' S1 hne hev
              have := code_ok hmx hC n c ec hec ρ S w _ _ _ h hF hev
              refine wp_mono this ?_
              rintro e a' w' ⟨rfl, ρ', q1, q2, q3⟩
              cases x with
              | normal => exact fin F' S1 ρ' a' w' q1 q2 q3 he
              | ret => exact fin F' S1 ρ' a' w' q1 q2 q3 he
              | exit id => exact absurd rfl (hne id)
            · cases he
      · cases hc
    · cases hc
  · cases hc

/-- Our functions do what the program's do. -/
theorem evF_ok {P : Program} (hmx : P.follows .mixedOrders = true) {E : FuncId → Option EFunc} (hE : ∀ f ef, E f = some ef → compileF P f = some ef) {X : Callee} (hX : COk P X) : ∀ n, COk P (evF E X n)
  | 0 => hX
  | n + 1 => by
    intro W0 ρ S w f args args' v S' h ha he
    simp only [evF] at he
    split at he
    · rename_i ef hef
      exact .inl (fn_ok hmx (evF_ok hmx hE hX n) n (hE f ef hef) h ha he)
    · exact hX W0 ρ S w f args args' v S' h ha he
end Go.Proofs.Ythclmjelknibhaa.Ev
