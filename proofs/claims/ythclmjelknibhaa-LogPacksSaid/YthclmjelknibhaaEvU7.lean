/- Trees, code, functions in the plain form; the table of all functions; what is not needed is forgotten. -/
import Derived.Test.YthclmjelknibhaaEvU6
namespace Go.Proofs.Ythclmjelknibhaa.Ev
open Go Go.RowKit
set_option linter.unusedVariables false
set_option linter.constructorNameAsVariable false
set_option linter.unusedSimpArgs false
set_option linter.unusedSectionVars false

def isRdU : EOp → Bool
  | .slV .. => true
  | .ld .. => true
  | .cvBS .. => true
  | .mlk .. => true
  | .lenM .. => true
  | _ => false
theorem goU_val {C : Callee} {S S1 : AW} {o : Option Res} {v : Value} (h : goU C S o = some (v, S1)) (hc : ∀ f args, o ≠ some (.call f args)) : o = some (.val v S1) := by
  cases o with
  | none => cases h
  | some r =>
    cases r with
    | val u S' =>
      simp only [goU, Option.some.injEq, Prod.mk.injEq] at h
      rw [h.1, h.2]
    | call f args => exact absurd rfl (hc f args)
theorem isRdU_no {e : EOp} (h : isRdU e = true) (ρ : Operand → Value) (S : AW) : ∀ f args, e.runR ρ S ≠ some (.call f args) := by
  intro f args
  have hV : ∀ o : Option Value, rV S o ≠ some (.call f args) := fun o => by cases o <;> simp [rV]
  cases e <;> simp only [isRdU, Bool.false_eq_true] at h <;> simp only [EOp.runR]
  case slV =>
    unfold rSlV
    intro hh
    split at hh
    · split at hh <;> simp at hh
    · split at hh
      · split at hh
        · split at hh <;> simp at hh
        · cases hh
      · cases hh
    · cases hh
  case ld =>
    unfold rLd
    intro hh
    split at hh
    · exact hV _ hh
    · cases hh
  case cvBS =>
    unfold rCvBS
    intro hh
    split at hh
    · simp at hh
    · split at hh
      · split at hh <;> simp at hh
      · cases hh
    · cases hh
  case mlk => exact hV _
  case lenM => exact hV _
/-- Are two values one? -/
noncomputable def veqU (a b : FV) (r : RU) : RU :=
  eNBS a (fun m => eNBS b (fun k => cn (Nat.beq m k) r .no) (fun _ => .no) (fun _ => .no) .no) (fun m => eNBS b (fun _ => .no) (fun k => cn (Nat.beq m k) r .no) (fun _ => .no) .no) (fun s => eNBS b (fun _ => .no) (fun _ => .no) (fun t => cn (beqLU s t) r .no) .no) (cn (veq (toV a) (toV b)) r .no)
theorem veqU_inv {a b : FV} {r : RU} {v : FV} {R : FAW} (h : veqU a b r = .ok v R) : veq (toV a) (toV b) = true ∧ r = .ok v R := by
  cases a with
  | n m =>
    cases b with
    | n k =>
      obtain ⟨h1, h2⟩ := cn_inv (show cn (Nat.beq m k) r .no = .ok v R from h)
      have := Nat.eq_of_beq_eq_true h1
      subst this
      exact ⟨by simp [toV, veq, veq1], h2⟩
    | _ => cases h
  | b m =>
    cases b with
    | b k =>
      obtain ⟨h1, h2⟩ := cn_inv (show cn (Nat.beq m k) r .no = .ok v R from h)
      have := Nat.eq_of_beq_eq_true h1
      subst this
      exact ⟨by simp [toV, veq, veq1], h2⟩
    | _ => cases h
  | s l =>
    cases b with
    | s t =>
      obtain ⟨h1, h2⟩ := cn_inv (show cn (beqLU l t) r .no = .ok v R from h)
      rw [← str_eq] at h1
      exact ⟨by simp only [toV, veq, veq1]; exact h1, h2⟩
    | _ => cases h
  | _ => exact cn_inv h
noncomputable def sameU (U : CU) (e : EOp) (ρ : Operand → FV) (F : FAW) (w : FV) (k : RU) : RU := cn (isRdU e) (opU U e ρ F fun u _ => veqU u w k) .no
theorem sameU_inv {U : CU} {C : Callee} (hU : CallR U C) {S : AW} {F R : FAW} (h : UR F S) {v w : FV} {ρ : Operand → Value} {e : Operand → FV} (he : ∀ o, ρ o = toV (e o)) {op : EOp} {k : RU} (hf : sameU U op e F w k = .ok v R) :
    ∃ u S', op.runR ρ S = some (.val u S') ∧ veq u (toV w) = true ∧ k = .ok v R := by
  obtain ⟨h1, h2⟩ := cn_inv hf
  obtain ⟨u, F', S', h3, _, h4⟩ := opU_inv hU h he h2
  obtain ⟨h5, h6⟩ := veqU_inv h4
  exact ⟨_, S', goU_val h3 (isRdU_no h1 ρ S), h5, h6⟩
noncomputable def veqLU (x y : List FV) (r : RU) : RU :=
  List.rec (motive := fun _ => List FV → RU) (fun y => List.rec (motive := fun _ => RU) r (fun _ _ _ => .no) y) (fun a _ ih y => List.rec (motive := fun _ => RU) .no (fun b m _ => cn (veq1 (toV a) (toV b)) (ih m) .no) y) x y
theorem veqLU_inv : ∀ {x y : List FV} {r : RU} {v : FV} {R : FAW}, veqLU x y r = .ok v R → veqs (toVs x) (toVs y) = true ∧ r = .ok v R
  | [], [], r, v, R, h => ⟨rfl, h⟩
  | [], _ :: _, r, v, R, h => by cases h
  | _ :: _, [], r, v, R, h => by cases h
  | a :: x, b :: y, r, v, R, h => by
    obtain ⟨h1, h2⟩ := cn_inv (show cn (veq1 (toV a) (toV b)) (veqLU x y r) .no = .ok v R from h)
    obtain ⟨h3, h4⟩ := veqLU_inv h2
    exact ⟨by simp only [toVs, veqs, h1, h3, Bool.and_self], h4⟩
noncomputable def eId (v : FV) (p : Nat → RU) : RU :=
  FV.rec (motive_1 := fun _ => RU) (motive_2 := fun _ => Unit) (fun _ => .no) (fun _ => .no) (fun _ _ => .no) (fun _ => .no) (fun _ => .no) (fun i _ => p i) (fun i _ _ _ => p i) (fun _ => .no) .no .no .no .no (fun _ _ _ _ _ => .no) (fun _ _ => .no) (fun _ _ => .no) .no (fun _ => .no) () (fun _ _ _ _ => ()) v
noncomputable def rowU2 (F F0 : FAW) (w : FV) (k : RU) : RU :=
  eId w fun i => findH F.h i fun c e s _ ro => findH F0.h i fun c' e' s' _ _ => cn (an (nt ro) (an (Nat.beq e e') (Nat.beq s s'))) (veqLU c c' k) .no
theorem rowU2_inv {S S0 : AW} {F F0 R : FAW} (h : UR F S) (h0 : UR F0 S0) {v w : FV} {k : RU} (hf : rowU2 F F0 w k = .ok v R) : rowSame S S0 (toV w) = true ∧ k = .ok v R := by
  have key : ∀ i, idOf (toV w) = some i → (findH F.h i fun c e s _ ro => findH F0.h i fun c' e' s' _ _ => cn (an (nt ro) (an (Nat.beq e e') (Nat.beq s s'))) (veqLU c c' k) .no) = .ok v R → rowSame S S0 (toV w) = true ∧ k = .ok v R := by
    intro i hi hf
    obtain ⟨c, e, s, m, o, hr, h2⟩ := findH_inv h.h hf
    obtain ⟨c', e', s', m', o', hr', h3⟩ := findH_inv h0.h h2
    obtain ⟨g, hr⟩ := hr.raw
    obtain ⟨g', hr'⟩ := hr'.raw
    obtain ⟨h4, h5⟩ := cn_inv h3
    simp only [an_eq, nt_eq, Bool.and_eq_true, Bool.not_eq_true', beqU, decide_eq_true_eq] at h4
    obtain ⟨rfl, rfl, rfl⟩ := h4
    obtain ⟨h6, h7⟩ := veqLU_inv h5
    refine ⟨?_, h7⟩
    unfold rowSame
    rw [hi]
    simp only [rawSame, hr, hr', h6, beq_self_eq_true, Bool.and_self, Bool.not_false]
  cases w with
  | p i o => exact key i (by simp only [toV, idOf]) hf
  | l i o n c => exact key i (by simp only [toV, idOf]) hf
  | _ => cases hf

def getFV : List (Nat × FV) → Nat → FV
  | [], _ => .u []
  | (t, v) :: r, x => match Nat.beq x t with
    | true => v
    | false => getFV r x
def XU (l : List (Nat × FV)) : Operand → FV
  | .tmp t => getFV l t
  | .const v => if flat v then ofV v else .x
  | .global _ => .u []
  | .func f => .f f [] []
def toL (l : List (Nat × FV)) : List (Nat × Value) := l.map fun p => (p.1, toV p.2)
theorem getB_toL : ∀ (l : List (Nat × FV)) (t : Nat), getB (toL l) t = toV (getFV l t)
  | [], t => by simp only [toL, List.map_nil, getB, getFV, toV, toVs]; rfl
  | (u, a) :: l, t => by
    show getB ((u, toV a) :: toL l) t = _
    simp only [getB, getFV]
    cases Nat.beq t u with
    | true => rfl
    | false => exact getB_toL l t
theorem XE_toL (l : List (Nat × FV)) (o : Operand) : XE (toL l) o = toV (XU l o) := by
  cases o with
  | tmp t => exact getB_toL l t
  | const v =>
    simp only [XE, XU]
    split
    · rw [toV_ofV]
    · simp only [toV]
  | global g => simp only [XE, XU, toV, toVs]; rfl
  | func f => simp only [XE, XU, toV, toVs]
abbrev KTU := List (Nat × FV) → List (Nat × Operand) → FAW → RU
noncomputable def evUT (U : CU) : RT → List (Nat × FV) → List (Nat × FAW) → FAW → KTU → RU
  | .done as, l, _, F, κ => κ l as F
  | .step x e k, l, sv, F, κ => opU U e (XU l) F fun v F' => evUT U k ((x, v) :: l) sv F' κ
  | .save x k, l, sv, F, κ => evUT U k l ((x, F) :: sv) F κ
  | .test o t f, l, sv, F, κ => eT (XU l o) fun b => cn b (evUT U t l sv F κ) (evUT U f l sv F κ)
  | .same e q k, l, sv, F, κ => sameU U e (XU l) F (XU l q) (evUT U k l sv F κ)
  | .row x q k, l, sv, F, κ => Option.rec (motive := fun _ => RU) .no (fun F0 => rowU2 F F0 (XU l q) (evUT U k l sv F κ)) (look sv x)
def SvR : List (Nat × FAW) → List (Nat × AW) → Prop
  | [], [] => True
  | p :: a, q :: b => p.1 = q.1 ∧ UR p.2 q.2 ∧ SvR a b
  | _, _ => False
theorem SvR.look : ∀ {a : List (Nat × FAW)} {b : List (Nat × AW)}, SvR a b → ∀ {x : Nat} {F : FAW}, Ev.look a x = some F → ∃ S, Ev.look b x = some S ∧ UR F S
  | [], [], _, x, F, h => by cases h
  | (t, F0) :: a, (u, S0) :: b, ⟨h1, h2, h3⟩, x, F, h => by
    have h1 : t = u := h1
    subst h1
    simp only [Ev.look] at h ⊢
    split at h
    · rename_i e
      simp only [Option.some.injEq] at h
      subst h
      exact ⟨S0, by rw [if_pos e], h2⟩
    · rename_i e
      obtain ⟨S, k1, k2⟩ := SvR.look h3 h
      exact ⟨S, by rw [if_neg e]; exact k1, k2⟩
theorem evUT_inv {U : CU} {C : Callee} (hU : CallR U C) : ∀ (t : RT) (l : List (Nat × FV)) (sv : List (Nat × FAW)) (sw : List (Nat × AW)) (F : FAW) (S : AW) (κ : KTU) (v : FV) (R : FAW), UR F S → SvR sv sw → evUT U t l sv F κ = .ok v R →
    ∃ l' as F' S', (∀ G, evRT C t (toL l) sw S G = some (applyAs (toL l') G as, S')) ∧ UR F' S' ∧ κ l' as F' = .ok v R
  | .done as, l, sv, sw, F, S, κ, v, R, h, hs, hf => ⟨l, as, F, S, fun G => rfl, h, hf⟩
  | .step y e k, l, sv, sw, F, S, κ, v, R, h, hs, hf => by
    obtain ⟨w, F1, S1, h1, h2, h3⟩ := opU_inv hU h (XE_toL l) (show opU U e (XU l) F _ = .ok v R from hf)
    obtain ⟨l', as, F', S', h4, h5, h6⟩ := evUT_inv hU k _ _ sw _ _ _ _ _ h2 hs h3
    refine ⟨l', as, F', S', fun G => ?_, h5, h6⟩
    simp only [evRT]
    cases e1 : e.runR (XE (toL l)) S with
    | none => rw [e1] at h1; cases h1
    | some r =>
      rw [e1] at h1
      cases r with
      | val u S2 =>
        simp only [goU, Option.some.injEq, Prod.mk.injEq] at h1
        obtain ⟨rfl, rfl⟩ := h1
        exact h4 G
      | call f args =>
        simp only [goU] at h1
        simp only [h1]
        exact h4 G
  | .save y k, l, sv, sw, F, S, κ, v, R, h, hs, hf => by
    obtain ⟨l', as, F', S', h4, h5, h6⟩ := evUT_inv hU k l ((y, F) :: sv) ((y, S) :: sw) _ _ _ _ _ h ⟨rfl, h, hs⟩ (show evUT U k l ((y, F) :: sv) F κ = .ok v R from hf)
    exact ⟨l', as, F', S', fun G => by simp only [evRT]; exact h4 G, h5, h6⟩
  | .test o t f, l, sv, sw, F, S, κ, v, R, h, hs, hf => by
    obtain ⟨b, h1, h2⟩ := eT_inv (show eT (XU l o) _ = .ok v R from hf)
    have h1 : XE (toL l) o = .bool b := by rw [XE_toL, h1]; simp only [toV]
    cases b with
    | true =>
      obtain ⟨l', as, F', S', h4, h5, h6⟩ := evUT_inv hU t _ _ _ _ _ _ _ _ h hs (show evUT U t l sv F κ = .ok v R from h2)
      exact ⟨l', as, F', S', fun G => by simp only [evRT, h1]; exact h4 G, h5, h6⟩
    | false =>
      obtain ⟨l', as, F', S', h4, h5, h6⟩ := evUT_inv hU f _ _ _ _ _ _ _ _ h hs (show evUT U f l sv F κ = .ok v R from h2)
      exact ⟨l', as, F', S', fun G => by simp only [evRT, h1]; exact h4 G, h5, h6⟩
  | .same e q k, l, sv, sw, F, S, κ, v, R, h, hs, hf => by
    obtain ⟨u, S1, h1, h2, h3⟩ := sameU_inv hU h (XE_toL l) (show sameU U e (XU l) F (XU l q) _ = .ok v R from hf)
    obtain ⟨l', as, F', S', h4, h5, h6⟩ := evUT_inv hU k _ _ _ _ _ _ _ _ h hs h3
    rw [← XE_toL] at h2
    exact ⟨l', as, F', S', fun G => by simp only [evRT, h1, h2, if_true]; exact h4 G, h5, h6⟩
  | .row y q k, l, sv, sw, F, S, κ, v, R, h, hs, hf => by
    have hf : (Option.rec (motive := fun _ => RU) .no (fun F0 => rowU2 F F0 (XU l q) (evUT U k l sv F κ)) (look sv y)) = .ok v R := hf
    cases e1 : look sv y with
    | none => rw [e1] at hf; cases hf
    | some F0 =>
      rw [e1] at hf
      obtain ⟨S0, e2, h0⟩ := SvR.look hs e1
      obtain ⟨h1, h2⟩ := rowU2_inv h h0 (show rowU2 F F0 (XU l q) (evUT U k l sv F κ) = .ok v R from hf)
      obtain ⟨l', as, F', S', h4, h5, h6⟩ := evUT_inv hU k _ _ _ _ _ _ _ _ h hs h2
      rw [← XE_toL] at h1
      exact ⟨l', as, F', S', fun G => by simp only [evRT, e2, h1, if_true]; exact h4 G, h5, h6⟩

noncomputable def updU (l : List (Nat × FV)) (as : List (Nat × Operand)) (t : Nat) (v : FV) : FV := Option.rec (motive := fun _ => FV) v (fun o => XU l o) (look as t)
structure FU (V : Type) where
  K : List Nat
  env : V → List (Nat × FV)
  upd : List (Nat × FV) → List (Nat × Operand) → V → V
  ent : (Nat → FV) → V
  keys : ∀ v, (env v).map (·.1) = K
  law : ∀ l as v, env (upd l as v) = (env v).map fun p => (p.1, updU l as p.1 p.2)
  start : ∀ g, env (ent g) = K.map fun t => (t, g t)
abbrev CdU (V : Type) := V → FAW → (EX → V → FAW → RU) → RU
section
variable {V : Type}
noncomputable def exU (o : EX) (a : RU) (b : Nat → RU) (c : RU) : RU := EX.rec (motive := fun _ => RU) a b c o
noncomputable def skipU : CdU V := fun v F κ => κ .normal v F
noncomputable def exitU (id : Nat) : CdU V := fun v F κ => κ (.exit id) v F
noncomputable def retU : CdU V := fun v F κ => κ .ret v F
noncomputable def seqU (a b : CdU V) : CdU V := fun v F κ => a v F fun o v F => exU o (b v F κ) (fun i => κ (.exit i) v F) (κ .ret v F)
noncomputable def condU (c : V → FV) (a b : CdU V) : CdU V := fun v F κ => eT (c v) fun t => cn t (a v F κ) (b v F κ)
noncomputable def blockU (id : Nat) (a : CdU V) : CdU V := fun v F κ => a v F fun o v F => exU o (κ .normal v F) (fun i => cn (Nat.beq i id) (κ .normal v F) (κ (.exit i) v F)) (κ .ret v F)
noncomputable def loopNU (a : CdU V) (κ : EX → V → FAW → RU) (n : Nat) : V → FAW → RU :=
  Nat.rec (motive := fun _ => V → FAW → RU) (fun _ _ => .no) (fun _ ih v F => a v F fun o v F => exU o (ih v F) (fun i => κ (.exit i) v F) (κ .ret v F)) n
noncomputable def loopU (n : Nat) (a : CdU V) : CdU V := fun v F κ => loopNU a κ n v F
noncomputable def evUK (U : CU) (T : FU V) (n : Nat) : XCode → CdU V
  | .skip => skipU
  | .rt r => fun v F κ => evUT U r (T.env v) [] F fun l as F => κ .normal (T.upd l as v) F
  | .seq a b => seqU (evUK U T n a) (evUK U T n b)
  | .cond c a b => condU (fun v => XU (T.env v) c) (evUK U T n a) (evUK U T n b)
  | .block id a => blockU id (evUK U T n a)
  | .loop a => loopU n (evUK U T n a)
  | .exit id => exitU id
  | .ret => retU
theorem getFV_upd (l : List (Nat × FV)) (as : List (Nat × Operand)) (t : Nat) : ∀ L : List (Nat × FV), t ∈ L.map (·.1) → getFV (L.map fun p => (p.1, updU l as p.1 p.2)) t = updU l as t (getFV L t)
  | [], h => by simp at h
  | (u, a) :: L, h => by
    simp only [List.map_cons, getFV]
    cases e : Nat.beq t u with
    | true =>
      have := Nat.eq_of_beq_eq_true e
      subst this
      rfl
    | false =>
      refine getFV_upd l as t L ?_
      have : t ≠ u := by rintro rfl; rw [Nat.beq_refl] at e; cases e
      simpa [this] using h
def AgU (T : FU V) (v : V) (F : AF) : Prop := ∀ t ∈ T.K, F.get t = toV (getFV (T.env v) t)
theorem getL_selfU : ∀ (L : List (Nat × FV)) (t : Nat), getL ((L.map (·.1)).map fun t => (t, toV (getFV L t))) t = getL (toL L) t := by
  have key : ∀ (M L : List (Nat × FV)) (t : Nat), getL ((M.map (·.1)).map fun t => (t, toV (getFV L t))) t = if t ∈ M.map (·.1) then toV (getFV L t) else undef := by
    intro M
    induction M with
    | nil => intro L t; simp [getL]
    | cons p M ih =>
      intro L t
      simp only [List.map_cons, getL, ih L t]
      by_cases e : t = p.1
      · rw [if_pos e, if_pos (by simp [e]), e]
      · rw [if_neg e]
        by_cases e2 : t ∈ M.map (·.1)
        · rw [if_pos e2, if_pos (by simp [e2])]
        · rw [if_neg e2, if_neg (by simp only [List.mem_cons, not_or]; exact ⟨e, e2⟩)]
  intro L t
  rw [key L L t, ← getB_eq, getB_toL]
  split
  · rfl
  · rename_i hn
    clear key
    have : getFV L t = .u [] := by
      induction L with
      | nil => rfl
      | cons p L ih =>
        simp only [List.map_cons, List.mem_cons, not_or] at hn
        obtain ⟨u, a⟩ := p
        simp only [getFV]
        have : Nat.beq t u = false := by
          rw [beqU]; exact decide_eq_false hn.1
        rw [this]
        exact ih hn.2
    rw [this]
    simp only [toV, toVs]; rfl
theorem XE_envU {l l2 : List (Nat × Value)} (hl : ∀ t, getL l t = getL l2 t) : XE l = XE l2 := by
  funext o
  cases o <;> simp only [XE, getB_eq, hl]
theorem evRT_envU {C : Callee} : ∀ (t : RT) (l l2 : List (Nat × Value)) (sv : List (Nat × AW)) (S : AW) (G : AF), (∀ t, getL l t = getL l2 t) → evRT C t l sv S G = evRT C t l2 sv S G
  | .done as, l, l2, sv, S, G, h => by
    have e := XE_envU h
    have : ∀ as : List (Nat × Operand), applyAs l G as = applyAs l2 G as := by
      intro as
      induction as with
      | nil => rfl
      | cons p r ih => obtain ⟨t, o⟩ := p; simp only [applyAs, ih, e]
    simp only [evRT, this]
  | .step x e k, l, l2, sv, S, G, h => by
    have e1 := XE_envU h
    simp only [evRT, e1]
    have hc : ∀ v t, getL ((x, v) :: l) t = getL ((x, v) :: l2) t := fun v t => by simp only [getL, h]
    cases e.runR (XE l2) S with
    | none => rfl
    | some r =>
      cases r with
      | val v S' => exact evRT_envU k _ _ _ _ _ (hc v)
      | call f args =>
        simp only
        cases C f args S with
        | none => rfl
        | some q => exact evRT_envU k _ _ _ _ _ (hc _)
  | .save x k, l, l2, sv, S, G, h => by
    simp only [evRT]
    exact evRT_envU k _ _ _ _ _ h
  | .test o t f, l, l2, sv, S, G, h => by
    have e1 := XE_envU h
    simp only [evRT, e1, evRT_envU t l l2 sv S G h, evRT_envU f l l2 sv S G h]
  | .same e q k, l, l2, sv, S, G, h => by
    have e1 := XE_envU h
    simp only [evRT, e1, evRT_envU k l l2 sv S G h]
  | .row x q k, l, l2, sv, S, G, h => by
    have e1 := XE_envU h
    simp only [evRT, e1, evRT_envU k l l2 sv S G h]
theorem evUK_inv {U : CU} {C : Callee} (hU : CallR U C) (T : FU V) (n : Nat) : ∀ (c : XCode) (v : V) (F : FAW) (S : AW) (κ : EX → V → FAW → RU) (w : FV) (R : FAW) (A : AF), UR F S → AgU T v A → evUK U T n c v F κ = .ok w R →
    ∃ o A' v' F' S', evX C T.K n c A S = some (o, A', S') ∧ AgU T v' A' ∧ UR F' S' ∧ κ o v' F' = .ok w R
  | .skip, v, F, S, κ, w, R, A, h, hA, hf => ⟨_, A, v, F, S, rfl, hA, h, hf⟩
  | .exit id, v, F, S, κ, w, R, A, h, hA, hf => ⟨_, A, v, F, S, rfl, hA, h, hf⟩
  | .ret, v, F, S, κ, w, R, A, h, hA, hf => ⟨_, A, v, F, S, rfl, hA, h, hf⟩
  | .rt r, v, F, S, κ, w, R, A, h, hA, hf => by
    obtain ⟨l', as, F', S', h1, h2, h3⟩ := evUT_inv hU r (T.env v) [] [] _ S _ _ _ h trivial (show evUT U r (T.env v) [] F _ = .ok w R from hf)
    refine ⟨.normal, applyAs (toL l') A as, T.upd l' as v, F', S', ?_, ?_, h2, h3⟩
    · simp only [evX]
      have hm : (T.K.map fun t => (t, A.get t)) = T.K.map fun t => (t, toV (getFV (T.env v) t)) := List.map_congr_left fun t ht => by rw [hA t ht]
      rw [hm]
      have hl : ∀ t, getL (T.K.map fun t => (t, toV (getFV (T.env v) t))) t = getL (toL (T.env v)) t := by
        rw [← T.keys v]; exact getL_selfU (T.env v)
      rw [evRT_envU r _ _ [] S A hl, h1 A]
      rfl
    · intro t ht
      rw [(apply_get as t).1, T.law, getFV_upd l' as t _ (by rw [T.keys]; exact ht), hA t ht]
      unfold updU
      cases look as t with
      | none => rfl
      | some o => exact XE_toL l' o
  | .seq a b, v, F, S, κ, w, R, A, h, hA, hf => by
    obtain ⟨o, A1, v1, F1, S1, h1, h2, h3, h4⟩ := evUK_inv hU T n a v F S _ w R A h hA (show evUK U T n a v F _ = .ok w R from hf)
    cases o with
    | normal =>
      obtain ⟨o, A2, v2, F2, S2, k1, k2, k3, k4⟩ := evUK_inv hU T n b v1 F1 S1 κ w R A1 h3 h2 h4
      exact ⟨o, A2, v2, F2, S2, by simp only [evX, h1, k1], k2, k3, k4⟩
    | exit i => exact ⟨_, A1, v1, F1, S1, by simp only [evX, h1], h2, h3, h4⟩
    | ret => exact ⟨_, A1, v1, F1, S1, by simp only [evX, h1], h2, h3, h4⟩
  | .cond c a b, v, F, S, κ, w, R, A, h, hA, hf => by
    obtain ⟨t, h1, h2⟩ := eT_inv (show eT (XU (T.env v) c) _ = .ok w R from hf)
    have hc : A.ev c = .bool t := by
      cases c with
      | tmp s =>
        simp only [XU] at h1
        have hs : s ∈ T.K := by
          rw [← T.keys v]
          apply Classical.byContradiction
          intro hn
          have hz : ∀ L : List (Nat × FV), s ∉ L.map (·.1) → getFV L s = .u [] := by
            intro L
            induction L with
            | nil => intro _; rfl
            | cons p L ih =>
              intro hn
              simp only [List.map_cons, List.mem_cons, not_or] at hn
              obtain ⟨u, w⟩ := p
              simp only [getFV]
              have : Nat.beq s u = false := by
                rw [beqU]; exact decide_eq_false hn.1
              rw [this]; exact ih hn.2
          rw [hz _ hn] at h1
          cases h1
        simp only [AF.ev]
        rw [hA s hs, h1]; simp only [toV]
      | const u =>
        have := XE_toL (T.env v) (.const u)
        rw [h1] at this
        simp only [toV] at this
        exact this
      | func f => cases h1
      | global g => cases h1
    cases t with
    | true =>
      obtain ⟨o, A2, v2, F2, S2, k1, k2, k3, k4⟩ := evUK_inv hU T n a v F S κ w R A h hA h2
      exact ⟨o, A2, v2, F2, S2, by simp only [evX, hc, k1], k2, k3, k4⟩
    | false =>
      obtain ⟨o, A2, v2, F2, S2, k1, k2, k3, k4⟩ := evUK_inv hU T n b v F S κ w R A h hA h2
      exact ⟨o, A2, v2, F2, S2, by simp only [evX, hc, k1], k2, k3, k4⟩
  | .block id a, v, F, S, κ, w, R, A, h, hA, hf => by
    obtain ⟨o, A1, v1, F1, S1, h1, h2, h3, h4⟩ := evUK_inv hU T n a v F S _ w R A h hA (show evUK U T n a v F _ = .ok w R from hf)
    cases o with
    | normal => exact ⟨_, A1, v1, F1, S1, by simp only [evX, h1], h2, h3, h4⟩
    | ret => exact ⟨_, A1, v1, F1, S1, by simp only [evX, h1], h2, h3, h4⟩
    | exit i =>
      have h4 : cn (Nat.beq i id) (κ .normal v1 F1) (κ (.exit i) v1 F1) = .ok w R := h4
      rw [beqU] at h4
      by_cases e : i = id
      · simp only [e, decide_true, cn_true] at h4
        exact ⟨_, A1, v1, F1, S1, by simp only [evX, h1, if_pos e], h2, h3, h4⟩
      · simp only [e, decide_false, cn_false] at h4
        exact ⟨_, A1, v1, F1, S1, by simp only [evX, h1, if_neg e], h2, h3, h4⟩
  | .loop a, v, F, S, κ, w, R, A, h, hA, hf => by
    have key : ∀ (k : Nat) (v : V) (F : FAW) (S : AW) (A : AF), UR F S → AgU T v A → loopNU (evUK U T n a) κ k v F = .ok w R →
        ∃ o A' v' F' S', iter (evX C T.K n a) k A S = some (o, A', S') ∧ AgU T v' A' ∧ UR F' S' ∧ κ o v' F' = .ok w R := by
      intro k
      induction k with
      | zero => intro v F S A _ _ hf; cases hf
      | succ k ih =>
        intro v F S A h hA hf
        obtain ⟨o, A1, v1, F1, S1, h1, h2, h3, h4⟩ := evUK_inv hU T n a v F S _ w R A h hA (show evUK U T n a v F (fun o v F => exU o (loopNU (evUK U T n a) κ k v F) (fun i => κ (.exit i) v F) (κ .ret v F)) = .ok w R from hf)
        cases o with
        | normal =>
          obtain ⟨o, A2, v2, F2, S2, k1, k2, k3, k4⟩ := ih v1 F1 S1 A1 h3 h2 h4
          exact ⟨o, A2, v2, F2, S2, by simp only [iter, h1, k1], k2, k3, k4⟩
        | exit i => exact ⟨_, A1, v1, F1, S1, by simp only [iter, h1], h2, h3, h4⟩
        | ret => exact ⟨_, A1, v1, F1, S1, by simp only [iter, h1], h2, h3, h4⟩
    obtain ⟨o, A2, v2, F2, S2, k1, k2, k3, k4⟩ := key n v F S A h hA hf
    exact ⟨o, A2, v2, F2, S2, by simp only [evX, k1], k2, k3, k4⟩
end
noncomputable def argU (args : List FV) : Nat → FV := List.rec (motive := fun _ => Nat → FV) (fun _ => .u []) (fun a _ ih n => Nat.rec (motive := fun _ => FV) a (fun m _ => ih m) n) args
theorem argU_eq : ∀ (args : List FV) (t : Nat), toV (argU args t) = ((toVs args)[t]?).getD undef
  | [], t => by
    show toV (.u []) = _
    simp only [toV, toVs]; rfl
  | a :: l, 0 => by
    show toV a = _
    simp [toVs]
  | a :: l, t + 1 => by
    show toV (argU l t) = _
    rw [argU_eq l t]; simp [toVs]
noncomputable def resU (env : List (Nat × FV)) (F : FAW) (rs : List (Nat × Option (Option Nat))) : (List FV → RU) → RU :=
  List.rec (motive := fun _ => (List FV → RU) → RU) (fun k => k []) (fun p _ ih k => Option.rec (motive := fun _ => RU) (ih fun vs => k (getFV env p.1 :: vs)) (fun sz => uLd sz (getFV env p.1) F fun v _ => ih fun vs => k (v :: vs)) p.2) rs
theorem resU_inv {V : Type} {T : FU V} {v : V} {A : AF} (hA : AgU T v A) {S : AW} {F : FAW} (h : UR F S) : ∀ {rs : List (Nat × Option (Option Nat))}, (∀ r ∈ rs, r.1 ∈ T.K) → ∀ {k : List FV → RU} {w : FV} {R : FAW}, resU (T.env v) F rs k = .ok w R → ∃ vs, resV A S rs = some (toVs vs) ∧ k vs = .ok w R
  | [], _, k, w, R, hf => ⟨[], rfl, hf⟩
  | (t, none) :: l, hk, k, w, R, hf => by
    obtain ⟨vs, h1, h2⟩ := resU_inv hA h (fun r hr => hk r (List.mem_cons_of_mem _ hr)) (show resU (T.env v) F l _ = .ok w R from hf)
    exact ⟨_, by simp only [resV, h1, toVs]; rw [hA t (hk (t, none) (by simp))], h2⟩
  | (t, some sz) :: l, hk, k, w, R, hf => by
    obtain ⟨i, o, h1, h2⟩ := eP_inv (show uLd sz (getFV (T.env v) t) F (fun u _ => resU (T.env v) F l fun vs => k (u :: vs)) = .ok w R from hf)
    obtain ⟨u, h3, h4⟩ := uLdP_inv h h2
    obtain ⟨vs, h5, h6⟩ := resU_inv hA h (fun r hr => hk r (List.mem_cons_of_mem _ hr)) h4
    have e1 : A.get t = .pointer (some ⟨i, o, none⟩) := by rw [hA t (hk (t, some sz) (by simp)), h1]; simp only [toV]
    exact ⟨u :: vs, by simp only [resV, e1, h3, h5, toVs], h6⟩
noncomputable def tupU (vs : List FV) : FV := List.rec (motive := fun _ => FV) (.u []) (fun a l _ => List.rec (motive := fun _ => FV) a (fun b r _ => .u (a :: b :: r)) l) vs
theorem tupU_eq (vs : List FV) : toV (tupU vs) = tupV (toVs vs) := by
  cases vs with
  | nil =>
    show toV (.u []) = _
    simp only [toV, toVs]; rfl
  | cons a l =>
    cases l with
    | nil => simp only [toVs]; rfl
    | cons b r =>
      show toV (.u (a :: b :: r)) = _
      simp only [toV, toVs]; rfl
noncomputable def finU (env : List (Nat × FV)) (rs : List (Nat × Option (Option Nat))) (F : FAW) : RU := resU env F rs fun vs => .ok (tupU vs) F
noncomputable def evUG {V : Type} (U : CU) (T : FU V) (n : Nat) (xf : XFunc) (args : List FV) (F : FAW) : RU :=
  evUK U T n xf.body (T.ent (argU args)) F fun o v F => exU o (finU (T.env v) xf.results F) (fun _ => .no) (finU (T.env v) xf.results F)
theorem getL_mapU (K : List Nat) (g : Nat → FV) {t : Nat} (ht : t ∈ K) : getFV (K.map fun t => (t, g t)) t = g t := by
  induction K with
  | nil => cases ht
  | cons u K ih =>
    simp only [List.map_cons, getFV]
    cases e : Nat.beq t u with
    | true =>
      have := Nat.eq_of_beq_eq_true e
      subst this
      rfl
    | false =>
      have : t ≠ u := by rintro rfl; rw [Nat.beq_refl] at e; cases e
      exact ih (by simpa [this] using ht)
theorem evUG_inv {V : Type} {U : CU} {C : Callee} (hU : CallR U C) {T : FU V} {n : Nat} {xf : XFunc} (hK : T.K = xf.K) (hr : (xf.results.all fun r => xf.K.contains r.1) = true) {args : List FV} {F : FAW} {S : AW} (h : UR F S) {v : FV} {R : FAW} (hf : evUG U T n xf args F = .ok v R) :
    ∃ S', evXF0 C n xf (toVs args) S = some (toV v, S') ∧ UR R S' := by
  have hr : ∀ r ∈ xf.results, r.1 ∈ T.K := by
    rw [hK]
    simpa [List.all_eq_true] using hr
  have hA : AgU T (T.ent (argU args)) (xf.enter (toVs args)) := by
    intro t ht
    rw [T.start]
    unfold XFunc.enter
    simp only [AF.get]
    rw [hK, getL_map xf.K (fun t => ((toVs args)[t]?).getD undef) (hK ▸ ht), getL_mapU xf.K (argU args) (hK ▸ ht), argU_eq]
  obtain ⟨o, A', v', F', S', h1, h2, h3, h4⟩ := evUK_inv hU T n xf.body _ _ _ _ _ _ _ h hA hf
  unfold evXF0 finish
  rw [hK] at h1
  rw [h1]
  have key : finU (T.env v') xf.results F' = .ok v R → ∃ vs, resV A' S' xf.results = some (toVs vs) ∧ v = tupU vs ∧ R = F' := by
    intro hx
    obtain ⟨vs, h5, h6⟩ := resU_inv h2 h3 hr hx
    simp only [RU.ok.injEq] at h6
    exact ⟨vs, h5, h6.1.symm, h6.2.symm⟩
  cases o with
  | exit i => cases h4
  | normal =>
    obtain ⟨vs, h5, rfl, rfl⟩ := key h4
    exact ⟨S', by simp only [h5, tupU_eq], h3⟩
  | ret =>
    obtain ⟨vs, h5, rfl, rfl⟩ := key h4
    exact ⟨S', by simp only [h5, tupU_eq], h3⟩
end Go.Proofs.Ythclmjelknibhaa.Ev
