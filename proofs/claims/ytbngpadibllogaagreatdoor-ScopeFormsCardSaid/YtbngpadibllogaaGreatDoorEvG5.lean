/- Trees and code told by what goes on behind them; frames as rows of values. -/
import Derived.Test.YtbngpadibllogaaGreatDoorEvG4
import Derived.Test.YtbngpadibllogaaGreatDoorEv30
namespace Go.Proofs.YtbngpadibllogaaGreatDoor.Ev
open Go Go.RowKit
set_option linter.unusedVariables false
set_option linter.unusedSimpArgs false
set_option linter.unusedSectionVars false

def aeqB (a b : Addr) : Bool := and (Nat.beq a.block b.block) (and (Nat.beq a.off b.off) (and (Option.isNone a.spot) (Option.isNone b.spot)))
theorem aeqB_eq {a b : Addr} (h : aeqB a b = true) : a = b := by
  obtain ⟨i, o, s⟩ := a
  obtain ⟨j, u, t⟩ := b
  simp only [aeqB, Bool.and_eq_true, Nat.beq_eq, Option.isNone_iff_eq_none] at h
  obtain ⟨rfl, rfl, rfl, rfl⟩ := h
  rfl
theorem xorB_eq : ∀ {s t : Bool}, Bool.xor s (!t) = true → s = t
  | true, true, _ => rfl
  | false, false, _ => rfl
  | true, false, h => nomatch h
  | false, true, h => nomatch h
def veqB1 (a b : Value) : Bool :=
  match a with
  | .int k m => (match b with
    | .int q n => and (Nat.beq (idK k) (idK q)) (eqI m n)
    | _ => false)
  | .bool s => (match b with
    | .bool t => Bool.xor s (!t)
    | _ => false)
  | .string s => (match b with
    | .string t => beqS s t
    | _ => false)
  | .pointer none => (match b with
    | .pointer none => true
    | _ => false)
  | .pointer (some x) => (match b with
    | .pointer (some y) => aeqB x y
    | _ => false)
  | .slice none n c => (match b with
    | .slice none n' c' => and (Nat.beq n n') (Nat.beq c c')
    | _ => false)
  | .slice (some x) n c => (match b with
    | .slice (some y) n' c' => and (aeqB x y) (and (Nat.beq n n') (Nat.beq c c'))
    | _ => false)
  | _ => false
theorem veqB1_eq {a b : Value} (h : veqB1 a b = true) : a = b := by
  unfold veqB1 at h
  split at h <;> first
    | (cases h; done)
    | (split at h <;> first
      | (cases h; done)
      | rfl
      | skip)
  · simp only [idK_eq, eqI_eq, Bool.and_eq_true, decide_eq_true_eq] at h
    obtain ⟨rfl, rfl⟩ := h; rfl
  · exact congrArg Value.bool (xorB_eq h)
  · simp only [beqS_eq, decide_eq_true_eq] at h
    rw [h]
  · rw [aeqB_eq h]
  · simp only [Bool.and_eq_true, Nat.beq_eq] at h
    obtain ⟨rfl, rfl⟩ := h; rfl
  · simp only [Bool.and_eq_true, Nat.beq_eq] at h
    obtain ⟨h1, rfl, rfl⟩ := h
    rw [aeqB_eq h1]
def veqBs : List Value → List Value → Bool
  | [], [] => true
  | a :: x, b :: y => cond (veqB1 a b) (veqBs x y) false
  | _, _ => false
theorem veqBs_eq : ∀ {x y : List Value}, veqBs x y = true → x = y
  | [], [], h => rfl
  | [], _ :: _, h => by simp [veqBs] at h
  | _ :: _, [], h => by simp [veqBs] at h
  | a :: x, b :: y, h => by
    rw [veqBs] at h
    cases e : veqB1 a b with
    | false => rw [e] at h; cases h
    | true =>
      rw [e, cond_true] at h
      rw [veqB1_eq e, veqBs_eq h]
def veqB (a b : Value) : Bool :=
  match a with
  | .agg x => (match b with
    | .agg y => veqBs x.toList y.toList
    | _ => false)
  | a => veqB1 a b
theorem veqB_eq {a b : Value} (h : veqB a b = true) : a = b := by
  unfold veqB at h
  split at h
  · split at h
    · exact congrArg Value.agg (Array.toList_inj.mp (veqBs_eq h))
    · cases h
  · exact veqB1_eq h
theorem beqI_refl : ∀ n : Int, (n == n) = true := fun n => by simp
theorem veqB1_veq1 {a b : Value} (h : veqB1 a b = true) : veq1 a b = true := by
  have e := veqB1_eq h
  subst e
  cases a with
  | bool b => simp [veq1]
  | int k n => simp [veq1]
  | string s => simp [veq1]
  | pointer a =>
    cases a with
    | none => rfl
    | some a =>
      obtain ⟨i, o, s⟩ := a
      simp only [veqB1, aeqB, Bool.and_eq_true, Nat.beq_eq, Option.isNone_iff_eq_none] at h
      obtain ⟨_, _, rfl, _⟩ := h
      simp [veq1, aeq]
  | slice a n c =>
    cases a with
    | none => simp [veq1]
    | some a =>
      obtain ⟨i, o, s⟩ := a
      simp only [veqB1, aeqB, Bool.and_eq_true, Nat.beq_eq, Option.isNone_iff_eq_none] at h
      obtain ⟨⟨_, _, rfl, _⟩, _, _⟩ := h
      simp [veq1, aeq]
  | _ => simp [veqB1] at h
theorem veqBs_veqs : ∀ {x y : List Value}, veqBs x y = true → veqs x y = true
  | [], [], h => rfl
  | [], _ :: _, h => by simp [veqBs] at h
  | _ :: _, [], h => by simp [veqBs] at h
  | a :: x, b :: y, h => by
    rw [veqBs] at h
    cases e : veqB1 a b with
    | false => rw [e] at h; cases h
    | true =>
      rw [e, cond_true] at h
      rw [veqs, veqB1_veq1 e, veqBs_veqs h]; rfl
theorem veqB_veq {a b : Value} (h : veqB a b = true) : veq a b = true := by
  unfold veqB at h
  split at h
  · split at h
    · exact veqBs_veqs h
    · cases h
  · rename_i hne
    cases a <;> first | exact (hne _ rfl).elim | exact veqB1_veq1 h

def isRd : EOp → Bool
  | .slV .. => true
  | .ld .. => true
  | .cvBS .. => true
  | .mlk .. => true
  | .lenM .. => true
  | _ => false
theorem goR_val {C : Callee} {S S1 : AW} {o : Option Res} {v : Value} (h : goR C S o = some (v, S1)) (hc : ∀ f args, o ≠ some (.call f args)) : o = some (.val v S1) := by
  cases o with
  | none => cases h
  | some r =>
    cases r with
    | val u S' =>
      simp only [goR, Option.some.injEq, Prod.mk.injEq] at h
      rw [h.1, h.2]
    | call f args => exact absurd rfl (hc f args)
theorem isRd_no {e : EOp} (h : isRd e = true) (ρ : Operand → Value) (S : AW) : ∀ f args, e.runR ρ S ≠ some (.call f args) := by
  intro f args
  have hV : ∀ o : Option Value, rV S o ≠ some (.call f args) := fun o => by cases o <;> simp [rV]
  cases e <;> simp only [isRd, Bool.false_eq_true] at h <;> simp only [EOp.runR]
  case slV =>
    unfold rSlV
    intro hh
    split at hh
    · split at hh <;> simp at hh
    · split at hh
      · split at hh
        · split at hh <;> simp at hh
        · cases hh
      · cases hh
    · cases hh
  case ld =>
    unfold rLd
    intro hh
    split at hh
    · exact hV _ hh
    · cases hh
  case cvBS =>
    unfold rCvBS
    intro hh
    split at hh
    · simp at hh
    · split at hh
      · split at hh <;> simp at hh
      · cases hh
    · cases hh
  case mlk => exact hV _
  case lenM => exact hV _
def sameC (C : Callee) (e : EOp) (ρ : Operand → Value) (S : AW) (v : Value) (k : R) : R :=
  cond (isRd e) (opK C e ρ S fun u _ => cond (veqB u v) k none) none
theorem sameC_inv {C : Callee} {e : EOp} {ρ : Operand → Value} {S : AW} {v : Value} {k : R} {x : Value × AW} (h : sameC C e ρ S v k = some x) : ∃ u S', e.runR ρ S = some (.val u S') ∧ veq u v = true ∧ k = some x := by
  unfold sameC at h
  cases e1 : isRd e with
  | false => rw [e1] at h; cases h
  | true =>
    rw [e1, cond_true] at h
    obtain ⟨u, S', h1, h2⟩ := opK_inv h
    cases e2 : veqB u v with
    | false => rw [e2] at h2; cases h2
    | true =>
      rw [e2, cond_true] at h2
      exact ⟨u, S', goR_val h1 (isRd_no e1 ρ S), veqB_veq e2, h2⟩

abbrev KT := List (Nat × Value) → List (Nat × Operand) → AW → R
def evT (C : Callee) : RT → List (Nat × Value) → List (Nat × AW) → AW → KT → R
  | .done as, l, _, S, κ => κ l as S
  | .step x e k, l, sv, S, κ => opK C e (XE l) S fun v S' => evT C k ((x, v) :: l) sv S' κ
  | .save x k, l, sv, S, κ => evT C k l ((x, S) :: sv) S κ
  | .test o t f, l, sv, S, κ => bl (XE l o) fun b => cond b (evT C t l sv S κ) (evT C f l sv S κ)
  | .same e q k, l, sv, S, κ => sameC C e (XE l) S (XE l q) (evT C k l sv S κ)
  | .row x q k, l, sv, S, κ => Option.casesOn (look sv x) none fun S0 => cond (rowSame S S0 (XE l q)) (evT C k l sv S κ) none
theorem evT_inv {C : Callee} : ∀ (t : RT) (l : List (Nat × Value)) (sv : List (Nat × AW)) (S : AW) (κ : KT) (x : Value × AW), evT C t l sv S κ = some x →
    ∃ l' as S', (∀ G, evRT C t l sv S G = some (applyAs l' G as, S')) ∧ κ l' as S' = some x
  | .done as, l, sv, S, κ, x, h => ⟨l, as, S, fun G => rfl, h⟩
  | .step y e k, l, sv, S, κ, x, h => by
    obtain ⟨v, S1, h1, h2⟩ := opK_inv (show opK C e (XE l) S _ = some x from h)
    obtain ⟨l', as, S', h3, h4⟩ := evT_inv k _ _ _ _ _ h2
    refine ⟨l', as, S', fun G => ?_, h4⟩
    simp only [evRT]
    cases e1 : e.runR (XE l) S with
    | none => rw [e1] at h1; cases h1
    | some r =>
      rw [e1] at h1
      cases r with
      | val u S2 =>
        simp only [goR, Option.some.injEq, Prod.mk.injEq] at h1
        obtain ⟨rfl, rfl⟩ := h1
        exact h3 G
      | call f args =>
        simp only [goR] at h1
        simp only [h1]
        exact h3 G
  | .save y k, l, sv, S, κ, x, h => by
    obtain ⟨l', as, S', h3, h4⟩ := evT_inv k _ _ _ _ _ (show evT C k l ((y, S) :: sv) S κ = some x from h)
    exact ⟨l', as, S', fun G => by simp only [evRT]; exact h3 G, h4⟩
  | .test o t f, l, sv, S, κ, x, h => by
    obtain ⟨b, h1, h2⟩ := bl_inv (show bl (XE l o) _ = some x from h)
    cases b with
    | true =>
      obtain ⟨l', as, S', h3, h4⟩ := evT_inv t _ _ _ _ _ (show evT C t l sv S κ = some x from h2)
      exact ⟨l', as, S', fun G => by simp only [evRT, h1]; exact h3 G, h4⟩
    | false =>
      obtain ⟨l', as, S', h3, h4⟩ := evT_inv f _ _ _ _ _ (show evT C f l sv S κ = some x from h2)
      exact ⟨l', as, S', fun G => by simp only [evRT, h1]; exact h3 G, h4⟩
  | .same e q k, l, sv, S, κ, x, h => by
    obtain ⟨u, S1, h1, h2, h3⟩ := sameC_inv (show sameC C e (XE l) S (XE l q) _ = some x from h)
    obtain ⟨l', as, S', h4, h5⟩ := evT_inv k _ _ _ _ _ h3
    exact ⟨l', as, S', fun G => by simp only [evRT, h1, h2, if_true]; exact h4 G, h5⟩
  | .row y q k, l, sv, S, κ, x, h => by
    have h : (Option.casesOn (look sv y) none fun S0 => cond (rowSame S S0 (XE l q)) (evT C k l sv S κ) none : R) = some x := h
    cases e1 : look sv y with
    | none => rw [e1] at h; cases h
    | some S0 =>
      rw [e1] at h
      have h : cond (rowSame S S0 (XE l q)) (evT C k l sv S κ) none = some x := h
      cases e2 : rowSame S S0 (XE l q) with
      | false => rw [e2] at h; cases h
      | true =>
        rw [e2, cond_true] at h
        obtain ⟨l', as, S', h4, h5⟩ := evT_inv k _ _ _ _ _ h
        exact ⟨l', as, S', fun G => by simp only [evRT, e1, e2, if_true]; exact h4 G, h5⟩

/-- What a slot holds behind a region. -/
def updV (l : List (Nat × Value)) (as : List (Nat × Operand)) (t : Nat) (v : Value) : Value := Option.casesOn (look as t) v fun o => XE l o
/-- Frames as rows of values: which slots, how they are read, how they are told anew. -/
structure FT (V : Type) where
  K : List Nat
  env : V → List (Nat × Value)
  upd : List (Nat × Value) → List (Nat × Operand) → V → V
  ent : (Nat → Value) → V
  keys : ∀ v, (env v).map (·.1) = K
  law : ∀ l as v, env (upd l as v) = (env v).map fun p => (p.1, updV l as p.1 p.2)
  start : ∀ g, env (ent g) = K.map fun t => (t, g t)

abbrev Cd (V : Type) := V → AW → (EX → V → AW → R) → R
section
variable {V : Type}
def skipK : Cd V := fun v S κ => κ .normal v S
def exitK (id : Nat) : Cd V := fun v S κ => κ (.exit id) v S
def retK : Cd V := fun v S κ => κ .ret v S
def seqK (a b : Cd V) : Cd V := fun v S κ => a v S fun o v S => EX.casesOn o (b v S κ) (fun i => κ (.exit i) v S) (κ .ret v S)
def condK (c : V → Value) (a b : Cd V) : Cd V := fun v S κ => bl (c v) fun t => cond t (a v S κ) (b v S κ)
def blockK (id : Nat) (a : Cd V) : Cd V := fun v S κ => a v S fun o v S => EX.casesOn o (κ .normal v S) (fun i => cond (Nat.beq i id) (κ .normal v S) (κ (.exit i) v S)) (κ .ret v S)
def loopN (a : Cd V) (κ : EX → V → AW → R) : Nat → V → AW → R
  | 0, _, _ => none
  | n + 1, v, S => a v S fun o v S => EX.casesOn o (loopN a κ n v S) (fun i => κ (.exit i) v S) (κ .ret v S)
def loopK (n : Nat) (a : Cd V) : Cd V := fun v S κ => loopN a κ n v S
def evK (C : Callee) (T : FT V) (n : Nat) : XCode → Cd V
  | .skip => skipK
  | .rt r => fun v S κ => evT C r (T.env v) [] S fun l as S => κ .normal (T.upd l as v) S
  | .seq a b => seqK (evK C T n a) (evK C T n b)
  | .cond c a b => condK (fun v => XE (T.env v) c) (evK C T n a) (evK C T n b)
  | .block id a => blockK id (evK C T n a)
  | .loop a => loopK n (evK C T n a)
  | .exit id => exitK id
  | .ret => retK

theorem getL_updV (l : List (Nat × Value)) (as : List (Nat × Operand)) (t : Nat) : ∀ L : List (Nat × Value), t ∈ L.map (·.1) → getL (L.map fun p => (p.1, updV l as p.1 p.2)) t = updV l as t (getL L t)
  | [], h => by simp at h
  | (u, a) :: L, h => by
    simp only [List.map_cons, getL]
    by_cases e : t = u
    · rw [if_pos e, if_pos e, e]
    · rw [if_neg e, if_neg e]
      exact getL_updV l as t L (by simpa [e] using h)
/-- A frame of ours and a row of values. -/
def AgV (T : FT V) (v : V) (F : AF) : Prop := ∀ t ∈ T.K, F.get t = getL (T.env v) t
theorem AgV.map {T : FT V} {v : V} {F : AF} (h : AgV T v F) : (T.K.map fun t => (t, F.get t)) = T.K.map fun t => (t, getL (T.env v) t) :=
  List.map_congr_left fun t ht => by rw [h t ht]
theorem getL_self : ∀ (L : List (Nat × Value)) (t : Nat), getL ((L.map (·.1)).map fun t => (t, getL L t)) t = getL L t := by
  have key : ∀ (M L : List (Nat × Value)) (t : Nat), getL ((M.map (·.1)).map fun t => (t, getL L t)) t = if t ∈ M.map (·.1) then getL L t else undef := by
    intro M
    induction M with
    | nil => intro L t; simp [getL]
    | cons p M ih =>
      intro L t
      simp only [List.map_cons, getL, ih L t]
      by_cases e : t = p.1
      · rw [if_pos e, if_pos (by simp [e]), e]
      · rw [if_neg e]
        by_cases e2 : t ∈ M.map (·.1)
        · rw [if_pos e2, if_pos (by simp [e2])]
        · rw [if_neg e2, if_neg (by simp only [List.mem_cons, not_or]; exact ⟨e, e2⟩)]
  intro L t
  rw [key L L t]
  split
  · rfl
  · rename_i hn
    clear key
    induction L with
    | nil => rfl
    | cons p L ih =>
      simp only [List.map_cons, List.mem_cons, not_or] at hn
      obtain ⟨u, a⟩ := p
      simp only [getL]
      rw [if_neg hn.1]
      exact ih hn.2
theorem evT_env {C : Callee} {l l2 : List (Nat × Value)} (hl : ∀ t, getL l t = getL l2 t) : XE l = XE l2 := by
  funext o
  cases o <;> simp only [XE, getB_eq, hl]
theorem evRT_env {C : Callee} : ∀ (t : RT) (l l2 : List (Nat × Value)) (sv : List (Nat × AW)) (S : AW) (G : AF), (∀ t, getL l t = getL l2 t) → evRT C t l sv S G = evRT C t l2 sv S G
  | .done as, l, l2, sv, S, G, h => by
    have e := evT_env (C := C) h
    have : ∀ as : List (Nat × Operand), applyAs l G as = applyAs l2 G as := by
      intro as
      induction as with
      | nil => rfl
      | cons p r ih => obtain ⟨t, o⟩ := p; simp only [applyAs, ih, e]
    simp only [evRT, this]
  | .step x e k, l, l2, sv, S, G, h => by
    have e1 := evT_env (C := C) h
    simp only [evRT, e1]
    have hc : ∀ v t, getL ((x, v) :: l) t = getL ((x, v) :: l2) t := fun v t => by simp only [getL, h]
    cases e.runR (XE l2) S with
    | none => rfl
    | some r =>
      cases r with
      | val v S' => exact evRT_env k _ _ _ _ _ (hc v)
      | call f args =>
        simp only
        cases C f args S with
        | none => rfl
        | some q => exact evRT_env k _ _ _ _ _ (hc _)
  | .save x k, l, l2, sv, S, G, h => by
    simp only [evRT]
    exact evRT_env k _ _ _ _ _ h
  | .test o t f, l, l2, sv, S, G, h => by
    have e1 := evT_env (C := C) h
    simp only [evRT, e1, evRT_env t l l2 sv S G h, evRT_env f l l2 sv S G h]
  | .same e q k, l, l2, sv, S, G, h => by
    have e1 := evT_env (C := C) h
    simp only [evRT, e1, evRT_env k l l2 sv S G h]
  | .row x q k, l, l2, sv, S, G, h => by
    have e1 := evT_env (C := C) h
    simp only [evRT, e1, evRT_env k l l2 sv S G h]

theorem evK_inv {C : Callee} (T : FT V) (n : Nat) : ∀ (c : XCode) (v : V) (S : AW) (κ : EX → V → AW → R) (x : Value × AW) (F : AF), AgV T v F → evK C T n c v S κ = some x →
    ∃ o F' v' S', evX C T.K n c F S = some (o, F', S') ∧ AgV T v' F' ∧ κ o v' S' = some x
  | .skip, v, S, κ, x, F, hF, h => ⟨_, F, v, S, rfl, hF, h⟩
  | .exit id, v, S, κ, x, F, hF, h => ⟨_, F, v, S, rfl, hF, h⟩
  | .ret, v, S, κ, x, F, hF, h => ⟨_, F, v, S, rfl, hF, h⟩
  | .rt r, v, S, κ, x, F, hF, h => by
    obtain ⟨l', as, S', h1, h2⟩ := evT_inv r _ _ _ _ _ (show evT C r (T.env v) [] S _ = some x from h)
    refine ⟨.normal, applyAs l' F as, T.upd l' as v, S', ?_, ?_, h2⟩
    · simp only [evX]
      rw [hF.map]
      have hl : ∀ t, getL (T.K.map fun t => (t, getL (T.env v) t)) t = getL (T.env v) t := by
        rw [← T.keys v]; exact getL_self (T.env v)
      rw [evRT_env r _ _ [] S F hl, h1 F]
      rfl
    · intro t ht
      rw [(apply_get as t).1, T.law, getL_updV l' as t _ (by rw [T.keys]; exact ht), ← hF t ht]
      unfold updV
      cases look as t <;> rfl
  | .seq a b, v, S, κ, x, F, hF, h => by
    obtain ⟨o, F1, v1, S1, h1, h2, h3⟩ := evK_inv T n a v S _ x F hF (show evK C T n a v S _ = some x from h)
    cases o with
    | normal =>
      obtain ⟨o, F2, v2, S2, h4, h5, h6⟩ := evK_inv T n b v1 S1 κ x F1 h2 h3
      exact ⟨o, F2, v2, S2, by simp only [evX, h1, h4], h5, h6⟩
    | exit i => exact ⟨_, F1, v1, S1, by simp only [evX, h1], h2, h3⟩
    | ret => exact ⟨_, F1, v1, S1, by simp only [evX, h1], h2, h3⟩
  | .cond c a b, v, S, κ, x, F, hF, h => by
    obtain ⟨t, h1, h2⟩ := bl_inv (show bl (XE (T.env v) c) _ = some x from h)
    have hc : F.ev c = .bool t := by
      cases c with
      | tmp s =>
        simp only [XE, getB_eq] at h1
        have hs : s ∈ T.K := by
          rw [← T.keys v]
          apply Classical.byContradiction
          intro hn
          have hz : ∀ L : List (Nat × Value), s ∉ L.map (·.1) → getL L s = undef := by
            intro L
            induction L with
            | nil => intro _; rfl
            | cons p L ih =>
              intro hn
              simp only [List.map_cons, List.mem_cons, not_or] at hn
              obtain ⟨u, w⟩ := p
              simp only [getL]
              rw [if_neg hn.1]; exact ih hn.2
          rw [hz _ hn] at h1
          cases h1
        simp only [AF.ev]
        rw [hF s hs]; exact h1
      | const w => exact h1
      | func f => exact h1
      | global g => cases h1
    cases t with
    | true =>
      obtain ⟨o, F2, v2, S2, h4, h5, h6⟩ := evK_inv T n a v S κ x F hF h2
      exact ⟨o, F2, v2, S2, by simp only [evX, hc, h4], h5, h6⟩
    | false =>
      obtain ⟨o, F2, v2, S2, h4, h5, h6⟩ := evK_inv T n b v S κ x F hF h2
      exact ⟨o, F2, v2, S2, by simp only [evX, hc, h4], h5, h6⟩
  | .block id a, v, S, κ, x, F, hF, h => by
    obtain ⟨o, F1, v1, S1, h1, h2, h3⟩ := evK_inv T n a v S _ x F hF (show evK C T n a v S _ = some x from h)
    cases o with
    | normal => exact ⟨_, F1, v1, S1, by simp only [evX, h1], h2, h3⟩
    | ret => exact ⟨_, F1, v1, S1, by simp only [evX, h1], h2, h3⟩
    | exit i =>
      have h3 : cond (Nat.beq i id) (κ .normal v1 S1) (κ (.exit i) v1 S1) = some x := h3
      rw [beqN_eq] at h3
      by_cases e : i = id
      · simp only [e, decide_true, cond_true] at h3
        exact ⟨_, F1, v1, S1, by simp only [evX, h1, if_pos e], h2, h3⟩
      · simp only [e, decide_false, cond_false] at h3
        exact ⟨_, F1, v1, S1, by simp only [evX, h1, if_neg e], h2, h3⟩
  | .loop a, v, S, κ, x, F, hF, h => by
    have key : ∀ (k : Nat) (v : V) (S : AW) (F : AF), AgV T v F → loopN (evK C T n a) κ k v S = some x →
        ∃ o F' v' S', iter (evX C T.K n a) k F S = some (o, F', S') ∧ AgV T v' F' ∧ κ o v' S' = some x := by
      intro k
      induction k with
      | zero => intro v S F _ h; simp [loopN] at h
      | succ k ih =>
        intro v S F hF h
        obtain ⟨o, F1, v1, S1, h1, h2, h3⟩ := evK_inv T n a v S _ x F hF (show evK C T n a v S _ = some x from h)
        cases o with
        | normal =>
          obtain ⟨o, F2, v2, S2, h4, h5, h6⟩ := ih v1 S1 F1 h2 h3
          exact ⟨o, F2, v2, S2, by simp only [iter, h1, h4], h5, h6⟩
        | exit i => exact ⟨_, F1, v1, S1, by simp only [iter, h1], h2, h3⟩
        | ret => exact ⟨_, F1, v1, S1, by simp only [iter, h1], h2, h3⟩
    obtain ⟨o, F2, v2, S2, h4, h5, h6⟩ := key n v S F hF h
    exact ⟨o, F2, v2, S2, by simp only [evX, h4], h5, h6⟩
end
/-- A call's arguments. -/
def argV (args : List Value) (t : Nat) : Value := Option.casesOn (nthL args t) undef fun v => v
theorem argV_eq (args : List Value) (t : Nat) : argV args t = (args[t]?).getD undef := by
  unfold argV
  rw [nthL_eq]
  cases args[t]? <;> rfl
def resL (env : List (Nat × Value)) (S : AW) : List (Nat × Option (Option Nat)) → (List Value → R) → R
  | [], k => k []
  | p :: l, k => Option.casesOn p.2 (resL env S l fun vs => k (getB env p.1 :: vs)) fun sz => kLd sz (getB env p.1) S fun v _ => resL env S l fun vs => k (v :: vs)
theorem resL_inv {V : Type} {T : FT V} {v : V} {F : AF} (hF : AgV T v F) {S : AW} : ∀ {rs : List (Nat × Option (Option Nat))}, (∀ r ∈ rs, r.1 ∈ T.K) → ∀ {k : List Value → R} {x : Value × AW}, resL (T.env v) S rs k = some x → ∃ vs, resV F S rs = some vs ∧ k vs = some x
  | [], _, k, x, h => ⟨[], rfl, h⟩
  | (t, none) :: l, hk, k, x, h => by
    obtain ⟨vs, h1, h2⟩ := resL_inv hF (fun r hr => hk r (List.mem_cons_of_mem _ hr)) (show resL (T.env v) S l _ = some x from h)
    refine ⟨_, by simp only [resV, h1]; rfl, ?_⟩
    rw [hF t (hk (t, none) (by simp)), ← getB_eq]; exact h2
  | (t, some sz) :: l, hk, k, x, h => by
    have h : kLd sz (getB (T.env v) t) S (fun w _ => resL (T.env v) S l fun vs => k (w :: vs)) = some x := h
    obtain ⟨i, o, h1, h2⟩ := ptrC_inv h
    obtain ⟨w, h3, h4⟩ := kLdP_inv h2
    obtain ⟨vs, h5, h6⟩ := resL_inv hF (fun r hr => hk r (List.mem_cons_of_mem _ hr)) h4
    rw [getB_eq, ← hF t (hk (t, some sz) (by simp))] at h1
    exact ⟨w :: vs, by simp only [resV, h1, h3, h5], h6⟩
def finK (env : List (Nat × Value)) (rs : List (Nat × Option (Option Nat))) (S : AW) : R := resL env S rs fun vs => some (tupV vs, S)
def evG {V : Type} (C : Callee) (T : FT V) (n : Nat) (xf : XFunc) (args : List Value) (S : AW) : R :=
  evK C T n xf.body (T.ent (argV args)) S fun o v S => EX.casesOn o (finK (T.env v) xf.results S) (fun _ => none) (finK (T.env v) xf.results S)
theorem evG_inv {V : Type} {C : Callee} {T : FT V} {n : Nat} {xf : XFunc} (hK : T.K = xf.K) (hr : (xf.results.all fun r => xf.K.contains r.1) = true) {args : List Value} {S : AW} {x : Value × AW} (h : evG C T n xf args S = some x) : evXF0 C n xf args S = some x := by
  have hr : ∀ r ∈ xf.results, r.1 ∈ T.K := by
    rw [hK]
    simpa [List.all_eq_true] using hr
  have hA : AgV T (T.ent (argV args)) (xf.enter args) := by
    intro t ht
    rw [T.start]
    unfold XFunc.enter
    simp only [AF.get]
    rw [hK, getL_map xf.K (fun t => (args[t]?).getD undef) (hK ▸ ht), getL_map xf.K (argV args) (hK ▸ ht), argV_eq]
  obtain ⟨o, F', v', S', h1, h2, h3⟩ := evK_inv T n xf.body _ _ _ _ _ hA h
  unfold evXF0 finish
  rw [hK] at h1
  rw [h1]
  cases o with
  | exit i => cases h3
  | normal =>
    obtain ⟨vs, h4, h5⟩ := resL_inv h2 hr (show finK (T.env v') xf.results S' = some x from h3)
    simp only [h4]; exact h5
  | ret =>
    obtain ⟨vs, h4, h5⟩ := resL_inv h2 hr (show finK (T.env v') xf.results S' = some x from h3)
    simp only [h4]; exact h5
end Go.Proofs.YtbngpadibllogaaGreatDoor.Ev
