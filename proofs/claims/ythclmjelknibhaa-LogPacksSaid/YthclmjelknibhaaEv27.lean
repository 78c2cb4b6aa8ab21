/- Steps one behind the other, with the looks that a region whose order is open asks for: what they come to. -/
import Derived.Test.YthclmjelknibhaaEv26
namespace Go.Proofs.Ythclmjelknibhaa.Ev
open Go Go.RowKit
set_option linter.unusedVariables false
set_option linter.unusedSimpArgs false
set_option linter.unusedSectionVars false

/-- A look that is owed: an operation, its frame, what it came to, from which great step on and to which; memory behind it. -/
structure Pd where
  e : EOp
  F : AF
  v : Value
  lo : Nat
  due : Nat
  S' : AW
def idOf : Value → Option Nat
  | .pointer (some a) => some a.block
  | .slice (some a) _ _ => some a.block
  | _ => none
def readOk (e : EOp) (F : AF) (S : AW) (v : Value) : Bool :=
  match e.run F S with
  | some (.val u _) => veq u v
  | _ => false
def rowSame (S S' : AW) (v : Value) : Bool :=
  match idOf v with
  | some i => rawSame S S' i
  | none => false
def Pd.ok (p : Pd) (j : Nat) (S : AW) : Bool :=
  if decide (p.lo ≤ j) && decide (j ≤ p.due) then (if p.e.kind == 1 then readOk p.e p.F S p.v else rowSame S p.S' p.v) else true
inductive SI where
  | op (o : EOper) (pd : Option (Nat × Nat))
  | chk (j : Nat)
def addPd (pd : Option (Nat × Nat)) (ran : Bool) (p : Nat → Nat → Pd) (l : List Pd) : List Pd :=
  match pd with
  | some (a, b) => if ran then p a b :: l else l
  | none => l
def evSI (C : Callee) : List SI → AF → AW → List Pd → Option (AF × AW)
  | [], F, S, _ => some (F, S)
  | .chk j :: l, F, S, ps => if ps.all fun p => p.ok j S then evSI C l F S ps else none
  | .op o pd :: l, F, S, ps => match evE C o F S with
    | some (v, S', ran) => match F.dst o.dst v with
      | some F' => evSI C l F' S' (addPd pd ran (fun a b => ⟨o.op, F, v, a, b, S'⟩) ps)
      | none => none
    | none => none

/-- The operations of a region, and its looks. -/
def pdOf (m : Nat) (still : Bool) (d : DOper) : Option (Nat × Nat) :=
  let hi := min d.due m
  let lo := d.ph + (if d.o.op.kind == 1 && !still then 0 else 1)
  if (d.o.op.kind == 1 || d.o.op.kind == 2) && decide (lo ≤ hi) then some (lo, hi) else none
def flatD (m : Nat) (still : Bool) : List (Nat × DOper) → List SI
  | [] => [.chk m]
  | (_, d) :: l => if d.ch then .chk d.ph :: .op d.o none :: flatD m still l else .op d.o (pdOf m still d) :: flatD m still l

theorem alloc_id {e : EOp} (hk : e.kind = 2) {F : AF} {S : AW} {v : Value} {S' : AW} (hr : e.run F S = some (.val v S')) : idOf v = some S.next := by
  cases e <;> (try (simp [EOp.kind] at hk; done)) <;> simp only [EOp.run] at hr
  all_goals
    first
    | (simp only [Option.some.injEq, Res.val.injEq] at hr; obtain ⟨rfl, rfl⟩ := hr; rfl)
    | (repeat' (split at hr)) <;> first | (cases hr; done) | (simp only [Option.some.injEq, Res.val.injEq] at hr; obtain ⟨rfl, rfl⟩ := hr; rfl)

/-- What is asked of an entry. -/
def entOk (m : Nat) (still : Bool) (e : Ent) (S : AW) (j : Nat) : Prop :=
  e.ran = true → ∀ lo hi, pdOf m still e.d = some (lo, hi) → lo ≤ j → j ≤ hi → (if e.d.o.op.kind == 1 then readOk e.d.o.op e.F S e.v else rowSame S e.S' e.v) = true

theorem si_ok {C : Callee} {m : Nat} {still : Bool} : ∀ (ol : List (Nat × DOper)) (j : Nat) (F : AF) (S : AW) (ps : List Pd) (F' : AF) (S' : AW), evSI C (flatD m still ol) F S ps = some (F', S') →
    (∀ (all : List DOper) (L : List Nat) (done : List Nat), placed all m done j L = true → L.mapM (fun i => (all[i]?).map fun d => (i, d)) = some ol →
    ∃ es, trace C ol F S = some (es, F', S') ∧ (∀ p ∈ ps, ∀ k, j ≤ k → k ≤ m → p.ok k (stateAt es S' k) = true) ∧ ∀ e ∈ es, ∀ k, e.d.ph ≤ k → k ≤ m → entOk m still e (stateAt es S' k) k)
  | [], j, F, S, ps, F', S', h, all, L, done, hp, hm => by
    have hL : L = [] := by
      cases L with
      | nil => rfl
      | cons i L =>
        simp only [List.mapM_cons, Option.bind_eq_bind, Option.pure_def] at hm
        obtain ⟨_, _, hm⟩ := Option.bind_eq_some_iff.mp hm
        obtain ⟨_, _, hm⟩ := Option.bind_eq_some_iff.mp hm
        simp at hm
    subst hL
    simp only [placed, beq_iff_eq] at hp
    subst hp
    simp only [flatD, evSI] at h
    split at h
    · rename_i hall
      simp only [Option.some.injEq, Prod.mk.injEq] at h
      obtain ⟨rfl, rfl⟩ := h
      refine ⟨[], rfl, fun p hp k h1 h2 => ?_, fun e he => by simp at he⟩
      obtain rfl : k = j := by omega
      exact List.all_eq_true.mp hall p hp
    · cases h
  | (i, d) :: ol, j, F, S, ps, F', S', h, all, L, done, hp, hm => by
    cases L with
    | nil => simp at hm
    | cons i' L =>
      simp only [List.mapM_cons, Option.bind_eq_bind, Option.pure_def] at hm
      obtain ⟨q, h1, hm⟩ := Option.bind_eq_some_iff.mp hm
      obtain ⟨ol', h2, hm⟩ := Option.bind_eq_some_iff.mp hm
      simp only [Option.some.injEq, List.cons.injEq] at hm
      obtain ⟨rfl, rfl⟩ := hm
      obtain ⟨d', hd, hq⟩ := Option.map_eq_some_iff.mp h1
      simp only [Prod.mk.injEq] at hq
      obtain ⟨rfl, rfl⟩ := hq
      unfold placed at hp
      rw [hd] at hp
      simp only [Bool.and_eq_true, beq_iff_eq] at hp
      obtain ⟨⟨⟨q1, q2⟩, q3⟩, q4⟩ := hp
      have hjm := (placed_lt L _ _ q4).1
      simp only [flatD] at h
      split at h
      · rename_i hch
        rw [hch] at q4 hjm
        simp only [if_true] at q4 hjm
        simp only [evSI] at h
        split at h
        · rename_i hall
          split at h
          · rename_i v S1 ran hev
            split at h
            · rename_i F1 hF1
              obtain ⟨es, t1, t2, t3⟩ := si_ok ol' (j + 1) F1 S1 _ F' S' h all L _ q4 h2
              have hnc : ∀ e ∈ es, j + 1 ≤ e.d.ph := (trace_seg L _ _ F1 S1 ol' es F' S' q4 h2 t1).ph_le
              refine ⟨⟨i', d', F, S, v, S1, ran⟩ :: es, by simp only [trace, hev, hF1, t1], fun p hp k h1 h2 => ?_, fun e he k h1 h2 => ?_⟩
              · by_cases hk : k = j
                · subst hk
                  rw [stateAt_hit (by simp [hch, q2])]
                  rw [q2] at hall
                  exact List.all_eq_true.mp hall p hp
                · rw [stateAt_skip (by simp only [Bool.and_eq_false_iff, beq_eq_false_iff_ne]; exact .inr (by show d'.ph ≠ k; omega))]
                  exact t2 p hp k (by omega) h2
              · rcases List.mem_cons.mp he with rfl | he
                · intro hr lo hi hpd
                  exfalso
                  have hpd : pdOf m still d' = some (lo, hi) := hpd
                  unfold pdOf at hpd
                  have hk3 : d'.o.op.kind = 3 := by simpa [DOper.ch] using hch
                  simp [hk3] at hpd
                · have := hnc e he
                  rw [stateAt_skip (by simp only [Bool.and_eq_false_iff, beq_eq_false_iff_ne]; exact .inr (by show d'.ph ≠ k; omega))]
                  exact t3 e he k h1 h2
            · cases h
          · cases h
        · cases h
      · rename_i hch
        have hch : d'.ch = false := by simpa using hch
        rw [hch] at q4 hjm
        simp only [Bool.false_eq_true, if_false] at q4 hjm
        simp only [evSI] at h
        split at h
        · rename_i v S1 ran hev
          split at h
          · rename_i F1 hF1
            obtain ⟨es, t1, t2, t3⟩ := si_ok ol' j F1 S1 _ F' S' h all L _ q4 h2
            have hskip : ∀ k, stateAt (⟨i', d', F, S, v, S1, ran⟩ :: es) S' k = stateAt es S' k := fun k => stateAt_skip (by simp [hch])
            refine ⟨⟨i', d', F, S, v, S1, ran⟩ :: es, by simp only [trace, hev, hF1, t1], fun p hp k h1 h2 => ?_, fun e he k h1 h2 => ?_⟩
            · rw [hskip]
              refine t2 p ?_ k h1 h2
              unfold addPd
              split
              · split
                · exact List.mem_cons_of_mem _ hp
                · exact hp
              · exact hp
            · rw [hskip]
              rcases List.mem_cons.mp he with rfl | he
              · intro hr lo hi hpd hlo hhi
                have hr : ran = true := hr
                have hpd : pdOf m still d' = some (lo, hi) := hpd
                have h1 : d'.ph ≤ k := h1
                have := t2 ⟨d'.o.op, F, v, lo, hi, S1⟩ (by unfold addPd; rw [hpd]; simp only [hr, if_true]; exact List.mem_cons_self) k (by omega) h2
                unfold Pd.ok at this
                rw [if_pos (by simp; omega)] at this
                exact this
              · exact t3 e he k h1 h2
          · cases h
        · cases h

theorem si_dra {C : Callee} {all : List DOper} {L : List Nat} {m : Nat} (hpl : planOk all m L = true) {ol : List (Nat × DOper)} (hol : L.mapM (fun i => (all[i]?).map fun d => (i, d)) = some ol) {F : AF} {S : AW} {F' : AF} {S' : AW}
    (h : evSI C (flatD m (stillAll all) ol) F S [] = some (F', S')) : evDra C all L m F S = some (F', S') := by
  have hp : placed all m [] 0 L = true := by
    unfold planOk at hpl
    simp only [Bool.and_eq_true] at hpl
    exact hpl.1.1
  obtain ⟨es, t1, _, t3⟩ := si_ok ol 0 F S [] F' S' h all L [] hp hol
  have hT := told hpl hol t1
  have hdyn : dynOk m (stillAll all) es S' = true := by
    unfold dynOk
    rw [List.all_eq_true]
    intro e he
    split
    · rename_i hc
      simp only [Bool.and_eq_true, beq_iff_eq] at hc
      rw [List.all_eq_true]
      intro k hk
      rw [List.mem_range] at hk
      simp only [Bool.or_eq_true, Bool.and_eq_true, beq_iff_eq]
      by_cases h0 : k = 0 ∧ stillAll all = true
      · exact .inl h0
      · refine .inr ?_
        have hlo : pdOf m (stillAll all) e.d = some (e.d.ph + (if stillAll all then 1 else 0), min e.d.due m) := by
          unfold pdOf
          simp only [hc.2, beq_self_eq_true, Bool.true_or, Bool.true_and]
          rw [if_pos (by
            cases hst : stillAll all <;> simp [hst] at h0 ⊢ <;> omega)]
          cases stillAll all <;> simp
        have := t3 e he (e.d.ph + k) (by omega) (by omega) hc.1 _ _ hlo (by
          cases hst : stillAll all <;> simp [hst] at h0 ⊢ <;> omega) (by omega)
        simp only [hc.2, beq_self_eq_true, if_true, readOk] at this
        exact this
    · split
      · rename_i hc
        simp only [Bool.and_eq_true, beq_iff_eq] at hc
        rw [List.all_eq_true]
        intro k hk
        rw [List.mem_range] at hk
        have hlo : pdOf m (stillAll all) e.d = some (e.d.ph + 1, min e.d.due m) := by
          unfold pdOf
          simp only [hc.2]
          simp; omega
        have := t3 e he (e.d.ph + k + 1) (by omega) (by omega) hc.1 _ _ hlo (by omega) (by omega)
        simp only [hc.2, rowSame] at this
        rw [if_neg (by decide)] at this
        have hid := alloc_id hc.2 ((evE_small (by omega) (kind_le _) (hT.at_ e he).2.1).2.2 hc.1)
        rw [hid] at this
        exact this
      · rfl
  unfold evDra
  rw [hol]
  simp only [t1, hdyn, if_true]
end Go.Proofs.Ythclmjelknibhaa.Ev
