/- Regions whose order is open: in which order we take their operations, what is looked at ahead, and how our memory goes on. -/
import Derived.Test.YthclmjelknibhaaEv20
namespace Go.Proofs.Ythclmjelknibhaa.Ev
open Go Go.RowKit
set_option linter.unusedVariables false
set_option linter.unusedSimpArgs false
set_option linter.unusedSectionVars false

/-- An operation of such a region: those that must be ahead of it; how many great steps are surely ahead of it; how many may be. -/
structure DOper where
  o : EOper
  deps : List Nat
  ph : Nat
  due : Nat
def DOper.ch (d : DOper) : Bool := d.o.op.kind == 3

/-- One operation: its result, memory behind it, whether it ran. -/
def evE (C : Callee) (o : EOper) (F : AF) (S : AW) : Option (Value × AW × Bool) :=
  let go : Option (Value × AW × Bool) := match o.op.run F S with
    | some (.val v S') => some (v, S', true)
    | some (.call f args) => match C f args S with
      | some (v, S') => some (v, S', true)
      | none => none
    | none => none
  match o.guard with
  | none => go
  | some (t, want) => match gd (F.get t) want with
    | some true => go
    | some false => some (undef, S, false)
    | none => none
structure Ent where
  i : Nat
  d : DOper
  F : AF
  S : AW
  v : Value
  S' : AW
  ran : Bool
/-- The operations in the order that we take, with all that is met on the way. -/
def trace (C : Callee) : List (Nat × DOper) → AF → AW → Option (List Ent × AF × AW)
  | [], F, S => some ([], F, S)
  | (i, d) :: l, F, S => match evE C d.o F S with
    | some (v, S', ran) => match F.dst d.o.dst v with
      | some F' => match trace C l F' S' with
        | some (es, F2, S2) => some (⟨i, d, F, S, v, S', ran⟩ :: es, F2, S2)
        | none => none
      | none => none
    | none => none

/-- The slots that an operation looks at. -/
def EOper.looks (o : EOper) : List Nat :=
  (o.op.operands.filterMap fun | .tmp t => some t | _ => none) ++ (match o.guard with | some (t, _) => [t] | none => [])
/-- What is asked of an operation at its place in our order: done: those ahead. -/
def place1 (all : List DOper) (done : List Nat) (i : Nat) (d : DOper) : Bool :=
  (d.deps.all fun k => done.contains k && decide (k < i)) &&
  (d.o.looks.all fun t => (List.range all.length).all fun u => match all[u]? with
    | some e => if e.o.dst = some t then (if done.contains u then d.deps.contains u else u == i || e.deps.contains i) else true
    | none => true) &&
  (match d.o.dst with | some t => (List.range all.length).all fun u => u == i || (match all[u]? with | some e => decide (e.o.dst ≠ some t) | none => true) | none => true) &&
  (d.ph == 0 || d.deps.any fun k => match all[k]? with | some e => decide (d.ph ≤ e.ph + (if e.ch then 1 else 0)) | none => false)
def placed (all : List DOper) (m : Nat) : List Nat → Nat → List Nat → Bool
  | done, j, [] => j == m
  | done, j, i :: l => match all[i]? with
    | some d => place1 all done i d && (d.ph == j) && !done.contains i && placed all m (done ++ [i]) (if d.ch then j + 1 else j) l
    | none => false
def dueOk (all : List DOper) (m : Nat) : Bool :=
  (List.range all.length).all fun i => match all[i]? with
    | some d => decide (m ≤ d.due) || (List.range all.length).any fun u => match all[u]? with
      | some e => decide (i < u) && e.deps.contains i && decide ((if e.ch then e.ph else e.due) ≤ d.due)
      | none => false
    | none => false
/-- Our order is one that may be. -/
def planOk (all : List DOper) (m : Nat) (L : List Nat) : Bool :=
  placed all m [] 0 L && dueOk all m && (List.range all.length).all fun i => L.contains i

/-- Memory ahead of the great step j, or behind all. -/
def stateAt (es : List Ent) (Sf : AW) (j : Nat) : AW :=
  match es.find? fun e => e.d.ch && e.d.ph == j with
  | some e => e.S
  | none => Sf

/-- Memory grown by new rows alone. -/
inductive Ext : AW → AW → Prop
  | refl (S) : Ext S S
  | new {S S1} (h : Ext S S1) (c : List Value) (el es : Nat) : Ext S (S1.new c el es)
theorem Ext.trans {a b c : AW} (h : Ext a b) (k : Ext b c) : Ext a c := by
  induction k with
  | refl => exact h
  | new _ c el es ih => exact .new ih c el es
theorem Ext.next {a b : AW} (h : Ext a b) : a.next ≤ b.next := by
  induction h with
  | refl => exact Nat.le_refl _
  | new _ c el es ih => exact Nat.le_trans ih (Nat.le_succ _)
theorem Ext.keeps {a b : AW} (h : Ext a b) : ∀ i, i < a.next → b.obj i = a.obj i ∧ b.fam i = a.fam i := by
  induction h with
  | refl => exact fun i _ => ⟨rfl, rfl⟩
  | new h c el es ih =>
    intro i hi
    have hne := Nat.ne_of_lt (Nat.lt_of_lt_of_le hi h.next)
    rw [AW.obj_new, if_neg hne, AW.fam_new, if_neg hne]
    exact ih i hi
theorem Ext.rel {W0 : Fz} {ρ : Ren} {a b : AW} {w : World} (h : Ext a b) (k : RelW W0 ρ a w) : RelW W0 ρ b w := by
  induction h with
  | refl => exact k
  | new _ c el es ih => exact ih.ghost c el es

theorem alloc_val {e : EOp} (hk : e.kind = 2) {F : AF} {S : AW} {r : Res} (hr : e.run F S = some r) : ∃ c el es v, r = .val v (S.new c el es) := by
  cases e <;> (try (simp [EOp.kind] at hk; done)) <;> simp only [EOp.run] at hr
  all_goals
    first
    | (simp only [Option.some.injEq] at hr; subst hr; exact ⟨_, _, _, _, rfl⟩)
    | (repeat' (split at hr)) <;> first | (cases hr; done) | (simp only [Option.some.injEq] at hr; subst hr; exact ⟨_, _, _, _, rfl⟩)

/-- A small step leaves memory as it is, or grows it by a row. -/
theorem evE_small {C : Callee} {o : EOper} (hk : o.op.kind ≠ 3) (hk3 : o.op.kind ≤ 3) {F : AF} {S : AW} {v : Value} {S' : AW} {ran : Bool} (h : evE C o F S = some (v, S', ran)) :
    Ext S S' ∧ (o.op.kind ≠ 2 ∨ ran = false → S' = S) ∧ (ran = true → o.op.run F S = some (.val v S')) := by
  have go : ∀ {x : Option Res}, o.op.run F S = x → (match x with
    | some (.val v S') => some (v, S', true)
    | some (.call f args) => match C f args S with
      | some (v, S') => some (v, S', true)
      | none => none
    | none => none : Option (Value × AW × Bool)) = some (v, S', ran) → Ext S S' ∧ (o.op.kind ≠ 2 ∨ ran = false → S' = S) ∧ (ran = true → o.op.run F S = some (.val v S')) := by
    intro x hx hm
    cases x with
    | none => simp at hm
    | some r =>
      by_cases h2 : o.op.kind = 2
      · obtain ⟨c, el, es, v', rfl⟩ := alloc_val h2 hx
        simp only [Option.some.injEq, Prod.mk.injEq] at hm
        obtain ⟨rfl, rfl, rfl⟩ := hm
        exact ⟨.new (.refl S) _ _ _, (fun h => by rcases h with h | h; exact absurd h2 h; cases h), fun _ => hx⟩
      · obtain ⟨v', rfl⟩ := quiet_val (by omega) hx
        simp only [Option.some.injEq, Prod.mk.injEq] at hm
        obtain ⟨rfl, rfl, rfl⟩ := hm
        exact ⟨.refl S, fun _ => rfl, fun _ => hx⟩
  unfold evE at h
  simp only at h
  split at h
  · exact go rfl h
  · split at h
    · exact go rfl h
    · simp only [Option.some.injEq, Prod.mk.injEq] at h
      obtain ⟨rfl, rfl, rfl⟩ := h
      exact ⟨.refl S, fun _ => rfl, fun h => by cases h⟩
    · cases h
theorem kind_le (e : EOp) : e.kind ≤ 3 := by cases e <;> simp [EOp.kind]

/-- How the operations lie: in phases, with a great step between two. -/
inductive Seg : Nat → AW → List Ent → AW → Prop
  | nil (j S) : Seg j S [] S
  | small {j e es Sf} (hc : e.d.ch = false) (hp : e.d.ph = j) (hx : Ext e.S e.S') (h : Seg j e.S' es Sf) : Seg j e.S (e :: es) Sf
  | great {j e es Sf} (hc : e.d.ch = true) (hp : e.d.ph = j) (h : Seg (j + 1) e.S' es Sf) : Seg j e.S (e :: es) Sf

theorem Seg.ph_le {j : Nat} {S Sf : AW} {es : List Ent} (h : Seg j S es Sf) : ∀ e ∈ es, j ≤ e.d.ph := by
  induction h with
  | nil => intro e he; simp at he
  | small hc hp hx h ih =>
    intro e he
    rcases List.mem_cons.mp he with rfl | he
    · omega
    · exact ih e he
  | great hc hp h ih =>
    intro e he
    rcases List.mem_cons.mp he with rfl | he
    · omega
    · have := ih e he; omega
theorem stateAt_skip {e : Ent} {es : List Ent} {Sf : AW} {j : Nat} (h : (e.d.ch && e.d.ph == j) = false) : stateAt (e :: es) Sf j = stateAt es Sf j := by
  unfold stateAt
  rw [List.find?_cons, h]
theorem stateAt_hit {e : Ent} {es : List Ent} {Sf : AW} {j : Nat} (h : (e.d.ch && e.d.ph == j) = true) : stateAt (e :: es) Sf j = e.S := by
  unfold stateAt
  rw [List.find?_cons, h]
theorem Seg.first {j : Nat} {S Sf : AW} {es : List Ent} (h : Seg j S es Sf) : Ext S (stateAt es Sf j) := by
  induction h with
  | nil j S => exact .refl S
  | small hc hp hx h ih => rw [stateAt_skip (by simp [hc])]; exact hx.trans ih
  | great hc hp h ih => rw [stateAt_hit (by simp [hc, hp])]; exact .refl _
theorem Seg.after {j : Nat} {S Sf : AW} {es : List Ent} (h : Seg j S es Sf) : ∀ e ∈ es, e.d.ch = false → Ext e.S' (stateAt es Sf e.d.ph) := by
  induction h with
  | nil => intro e he; simp at he
  | small hc hp hx h ih =>
    intro e he hce
    rw [stateAt_skip (by simp [hc])]
    rcases List.mem_cons.mp he with rfl | he
    · rw [hp]; exact h.first
    · exact ih e he hce
  | great hc hp h ih =>
    intro e he hce
    rcases List.mem_cons.mp he with rfl | he
    · rw [hc] at hce; cases hce
    · have := h.ph_le e he
      rw [stateAt_skip (by simp; intro _; omega)]
      exact ih e he hce
theorem Seg.at {j : Nat} {S Sf : AW} {es : List Ent} (h : Seg j S es Sf) : ∀ e ∈ es, e.d.ch = true → stateAt es Sf e.d.ph = e.S ∧ Ext e.S' (stateAt es Sf (e.d.ph + 1)) := by
  induction h with
  | nil => intro e he; simp at he
  | small hc hp hx h ih =>
    intro e he hce
    rw [stateAt_skip (by simp [hc]), stateAt_skip (by simp [hc])]
    rcases List.mem_cons.mp he with rfl | he
    · rw [hc] at hce; cases hce
    · exact ih e he hce
  | great hc hp h ih =>
    intro e he hce
    rcases List.mem_cons.mp he with rfl | he
    · rw [stateAt_hit (by simp [hc]), stateAt_skip (by simp)]
      refine ⟨rfl, ?_⟩
      rw [hp]; exact h.first
    · have := h.ph_le e he
      rw [stateAt_skip (by simp; intro _; omega), stateAt_skip (by simp; intro _; omega)]
      exact ih e he hce
/-- New rows are told ahead of what comes behind. -/
theorem Seg.next_le {j : Nat} {S Sf : AW} {es : List Ent} (h : Seg j S es Sf) : ∀ e ∈ es, e.d.ch = false → e.d.ph = j → S.next ≤ e.S.next := by
  induction h with
  | nil => intro e he; simp at he
  | small hc hp hx h ih =>
    intro e he hce hpe
    rcases List.mem_cons.mp he with rfl | he
    · exact Nat.le_refl _
    · exact Nat.le_trans hx.next (ih e he hce hpe)
  | great hc hp h ih =>
    intro e he hce hpe
    rcases List.mem_cons.mp he with rfl | he
    · rw [hc] at hce; cases hce
    · have := h.ph_le e he; omega
theorem Seg.next_le2 {j : Nat} {S Sf : AW} {es : List Ent} (h : Seg j S es Sf) : ∀ c ∈ es, c.d.ch = true → ∀ e ∈ es, e.d.ch = false → e.d.ph = c.d.ph + 1 → c.S'.next ≤ e.S.next := by
  induction h with
  | nil => intro c hc; simp at hc
  | small hc hp hx h ih =>
    intro c hcm hcc e he hce hpe
    rcases List.mem_cons.mp hcm with rfl | hcm2
    · rw [hc] at hcc; cases hcc
    · rcases List.mem_cons.mp he with rfl | he2
      · have := h.ph_le c hcm2; omega
      · exact ih c hcm2 hcc e he2 hce hpe
  | great hc hp h ih =>
    intro c hcm hcc e he hce hpe
    rcases List.mem_cons.mp hcm with rfl | hcm
    · rcases List.mem_cons.mp he with rfl | he
      · rw [hc] at hce; cases hce
      · exact h.next_le e he hce (by omega)
    · rcases List.mem_cons.mp he with rfl | he
      · rw [hc] at hce; cases hce
      · exact ih c hcm hcc e he hce hpe

/-- The order lies in phases. -/
theorem trace_seg {C : Callee} {all : List DOper} {m : Nat} : ∀ (L : List Nat) (done : List Nat) (j : Nat) (F : AF) (S : AW) (ol : List (Nat × DOper)) (es : List Ent) (F2 : AF) (S2 : AW),
    placed all m done j L = true → L.mapM (fun i => (all[i]?).map fun d => (i, d)) = some ol → trace C ol F S = some (es, F2, S2) → Seg j S es S2
  | [], done, j, F, S, ol, es, F2, S2, hp, hm, ht => by
    simp only [List.mapM_nil, Option.pure_def, Option.some.injEq] at hm
    subst hm
    simp only [trace, Option.some.injEq, Prod.mk.injEq] at ht
    obtain ⟨rfl, rfl, rfl⟩ := ht
    exact .nil j S
  | i :: L, done, j, F, S, ol, es, F2, S2, hp, hm, ht => by
    simp only [List.mapM_cons, Option.bind_eq_bind, Option.pure_def] at hm
    obtain ⟨p, h1, hm⟩ := Option.bind_eq_some_iff.mp hm
    obtain ⟨ol', h2, hm⟩ := Option.bind_eq_some_iff.mp hm
    simp only [Option.some.injEq] at hm
    subst hm
    obtain ⟨d, hd, rfl⟩ := Option.map_eq_some_iff.mp h1
    unfold placed at hp
    rw [hd] at hp
    simp only [Bool.and_eq_true, beq_iff_eq] at hp
    obtain ⟨⟨⟨q1, q2⟩, q3⟩, q4⟩ := hp
    simp only [trace] at ht
    split at ht
    · rename_i v S' ran he
      split at ht
      · rename_i F' hF'
        split at ht
        · rename_i es' F3 S3 htr
          simp only [Option.some.injEq, Prod.mk.injEq] at ht
          obtain ⟨rfl, rfl, rfl⟩ := ht
          have ih := trace_seg L _ _ F' S' ol' es' F3 S3 q4 h2 htr
          cases hch : d.ch with
          | true => rw [hch] at ih; exact .great (e := ⟨i, d, F, S, v, S', ran⟩) hch q2 ih
          | false =>
            rw [hch] at ih
            have hk : d.o.op.kind ≠ 3 := by simpa [DOper.ch] using hch
            exact .small (e := ⟨i, d, F, S, v, S', ran⟩) hch q2 (evE_small hk (kind_le _) he).1 ih
        · cases ht
      · cases ht
    · cases ht
end Go.Proofs.Ythclmjelknibhaa.Ev
