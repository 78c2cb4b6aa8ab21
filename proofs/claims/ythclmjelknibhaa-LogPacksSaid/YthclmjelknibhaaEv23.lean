/- Regions whose order is open: in whatever order their operations run, they come to what ours come to. -/
import Derived.Test.YthclmjelknibhaaEv22
namespace Go.Proofs.Ythclmjelknibhaa.Ev
open Go Go.RowKit
set_option linter.unusedVariables false
set_option linter.unusedSimpArgs false
set_option linter.unusedSectionVars false

def aeq (a b : Addr) : Bool := a.block == b.block && a.off == b.off && a.spot == b.spot
theorem aeq_eq {a b : Addr} (h : aeq a b = true) : a = b := by
  obtain ⟨x, y, z⟩ := a
  obtain ⟨x', y', z'⟩ := b
  simp only [aeq, Bool.and_eq_true, beq_iff_eq] at h
  obtain ⟨⟨rfl, rfl⟩, rfl⟩ := h
  rfl
/-- Are two values one? (told of plain ones alone) -/
def veq1 : Value → Value → Bool
  | .int k a, .int k' b => k == k' && a == b
  | .bool a, .bool b => a == b
  | .string a, .string b => decide (a = b)
  | .pointer none, .pointer none => true
  | .pointer (some a), .pointer (some b) => aeq a b
  | .slice none n c, .slice none n' c' => n == n' && c == c'
  | .slice (some a) n c, .slice (some b) n' c' => aeq a b && n == n' && c == c'
  | .map a, .map b => a == b
  | .nilFunc, .nilFunc => true
  | _, _ => false
def veqs : List Value → List Value → Bool
  | [], [] => true
  | x :: xs, y :: ys => veq1 x y && veqs xs ys
  | _, _ => false
def veq : Value → Value → Bool
  | .agg a, .agg b => veqs a.toList b.toList
  | a, b => veq1 a b
theorem veq1_eq {a b : Value} (h : veq1 a b = true) : a = b := by
  unfold veq1 at h
  split at h <;> first
    | (cases h; done)
    | rfl
    | (rw [aeq_eq h])
    | (simp only [Bool.and_eq_true, beq_iff_eq, decide_eq_true_eq] at h
       first
       | (obtain ⟨rfl, rfl⟩ := h; rfl)
       | (subst h; rfl)
       | (obtain ⟨⟨h1, rfl⟩, rfl⟩ := h; rw [aeq_eq h1]))
theorem veqs_eq : ∀ {a b : List Value}, veqs a b = true → a = b
  | [], [], _ => rfl
  | [], _ :: _, h => by simp [veqs] at h
  | _ :: _, [], h => by simp [veqs] at h
  | x :: xs, y :: ys, h => by
    simp only [veqs, Bool.and_eq_true] at h
    rw [veq1_eq h.1, veqs_eq h.2]
theorem veq_eq {a b : Value} (h : veq a b = true) : a = b := by
  unfold veq at h
  split at h
  · exact congrArg Value.agg (Array.ext' (veqs_eq h))
  · exact veq1_eq h

/-- A row stands as it was. -/
def rawSame (S S' : AW) (i : Nat) : Bool :=
  match S.raw i, S'.raw i with
  | some r, some r' => veqs r.c r'.c && r.elem == r'.elem && r.es == r'.es && !r.ro
  | _, _ => false
theorem rawSame_some {S S' : AW} {i : Nat} (h : rawSame S S' i = true) {r' : Raw} (hr : S'.raw i = some r') : ∃ r, S.raw i = some r ∧ r.c = r'.c ∧ r.elem = r'.elem ∧ r.es = r'.es ∧ r.ro = false := by
  unfold rawSame at h
  rw [hr] at h
  split at h
  · rename_i r r2 e1 e2
    simp only [Option.some.injEq] at e2
    subst e2
    simp only [Bool.and_eq_true, beq_iff_eq, Bool.not_eq_true'] at h
    obtain ⟨⟨⟨h1, h2⟩, h3⟩, h4⟩ := h
    exact ⟨r, e1, veqs_eq h1, h2, h3, h4⟩
  · cases h
/-- What is read is the same wherever it may be read. -/
def dynOk (m : Nat) (still : Bool) (es : List Ent) (Sf : AW) : Bool :=
  es.all fun e => if e.ran && e.d.o.op.kind == 1 then
    (List.range (min e.d.due m + 1 - e.d.ph)).all fun k => (k == 0 && still) || match e.d.o.op.run e.F (stateAt es Sf (e.d.ph + k)) with
      | some (.val v _) => veq v e.v
      | _ => false
    else if e.ran && e.d.o.op.kind == 2 then
    (List.range (min e.d.due m - e.d.ph)).all fun k => rawSame (stateAt es Sf (e.d.ph + k + 1)) e.S' e.S.next
    else true
/-- No row is made. -/
def stillAll (all : List DOper) : Bool := all.all fun d => d.o.op.kind != 2

/-- A region, compiled. -/
structure DComp (P : Program) (ops : Array Oper) (all : List DOper) : Prop where
  size : ops.size = all.length
  at_ : ∀ (i : Nat) (o : Oper), ops[i]? = some o → ∃ d, all[i]? = some d ∧ compileOper P ops o = some d.o ∧ ∀ e ∈ o.after, Region.binds .any e = true → e.on ∈ d.deps
  deps : ∀ (i : Nat) (d : DOper), all[i]? = some d → ∃ o, ops[i]? = some o ∧ ∀ k ∈ d.deps, ∃ e ∈ o.after, Region.binds .any e = true ∧ e.on = k

theorem pure_run {e : EOp} (hk : e.kind = 0) {F : AF} {S : AW} {v : Value} {S' : AW} (hr : e.run F S = some (.val v S')) (S2 : AW) : e.run F S2 = some (.val v S2) := by
  cases e <;> (try (simp [EOp.kind] at hk; done)) <;> simp only [EOp.run] at hr ⊢
  all_goals
    first
    | (simp only [Option.some.injEq, Res.val.injEq] at hr; obtain ⟨rfl, rfl⟩ := hr; rfl)
    | (repeat' (split at hr)) <;> first | (cases hr; done) | (simp only [Option.some.injEq, Res.val.injEq] at hr; obtain ⟨rfl, rfl⟩ := hr; first | rfl | (simp_all; done) | (split <;> simp_all))

theorem Seg.apart {j : Nat} {S Sf : AW} {es : List Ent} (h : Seg j S es Sf) : ∀ e ∈ es, e.d.ch = false → ∀ e' ∈ es, e'.d.ch = false → e'.d.ph = e.d.ph → e = e' ∨ e.S'.next ≤ e'.S.next ∨ e'.S'.next ≤ e.S.next := by
  induction h with
  | nil => intro e he; simp at he
  | small hc hp hx h ih =>
    intro e he hce e' he' hce' hpe
    rcases List.mem_cons.mp he with rfl | he2
    · rcases List.mem_cons.mp he' with rfl | he2'
      · exact .inl rfl
      · exact .inr (.inl (h.next_le e' he2' hce' (by omega)))
    · rcases List.mem_cons.mp he' with rfl | he2'
      · exact .inr (.inr (h.next_le e he2 hce (by omega)))
      · exact ih e he2 hce e' he2' hce' hpe
  | great hc hp h ih =>
    intro e he hce e' he' hce' hpe
    rcases List.mem_cons.mp he with rfl | he2
    · rw [hc] at hce; cases hce
    · rcases List.mem_cons.mp he' with rfl | he2'
      · rw [hc] at hce'; cases hce'
      · exact ih e he2 hce e' he2' hce' hpe

/-- Rows that are made in one phase are told apart. -/
theorem Told.apart {C : Callee} {all : List DOper} {m : Nat} {F0 : AF} {S0 : AW} {es : List Ent} {Ff : AF} {Sf : AW} (T : Told C all m F0 S0 es Ff Sf) {e : Ent} (he : e ∈ es) {e' : Ent} (he' : e' ∈ es)
    (h1 : e.d.o.op.kind = 2) (h2 : e'.d.o.op.kind = 2) (h3 : e.ran = true) (h4 : e'.ran = true) (hp : e'.d.ph = e.d.ph) (hne : e ≠ e') : e.S.next ≠ e'.S.next := by
  have c1 : e.d.ch = false := by simp [DOper.ch, h1]
  have c2 : e'.d.ch = false := by simp [DOper.ch, h2]
  have nx : ∀ u ∈ es, u.d.o.op.kind = 2 → u.ran = true → u.S'.next = u.S.next + 1 := by
    intro u hu hk hr
    have hrun := (evE_small (by omega) (kind_le _) (T.at_ u hu).2.1).2.2 hr
    obtain ⟨c', el', es2, v2, hr2⟩ := alloc_val hk hrun
    simp only [Res.val.injEq] at hr2
    rw [hr2.2]; rfl
  have n1 := nx e he h1 h3
  have n2 := nx e' he' h2 h4
  rcases T.seg.apart e he c1 e' he' c2 hp with q | q | q
  · exact absurd q hne
  · omega
  · omega

section
variable {P : Program} {C : Callee} (hC : COk P C) {ops : Array Oper} {all : List DOper} (hcp : DComp P ops all) {m : Nat} {F0 : AF} {S0 : AW} {es : List Ent} {Ff : AF} {Sf : AW}
  (T : Told C all m F0 S0 es Ff Sf) (hdyn : dynOk m (stillAll all) es Sf = true) {W0 : Fz} {ρ0 : Ren} {n0 : Nat}

/-- How far the run is: which operations have run, how many great steps. -/
structure Far (n0 m : Nat) (F0 : AF) (es : List Ent) (Sf : AW) (W0 : Fz) (ρ0 : Ren) (D : Nat → Prop) (a : Act) (w : World) (j : Nat) (ρ : Ren) (G : AF) : Prop where
  le : j ≤ m
  great : ∀ c ∈ es, c.d.ch = true → (D c.i ↔ c.d.ph < j)
  ren : ρ0.le ρ
  rel : RelW W0 ρ (stateAt es Sf j) w
  fr : FRel ρ G a
  n : G.n = F0.n
  slots : ∀ t, (∀ u ∈ es, D u.i → u.d.o.dst = some t → G.get t = u.v) ∧ ((∀ u ∈ es, D u.i → u.d.o.dst ≠ some t) → G.get t = F0.get t)
  ghosts : ∀ e ∈ es, e.d.o.op.kind = 2 → e.ran = true → ¬ D e.i → e.d.ph ≤ j → ρ e.S.next = none
  keep : ∀ i, i < n0 → ρ0 i = none → ρ i = none
  next : n0 ≤ (stateAt es Sf j).next
  above : ∀ e ∈ es, e.d.o.op.kind = 2 → e.ran = true → e.d.ph ≤ j → n0 ≤ e.S.next ∧ e.S.next < (stateAt es Sf j).next
  closed : ∀ e ∈ es, D e.i → ∀ k ∈ e.d.deps, D k
  idne : ∀ e ∈ es, ∀ e' ∈ es, e.d.o.op.kind = 2 → e'.d.o.op.kind = 2 → e.ran = true → e'.ran = true → e.d.ph ≤ j → e'.d.ph ≤ j → e ≠ e' → e.S.next ≠ e'.S.next

include T in
theorem far_low {D : Nat → Prop} (hcl : ∀ e ∈ es, D e.i → ∀ k ∈ e.d.deps, D k) : ∀ (n : Nat), ∀ e ∈ es, e.i ≤ n → (∀ k ∈ e.d.deps, D k) → ∀ c ∈ es, c.d.ch = true → c.d.ph < e.d.ph → D c.i := by
  intro n
  induction n with
  | zero =>
    intro e he hn hk c hc hcc hlt
    rcases T.just e he with h | ⟨k, hk', e', he', hei, hle⟩
    · omega
    · have := (T.deps e he k hk').1; omega
  | succ n ih =>
    intro e he hn hk c hc hcc hlt
    rcases T.just e he with h | ⟨k, hk', e', he', hei, hle⟩
    · omega
    · have hki := (T.deps e he k hk').1
      have hD : D e'.i := by rw [hei]; exact hk k hk'
      by_cases h2 : c.d.ph < e'.d.ph
      · exact ih e' he' (by omega) (hcl e' he' hD) c hc hcc h2
      · cases hch : e'.d.ch with
        | false => rw [hch] at hle; simp at hle; omega
        | true =>
          rw [hch] at hle
          simp only [if_true] at hle
          have := T.seg.uniq e' he' hch c hc hcc (by omega)
          rw [this]; exact hD
include T in
theorem far_high {D : Nat → Prop} (hcl : ∀ e ∈ es, D e.i → ∀ k ∈ e.d.deps, D k) {j : Nat} (hj : j ≤ m) (hg : ∀ c ∈ es, c.d.ch = true → (D c.i ↔ c.d.ph < j)) :
    ∀ (n : Nat), ∀ e ∈ es, all.length - e.i ≤ n → ¬ D e.i → j ≤ e.d.due := by
  intro n
  induction n with
  | zero =>
    intro e he hn hD
    have := (List.getElem?_eq_some_iff.mp (T.at_ e he).1).1
    omega
  | succ n ih =>
    intro e he hn hD
    rcases T.due e he with h | ⟨u, hu, hlt, hdep, hle⟩
    · omega
    · have hDu : ¬ D u.i := fun h => hD (hcl u hu h _ hdep)
      have hul := (List.getElem?_eq_some_iff.mp (T.at_ u hu).1).1
      cases hch : u.d.ch with
      | true =>
        rw [hch] at hle
        simp only [if_true] at hle
        have : ¬ u.d.ph < j := fun h => hDu ((hg u hu hch).mpr h)
        omega
      | false =>
        rw [hch] at hle
        simp only [Bool.false_eq_true, if_false] at hle
        have := ih u hu (by omega) hDu
        omega

omit hC in
include T hcp in
/-- What an operation looks at stands in the run's frame as in ours. -/
theorem far_look {D : Nat → Prop} {a : Act} {w : World} {j : Nat} {ρ : Ren} {G : AF} (h : Far n0 m F0 es Sf W0 ρ0 D a w j ρ G) {e : Ent} (he : e ∈ es) (hD : ¬ D e.i) (hk : ∀ k ∈ e.d.deps, D k) : ∀ t ∈ e.d.o.looks, G.get t = e.F.get t := by
  intro t ht
  obtain ⟨l1, l2⟩ := T.look e he t ht
  obtain ⟨s1, s2⟩ := h.slots t
  by_cases hw : ∃ u ∈ es, u.d.o.dst = some t
  · obtain ⟨u, hu, hut⟩ := hw
    have huniq : ∀ u' ∈ es, u'.d.o.dst = some t → u' = u := fun u' hu' h' => T.dst u' hu' u hu t h' hut
    rcases l1 u hu hut with ⟨q1, q2⟩ | ⟨q1, q2⟩
    · rw [s1 u hu (hk _ q1) hut, q2]
    · have hnu : ¬ D u.i := by
        rcases q1 with q1 | q1
        · rw [q1]; exact hD
        · exact fun h' => hD (h.closed u hu h' _ q1)
      rw [s2 (fun u' hu' hD' hut' => by rw [huniq u' hu' hut'] at hD'; exact hnu hD'), q2]
  · have hn : ∀ u ∈ es, u.d.o.dst ≠ some t := fun u hu h' => hw ⟨u, hu, h'⟩
    rw [s2 (fun u hu _ => hn u hu), l2 hn]

omit hC hcp in
theorem ev_of_looks {o : EOper} {F G : AF} (h : ∀ t ∈ o.looks, G.get t = F.get t) : (∀ x ∈ o.op.operands, G.ev x = F.ev x) ∧ (∀ t want, o.guard = some (t, want) → G.get t = F.get t) := by
  constructor
  · intro x hx
    cases x with
    | tmp t => exact h t (by unfold EOper.looks; rw [List.mem_append]; exact .inl (List.mem_filterMap.mpr ⟨.tmp t, hx, rfl⟩))
    | const v => rfl
    | global g => rfl
    | func f => rfl
  · intro t want hg
    exact h t (by unfold EOper.looks; rw [List.mem_append, hg]; exact .inr (by simp))

omit hC hcp in
/-- The run goes on by an operation. -/
theorem Far.slots_put {D : Nat → Prop} {a : Act} {w : World} {j : Nat} {ρ : Ren} {G : AF} (T : Told C all m F0 S0 es Ff Sf) (h : Far n0 m F0 es Sf W0 ρ0 D a w j ρ G) {e : Ent} (he : e ∈ es) {G' : AF} (hd : G.dst e.d.o.dst e.v = some G') :
    G'.n = F0.n ∧ ∀ t, (∀ u ∈ es, (D u.i ∨ u.i = e.i) → u.d.o.dst = some t → G'.get t = u.v) ∧ ((∀ u ∈ es, (D u.i ∨ u.i = e.i) → u.d.o.dst ≠ some t) → G'.get t = F0.get t) := by
  cases ht : e.d.o.dst with
  | none =>
    rw [ht] at hd
    simp only [AF.dst, Option.some.injEq] at hd
    subst hd
    refine ⟨h.n, fun t => ⟨fun u hu hDu hut => ?_, fun hn => (h.slots t).2 fun u hu hDu => hn u hu (.inl hDu)⟩⟩
    rcases hDu with hDu | hDu
    · exact (h.slots t).1 u hu hDu hut
    · rw [T.inj u hu e he hDu, ht] at hut; cases hut
  | some s =>
    rw [ht] at hd
    simp only [AF.dst] at hd
    split at hd
    · simp only [Option.some.injEq] at hd
      subst hd
      refine ⟨h.n, fun t => ⟨fun u hu hDu hut => ?_, fun hn => ?_⟩⟩
      · rw [AF.get_put]
        by_cases hts : t = s
        · subst hts
          rw [if_pos rfl, T.dst u hu e he t hut ht]
        · rw [if_neg hts]
          rcases hDu with hDu | hDu
          · exact (h.slots t).1 u hu hDu hut
          · rw [T.inj u hu e he hDu, ht] at hut
            simp only [Option.some.injEq] at hut
            exact absurd hut.symm hts
      · rw [AF.get_put]
        rw [if_neg (fun ee => hn e he (.inr rfl) (by rw [ht, ee]))]
        exact (h.slots t).2 fun u hu hDu => hn u hu (.inl hDu)
    · cases hd
omit hC hcp in
theorem Far.dst_ok {D : Nat → Prop} {a : Act} {w : World} {j : Nat} {ρ : Ren} {G : AF} (T : Told C all m F0 S0 es Ff Sf) (h : Far n0 m F0 es Sf W0 ρ0 D a w j ρ G) {e : Ent} (he : e ∈ es) : ∃ G', G.dst e.d.o.dst e.v = some G' := by
  obtain ⟨_, _, _, _, F', hF'⟩ := T.at_ e he
  cases ht : e.d.o.dst with
  | none => exact ⟨G, rfl⟩
  | some s =>
    rw [ht] at hF'
    simp only [AF.dst] at hF' ⊢
    split at hF'
    · rename_i hlt
      rw [T.n e he] at hlt
      rw [if_pos (by rw [h.n]; exact hlt)]
      exact ⟨_, rfl⟩
    · cases hF'
omit hC hcp in
theorem closed_put {D : Nat → Prop} (hcl : ∀ e ∈ es, D e.i → ∀ k ∈ e.d.deps, D k) (T : Told C all m F0 S0 es Ff Sf) {e : Ent} (he : e ∈ es) (hk : ∀ k ∈ e.d.deps, D k) :
    ∀ u ∈ es, (D u.i ∨ u.i = e.i) → ∀ k ∈ u.d.deps, (D k ∨ k = e.i) := by
  intro u hu hDu k hk'
  rcases hDu with hDu | hDu
  · exact .inl (hcl u hu hDu k hk')
  · rw [T.inj u hu e he hDu] at hk'; exact .inl (hk k hk')

omit hC hcp in
/-- A small step: our memory stands. -/
theorem Far.small {D : Nat → Prop} {a : Act} {w : World} {j : Nat} {ρ : Ren} {G : AF} (T : Told C all m F0 S0 es Ff Sf) (h : Far n0 m F0 es Sf W0 ρ0 D a w j ρ G) {e : Ent} (he : e ∈ es) (hch : e.d.ch = false) (hk : ∀ k ∈ e.d.deps, D k)
    {ρ' : Ren} {w' : World} {a' : Act} (hle : ρ.le ρ') (hrel : RelW W0 ρ' (stateAt es Sf j) w') (hfr : ∀ G', G.dst e.d.o.dst e.v = some G' → FRel ρ' G' a')
    (hg : ∀ e' ∈ es, e'.d.o.op.kind = 2 → e'.ran = true → ¬ D e'.i → e'.i ≠ e.i → e'.d.ph ≤ j → ρ' e'.S.next = none) (hkeep : ∀ i, i < n0 → ρ i = none → ρ' i = none) :
    ∃ G', Far n0 m F0 es Sf W0 ρ0 (fun k => D k ∨ k = e.i) a' w' j ρ' G' := by
  obtain ⟨G', hG'⟩ := h.dst_ok T he
  obtain ⟨n1, n2⟩ := h.slots_put T he hG'
  refine ⟨G', h.le, fun c hc hcc => ?_, Ren.le_trans h.ren hle, hrel, hfr G' hG', n1, n2, fun e' he' h1 h2 h3 h4 => hg e' he' h1 h2 (fun hh => h3 (.inl hh)) (fun hh => h3 (.inr hh)) h4, fun i hi e => hkeep i hi (h.keep i hi e), h.next, h.above, closed_put h.closed T he hk, h.idne⟩
  rw [← h.great c hc hcc]
  constructor
  · rintro (h1 | h1)
    · exact h1
    · rw [T.inj c hc e he h1, hch] at hcc; cases hcc
  · exact .inl

omit hC hcp in
/-- A great step. -/
theorem Far.big {D : Nat → Prop} {a : Act} {w : World} {j : Nat} {ρ : Ren} {G : AF} (T : Told C all m F0 S0 es Ff Sf) (h : Far n0 m F0 es Sf W0 ρ0 D a w j ρ G) {e : Ent} (he : e ∈ es) (hch : e.d.ch = true) (hph : e.d.ph = j) (hD : ¬ D e.i) (hk : ∀ k ∈ e.d.deps, D k)
    {ρ' : Ren} {w' : World} {a' : Act} (hgr : Grow e.S.next e.S'.next ρ ρ') (hrel : RelW W0 ρ' e.S' w') (hfr : ∀ G', G.dst e.d.o.dst e.v = some G' → FRel ρ' G' a') :
    ∃ G', Far n0 m F0 es Sf W0 ρ0 (fun k => D k ∨ k = e.i) a' w' (j + 1) ρ' G' := by
  obtain ⟨G', hG'⟩ := h.dst_ok T he
  obtain ⟨n1, n2⟩ := h.slots_put T he hG'
  obtain ⟨q1, q2⟩ := T.seg.at e he hch
  rw [hph] at q2
  have hlt := (T.at_ e he).2.2.2.1 hch
  rw [hph] at q1
  have hn1 := h.next
  rw [q1] at hn1
  refine ⟨G', by omega, fun c hc hcc => ?_, Ren.le_trans h.ren hgr.le, q2.rel hrel, hfr G' hG', n1, n2, fun e' he' h1 h2 h3 h4 => ?_, fun i hi e1 => hgr.keep i (by omega) (h.keep i hi e1), ?_, fun e' he' h1 h2 h4 => ?_, closed_put h.closed T he hk, ?_⟩
  · constructor
    · rintro (h1 | h1)
      · have := (h.great c hc hcc).mp h1; omega
      · rw [T.inj c hc e he h1]; omega
    · intro h1
      by_cases h2 : c.d.ph < j
      · exact .inl ((h.great c hc hcc).mpr h2)
      · exact .inr (by rw [T.seg.uniq e he hch c hc hcc (by omega)])
  · have hch' : e'.d.ch = false := by simp [DOper.ch, h1]
    by_cases h5 : e'.d.ph ≤ j
    · have h6 := (h.above e' he' h1 h2 h5).2
      rw [q1] at h6
      exact hgr.keep _ h6 (h.ghosts e' he' h1 h2 (fun hh => h3 (.inl hh)) h5)
    · exact hrel.fresh _ (T.seg.next_le2 e he hch e' he' hch' (by omega))
  · have := hgr.next
    have := q2.next
    omega
  · have hch' : e'.d.ch = false := by simp [DOper.ch, h1]
    by_cases h5 : e'.d.ph ≤ j
    · obtain ⟨h6, h7⟩ := h.above e' he' h1 h2 h5
      rw [q1] at h7
      have := hgr.next
      have := q2.next
      exact ⟨h6, by omega⟩
    · have h6 := T.seg.next_le2 e he hch e' he' hch' (by omega)
      have h7 := T.seg.after e' he' hch'
      rw [show e'.d.ph = j + 1 from by omega] at h7
      have hev' := (T.at_ e' he').2.1
      have hrun' := (evE_small (by omega) (kind_le _) hev').2.2 h2
      obtain ⟨c', el', es2, v2, hr2⟩ := alloc_val h1 hrun'
      simp only [Res.val.injEq] at hr2
      have h8 := h7.next
      rw [hr2.2] at h8
      have h8 : e'.S.next + 1 ≤ (stateAt es Sf (j + 1)).next := h8
      have := hgr.next
      exact ⟨by omega, by omega⟩
  · have lt : ∀ u ∈ es, ∀ u' ∈ es, u.d.o.op.kind = 2 → u'.d.o.op.kind = 2 → u.ran = true → u'.ran = true → u.d.ph ≤ j → u'.d.ph = j + 1 → u.S.next < u'.S.next := by
      intro u hu u' hu' a1 a2 a3 a4 a5 a6
      have h6 := (h.above u hu a1 a3 a5).2
      rw [q1] at h6
      have := hgr.next
      have := T.seg.next_le2 e he hch u' hu' (by simp [DOper.ch, a2]) (by omega)
      omega
    intro u hu u' hu' a1 a2 a3 a4 a5 a6 a7
    by_cases b1 : u.d.ph ≤ j
    · by_cases b2 : u'.d.ph ≤ j
      · exact h.idne u hu u' hu' a1 a2 a3 a4 b1 b2 a7
      · have := lt u hu u' hu' a1 a2 a3 a4 b1 (by omega)
        omega
    · by_cases b2 : u'.d.ph ≤ j
      · have := lt u' hu' u hu a2 a1 a4 a3 b2 (by omega)
        omega
      · exact T.apart hu hu' a1 a2 a3 a4 (by omega) a7
end
end Go.Proofs.Ythclmjelknibhaa.Ev
