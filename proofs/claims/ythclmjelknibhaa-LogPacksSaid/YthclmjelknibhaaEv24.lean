/- Regions whose order is open: one step in whatever order; all of them. -/
import Derived.Test.YthclmjelknibhaaEv23
namespace Go.Proofs.Ythclmjelknibhaa.Ev
open Go Go.RowKit
set_option linter.unusedVariables false
set_option linter.unusedSimpArgs false
set_option linter.unusedSectionVars false

theorem evE_cases {C : Callee} {o : EOper} {F : AF} {S : AW} {v : Value} {S' : AW} {ran : Bool} (h : evE C o F S = some (v, S', ran)) :
    ((o.guard = none ∨ ∃ t want, o.guard = some (t, want) ∧ gd (F.get t) want = some true) ∧ ran = true ∧ (o.op.run F S = some (.val v S') ∨ ∃ f args, o.op.run F S = some (.call f args) ∧ C f args S = some (v, S'))) ∨
    (∃ t want, o.guard = some (t, want) ∧ gd (F.get t) want = some false ∧ ran = false ∧ v = undef ∧ S' = S) := by
  have go : (match o.op.run F S with
    | some (.val v S') => some (v, S', true)
    | some (.call f args) => match C f args S with
      | some (v, S') => some (v, S', true)
      | none => none
    | none => none : Option (Value × AW × Bool)) = some (v, S', ran) → ran = true ∧ (o.op.run F S = some (.val v S') ∨ ∃ f args, o.op.run F S = some (.call f args) ∧ C f args S = some (v, S')) := by
    intro hm
    split at hm
    · rename_i v1 S1 hr
      simp only [Option.some.injEq, Prod.mk.injEq] at hm
      obtain ⟨rfl, rfl, rfl⟩ := hm
      exact ⟨rfl, .inl hr⟩
    · rename_i f args hr
      split at hm
      · rename_i v1 S1 hc
        simp only [Option.some.injEq, Prod.mk.injEq] at hm
        obtain ⟨rfl, rfl, rfl⟩ := hm
        exact ⟨rfl, .inr ⟨f, args, hr, hc⟩⟩
      · cases hm
    · cases hm
  unfold evE at h
  simp only at h
  split at h
  · rename_i hg
    exact .inl ⟨.inl hg, go h⟩
  · rename_i t want hg
    split at h
    · rename_i hb
      exact .inl ⟨.inr ⟨t, want, hg, hb⟩, go h⟩
    · rename_i hb
      simp only [Option.some.injEq, Prod.mk.injEq] at h
      obtain ⟨rfl, rfl, rfl⟩ := h
      exact .inr ⟨t, want, hg, hb, rfl, rfl, rfl⟩
    · cases h

/-- Where no row is made, memory stands between the great steps. -/
theorem Seg.stand {j : Nat} {S Sf : AW} {es : List Ent} (h : Seg j S es Sf) : (∀ e ∈ es, e.d.ch = false → e.S' = e.S) → S = stateAt es Sf j ∧ ∀ e ∈ es, e.d.ch = false → e.S = stateAt es Sf e.d.ph := by
  induction h with
  | nil j S => exact fun _ => ⟨rfl, fun e he => by simp at he⟩
  | small hc hp hx h ih =>
    intro hs
    rename_i e0 es0 _
    obtain ⟨i1, i2⟩ := ih fun e he => hs e (List.mem_cons_of_mem _ he)
    have h0 := hs e0 List.mem_cons_self hc
    rw [stateAt_skip (by simp [hc])]
    refine ⟨by rw [← i1, h0], fun e he hce => ?_⟩
    rw [stateAt_skip (by simp [hc])]
    rcases List.mem_cons.mp he with rfl | he2
    · rw [hp, ← i1, h0]
    · exact i2 e he2 hce
  | great hc hp h ih =>
    intro hs
    obtain ⟨i1, i2⟩ := ih fun e he => hs e (List.mem_cons_of_mem _ he)
    rw [stateAt_hit (by simp [hc, hp])]
    refine ⟨rfl, fun e he hce => ?_⟩
    rcases List.mem_cons.mp he with rfl | he2
    · rw [hc] at hce; cases hce
    · have := h.ph_le e he2
      rw [stateAt_skip (by simp; intro _; omega)]
      exact i2 e he2 hce

section
variable {P : Program} {C : Callee} (hC : COk P C) {ops : Array Oper} {all : List DOper} (hcp : DComp P ops all) {m : Nat} {F0 : AF} {S0 : AW} {es : List Ent} {Ff : AF} {Sf : AW}
  (T : Told C all m F0 S0 es Ff Sf) (hdyn : dynOk m (stillAll all) es Sf = true) {W0 : Fz} {ρ0 : Ren} {n0 : Nat}

include T hdyn in
/-- A reading comes to the same wherever it may stand. -/
theorem read_same {e : Ent} (he : e ∈ es) (hk : e.d.o.op.kind ≤ 1) (hran : e.ran = true) {j : Nat} (h1 : e.d.ph ≤ j) (h2 : j ≤ e.d.due) (h3 : j ≤ m) : e.d.o.op.run e.F (stateAt es Sf j) = some (.val e.v (stateAt es Sf j)) := by
  have hev := (T.at_ e he).2.1
  have hrun := (evE_small (by omega) (kind_le _) hev).2.2 hran
  by_cases h0 : e.d.o.op.kind = 0
  · exact pure_run h0 hrun _
  · have hk1 : e.d.o.op.kind = 1 := by omega
    have hd := hdyn
    unfold dynOk at hd
    simp only [List.all_eq_true] at hd
    have hd := hd e he
    rw [if_pos (by simp [hran, hk1])] at hd
    have hd := List.all_eq_true.mp hd (j - e.d.ph) (by rw [List.mem_range]; omega)
    simp only [Bool.or_eq_true, Bool.and_eq_true, beq_iff_eq] at hd
    rcases hd with ⟨q1, q2⟩ | hd
    · have hst : ∀ e' ∈ es, e'.d.ch = false → e'.S' = e'.S := by
        intro e' he' hce'
        obtain ⟨g1, g2, _⟩ := T.at_ e' he'
        have hne : e'.d.o.op.kind ≠ 2 := by
          unfold stillAll at q2
          simp only [List.all_eq_true, bne_iff_ne, ne_eq] at q2
          exact q2 _ (List.mem_of_getElem? g1)
        exact (evE_small (by simpa [DOper.ch] using hce') (kind_le _) g2).2.1 (.inl hne)
      have hse := (T.seg.stand hst).2 e he (by simp [DOper.ch, hk1])
      have : j = e.d.ph := by omega
      rw [this, ← hse]
      have := (evE_small (by omega) (kind_le _) hev).2.1 (.inl (by omega))
      rw [this] at hrun
      exact hrun
    · rw [show e.d.ph + (j - e.d.ph) = j from by omega] at hd
      split at hd
      · rename_i v S1 hr
        obtain ⟨v2, hv2⟩ := quiet_val hk hr
        simp only [Res.val.injEq] at hv2
        obtain ⟨rfl, rfl⟩ := hv2
        rw [hr, veq_eq hd]
      · cases hd

include hC hcp T hdyn in
theorem far_step {D : Nat → Prop} {a : Act} {w : World} {j : Nat} {ρ : Ren} {G : AF} (h : Far n0 m F0 es Sf W0 ρ0 D a w j ρ G) {e : Ent} (he : e ∈ es) (hD : ¬ D e.i) (hk : ∀ k ∈ e.d.deps, D k)
    {K : Act → World → Prop} {Q : Exit → Act → World → Prop} (hK : ∀ a' w' j' ρ' G', Far n0 m F0 es Sf W0 ρ0 (fun k => D k ∨ k = e.i) a' w' j' ρ' G' → K a' w') : wpOp P ops Q e.i K a w := by
  obtain ⟨g1, g2, g3, g4, F', g5⟩ := T.at_ e he
  have hlt := (List.getElem?_eq_some_iff.mp g1).1
  obtain ⟨o, ho⟩ : ∃ o, ops[e.i]? = some o := ⟨ops[e.i]'(by rw [hcp.size]; exact hlt), Array.getElem?_eq_getElem _⟩
  obtain ⟨d, hd, hco, _⟩ := hcp.at_ e.i o ho
  rw [g1] at hd
  simp only [Option.some.injEq] at hd
  subst hd
  obtain ⟨c1, c2, c3⟩ := compileOper_some hco
  have hlook := far_look hcp T h he hD hk
  obtain ⟨ev1, ev2⟩ := ev_of_looks (o := e.d.o) (F := e.F) (G := G) hlook
  have hcongr : ∀ S, e.d.o.op.run G S = e.d.o.op.run e.F S := fun S => EOp.run_congr ev1
  -- where it stands
  have hlow : e.d.ph ≤ j := by
    rcases Nat.lt_or_ge j e.d.ph with hlt' | hge
    · obtain ⟨c, cc1, cc2, cc3⟩ := T.seg.ex e he j (Nat.zero_le _) hlt'
      have := far_low T h.closed e.i e he (Nat.le_refl _) hk c cc1 cc2 (by omega)
      have := (h.great c cc1 cc2).mp this
      omega
    · exact hge
  have hhigh := far_high T h.closed h.le h.great _ e he (Nat.le_refl _) hD
  have hgreat : e.d.ch = true → e.d.ph = j := fun hc => by
    have : ¬ e.d.ph < j := fun h' => hD ((h.great e he hc).mpr h')
    omega
  have gho : ∀ e' ∈ es, e'.d.o.op.kind = 2 → e'.ran = true → ¬ D e'.i → e'.i ≠ e.i → e'.d.ph ≤ j → ρ e'.S.next = none := fun e' a1 a2 a3 a4 _ a6 => h.ghosts e' a1 a2 a3 a4 a6
  unfold wpOp
  rw [ho]
  simp only
  rcases evE_cases g2 with ⟨hwant, hran, hgo⟩ | ⟨t, want, hg, hb, hran, hv, hS⟩
  · have hw : Region.wanted o (yielded ops a.tmps) = true := by
      rcases hwant with hg | ⟨t, want, hg, hb⟩
      · rw [hg] at c1; exact wanted_none c1 _
      · have := ev2 t want hg
        rw [hg] at c1
        exact wanted_gd c1 h.fr (by rw [this]; exact hb)
    rw [if_pos hw]
    refine .inl ?_
    by_cases hch : e.d.ch = true
    · -- a great step
      have hph := hgreat hch
      have hst := (T.seg.at e he hch).1
      rw [hph] at hst
      obtain ⟨G', hG'⟩ := h.dst_ok T he
      have hrel := h.rel
      rw [hst] at hrel
      refine step_wp hC hrel h.fr c3 c2 (F' := G') (S' := e.S') ?_ ?_
      · unfold evStep
        rw [hcongr]
        rcases hgo with hgo | ⟨f, args, hgo, hcall⟩
        · rw [hgo]; simp only [put1, hG']
        · rw [hgo]; simp only [put1, hcall, hG']
      · intro ρ' a' w' k1 k2 k3
        obtain ⟨G2, hG2⟩ := h.big T he hch hph hD hk k1 k3 (fun G2 hG2 => by rw [hG'] at hG2; simp only [Option.some.injEq] at hG2; subst hG2; exact k2)
        exact hK a' w' _ ρ' G2 hG2
    · have hch : e.d.ch = false := by simpa using hch
      have hk3 : e.d.o.op.kind ≠ 3 := by simpa [DOper.ch] using hch
      have hk4 := kind_le e.d.o.op
      by_cases hk2 : e.d.o.op.kind = 2
      · -- a row is made
        have hrun := (evE_small hk3 hk4 g2).2.2 hran
        rw [← hcongr] at hrun
        obtain ⟨c, el, es', sh, hr, hfact⟩ := alloc_op h.fr c2 hk2 hrun
        simp only [Res.val.injEq] at hr
        obtain ⟨hv, hS'⟩ := hr
        obtain ⟨Cc, Fz, w0, v', x1, x2, x3, x4, x5⟩ := hfact w
        have hid := h.ghosts e he hk2 hran hD hlow
        have hext := T.seg.after e he hch
        have hraw0 : e.S'.raw e.S.next = some ⟨c, el, es', e.S.next, 0, false⟩ := by rw [hS']; exact AW.raw_new_same _ _ _ _
        have hraw : ∃ r, (stateAt es Sf j).raw e.S.next = some r ∧ r.c = c ∧ r.elem = el ∧ r.es = es' ∧ r.ro = false := by
          by_cases hph : e.d.ph = j
          · rw [hph] at hext
            have hnext : e.S.next < e.S'.next := by rw [hS']; exact Nat.lt_succ_self _
            obtain ⟨y1, y2⟩ := hext.keeps e.S.next hnext
            obtain ⟨z1, z2⟩ := AW.raw_some hraw0
            refine ⟨⟨c, el, es', e.S.next, 0, false⟩, AW.raw_of (by rw [y1]; exact z1) ?_, rfl, rfl, rfl, rfl⟩
            show ((stateAt es Sf j).fam e.S.next).g ≤ 0
            rw [y2]; exact z2
          · have hd := hdyn
            unfold dynOk at hd
            simp only [List.all_eq_true] at hd
            have hd := hd e he
            rw [if_neg (by simp [hk2]), if_pos (by simp [hran, hk2])] at hd
            have hd := List.all_eq_true.mp hd (j - e.d.ph - 1) (by rw [List.mem_range]; have := h.le; omega)
            rw [show e.d.ph + (j - e.d.ph - 1) + 1 = j from by omega] at hd
            exact rawSame_some hd hraw0
        obtain ⟨rr, hraw, hrc, hrel', hres, hrro⟩ := hraw
        have habove := h.above e he hk2 hran hlow
        have hw0 : w0.heap.size = w.heap.size := by rcases x2 with rfl | rfl <;> rfl
        have hrel0 : RelW W0 ρ (stateAt es Sf j) w0 := by
          rcases x2 with rfl | rfl
          · exact h.rel
          · exact h.rel.drew
        have hmade := hrel0.made hid habove.2 hraw hrro Cc Fz x3 (by rw [hrc]; exact x4)
        rw [hres, hrel'] at hmade
        have hle : ρ.le (ρ.add e.S.next ⟨w0.heap.size, 0, Cc.size, es'⟩) := Ren.le_add _ hid
        have hval : VRel (ρ.add e.S.next ⟨w0.heap.size, 0, Cc.size, es'⟩) e.v v' := by
          rw [hv]; exact x5 _ _ (by rw [Ren.add_same, hw0])
        unfold Oper.wp
        rw [x1]
        obtain ⟨G2, hG2⟩ := h.small (a' := a.put o.dst v') T he hch hk hle hmade (fun G' hG' => by rw [← c3]; exact (h.fr.mono hle).dst hval hG') (fun e' a1 a2 a3 a4 a5 a6 => by
          have hch' : e'.d.ch = false := by simp [DOper.ch, a2]
          have hid' := gho e' a1 a2 a3 a4 a5 a6
          rw [Ren.add_other _ (h.idne e' a1 e he a2 hk2 a3 hran a6 hlow (fun q => a5 (by rw [q])))]
          exact hid') (fun i hi e1 => by rw [Ren.add_other _ (by omega)]; exact e1)
        exact hK _ _ _ _ G2 hG2
      · -- a reading
        have hread := read_same T hdyn he (by omega) hran hlow hhigh h.le
        rw [← hcongr] at hread
        obtain ⟨v', w', q1, q2, q3⟩ := quiet_op h.rel h.fr c2 (by omega) hread
        obtain ⟨G2, hG2⟩ := h.small (a' := a.put o.dst v') T he hch hk (Ren.le_refl ρ) q1 (fun G' hG' => by rw [← c3]; exact h.fr.dst q2 hG') gho (fun _ _ e1 => e1)
        unfold Oper.wp
        rcases q3 with q3 | ⟨q3, rfl⟩
        · rw [q3]; exact hK _ _ _ _ G2 hG2
        · rw [q3]; exact hK _ _ _ _ G2 hG2
  · have hget := ev2 t want hg
    rw [hg] at c1
    have hw : Region.wanted o (yielded ops a.tmps) = false := by
      exact wanted_gd c1 h.fr (by rw [hget]; exact hb)
    rw [if_neg (by rw [hw]; simp)]
    by_cases hch : e.d.ch = true
    · have hph := hgreat hch
      have hst := (T.seg.at e he hch).1
      rw [hph] at hst
      have hrel := h.rel
      rw [hst, ← hS] at hrel
      obtain ⟨G2, hG2⟩ := h.big (a' := a.put o.dst undef) T he hch hph hD hk (by rw [hS]; exact Grow.refl _ ρ) hrel (fun G' hG' => by rw [← c3]; rw [hv] at hG'; exact h.fr.dst .undef hG')
      exact hK _ _ _ _ G2 hG2
    · have hch : e.d.ch = false := by simpa using hch
      obtain ⟨G2, hG2⟩ := h.small (a' := a.put o.dst undef) T he hch hk (Ren.le_refl ρ) h.rel (fun G' hG' => by rw [← c3]; rw [hv] at hG'; exact h.fr.dst .undef hG') gho (fun _ _ e1 => e1)
      exact hK _ _ _ _ G2 hG2
end
end Go.Proofs.Ythclmjelknibhaa.Ev
