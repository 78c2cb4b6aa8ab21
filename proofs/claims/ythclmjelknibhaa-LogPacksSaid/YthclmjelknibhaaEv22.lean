/- Regions whose order is open: what our order tells of every other one. -/
import Derived.Test.YthclmjelknibhaaEv21
namespace Go.Proofs.Ythclmjelknibhaa.Ev
open Go Go.RowKit
set_option linter.unusedVariables false
set_option linter.unusedSimpArgs false
set_option linter.unusedSectionVars false

theorem Seg.uniq {j : Nat} {S Sf : AW} {es : List Ent} (h : Seg j S es Sf) : ∀ c ∈ es, c.d.ch = true → ∀ e ∈ es, e.d.ch = true → e.d.ph = c.d.ph → e = c := by
  induction h with
  | nil => intro c hc; simp at hc
  | small hc hp hx h ih =>
    intro c hcm hcc e he hce hpe
    rcases List.mem_cons.mp hcm with rfl | hcm2
    · rw [hc] at hcc; cases hcc
    · rcases List.mem_cons.mp he with rfl | he2
      · rw [hc] at hce; cases hce
      · exact ih c hcm2 hcc e he2 hce hpe
  | great hc hp h ih =>
    intro c hcm hcc e he hce hpe
    rcases List.mem_cons.mp hcm with rfl | hcm2
    · rcases List.mem_cons.mp he with rfl | he2
      · rfl
      · have := h.ph_le e he2; omega
    · rcases List.mem_cons.mp he with rfl | he2
      · have := h.ph_le c hcm2; omega
      · exact ih c hcm2 hcc e he2 hce hpe
theorem Seg.ex {j : Nat} {S Sf : AW} {es : List Ent} (h : Seg j S es Sf) : ∀ e ∈ es, ∀ k, j ≤ k → k < e.d.ph → ∃ c ∈ es, c.d.ch = true ∧ c.d.ph = k := by
  induction h with
  | nil => intro e he; simp at he
  | small hc hp hx h ih =>
    intro e he k h1 h2
    rcases List.mem_cons.mp he with rfl | he2
    · omega
    · obtain ⟨c, c1, c2⟩ := ih e he2 k h1 h2
      exact ⟨c, List.mem_cons_of_mem _ c1, c2⟩
  | great hc hp h ih =>
    intro e he k h1 h2
    rcases List.mem_cons.mp he with rfl | he2
    · omega
    · rename_i e0 _ _
      by_cases hk : k = e0.d.ph
      · exact ⟨e0, List.mem_cons_self, hc, hk.symm⟩
      · obtain ⟨c, c1, c2⟩ := ih e he2 k (by omega) h2
        exact ⟨c, List.mem_cons_of_mem _ c1, c2⟩

theorem placed_lt {all : List DOper} {m : Nat} : ∀ (L : List Nat) (done : List Nat) (j : Nat), placed all m done j L = true → j ≤ m ∧ ∀ i ∈ L, ∃ d, all[i]? = some d ∧ d.ph ≤ m ∧ (d.ch = true → d.ph < m)
  | [], done, j, h => by
    simp only [placed, beq_iff_eq] at h
    exact ⟨by omega, fun i hi => by simp at hi⟩
  | i :: L, done, j, h => by
    unfold placed at h
    split at h
    · rename_i d hd
      simp only [Bool.and_eq_true, beq_iff_eq] at h
      obtain ⟨⟨⟨q1, q2⟩, q3⟩, q4⟩ := h
      obtain ⟨r1, r2⟩ := placed_lt L _ _ q4
      cases hc : d.ch with
      | true =>
        rw [hc] at r1
        simp only [if_true] at r1
        refine ⟨by omega, fun k hk => ?_⟩
        rcases List.mem_cons.mp hk with rfl | hk
        · exact ⟨d, hd, by omega, fun _ => by omega⟩
        · exact r2 k hk
      | false =>
        rw [hc] at r1
        simp only [Bool.false_eq_true, if_false] at r1
        refine ⟨by omega, fun k hk => ?_⟩
        rcases List.mem_cons.mp hk with rfl | hk
        · exact ⟨d, hd, by omega, fun h => by rw [hc] at h; cases h⟩
        · exact r2 k hk
    · cases h

/-- All that our order tells. -/
structure Told (C : Callee) (all : List DOper) (m : Nat) (F0 : AF) (S0 : AW) (es : List Ent) (Ff : AF) (Sf : AW) : Prop where
  seg : Seg 0 S0 es Sf
  at_ : ∀ e ∈ es, all[e.i]? = some e.d ∧ evE C e.d.o e.F e.S = some (e.v, e.S', e.ran) ∧ e.d.ph ≤ m ∧ (e.d.ch = true → e.d.ph < m) ∧ ∃ G, e.F.dst e.d.o.dst e.v = some G
  inj : ∀ e ∈ es, ∀ e' ∈ es, e.i = e'.i → e = e'
  cover : ∀ i, i < all.length → ∃ e ∈ es, e.i = i
  deps : ∀ e ∈ es, ∀ k ∈ e.d.deps, k < e.i ∧ ∃ e' ∈ es, e'.i = k
  dst : ∀ e ∈ es, ∀ e' ∈ es, ∀ t, e.d.o.dst = some t → e'.d.o.dst = some t → e = e'
  just : ∀ e ∈ es, e.d.ph = 0 ∨ ∃ k ∈ e.d.deps, ∃ e' ∈ es, e'.i = k ∧ e.d.ph ≤ e'.d.ph + (if e'.d.ch then 1 else 0)
  due : ∀ e ∈ es, m ≤ e.d.due ∨ ∃ u ∈ es, e.i < u.i ∧ e.i ∈ u.d.deps ∧ (if u.d.ch then u.d.ph else u.d.due) ≤ e.d.due
  look : ∀ e ∈ es, ∀ t ∈ e.d.o.looks, (∀ u ∈ es, u.d.o.dst = some t → (u.i ∈ e.d.deps ∧ e.F.get t = u.v) ∨ ((u.i = e.i ∨ e.i ∈ u.d.deps) ∧ e.F.get t = F0.get t)) ∧
    ((∀ u ∈ es, u.d.o.dst ≠ some t) → e.F.get t = F0.get t)
  n : ∀ e ∈ es, e.F.n = F0.n
  last : Ff.n = F0.n ∧ ∀ t, (∀ u ∈ es, u.d.o.dst = some t → Ff.get t = u.v) ∧ ((∀ u ∈ es, u.d.o.dst ≠ some t) → Ff.get t = F0.get t)

/-- What a frame is behind some operations. -/
def Fr (F0 : AF) (pre : List Ent) (F : AF) : Prop := F.n = F0.n ∧ ∀ t, (∀ u ∈ pre, u.d.o.dst = some t → F.get t = u.v) ∧ ((∀ u ∈ pre, u.d.o.dst ≠ some t) → F.get t = F0.get t)
theorem Fr.step {F0 F F' : AF} {pre : List Ent} (h : Fr F0 pre F) {e : Ent} (hd : F.dst e.d.o.dst e.v = some F') (hne : ∀ u ∈ pre, ∀ t, e.d.o.dst = some t → u.d.o.dst ≠ some t) : Fr F0 (pre ++ [e]) F' := by
  cases ht : e.d.o.dst with
  | none =>
    rw [ht] at hd
    simp only [AF.dst, Option.some.injEq] at hd
    subst hd
    refine ⟨h.1, fun t => ⟨fun u hu hut => ?_, fun hn => (h.2 t).2 fun u hu => hn u (by simp [hu])⟩⟩
    rcases List.mem_append.mp hu with hu | hu
    · exact (h.2 t).1 u hu hut
    · simp only [List.mem_singleton] at hu; subst hu; rw [ht] at hut; cases hut
  | some s =>
    rw [ht] at hd
    simp only [AF.dst] at hd
    split at hd
    · simp only [Option.some.injEq] at hd
      subst hd
      refine ⟨h.1, fun t => ⟨fun u hu hut => ?_, fun hn => ?_⟩⟩
      · rw [AF.get_put]
        rcases List.mem_append.mp hu with hu | hu
        · rw [if_neg (fun e => hne u hu s ht (by rw [← e]; exact hut))]
          exact (h.2 t).1 u hu hut
        · simp only [List.mem_singleton] at hu
          subst hu
          rw [ht] at hut
          simp only [Option.some.injEq] at hut
          rw [if_pos hut.symm]
      · rw [AF.get_put, if_neg (fun ee => hn e (by simp) (by rw [ht, ee]))]
        exact (h.2 t).2 fun u hu => hn u (by simp [hu])
    · cases hd

/-- What is met on the way, one by one. -/
theorem trace_all {C : Callee} {all : List DOper} {m : Nat} {F0 : AF} : ∀ (L : List Nat) (pre : List Ent) (j : Nat) (F : AF) (S : AW) (ol : List (Nat × DOper)) (es : List Ent) (F2 : AF) (S2 : AW),
    placed all m (pre.map (·.i)) j L = true → L.mapM (fun i => (all[i]?).map fun d => (i, d)) = some ol → trace C ol F S = some (es, F2, S2) → Fr F0 pre F → (∀ u ∈ pre, all[u.i]? = some u.d) →
    es.map (·.i) = L ∧ Fr F0 (pre ++ es) F2 ∧
    ∀ p e q, es = p ++ e :: q → all[e.i]? = some e.d ∧ evE C e.d.o e.F e.S = some (e.v, e.S', e.ran) ∧ place1 all ((pre ++ p).map (·.i)) e.i e.d = true ∧ (∀ u ∈ pre ++ p, u.i ≠ e.i) ∧ Fr F0 (pre ++ p) e.F ∧ ∃ G, e.F.dst e.d.o.dst e.v = some G
  | [], pre, j, F, S, ol, es, F2, S2, hp, hm, ht, hF, hpre => by
    simp only [List.mapM_nil, Option.pure_def, Option.some.injEq] at hm
    subst hm
    simp only [trace, Option.some.injEq, Prod.mk.injEq] at ht
    obtain ⟨rfl, rfl, rfl⟩ := ht
    exact ⟨rfl, by simpa using hF, fun p e q h => by simp at h⟩
  | i :: L, pre, j, F, S, ol, es, F2, S2, hp, hm, ht, hF, hpre => by
    simp only [List.mapM_cons, Option.bind_eq_bind, Option.pure_def] at hm
    obtain ⟨p, h1, hm⟩ := Option.bind_eq_some_iff.mp hm
    obtain ⟨ol', h2, hm⟩ := Option.bind_eq_some_iff.mp hm
    simp only [Option.some.injEq] at hm
    subst hm
    obtain ⟨d, hd, rfl⟩ := Option.map_eq_some_iff.mp h1
    unfold placed at hp
    rw [hd] at hp
    simp only [Bool.and_eq_true, beq_iff_eq] at hp
    obtain ⟨⟨⟨q1, q2⟩, q3⟩, q4⟩ := hp
    simp only [trace] at ht
    split at ht
    · rename_i v S' ran he
      split at ht
      · rename_i F' hF'
        split at ht
        · rename_i es' F3 S3 htr
          simp only [Option.some.injEq, Prod.mk.injEq] at ht
          obtain ⟨rfl, rfl, rfl⟩ := ht
          let e0 : Ent := ⟨i, d, F, S, v, S', ran⟩
          have hni : ∀ u ∈ pre, u.i ≠ i := by
            intro u hu hui
            simp only [Bool.not_eq_true', List.contains_eq_mem, decide_eq_false_iff_not] at q3
            exact q3 (List.mem_map.mpr ⟨u, hu, hui⟩)
          have hdst : ∀ u ∈ pre, ∀ t, e0.d.o.dst = some t → u.d.o.dst ≠ some t := by
            intro u hu t ht hut
            have hq := q1
            unfold place1 at hq
            simp only [Bool.and_eq_true] at hq
            obtain ⟨⟨⟨_, _⟩, hq⟩, _⟩ := hq
            have ht : d.o.dst = some t := ht
            rw [ht] at hq
            simp only [List.all_eq_true, List.mem_range] at hq
            have hul := hpre u hu
            have hlt : u.i < all.length := (List.getElem?_eq_some_iff.mp hul).1
            have := hq u.i hlt
            simp only [hul, Bool.or_eq_true, beq_iff_eq, decide_eq_true_eq] at this
            rcases this with h | h
            · exact hni u hu h
            · exact h hut
          have hF1 : Fr F0 (pre ++ [e0]) F' := hF.step (e := e0) hF' hdst
          obtain ⟨r1, r2, r3⟩ := trace_all L (pre ++ [e0]) (if d.ch then j + 1 else j) F' S' ol' es' F3 S3 (by simpa using q4) h2 htr hF1 (fun u hu => by
            rcases List.mem_append.mp hu with hu | hu
            · exact hpre u hu
            · simp only [List.mem_singleton] at hu; subst hu; exact hd)
          refine ⟨by simp [r1], by simpa using r2, fun p e q hpq => ?_⟩
          cases p with
          | nil =>
            simp only [List.nil_append, List.cons.injEq] at hpq
            obtain ⟨rfl, rfl⟩ := hpq
            exact ⟨hd, he, by simpa using q1, by simpa using hni, by simpa using hF, F', hF'⟩
          | cons p0 p =>
            simp only [List.cons_append, List.cons.injEq] at hpq
            obtain ⟨rfl, hpq⟩ := hpq
            have := r3 p e q hpq
            simpa using this
        · cases ht
      · cases ht
    · cases ht

theorem told {C : Callee} {all : List DOper} {m : Nat} {L : List Nat} (hpl : planOk all m L = true) {F0 : AF} {S0 : AW} {ol : List (Nat × DOper)} (hm : L.mapM (fun i => (all[i]?).map fun d => (i, d)) = some ol)
    {es : List Ent} {Ff : AF} {Sf : AW} (ht : trace C ol F0 S0 = some (es, Ff, Sf)) : Told C all m F0 S0 es Ff Sf := by
  unfold planOk at hpl
  simp only [Bool.and_eq_true] at hpl
  obtain ⟨⟨hp, hdue⟩, hcov⟩ := hpl
  obtain ⟨t1, t2, t3⟩ := trace_all (F0 := F0) L [] 0 F0 S0 ol es Ff Sf hp hm ht ⟨rfl, fun t => ⟨fun u hu => by simp at hu, fun _ => rfl⟩⟩ (fun u hu => by simp at hu)
  simp only [List.nil_append] at t2 t3
  have hlt := (placed_lt L [] 0 hp).2
  have sp : ∀ e ∈ es, ∃ p q, es = p ++ e :: q := fun e he => List.append_of_mem he
  have inL : ∀ e ∈ es, e.i ∈ L := fun e he => by rw [← t1]; exact List.mem_map.mpr ⟨e, he, rfl⟩
  have hall : ∀ e ∈ es, all[e.i]? = some e.d := fun e he => by obtain ⟨p, q, h⟩ := sp e he; exact (t3 p e q h).1
  have cover : ∀ i, i < all.length → ∃ e ∈ es, e.i = i := by
    intro i hi
    simp only [List.all_eq_true, List.mem_range, List.contains_eq_mem, decide_eq_true_eq] at hcov
    have := hcov i hi
    rw [← t1] at this
    obtain ⟨e, he, hei⟩ := List.mem_map.mp this
    exact ⟨e, he, hei⟩
  have inj : ∀ e ∈ es, ∀ e' ∈ es, e.i = e'.i → e = e' := by
    intro e he e' he' hii
    obtain ⟨p, q, h⟩ := sp e he
    have h2 := (t3 p e q h).2.2.2.1
    rw [h] at he'
    rcases List.mem_append.mp he' with h3 | h3
    · exact absurd hii.symm (h2 e' h3)
    · rcases List.mem_cons.mp h3 with h3 | h3
      · exact h3.symm
      · obtain ⟨p', q', h4⟩ := List.append_of_mem h3
        have h5 := (t3 (p ++ e :: p') e' q' (by rw [h, h4]; simp)).2.2.2.1 e (by simp)
        exact absurd hii h5
  have plc : ∀ e ∈ es, ∃ p q, es = p ++ e :: q ∧ place1 all (p.map (·.i)) e.i e.d = true ∧ Fr F0 p e.F := by
    intro e he
    obtain ⟨p, q, h⟩ := sp e he
    exact ⟨p, q, h, (t3 p e q h).2.2.1, (t3 p e q h).2.2.2.2.1⟩
  refine ⟨trace_seg L [] 0 F0 S0 ol es Ff Sf hp hm ht, ?_, inj, cover, ?_, ?_, ?_, ?_, ?_, ?_, t2⟩
  · intro e he
    obtain ⟨p, q, h⟩ := sp e he
    obtain ⟨d, hd, h1, h2⟩ := hlt e.i (inL e he)
    rw [hall e he] at hd
    simp only [Option.some.injEq] at hd
    subst hd
    exact ⟨hall e he, (t3 p e q h).2.1, h1, h2, (t3 p e q h).2.2.2.2.2⟩
  · intro e he k hk
    obtain ⟨p, q, h, hp1, _⟩ := plc e he
    unfold place1 at hp1
    simp only [Bool.and_eq_true] at hp1
    obtain ⟨⟨⟨hq, _⟩, _⟩, _⟩ := hp1
    simp only [List.all_eq_true, Bool.and_eq_true, List.contains_eq_mem, decide_eq_true_eq] at hq
    obtain ⟨h1, h2⟩ := hq k hk
    obtain ⟨e', he', hk'⟩ := List.mem_map.mp h1
    exact ⟨h2, e', by rw [h]; simp [he'], hk'⟩
  · intro e he e' he' t h1 h2
    obtain ⟨p, q, h, hp1, _⟩ := plc e he
    unfold place1 at hp1
    simp only [Bool.and_eq_true] at hp1
    obtain ⟨⟨⟨_, _⟩, hq⟩, _⟩ := hp1
    rw [h1] at hq
    simp only [List.all_eq_true, List.mem_range] at hq
    have hl := hall e' he'
    have := hq e'.i (List.getElem?_eq_some_iff.mp hl).1
    simp only [hl, Bool.or_eq_true, beq_iff_eq, decide_eq_true_eq] at this
    rcases this with h3 | h3
    · exact inj e he e' he' h3.symm
    · exact absurd h2 h3
  · intro e he
    obtain ⟨p, q, h, hp1, _⟩ := plc e he
    unfold place1 at hp1
    simp only [Bool.and_eq_true] at hp1
    obtain ⟨⟨⟨hdp, _⟩, _⟩, hq⟩ := hp1
    simp only [Bool.or_eq_true, beq_iff_eq, List.any_eq_true] at hq
    rcases hq with h1 | ⟨k, hk, h1⟩
    · exact .inl h1
    · refine .inr ⟨k, hk, ?_⟩
      split at h1
      · rename_i d hd
        obtain ⟨e', he', hei⟩ := cover k (List.getElem?_eq_some_iff.mp hd).1
        have := hall e' he'
        rw [hei, hd] at this
        simp only [Option.some.injEq] at this
        subst this
        exact ⟨e', he', hei, by simpa using h1⟩
      · cases h1
  · intro e he
    unfold dueOk at hdue
    simp only [List.all_eq_true, List.mem_range] at hdue
    have hl := hall e he
    have := hdue e.i (List.getElem?_eq_some_iff.mp hl).1
    simp only [hl, Bool.or_eq_true, decide_eq_true_eq, List.any_eq_true, List.mem_range] at this
    rcases this with h1 | ⟨u, hu, h1⟩
    · exact .inl h1
    · refine .inr ?_
      split at h1
      · rename_i d hd
        simp only [Bool.and_eq_true, decide_eq_true_eq, List.contains_eq_mem] at h1
        obtain ⟨⟨h2, h3⟩, h4⟩ := h1
        obtain ⟨e', he', hei⟩ := cover u hu
        have := hall e' he'
        rw [hei, hd] at this
        simp only [Option.some.injEq] at this
        subst this
        exact ⟨e', he', by omega, h3, h4⟩
      · cases h1
  · intro e he t htl
    obtain ⟨p, q, h, hp1, hfr⟩ := plc e he
    unfold place1 at hp1
    simp only [Bool.and_eq_true] at hp1
    obtain ⟨⟨⟨_, hq⟩, _⟩, _⟩ := hp1
    simp only [List.all_eq_true, List.mem_range] at hq
    refine ⟨fun u hu hut => ?_, fun hn => (hfr.2 t).2 fun u hu => hn u (by rw [h]; simp [hu])⟩
    have hl := hall u hu
    have := hq t htl u.i (List.getElem?_eq_some_iff.mp hl).1
    simp only [hl] at this
    rw [if_pos hut] at this
    by_cases hdn : u ∈ p
    · have hc : (p.map (·.i)).contains u.i = true := by simp only [List.contains_eq_mem, decide_eq_true_eq]; exact List.mem_map.mpr ⟨u, hdn, rfl⟩
      rw [if_pos hc] at this
      simp only [List.contains_eq_mem, decide_eq_true_eq] at this
      exact .inl ⟨this, (hfr.2 t).1 u hdn hut⟩
    · have hnp : ∀ u' ∈ p, u'.d.o.dst ≠ some t := by
        intro u' hu' hut'
        have hu'e : u' ∈ es := by rw [h]; simp [hu']
        -- slots are told apart
        obtain ⟨p2, q2, h2, hp2, _⟩ := plc u' hu'e
        unfold place1 at hp2
        simp only [Bool.and_eq_true] at hp2
        obtain ⟨⟨⟨_, _⟩, hq2⟩, _⟩ := hp2
        rw [hut'] at hq2
        simp only [List.all_eq_true, List.mem_range] at hq2
        have h3 := hq2 u.i (List.getElem?_eq_some_iff.mp hl).1
        simp only [hl, Bool.or_eq_true, beq_iff_eq, decide_eq_true_eq] at h3
        rcases h3 with h3 | h3
        · exact hdn (by rw [inj u hu u' hu'e h3]; exact hu')
        · exact h3 hut
      have hc : (p.map (·.i)).contains u.i = false := by
        simp only [List.contains_eq_mem, decide_eq_false_iff_not, List.mem_map, not_exists, not_and]
        intro u' hu' hui
        exact hdn (by rw [← inj u' (by rw [h]; simp [hu']) u hu hui]; exact hu')
      rw [if_neg (by rw [hc]; simp)] at this
      simp only [Bool.or_eq_true, beq_iff_eq, List.contains_eq_mem, decide_eq_true_eq] at this
      exact .inr ⟨this, (hfr.2 t).2 hnp⟩
  · intro e he
    obtain ⟨p, q, h, hp1, hfr⟩ := plc e he
    exact hfr.1
end Go.Proofs.Ythclmjelknibhaa.Ev
