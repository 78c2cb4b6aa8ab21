/- Regions whose order is open, whole; statements; functions. -/
import Derived.Test.YthclmjelknibhaaEv24
namespace Go.Proofs.Ythclmjelknibhaa.Ev
open Go Go.RowKit
set_option linter.unusedVariables false
set_option linter.unusedSimpArgs false
set_option linter.unusedSectionVars false

theorem getD_put {l : Array Bool} {i k : Nat} (hi : i < l.size) : (l.setIfInBounds i true).getD k false = true ↔ l.getD k false = true ∨ k = i := by
  simp only [Array.getD_eq_getD_getElem?, Array.getElem?_setIfInBounds]
  by_cases h : i = k
  · subst h; simp [hi]
  · rw [if_neg h]
    constructor
    · exact .inl
    · rintro (h1 | h1)
      · exact h1
      · exact absurd h1.symm h

section
variable {P : Program} {C : Callee} (hC : COk P C) {ops : Array Oper} {all : List DOper} (hcp : DComp P ops all) {m : Nat} {F0 : AF} {S0 : AW} {es : List Ent} {Ff : AF} {Sf : AW}
  (T : Told C all m F0 S0 es Ff Sf) (hdyn : dynOk m (stillAll all) es Sf = true) {W0 : Fz} {ρ0 : Ren} {n0 : Nat}

include T hcp in
/-- All have run. -/
theorem far_end {D : Nat → Prop} {a : Act} {w : World} {j : Nat} {ρ : Ren} {G : AF} (h : Far n0 m F0 es Sf W0 ρ0 D a w j ρ G) (hall : ∀ e ∈ es, D e.i) {Q : Exit → Act → World → Prop}
    (hQ : ∀ ρ' a' w', Grow n0 Sf.next ρ0 ρ' → FRel ρ' Ff a' → RelW W0 ρ' Sf w' → Q .normal a' w') : Q .normal a w := by
  have hst : stateAt es Sf j = Sf := by
    unfold stateAt
    split
    · rename_i c hc
      have h1 := List.mem_of_find?_eq_some hc
      have h2 := List.find?_some hc
      simp only [Bool.and_eq_true, beq_iff_eq] at h2
      have := (h.great c h1 h2.1).mp (hall c h1)
      omega
    · rfl
  refine hQ ρ a w ⟨h.ren, h.keep, by rw [← hst]; exact h.next⟩ ⟨by rw [h.fr.size, h.n, T.last.1], fun t => ?_, h.fr.defers⟩ (by rw [← hst]; exact h.rel)
  have : Ff.get t = G.get t := by
    obtain ⟨s1, s2⟩ := h.slots t
    obtain ⟨l1, l2⟩ := T.last.2 t
    by_cases hw : ∃ u ∈ es, u.d.o.dst = some t
    · obtain ⟨u, hu, hut⟩ := hw
      rw [l1 u hu hut, s1 u hu (hall u hu) hut]
    · have hn : ∀ u ∈ es, u.d.o.dst ≠ some t := fun u hu h' => hw ⟨u, hu, h'⟩
      rw [l2 hn, s2 fun u hu _ => hn u hu]
  rw [this]; exact h.fr.slot t

include hC hcp T hdyn in
theorem any_ok {Q : Exit → Act → World → Prop} (hQ : ∀ ρ' a' w', Grow n0 Sf.next ρ0 ρ' → FRel ρ' Ff a' → RelW W0 ρ' Sf w' → Q .normal a' w') : ∀ (fuel : Nat) (listed : Array Bool) (a : Act) (w : World) (j : Nat) (ρ : Ren) (G : AF),
    listed.size = ops.size → Far n0 m F0 es Sf W0 ρ0 (fun k => listed.getD k false = true) a w j ρ G → ((List.range ops.size).filter fun k => !listed.getD k false).length ≤ fuel → wpAny P .any ops Q fuel listed a w := by
  have ltall : ∀ e ∈ es, e.i < ops.size := fun e he => by rw [hcp.size]; exact (List.getElem?_eq_some_iff.mp (T.at_ e he).1).1
  have done : ∀ (listed : Array Bool) (a : Act) (w : World) (j : Nat) (ρ : Ren) (G : AF), listed.size = ops.size → Far n0 m F0 es Sf W0 ρ0 (fun k => listed.getD k false = true) a w j ρ G → Region.ready .any ops listed = [] → Q .normal a w := by
    intro listed a w j ρ G hsz h hr
    refine far_end hcp T h ?_ hQ
    have : ∀ n, ∀ e ∈ es, e.i ≤ n → listed.getD e.i false = true := by
      intro n
      induction n using Nat.strongRecOn with
      | _ n ih =>
        intro e he hn
        cases hcase : listed.getD e.i false with
        | true => rfl
        | false =>
          exfalso
          have hlt := ltall e he
          have hmem : e.i ∈ Region.ready .any ops listed := by
            rw [mem_ready]
            refine ⟨?_, ops[e.i], Array.getElem?_eq_getElem hlt, fun ed hed hb => ?_⟩
            · simp only [Array.getD_eq_getD_getElem?] at hcase ⊢
              rw [Array.getElem?_eq_getElem (by omega)] at hcase ⊢
              exact hcase
            · obtain ⟨d, hd, _, hdeps⟩ := hcp.at_ e.i _ (Array.getElem?_eq_getElem hlt)
              rw [(T.at_ e he).1] at hd
              simp only [Option.some.injEq] at hd
              subst hd
              obtain ⟨q1, e', he', q2⟩ := T.deps e he ed.on (hdeps ed hed hb)
              rw [← q2]
              exact ih (n - 1) (by omega) e' he' (by omega)
          rw [hr] at hmem
          simp at hmem
    exact fun e he => this e.i e he (Nat.le_refl _)
  intro fuel
  induction fuel with
  | zero =>
    intro listed a w j ρ G hsz h hf
    have hr : Region.ready .any ops listed = [] := by
      rw [List.eq_nil_iff_forall_not_mem]
      intro i hi
      obtain ⟨h1, o, h2, _⟩ := mem_ready.mp hi
      have hlt := (Array.getElem?_eq_some_iff.mp h2).1
      have : i ∈ (List.range ops.size).filter fun k => !listed.getD k false := by
        rw [List.mem_filter, List.mem_range]
        refine ⟨hlt, ?_⟩
        simp only [Array.getD_eq_getD_getElem?] at h1 ⊢
        rw [Array.getElem?_eq_getElem (by omega)] at h1 ⊢
        simpa using h1
      rw [List.length_eq_zero_iff.mp (Nat.le_zero.mp hf)] at this
      simp at this
    exact ⟨hr, done listed a w j ρ G hsz h hr⟩
  | succ fuel ih =>
    intro listed a w j ρ G hsz h hf
    refine ⟨done listed a w j ρ G hsz h, fun i hi => ?_⟩
    obtain ⟨h1, o, h2, h3⟩ := mem_ready.mp hi
    have hlt := (Array.getElem?_eq_some_iff.mp h2).1
    have hli : i < listed.size := by omega
    obtain ⟨e, he, rfl⟩ := T.cover i (by rw [← hcp.size]; exact hlt)
    have hnd : ¬ listed.getD e.i false = true := by
      simp only [Array.getD_eq_getD_getElem?] at h1 ⊢
      rw [Array.getElem?_eq_getElem hli] at h1 ⊢
      simpa using h1
    have hk : ∀ k ∈ e.d.deps, listed.getD k false = true := by
      intro k hk
      obtain ⟨o', ho', hdeps⟩ := hcp.deps e.i e.d (T.at_ e he).1
      rw [h2] at ho'
      simp only [Option.some.injEq] at ho'
      subst ho'
      obtain ⟨ed, hed, hb, rfl⟩ := hdeps k hk
      exact h3 ed hed hb
    refine far_step hC hcp T hdyn h he hnd hk fun a' w' j' ρ' G' hfar => ?_
    refine ih (listed.setIfInBounds e.i true) a' w' j' ρ' G' (by simp [hsz]) ?_ ?_
    · have : (fun k => (listed.setIfInBounds e.i true).getD k false = true) = fun k => listed.getD k false = true ∨ k = e.i := funext fun k => propext (getD_put hli)
      rw [this]; exact hfar
    · have hsub : ((List.range ops.size).filter fun k => !(listed.setIfInBounds e.i true).getD k false) = ((List.range ops.size).filter fun k => !listed.getD k false).filter fun k => decide (k ≠ e.i) := by
        rw [List.filter_filter]
        apply List.filter_congr
        intro k _
        have := getD_put (k := k) hli
        cases c1 : (listed.setIfInBounds e.i true).getD k false <;> cases c2 : listed.getD k false <;> simp [c1, c2] at this ⊢
        · exact this
        · exact this
      rw [hsub]
      have : (((List.range ops.size).filter fun k => !listed.getD k false).filter fun k => decide (k ≠ e.i)).length < ((List.range ops.size).filter fun k => !listed.getD k false).length := by
        rw [List.length_filter_lt_length_iff_exists]
        refine ⟨e.i, ?_, by simp⟩
        rw [List.mem_filter, List.mem_range]
        exact ⟨hlt, by simpa using hnd⟩
      omega

include hC hcp T hdyn in
theorem dra_wp (hmx : P.follows .mixedOrders = true) {id : Nat} {a : Act} {w : World} (h : RelW W0 ρ0 S0 w) (hF : FRel ρ0 F0 a) {Q : Exit → Act → World → Prop}
    (hQ : ∀ ρ' a' w', Grow S0.next Sf.next ρ0 ρ' → FRel ρ' Ff a' → RelW W0 ρ' Sf w' → Q .normal a' w') : (Code.region id ops true).wp P Q a w := by
  refine wp_region_any hmx ?_
  refine any_ok hC hcp T hdyn hQ ops.size _ a w.drew 0 ρ0 F0 (by simp) ?_ ?_
  · have hno : ∀ k, ¬ (Array.replicate ops.size false).getD k false = true := by
      intro k
      simp only [Array.getD_eq_getD_getElem?, Array.getElem?_replicate]
      split <;> simp
    refine ⟨Nat.zero_le _, fun c hc hcc => ?_, Ren.le_refl ρ0, T.seg.first.rel h.drew, hF, rfl, fun t => ⟨fun u hu hD => absurd hD (hno _), fun _ => rfl⟩, fun e he h1 h2 h3 h4 => ?_, fun _ _ e1 => e1, T.seg.first.next, fun e he h1 h2 h4 => ?_, fun e he hD => absurd hD (hno _), fun e he e' he' a1 a2 a3 a4 a5 a6 a7 => T.apart he he' a1 a2 a3 a4 (by omega) a7⟩
    · exact ⟨fun hD => absurd hD (hno _), fun hlt => by omega⟩
    · exact h.fresh _ (T.seg.next_le e he (by simp [DOper.ch, h1]) (by omega))
    · have hch' : e.d.ch = false := by simp [DOper.ch, h1]
      have h7 := T.seg.after e he hch'
      rw [show e.d.ph = 0 from by omega] at h7
      have hrun' := (evE_small (by omega) (kind_le _) (T.at_ e he).2.1).2.2 h2
      obtain ⟨c', el', es2, v2, hr2⟩ := alloc_val h1 hrun'
      simp only [Res.val.injEq] at hr2
      have h8 := h7.next
      rw [hr2.2] at h8
      have h8 : e.S.next + 1 ≤ (stateAt es Sf 0).next := h8
      exact ⟨T.seg.next_le e he hch' (by omega), by omega⟩
  · exact Nat.le_trans (List.length_filter_le _ _) (by simp)
end

/-- How a region whose order is open is taken. -/
def depsOf (o : Oper) : List Nat := (o.after.toList.filter (Region.binds .any)).map (·.on)
def phases (ds : List (List Nat)) (cs : List Bool) : List Nat :=
  ds.foldl (fun acc d => acc ++ [d.foldl (fun m k => max m (acc.getD k 0 + if cs.getD k false then 1 else 0)) 0]) []
def dues (ds : List (List Nat)) (cs : List Bool) (ps : List Nat) (m : Nat) : Nat → List Nat
  | 0 => []
  | k + 1 =>
    let r := dues ds cs ps m k
    let i := ds.length - (k + 1)
    (List.range ds.length).foldl (fun x u => if i < u && (ds.getD u []).contains i then min x (if cs.getD u false then ps.getD u 0 else r.getD (u - i - 1) m) else x) m :: r
def compileD (P : Program) (ops : Array Oper) : Option (List DOper × List Nat × Nat) :=
  match ops.toList.mapM (compileOper P ops) with
  | some eos =>
    let ds := ops.toList.map depsOf
    let cs := eos.map fun e => e.op.kind == 3
    let ps := phases ds cs
    let m := (cs.filter id).length
    let us := dues ds cs ps m ds.length
    let all := eos.mapIdx fun i e => (⟨e, ds.getD i [], ps.getD i 0, us.getD i 0⟩ : DOper)
    let L := (List.range (m + 1)).flatMap fun j => ((List.range ops.size).filter fun i => !cs.getD i false && ps.getD i 0 == j) ++ ((List.range ops.size).filter fun i => cs.getD i false && ps.getD i 0 == j)
    some (all, L, m)
  | none => none
theorem mapM_get {α β : Type} {f : α → Option β} : ∀ {l : List α} {l' : List β}, l.mapM f = some l' → l'.length = l.length ∧ ∀ (i : Nat) (x : α), l[i]? = some x → ∃ y, l'[i]? = some y ∧ f x = some y
  | [], l', h => by
    simp only [List.mapM_nil, Option.pure_def, Option.some.injEq] at h
    subst h
    exact ⟨rfl, fun i x hx => by simp at hx⟩
  | a :: l, l', h => by
    simp only [List.mapM_cons, Option.bind_eq_bind, Option.pure_def] at h
    obtain ⟨b, h1, h⟩ := Option.bind_eq_some_iff.mp h
    obtain ⟨bs, h2, h⟩ := Option.bind_eq_some_iff.mp h
    simp only [Option.some.injEq] at h
    subst h
    obtain ⟨i1, i2⟩ := mapM_get h2
    refine ⟨by simp [i1], fun i x hx => ?_⟩
    cases i with
    | zero => simp only [List.getElem?_cons_zero, Option.some.injEq] at hx; subst hx; exact ⟨b, rfl, h1⟩
    | succ i => exact i2 i x (by simpa using hx)
theorem compileD_ok {P : Program} {ops : Array Oper} {all : List DOper} {L : List Nat} {m : Nat} (h : compileD P ops = some (all, L, m)) : DComp P ops all := by
  unfold compileD at h
  split at h
  · rename_i eos heos
    simp only [Option.some.injEq, Prod.mk.injEq] at h
    obtain ⟨rfl, _, _⟩ := h
    obtain ⟨h1, h2⟩ := mapM_get heos
    have get : ∀ (i : Nat) (d : DOper), (eos.mapIdx fun i e => (⟨e, (ops.toList.map depsOf).getD i [], (phases (ops.toList.map depsOf) (eos.map fun e => e.op.kind == 3)).getD i 0, (dues (ops.toList.map depsOf) (eos.map fun e => e.op.kind == 3) (phases (ops.toList.map depsOf) (eos.map fun e => e.op.kind == 3)) ((eos.map fun e => e.op.kind == 3).filter id).length (ops.toList.map depsOf).length).getD i 0⟩ : DOper))[i]? = some d →
        ∃ o, ops[i]? = some o ∧ compileOper P ops o = some d.o ∧ d.deps = depsOf o := by
      intro i d hd
      rw [List.getElem?_mapIdx] at hd
      obtain ⟨e, he, hd⟩ := Option.map_eq_some_iff.mp hd
      have hlt : i < ops.toList.length := by rw [← h1]; exact (List.getElem?_eq_some_iff.mp he).1
      obtain ⟨y, hy, hf⟩ := h2 i _ (List.getElem?_eq_getElem hlt)
      rw [he] at hy
      simp only [Option.some.injEq] at hy
      subst hy
      refine ⟨ops.toList[i], by simp at hlt; simp [hlt], ?_, ?_⟩
      · rw [← hd]; exact hf
      · rw [← hd]
        simp only [List.getD_eq_getElem?_getD, List.getElem?_map, List.getElem?_eq_getElem hlt, Option.map_some, Option.getD_some]
    refine ⟨by simp [h1], fun i o ho => ?_, fun i d hd => ?_⟩
    · have hlt : i < eos.length := by rw [h1]; have := (Array.getElem?_eq_some_iff.mp ho).1; simpa using this
      obtain ⟨d, hd⟩ : ∃ d, (eos.mapIdx fun i e => (⟨e, (ops.toList.map depsOf).getD i [], (phases (ops.toList.map depsOf) (eos.map fun e => e.op.kind == 3)).getD i 0, (dues (ops.toList.map depsOf) (eos.map fun e => e.op.kind == 3) (phases (ops.toList.map depsOf) (eos.map fun e => e.op.kind == 3)) ((eos.map fun e => e.op.kind == 3).filter id).length (ops.toList.map depsOf).length).getD i 0⟩ : DOper))[i]? = some d :=
        ⟨_, List.getElem?_eq_getElem (by simpa using hlt)⟩
      obtain ⟨o', ho', q1, q2⟩ := get i d hd
      rw [ho] at ho'
      simp only [Option.some.injEq] at ho'
      subst ho'
      refine ⟨d, hd, q1, fun e he hb => ?_⟩
      rw [q2]
      exact List.mem_map.mpr ⟨e, List.mem_filter.mpr ⟨by simpa using he, hb⟩, rfl⟩
    · obtain ⟨o, ho, q1, q2⟩ := get i d hd
      refine ⟨o, ho, fun k hk => ?_⟩
      rw [q2] at hk
      obtain ⟨e, he, rfl⟩ := List.mem_map.mp hk
      obtain ⟨he1, he2⟩ := List.mem_filter.mp he
      exact ⟨e, by simpa using he1, he2, rfl⟩
  · cases h
end Go.Proofs.Ythclmjelknibhaa.Ev
