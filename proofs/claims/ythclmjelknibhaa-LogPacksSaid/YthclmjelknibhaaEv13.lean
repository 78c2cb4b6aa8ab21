/- append, whole: ours and the model's. -/
import Derived.Test.YthclmjelknibhaaEv12
namespace Go.Proofs.Ythclmjelknibhaa.Ev
open Go Go.RowKit
set_option linter.unusedVariables false
set_option linter.unusedSimpArgs false
set_option linter.unusedSectionVars false

theorem zeroCells_size (z : Array Value) (n : Nat) : (Builtin.zeroCells z n).size = n * z.size := by simp [Builtin.zeroCells]

theorem app_core (P : Program) {argTypes : Array TypeId} {ty elem : TypeId}
    {inf : TypeInfo} (hi : P.info? elem = some inf) {z : Value} (hz : inf.zero = some z) (hzs : z.cells.size = inf.size)
    {W0 : Fz} {ρ : Ren} {S : AW} {w : World} (h : RelW W0 ρ S w) {s s' x' : Value} (rs : VRel ρ s s') {n : Nat} {nw : List Value} (hlen : nw.length = n * inf.size) {arr arr2 : Array Value} (harr : ARel ρ nw.toArray arr) (harr2 : ARel ρ nw.toArray arr2) (hok : nw.all cellOk = true)
    (HERE : ∀ {base : Option Addr} {l c : Nat} {w' : World}, l + n ≤ c → (putAt base (l * inf.size) arr.toList).run P w = .ok () w' → (Builtin.append_ argTypes ty #[.slice base l c, x']).run P w = .ok (.slice base (l + n) c) w')
    (NEW : ∀ {base : Option Addr} {l c : Nat} {old : Array Value}, (Builtin.firstCells inf.size l (.slice base l c)).run P w.drew = .ok old w.drew → ¬ l + n ≤ c → (2 * (l + n) + 192) * inf.bytes ≤ 281474976710656 → l + n ≤ 9223372036854775807 →
      ∃ cap, l + n ≤ cap ∧ (Builtin.append_ argTypes ty #[.slice base l c, x']).run P w = .ok (.slice (some ⟨w.heap.size, 0, none⟩) (l + n) cap) (w.drew.alloc (.cells (old ++ arr2 ++ Builtin.zeroCells z.cells (cap - (l + n))) elem)))
    {v : Value} {S' : AW} (ev : appV S elem inf.size inf.bytes s n nw = some (v, S')) :
    ∃ ρ' v' w', Grow S.next S'.next ρ ρ' ∧ (Builtin.append_ argTypes ty #[s', x']).run P w = .ok v' w' ∧ RelW W0 ρ' S' w' ∧ VRel ρ' v v' := by
  have hasz : arr.size = n * inf.size := by have := harr.1; simp at this; omega
  have hasz2 : arr2.size = n * inf.size := by have := harr2.1; simp at this; omega
  have hn := h.fresh S.next (Nat.le_refl _)
  cases s with
  | slice a l c =>
    cases a with
    | none =>
      obtain ⟨rfl, rfl, rfl⟩ := rs.nils_inv
      simp only [appV] at ev
      split at ev
      · rename_i h00
        subst h00
        simp only [Option.some.injEq, Prod.mk.injEq] at ev
        obtain ⟨rfl, rfl⟩ := ev
        exact ⟨ρ, _, w, Grow.refl _ ρ, HERE (base := none) (l := 0) (c := 0) (Nat.le_refl _) rfl, h, .nils⟩
      · rename_i hpos
        split at ev
        · rename_i hb
          simp only [Bool.and_eq_true, decide_eq_true_eq] at hb
          simp only [Option.some.injEq, Prod.mk.injEq] at ev
          obtain ⟨rfl, rfl⟩ := ev
          obtain ⟨cap, hcap, hrun⟩ := NEW (base := none) (l := 0) (c := 0) (old := #[]) rfl (by omega) (by simpa using hb.1) (by omega)
          simp only [Nat.zero_add, Array.empty_append] at hrun hcap
          have hsz : (arr2 ++ Builtin.zeroCells z.cells (cap - n)).size = cap * inf.size := by
            rw [Array.size_append, zeroCells_size, hasz2, hzs, ← Nat.add_mul]
            congr 1; omega
          have g := h.drew.new nw (arr2 ++ Builtin.zeroCells z.cells (cap - n)) elem inf.size (0, 0) (Or.inl rfl) (fun i v hi' hb' => by
            obtain ⟨v', f1, f2⟩ := harr2.get (i := i) (v := v) (by simpa using hi')
            exact ⟨v', by rw [Array.getElem?_append_left (Array.getElem?_eq_some_iff.mp f1).1]; exact f1, f2⟩)
          exact ⟨_, _, _, Grow.add _ hn, hrun, g, slice_new (Ren.add_same _ _ _) (Nat.le_refl _) hcap (by rw [hsz]; exact Nat.le_refl _)⟩
        · cases ev
    | some a =>
      obtain ⟨i, o, sp⟩ := a
      cases sp with
      | some _ => simp [appV] at ev
      | none =>
        obtain ⟨p, a', c', hp, hlc, hcc, ha, rfl⟩ := rs.slice_inv
        simp only [appV] at ev
        split at ev
        · rename_i h00
          subst h00
          simp only [Option.some.injEq, Prod.mk.injEq] at ev
          obtain ⟨rfl, rfl⟩ := ev
          have harr0 : arr.toList = [] := by apply List.length_eq_zero_iff.mp; simp [hasz]
          refine ⟨ρ, _, w, Grow.refl _ ρ, HERE (base := some a') (l := l) (c := c') (by omega) (by simp only [putAt, harr0]; rfl), h, ?_⟩
          exact .slice hp hlc hcc ha
        · rename_i hpos
          split at ev
          · cases ev
          · rename_i r hr
            split at ev
            · cases ev
            · rename_i hcond
              simp only [Bool.or_eq_true, Bool.not_eq_true', decide_eq_false_iff_not, not_or, Bool.not_eq_true, Classical.not_not] at hcond
              obtain ⟨⟨hro, hes⟩, hel⟩ := hcond
              have hci := h.cells i p r hp hr
              have hpes : p.es = inf.size := by rw [hci.es, hes]
              obtain ⟨C, F, x1, x2, x3, x4, x5⟩ := hci.row
              split at ev
              · rename_i hfit
                split at ev
                · rename_i hrow
                  simp only [Option.some.injEq, Prod.mk.injEq] at ev
                  obtain ⟨rfl, rfl⟩ := ev
                  obtain ⟨o', rfl, ho, hin⟩ := ha (by omega)
                  have ho2 : ((o' + l * inf.size : Nat) : Int) = ((o + l * inf.size : Nat) : Int) + p.d := by omega
                  obtain ⟨w', hst, hrel⟩ := put_ok P h hr hro hp ho2 harr hok (by rw [hlen]; exact hrow)
                  refine ⟨ρ, _, w', Grow.refl _ ρ, HERE (base := some _) (l := l) (c := c') (by omega) (by simp only [putAt, fit_add]; exact hst), ?_, ?_⟩
                  · rw [hlen] at hrel; exact hrel
                  · exact .slice hp hfit hcc (fun _ => ⟨o', rfl, ho, hin⟩)
                · cases ev
              · rename_i hfit
                split at ev
                · rename_i hb
                  simp only [Bool.and_eq_true, decide_eq_true_eq] at hb
                  obtain ⟨⟨⟨hb1, hb2⟩, hb3⟩, hb4⟩ := hb
                  simp only [Option.some.injEq, Prod.mk.injEq] at ev
                  obtain ⟨rfl, rfl⟩ := ev
                  obtain ⟨m, hm⟩ := Option.isSome_iff_exists.mp hb1
                  by_cases hcap : l + n ≤ c'
                  · obtain ⟨o', rfl, ho, hin⟩ := ha (by omega)
                    have hin' : o' + l * inf.size + n * inf.size ≤ C.size := by
                      have : (l + n) * inf.size ≤ c' * p.es := by rw [hpes]; exact Nat.mul_le_mul_right _ hcap
                      rw [Nat.add_mul] at this
                      omega
                    have hrun := storeCells_ok P p.blk (o' + l * inf.size) r.elem F arr.toList 0 C w x1 (by simp [hasz]; omega) (x4 hro).2.not (harr.one hok)
                    refine ⟨ρ.add S.next p, _, _, Grow.add p hn, HERE (base := some _) (l := l) (c := c') hcap (by simp only [putAt, fit_add]; exact hrun), ?_, ?_⟩
                    · refine h.grow_here hp hr hro o (l * inf.size) nw hb2 x1 ?_ ?_ ?_ (Laid.lay w _ _)
                      · simp [hasz]; omega
                      · intro kk hkk
                        simp only [Nat.add_zero, List.append_assoc, List.getElem?_toArray]
                        rw [List.getElem?_append_left (by simp; omega), List.getElem?_take, if_pos (by omega)]
                        simp
                      · intro k v hk hbad
                        obtain ⟨v', f1, f2⟩ := harr.get (i := k) (v := v) (by simpa using hk)
                        refine ⟨o' + l * inf.size + k, v', by omega, ?_, f2⟩
                        simp only [Nat.add_zero, List.append_assoc, List.getElem?_toArray]
                        have e1 : (C.toList.take (o' + l * inf.size)).length = o' + l * inf.size := by simp; omega
                        have hk' := (Array.getElem?_eq_some_iff.mp f1).1
                        rw [List.getElem?_append_right (by omega), e1, List.getElem?_append_left (by simp; omega), show o' + l * inf.size + k - (o' + l * inf.size) = k from by omega]
                        simpa using f1
                    · exact .slice (Ren.add_same _ _ _) (Nat.le_refl _) hcap (fun _ => ⟨o', rfl, ho, hin⟩)
                  · have hfold : ∃ old, (Builtin.firstCells inf.size l (.slice (some a') l c')).run P w.drew = .ok old w.drew ∧ ARel ρ m.toArray old ∧ old.size = l * inf.size := by
                      by_cases hl0 : l * inf.size = 0
                      · refine ⟨#[], ?_, ?_, by simp [hl0]⟩
                        · simp only [Builtin.firstCells, hl0]; rfl
                        · have : m = [] := List.length_eq_zero_iff.mp (by rw [(rowOk_some hm).1]; exact hl0)
                          subst this
                          exact ⟨rfl, fun i h => by simp at h⟩
                      · have hl1 : 0 < l := by
                          rcases Nat.eq_zero_or_pos l with e | e
                          · subst e; simp at hl0
                          · exact e
                        obtain ⟨o', rfl, ho, hin⟩ := ha (by omega)
                        obtain ⟨l', g1, g2, g3⟩ := raw_row_ok h.drew hr hm hp ho
                        have := loadCells_ok (P := P) g3
                        refine ⟨l'.toArray, ?_, g2, by simpa using g1⟩
                        simp only [Builtin.firstCells]
                        rw [← g1]; exact this
                    obtain ⟨old, hold, holdr, holdsz⟩ := hfold
                    obtain ⟨cap, hcap', hrun⟩ := NEW (base := some a') (l := l) (c := c') (old := old) hold hcap hb3 (by omega)
                    have hsz : (old ++ arr2 ++ Builtin.zeroCells z.cells (cap - (l + n))).size = cap * inf.size := by
                      rw [Array.size_append, Array.size_append, zeroCells_size, hasz2, holdsz, hzs, ← Nat.add_mul, ← Nat.add_mul]
                      congr 1; omega
                    have g := h.drew.grow_new hp hr hro o (l * inf.size) nw hb2 (old ++ arr2 ++ Builtin.zeroCells z.cells (cap - (l + n))) (0, 0) (Or.inl rfl) (fun k v hk hv hbad => by
                        have hmk : m[k]? = some v := by
                          have : ∀ m : List Value, m = (r.c.drop o).take (l * inf.size) → m[k]? = r.c[o + k]? := by
                            rintro m rfl
                            rw [List.getElem?_take, if_pos hk, List.getElem?_drop]
                          rw [this m (rowOk_some hm).2.1]; exact hv
                        obtain ⟨v', f1, f2⟩ := holdr.get (i := k) (v := v) (by simpa using hmk)
                        refine ⟨v', ?_, f2⟩
                        rw [Array.append_assoc, Array.getElem?_append_left (Array.getElem?_eq_some_iff.mp f1).1]; exact f1)
                      (fun k v hk hbad => by
                        obtain ⟨v', f1, f2⟩ := harr2.get (i := k) (v := v) (by simpa using hk)
                        refine ⟨v', ?_, f2⟩
                        have hk' := (Array.getElem?_eq_some_iff.mp f1).1
                        rw [Array.append_assoc, Array.getElem?_append_right (by omega), holdsz, Array.getElem?_append_left (by omega), show l * inf.size + k - l * inf.size = k from by omega]
                        exact f1)
                    rw [hel] at g
                    refine ⟨_, _, _, Grow.add _ hn, hrun, g, ?_⟩
                    refine .slice (Ren.add_same _ _ _) (Nat.le_refl _) hcap' (fun _ => ⟨0, rfl, by simp; omega, ?_⟩)
                    simp only [hsz, hes]; omega
                · cases ev
  | _ => simp [appV] at ev

theorem app_ok (P : Program) {argTypes : Array TypeId} {ty sT xT elem : TypeId} (h0 : argTypes[0]? = some sT) (h1 : argTypes[1]? = some xT) (hs : P.underlying sT = some (.slice elem))
    {d : TypeDesc} (hx : P.underlying xT = some d) (hd : isIntT d = false) {inf : TypeInfo} (hi : P.info? elem = some inf) {z : Value} (hz : inf.zero = some z) (hzs : z.cells.size = inf.size)
    {W0 : Fz} {ρ : Ren} {S : AW} {w : World} (h : RelW W0 ρ S w) {s s' x x' : Value} (rs : VRel ρ s s') (rx : VRel ρ x x') {n : Nat} {nw : List Value} (e : srcCells S inf.size x = some (n, nw)) (hok : nw.all cellOk = true)
    {v : Value} {S' : AW} (ev : appV S elem inf.size inf.bytes s n nw = some (v, S')) :
    ∃ ρ' v' w', Grow S.next S'.next ρ ρ' ∧ (Builtin.append_ argTypes ty #[s', x']).run P w = .ok v' w' ∧ RelW W0 ρ' S' w' ∧ VRel ρ' v v' := by
  obtain ⟨hl, hlen, arr, hf, harr⟩ := src_ok P h rx e
  obtain ⟨_, _, arr2, hf2, harr2⟩ := src_ok P h.drew rx e
  exact app_core P hi hz hzs h rs hlen harr harr2 hok (fun hc hst => append_here P h0 h1 hs hx hd hi hl hf hc hst) (fun hold hc hb hnb => append_new P h0 h1 hs hx hd hi hz hl hf2 hold hc hb hnb) ev
theorem zeros_rel {z : Value} {inf : TypeInfo} (hzs : z.cells.size = inf.size) (hsc : z.cells.toList.all scalar = true) (ρ : Ren) (n : Nat) : ((List.replicate n z.cells.toList).flatten).length = n * inf.size ∧ ARel ρ ((List.replicate n z.cells.toList).flatten).toArray (Builtin.zeroCells z.cells n) := by
  have e : (Builtin.zeroCells z.cells n).toList = (List.replicate n z.cells.toList).flatten := by
    have := zero_row (n := n) hzs
    rw [← hzs] at this
    exact this
  refine ⟨by rw [flatten_rep]; simp [hzs], ?_⟩
  rw [← e]
  simpa using scalars_rel (ρ := ρ) (l := (Builtin.zeroCells z.cells n).toList) (by rw [e]; exact all_flatten hsc _)
/-- Noughts are put behind. -/
theorem appz_ok (P : Program) {argTypes : Array TypeId} {ty sT xT elem : TypeId} (h0 : argTypes[0]? = some sT) (h1 : argTypes[1]? = some xT) (hs : P.underlying sT = some (.slice elem))
    {kx : IntKind} (hx : P.underlying xT = some (.int kx)) {inf : TypeInfo} (hi : P.info? elem = some inf) {z : Value} (hz : inf.zero = some z) (hzs : z.cells.size = inf.size) (hsc : z.cells.toList.all scalar = true)
    {W0 : Fz} {ρ : Ren} {S : AW} {w : World} (h : RelW W0 ρ S w) {s s' : Value} (rs : VRel ρ s s') {n : Nat} (hn : n ≤ 140737488355328) (hb : n * inf.bytes ≤ 281474976710656) (hok : ((List.replicate n z.cells.toList).flatten).all cellOk = true)
    {v : Value} {S' : AW} (ev : appV S elem inf.size inf.bytes s n ((List.replicate n z.cells.toList).flatten) = some (v, S')) :
    ∃ ρ' v' w', Grow S.next S'.next ρ ρ' ∧ (Builtin.append_ argTypes ty #[s', .int .i64 n]).run P w = .ok v' w' ∧ RelW W0 ρ' S' w' ∧ VRel ρ' v v' := by
  obtain ⟨k1, k2⟩ := zeros_rel hzs hsc ρ n
  exact app_core P hi hz hzs h rs k1 k2 k2 hok (fun hc hst => append_here_z P h0 h1 hs hx hi hz hzs hn hb hc hst) (fun hold hc hb' hnb => append_new_z P h0 h1 hs hx hi hz hzs hn hb hold hc hb' hnb) ev

theorem cut_rel {ρ : Ren} {k : Nat} {x x1 x' : Value} (hx : VRel ρ x x') (e : cutS k x = some x1) : ∃ x1', VRel ρ x1 x1' ∧ ∀ (P : Program) (w : World) (n : Nat),
    ((Builtin.lenOf x1').run P w = .ok n w → ∃ m, (Builtin.lenOf x').run P w = .ok m w ∧ Nat.min m k = n) ∧ ∀ size, (Builtin.firstCells size n x1').run P w = (Builtin.firstCells size n x').run P w := by
  cases x with
  | string s =>
    simp only [cutS] at e
    split at e
    · rename_i hs
      simp only [Option.some.injEq] at e
      subst e
      have := hx.string_inv
      subst this
      refine ⟨_, hx, fun P w n => ⟨fun hn => ⟨s.size, rfl, ?_⟩, fun size => rfl⟩⟩
      have : n = s.size := by
        have : (Result.ok s.size w : Result Nat) = .ok n w := hn
        simp only [Result.ok.injEq] at this
        exact this.1.symm
      rw [this]
      exact Nat.min_eq_left hs
    · cases e
  | slice a l c =>
    simp only [cutS, Option.some.injEq] at e
    subst e
    have key : ∀ (a' : Option Addr) (c' : Nat), x' = .slice a' l c' → VRel ρ (.slice a (min l k) c) (.slice a' (min l k) c') → ∃ x1', VRel ρ (.slice a (min l k) c) x1' ∧ ∀ (P : Program) (w : World) (n : Nat),
        ((Builtin.lenOf x1').run P w = .ok n w → ∃ m, (Builtin.lenOf x').run P w = .ok m w ∧ Nat.min m k = n) ∧ ∀ size, (Builtin.firstCells size n x1').run P w = (Builtin.firstCells size n x').run P w := by
      rintro a' c' rfl hv
      refine ⟨_, hv, fun P w n => ⟨fun hn => ⟨l, rfl, ?_⟩, fun size => ?_⟩⟩
      · have : (Result.ok (min l k) w : Result Nat) = .ok n w := hn
        simp only [Result.ok.injEq] at this
        exact this.1
      · cases a' <;> rfl
    cases a with
    | none =>
      obtain ⟨rfl, rfl, rfl⟩ := hx.nils_inv
      exact key none 0 rfl (by rw [Nat.zero_min]; exact .nils)
    | some a =>
      obtain ⟨i, o, sp⟩ := a
      cases sp with
      | some _ => cases hx
      | none =>
        obtain ⟨p, a', c', hp, hlc, hcc, ha, rfl⟩ := hx.slice_inv
        exact key (some a') c' rfl (.slice hp (by omega) hcc ha)
  | _ => simp [cutS] at e

theorem cpy_ok (P : Program) {argTypes : Array TypeId} {ty dT elem : TypeId} (h0 : argTypes[0]? = some dT) (hs : P.underlying dT = some (.slice elem)) {inf : TypeInfo} (hi : P.info? elem = some inf)
    {W0 : Fz} {ρ : Ren} {S : AW} {w : World} (h : RelW W0 ρ S w) {d d' s s' : Value} (rd : VRel ρ d d') (rs : VRel ρ s s') {n : Nat} {S' : AW} (e : cpyV S inf.size d s = some (n, S')) :
    ∃ w', (Builtin.copy_ argTypes ty #[d', s']).run P w = .ok (.int .i64 n) w' ∧ RelW W0 ρ S' w' ∧ S'.next = S.next := by
  unfold cpyV at e
  split at e
  · rename_i base dl dc
    split at e
    · cases e
    · rename_i x hcut
      split at e
      · cases e
      · rename_i n1 nw hsrc
        obtain ⟨x', hx', hP⟩ := cut_rel rs hcut
        obtain ⟨hl, hlen, arr, hf, harr⟩ := src_ok P h hx' hsrc
        obtain ⟨m, hm, hmin⟩ := (hP P w n1).1 hl
        rw [(hP P w n1).2] at hf
        obtain ⟨base', dc', hd'⟩ : ∃ base' dc', d' = .slice base' dl dc' := by
          cases rd with
          | nils => exact ⟨_, _, rfl⟩
          | slice => exact ⟨_, _, rfl⟩
        subst hd'
        have run : ∀ w', (match base' with | some a => storeCells a arr.toList | none => pure ()).run P w = .ok () w' → (Builtin.copy_ argTypes ty #[.slice base' dl dc', s']).run P w = .ok (.int .i64 n1) w' := by
          intro w' hst
          cases base' with
          | none =>
            simp only [Sem.run_pure, Result.ok.injEq, true_and] at hst
            subst hst
            simp only [Builtin.copy_, h0, List.getElem?_toArray, List.getElem?_cons_zero, List.getElem?_cons_succ, Sem.run_bind, run_underlying hs, Result.andThen_ok, hm, hmin, run_size w hi, hf, Sem.run_pure, goInt]
          | some a =>
            simp only at hst
            simp only [Builtin.copy_, h0, List.getElem?_toArray, List.getElem?_cons_zero, List.getElem?_cons_succ, Sem.run_bind, run_underlying hs, Result.andThen_ok, hm, hmin, run_size w hi, hf, hst, Sem.run_pure, goInt]
        split at e
        · rename_i hnw
          simp only [Option.some.injEq, Prod.mk.injEq] at e
          obtain ⟨rfl, rfl⟩ := e
          have : arr.toList = [] := by
            have h1 := harr.1
            rw [hnw] at h1
            apply List.length_eq_zero_iff.mp
            simpa using h1.symm
          refine ⟨w, run w ?_, h, rfl⟩
          rw [this]
          cases base' <;> rfl
        · rename_i hnw
          split at e
          · rename_i i o
            split at e
            · rename_i r hr
              split at e
              · rename_i hc
                simp only [Option.some.injEq, Prod.mk.injEq] at e
                obtain ⟨rfl, rfl⟩ := e
                simp only [Bool.and_eq_true, Bool.not_eq_true'] at hc
                obtain ⟨⟨hro, hok⟩, hrow⟩ := hc
                obtain ⟨p, a', c', hp, hlc, hcc, ha, hde⟩ := rd.slice_inv
                simp only [Value.slice.injEq] at hde
                obtain ⟨rfl, _, rfl⟩ := hde
                have hdl : 0 < dl := by
                  have h1 : n1 ≤ dl := by rw [← hmin]; exact Nat.min_le_right _ _
                  have h2 : 0 < nw.length := List.length_pos_iff.mpr hnw
                  rw [hlen] at h2
                  have : 0 < n1 := Nat.pos_of_mul_pos_right h2
                  omega
                obtain ⟨o', rfl, ho, hin⟩ := ha (by omega)
                obtain ⟨w', hst, hrel⟩ := put_ok P h hr hro hp ho harr hok hrow
                exact ⟨w', run w' hst, hrel, rfl⟩
              · cases e
            · cases e
          · cases e
  · cases e
end Go.Proofs.Ythclmjelknibhaa.Ev
