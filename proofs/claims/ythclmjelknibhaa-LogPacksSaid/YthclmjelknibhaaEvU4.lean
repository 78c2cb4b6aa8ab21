/- Memory's operations in the plain form. -/
import Derived.Test.YthclmjelknibhaaEvU3
namespace Go.Proofs.Ythclmjelknibhaa.Ev
open Go Go.RowKit
set_option linter.unusedVariables false
set_option linter.constructorNameAsVariable false
set_option linter.unusedSimpArgs false
set_option linter.unusedSectionVars false

theorem toVs_append (a b : List FV) : toVs (a ++ b) = toVs a ++ toVs b := by simp only [toVs_map, List.map_append]
theorem RowOk.raw {S : AW} {i : Nat} {c : List FV} {e s m : Nat} {o : Bool} (h : RowOk S i c e s m o) : ∃ g, S.raw i = some ⟨toVs c, e, s, m, g, o⟩ := by
  obtain ⟨⟨c', e', s', m', g', o'⟩, h1, rfl, rfl, rfl, rfl, rfl⟩ := h
  exact ⟨g', h1⟩
/-- A new row. -/
theorem UR.new {F : FAW} {S : AW} (h : UR F S) (c : List FV) (elem es : Nat) : UR ⟨.cell F.x c elem es F.x false F.h, .fam F.x false c.length F.fs, Nat.succ F.x⟩ (S.new (toVs c) elem es) := by
  have hn := h.next
  have hraw : ∀ i c' e s m o, RowOk S i c' e s m o → i < S.next → RowOk (S.new (toVs c) elem es) i c' e s m o := by
    intro i c' e s m o hr hi
    obtain ⟨g, hr⟩ := hr.raw
    obtain ⟨h1, h2⟩ := AW.raw_some hr
    refine ⟨_, AW.raw_of (by rw [AW.obj_new, if_neg (by omega)]; exact h1) ?_, rfl, rfl, rfl, rfl, rfl⟩
    rw [AW.fam_new]
    split
    · exact Nat.zero_le _
    · exact h2
  refine ⟨by show F.x + 1 = S.next + 1; omega, ⟨?_, by show F.x < S.next + 1; omega, h.h.fresh (by omega), h.h.mono (Nat.le_succ _) hraw fun i es' hm hi => ?_⟩, ⟨⟨0, ?_⟩, by show F.x < S.next + 1; omega, h.f.fresh (by omega), h.f.mono (Nat.le_succ _) fun i m e hm hi => ?_⟩⟩
  · refine ⟨_, by rw [hn]; exact AW.raw_new_same S (toVs c) elem es, rfl, rfl, rfl, by rw [hn], rfl⟩
  · rw [AW.mapv_new _ _ _ _ (by omega)]; exact hm
  · rw [AW.fam_new, if_pos (by omega), toVs_length]
  · obtain ⟨g, hg⟩ := hm
    exact ⟨g, by rw [AW.fam_new, if_neg (by omega)]; exact hg⟩
theorem raw_put_fwd {S : AW} {i j : Nat} {r s : Raw} (c : List Value) (hj : j ≠ i) (h : S.raw j = some s) (hf : s.fam ≠ r.fam ∨ (S.fam r.fam).multi = false) : (S.put i r c).raw j = some s := by
  obtain ⟨h1, h2⟩ := AW.raw_some h
  refine AW.raw_of (by rw [AW.obj_put, if_neg hj]; exact h1) ?_
  rw [AW.fam_put]
  split
  · rename_i e
    rcases hf with hf | hf
    · exact absurd e hf
    · rw [hf]
      simp only [Bool.false_eq_true, if_false]
      rw [← e]; exact h2
  · exact h2
theorem mapv_put {S : AW} {i j : Nat} {r : Raw} (c : List Value) (hj : j ≠ i) {es : List (Value × Value)} (h : S.mapv j = some es) : (S.put i r c).mapv j = some es :=
  AW.mapv_of (by rw [AW.obj_put, if_neg hj]; exact AW.mapv_some h)
theorem raw_no_map {S : AW} {i : Nat} {r : Raw} (h : S.raw i = some r) (es : List (Value × Value)) : S.mapv i ≠ some es := by
  intro hm
  have h1 := (AW.raw_some h).1
  rw [AW.mapv_some hm] at h1
  cases h1
/-- A row told anew. -/
noncomputable def putU (F : FAW) (i fam : Nat) (d : List FV) (f : FAW → RU) : RU :=
  findF F.fs fam fun mu ex => Bool.rec (motive := fun _ => RU)
    (cn (Nat.ble (lenU d) ex) (setH i d F.h fun h => f ⟨h, F.fs, F.x⟩) (fN (lenU d) fun n => setH i d F.h fun h => setF fam false n F.fs fun fs => f ⟨h, fs, F.x⟩))
    (fN (lenU d) fun n => setH i d (lessH fam i F.h) fun h => setF fam false (Bool.rec (motive := fun _ => Nat) n ex (Nat.ble n ex)) F.fs fun fs => f ⟨h, fs, F.x⟩) mu
theorem putU_inv {F R : FAW} {S : AW} (h : UR F S) {i : Nat} {c d : List FV} {e s m : Nat} {o : Bool} {f : FAW → RU} {v : FV} {g : Nat} (hr : S.raw i = some ⟨toVs c, e, s, m, g, o⟩) (hf : putU F i m d f = .ok v R) :
    ∃ F', UR F' (S.put i ⟨toVs c, e, s, m, g, o⟩ (toVs d)) ∧ f F' = .ok v R := by
  obtain ⟨mu, ex, ⟨g0, hfam⟩, h2⟩ := findF_inv h.f hf
  have hsame : ∀ c' e' s' m' o', RowOk S i c' e' s' m' o' → RowOk (S.put i ⟨toVs c, e, s, m, g, o⟩ (toVs d)) i d e' s' m' o' := by
    intro c' e' s' m' o' hr'
    obtain ⟨g', hr'⟩ := hr'.raw
    rw [hr] at hr'
    simp only [Option.some.injEq, Raw.mk.injEq] at hr'
    obtain ⟨_, rfl, rfl, rfl, _, rfl⟩ := hr'
    exact ⟨_, AW.raw_put_same hr (toVs d), rfl, rfl, rfl, rfl, rfl⟩
  have hmap : ∀ j es, j ≠ i → S.mapv j = some es → (S.put i ⟨toVs c, e, s, m, g, o⟩ (toVs d)).mapv j = some es := fun j es hj hm => mapv_put _ hj hm
  have hno := raw_no_map hr
  cases mu with
  | false =>
    have hoth : ∀ j c' e' s' m' o', j ≠ i → RowOk S j c' e' s' m' o' → RowOk (S.put i ⟨toVs c, e, s, m, g, o⟩ (toVs d)) j c' e' s' m' o' := by
      intro j c' e' s' m' o' hj hr'
      obtain ⟨g', hr'⟩ := hr'.raw
      exact ⟨_, raw_put_fwd _ hj hr' (.inr (by show (S.fam m).multi = false; rw [hfam])), rfl, rfl, rfl, rfl, rfl⟩
    have h2 : cn (Nat.ble (lenU d) ex) (setH i d F.h fun h => f ⟨h, F.fs, F.x⟩) (fN (lenU d) fun n => setH i d F.h fun h => setF m false n F.fs fun fs => f ⟨h, fs, F.x⟩) = .ok v R := h2
    rw [bleU, lenU_eq] at h2
    by_cases hle : d.length ≤ ex
    · simp only [hle, decide_true, cn_true] at h2
      obtain ⟨l', a1, _, a3⟩ := setH_inv (S := S) (S' := S.put i ⟨toVs c, e, s, m, g, o⟩ (toVs d)) rfl (fun _ _ => True) hsame (fun j c e s m o hj _ hr => hoth j c e s m o hj hr) hmap hno h.h (allH_true _) h2
      refine ⟨⟨l', F.fs, F.x⟩, ⟨h.next, a1, FOk.mono (S := S) (S' := S.put i ⟨toVs c, e, s, m, g, o⟩ (toVs d)) (Nat.le_refl _) h.f fun j m' e' hm _ => ?_⟩, a3⟩
      obtain ⟨g1, hg1⟩ := hm
      by_cases hjm : j = m
      · subst hjm
        rw [hfam] at hg1
        simp only [Fam.mk.injEq] at hg1
        obtain ⟨rfl, rfl, rfl⟩ := hg1
        refine ⟨g0, ?_⟩
        rw [AW.fam_put_same]
        simp only [hfam, Bool.false_eq_true, if_false, toVs_length]
        congr 1
        omega
      · exact ⟨g1, by rw [AW.fam_put_other _ _ _ _ hjm]; exact hg1⟩
    · simp only [hle, decide_false, cn_false] at h2
      rw [fN_eq] at h2
      obtain ⟨l', a1, _, a3⟩ := setH_inv (S := S) (S' := S.put i ⟨toVs c, e, s, m, g, o⟩ (toVs d)) rfl (fun _ _ => True) hsame (fun j c e s m o hj _ hr => hoth j c e s m o hj hr) hmap hno h.h (allH_true _) h2
      obtain ⟨fs', b1, _, b3⟩ := setF_inv (S := S) (S' := S.put i ⟨toVs c, e, s, m, g, o⟩ (toVs d)) (Nat.le_refl _) (i := m) (mu := false) (ex := d.length) ⟨g0, by
        rw [AW.fam_put_same]
        simp only [hfam, Bool.false_eq_true, if_false, toVs_length]
        congr 1
        omega⟩ (fun j m' e' hjm hm => by
          obtain ⟨g1, hg1⟩ := hm
          exact ⟨g1, by rw [AW.fam_put_other _ _ _ _ hjm]; exact hg1⟩) h.f a3
      exact ⟨⟨l', fs', F.x⟩, ⟨h.next, a1, b1⟩, b3⟩
  | true =>
    have h2 : (fN (lenU d) fun n => setH i d (lessH m i F.h) fun h => setF m false (Bool.rec (motive := fun _ => Nat) n ex (Nat.ble n ex)) F.fs fun fs => f ⟨h, fs, F.x⟩) = .ok v R := h2
    rw [fN_eq, lenU_eq] at h2
    obtain ⟨q1, q2, q3⟩ := lessH_ok (fm := m) (i := i) h.h
    obtain ⟨l', a1, _, a3⟩ := setH_inv (S := S) (S' := S.put i ⟨toVs c, e, s, m, g, o⟩ (toVs d)) rfl (fun j m' => j = i ∨ m' ≠ m) hsame (fun j c' e' s' m' o' hj hp hr' => by
      obtain ⟨g', hr'⟩ := hr'.raw
      have hm' : m' ≠ m := by
        rcases hp with hp | hp
        · exact absurd hp hj
        · exact hp
      exact ⟨_, raw_put_fwd _ hj hr' (.inl hm'), rfl, rfl, rfl, rfl, rfl⟩) hmap hno q1 q3 h2
    obtain ⟨fs', b1, _, b3⟩ := setF_inv (S := S) (S' := S.put i ⟨toVs c, e, s, m, g, o⟩ (toVs d)) (Nat.le_refl _) (i := m) (mu := false) (ex := Bool.rec (motive := fun _ => Nat) d.length ex (Nat.ble d.length ex)) ⟨g0 + 1, by
      rw [AW.fam_put_same]
      simp only [hfam, if_true, toVs_length]
      congr 1
      rw [bleU]
      by_cases hle : d.length ≤ ex
      · simp only [hle, decide_true]; omega
      · simp only [hle, decide_false]; omega⟩ (fun j m' e' hjm hm => by
        obtain ⟨g1, hg1⟩ := hm
        exact ⟨g1, by rw [AW.fam_put_other _ _ _ _ hjm]; exact hg1⟩) h.f a3
    exact ⟨⟨l', fs', F.x⟩, ⟨h.next, a1, b1⟩, b3⟩

section
variable {C : Callee} {S : AW} {F R : FAW} {f : KU} {v : FV}
variable {ρ : Operand → Value} {e : Operand → FV} (he : ∀ o, ρ o = toV (e o))
include he
noncomputable def uSlVL (size i o n c : Nat) (lo hi mx : Option FV) (F : FAW) (f : KU) : RU :=
  findH F.h i fun _ _ es _ _ => cn (Nat.beq es size) (optU lo 0 fun l => optU hi n fun h => optU mx c fun m =>
    cn (an (Nat.ble l h) (an (Nat.ble h m) (an (Nat.ble m c) (nt (an mx.isSome hi.isNone))))) (fN (Nat.add o (Nat.mul l size)) fun o => fN (Nat.sub h l) fun n => fN (Nat.sub m l) fun c => f (.l i o n c) F) .no) .no
noncomputable def uSlVN (lo hi mx : Option FV) (F : FAW) (f : KU) : RU :=
  optU lo 0 fun l => optU hi 0 fun h => optU mx 0 fun m => cn (an (Nat.ble l h) (an (Nat.ble h m) (an (Nat.ble m 0) (nt (an mx.isSome hi.isNone))))) (f .nl F) .no
noncomputable def uSlV (size : Nat) (a : FV) (lo hi mx : Option FV) (F : FAW) (f : KU) : RU :=
  eL a (fun i o n c => uSlVL size i o n c lo hi mx F f) (uSlVN lo hi mx F f) (fun _ => .no) (fun _ => .no) .no
omit he in
theorem cutB_ok {n c l hh m : Nat} {jl jh jm : Option Int} {hi mx : Option FV} (a2 : jl.getD ((0 : Nat) : Int) = (l : Int)) (b2 : jh.getD (n : Int) = (hh : Int)) (c2 : jm.getD (c : Int) = (m : Int)) (b4 : jh = none ↔ hi = none) (c4 : jm = none ↔ mx = none)
    (h : an (Nat.ble l hh) (an (Nat.ble hh m) (an (Nat.ble m c) (nt (an mx.isSome hi.isNone)))) = true) : cutB n c jl jh jm = some (l, hh, m) := by
  simp only [an_eq, nt_eq, Bool.and_eq_true, Bool.not_eq_true', bleU, decide_eq_true_eq] at h
  obtain ⟨d1, d2, d3, d4⟩ := h
  have d5 : (jm.isSome && jh.isNone) = false := by
    cases hi with
    | some v =>
      have : jh ≠ none := fun e => by simpa using b4.mp e
      cases jh with
      | none => exact absurd rfl this
      | some _ => simp
    | none =>
      have hm : mx = none := by
        cases mx with
        | none => rfl
        | some v => simp at d4
      have := c4.mpr hm
      rw [this]; rfl
  unfold cutB
  rw [d5]
  simp only [Bool.false_eq_true, if_false]
  have a2' : jl.getD 0 = (l : Int) := a2
  rw [a2', b2, c2, if_pos (by omega)]
  simp
theorem uSlV_inv (h : UR F S) {size : Nat} {a : Operand} {lo hi mx : Option Operand} (hf : uSlV size (e a) (lo.map e) (hi.map e) (mx.map e) F f = .ok v R) : Does C S (rSlV ρ S size a lo hi mx) f v R := by
  unfold rSlV
  rw [he, opt_eq he, opt_eq he, opt_eq he]
  generalize e a = p at hf ⊢
  generalize lo.map e = lo at hf ⊢
  generalize hi.map e = hi at hf ⊢
  generalize mx.map e = mx at hf ⊢
  cases p <;> first
    | (cases hf; done)
    | skip
  · rename_i i o n c
    obtain ⟨cc, el, es, fm, ro, hr, h2⟩ := findH_inv h.h (show uSlVL size i o n c lo hi mx F f = .ok v R from hf)
    obtain ⟨h3, h4⟩ := cn_inv h2
    rw [beqU, decide_eq_true_eq] at h3
    obtain ⟨jl, a1, l, a2, h5, _⟩ := optU_inv h4
    obtain ⟨jh, b1, hh, b2, h6, b4⟩ := optU_inv h5
    obtain ⟨jm, c1, m, c2, h7, c4⟩ := optU_inv h6
    obtain ⟨h8, h9⟩ := cn_inv h7
    simp only [fN_eq] at h9
    obtain ⟨g, hr⟩ := hr.raw
    simp only [toV, a1, b1, c1, hr, if_pos h3]
    rw [cutB_ok a2 b2 c2 b4 c4 h8]
    exact does_val h (w := .l i (Nat.add o (Nat.mul l size)) (Nat.sub hh l) (Nat.sub m l)) (by simp only [toV]; rfl) h9
  · have hf : uSlVN lo hi mx F f = .ok v R := hf
    obtain ⟨jl, a1, l, a2, h5, _⟩ := optU_inv hf
    obtain ⟨jh, b1, hh, b2, h6, b4⟩ := optU_inv h5
    obtain ⟨jm, c1, m, c2, h7, c4⟩ := optU_inv h6
    obtain ⟨h8, h9⟩ := cn_inv h7
    simp only [toV, a1, b1, c1]
    rw [cutB_ok a2 b2 c2 b4 c4 h8]
    exact does_val h (w := .nl) (by simp only [toV]) h9
noncomputable def uNilc (a : FV) (F : FAW) (f : KU) : RU :=
  FV.rec (motive_1 := fun _ => RU) (motive_2 := fun _ => Unit) (fun _ => .no) (fun _ => .no) (fun _ _ => .no) (fun _ => .no) (fun _ => .no) (fun _ _ => f a F) (fun _ _ _ _ => .no) (fun _ => .no) .no .no .no .no (fun _ _ _ _ _ => f a F) (fun _ _ => .no) (fun _ _ => .no) .no (fun _ => .no) () (fun _ _ _ _ => ()) a
theorem uNilc_inv (h : UR F S) {a : Operand} (hf : uNilc (e a) F f = .ok v R) : Does C S (rNilc ρ S a) f v R := by
  unfold rNilc
  rw [he]
  generalize e a = p at hf ⊢
  cases p <;> first
    | (cases hf; done)
    | skip
  · rename_i i o
    simp only [toV]
    exact does_val h (w := .p i o) (by simp only [toV]) hf
  · rename_i g a c
    simp only [toV]
    exact does_val h (w := .f g a c) (by simp only [toV]) hf
/-- A row's end is marked. -/
noncomputable def uMark (a : FV) (F : FAW) (f : KU) : RU := eL a (fun i _ _ c => findH F.h i fun _ _ _ _ ro => cn (an (nt ro) (Nat.ble 1 c)) (f a F) .no) .no (fun _ => .no) (fun _ => .no) .no
theorem uMark_inv (h : UR F S) {a : Operand} (hf : uMark (e a) F f = .ok v R) : Does C S (rMark ρ S a) f v R := by
  unfold rMark
  rw [he]
  generalize e a = p at hf ⊢
  cases p <;> first
    | (cases hf; done)
    | skip
  rename_i i o n c
  obtain ⟨c', el, es, fm, ro, hr, h2⟩ := findH_inv h.h (show findH F.h i _ = .ok v R from hf)
  obtain ⟨g, hr⟩ := hr.raw
  obtain ⟨h3, h4⟩ := cn_inv h2
  simp only [an_eq, nt_eq, Bool.and_eq_true, Bool.not_eq_true', bleU, decide_eq_true_eq] at h3
  obtain ⟨rfl, h3⟩ := h3
  simp only [toV, hr, show (false = false ∧ 0 < c) from ⟨rfl, h3⟩, and_self, if_true]
  exact does_val h (w := .l i o n c) (by simp only [toV]) h4
noncomputable def uCapn (a : FV) (F : FAW) (f : KU) : RU := eL a (fun _ _ _ _ => .no) (f (.n 0) F) (fun _ => .no) (fun _ => .no) .no
theorem uCapn_inv (h : UR F S) {a : Operand} (hf : uCapn (e a) F f = .ok v R) : Does C S (rCapn ρ S a) f v R := by
  unfold rCapn
  rw [he]
  generalize e a = p at hf ⊢
  cases p <;> first
    | (cases hf; done)
    | skip
  simp only [toV]
  exact does_val h (w := .n 0) (by simp only [toV]; rfl) hf
noncomputable def uLen (str : Bool) (a : FV) (F : FAW) (f : KU) : RU :=
  eL a (fun _ _ n _ => cn str .no (f (.n n) F)) (cn str .no (f (.n 0) F)) (fun s => cn str (fN (lenU s) fun n => f (.n n) F) .no) (fun _ => .no) .no
theorem uLen_inv (h : UR F S) {str : Bool} {a : Operand} (hf : uLen str (e a) F f = .ok v R) : Does C S (rLen ρ S str a) f v R := by
  unfold rLen
  rw [he]
  generalize e a = p at hf ⊢
  cases p <;> first
    | (cases hf; done)
    | skip
  · rename_i s
    obtain ⟨h1, h2⟩ := cn_inv (show cn str (fN (lenU s) fun n => f (.n n) F) .no = .ok v R from hf)
    rw [fN_eq, lenU_eq] at h2
    subst h1
    simp only [toV]
    exact does_val h (w := .n s.length) (by simp only [toV, ba_lenU]; rfl) h2
  · rename_i i o n c
    cases str with
    | true => cases hf
    | false =>
      simp only [toV]
      exact does_val h (w := .n n) (by simp only [toV]; rfl) hf
  · cases str with
    | true => cases hf
    | false =>
      simp only [toV]
      exact does_val h (w := .n 0) (by simp only [toV]; rfl) hf
/-- So many cells that may be read. -/
noncomputable def rowU (l : List FV) : Nat → (List FV → RU) → RU :=
  List.rec (motive := fun _ => Nat → (List FV → RU) → RU) (fun n f => Nat.rec (motive := fun _ => RU) (f []) (fun _ _ => .no) n) (fun a _ ih n f => Nat.rec (motive := fun _ => RU) (f []) (fun m _ => eX a (ih m fun r => f (a :: r))) n) l
omit he in
theorem rowU_inv : ∀ {l : List FV} {n : Nat} {f : List FV → RU}, rowU l n f = .ok v R → n ≤ l.length ∧ ((toVs l).take n).all (fun v => !isBad v) = true ∧ f (l.take n) = .ok v R
  | [], 0, f, h => ⟨Nat.le_refl _, by simp, h⟩
  | [], n + 1, f, h => by cases h
  | a :: l, 0, f, h => ⟨Nat.zero_le _, by simp, h⟩
  | a :: l, n + 1, f, h => by
    obtain ⟨h1, h2⟩ := eX_inv (show eX a (rowU l n fun r => f (a :: r)) = .ok v R from h)
    obtain ⟨h3, h4, h5⟩ := rowU_inv h2
    exact ⟨by simp only [List.length_cons]; omega, by simp only [toVs, List.take_succ_cons, List.all_cons, h1, h4]; rfl, by simpa using h5⟩
noncomputable def rowAtU (l : List FV) (o n : Nat) (f : List FV → RU) : RU := dropU l o fun r => rowU r n f
omit he in
theorem rowAtU_inv {l : List FV} {o n : Nat} {f : List FV → RU} (h : rowAtU l o n f = .ok v R) : ∃ m, rowOk (toVs l) o n = some (toVs m) ∧ m = (l.drop o).take n ∧ m.length = n ∧ o + n ≤ l.length ∧ f m = .ok v R := by
  obtain ⟨h1, h2⟩ := dropU_inv h
  obtain ⟨h3, h4, h5⟩ := rowU_inv h2
  rw [List.length_drop] at h3
  have hd : toVs (l.drop o) = (toVs l).drop o := by simp only [toVs_map, List.map_drop]
  rw [hd] at h4
  refine ⟨(l.drop o).take n, ?_, rfl, by simp; omega, by omega, h5⟩
  unfold rowOk
  have e1 : (((toVs l).drop o).take n).length = n := by simp [toVs_length]; omega
  simp only [e1, h4, decide_true, Bool.and_self, if_true]
  rw [toVs_cut]
noncomputable def uLdP (sz : Option Nat) (i o : Nat) (F : FAW) (f : KU) : RU :=
  findH F.h i fun c _ _ _ _ => Option.rec (motive := fun _ => RU) (nthU c o fun v => eX v (f v F)) (fun n => rowAtU c o n fun m => f (.a m) F) sz
noncomputable def uLd (sz : Option Nat) (a : FV) (F : FAW) (f : KU) : RU := eP a fun i o => uLdP sz i o F f
omit he in
theorem uLdP_inv (h : UR F S) {sz : Option Nat} {i o : Nat} (hf : uLdP sz i o F f = .ok v R) : ∃ w, S.ldV sz i o = some (toV w) ∧ f w F = .ok v R := by
  obtain ⟨c, el, es, fm, ro, hr, h2⟩ := findH_inv h.h hf
  obtain ⟨g, hr⟩ := hr.raw
  cases sz with
  | none =>
    obtain ⟨w, h3, h4⟩ := nthU_inv (show nthU c o _ = .ok v R from h2)
    obtain ⟨h5, h6⟩ := eX_inv h4
    refine ⟨w, ?_, h6⟩
    have e1 : (toVs c)[o]? = some (toV w) := by rw [toVs_get, h3]; rfl
    simp only [AW.ldV, AW.cell, hr, e1, h5]
    rfl
  | some n =>
    obtain ⟨m, h3, _, _, _, h4⟩ := rowAtU_inv (show rowAtU c o n _ = .ok v R from h2)
    exact ⟨.a m, by simp only [AW.ldV, AW.row, hr, h3, Option.map_some, toV], h4⟩
theorem uLd_inv (h : UR F S) {sz : Option Nat} {a : Operand} (hf : uLd sz (e a) F f = .ok v R) : Does C S (rLd ρ S sz a) f v R := by
  obtain ⟨i, o, h1, h2⟩ := eP_inv hf
  obtain ⟨w, h3, h4⟩ := uLdP_inv h h2
  unfold rLd
  rw [he, h1]
  simp only [toV]
  exact does_rV h h3 h4
/-- Bytes out of cells. -/
noncomputable def bytesU (l : List FV) : Nat → (List Nat → RU) → RU :=
  List.rec (motive := fun _ => Nat → (List Nat → RU) → RU) (fun n f => Nat.rec (motive := fun _ => RU) (f []) (fun _ _ => .no) n) (fun a _ ih n f => Nat.rec (motive := fun _ => RU) (f []) (fun m _ => eNBS a (fun _ => .no) (fun b => ih m fun r => f (b :: r)) (fun _ => .no) .no) n) l
omit he in
theorem bytesU_inv : ∀ {l : List FV} {n : Nat} {f : List Nat → RU}, bytesU l n f = .ok v R → ∃ bs : List Nat, n ≤ l.length ∧ ((toVs l).take n).all (fun v => !isBad v) = true ∧ bytesV ((toVs l).take n) = some (bs.map UInt8.ofNat) ∧ f bs = .ok v R
  | [], 0, f, h => ⟨[], Nat.le_refl _, by simp, by simp [bytesV], h⟩
  | [], n + 1, f, h => by cases h
  | a :: l, 0, f, h => ⟨[], Nat.zero_le _, by simp, by simp [bytesV], h⟩
  | a :: l, n + 1, f, h => by
    have h0 : eNBS a (fun _ => .no) (fun b => bytesU l n fun r => f (b :: r)) (fun _ => .no) .no = .ok v R := h
    clear h
    cases a <;> first
      | (cases h0; done)
      | skip
    rename_i m
    obtain ⟨bs, h3, h4, h5, h6⟩ := bytesU_inv (show bytesU l n (fun r => f (m :: r)) = .ok v R from h0)
    refine ⟨m :: bs, by simp only [List.length_cons]; omega, ?_, ?_, h6⟩
    · simp only [toVs, toV, List.take_succ_cons, List.all_cons, h4]; rfl
    · simp only [toVs, toV, List.take_succ_cons, bytesV, h5, Option.map_some, List.map_cons]
      rfl
noncomputable def uCvBS (a : FV) (F : FAW) (f : KU) : RU :=
  eL a (fun i o n _ => findH F.h i fun c _ _ _ _ => dropU c o fun r => bytesU r n fun bs => f (.s bs) F) (f (.s []) F) (fun _ => .no) (fun _ => .no) .no
theorem uCvBS_inv (h : UR F S) {a : Operand} (hf : uCvBS (e a) F f = .ok v R) : Does C S (rCvBS ρ S a) f v R := by
  unfold rCvBS
  rw [he]
  generalize e a = p at hf ⊢
  cases p <;> first
    | (cases hf; done)
    | skip
  · rename_i i o n c
    obtain ⟨cc, el, es, fm, ro, hr, h2⟩ := findH_inv h.h (show findH F.h i _ = .ok v R from hf)
    obtain ⟨g, hr⟩ := hr.raw
    obtain ⟨h3, h4⟩ := dropU_inv h2
    obtain ⟨bs, h5, h6, h7, h8⟩ := bytesU_inv h4
    rw [List.length_drop] at h5
    have hd : toVs (cc.drop o) = (toVs cc).drop o := by simp only [toVs_map, List.map_drop]
    rw [hd] at h6 h7
    have e1 : (((toVs cc).drop o).take n).length = n := by simp [toVs_length]; omega
    have e2 : S.row i o n = some (((toVs cc).drop o).take n) := by
      simp only [AW.row, hr, rowOk, e1, h6, decide_true, Bool.and_self, if_true]
    simp only [toV, e2, h7]
    exact does_val h (w := .s bs) (by simp only [toV]) h8
  · simp only [toV]
    exact does_val h (w := .s []) (by simp only [toV, List.map_nil]; rfl) hf
/-- Cells stored over others. -/
noncomputable def stU (l : List FV) (vs : List FV) : (List FV → RU) → RU :=
  List.rec (motive := fun _ => List FV → (List FV → RU) → RU) (fun l f => f l) (fun v _ ih l f => List.rec (motive := fun _ => RU) .no (fun a r _ => eX a (eC v (ih r fun m => f (v :: m)))) l) vs l
omit he in
theorem stU_inv : ∀ {vs l : List FV} {f : List FV → RU}, stU l vs f = .ok v R → vs.length ≤ l.length ∧ (toVs vs).all cellOk = true ∧ ((toVs l).take vs.length).all (fun v => !isBad v) = true ∧ f (vs ++ l.drop vs.length) = .ok v R
  | [], l, f, h => ⟨Nat.zero_le _, by simp [toVs], by simp, by simpa using (show f l = .ok v R from h)⟩
  | w :: vs, [], f, h => by cases h
  | w :: vs, a :: l, f, h => by
    obtain ⟨h1, h2⟩ := eX_inv (show eX a (eC w (stU l vs fun m => f (w :: m))) = .ok v R from h)
    obtain ⟨h3, h4⟩ := eC_inv h2
    obtain ⟨h5, h6, h7, h8⟩ := stU_inv h4
    exact ⟨by simp only [List.length_cons]; omega, by simp only [toVs, List.all_cons, h3, h6]; rfl, by simp only [toVs, List.length_cons, List.take_succ_cons, List.all_cons, h1, h7]; rfl, by simpa using h8⟩
noncomputable def stAtU (l : List FV) (n : Nat) (vs : List FV) : (List FV → RU) → RU :=
  List.rec (motive := fun _ => Nat → (List FV → RU) → RU) (fun n f => Nat.rec (motive := fun _ => RU) (stU [] vs f) (fun _ _ => .no) n) (fun a l ih n f => Nat.rec (motive := fun _ => RU) (stU (a :: l) vs f) (fun m _ => ih m fun r => f (a :: r)) n) l n
omit he in
theorem stAtU_inv {vs : List FV} : ∀ {l : List FV} {n : Nat} {f : List FV → RU}, stAtU l n vs f = .ok v R → n + vs.length ≤ l.length ∧ (toVs vs).all cellOk = true ∧ (rowOk (toVs l) n vs.length).isSome = true ∧ f (l.take n ++ vs ++ l.drop (n + vs.length)) = .ok v R
  | [], 0, f, h => by
    obtain ⟨h1, h2, h3, h4⟩ := stU_inv (show stU [] vs f = .ok v R from h)
    refine ⟨by omega, h2, ?_, by simpa using h4⟩
    have h1 : vs.length ≤ 0 := h1
    have : ((toVs []).take vs.length).length = vs.length := by rw [List.length_take, toVs_length]; simp; omega
    simp only [rowOk, List.drop_zero, this, h3, decide_true, Bool.and_self, if_true, Option.isSome_some]
  | [], n + 1, f, h => by cases h
  | a :: l, 0, f, h => by
    obtain ⟨h1, h2, h3, h4⟩ := stU_inv (show stU (a :: l) vs f = .ok v R from h)
    refine ⟨by omega, h2, ?_, by simpa using h4⟩
    have : ((toVs (a :: l)).take vs.length).length = vs.length := by rw [List.length_take, toVs_length]; omega
    simp only [rowOk, List.drop_zero, this, h3, decide_true, Bool.and_self, if_true, Option.isSome_some]
  | a :: l, n + 1, f, h => by
    obtain ⟨h1, h2, h3, h4⟩ := stAtU_inv (show stAtU l n vs (fun r => f (a :: r)) = .ok v R from h)
    refine ⟨by simp only [List.length_cons]; omega, h2, by simpa [rowOk, toVs] using h3, ?_⟩
    have : n + 1 + vs.length = (n + vs.length) + 1 := by omega
    rw [this]
    simpa using h4
noncomputable def uStR (size i o : Nat) (vs : List FV) (F : FAW) (f : KU) : RU :=
  findH F.h i fun c _ _ fm ro => cn ro .no (cn (Nat.beq (lenU vs) size) (stAtU c o vs fun d => putU F i fm d fun F' => f (.u []) F') .no)
noncomputable def uSt (size : Nat) (a w : FV) (F : FAW) (f : KU) : RU := eP a fun i o => uStR size i o (cellsU w) F f
omit he in
theorem cn_no {b : Bool} {x : RU} (h : cn b .no x = .ok v R) : b = false ∧ x = .ok v R := by
  cases b with
  | true => cases h
  | false => exact ⟨rfl, h⟩
theorem uSt_inv (h : UR F S) {size : Nat} {a b : Operand} (hf : uSt size (e a) (e b) F f = .ok v R) : Does C S (rSt ρ S size a b) f v R := by
  obtain ⟨i, o, h1, h2⟩ := eP_inv hf
  obtain ⟨c, el, es, fm, ro, hr, h3⟩ := findH_inv h.h h2
  obtain ⟨g, hr⟩ := hr.raw
  obtain ⟨h4, h5⟩ := cn_no h3
  obtain ⟨h6, h7⟩ := cn_inv h5
  rw [beqU, lenU_eq, decide_eq_true_eq] at h6
  obtain ⟨h8, h9, h10, h11⟩ := stAtU_inv h7
  obtain ⟨F', h12, h13⟩ := putU_inv h hr h11
  unfold rSt
  rw [he, he, h1]
  simp only [toV, hr]
  rw [← cellsU_eq]
  rw [h6] at h10
  rw [if_pos (by rw [toVs_length]; simp only [h4, h6, h9, h10, decide_true, Bool.not_false, Bool.and_self])]
  have e1 : (toVs c).take o ++ toVs (cellsU (e b)) ++ (toVs c).drop (o + size) = toVs (c.take o ++ cellsU (e b) ++ c.drop (o + (cellsU (e b)).length)) := by
    rw [h6]; simp only [toVs_map, List.map_append, List.map_take, List.map_drop]
  rw [e1]
  exact ⟨.u [], F', _, by simp only [goU, toV, toVs]; rfl, h12, h13⟩
end
end Go.Proofs.Ythclmjelknibhaa.Ev
