/- New rows, append, maps in the plain form. -/
import Derived.Test.YthclmjelknibhaaEvU4
namespace Go.Proofs.Ythclmjelknibhaa.Ev
open Go Go.RowKit
set_option linter.unusedVariables false
set_option linter.constructorNameAsVariable false
set_option linter.unusedSimpArgs false
set_option linter.unusedSectionVars false

noncomputable def newU (c : List FV) (elem es : Nat) (F : FAW) (f : Nat → FAW → RU) : RU :=
  fN (lenU c) fun n => fN F.x fun x => f x ⟨.cell x c elem es x false F.h, .fam x false n F.fs, Nat.succ x⟩
theorem newU_inv {F R : FAW} {S : AW} (h : UR F S) {c : List FV} {elem es : Nat} {f : Nat → FAW → RU} {v : FV} (hf : newU c elem es F f = .ok v R) : ∃ F', UR F' (S.new (toVs c) elem es) ∧ f S.next F' = .ok v R := by
  unfold newU at hf
  rw [fN_eq, fN_eq, lenU_eq] at hf
  exact ⟨_, h.new c elem es, by rw [← h.next]; exact hf⟩
theorem raw_grow_fwd {S : AW} {r : Raw} {off n : Nat} {c : List Value} {j : Nat} {s : Raw} (hj : j ≠ S.next) (h : S.raw j = some s) (hf : s.fam ≠ r.fam ∨ ¬ off + n < (S.fam r.fam).ext) : (S.grow r off n c).raw j = some s := by
  obtain ⟨h1, h2⟩ := AW.raw_some h
  refine AW.raw_of (by rw [AW.obj_grow, if_neg hj]; exact h1) ?_
  by_cases e : s.fam = r.fam
  · rcases hf with hf | hf
    · exact absurd e hf
    · rw [e, AW.fam_grow_keep _ _ _ _ _ hf, ← e]; exact h2
  · rw [AW.fam_grow_other _ _ _ _ _ e]; exact h2
noncomputable def padU (n : Nat) (l : List FV) : List FV := Nat.rec (motive := fun _ => List FV) l (fun _ r => .x :: r) n
theorem padU_eq : ∀ (n : Nat) (l : List FV), toVs (padU n l) = List.replicate n bad ++ toVs l
  | 0, l => by
    show toVs l = _
    simp
  | n + 1, l => by
    show toVs (.x :: padU n l) = _
    simp only [toVs, toV, padU_eq n l]
    rfl
noncomputable def growB (F : FAW) (fm : Nat) (c : List FV) (elem es : Nat) (ro : Bool) (k : Nat) (f : Nat → FAW → RU) : RU :=
  fN F.x fun x => setF fm false k F.fs fun fs => f x ⟨.cell x c elem es fm ro (lessH fm x F.h), fs, Nat.succ x⟩
noncomputable def growK (F : FAW) (fm : Nat) (c : List FV) (elem es : Nat) (ro : Bool) (k : Nat) (f : Nat → FAW → RU) : RU :=
  fN F.x fun x => setF fm true k F.fs fun fs => f x ⟨.cell x c elem es fm ro F.h, fs, Nat.succ x⟩
noncomputable def growU (F : FAW) (fm : Nat) (off n : Nat) (m nw : List FV) (elem es : Nat) (ro : Bool) (f : Nat → FAW → RU) : RU :=
  catU m nw fun c => fN (lenU (padU off c)) fun k => findF F.fs fm fun _ ex => Bool.rec (motive := fun _ => RU) (growK F fm (padU off c) elem es ro k f) (growB F fm (padU off c) elem es ro k f) (ltN (Nat.add off n) ex)
theorem growU_inv {F R : FAW} {S : AW} (h : UR F S) {i off n : Nat} {c nw : List FV} {elem es fm g : Nat} {ro : Bool} {f : Nat → FAW → RU} {v : FV} (hr : S.raw i = some ⟨toVs c, elem, es, fm, g, ro⟩) (hi : i < S.next)
    (hf : growU F fm off n ((c.drop off).take n) nw elem es ro f = .ok v R) : ∃ F', UR F' (S.grow ⟨toVs c, elem, es, fm, g, ro⟩ off n (toVs nw)) ∧ f S.next F' = .ok v R := by
  unfold growU at hf
  rw [catU_eq, fN_eq, lenU_eq] at hf
  obtain ⟨mu, ex, ⟨g0, hfam⟩, h2⟩ := findF_inv h.f hf
  generalize hS' : S.grow ⟨toVs c, elem, es, fm, g, ro⟩ off n (toVs nw) = S'
  have hn := h.next
  have hnext : S'.next = S.next + 1 := by rw [← hS']; rfl
  have hfamS : S.fam (Raw.fam ⟨toVs c, elem, es, fm, g, ro⟩) = ⟨mu, g0, ex⟩ := hfam
  have hnew : RowOk S' S.next (padU off ((c.drop off).take n ++ nw)) elem es fm ro := by
    refine ⟨_, by rw [← hS']; exact AW.raw_grow_same hr off n (toVs nw), ?_, rfl, rfl, rfl, rfl⟩
    show List.replicate off bad ++ ((toVs c).drop off).take n ++ toVs nw = _
    rw [padU_eq, toVs_append, toVs_cut, List.append_assoc]
  have hlen : (padU off ((c.drop off).take n ++ nw)).length = (Raw.grown ⟨toVs c, elem, es, fm, g, ro⟩ S off n (toVs nw)).c.length := by
    rw [← toVs_length, padU_eq, toVs_append]
    show _ = (List.replicate off bad ++ ((toVs c).drop off).take n ++ toVs nw).length
    rw [toVs_cut, List.append_assoc]
  have hmap : ∀ j es', j ≠ S.next → S.mapv j = some es' → S'.mapv j = some es' := by
    intro j es' hj hm
    rw [← hS']
    exact AW.mapv_of (by rw [AW.obj_grow, if_neg hj]; exact AW.mapv_some hm)
  have hfo : ∀ j m' e', j ≠ fm → FamOk S j m' e' → FamOk S' j m' e' := by
    rintro j m' e' hj ⟨g1, hg1⟩
    exact ⟨g1, by rw [← hS', AW.fam_grow_other _ _ _ _ _ (show j ≠ Raw.fam _ from hj)]; exact hg1⟩
  have hx : F.x = S.next := hn
  rw [ltN_eq] at h2
  by_cases hb : Nat.add off n < ex
  · simp only [hb, decide_true] at h2
    have hb' : off + n < (S.fam (Raw.fam ⟨toVs c, elem, es, fm, g, ro⟩)).ext := by rw [hfamS]; exact hb
    have h2 : (fN F.x fun x => setF fm false (padU off ((c.drop off).take n ++ nw)).length F.fs fun fs => f x ⟨.cell x (padU off ((c.drop off).take n ++ nw)) elem es fm ro (lessH fm x F.h), fs, Nat.succ x⟩) = .ok v R := h2
    rw [fN_eq] at h2
    obtain ⟨fs', b1, b2, b3⟩ := setF_inv (S := S) (S' := S') (by omega) (i := fm) (mu := false) (ex := (padU off ((c.drop off).take n ++ nw)).length) ⟨g0 + 1, by
      rw [← hS', show fm = Raw.fam ⟨toVs c, elem, es, fm, g, ro⟩ from rfl, AW.fam_grow_bump _ _ _ _ _ hb', hfamS, hlen]⟩ hfo h.f h2
    obtain ⟨q1, q2, q3⟩ := lessH_ok (fm := fm) (i := F.x) h.h
    refine ⟨⟨.cell F.x (padU off ((c.drop off).take n ++ nw)) elem es fm ro (lessH fm F.x F.h), fs', Nat.succ F.x⟩, ⟨by show F.x + 1 = _; omega, ⟨by rw [hx]; exact hnew, by omega, q2 _ (h.h.fresh (by omega)), ?_⟩, b1⟩, by rw [← hx]; exact b3⟩
    refine HOk.mono2 (by omega) F.x _ q1 q3 (q2 _ (h.h.fresh (by omega))) (fun j c' e' s' m' o' hj hp hr' => ?_) (fun j es' hj hm => hmap j es' (by omega) hm)
    obtain ⟨g', hr'⟩ := hr'.raw
    have hm' : m' ≠ fm := by
      rcases hp with hp | hp
      · exact absurd hp hj
      · exact hp
    exact ⟨_, by rw [← hS']; exact raw_grow_fwd (by omega) hr' (.inl hm'), rfl, rfl, rfl, rfl, rfl⟩
  · simp only [hb, decide_false] at h2
    have hb' : ¬ off + n < (S.fam (Raw.fam ⟨toVs c, elem, es, fm, g, ro⟩)).ext := by rw [hfamS]; exact hb
    have h2 : (fN F.x fun x => setF fm true (padU off ((c.drop off).take n ++ nw)).length F.fs fun fs => f x ⟨.cell x (padU off ((c.drop off).take n ++ nw)) elem es fm ro F.h, fs, Nat.succ x⟩) = .ok v R := h2
    rw [fN_eq] at h2
    obtain ⟨fs', b1, b2, b3⟩ := setF_inv (S := S) (S' := S') (by omega) (i := fm) (mu := true) (ex := (padU off ((c.drop off).take n ++ nw)).length) ⟨g0, by
      rw [← hS', show fm = Raw.fam ⟨toVs c, elem, es, fm, g, ro⟩ from rfl, AW.fam_grow_keep _ _ _ _ _ hb', hfamS, hlen]⟩ hfo h.f h2
    refine ⟨⟨.cell F.x (padU off ((c.drop off).take n ++ nw)) elem es fm ro F.h, fs', Nat.succ F.x⟩, ⟨by show F.x + 1 = _; omega, ⟨by rw [hx]; exact hnew, by omega, h.h.fresh (by omega), ?_⟩, b1⟩, by rw [← hx]; exact b3⟩
    refine HOk.mono2 (by omega) F.x _ h.h (allH_true _) (h.h.fresh (by omega)) (fun j c' e' s' m' o' hj _ hr' => ?_) (fun j es' hj hm => hmap j es' (by omega) hm)
    obtain ⟨g', hr'⟩ := hr'.raw
    exact ⟨_, by rw [← hS']; exact raw_grow_fwd (by omega) hr' (.inr hb'), rfl, rfl, rfl, rfl, rfl⟩
theorem findH_lt {S : AW} : ∀ {l : HL}, HOk S l → ∀ {i : Nat} {f : List FV → Nat → Nat → Nat → Bool → RU} {v : FV} {R : FAW}, findH l i f = .ok v R → i < S.next
  | .nil, _, i, f, v, R, h => by cases h
  | .cell j c e s m o r, ⟨_, h2, _, h4⟩, i, f, v, R, h => by
    have h : cn (Nat.beq i j) (f c e s m o) (findH r i f) = .ok v R := h
    rw [beqU] at h
    by_cases hij : i = j
    · subst hij; exact h2
    · simp only [hij, decide_false, cn_false] at h
      exact findH_lt h4 h
  | .map j es r, ⟨_, _, _, h4⟩, i, f, v, R, h => findH_lt h4 (show findH r i f = .ok v R from h)

section
variable {C : Callee} {S : AW} {F R : FAW} {f : KU} {v : FV}
variable {ρ : Operand → Value} {e : Operand → FV} (he : ∀ o, ρ o = toV (e o))
include he
noncomputable def uBox (elem es : Nat) (w : FV) (F : FAW) (f : KU) : RU := eX w (newU (cellsU w) elem es F fun i F' => f (.p i 0) F')
theorem uBox_inv (h : UR F S) {elem es : Nat} {a : Operand} (hf : uBox elem es (e a) F f = .ok v R) : Does C S (rBox ρ S elem es a) f v R := by
  obtain ⟨h1, h2⟩ := eX_inv hf
  obtain ⟨F', h3, h4⟩ := newU_inv h h2
  unfold rBox
  rw [he, if_neg (by rw [h1]; simp), ← cellsU_eq]
  exact ⟨.p S.next 0, F', _, by simp only [goU, toV], h3, h4⟩
noncomputable def uNew (elem es : Nat) (cells : List Value) (F : FAW) (f : KU) : RU := newU (cells.map ofV0) elem es F fun i F' => f (.p i 0) F'
omit he in
theorem uNew_inv (h : UR F S) {elem es : Nat} {cells : List Value} (hf : uNew elem es cells F f = .ok v R) : Does C S (rNew ρ S elem es cells) f v R := by
  obtain ⟨F', h3, h4⟩ := newU_inv h hf
  rw [zero_eq] at h3
  exact ⟨.p S.next 0, F', _, by simp only [rNew, goU, toV], h3, h4⟩
noncomputable def repU (zero : List FV) (n : Nat) : List FV := Nat.rec (motive := fun _ => List FV) [] (fun _ r => zero ++ r) n
omit he in
theorem repU_eq (zero : List Value) : ∀ n : Nat, toVs (repU (zero.map ofV0) n) = (List.replicate n zero).flatten
  | 0 => by
    show toVs [] = _
    simp [toVs]
  | n + 1 => by
    show toVs (zero.map ofV0 ++ repU (zero.map ofV0) n) = _
    rw [toVs_append, zero_eq, repU_eq zero n, List.replicate_succ, List.flatten_cons]
noncomputable def uLit (elem size : Nat) (zero : List Value) (n : Nat) (ps : List (Nat × Nat × FV)) (F : FAW) (f : KU) : RU :=
  fillU (repU (zero.map ofV0) n) ps fun l => newU l elem size F fun i F' => f (.l i 0 n n) F'
theorem uLit_inv (h : UR F S) {elem size : Nat} {zero : List Value} {n : Nat} {ps : List (Nat × Nat × Operand)} (hf : uLit elem size zero n (ps.map fun p => (p.1, p.2.1, e p.2.2)) F f = .ok v R) : Does C S (rLit ρ S elem size zero n ps) f v R := by
  obtain ⟨m, h1, h2⟩ := fillU_inv hf
  rw [repU_eq] at h1
  obtain ⟨F', h3, h4⟩ := newU_inv h h2
  unfold rLit
  rw [parts_eq he, h1]
  exact ⟨.l S.next 0 n n, F', _, by simp only [goU, toV], h3, h4⟩
noncomputable def uMks (elem size bytes : Nat) (zero : List Value) (l c : FV) (F : FAW) (f : KU) : RU :=
  eI l fun l => eI c fun c => cn (an (Nat.ble l c) (an (Nat.ble c 140737488355328) (Nat.ble (Nat.mul c bytes) 281474976710656))) (newU (repU (zero.map ofV0) c) elem size F fun i F' => f (.l i 0 l c) F') .no
theorem uMks_inv (h : UR F S) {elem size bytes : Nat} {zero : List Value} {l c : Operand} (hf : uMks elem size bytes zero (e l) (e c) F f = .ok v R) : Does C S (rMks ρ S elem size bytes zero l c) f v R := by
  obtain ⟨_, m, h1, h2⟩ := eI_inv hf
  obtain ⟨_, n, h3, h4⟩ := eI_inv h2
  obtain ⟨h5, h6⟩ := cn_inv h4
  simp only [an_eq, Bool.and_eq_true, bleU, decide_eq_true_eq] at h5
  obtain ⟨e1, e2, e3⟩ := h5
  obtain ⟨F', h7, h8⟩ := newU_inv h h6
  rw [repU_eq] at h7
  unfold rMks
  rw [he, he, h1, h3]
  have e3 : n * bytes ≤ 281474976710656 := e3
  have e4 : ((n * bytes : Nat) : Int) ≤ 281474976710656 := by omega
  simp only
  rw [if_pos (by
    have a : ((Int.ofNat m) : Int) = (m : Int) := rfl
    have b : ((Int.ofNat n) : Int) = (n : Int) := rfl
    rw [a, b]
    refine ⟨by omega, by omega, by omega, ?_⟩
    rw [← Int.natCast_mul]; exact e4)]
  exact ⟨.l S.next 0 m n, F', _, by simp only [goU, toV]; rfl, h7, h8⟩
noncomputable def strU (l : List Nat) : List FV := List.rec (motive := fun _ => List FV) [] (fun b _ r => .b (Nat.mod b 256) :: r) l
omit he in
theorem strU_eq : ∀ l : List Nat, toVs (strU l) = strCells ⟨⟨l.map UInt8.ofNat⟩⟩
  | [] => rfl
  | b :: l => by
    show toVs (.b (Nat.mod b 256) :: strU l) = _
    simp only [toVs, toV, strU_eq l, strCells, List.map_cons]
    congr 2
noncomputable def uCvSB (elem : Nat) (a : FV) (F : FAW) (f : KU) : RU :=
  eS a fun s => fN (lenU s) fun n => cn (ltN n 4611686018427387904) (newU (strU s) elem 1 F fun i F' => f (.l i 0 n n) F') .no
theorem uCvSB_inv (h : UR F S) {elem : Nat} {a : Operand} (hf : uCvSB elem (e a) F f = .ok v R) : Does C S (rCvSB ρ S elem a) f v R := by
  obtain ⟨s, h1, h2⟩ := eS_inv hf
  rw [fN_eq, lenU_eq] at h2
  obtain ⟨h3, h4⟩ := cn_inv h2
  rw [ltN_eq, decide_eq_true_eq] at h3
  obtain ⟨F', h5, h6⟩ := newU_inv h h4
  rw [strU_eq] at h5
  unfold rCvSB
  rw [he, h1]
  simp only [toV, ba_lenU]
  rw [if_pos h3]
  exact ⟨.l S.next 0 s.length s.length, F', _, by simp only [goU, toV], h5, h6⟩
/-- What is put behind a slice. -/
noncomputable def srcU (F : FAW) (size : Nat) (x : FV) (f : Nat → List FV → RU) : RU :=
  eL x (fun i o n _ => Bool.rec (motive := fun _ => RU) (findH F.h i fun c _ _ _ _ => rowAtU c o (Nat.mul n size) fun m => f n m) (f n []) (Nat.beq (Nat.mul n size) 0)) (f 0 []) (fun s => cn (Nat.beq size 1) (fN (lenU s) fun n => f n (strU s)) .no) (fun _ => .no) .no
omit he in
theorem srcU_inv (h : UR F S) {size : Nat} {x : FV} {f : Nat → List FV → RU} (hf : srcU F size x f = .ok v R) : ∃ n nw, srcCells S size (toV x) = some (n, toVs nw) ∧ nw.length = n * size ∧ f n nw = .ok v R := by
  cases x <;> first
    | (cases hf; done)
    | skip
  · rename_i s
    obtain ⟨h1, h2⟩ := cn_inv (show cn (Nat.beq size 1) (fN (lenU s) fun n => f n (strU s)) .no = .ok v R from hf)
    rw [beqU, decide_eq_true_eq] at h1
    rw [fN_eq, lenU_eq] at h2
    refine ⟨_, _, ?_, ?_, h2⟩
    · simp only [toV, srcCells, if_pos h1, ba_lenU, strU_eq]
    · rw [h1, ← toVs_length, strU_eq]; simp [strCells]
  · rename_i i o n c
    have hf : (Bool.rec (motive := fun _ => RU) (findH F.h i fun c _ _ _ _ => rowAtU c o (Nat.mul n size) fun m => f n m) (f n []) (Nat.beq (Nat.mul n size) 0)) = .ok v R := hf
    rw [beqU] at hf
    by_cases hz : Nat.mul n size = 0
    · simp only [hz, decide_true] at hf
      have hz' : n * size = 0 := hz
      exact ⟨n, [], by simp only [toV, srcCells, if_pos hz', toVs], by simpa using hz'.symm, hf⟩
    · simp only [hz, decide_false] at hf
      have hz' : ¬ n * size = 0 := hz
      obtain ⟨cc, el, es, fm, ro, hr, h2⟩ := findH_inv h.h hf
      obtain ⟨g, hr⟩ := hr.raw
      obtain ⟨m, h3, _, h4, _, h5⟩ := rowAtU_inv h2
      have h3 : rowOk (toVs cc) o (n * size) = some (toVs m) := h3
      exact ⟨n, m, by simp only [toV, srcCells, if_neg hz', AW.row, hr, h3, Option.map_some], h4, h5⟩
  · exact ⟨0, [], by simp only [toV, srcCells, toVs], by simp, hf⟩
noncomputable def allU (l : List FV) (r : RU) : RU := List.rec (motive := fun _ => RU) r (fun a _ ih => eC a ih) l
omit he in
theorem allU_inv : ∀ {l : List FV} {r : RU}, allU l r = .ok v R → (toVs l).all cellOk = true ∧ r = .ok v R
  | [], r, h => ⟨by simp [toVs], h⟩
  | a :: l, r, h => by
    obtain ⟨h1, h2⟩ := eC_inv (show eC a (allU l r) = .ok v R from h)
    obtain ⟨h3, h4⟩ := allU_inv h2
    exact ⟨by simp only [toVs, List.all_cons, h1, h3]; rfl, h4⟩
noncomputable def fitU (n bytes : Nat) : Bool := an (Nat.ble (Nat.mul (Nat.add (Nat.mul 2 n) 192) bytes) 281474976710656) (Nat.ble n 140737488355328)
omit he in
theorem fitU_inv {n bytes : Nat} (h : fitU n bytes = true) : (2 * n + 192) * bytes ≤ 281474976710656 ∧ n ≤ 140737488355328 := by
  simp only [fitU, an_eq, Bool.and_eq_true, bleU, decide_eq_true_eq] at h
  exact h
noncomputable def appInU (size i o l c n : Nat) (cc nw : List FV) (fm : Nat) (F : FAW) (f : KU) : RU :=
  stAtU cc (Nat.add o (Nat.mul l size)) nw fun d => putU F i fm d fun F' => fN (Nat.add l n) fun m => f (.l i o m c) F'
noncomputable def appGrU (size bytes o l n : Nat) (cc nw : List FV) (elem fm : Nat) (F : FAW) (f : KU) : RU :=
  fN (Nat.mul l size) fun k => rowAtU cc o k fun m => cn (fitU (Nat.add l n) bytes) (growU F fm o k m nw elem size false fun x F' => fN (Nat.add l n) fun n => f (.l x o n n) F') .no
noncomputable def appSU (elem size bytes i o l c n : Nat) (nw : List FV) (F : FAW) (f : KU) : RU :=
  Bool.rec (motive := fun _ => RU) (findH F.h i fun cc el es fm ro => cn (an (nt ro) (an (Nat.beq es size) (Nat.beq el elem))) (Bool.rec (motive := fun _ => RU) (appGrU size bytes o l n cc nw elem fm F f) (appInU size i o l c n cc nw fm F f) (Nat.ble (Nat.add l n) c)) .no) (f (.l i o l c) F) (Nat.beq n 0)
noncomputable def appNU (elem size bytes n : Nat) (nw : List FV) (F : FAW) (f : KU) : RU :=
  Bool.rec (motive := fun _ => RU) (cn (fitU n bytes) (newU nw elem size F fun i F' => f (.l i 0 n n) F') .no) (f .nl F) (Nat.beq n 0)
noncomputable def uApp (elem size bytes : Nat) (s x : FV) (F : FAW) (f : KU) : RU :=
  srcU F size x fun n nw => allU nw (eL s (fun i o l c => appSU elem size bytes i o l c n nw F f) (appNU elem size bytes n nw F f) (fun _ => .no) (fun _ => .no) .no)
omit he in
theorem uAppT_inv (h : UR F S) {elem size bytes n : Nat} {nw : List FV} (hlen : nw.length = n * size) {s : FV} (h4 : eL s (fun i o l c => appSU elem size bytes i o l c n nw F f) (appNU elem size bytes n nw F f) (fun _ => .no) (fun _ => .no) .no = .ok v R) :
    Does C S (match appV S elem size bytes (toV s) n (toVs nw) with | some (v, S') => some (.val v S') | none => none) f v R := by
  cases s <;> first
    | (cases h4; done)
    | skip
  · rename_i i o l c
    have h4 : Bool.rec (motive := fun _ => RU) (findH F.h i fun cc el es fm ro => cn (an (nt ro) (an (Nat.beq es size) (Nat.beq el elem))) (Bool.rec (motive := fun _ => RU) (appGrU size bytes o l n cc nw elem fm F f) (appInU size i o l c n cc nw fm F f) (Nat.ble (Nat.add l n) c)) .no) (f (.l i o l c) F) (Nat.beq n 0) = .ok v R := h4
    rw [beqU] at h4
    by_cases hz : n = 0
    · simp only [hz, decide_true] at h4
      simp only [toV, appV, if_pos hz]
      exact ⟨.l i o l c, F, S, by simp only [goU, toV], h, h4⟩
    · simp only [hz, decide_false] at h4
      obtain ⟨cc, el, es, fm, ro, hr, h5⟩ := findH_inv h.h h4
      have hlt := findH_lt h.h h4
      obtain ⟨g, hr⟩ := hr.raw
      obtain ⟨h6, h7⟩ := cn_inv h5
      simp only [an_eq, nt_eq, Bool.and_eq_true, Bool.not_eq_true', beqU, decide_eq_true_eq] at h6
      obtain ⟨rfl, rfl, rfl⟩ := h6
      simp only [toV, appV, if_neg hz, hr]
      rw [if_neg (by simp)]
      rw [bleU] at h7
      by_cases hle : Nat.add l n ≤ c
      · simp only [hle, decide_true] at h7
        have hle' : l + n ≤ c := hle
        obtain ⟨k1, k2, k3, k4⟩ := stAtU_inv (show stAtU cc (Nat.add o (Nat.mul l es)) nw _ = .ok v R from h7)
        obtain ⟨F', k5, k6⟩ := putU_inv h hr k4
        rw [fN_eq] at k6
        rw [hlen] at k3 k5
        rw [if_pos hle', if_pos (show (rowOk (toVs cc) (o + l * es) (n * es)).isSome = true from k3)]
        have e1 : (toVs cc).take (o + l * es) ++ toVs nw ++ (toVs cc).drop (o + l * es + n * es) = toVs (cc.take (Nat.add o (Nat.mul l es)) ++ nw ++ cc.drop (Nat.add o (Nat.mul l es) + n * es)) := by
          simp only [toVs_map, List.map_append, List.map_take, List.map_drop]
          rfl
        rw [e1]
        exact ⟨.l i o (Nat.add l n) c, F', _, by simp only [goU, toV]; rfl, k5, k6⟩
      · simp only [hle, decide_false] at h7
        have hle' : ¬ l + n ≤ c := hle
        have h7 : (fN (Nat.mul l es) fun k => rowAtU cc o k fun m => cn (fitU (Nat.add l n) bytes) (growU F fm o k m nw el es false fun x F' => fN (Nat.add l n) fun n => f (.l x o n n) F') .no) = .ok v R := h7
        rw [fN_eq] at h7
        obtain ⟨m, k1, k2, k3, k4, k5⟩ := rowAtU_inv h7
        obtain ⟨k6, k7⟩ := cn_inv k5
        obtain ⟨k8, k9⟩ := fitU_inv k6
        subst k2
        obtain ⟨F', q1, q2⟩ := growU_inv h hr hlt k7
        rw [fN_eq] at q2
        have k1' : rowOk (toVs cc) o (l * es) = some (toVs ((cc.drop o).take (Nat.mul l es))) := k1
        have k4' : o + l * es ≤ (toVs cc).length := by rw [toVs_length]; exact k4
        have k8' : (2 * (l + n) + 192) * bytes ≤ 281474976710656 := k8
        have k9' : l + n ≤ 140737488355328 := k9
        rw [if_neg hle', k1']
        simp only [Option.isSome_some, k4', k8', k9', decide_true, Bool.and_self, if_true]
        exact ⟨.l S.next o (Nat.add l n) (Nat.add l n), F', _, by simp only [goU, toV]; rfl, q1, q2⟩
  · have h4 : Bool.rec (motive := fun _ => RU) (cn (fitU n bytes) (newU nw elem size F fun i F' => f (.l i 0 n n) F') .no) (f .nl F) (Nat.beq n 0) = .ok v R := h4
    rw [beqU] at h4
    by_cases hz : n = 0
    · simp only [hz, decide_true] at h4
      simp only [toV, appV, if_pos hz]
      exact ⟨.nl, F, S, by simp only [goU, toV], h, h4⟩
    · simp only [hz, decide_false] at h4
      obtain ⟨k6, k7⟩ := cn_inv h4
      obtain ⟨k8, k9⟩ := fitU_inv k6
      obtain ⟨F', q1, q2⟩ := newU_inv h k7
      simp only [toV, appV, if_neg hz, k8, k9, decide_true, Bool.and_self, if_true]
      exact ⟨.l S.next 0 n n, F', _, by simp only [goU, toV], q1, q2⟩
theorem uApp_inv (h : UR F S) {elem size bytes : Nat} {a b : Operand} (hf : uApp elem size bytes (e a) (e b) F f = .ok v R) : Does C S (rApp ρ S elem size bytes a b) f v R := by
  obtain ⟨n, nw, h1, hlen, h2⟩ := srcU_inv h hf
  obtain ⟨h3, h4⟩ := allU_inv h2
  unfold rApp
  rw [he, he, h1]
  simp only [h3, Bool.not_true, Bool.false_eq_true, if_false]
  exact uAppT_inv h hlen h4
noncomputable def eN (v : FV) (b : Nat → RU) : RU := eNBS v b (fun _ => .no) (fun _ => .no) .no
omit he in
theorem eN_inv {w : FV} {b : Nat → RU} (h : eN w b = .ok v R) : ∃ m, w = .n m ∧ b m = .ok v R := by
  cases w <;> first
    | exact ⟨_, rfl, h⟩
    | cases h
/-- Noughts are put behind. -/
noncomputable def uAppzK (elem size bytes k : Nat) (nw : List FV) (s : FV) (F : FAW) (f : KU) : RU :=
  cn (Nat.beq (lenU nw) (Nat.mul k size)) (allU nw (eL s (fun i o l c => appSU elem size bytes i o l c k nw F f) (appNU elem size bytes k nw F f) (fun _ => .no) (fun _ => .no) .no)) .no
noncomputable def uAppzF (elem size bytes : Nat) (zero : List FV) (s x : FV) (F : FAW) (f : KU) : RU :=
  eN x fun k => cn (an (Nat.ble k 140737488355328) (Nat.ble (Nat.mul k bytes) 281474976710656)) (uAppzK elem size bytes k (repU zero k) s F f) .no
noncomputable def uAppz (elem size bytes : Nat) (zero : List Value) (s x : FV) (F : FAW) (f : KU) : RU := uAppzF elem size bytes (zero.map ofV0) s x F f
theorem uAppz_inv (h : UR F S) {elem size bytes : Nat} {zero : List Value} {a b : Operand} (hf : uAppz elem size bytes zero (e a) (e b) F f = .ok v R) : Does C S (rAppz ρ S elem size bytes zero a b) f v R := by
  obtain ⟨k, h1, h2⟩ := eN_inv hf
  obtain ⟨h3, h4⟩ := cn_inv h2
  simp only [an_eq, Bool.and_eq_true, bleU, decide_eq_true_eq] at h3
  obtain ⟨h5, h6⟩ := cn_inv (show cn (Nat.beq (lenU (repU (zero.map ofV0) k)) (Nat.mul k size)) _ .no = .ok v R from h4)
  rw [beqU, lenU_eq, decide_eq_true_eq] at h5
  obtain ⟨h7, h8⟩ := allU_inv h6
  have e1 : k * bytes ≤ 281474976710656 := h3.2
  have e2 : ((k * bytes : Nat) : Int) ≤ 281474976710656 := by omega
  rw [Int.natCast_mul] at e2
  unfold rAppz
  rw [he, he, h1]
  simp only [toV]
  rw [if_pos (by
    have : Int.ofNat k = (k : Int) := rfl
    rw [this]
    exact ⟨by omega, by omega, e2⟩)]
  rw [repU_eq] at h7
  have e3 : (Int.ofNat k).toNat = k := rfl
  rw [e3]
  rw [if_neg (by rw [h7]; decide)]
  have := uAppT_inv (C := C) h h5 h8
  rw [repU_eq] at this
  exact this

end
end Go.Proofs.Ythclmjelknibhaa.Ev
