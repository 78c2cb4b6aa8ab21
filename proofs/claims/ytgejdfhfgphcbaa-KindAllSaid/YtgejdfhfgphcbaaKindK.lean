/- Kind: what the small functions come to. -/
import Derived.Test.YtgejdfhfgphcbaaKindS
import Derived.Test.YtgejdfhfgphcbaaEvS
namespace Go.Proofs.Ytgejdfhfgphcbaa.Ev
open Go Go.RowKit
set_option linter.unusedVariables false
set_option linter.constructorNameAsVariable false
set_option linter.unusedSimpArgs false
set_option linter.unusedSectionVars false

/-- May a byte begin a name's part? -/
def isLet (b : Nat) : Bool := decide (b = 95) || (decide (97 ≤ b) && decide (b ≤ 122)) || (decide (65 ≤ b) && decide (b ≤ 90))
theorem s109 (n b : Nat) (F : FAW) : clU kindD (n + 1) 109 [.b b] F = .ok (.t (isLet b)) F := by
  rw [cl109, u109_in]
  simp only [u109b, seqU_eq, u109_0, u109_1, m2_mk, exU_n, exU_r, retU_eq, uEq_bb, uGeq_bb, uLeq_bb, eT_t, xo_f, cn_dec, u109r_mk]
  unfold isLet
  by_cases h1 : b = 95
  · simp [h1]
  · by_cases h2 : 97 ≤ b
    · by_cases h3 : b ≤ 122
      · simp [h1, h2, h3]
      · by_cases h4 : 65 ≤ b <;> simp [h1, h2, h3, h4]
    · by_cases h4 : 65 ≤ b <;> simp [h1, h2, h4]

/-- A cursor stands in a text. -/
structure Cu (F : FAW) (i : Nat) (l : List Nat) (a e : Nat) (nm : FV) (d : Nat) : Prop where
  row : ∃ el, F.row i = some ([.s l, .n a, .n e, nm, .n d], el, 5, i, false)
  fam : ∃ ex, F.fam i = some (false, ex) ∧ 5 ≤ ex
  fi : Fi nm
section
variable {F : FAW} {i : Nat} {l : List Nat} {a e : Nat} {nm : FV} {d : Nat} (h : Cu F i l a e nm d) (f : KU)
include h
theorem Cu.g0 : uGet 0 (.p i 0) F f = f (.s l) F := by obtain ⟨el, hr⟩ := h.row; exact uGet_row f hr rfl (Fi.s l)
theorem Cu.g1 : uGet 1 (.p i 0) F f = f (.n a) F := by obtain ⟨el, hr⟩ := h.row; exact uGet_row f hr rfl (Fi.n a)
theorem Cu.g2 : uGet 2 (.p i 0) F f = f (.n e) F := by obtain ⟨el, hr⟩ := h.row; exact uGet_row f hr rfl (Fi.n e)
theorem Cu.g3 : uGet 3 (.p i 0) F f = f nm F := by obtain ⟨el, hr⟩ := h.row; exact uGet_row f hr rfl h.fi
theorem Cu.g4 : uGet 4 (.p i 0) F f = f (.n d) F := by obtain ⟨el, hr⟩ := h.row; exact uGet_row f hr rfl (Fi.n d)
omit h in
/-- The cursor told anew. -/
def cu (l : List Nat) (a e : Nat) (nm : FV) (d : Nat) : List FV := [.s l, .n a, .n e, nm, .n d]
theorem Cu.put (a' e' d' : Nat) : Cu (F.put i (cu l a' e' nm d')) i l a' e' nm d' := by
  obtain ⟨el, hr⟩ := h.row
  obtain ⟨ex, hf, h5⟩ := h.fam
  exact ⟨⟨el, by rw [row_put, if_pos rfl, hr]; rfl⟩, ⟨ex, by rw [fam_put]; exact hf, h5⟩, h.fi⟩
theorem Cu.s1 (a' : Nat) : uSt 1 (.p i 1) (.n a') F f = f (.u []) (F.put i (cu l a' e nm d)) := by
  obtain ⟨el, hr⟩ := h.row
  obtain ⟨ex, hf, h5⟩ := h.fam
  exact uSt_row f hr hf h5 rfl (Fi.n a) (Fi.n a')
theorem Cu.s2 (e' : Nat) : uSt 1 (.p i 2) (.n e') F f = f (.u []) (F.put i (cu l a e' nm d)) := by
  obtain ⟨el, hr⟩ := h.row
  obtain ⟨ex, hf, h5⟩ := h.fam
  exact uSt_row f hr hf h5 rfl (Fi.n e) (Fi.n e')
end
theorem uNilc_p (i o : Nat) (F : FAW) (f : KU) : uNilc (.p i o) F f = f (.p i o) F := rfl
theorem uFad_p (k i o : Nat) (F : FAW) (f : KU) : uFad k (.p i o) F f = f (.p i (o + k)) F := by
  show fN (Nat.add o k) (fun o => f (.p i o) F) = _
  rw [fN_eq]; rfl
/-- What is noted of an error. -/
def fl (b : Bool) (k e : Nat) : Nat := if b && e == 0 then k else e
def flM (F : FAW) (i : Nat) (l : List Nat) (a e : Nat) (nm : FV) (d : Nat) (b : Bool) (k : Nat) : FAW := if b && e == 0 then F.put i (cu l a k nm d) else F
theorem s92 (n : Nat) {F : FAW} {i : Nat} {l : List Nat} {a e : Nat} {nm : FV} {d : Nat} (h : Cu F i l a e nm d) (b : Bool) (k : Nat) :
    clU kindD (n + 1) 92 [.p i 0, .t b, .n k] F = .ok (.u []) (flM F i l a e nm d b k) ∧ Cu (flM F i l a e nm d b k) i l a (fl b k e) nm d := by
  constructor
  · rw [cl92, u92_in]
    simp only [u92b, seqU_eq, u92_0, m4_mk, condU_eq, u92_1, k4_mk, u92_2, skipU_eq, eT_t, exU_n, h.g2, uEq_nn, xo_f, u92r_mk, uNilc_p, uFad_p, Nat.zero_add, h.s2]
    unfold flM
    cases b with
    | false => rfl
    | true =>
      by_cases he : e = 0
      · simp [he, cn_true, eT_t]
      · simp [he, cn_true, cn_false, eT_t]
  · unfold flM fl
    split
    · exact h.put a k d
    · exact h
end Go.Proofs.Ytgejdfhfgphcbaa.Ev
/- Kind: signs, parts of names. -/
namespace Go.Proofs.Ytgejdfhfgphcbaa.Ev
open Go Go.RowKit
set_option linter.unusedVariables false
set_option linter.constructorNameAsVariable false
set_option linter.unusedSimpArgs false
set_option linter.unusedSectionVars false

/-- Nothing but one row is told anew. -/
structure Oth (F F' : FAW) (i : Nat) : Prop where
  row : ∀ j, j ≠ i → F'.row j = F.row j
  fam : ∀ j, F'.fam j = F.fam j
  mp : ∀ j, F'.mp j = F.mp j
  x : F'.x = F.x
theorem Oth.refl (F : FAW) (i : Nat) : Oth F F i := ⟨fun _ _ => rfl, fun _ => rfl, fun _ => rfl, rfl⟩
theorem Oth.trans {F F' F'' : FAW} {i : Nat} (h : Oth F F' i) (k : Oth F' F'' i) : Oth F F'' i :=
  ⟨fun j hj => (k.row j hj).trans (h.row j hj), fun j => (k.fam j).trans (h.fam j), fun j => (k.mp j).trans (h.mp j), k.x.trans h.x⟩
theorem Oth.put (F : FAW) (i : Nat) (d : List FV) : Oth F (F.put i d) i := ⟨fun j hj => by rw [row_put, if_neg hj], fun _ => rfl, fun j => mp_put F i d j, rfl⟩
theorem Oth.flM (F : FAW) (i : Nat) (l : List Nat) (a e : Nat) (nm : FV) (d : Nat) (b : Bool) (k : Nat) : Oth F (flM F i l a e nm d b k) i := by
  unfold Ev.flM
  split
  · exact Oth.put _ _ _
  · exact Oth.refl _ _

/-- Is there no such byte? -/
def noSign (l : List Nat) (a b : Nat) : Bool := decide (l[a]? ≠ some b)
/-- Where one stands behind a sign, and the error. -/
def sgA (l : List Nat) (a e b : Nat) : Nat := if fl (noSign l a b) 2 e = 0 then a + 1 else a
theorem s107 (n : Nat) {F : FAW} {i : Nat} {l : List Nat} {a e : Nat} {nm : FV} {d : Nat} (h : Cu F i l a e nm d) (hl : Bs l) (ha : a + 1 ≤ 9223372036854775807) (b : Nat) :
    ∃ F', clU kindD (n + 2) 107 [.p i 0, .b b] F = .ok (.u []) F' ∧ Cu F' i l (sgA l a e b) (fl (noSign l a b) 2 e) nm d ∧ Oth F F' i := by
  rw [cl107, u107_in]
  simp only [u107b, seqU_eq, u107_0, u107_1, u107_3, m3_mk, condU_eq, u107_2, k3_mk, skipU_eq, eT_t, exU_n, h.g0, h.g1, uLen_s, uGeq_nn, cn_dec, u107r_mk, uCall_eq, uNilc_p, uFad_p, Nat.zero_add]
  have key : ∀ (B : Bool), B = noSign l a b → ∃ F', goOn (clU kindD (n + 1) 92 [.p i 0, .t B, .n 2] F) (fun v S =>
      uGet 2 (.p i 0) S fun v2 S => uEq false .eql v2 (.n 0) S fun v3 S => eT v3 fun t => cn t (uGet 1 (.p i 0) S fun v2 S => uAdd v2 (.n 1) S fun v3 S => uSt 1 (.p i 1) v3 S fun v6 S => .ok (.u []) S) (.ok (.u []) S)) = .ok (.u []) F' ∧ Cu F' i l (sgA l a e b) (fl (noSign l a b) 2 e) nm d ∧ Oth F F' i := by
    intro B hB
    subst hB
    obtain ⟨h1, h2⟩ := s92 n h (noSign l a b) 2
    rw [h1, goOn_ok]
    simp only [h2.g2, h2.g1, uEq_nn, xo_f, eT_t, cn_dec, uAdd_nn _ _ ha, h2.s1]
    unfold sgA
    by_cases he : fl (noSign l a b) 2 e = 0
    · rw [if_pos he, if_pos he]
      exact ⟨_, rfl, h2.put _ _ _, (Oth.flM _ _ _ _ _ _ _ _ _).trans (Oth.put _ _ _)⟩
    · rw [if_neg he, if_neg he]
      exact ⟨_, rfl, h2, Oth.flM _ _ _ _ _ _ _ _ _⟩
  by_cases hlen : l.length ≤ a
  · rw [if_pos hlen]
    refine key true ?_
    unfold noSign
    rw [List.getElem?_eq_none hlen]; rfl
  · rw [if_neg hlen]
    have hx : l[a]? = some l[a] := List.getElem?_eq_getElem (by omega)
    simp only [uIdxS_n _ _ hl hx, uEq_bb, xo_t]
    refine key _ ?_
    unfold noSign
    rw [hx]
    by_cases hb : l[a] = b <;> simp [hb]

def isDig (b : Nat) : Bool := decide (48 ≤ b) && decide (b ≤ 57)
/-- Where letters and digits end. -/
def munch (l : List Nat) (a : Nat) : Nat := a + ((l.drop a).takeWhile fun b => isLet b || isDig b).length
theorem munch_stop {l : List Nat} {a : Nat} (h : l.length ≤ a) : munch l a = a := by
  unfold munch
  rw [List.drop_eq_nil_of_le h]; rfl
theorem munch_no {l : List Nat} {a : Nat} (h : a < l.length) (hb : (isLet l[a] || isDig l[a]) = false) : munch l a = a := by
  unfold munch
  rw [List.drop_eq_getElem_cons h, List.takeWhile_cons, hb]; rfl
theorem munch_yes {l : List Nat} {a : Nat} (h : a < l.length) (hb : (isLet l[a] || isDig l[a]) = true) : munch l a = munch l (a + 1) := by
  unfold munch
  rw [List.drop_eq_getElem_cons h, List.takeWhile_cons, hb]
  simp only [if_true, List.length_cons]; omega
theorem munch_le {l : List Nat} {a : Nat} (h : a ≤ l.length) : a ≤ munch l a ∧ munch l a ≤ l.length := by
  unfold munch
  have := (List.takeWhile_prefix (p := fun b => isLet b || isDig b) (l := l.drop a)).length_le
  rw [List.length_drop] at this
  omega
/-- The part's loop. -/
theorem loop104 (n N : Nat) {i : Nat} {l : List Nat} {nm : FV} {d : Nat} (hl : Bs l) (hL : l.length ≤ 1000000) (κ : EX → W4 → FAW → RU) (c q : FV) : ∀ (k a : Nat) (F : FAW) (w : FV), Cu F i l a 0 nm d → a ≤ l.length → l.length - a < k →
    ∃ w' F', loopNU (u104_6 (clU kindD (n + 1)) N) κ k (.mk (.p i 0) c q w) F = κ (.exit 0) (.mk (.p i 0) c q w') F' ∧ Cu F' i l (munch l a) 0 nm d ∧ Oth F F' i
  | 0, a, F, w, h, ha, hk => by omega
  | k + 1, a, F, w, h, ha, hk => by
    rw [loopNU_succ]
    have ih := fun (a : Nat) (F : FAW) (w : FV) => loop104 (i := i) (nm := nm) (d := d) n N hl hL κ c q k a F w
    generalize loopNU (u104_6 (clU kindD (n + 1)) N) κ k = rec at ih ⊢
    simp only [u104_6, seqU_eq, condU_eq, blockU_eq, skipU_eq, exitU_eq, u104_3, m4_mk, u104_4, k4_mk, u104_5, exU_n, exU_e, h.g0, h.g1, h.g2, uLen_s, uEq_nn, uLss_nn, xo_f, eT_t, cn_dec, decide_true, if_true, if_pos rfl, uNilc_p, uFad_p, Nat.zero_add, uAdd_nn _ _ (show a + 1 ≤ 9223372036854775807 by omega), h.s1]
    by_cases hlt : a < l.length
    · have hx : l[a]? = some l[a] := List.getElem?_eq_getElem hlt
      simp only [if_pos hlt, uIdxS_n _ _ hl hx, uCall_eq, s109, goOn_ok, eT_t]
      obtain ⟨w', F', e1, e2, e3⟩ := ih (a + 1) (F.put i (cu l (a + 1) 0 nm d)) (.t true) (h.put _ _ _) (by omega) (by omega)
      cases hb : isLet l[a] with
      | true =>
        refine ⟨w', F', ?_, by rw [munch_yes hlt (by rw [hb]; rfl)]; exact e2, (Oth.put _ _ _).trans e3⟩
        simp only [cn_true, eT_t, h.g1, uAdd_nn _ _ (show a + 1 ≤ 9223372036854775807 by omega), h.s1]
        exact e1
      | false =>
        simp only [uGeq_bb, uLeq_bb, eT_t, cn_dec, cn_false, cn_true, h.g0, h.g1, uIdxS_n _ _ hl hx, uAdd_nn _ _ (show a + 1 ≤ 9223372036854775807 by omega), h.s1, if_pos rfl, if_true]
        by_cases h48 : 48 ≤ l[a]
        · by_cases h57 : l[a] ≤ 57
          · simp only [if_pos h48, h57, decide_true, eT_t, cn_true]
            exact ⟨w', F', e1, by rw [munch_yes hlt (by rw [hb]; simp [isDig, h48, h57])]; exact e2, (Oth.put _ _ _).trans e3⟩
          · simp only [if_pos h48, h57, decide_false, eT_t, cn_false]
            exact ⟨_, F, rfl, by rw [munch_no hlt (by rw [hb]; simp [isDig, h57])]; exact h, Oth.refl _ _⟩
        · simp only [if_neg h48, eT_t, cn_false]
          exact ⟨_, F, rfl, by rw [munch_no hlt (by rw [hb]; simp [isDig, h48])]; exact h, Oth.refl _ _⟩
    · simp only [if_neg hlt, eT_t, cn_false]
      exact ⟨_, F, rfl, by rw [munch_stop (by omega)]; exact h, Oth.refl _ _⟩
/-- Does no letter stand there? -/
def noLet (l : List Nat) (a : Nat) : Bool := match l[a]? with
  | some b => !isLet b
  | none => true
/-- Where one stands behind a part of a name. -/
def ptA (l : List Nat) (a e : Nat) : Nat := if fl (noLet l a) 2 e = 0 then munch l a else a
theorem ptA_le {l : List Nat} {a e : Nat} (h : a ≤ l.length) : a ≤ ptA l a e ∧ ptA l a e ≤ l.length := by
  unfold ptA
  split
  · exact munch_le h
  · exact ⟨Nat.le_refl _, h⟩
theorem s104 (n : Nat) {F : FAW} {i : Nat} {l : List Nat} {a e : Nat} {nm : FV} {d : Nat} (h : Cu F i l a e nm d) (hl : Bs l) (hL : l.length ≤ 1000000) (hn : l.length < n) (ha : a ≤ l.length) :
    ∃ F', clU kindD (n + 2) 104 [.p i 0] F = .ok (.s ((l.drop a).take (ptA l a e - a))) F' ∧ Cu F' i l (ptA l a e) (fl (noLet l a) 2 e) nm d ∧ Oth F F' i := by
  rw [cl104, u104_in]
  simp only [u104b, seqU_eq, u104_0, u104_1, u104_2, u104_7, m4_mk, condU_eq, blockU_eq, loopU_eq, retU_eq, skipU_eq, eT_t, exU_n, exU_r, h.g0, h.g1, uLen_s, uGeq_nn, cn_dec, u104r_mk, uCall_eq, uNilc_p, uFad_p, Nat.zero_add]
  have key : ∀ (B : Bool) (κ : FAW → RU), B = noLet l a → (∀ F1, Cu F1 i l a (fl (noLet l a) 2 e) nm d → Oth F F1 i → ∃ F', κ F1 = .ok (.s ((l.drop a).take (ptA l a e - a))) F' ∧ Cu F' i l (ptA l a e) (fl (noLet l a) 2 e) nm d ∧ Oth F F' i) →
      ∃ F', goOn (clU kindD (n + 1) 92 [.p i 0, .t B, .n 2] F) (fun v S => κ S) = .ok (.s ((l.drop a).take (ptA l a e - a))) F' ∧ Cu F' i l (ptA l a e) (fl (noLet l a) 2 e) nm d ∧ Oth F F' i := by
    intro B κ hB hk
    subst hB
    obtain ⟨h1, h2⟩ := s92 n h (noLet l a) 2
    rw [h1, goOn_ok]
    exact hk _ h2 (Oth.flM _ _ _ _ _ _ _ _ _)
  have tail : ∀ F1, Cu F1 i l a (fl (noLet l a) 2 e) nm d → Oth F F1 i → ∃ F', loopNU (u104_6 (clU kindD (n + 1)) (n + 1)) (fun o v F => exU o
        (W4.rec (motive := fun _ => RU) (fun a c d e => uGet 0 a F fun v2 S => uGet 1 a S fun v5 S => uSlS v2 (some d) (some v5) S fun v6 S => .ok v6 S) v)
        (fun i => cn (Nat.beq i 0) (W4.rec (motive := fun _ => RU) (fun a c d e => uGet 0 a F fun v2 S => uGet 1 a S fun v5 S => uSlS v2 (some d) (some v5) S fun v6 S => .ok v6 S) v) .no)
        (u104r v F)) (n + 1) (.mk (.p i 0) (.s []) (.n a) (.u [])) F1 = .ok (.s ((l.drop a).take (ptA l a e - a))) F' ∧ Cu F' i l (ptA l a e) (fl (noLet l a) 2 e) nm d ∧ Oth F F' i := by
    intro F1 h1 o1
    have fin : ∀ F' A, Cu F' i l A (fl (noLet l a) 2 e) nm d → Oth F F' i → A = ptA l a e → ∃ F'', (uGet 0 (.p i 0) F' fun v2 S => uGet 1 (.p i 0) S fun v5 S => uSlS v2 (some (.n a)) (some v5) S fun v6 S => .ok v6 S) = .ok (.s ((l.drop a).take (ptA l a e - a))) F'' ∧ Cu F'' i l (ptA l a e) (fl (noLet l a) 2 e) nm d ∧ Oth F F'' i := by
      intro F' A hA oA e1
      subst e1
      have hp := ptA_le (e := e) ha
      simp only [hA.g0, hA.g1, uSlS_nn _ _ hp.1 hp.2]
      exact ⟨F', rfl, hA, oA⟩
    by_cases he : fl (noLet l a) 2 e = 0
    · rw [he] at h1
      obtain ⟨w', F', e1, e2, e3⟩ := loop104 n (n + 1) hl hL _ (.s []) (.n a) (n + 1) a F1 (.u []) h1 ha (by omega)
      rw [e1]
      rw [← he] at e2
      exact fin F' _ e2 (o1.trans e3) (by unfold ptA; rw [if_pos he])
    · rw [loopNU_succ]
      simp only [u104_6, seqU_eq, condU_eq, exitU_eq, u104_3, m4_mk, u104_4, k4_mk, exU_n, exU_e, h1.g2, uEq_nn, xo_f, eT_t, he, decide_false, cn_false]
      exact fin F1 a h1 o1 (by unfold ptA; rw [if_neg he])
  by_cases hlen : l.length ≤ a
  · rw [if_pos hlen]
    refine key true _ ?_ tail
    unfold noLet
    rw [List.getElem?_eq_none hlen]
  · rw [if_neg hlen]
    have hx : l[a]? = some l[a] := List.getElem?_eq_getElem (by omega)
    simp only [uIdxS_n _ _ hl hx, s109, goOn_ok, uNot_t]
    refine key _ _ ?_ tail
    unfold noLet
    rw [hx]
end Go.Proofs.Ytgejdfhfgphcbaa.Ev
/- Kind: words, how many lie within, the rest of a name. -/
namespace Go.Proofs.Ytgejdfhfgphcbaa.Ev
open Go Go.RowKit
set_option linter.unusedVariables false
set_option linter.constructorNameAsVariable false
set_option linter.unusedSimpArgs false
set_option linter.unusedSectionVars false

/-- A word's kind. -/
def wordK (s : List Nat) : Nat :=
  if s = [98, 111, 111, 108] then 2 else if s = [105, 56] then 3 else if s = [105, 49, 54] then 6 else if s = [105, 51, 50] then 8 else if s = [105, 54, 52] then 10 else
  if s = [100, 111, 117, 98, 108, 101] then 4 else if s = [115, 116, 114, 105, 110, 103] then 11 else if s = [98, 105, 110, 97, 114, 121] then 16 else
  if s = [108, 105, 115, 116] then 15 else if s = [115, 101, 116] then 14 else if s = [109, 97, 112] then 13 else 0
theorem bsLit {l : List Nat} (h : (l.all fun x => decide (x < 256)) = true) : Bs l := fun x hx => by
  simp only [List.all_eq_true, decide_eq_true_eq] at h
  exact h x hx
theorem ok_ite (p : Prop) [Decidable p] (x y : Nat) (F : FAW) : RU.ok (.n (if p then x else y)) F = if p then RU.ok (.n x) F else RU.ok (.n y) F := by split <;> rfl
theorem s72 (n : Nat) (F : FAW) {s : List Nat} (hs : Bs s) : clU kindD (n + 1) 72 [.s s] F = .ok (.n (wordK s)) F := by
  rw [cl72, u72_in]
  simp only [u72b, seqU_eq, condU_eq, blockU_eq, retU_eq, skipU_eq, m14_mk, k14_mk, u72_0, u72_1, u72_2, u72_3, u72_4, u72_5, u72_6, u72_7, u72_8, u72_9, u72_10, u72_11, u72_12, u72_13, u72_14, u72_15, u72_16, u72_17, u72_18, u72_19, u72_20, u72_21, u72_22, u72_23, u72_24, u72_25, u72_26, u72_27, u72_28, u72_29, u72_30, u72_31, u72_32, u72_33, u72_34, u72_35,
    exU_n, exU_r, eT_t, uEq_ss _ _ _ _ hs (bsLit (l := [98, 111, 111, 108]) rfl), uEq_ss _ _ _ _ hs (bsLit (l := [105, 56]) rfl), uEq_ss _ _ _ _ hs (bsLit (l := [105, 49, 54]) rfl), uEq_ss _ _ _ _ hs (bsLit (l := [105, 51, 50]) rfl), uEq_ss _ _ _ _ hs (bsLit (l := [105, 54, 52]) rfl), uEq_ss _ _ _ _ hs (bsLit (l := [100, 111, 117, 98, 108, 101]) rfl), uEq_ss _ _ _ _ hs (bsLit (l := [115, 116, 114, 105, 110, 103]) rfl), uEq_ss _ _ _ _ hs (bsLit (l := [98, 105, 110, 97, 114, 121]) rfl), uEq_ss _ _ _ _ hs (bsLit (l := [108, 105, 115, 116]) rfl), uEq_ss _ _ _ _ hs (bsLit (l := [115, 101, 116]) rfl), uEq_ss _ _ _ _ hs (bsLit (l := [109, 97, 112]) rfl), xo_f, cn_dec, u72r_mk]
  unfold wordK
  simp only [ok_ite]
def innerK (k : Nat) : Nat := if k = 15 ∨ k = 14 then 1 else if k = 13 then 2 else 0
theorem s106 (n : Nat) (F : FAW) (k : Nat) : clU kindD (n + 1) 106 [.n k] F = .ok (.n (innerK k)) F := by
  rw [cl106, u106_in]
  simp only [u106b, seqU_eq, condU_eq, blockU_eq, retU_eq, skipU_eq, m5_mk, k5_mk, u106_0, u106_1, u106_2, u106_3, u106_4, u106_5, u106_6, u106_7, u106_8, u106_9, u106_10, exU_n, exU_r, eT_t, uEq_nn, xo_f, cn_dec, u106r_mk]
  unfold innerK
  by_cases h1 : k = 15
  · simp [h1, eT_t, cn_true]
  · by_cases h2 : k = 14
    · simp [h1, h2, eT_t, cn_true]
    · by_cases h3 : k = 13 <;> simp [h1, h2, h3, eT_t, cn_true, cn_false]
/-- Where the other parts of a name end, and the error. -/
def rs (l : List Nat) : Nat → Nat → Nat → Nat × Nat
  | 0, a, e => (a, e)
  | k + 1, a, e => if e = 0 ∧ l[a]? = some 46 then rs l k (ptA l (a + 1) e) (fl (noLet l (a + 1)) 2 e) else (a, e)
theorem rs_le (l : List Nat) : ∀ (k a e : Nat), a ≤ l.length → a ≤ (rs l k a e).1 ∧ (rs l k a e).1 ≤ l.length
  | 0, a, e, h => ⟨Nat.le_refl _, h⟩
  | k + 1, a, e, h => by
    unfold rs
    split
    · rename_i hc
      have hlt : a < l.length := by
        have := List.getElem?_eq_some_iff.mp hc.2
        exact this.1
      have h1 := ptA_le (l := l) (a := a + 1) (e := e) (by omega)
      have h2 := rs_le l k (ptA l (a + 1) e) (fl (noLet l (a + 1)) 2 e) h1.2
      omega
    · exact ⟨Nat.le_refl _, h⟩
theorem loop105 (n N : Nat) {i : Nat} {l : List Nat} {nm : FV} {d : Nat} (hl : Bs l) (hL : l.length ≤ 1000000) (hn : l.length < n) (κ : EX → W4 → FAW → RU) (c q : FV) : ∀ (k a e : Nat) (F : FAW) (w : FV), Cu F i l a e nm d → a ≤ l.length → l.length - a < k →
    ∃ w' F', loopNU (u105_6 (clU kindD (n + 2)) N) κ k (.mk (.p i 0) c q w) F = κ (.exit 0) (.mk (.p i 0) c q w') F' ∧ Cu F' i l (rs l k a e).1 (rs l k a e).2 nm d ∧ Oth F F' i
  | 0, a, e, F, w, h, ha, hk => by omega
  | k + 1, a, e, F, w, h, ha, hk => by
    rw [loopNU_succ]
    have ih := fun (a e : Nat) (F : FAW) (w : FV) => loop105 (i := i) (nm := nm) (d := d) n N hl hL hn κ c q k a e F w
    generalize loopNU (u105_6 (clU kindD (n + 2)) N) κ k = rec at ih ⊢
    have stop : ¬ (e = 0 ∧ l[a]? = some 46) → ∀ w', ∃ w'' F', κ (.exit 0) (.mk (.p i 0) c q w') F = κ (.exit 0) (.mk (.p i 0) c q w'') F' ∧ Cu F' i l (rs l (k + 1) a e).1 (rs l (k + 1) a e).2 nm d ∧ Oth F F' i := by
      intro hc w'
      refine ⟨w', F, rfl, ?_, Oth.refl _ _⟩
      unfold rs
      rw [if_neg hc]; exact h
    simp only [u105_6, seqU_eq, condU_eq, blockU_eq, skipU_eq, exitU_eq, u105_2, m4_mk, u105_3, k4_mk, u105_4, u105_5, exU_n, exU_e, h.g0, h.g1, h.g2, uLen_s, uEq_nn, uLss_nn, xo_f, eT_t, cn_dec, uNilc_p, uFad_p, Nat.zero_add, uAdd_nn _ _ (show a + 1 ≤ 9223372036854775807 by omega), h.s1]
    by_cases he : e = 0
    · by_cases hlt : a < l.length
      · have hx : l[a]? = some l[a] := List.getElem?_eq_getElem hlt
        simp only [if_pos he, if_pos hlt, uIdxS_n _ _ hl hx, uEq_bb, xo_f, eT_t, cn_dec, uCall_eq]
        by_cases hd : l[a] = 46
        · rw [if_pos hd]
          obtain ⟨F1, e1, e2, e3⟩ := s104 n (h.put (a + 1) e d) hl hL hn (by omega)
          simp only [h.g1, uAdd_nn _ _ (show a + 1 ≤ 9223372036854775807 by omega), h.s1]
          rw [e1, goOn_ok]
          have hp := ptA_le (l := l) (a := a + 1) (e := e) (by omega)
          obtain ⟨w', F', k1, k2, k3⟩ := ih (ptA l (a + 1) e) (fl (noLet l (a + 1)) 2 e) F1 (.t (decide (l[a] = 46))) e2 hp.2 (by omega)
          refine ⟨w', F', k1, ?_, (Oth.put _ _ _).trans (e3.trans k3)⟩
          rw [rs, if_pos ⟨he, by rw [hx, hd]⟩]; exact k2
        · rw [if_neg hd]
          exact stop (by rw [hx]; rintro ⟨_, h2⟩; exact hd (Option.some.inj h2)) _
      · simp only [if_pos he, if_neg hlt, eT_t, cn_false]
        exact stop (by rw [List.getElem?_eq_none (by omega)]; simp) _
    · simp only [if_neg he, eT_t, cn_false]
      exact stop (fun hc => he hc.1) _
theorem s105 (n : Nat) {F : FAW} {i : Nat} {l : List Nat} {a e : Nat} {nm : FV} {d : Nat} (h : Cu F i l a e nm d) (hl : Bs l) (hL : l.length ≤ 1000000) (hn : l.length < n) (ha : a ≤ l.length) :
    ∃ F', clU kindD (n + 3) 105 [.p i 0] F = .ok (.t (decide (a < (rs l (n + 2) a e).1))) F' ∧ Cu F' i l (rs l (n + 2) a e).1 (rs l (n + 2) a e).2 nm d ∧ Oth F F' i := by
  rw [cl105, u105_in]
  simp only [u105b, seqU_eq, u105_0, u105_1, u105_7, m4_mk, blockU_eq, loopU_eq, retU_eq, exU_n, exU_r, h.g1, u105r_mk]
  obtain ⟨w', F', e1, e2, e3⟩ := loop105 n (n + 2) hl hL hn (fun o v F => exU o
        (W4.rec (motive := fun _ => RU) (fun a c d e => uGet 1 a F fun v2 S => uCmp (fun a b => ltN b a) .gtr v2 d S fun v3 S => .ok v3 S) v)
        (fun i => cn (Nat.beq i 0) (W4.rec (motive := fun _ => RU) (fun a c d e => uGet 1 a F fun v2 S => uCmp (fun a b => ltN b a) .gtr v2 d S fun v3 S => .ok v3 S) v) .no)
        (u105r v F)) (.t false) (.n a) (n + 2) a e F (.u []) h ha (by omega)
  refine ⟨F', ?_, e2, e3⟩
  refine Eq.trans ?_ (Eq.trans e1 ?_)
  · rfl
  · show (uGet 1 (.p i 0) F' fun v2 S => uCmp (fun a b => ltN b a) .gtr v2 (.n a) S fun v3 S => .ok v3 S) = _
    simp only [e2.g1, uGtr_nn]
end Go.Proofs.Ytgejdfhfgphcbaa.Ev
/- Kind: a type is read (its plain form; one arm of it). -/
namespace Go.Proofs.Ytgejdfhfgphcbaa.Ev
open Go Go.RowKit
set_option linter.unusedVariables false
set_option linter.constructorNameAsVariable false
set_option linter.unusedSimpArgs false
set_option linter.unusedSectionVars false

/-- Where a reader stands, its error, how deep it came, the names. -/
structure Ks where
  a : Nat
  e : Nat
  d : Nat
  nm : List (List Nat)
/-- A sign is read. -/
def sgS (l : List Nat) (b : Nat) (s : Ks) : Ks := { s with a := sgA l s.a s.e b, e := fl (noSign l s.a b) 2 s.e }
def armS (one : Ks → Ks) (l : List Nat) (b : Nat) (s : Ks) : Ks := if (sgS l b s).e = 0 then one (sgS l b s) else sgS l b s
/-- A type is read: its kind, where what lies within it ends. -/
def oneS (l : List Nat) : Nat → Nat → Ks → Nat × List Nat × Ks
  | 0, _, s => (0, [], s)
  | k + 1, deep, s =>
    let a1 := ptA l s.a s.e
    let e1 := fl (noLet l s.a) 2 s.e
    let kd := wordK ((l.drop s.a).take (a1 - s.a))
    let r := rs l (l.length + 2) a1 e1
    if a1 < r.1 ∨ kd = 0 then (0, [], ⟨r.1, fl (decide (kd ≠ 0)) 2 r.2, s.d, s.nm ++ [(l.drop s.a).take (r.1 - s.a)]⟩)
    else if innerK kd = 0 ∨ r.2 ≠ 0 then (kd, [], { s with a := r.1, e := r.2 })
    else
      let s3 : Ks := ⟨r.1, fl (decide (12 ≤ deep)) 6 r.2, max s.d (deep + 1), s.nm⟩
      let s4 := armS (fun s => (oneS l k (deep + 1) s).2.2) l 60 s3
      if innerK kd = 1 then (kd, [s4.a], sgS l 62 s4)
      else
        let s5 := armS (fun s => (oneS l k (deep + 1) s).2.2) l 44 s4
        (kd, [s4.a, s5.a], sgS l 62 s5)
/-- The cursor in memory. -/
structure CuS (F : FAW) (i : Nat) (l : List Nat) (s : Ks) (m : Nat) : Prop where
  cu : ∃ nm, Cu F i l s.a s.e nm s.d ∧ SlB F nm 9 (s.nm.map FV.s) m
  wf : Wf F
  ne : s.nm ≠ [] → m ≠ i
theorem Oth.std {F F' : FAW} {i : Nat} (h : Oth F F' i) (B : Nat → Prop) : Std F F' (fun j => j = i) B :=
  ⟨fun j r hj e => by rw [h.row j hj]; exact e, fun j r _ e => by rw [h.fam]; exact e, fun j r e => by rw [h.mp]; exact e, by rw [h.x]; exact Nat.le_refl _⟩
theorem Oth.wf {F F' : FAW} {i : Nat} (h : Oth F F' i) (hw : Wf F) {r} (hr : F.row i = some r) : Wf F' := by
  refine ⟨fun j q e => ?_, fun j q e => ?_, fun j q e => ?_⟩
  · rw [h.x]
    by_cases hj : j = i
    · subst hj; exact hw.row _ _ hr
    · rw [h.row j hj] at e; exact hw.row _ _ e
  · rw [h.x]; rw [h.fam] at e; exact hw.fam _ _ e
  · rw [h.x]; rw [h.mp] at e; exact hw.mp _ _ e
/-- Names are not touched where the cursor's row alone is told anew. -/
theorem SlB.oth {F F' : FAW} {i : Nat} (h : Oth F F' i) {v : FV} {el : Nat} {cs : List FV} {m : Nat} (hs : SlB F v el cs m) (hi : ∀ r, F.row i ≠ some (r, el, 1, m, false)) : SlB F' v el cs m := by
  rcases hs with hs | ⟨h1, j, mu, h2, h3, h4⟩
  · exact .inl hs
  · refine .inr ⟨h1, j, mu, h2, ?_, by rw [h.fam]; exact h4⟩
    rw [h.row j (by rintro rfl; exact hi _ h3)]; exact h3
theorem Cu.no1 {F : FAW} {i : Nat} {l : List Nat} {a e : Nat} {nm : FV} {d : Nat} (h : Cu F i l a e nm d) (el m : Nat) : ∀ r, F.row i ≠ some (r, el, 1, m, false) := by
  intro r hr
  obtain ⟨el', h1⟩ := h.row
  rw [h1] at hr
  simp at hr
theorem CuS.sign {F : FAW} {i : Nat} {l : List Nat} {s : Ks} {m : Nat} (h : CuS F i l s m) (hl : Bs l) (ha : s.a + 1 ≤ 9223372036854775807) (n b : Nat) :
    ∃ F', clU kindD (n + 2) 107 [.p i 0, .b b] F = .ok (.u []) F' ∧ CuS F' i l (sgS l b s) m ∧ Oth F F' i := by
  obtain ⟨nm, hc, hs⟩ := h.cu
  obtain ⟨F', e1, e2, e3⟩ := s107 n hc hl ha b
  obtain ⟨el, hr⟩ := hc.row
  exact ⟨F', e1, ⟨⟨nm, e2, hs.oth e3 (hc.no1 _ _)⟩, e3.wf h.wf hr, h.ne⟩, e3⟩
theorem CuS.fails {F : FAW} {i : Nat} {l : List Nat} {s : Ks} {m : Nat} (h : CuS F i l s m) (n : Nat) (b : Bool) (k : Nat) :
    ∃ F', clU kindD (n + 1) 92 [.p i 0, .t b, .n k] F = .ok (.u []) F' ∧ CuS F' i l { s with e := fl b k s.e } m ∧ Oth F F' i := by
  obtain ⟨nm, hc, hs⟩ := h.cu
  obtain ⟨e1, e2⟩ := s92 n hc b k
  have e3 := Oth.flM F i l s.a s.e nm s.d b k
  obtain ⟨el, hr⟩ := hc.row
  exact ⟨_, e1, ⟨⟨nm, e2, hs.oth e3 (hc.no1 _ _)⟩, e3.wf h.wf hr, h.ne⟩, e3⟩
theorem sgA_le {l : List Nat} {a e b : Nat} (h : a ≤ l.length) (he : fl (noSign l a b) 2 e = 0 → l[a]? = some b) : sgA l a e b ≤ l.length := by
  unfold sgA
  split
  · rename_i h0
    have := List.getElem?_eq_some_iff.mp (he h0)
    obtain ⟨h1, _⟩ := this
    omega
  · exact h
theorem fl_sign {l : List Nat} {a e b : Nat} (h : fl (noSign l a b) 2 e = 0) : l[a]? = some b := by
  unfold fl noSign at h
  by_cases hx : l[a]? = some b
  · exact hx
  · exfalso
    simp only [hx, ne_eq, not_false_eq_true, decide_true, Bool.true_and] at h
    split at h
    · cases h
    · rename_i he; simp at he; exact he h
theorem sgS_le {l : List Nat} {b : Nat} {s : Ks} (h : s.a ≤ l.length) : (sgS l b s).a ≤ l.length := sgA_le h fl_sign
/-- Ends are put behind the others. -/
theorem ends_ok {F : FAW} (hF : Wf F) {v : FV} {es : List Nat} {me : Nat} (h : SlB F v 3 (es.map FV.n) me) (hl : es.length ≤ 10) (x : Nat) :
    ∃ v' F' me', (∀ f : KU, uLitF 3 1 [(.n 0)] 1 [(0, 1, .n x)] F (fun v3 S => uApp 3 1 8 v v3 S f) = f v' F') ∧ SlB F' v' 3 ((es ++ [x]).map FV.n) me' ∧ Std F F' (fun _ => False) (fun q => q = me ∧ es ≠ []) ∧ Wf F' ∧ ((me' = me ∧ es ≠ []) ∨ F.x ≤ me') := by
  have hnew := hF.new [FV.n x] 3 1
  have hs := Std.new hF [FV.n x] 3 1 (fun _ => False) (fun q => q = me ∧ es ≠ [])
  have h1 : SlB (F.new [FV.n x] 3 1) v 3 (es.map FV.n) me := h.std (Std.new hF [FV.n x] 3 1 (fun _ => False) (fun _ => False)) (fun _ _ _ h => h) (fun _ h => h)
  obtain ⟨v', F', me', a1, a2, a3, a4, a5⟩ := app_one hnew h1 (fun c hc => by
      obtain ⟨y, _, rfl⟩ := List.mem_map.mp hc
      exact Fi.n y) (Fi.n x) (j := F.x) (by rw [row_new, if_pos rfl]) (bytes := 8) (by simp; omega) (by simp; omega)
  have hne : (es.map FV.n ≠ []) ↔ es ≠ [] := by simp
  refine ⟨v', F', me', fun f => ?_, by rw [List.map_append]; exact a2, hs.trans (a3.mono (fun _ h => h) (fun q hq => ⟨hq.1, hne.mp hq.2⟩)), a4, ?_⟩
  · have e1 : uLitF 3 1 [(.n 0)] 1 [(0, 1, .n x)] F (fun v3 S => uApp 3 1 8 v v3 S f) = newU [FV.n x] 3 1 F fun i F' => uApp 3 1 8 v (.l i 0 1 1) F' f := rfl
    rw [e1, newU_new]
    exact a1 f
  · rcases a5 with a5 | a5
    · exact .inl ⟨a5.1, hne.mp a5.2⟩
    · refine .inr (Nat.le_trans (Nat.le_succ _) a5)
end Go.Proofs.Ytgejdfhfgphcbaa.Ev
/- Kind: types as trees; what is read is a tree's text, and the other way about. No program in sight. -/
namespace Go.Proofs.Ytgejdfhfgphcbaa.Ev
open Go Go.RowKit
set_option linter.unusedVariables false
set_option linter.constructorNameAsVariable false
set_option linter.unusedSimpArgs false
set_option linter.unusedSectionVars false

def isIn (b : Nat) : Bool := isLet b || isDig b
/-- A part of a name. -/
def goodP (p : List Nat) : Prop := ∃ c r, p = c :: r ∧ isLet c = true ∧ r.all isIn = true
theorem goodP.all {p : List Nat} (h : goodP p) : p.all isIn = true := by
  obtain ⟨c, r, rfl, h1, h2⟩ := h
  simp only [List.all_cons, h2, Bool.and_true, isIn, h1, Bool.true_or]
theorem goodP.pos {p : List Nat} (h : goodP p) : 0 < p.length := by
  obtain ⟨c, r, rfl, h1, h2⟩ := h
  simp
/-- Nothing that goes on with a part of a name. -/
def noIn (m : List Nat) : Prop := ∀ b, m.head? = some b → isIn b = false
/-- Nothing that goes on with a name. -/
def stopd (m : List Nat) : Prop := ∀ b, m.head? = some b → isIn b = false ∧ b ≠ 46
def flatP (ps : List (List Nat)) : List Nat := (ps.map fun p => 46 :: p).flatten
theorem flatP_cons (p : List Nat) (ps : List (List Nat)) : flatP (p :: ps) = 46 :: (p ++ flatP ps) := by simp [flatP]
theorem takeW {p m : List Nat} (h : p.all isIn = true) (hm : noIn m) : (p ++ m).takeWhile (fun b => isLet b || isDig b) = p := by
  induction p with
  | nil =>
    cases m with
    | nil => rfl
    | cons b m =>
      have := hm b rfl
      simp only [isIn] at this
      simp [List.takeWhile_cons, this]
  | cons c p ih =>
    simp only [List.all_cons, Bool.and_eq_true] at h
    have h1 := h.1
    simp only [isIn] at h1
    rw [List.cons_append, List.takeWhile_cons, h1]
    simp [ih h.2]
theorem all_tw (p : Nat → Bool) : ∀ (l : List Nat) (x : Nat), x ∈ l.takeWhile p → p x = true
  | [], x, h => by simp at h
  | a :: l, x, h => by
    rw [List.takeWhile_cons] at h
    split at h
    · rcases List.mem_cons.mp h with rfl | h
      · assumption
      · exact all_tw p l x h
    · cases h
theorem getD {l m : List Nat} {a : Nat} (h : l.drop a = m) : l[a]? = m.head? := by
  rw [← h, List.head?_drop]
theorem dropD {l m p : List Nat} {a : Nat} (h : l.drop a = p ++ m) : l.drop (a + p.length) = m := by
  rw [← List.drop_drop, h, List.drop_left]
theorem fl_t (k : Nat) : fl true k 0 = k := rfl
theorem fl_f (k e : Nat) : fl false k e = e := rfl
theorem fl_ne {b : Bool} {k e : Nat} (h : e ≠ 0) : fl b k e = e := by
  unfold fl
  have : (e == 0) = false := by simpa using h
  rw [this, Bool.and_false]; rfl
theorem part_in {l p m : List Nat} {a : Nat} (hp : goodP p) (hm : noIn m) (h : l.drop a = p ++ m) : noLet l a = false ∧ ptA l a 0 = a + p.length := by
  have h1 : noLet l a = false := by
    obtain ⟨c, r, rfl, h1, h2⟩ := hp
    unfold noLet
    rw [getD h]
    simp [h1]
  refine ⟨h1, ?_⟩
  unfold ptA
  rw [h1, fl_f, if_pos rfl]
  unfold munch
  rw [h, takeW hp.all hm]
theorem flat_noIn {ps : List (List Nat)} {m : List Nat} (hm : noIn m) : noIn (flatP ps ++ m) := by
  cases ps with
  | nil => exact hm
  | cons p ps =>
    intro b hb
    rw [flatP_cons] at hb
    simp only [List.cons_append, List.head?_cons, Option.some.injEq] at hb
    subst hb; rfl
theorem stopd.noIn {m : List Nat} (h : stopd m) : noIn m := fun b hb => (h b hb).1
theorem rs_in {l m : List Nat} (hm : stopd m) : ∀ (ps : List (List Nat)) (k a : Nat), (∀ p ∈ ps, goodP p) → l.drop a = flatP ps ++ m → ps.length < k → rs l k a 0 = (a + (flatP ps).length, 0)
  | [], k + 1, a, _, h, _ => by
    unfold rs
    rw [if_neg]
    · rfl
    · rintro ⟨_, h2⟩
      rw [getD h] at h2
      exact (hm 46 h2).2 rfl
  | p :: ps, k + 1, a, hp, h, hk => by
    unfold rs
    rw [flatP_cons] at h
    rw [if_pos ⟨rfl, by rw [getD h]; rfl⟩]
    have h' : l.drop (a + 1) = p ++ (flatP ps ++ m) := by
      have := dropD (l := l) (p := [46]) (m := p ++ (flatP ps ++ m)) (a := a) (by rw [h]; simp)
      exact this
    obtain ⟨e1, e2⟩ := part_in (hp p (by simp)) (flat_noIn hm.noIn) h'
    rw [e1, e2, fl_f, rs_in hm ps k _ (fun q hq => hp q (by simp [hq])) (dropD h') (by simp at hk; omega), flatP_cons]
    simp only [List.length_cons, List.length_append, Prod.mk.injEq, and_true]
    omega
/-- What is read as a part is one. -/
theorem part_out {l : List Nat} {a : Nat} (h : noLet l a = false) : ∃ p, goodP p ∧ l.drop a = p ++ l.drop (a + p.length) ∧ ptA l a 0 = a + p.length ∧ noIn (l.drop (a + p.length)) := by
  have h1 : ptA l a 0 = munch l a := by unfold ptA; rw [h, fl_f, if_pos rfl]
  generalize hp : (l.drop a).takeWhile (fun b => isLet b || isDig b) = p at *
  have h2 : munch l a = a + p.length := by unfold munch; rw [hp]
  have h3 : l.drop a = p ++ (l.drop a).dropWhile (fun b => isLet b || isDig b) := by rw [← hp, List.takeWhile_append_dropWhile]
  have h4 := dropD h3
  refine ⟨p, ?_, by rw [h4]; exact h3, h1.trans h2, ?_⟩
  · unfold noLet at h
    cases hx : l[a]? with
    | none => rw [hx] at h; cases h
    | some b =>
      rw [hx] at h
      have hb : isLet b = true := by simpa using h
      have ha := List.getElem?_eq_some_iff.mp hx
      obtain ⟨hlt, hb2⟩ := ha
      rw [List.drop_eq_getElem_cons hlt, hb2, List.takeWhile_cons, hb] at hp
      simp only [Bool.true_or, if_true] at hp
      refine ⟨b, _, hp.symm, hb, ?_⟩
      rw [List.all_eq_true]
      intro x hx
      exact all_tw _ _ x hx
  · rw [h4]
    intro b hb
    have := List.head?_dropWhile_not (p := fun b => isLet b || isDig b) (l := l.drop a)
    rw [hb] at this
    simpa [isIn] using this
theorem rs_out {l : List Nat} : ∀ (k a a' : Nat), l.length < a + k → rs l k a 0 = (a', 0) → noIn (l.drop a) → ∃ ps, (∀ p ∈ ps, goodP p) ∧ l.drop a = flatP ps ++ l.drop a' ∧ a' = a + (flatP ps).length ∧ stopd (l.drop a')
  | 0, a, a', hk, h, hn => by
    simp only [rs, Prod.mk.injEq, and_true] at h
    subst h
    refine ⟨[], by simp, rfl, rfl, ?_⟩
    rw [List.drop_eq_nil_of_le (by omega)]
    intro b hb; cases hb
  | k + 1, a, a', hk, h, hn => by
    unfold rs at h
    by_cases hc : (0:Nat) = 0 ∧ l[a]? = some 46
    · rw [if_pos hc] at h
      by_cases hl : noLet l (a + 1) = true
      · rw [hl, fl_t] at h
        have : ∀ k a, rs l k a 2 = (a, 2) := by
          intro k a
          cases k with
          | zero => rfl
          | succ k => unfold rs; rw [if_neg (by rintro ⟨h, _⟩; cases h)]
        rw [this] at h
        simp at h
      · have hl : noLet l (a + 1) = false := by simpa using hl
        obtain ⟨p, h1, h2, h3, h4⟩ := part_out hl
        rw [hl, fl_f, h3] at h
        have hp := h1.pos
        obtain ⟨ps, k1, k2, k3, k4⟩ := rs_out k (a + 1 + p.length) a' (by omega) h h4
        refine ⟨p :: ps, ?_, ?_, ?_, k4⟩
        · intro q hq
          rcases List.mem_cons.mp hq with rfl | hq
          · exact h1
          · exact k1 q hq
        · have hx := List.getElem?_eq_some_iff.mp hc.2
          obtain ⟨hlt, hb2⟩ := hx
          rw [List.drop_eq_getElem_cons hlt, hb2, h2, k2, flatP_cons]
          simp
        · rw [k3, flatP_cons]
          simp only [List.length_cons, List.length_append]
          omega
    · rw [if_neg hc] at h
      simp only [Prod.mk.injEq, and_true] at h
      subst h
      refine ⟨[], by simp, rfl, rfl, ?_⟩
      intro b hb
      refine ⟨hn b hb, ?_⟩
      rintro rfl
      exact hc ⟨rfl, by rw [← List.head?_drop]; exact hb⟩

/-- Types. -/
inductive Ty where
  | nm (p : List Nat) (ps : List (List Nat))
  | wd (w : List Nat)
  | l1 (w : List Nat) (a : Ty)
  | l2 (w : List Nat) (a b : Ty)
namespace Ty
def txt : Ty → List Nat
  | .nm p ps => p ++ flatP ps
  | .wd w => w
  | .l1 w a => w ++ 60 :: (txt a ++ [62])
  | .l2 w a b => w ++ 60 :: (txt a ++ 44 :: (txt b ++ [62]))
def dep : Ty → Nat
  | .nm _ _ => 0
  | .wd _ => 0
  | .l1 _ a => dep a + 1
  | .l2 _ a b => max (dep a) (dep b) + 1
def nms : Ty → List (List Nat)
  | .nm p ps => [p ++ flatP ps]
  | .wd _ => []
  | .l1 _ a => nms a
  | .l2 _ a b => nms a ++ nms b
def knd : Ty → Nat
  | .nm _ _ => 0
  | .wd w => wordK w
  | .l1 w _ => wordK w
  | .l2 w _ _ => wordK w
def ends : Ty → Nat → List Nat
  | .nm _ _, _ => []
  | .wd _, _ => []
  | .l1 w a, n => [n + w.length + 1 + a.txt.length]
  | .l2 w a b, n => [n + w.length + 1 + a.txt.length, n + w.length + 1 + a.txt.length + 1 + b.txt.length]
def wf : Ty → Prop
  | .nm p ps => goodP p ∧ (∀ q ∈ ps, goodP q) ∧ wordK p = 0
  | .wd w => goodP w ∧ wordK w ≠ 0 ∧ innerK (wordK w) = 0
  | .l1 w a => goodP w ∧ innerK (wordK w) = 1 ∧ wf a
  | .l2 w a b => goodP w ∧ innerK (wordK w) = 2 ∧ wf a ∧ wf b
end Ty
theorem take_len {p m : List Nat} {l : List Nat} {a : Nat} (h : l.drop a = p ++ m) : (l.drop a).take (a + p.length - a) = p := by
  rw [h, Nat.add_sub_cancel_left, List.take_left]
theorem len_of {l p m : List Nat} {a : Nat} (h : l.drop a = p ++ m) : p.length + m.length = l.length - a := by
  have := congrArg List.length h
  simp at this; omega
theorem stopd_sign {b : Nat} (m : List Nat) (h : isIn b = false) (h2 : b ≠ 46) : stopd (b :: m) := by
  intro c hc
  simp only [List.head?_cons, Option.some.injEq] at hc
  subst hc
  exact ⟨h, h2⟩
theorem sg_in {l m : List Nat} {b : Nat} {s : Ks} (he : s.e = 0) (h : l.drop s.a = b :: m) : sgS l b s = { s with a := s.a + 1 } := by
  have h1 : noSign l s.a b = false := by
    unfold noSign
    rw [getD h]; simp
  unfold sgS sgA
  rw [h1, fl_f, he, if_pos rfl]
theorem sg_e {l : List Nat} {b : Nat} {s : Ks} (he : s.e ≠ 0) : sgS l b s = s := by
  unfold sgS sgA
  rw [fl_ne he, if_neg he]
theorem arm_e {one : Ks → Ks} {l : List Nat} {b : Nat} {s : Ks} (he : s.e ≠ 0) : armS one l b s = s := by
  unfold armS
  rw [sg_e he, if_neg he]
theorem innerK_ne {k n : Nat} (h : innerK k = n + 1) : k ≠ 0 := by
  rintro rfl
  simp [innerK] at h
/-- A head that is a word. -/
theorem one_word {l w m : List Nat} {k deep : Nat} {s : Ks} (hw : goodP w) (hm : stopd m) (he : s.e = 0) (h : l.drop s.a = w ++ m) (hk : wordK w ≠ 0) :
    oneS l (k + 1) deep s =
    if innerK (wordK w) = 0 then (wordK w, [], { s with a := s.a + w.length, e := 0 })
    else
      let s3 : Ks := ⟨s.a + w.length, fl (decide (12 ≤ deep)) 6 0, max s.d (deep + 1), s.nm⟩
      let s4 := armS (fun s => (oneS l k (deep + 1) s).2.2) l 60 s3
      if innerK (wordK w) = 1 then (wordK w, [s4.a], sgS l 62 s4)
      else
        let s5 := armS (fun s => (oneS l k (deep + 1) s).2.2) l 44 s4
        (wordK w, [s4.a, s5.a], sgS l 62 s5) := by
  obtain ⟨e1, e2⟩ := part_in hw hm.noIn h
  have e3 : rs l (l.length + 2) (s.a + w.length) 0 = (s.a + w.length, 0) := rs_in hm [] _ _ (by simp) (dropD h) (by simp)
  rw [oneS]
  simp only [he, e1, e2, fl_f, take_len h, e3, Nat.lt_irrefl, false_or, hk, if_false, ne_eq, not_true_eq_false, or_false]
theorem one_name {l p m : List Nat} {ps : List (List Nat)} {k deep : Nat} {s : Ks} (hp : goodP p) (hps : ∀ q ∈ ps, goodP q) (hm : stopd m) (he : s.e = 0) (h : l.drop s.a = (p ++ flatP ps) ++ m) (hk : ps ≠ [] ∨ wordK p = 0) :
    oneS l (k + 1) deep s = (0, [], ⟨s.a + (p ++ flatP ps).length, fl (decide (wordK p ≠ 0)) 2 0, s.d, s.nm ++ [p ++ flatP ps]⟩) := by
  have h' : l.drop s.a = p ++ (flatP ps ++ m) := by rw [h, List.append_assoc]
  obtain ⟨e1, e2⟩ := part_in hp (flat_noIn hm.noIn) h'
  have hlen : ps.length ≤ (flatP ps).length := by
    clear h h' hk hps
    induction ps with
    | nil => simp
    | cons q ps ih => rw [flatP_cons]; simp; omega
  have hle := len_of h
  simp only [List.length_append] at hle
  have e3 : rs l (l.length + 2) (s.a + p.length) 0 = (s.a + p.length + (flatP ps).length, 0) := rs_in hm ps _ _ hps (dropD h') (by omega)
  have e4 : s.a + p.length + (flatP ps).length = s.a + (p ++ flatP ps).length := by simp; omega
  have hc : s.a + p.length < s.a + (p ++ flatP ps).length ∨ wordK p = 0 := by
    rcases hk with hk | hk
    · left
      cases ps with
      | nil => exact absurd rfl hk
      | cons q ps => rw [flatP_cons]; simp
    · exact .inr hk
  rw [oneS]
  simp only [he, e1, e2, fl_f, take_len h', e3, e4, take_len h, if_pos hc]
def Ty.ctx : Ty → List Nat → Prop
  | .nm _ _, m => stopd m
  | .wd _, m => stopd m
  | _, _ => True
theorem Ty.ctx_of {T : Ty} {m : List Nat} (h : stopd m) : T.ctx m := by
  cases T <;> first | exact h | exact trivial
theorem one_in : ∀ (T : Ty) (l m : List Nat) (k deep : Nat) (s : Ks), T.wf → T.ctx m → s.e = 0 → l.drop s.a = T.txt ++ m → 12 < deep + k → deep ≤ s.d →
    (deep + T.dep ≤ 12 → oneS l k deep s = (T.knd, T.ends s.a, ⟨s.a + T.txt.length, 0, max s.d (deep + T.dep), s.nm ++ T.nms⟩)) ∧ (deep ≤ 12 → 12 < deep + T.dep → (oneS l k deep s).2.2.e = 6)
  | T, l, m, 0, deep, s, hw, hm, he, h, hk, hd => ⟨fun _ => by omega, fun _ => by omega⟩
  | .nm p ps, l, m, k + 1, deep, s, hw, hm, he, h, hk, hd => by
    refine ⟨fun _ => ?_, fun h1 h2 => ?_⟩
    · rw [one_name hw.1 hw.2.1 hm he h (.inr hw.2.2)]
      simp only [hw.2.2, ne_eq, not_true_eq_false, decide_false, fl_f, Ty.knd, Ty.ends, Ty.txt, Ty.dep, Ty.nms, Nat.add_zero, Nat.max_eq_left hd]
    · simp only [Ty.dep] at h2; omega
  | .wd w, l, m, k + 1, deep, s, hw, hm, he, h, hk, hd => by
    refine ⟨fun _ => ?_, fun h1 h2 => ?_⟩
    · rw [one_word hw.1 hm he h hw.2.1, if_pos hw.2.2]
      simp only [Ty.knd, Ty.ends, Ty.txt, Ty.dep, Ty.nms, Nat.add_zero, Nat.max_eq_left hd, List.append_nil]
    · simp only [Ty.dep] at h2; omega
  | .l1 w a, l, m, k + 1, deep, s, hw, hm, he, h, hk, hd => by
    obtain ⟨h1, h2, h3⟩ := hw
    have hne := innerK_ne h2
    have h' : l.drop s.a = w ++ (60 :: (a.txt ++ ([62] ++ m))) := by rw [h]; simp [Ty.txt]
    have hm' : stopd (60 :: (a.txt ++ ([62] ++ m))) := stopd_sign _ rfl (by decide)
    rw [one_word h1 hm' he h' hne, if_neg (by omega)]
    simp only [if_pos h2]
    have hk' : 12 < deep + 1 + k := by omega
    by_cases hdeep : 12 ≤ deep
    · refine ⟨fun hx => by simp only [Ty.dep] at hx; omega, fun _ _ => ?_⟩
      rw [decide_eq_true hdeep, fl_t, arm_e (by simp), sg_e (by simp)]
    · rw [decide_eq_false hdeep, fl_f]
      have d1 := dropD h'
      have e1 := sg_in (l := l) (b := 60) (s := ⟨s.a + w.length, 0, max s.d (deep + 1), s.nm⟩) rfl d1
      have d2 : l.drop (s.a + w.length + 1) = a.txt ++ ([62] ++ m) := dropD (p := [60]) (by simpa using d1)
      have ih := one_in a l ([62] ++ m) k (deep + 1) ⟨s.a + w.length + 1, 0, max s.d (deep + 1), s.nm⟩ h3 (Ty.ctx_of (stopd_sign _ rfl (by decide))) rfl d2 hk' (by simp; omega)
      have e2 : armS (fun s => (oneS l k (deep + 1) s).2.2) l 60 ⟨s.a + w.length, 0, max s.d (deep + 1), s.nm⟩ = (oneS l k (deep + 1) ⟨s.a + w.length + 1, 0, max s.d (deep + 1), s.nm⟩).2.2 := by
        unfold armS
        rw [e1, if_pos rfl]
      rw [e2]
      refine ⟨fun hx => ?_, fun hx hy => ?_⟩
      · simp only [Ty.dep] at hx
        rw [ih.1 (by omega)]
        have d3 : l.drop (s.a + w.length + 1 + a.txt.length) = 62 :: m := dropD d2
        rw [sg_in (s := ⟨s.a + w.length + 1 + a.txt.length, 0, max (max s.d (deep + 1)) (deep + 1 + a.dep), s.nm ++ a.nms⟩) rfl d3]
        have e5 : max (max s.d (deep + 1)) (deep + 1 + a.dep) = max s.d (deep + (a.dep + 1)) := by omega
        simp only [Ty.knd, Ty.ends, Ty.txt, Ty.dep, Ty.nms, e5, List.length_append, List.length_cons, List.length_nil]
        rw [show s.a + w.length + 1 + a.txt.length + 1 = s.a + (w.length + (a.txt.length + (0 + 1) + 1)) by omega]
      · simp only [Ty.dep] at hy
        have := ih.2 (by omega) (by omega)
        rw [sg_e (by rw [this]; simp)]
        exact this
  | .l2 w a b, l, m, k + 1, deep, s, hw, hm, he, h, hk, hd => by
    obtain ⟨h1, h2, h3, h4⟩ := hw
    have hne := innerK_ne h2
    have h' : l.drop s.a = w ++ (60 :: (a.txt ++ (44 :: (b.txt ++ ([62] ++ m))))) := by rw [h]; simp [Ty.txt]
    rw [one_word h1 (stopd_sign _ rfl (by decide)) he h' hne, if_neg (by omega)]
    simp only [if_neg (show ¬ innerK (wordK w) = 1 by omega)]
    have hk1 : 12 < deep + 1 + k := by omega
    by_cases hdeep : 12 ≤ deep
    · refine ⟨fun hx => by simp only [Ty.dep] at hx; omega, fun _ _ => ?_⟩
      have e6 : armS (fun s => (oneS l k (deep + 1) s).2.2) l 60 ⟨s.a + w.length, 6, max s.d (deep + 1), s.nm⟩ = ⟨s.a + w.length, 6, max s.d (deep + 1), s.nm⟩ := arm_e (by simp)
      rw [decide_eq_true hdeep, fl_t]
      simp only [e6]
      rw [arm_e (by simp), sg_e (by simp)]
    · rw [decide_eq_false hdeep, fl_f]
      have d1 := dropD h'
      have e1 := sg_in (l := l) (b := 60) (s := ⟨s.a + w.length, 0, max s.d (deep + 1), s.nm⟩) rfl d1
      have d2 : l.drop (s.a + w.length + 1) = a.txt ++ (44 :: (b.txt ++ ([62] ++ m))) := dropD (p := [60]) (by simpa using d1)
      have ih := one_in a l (44 :: (b.txt ++ ([62] ++ m))) k (deep + 1) ⟨s.a + w.length + 1, 0, max s.d (deep + 1), s.nm⟩ h3 (Ty.ctx_of (stopd_sign _ rfl (by decide))) rfl d2 hk1 (by simp; omega)
      have e2 : armS (fun s => (oneS l k (deep + 1) s).2.2) l 60 ⟨s.a + w.length, 0, max s.d (deep + 1), s.nm⟩ = (oneS l k (deep + 1) ⟨s.a + w.length + 1, 0, max s.d (deep + 1), s.nm⟩).2.2 := by
        unfold armS
        rw [e1, if_pos rfl]
      rw [e2]
      by_cases ha : deep + 1 + a.dep ≤ 12
      · rw [ih.1 ha]
        have d3 : l.drop (s.a + w.length + 1 + a.txt.length) = 44 :: (b.txt ++ ([62] ++ m)) := dropD d2
        have e3 := sg_in (l := l) (b := 44) (s := ⟨s.a + w.length + 1 + a.txt.length, 0, max (max s.d (deep + 1)) (deep + 1 + a.dep), s.nm ++ a.nms⟩) rfl d3
        have d4 : l.drop (s.a + w.length + 1 + a.txt.length + 1) = b.txt ++ ([62] ++ m) := dropD (p := [44]) (by simpa using d3)
        have ih2 := one_in b l ([62] ++ m) k (deep + 1) ⟨s.a + w.length + 1 + a.txt.length + 1, 0, max (max s.d (deep + 1)) (deep + 1 + a.dep), s.nm ++ a.nms⟩ h4 (Ty.ctx_of (stopd_sign _ rfl (by decide))) rfl d4 hk1 (by simp; omega)
        have e4 : armS (fun s => (oneS l k (deep + 1) s).2.2) l 44 ⟨s.a + w.length + 1 + a.txt.length, 0, max (max s.d (deep + 1)) (deep + 1 + a.dep), s.nm ++ a.nms⟩ = (oneS l k (deep + 1) ⟨s.a + w.length + 1 + a.txt.length + 1, 0, max (max s.d (deep + 1)) (deep + 1 + a.dep), s.nm ++ a.nms⟩).2.2 := by
          unfold armS
          rw [e3, if_pos rfl]
        simp only [e4]
        refine ⟨fun hx => ?_, fun hx hy => ?_⟩
        · simp only [Ty.dep] at hx
          rw [ih2.1 (by omega)]
          have d5 : l.drop (s.a + w.length + 1 + a.txt.length + 1 + b.txt.length) = 62 :: m := dropD d4
          simp only
          rw [sg_in (s := ⟨s.a + w.length + 1 + a.txt.length + 1 + b.txt.length, 0, max (max (max s.d (deep + 1)) (deep + 1 + a.dep)) (deep + 1 + b.dep), s.nm ++ a.nms ++ b.nms⟩) rfl d5]
          have e5 : max (max (max s.d (deep + 1)) (deep + 1 + a.dep)) (deep + 1 + b.dep) = max s.d (deep + (max a.dep b.dep + 1)) := by omega
          simp only [Ty.knd, Ty.ends, Ty.txt, Ty.dep, Ty.nms, e5, List.length_append, List.length_cons, List.length_nil, List.append_assoc]
          rw [show s.a + w.length + 1 + a.txt.length + 1 + b.txt.length + 1 = s.a + (w.length + (a.txt.length + (b.txt.length + (0 + 1) + 1) + 1)) by omega]
        · simp only [Ty.dep] at hy
          have := ih2.2 (by omega) (by omega)
          rw [sg_e (by rw [this]; simp)]
          exact this
      · refine ⟨fun hx => by simp only [Ty.dep] at hx; omega, fun hx hy => ?_⟩
        have := ih.2 (by omega) (by omega)
        simp only [arm_e (show (oneS l k (deep + 1) ⟨s.a + w.length + 1, 0, max s.d (deep + 1), s.nm⟩).2.2.e ≠ 0 by rw [this]; simp)]
        rw [sg_e (by rw [this]; simp)]
        exact this

theorem sg_out {l : List Nat} {b : Nat} {s : Ks} (h : (sgS l b s).e = 0) : s.e = 0 ∧ l.drop s.a = b :: l.drop (s.a + 1) ∧ sgS l b s = { s with a := s.a + 1 } := by
  have he : s.e = 0 := by
    by_cases he : s.e = 0
    · exact he
    · rw [sg_e he] at h; exact absurd h he
  have hx : l[s.a]? = some b := by
    by_cases hx : l[s.a]? = some b
    · exact hx
    · have : (sgS l b s).e = 2 := by
        unfold sgS noSign
        simp only [he, ne_eq, hx, not_false_eq_true, decide_true, fl_t]
      rw [this] at h; cases h
  obtain ⟨hlt, hb⟩ := List.getElem?_eq_some_iff.mp hx
  have hd : l.drop s.a = b :: l.drop (s.a + 1) := by rw [List.drop_eq_getElem_cons hlt, hb]
  exact ⟨he, hd, sg_in he hd⟩
theorem arm_out {one : Ks → Ks} {l : List Nat} {b : Nat} {s : Ks} (h : (armS one l b s).e = 0) : (sgS l b s).e = 0 ∧ armS one l b s = one (sgS l b s) := by
  unfold armS at h ⊢
  by_cases he : (sgS l b s).e = 0
  · rw [if_pos he]; exact ⟨he, rfl⟩
  · rw [if_neg he] at h; exact absurd h he
theorem rs_2 (l : List Nat) (k a e : Nat) (he : e ≠ 0) : rs l k a e = (a, e) := by
  cases k with
  | zero => rfl
  | succ k => unfold rs; rw [if_neg (fun h => he h.1)]
theorem rs_e (l : List Nat) : ∀ (k a e : Nat), e ≠ 0 → (rs l k a e).2 ≠ 0 := fun k a e he => by rw [rs_2 l k a e he]; exact he
theorem innerK_le (k : Nat) : innerK k ≤ 2 := by
  unfold innerK
  split
  · omega
  · split <;> omega
theorem one_out (l : List Nat) : ∀ (k deep : Nat) (s : Ks), s.e = 0 → deep ≤ s.d → deep ≤ 12 → 12 < deep + k → (oneS l k deep s).2.2.e = 0 → ∃ (T : Ty) (m : List Nat), T.wf ∧ T.ctx m ∧ l.drop s.a = T.txt ++ m ∧ deep + T.dep ≤ 12
  | 0, deep, s, he, hd, h12, hk, h => by omega
  | k + 1, deep, s, he, hd, h12, hk, h => by
    by_cases hl : noLet l s.a = true
    · exfalso
      rw [oneS] at h
      have e1 : ptA l s.a 0 = s.a := by unfold ptA; rw [hl, fl_t, if_neg (by decide)]
      have e2 : wordK ((l.drop s.a).take (s.a - s.a)) = 0 := by rw [Nat.sub_self, List.take_zero]; rfl
      simp only [he, e1, hl, fl_t, e2, or_true, if_true, rs_2 l _ s.a 2 (by decide)] at h
      rw [fl_ne (by decide)] at h
      cases h
    · have hl : noLet l s.a = false := by simpa using hl
      obtain ⟨p, h1, h2, h3, h4⟩ := part_out hl
      cases hr : rs l (l.length + 2) (s.a + p.length) 0 with
      | mk a' e' =>
        by_cases he' : e' = 0
        · subst he'
          obtain ⟨ps, k1, k2, k3, k4⟩ := rs_out (l.length + 2) (s.a + p.length) a' (by omega) hr h4
          have h5 : l.drop s.a = (p ++ flatP ps) ++ l.drop a' := by rw [h2, k2, List.append_assoc]
          by_cases hc : ps ≠ [] ∨ wordK p = 0
          · rw [one_name h1 k1 k4 he h5 hc] at h
            have hw : wordK p = 0 := by
              by_cases hw : wordK p = 0
              · exact hw
              · simp only [hw, ne_eq, not_false_eq_true, decide_true, fl_t] at h
                cases h
            exact ⟨.nm p ps, l.drop a', ⟨h1, k1, hw⟩, k4, h5, by simp only [Ty.dep]; omega⟩
          · have hps : ps = [] := by
              by_cases hps : ps = []
              · exact hps
              · exact absurd (.inl hps) hc
            have hw : wordK p ≠ 0 := fun hw => hc (.inr hw)
            subst hps
            have h6 : l.drop s.a = p ++ l.drop a' := by simpa [flatP] using h5
            rw [one_word h1 k4 he h6 hw] at h
            have h6' : l.drop a' = l.drop (s.a + p.length) := (dropD h6).symm
            have hin := innerK_le (wordK p)
            by_cases i0 : innerK (wordK p) = 0
            · exact ⟨.wd p, l.drop a', ⟨h1, hw, i0⟩, k4, h6, by simp only [Ty.dep]; omega⟩
            · rw [if_neg i0] at h
              have hdeep : ¬ 12 ≤ deep := by
                intro hdeep
                have e6 : armS (fun s => (oneS l k (deep + 1) s).2.2) l 60 ⟨s.a + p.length, 6, max s.d (deep + 1), s.nm⟩ = ⟨s.a + p.length, 6, max s.d (deep + 1), s.nm⟩ := arm_e (by simp)
                have e7 : armS (fun s => (oneS l k (deep + 1) s).2.2) l 44 ⟨s.a + p.length, 6, max s.d (deep + 1), s.nm⟩ = ⟨s.a + p.length, 6, max s.d (deep + 1), s.nm⟩ := arm_e (by simp)
                have e8 : sgS l 62 ⟨s.a + p.length, 6, max s.d (deep + 1), s.nm⟩ = ⟨s.a + p.length, 6, max s.d (deep + 1), s.nm⟩ := sg_e (by simp)
                rw [decide_eq_true hdeep, fl_t] at h
                simp only [e6, e7, e8] at h
                split at h <;> cases h
              rw [decide_eq_false hdeep, fl_f] at h
              by_cases i1 : innerK (wordK p) = 1
              · simp only [if_pos i1] at h
                obtain ⟨g1, g2, g3⟩ := sg_out h
                obtain ⟨g4, g5⟩ := arm_out g1
                obtain ⟨g6, g7, g8⟩ := sg_out g4
                rw [g5] at g1 g2 g3
                rw [g8] at g1 g2 g3
                simp only at g1 g2 g3 g7 g8
                obtain ⟨T, m, t1, t2, t3, t4⟩ := one_out l k (deep + 1) ⟨s.a + p.length + 1, 0, max s.d (deep + 1), s.nm⟩ rfl (by simp; omega) (by omega) (by omega) g1
                have q1 := (one_in T l m k (deep + 1) ⟨s.a + p.length + 1, 0, max s.d (deep + 1), s.nm⟩ t1 t2 rfl t3 (by omega) (by simp; omega)).1 t4
                rw [q1] at g2
                simp only at g2 t3
                have q2 := dropD t3
                rw [q2] at g2
                refine ⟨.l1 p T, l.drop (s.a + p.length + 1 + T.txt.length + 1), ⟨h1, i1, t1⟩, ?_, ?_, by simp only [Ty.dep]; omega⟩
                · exact trivial
                · rw [h2, g7, t3, g2]
                  simp [Ty.txt]
              · simp only [if_neg i1] at h
                obtain ⟨g1, g2, g3⟩ := sg_out h
                obtain ⟨g4, g5⟩ := arm_out g1
                obtain ⟨g6, g7, g8⟩ := sg_out g4
                obtain ⟨f1, f2⟩ := arm_out g6
                obtain ⟨f3, f4, f5⟩ := sg_out f1
                rw [g5, g8] at g1 g2
                rw [f2, f5] at g1 g2 g6 g7
                simp only at g1 g2 g6 g7 f4 f5
                obtain ⟨T, m, t1, t2, t3, t4⟩ := one_out l k (deep + 1) ⟨s.a + p.length + 1, 0, max s.d (deep + 1), s.nm⟩ rfl (by simp; omega) (by omega) (by omega) g6
                have q1 := (one_in T l m k (deep + 1) ⟨s.a + p.length + 1, 0, max s.d (deep + 1), s.nm⟩ t1 t2 rfl t3 (by omega) (by simp; omega)).1 t4
                rw [q1] at g1 g2 g7
                simp only at g1 g2 g7 t3
                have q2 := dropD t3
                rw [q2] at g7
                obtain ⟨U, o, u1, u2, u3, u4⟩ := one_out l k (deep + 1) ⟨s.a + p.length + 1 + T.txt.length + 1, 0, max (max s.d (deep + 1)) (deep + 1 + T.dep), s.nm ++ T.nms⟩ rfl (by simp; omega) (by omega) (by omega) g1
                have q3 := (one_in U l o k (deep + 1) ⟨s.a + p.length + 1 + T.txt.length + 1, 0, max (max s.d (deep + 1)) (deep + 1 + T.dep), s.nm ++ T.nms⟩ u1 u2 rfl u3 (by omega) (by simp; omega)).1 u4
                rw [q3] at g2
                simp only at g2 u3
                have q4 := dropD u3
                rw [q4] at g2
                refine ⟨.l2 p T U, l.drop (s.a + p.length + 1 + T.txt.length + 1 + U.txt.length + 1), ⟨h1, by omega, t1, u1⟩, trivial, ?_, by simp only [Ty.dep]; omega⟩
                rw [h2, f4, t3, g7, u3, g2]
                simp [Ty.txt]
        · exfalso
          rw [oneS] at h
          simp only [he, h3, hl, fl_f, hr] at h
          split at h
          · rw [fl_ne he'] at h; exact he' h
          · rw [if_pos (.inr he')] at h
            exact he' h
/-- A whole text is read. -/
def readS (l : List Nat) : Nat × List Nat × Ks :=
  ((oneS l 14 0 ⟨0, 0, 0, []⟩).1, (oneS l 14 0 ⟨0, 0, 0, []⟩).2.1, { (oneS l 14 0 ⟨0, 0, 0, []⟩).2.2 with e := fl (decide ((oneS l 14 0 ⟨0, 0, 0, []⟩).2.2.a < l.length)) 2 (oneS l 14 0 ⟨0, 0, 0, []⟩).2.2.e })
theorem stopd_nil : stopd [] := fun b hb => by cases hb
theorem read_in {T : Ty} (h : T.wf) (hd : T.dep ≤ 12) : readS T.txt = (T.knd, T.ends 0, ⟨T.txt.length, 0, T.dep, T.nms⟩) := by
  have := (one_in T T.txt [] 14 0 ⟨0, 0, 0, []⟩ h (Ty.ctx_of stopd_nil) rfl (by simp) (by omega) (by simp)).1 (by omega)
  unfold readS
  rw [this]
  simp [fl_f]
theorem read_deep {T : Ty} (h : T.wf) (hd : 12 < T.dep) : (readS T.txt).2.2.e = 6 := by
  have := (one_in T T.txt [] 14 0 ⟨0, 0, 0, []⟩ h (Ty.ctx_of stopd_nil) rfl (by simp) (by omega) (by simp)).2 (by omega) (by omega)
  unfold readS
  simp only [this]
  exact fl_ne (by decide)
theorem read_out {l : List Nat} (h : (readS l).2.2.e = 0) : ∃ T : Ty, T.wf ∧ l = T.txt ∧ T.dep ≤ 12 := by
  have h0 : (oneS l 14 0 ⟨0, 0, 0, []⟩).2.2.e = 0 := by
    by_cases h0 : (oneS l 14 0 ⟨0, 0, 0, []⟩).2.2.e = 0
    · exact h0
    · unfold readS at h
      simp only [fl_ne h0] at h
      exact absurd h h0
  obtain ⟨T, m, h1, h2, h3, h4⟩ := one_out l 14 0 ⟨0, 0, 0, []⟩ rfl (by simp) (by omega) (by omega) h0
  simp only [List.drop_zero] at h3
  have := (one_in T l m 14 0 ⟨0, 0, 0, []⟩ h1 h2 rfl (by simpa using h3) (by omega) (by simp)).1 h4
  unfold readS at h
  rw [this] at h
  simp only at h
  have h5 : ¬ 0 + T.txt.length < l.length := by
    intro h5
    rw [decide_eq_true h5, fl_t] at h
    cases h
  have h6 := congrArg List.length h3
  simp only [List.length_append] at h6
  have : m = [] := by
    cases m with
    | nil => rfl
    | cons b m => simp at h6; omega
  subst this
  exact ⟨T, h1, by simpa using h3, by omega⟩
end Go.Proofs.Ytgejdfhfgphcbaa.Ev
/- Kind: one type is read. -/
namespace Go.Proofs.Ytgejdfhfgphcbaa.Ev
open Go Go.RowKit
set_option linter.unusedVariables false
set_option linter.constructorNameAsVariable false
set_option linter.unusedSimpArgs false
set_option linter.unusedSectionVars false

theorem rs_fuel {l : List Nat} : ∀ (k k' a e : Nat), a ≤ l.length → l.length < a + k → l.length < a + k' → rs l k a e = rs l k' a e
  | 0, k', a, e, h, h1, h2 => by omega
  | k + 1, 0, a, e, h, h1, h2 => by omega
  | k + 1, k' + 1, a, e, h, h1, h2 => by
    unfold rs
    split
    · rename_i hc
      have hlt : a < l.length := (List.getElem?_eq_some_iff.mp hc.2).1
      have hp := ptA_le (l := l) (a := a + 1) (e := e) (by omega)
      exact rs_fuel k k' _ _ hp.2 (by omega) (by omega)
    · rfl
theorem sgS_nm (l : List Nat) (b : Nat) (s : Ks) : (sgS l b s).nm = s.nm := rfl
theorem armS_nm {one : Ks → Ks} {l : List Nat} {b n : Nat} {s : Ks} (h : ∀ s, (one s).nm.length ≤ s.nm.length + n) : (armS one l b s).nm.length ≤ s.nm.length + n := by
  unfold armS
  split
  · exact h _
  · rw [sgS_nm]; omega
theorem oneS_nm (l : List Nat) : ∀ (k deep : Nat) (s : Ks), (oneS l k deep s).2.2.nm.length ≤ s.nm.length + 2 ^ k
  | 0, deep, s => by simp [oneS]
  | k + 1, deep, s => by
    have ih := fun deep s => oneS_nm l k deep s
    have h2 : 2 ^ (k + 1) = 2 ^ k + 2 ^ k := by omega
    have h3 : 0 < 2 ^ k := Nat.two_pow_pos k
    rw [oneS]
    simp only
    split
    · simp only [List.length_append, List.length_cons, List.length_nil]; omega
    · split
      · simp only; omega
      · have g := fun b s => armS_nm (one := fun s => (oneS l k (deep + 1) s).2.2) (l := l) (b := b) (s := s) (n := 2 ^ k) (fun s => ih _ s)
        split
        · simp only [sgS_nm]
          have := g 60 ⟨(rs l (l.length + 2) (ptA l s.a s.e) (fl (noLet l s.a) 2 s.e)).1, fl (decide (12 ≤ deep)) 6 (rs l (l.length + 2) (ptA l s.a s.e) (fl (noLet l s.a) 2 s.e)).2, max s.d (deep + 1), s.nm⟩
          simp only at this; omega
        · simp only [sgS_nm]
          have := g 60 ⟨(rs l (l.length + 2) (ptA l s.a s.e) (fl (noLet l s.a) 2 s.e)).1, fl (decide (12 ≤ deep)) 6 (rs l (l.length + 2) (ptA l s.a s.e) (fl (noLet l s.a) 2 s.e)).2, max s.d (deep + 1), s.nm⟩
          have h5 := g 44 (armS (fun s => (oneS l k (deep + 1) s).2.2) l 60 ⟨(rs l (l.length + 2) (ptA l s.a s.e) (fl (noLet l s.a) 2 s.e)).1, fl (decide (12 ≤ deep)) 6 (rs l (l.length + 2) (ptA l s.a s.e) (fl (noLet l s.a) 2 s.e)).2, max s.d (deep + 1), s.nm⟩)
          simp only at this h5; omega
/-- What reading a type does to the memory. -/
structure OneOk (F F' : FAW) (i : Nat) (l : List Nat) (m : Nat) (s : Ks) (r : Nat × List Nat × Ks) (v : FV) : Prop where
  cu : ∃ m', CuS F' i l r.2.2 m' ∧ (r.2.2.nm ≠ [] → (m' = m ∧ s.nm ≠ []) ∨ F.x ≤ m') ∧ ∃ me, SlB F' v 3 (r.2.1.map FV.n) me ∧ (r.2.1 ≠ [] → F.x ≤ me ∧ (r.2.2.nm ≠ [] → me ≠ m'))
  std : Std F F' (fun j => j = i) (fun j => j = m ∧ s.nm ≠ [])
  a : r.2.2.a ≤ l.length
theorem armS_neg {one : Ks → Ks} {l : List Nat} {b : Nat} {s : Ks} (h : ¬ (sgS l b s).e = 0) : armS one l b s = sgS l b s := by unfold armS; rw [if_neg h]
theorem armS_pos {one : Ks → Ks} {l : List Nat} {b : Nat} {s : Ks} (h : (sgS l b s).e = 0) : armS one l b s = one (sgS l b s) := by unfold armS; rw [if_pos h]
/-- One arm of the loop. -/
theorem arm91 {l : List Nat} {i b : Nat} {k deep N n : Nat} (hl : Bs l) (hL : l.length ≤ 1000000) (hdeep : deep ≤ 12)
    (ih : deep < 12 → ∀ (F : FAW) (s : Ks) (m : Nat), CuS F i l s m → s.a ≤ l.length → s.e = 0 → s.nm.length + 2 ^ k ≤ 1000000 → ∃ F' v, clU kindD (n + 2) 91 [.p i 0, .n (deep + 1)] F = .ok (.u [.n (oneS l k (deep + 1) s).1, v]) F' ∧ OneOk F F' i l m s (oneS l k (deep + 1) s) v)
    {F : FAW} {s : Ks} {m : Nat} (h : CuS F i l s m) (ha : s.a ≤ l.length) (hnm : s.nm.length + 2 ^ k ≤ 1000000) (hok : s.e = 0 → deep < 12)
    {v : FV} {es : List Nat} {me : Nat} (hv : SlB F v 3 (es.map FV.n) me) (hes : es.length ≤ 2) (hme : es ≠ [] → s.nm ≠ [] → me ≠ m) (hmi : es ≠ [] → me ≠ i) (idx nn : Nat) (hb : [60, 44][idx]? = some b) (hidx : idx < nn)
    (d f g h' i' j' k' o p : FV) :
    ∃ v' F' m' me' o' p', (∀ κ : EX → W14 → FAW → RU, (u91_25 (clU kindD (n + 2)) N) (.mk (.p i 0) (.n deep) d v f g h' i' j' k' (.n nn) (.n idx) o p) F κ = κ .normal (.mk (.p i 0) (.n deep) d v' f g h' (.n idx) j' k' (.n nn) (.n (idx + 1)) o' p') F') ∧
      CuS F' i l (armS (fun s => (oneS l k (deep + 1) s).2.2) l b s) m' ∧ (armS (fun s => (oneS l k (deep + 1) s).2.2) l b s).a ≤ l.length ∧ ((armS (fun s => (oneS l k (deep + 1) s).2.2) l b s).nm ≠ [] → (m' = m ∧ s.nm ≠ []) ∨ F.x ≤ m') ∧
      SlB F' v' 3 ((es ++ [(armS (fun s => (oneS l k (deep + 1) s).2.2) l b s).a]).map FV.n) me' ∧ ((me' = me ∧ es ≠ []) ∨ F.x ≤ me') ∧ ((armS (fun s => (oneS l k (deep + 1) s).2.2) l b s).nm ≠ [] → me' ≠ m') ∧ Std F F' (fun j => j = i) (fun j => (j = m ∧ s.nm ≠ []) ∨ (j = me ∧ es ≠ [])) := by
  have hb2 : ([60, 44] : List Nat)[idx]? = some b := hb
  simp only [u91_25, seqU_eq, condU_eq, blockU_eq, skipU_eq, u91_16, m14_mk, u91_17, k14_mk, u91_18, u91_19, u91_20, u91_21, u91_22, u91_23, u91_24, exU_n, uLss_nn, decide_eq_true hidx, eT_t, cn_true, uIdxS_n _ _ (bsLit (l := [60, 44]) rfl) hb2, uCall_eq]
  obtain ⟨F1, e1, c1, o1⟩ := h.sign hl (by omega) n b
  simp only [e1, goOn_ok]
  obtain ⟨nm1, q1, r1⟩ := c1.cu
  simp only [q1.g2, uEq_nn, xo_f, eT_t, cn_dec]
  have s1 := o1.std (fun j => (j = m ∧ s.nm ≠ []) ∨ (j = me ∧ es ≠ []))
  have hi : ∀ r, F.row i ≠ some (r, 3, 1, me, false) := by
    obtain ⟨nm, q, _⟩ := h.cu
    exact q.no1 3 me
  have v1 : SlB F1 v 3 (es.map FV.n) me := hv.oth o1 hi
  have hne : (es.map FV.n ≠ []) ↔ es ≠ [] := by simp
  have hid : idx + 1 ≤ 9223372036854775807 := by
    have : idx < 2 := by
      rcases idx with _ | _ | idx
      · omega
      · omega
      · simp at hb
    omega
  -- what stands behind
  have fin : ∀ (F2 : FAW) (s2 : Ks) (m2 : Nat) (o' p' : FV), CuS F2 i l s2 m2 → s2.a ≤ l.length → (s2.nm ≠ [] → (m2 = m ∧ s.nm ≠ []) ∨ F.x ≤ m2) → SlB F2 v 3 (es.map FV.n) me → Std F F2 (fun j => j = i) (fun j => (j = m ∧ s.nm ≠ []) ∨ (j = me ∧ es ≠ [])) → (es ≠ [] → s2.nm ≠ [] → me ≠ m2) →
      ∃ v' F' m' me' o'' p'', (∀ κ : EX → W14 → FAW → RU, (uGet 1 (.p i 0) F2 fun v2 S => uLitF 3 1 [(.n 0)] 1 [(0, 1, v2)] S fun v3 S => uApp 3 1 8 v v3 S fun v4 S =>
        uAdd (.n idx) (.n 1) S fun v0 S => κ .normal (.mk (.p i 0) (.n deep) d v4 f g h' (.n idx) j' k' (.n nn) v0 o' p') S) = κ .normal (.mk (.p i 0) (.n deep) d v' f g h' (.n idx) j' k' (.n nn) (.n (idx + 1)) o'' p'') F') ∧
      CuS F' i l s2 m' ∧ s2.a ≤ l.length ∧ (s2.nm ≠ [] → (m' = m ∧ s.nm ≠ []) ∨ F.x ≤ m') ∧ SlB F' v' 3 ((es ++ [s2.a]).map FV.n) me' ∧ ((me' = me ∧ es ≠ []) ∨ F.x ≤ me') ∧ (s2.nm ≠ [] → me' ≠ m') ∧ Std F F' (fun j => j = i) (fun j => (j = m ∧ s.nm ≠ []) ∨ (j = me ∧ es ≠ [])) := by
    intro F2 s2 m2 o' p' c2 ha2 hm2 v2 st2 hn2
    obtain ⟨nm2, q2, r2⟩ := c2.cu
    obtain ⟨v', F3, me3, k1, k2, k3, k4, k5⟩ := ends_ok c2.wf v2 (by omega) s2.a
    have hrow : ∀ j r, F2.row j = some r → F3.row j = some r := fun j r => k3.row j r (fun h => h)
    have hi3 : i ≠ me ∨ es = [] := by
      by_cases h0 : es = []
      · exact .inr h0
      · exact .inl (hmi h0).symm
    have q3 : Cu F3 i l s2.a s2.e nm2 s2.d := by
      obtain ⟨el, hr⟩ := q2.row
      obtain ⟨ex, hf, hx⟩ := q2.fam
      exact ⟨⟨el, hrow _ _ hr⟩, ⟨ex, k3.fam _ _ (by rintro ⟨h1, h2⟩; rcases hi3 with h3 | h3; exact h3 h1; exact h2 h3) hf, hx⟩, q2.fi⟩
    have r3 : SlB F3 nm2 9 (s2.nm.map FV.s) m2 := by
      rcases r2 with r2 | ⟨h1, j, mu, h2, h3, h4⟩
      · exact .inl r2
      · have hn : s2.nm ≠ [] := by simpa using h1
        exact .inr ⟨h1, j, mu, h2, hrow _ _ h3, k3.fam _ _ (by rintro ⟨h5, h6⟩; exact hn2 h6 hn h5.symm) h4⟩
    refine ⟨v', F3, m2, me3, o', p', ?_, ⟨⟨nm2, q3, r3⟩, k4, c2.ne⟩, ha2, hm2, k2, ?_, ?_, ?_⟩
    · intro κ
      simp only [q2.g1]
      rw [k1]
      simp only [uAdd_nn _ _ hid]
    · rcases k5 with k5 | k5
      · exact .inl k5
      · exact .inr (Nat.le_trans st2.x k5)
    · intro hn
      rcases k5 with k5 | k5
      · rw [k5.1]; exact hn2 k5.2 hn
      · have := r2.lt c2.wf (by simpa using hn)
        omega
    · exact st2.trans (k3.mono (fun _ h => h.elim) (fun q hq => .inr hq))
  by_cases he : (sgS l b s).e = 0
  · rw [armS_pos he]
    have he1 : s.e = 0 := by
      have h0 := he
      unfold sgS fl at h0
      simp only at h0
      split at h0
      · cases h0
      · exact h0
    have hlt := hok he1
    obtain ⟨F2, v2, x1, x2⟩ := ih hlt F1 (sgS l b s) m c1 (sgS_le ha) he (by rw [sgS_nm]; exact hnm)
    simp only [he, decide_true, cn_true, if_true, eT_t, uAdd_nn _ _ (show deep + 1 ≤ 9223372036854775807 by omega), x1, goOn_ok]
    obtain ⟨m2, y1, y2, me2, y3, y4⟩ := x2.cu
    have hx1 : F1.x = F.x := o1.x
    refine fin F2 (oneS l k (deep + 1) (sgS l b s)).2.2 m2 _ _ y1 x2.a (fun hn => by rw [← hx1]; exact y2 hn) ?_ (s1.trans (x2.std.mono (fun _ h => h) (fun q hq => .inl hq))) ?_
    · refine v1.std x2.std (fun j r hr hj => ?_) (fun h0 hq => hme (hne.mp h0) hq.2 hq.1)
      subst hj
      exact q1.no1 _ _ _ hr
    · intro h1 h2 h3
      rcases y2 h2 with h4 | h4
      · exact hme h1 h4.2 (h3.trans h4.1)
      · have := v1.lt c1.wf (by simpa using h1)
        omega
  · rw [armS_neg he]
    simp only [he, decide_false, cn_false, eT_t, if_false]
    exact fin F1 (sgS l b s) m _ _ c1 (sgS_le ha) (fun hn => .inl ⟨rfl, hn⟩) v1 s1 (fun h1 h2 => hme h1 h2)
/-- A name is put behind the others. -/
theorem name91 {F : FAW} {i : Nat} {l : List Nat} {s : Ks} {m : Nat} (h : CuS F i l s m) {c : Nat} (hc : c ≤ s.a) (ha : s.a ≤ l.length) (hnm : s.nm.length ≤ 1000000) :
    ∃ F' m', (∀ κ : FAW → RU, (uNilc (.p i 0) F fun v0 S => uFad 3 v0 S fun v1 S => uLd none v1 S fun v2 S => uNilc (.p i 0) S fun v3 S => uFad 0 v3 S fun v4 S => uLd none v4 S fun v5 S => uNilc (.p i 0) S fun v6 S => uFad 1 v6 S fun v7 S => uLd none v7 S fun v8 S =>
      uSlS v5 (some (.n c)) (some v8) S fun v9 S => uLitF 9 1 [(.s [])] 1 [(0, 1, v9)] S fun v10 S => uLd none v7 S fun u _ => veqU u v8 (uLd none v4 S fun u _ => veqU u v5 (uLd none v1 S fun u _ => veqU u v2
      (uApp 9 1 16 v2 v10 S fun v11 S => uNilc (.p i 0) S fun v12 S => uFad 3 v12 S fun v13 S => uSt 1 v13 v11 S fun v14 S => κ S)))) = κ F') ∧
      CuS F' i l { s with nm := s.nm ++ [(l.drop c).take (s.a - c)] } m' ∧ ((m' = m ∧ s.nm ≠ []) ∨ F.x ≤ m') ∧ Std F F' (fun j => j = i) (fun j => j = m ∧ s.nm ≠ []) := by
  obtain ⟨nm, q, r⟩ := h.cu
  obtain ⟨el, hr⟩ := q.row
  obtain ⟨ex, hf, hx⟩ := q.fam
  have hne : (s.nm.map FV.s ≠ []) ↔ s.nm ≠ [] := by simp
  have hix := h.wf.row _ _ hr
  have hsl := fun (f : KU) F => uSlS_nn F f hc ha
  generalize (l.drop c).take (s.a - c) = t at hsl ⊢
  let w : FV := .s t
  have n1 := h.wf.new [w] 9 1
  have st1 := Std.new h.wf [w] 9 1 (fun j => j = i) (fun j => j = m ∧ s.nm ≠ [])
  have hr1 : (F.new [w] 9 1).row i = some ([.s l, .n s.a, .n s.e, nm, .n s.d], el, 5, i, false) := by rw [row_new, if_neg (by omega)]; exact hr
  have r1 : SlB (F.new [w] 9 1) nm 9 (s.nm.map FV.s) m := r.std (Std.new h.wf [w] 9 1 (fun _ => False) (fun _ => False)) (fun _ _ _ h => h) (fun _ h => h)
  obtain ⟨v', F2, m', a1, a2, a3, a4, a5⟩ := app_one n1 r1 (fun c hc => by
      obtain ⟨y, _, rfl⟩ := List.mem_map.mp hc
      exact Fi.s y) (Fi.s _) (j := F.x) (by rw [row_new, if_pos rfl]) (bytes := 16) (by simp; omega) (by simp; omega)
  have hr2 : F2.row i = some ([.s l, .n s.a, .n s.e, nm, .n s.d], el, 5, i, false) := a3.row _ _ (fun h => h) hr1
  have hf1 : (F.new [w] 9 1).fam i = some (false, ex) := by rw [fam_new, if_neg (by omega)]; exact hf
  have hf2 : F2.fam i = some (false, ex) := a3.fam _ _ (fun h2 => h.ne (hne.mp h2.2) h2.1.symm) hf1
  have hmi : m' ≠ i := by
    rcases a5 with a5 | a5
    · rw [a5.1]; exact h.ne (hne.mp a5.2)
    · have : (F.new [w] 9 1).x = F.x + 1 := rfl
      omega
  have o3 := Oth.put F2 i [.s l, .n s.a, .n s.e, v', .n s.d]
  refine ⟨F2.put i [.s l, .n s.a, .n s.e, v', .n s.d], m', fun κ => ?_, ⟨⟨v', ⟨⟨el, by rw [row_put, if_pos rfl, hr2]; rfl⟩, ⟨ex, hf2, hx⟩, a2.fi⟩, ?_⟩, o3.wf a4 hr2, fun _ => hmi⟩, ?_, ?_⟩
  · have e1 : ∀ f : KU, uLitF 9 1 [(.s [])] 1 [(0, 1, w)] F f = f (.l F.x 0 1 1) (F.new [w] 9 1) := fun f => by
      have : uLitF 9 1 [(.s [])] 1 [(0, 1, FV.s t)] F f = newU [FV.s t] 9 1 F fun i F' => f (.l i 0 1 1) F' := rfl
      rw [this, newU_new]
    rw [uNilc_p, uFad_p, uLd_row _ hr (show ([FV.s l, .n s.a, .n s.e, nm, .n s.d] : List FV)[3]? = some nm from rfl) q.fi]
    rw [uNilc_p, uFad_p, uLd_row _ hr (show ([FV.s l, .n s.a, .n s.e, nm, .n s.d] : List FV)[0]? = some (.s l) from rfl) (Fi.s l)]
    rw [uNilc_p, uFad_p, uLd_row _ hr (show ([FV.s l, .n s.a, .n s.e, nm, .n s.d] : List FV)[1]? = some (.n s.a) from rfl) (Fi.n _)]
    rw [hsl, e1]
    rw [uLd_row _ hr1 (show ([FV.s l, .n s.a, .n s.e, nm, .n s.d] : List FV)[1]? = some (.n s.a) from rfl) (Fi.n _), veqU_n]
    rw [uLd_row _ hr1 (show ([FV.s l, .n s.a, .n s.e, nm, .n s.d] : List FV)[0]? = some (.s l) from rfl) (Fi.s l), veqU_s]
    rw [uLd_row _ hr1 (show ([FV.s l, .n s.a, .n s.e, nm, .n s.d] : List FV)[3]? = some nm from rfl) q.fi, veqU_sl r]
    rw [a1, uNilc_p, uFad_p]
    rw [uSt_row _ hr2 hf2 hx (show ([FV.s l, .n s.a, .n s.e, nm, .n s.d] : List FV)[3]? = some nm from rfl) q.fi a2.fi]
    rfl
  · rw [List.map_append]
    refine a2.oth o3 (fun c hc => ?_)
    rw [hr2] at hc
    simp at hc
  · rcases a5 with a5 | a5
    · exact .inl ⟨a5.1, hne.mp a5.2⟩
    · exact .inr (Nat.le_trans (Nat.le_succ _) a5)
  · exact st1.trans ((a3.mono (fun _ h => h.elim) (fun q hq => ⟨hq.1, hne.mp hq.2⟩)).trans (o3.std _))
theorem Std.trans_new {F F1 F2 : FAW} {A B A' B' : Nat → Prop} (hF : Wf F) (h : Std F F1 A B) (k : Std F1 F2 A' B') (hA : ∀ j, j < F.x → A' j → A j) (hB : ∀ j, j < F.x → B' j → B j) : Std F F2 A B :=
  ⟨fun j r hj e => k.row j r (fun q => hj (hA j (hF.row _ _ e) q)) (h.row j r hj e), fun j r hj e => k.fam j r (fun q => hj (hB j (hF.fam _ _ e) q)) (h.fam j r hj e), fun j r e => k.mp j r (h.mp j r e), Nat.le_trans h.x k.x⟩
theorem sgS_e {l : List Nat} {b : Nat} {s : Ks} (h : (sgS l b s).e = 0) : s.e = 0 := by
  unfold sgS fl at h
  simp only at h
  split at h
  · cases h
  · exact h
/-- The loop. -/
theorem loop91 {l : List Nat} {i : Nat} {k deep N n : Nat} (hl : Bs l) (hL : l.length ≤ 1000000) (hdeep : deep ≤ 12)
    (ih : deep < 12 → ∀ (F : FAW) (s : Ks) (m : Nat), CuS F i l s m → s.a ≤ l.length → s.e = 0 → s.nm.length + 2 ^ k ≤ 1000000 → ∃ F' v, clU kindD (n + 2) 91 [.p i 0, .n (deep + 1)] F = .ok (.u [.n (oneS l k (deep + 1) s).1, v]) F' ∧ OneOk F F' i l m s (oneS l k (deep + 1) s) v)
    {F : FAW} {s : Ks} {m : Nat} (h : CuS F i l s m) (ha : s.a ≤ l.length) (hnm : s.nm.length + 2 ^ (k + 1) ≤ 1000000) (hok : s.e = 0 → deep < 12) (nn M : Nat) (hnn : nn = 1 ∨ nn = 2) (hM : 3 ≤ M)
    (d f g h' i' j' k' o p : FV) :
    ∃ v' F' m' me' i'' o' p', (∀ κ : EX → W14 → FAW → RU, loopNU (u91_25 (clU kindD (n + 2)) N) κ M (.mk (.p i 0) (.n deep) d .nl f g h' i' j' k' (.n nn) (.n 0) o p) F = κ (.exit 0) (.mk (.p i 0) (.n deep) d v' f g h' i'' j' k' (.n nn) (.n nn) o' p') F') ∧
      (let s4 := armS (fun s => (oneS l k (deep + 1) s).2.2) l 60 s
       let s' := if nn = 1 then s4 else armS (fun s => (oneS l k (deep + 1) s).2.2) l 44 s4
       let es := if nn = 1 then [s4.a] else [s4.a, s'.a]
      CuS F' i l s' m' ∧ s'.a ≤ l.length ∧ (s'.nm ≠ [] → (m' = m ∧ s.nm ≠ []) ∨ F.x ≤ m') ∧
      SlB F' v' 3 (es.map FV.n) me' ∧ F.x ≤ me' ∧ (s'.nm ≠ [] → me' ≠ m') ∧ Std F F' (fun j => j = i) (fun j => j = m ∧ s.nm ≠ [])) := by
  have h2 : 2 ^ (k + 1) = 2 ^ k + 2 ^ k := by omega
  have h3 := Nat.two_pow_pos k
  have leave : ∀ (κ : EX → W14 → FAW → RU) (M : Nat) (v i' o p : FV) (F : FAW), 1 ≤ M → loopNU (u91_25 (clU kindD (n + 2)) N) κ M (.mk (.p i 0) (.n deep) d v f g h' i' j' k' (.n nn) (.n nn) o p) F = κ (.exit 0) (.mk (.p i 0) (.n deep) d v f g h' i' j' k' (.n nn) (.n nn) (.t false) p) F := by
    intro κ M v i' o p F hM
    obtain ⟨M, rfl⟩ : ∃ M', M = M' + 1 := ⟨M - 1, by omega⟩
    rw [loopNU_succ]
    simp only [u91_25, seqU_eq, condU_eq, exitU_eq, u91_16, m14_mk, u91_17, k14_mk, exU_n, exU_e, uLss_nn, Nat.lt_irrefl, decide_false, eT_t, cn_false]
  obtain ⟨M, rfl⟩ : ∃ M', M = M' + 1 := ⟨M - 1, by omega⟩
  obtain ⟨v1, F1, m1, me1, o1, p1, e1, c1, a1, b1, d1, f1, g1, k1⟩ := arm91 (b := 60) (N := N) hl hL hdeep ih h ha (by omega) hok (v := .nl) (es := []) (me := F.x) (.inl ⟨rfl, rfl⟩) (by simp) (fun h => absurd rfl h) (fun h => absurd rfl h) 0 nn rfl (by omega) d f g h' i' j' k' o p
  have hx : F.x ≤ me1 := by
    rcases f1 with f1 | f1
    · exact absurd rfl f1.2
    · exact f1
  have hle := armS_nm (one := fun s => (oneS l k (deep + 1) s).2.2) (l := l) (b := 60) (s := s) (n := 2 ^ k) (fun s => oneS_nm l k _ s)
  have st1 : Std F F1 (fun j => j = i) (fun j => j = m ∧ s.nm ≠ []) := k1.mono (fun _ h => h) (fun q hq => by
    rcases hq with hq | hq
    · exact hq
    · exact absurd rfl hq.2)
  rcases hnn with rfl | rfl
  · exact ⟨v1, F1, m1, me1, _, _, _, fun κ => by rw [loopNU_succ, e1, exU_n]; exact leave κ M _ _ _ _ _ (by omega), c1, a1, b1, d1, hx, g1, st1⟩
  · obtain ⟨M, rfl⟩ : ∃ M', M = M' + 1 := ⟨M - 1, by omega⟩
    have hix : i < F.x := by
      obtain ⟨nm, q, _⟩ := h.cu
      obtain ⟨el, hr⟩ := q.row
      exact h.wf.row _ _ hr
    obtain ⟨v2, F2, m2, me2, o2, p2, e2, c2, a2, b2, d2, f2, g2, k2⟩ := arm91 (b := 44) (N := N) hl hL hdeep ih c1 a1 (by omega) (fun he => hok (by
        unfold armS at he
        split at he
        · rename_i h0; exact sgS_e h0
        · exact sgS_e he)) d1 (by simp) (fun _ => g1) (fun _ => by omega) 1 2 rfl (by omega) d f g h' (.n 0) j' k' o1 p1
    refine ⟨v2, F2, m2, me2, _, _, _, fun κ => by rw [loopNU_succ, e1, exU_n, loopNU_succ, e2, exU_n]; exact leave κ M _ _ _ _ _ (by omega), c2, a2, fun hn => ?_, d2, ?_, g2, ?_⟩
    · rcases b2 hn with h3 | h3
      · rcases b1 h3.2 with h4 | h4
        · exact .inl ⟨h3.1.trans h4.1, h4.2⟩
        · rw [h3.1]; exact .inr h4
      · exact .inr (Nat.le_trans st1.x h3)
    · rcases f2 with f2 | f2
      · rw [f2.1]; exact hx
      · exact Nat.le_trans st1.x f2
    · refine Std.trans_new h.wf st1 k2 (fun _ _ h => h) (fun j hj hq => ?_)
      rcases hq with hq | hq
      · rcases b1 hq.2 with h4 | h4
        · exact ⟨hq.1.trans h4.1, h4.2⟩
        · omega
      · omega
theorem CuS.of {F F' : FAW} {i : Nat} {l : List Nat} {s : Ks} {m : Nat} (h : CuS F i l s m) {a e d : Nat} (o : Oth F F' i) (hc : ∀ nm, Cu F i l s.a s.e nm s.d → Cu F' i l a e nm d) : CuS F' i l ⟨a, e, d, s.nm⟩ m := by
  obtain ⟨nm, q, r⟩ := h.cu
  obtain ⟨el, hr⟩ := q.row
  exact ⟨⟨nm, hc nm q, r.oth o (q.no1 _ _)⟩, o.wf h.wf hr, h.ne⟩
theorem s91 {l : List Nat} {i : Nat} (hl : Bs l) (hL : l.length ≤ 1000000) (n : Nat) (hn : l.length < n) : ∀ (k deep : Nat) (F : FAW) (s : Ks) (m : Nat), CuS F i l s m → s.a ≤ l.length → s.nm.length + 2 ^ k ≤ 1000000 → deep ≤ 12 → 12 < deep + k →
    ∃ F' v, clU kindD (n + 4 + k) 91 [.p i 0, .n deep] F = .ok (.u [.n (oneS l k deep s).1, v]) F' ∧ OneOk F F' i l m s (oneS l k deep s) v
  | 0, deep, F, s, m, h, ha, hnm, hd, hk => by omega
  | k + 1, deep, F, s, m, h, ha, hnm, hd, hk => by
    have ih := fun deep F s m => s91 (i := i) hl hL n hn k deep F s m
    have h2 : 2 ^ (k + 1) = 2 ^ k + 2 ^ k := by omega
    have h3 := Nat.two_pow_pos k
    rw [show n + 4 + (k + 1) = (n + 2 + k + 2) + 1 by omega, cl91, u91_in]
    obtain ⟨nm, c0, r0⟩ := h.cu
    obtain ⟨el, hrow⟩ := c0.row
    obtain ⟨F1, e1, c1, o1⟩ := s104 (n + 2 + k) c0 hl hL (by omega) ha
    have hp := ptA_le (l := l) (a := s.a) (e := s.e) ha
    obtain ⟨F2, e2, c2, o2⟩ := s105 (n + 1 + k) c1 hl hL (by omega) hp.2
    rw [show n + 1 + k + 3 = n + 2 + k + 2 by omega] at e2
    have hr := rs_le l (n + 1 + k + 2) (ptA l s.a s.e) (fl (noLet l s.a) 2 s.e) hp.2
    have hrs : rs l (n + 1 + k + 2) (ptA l s.a s.e) (fl (noLet l s.a) 2 s.e) = rs l (l.length + 2) (ptA l s.a s.e) (fl (noLet l s.a) 2 s.e) := rs_fuel _ _ _ _ hp.2 (by omega) (by omega)
    rw [hrs] at e2 c2 hr
    have hw : clU kindD (n + 2 + k + 2) 72 [.s ((l.drop s.a).take (ptA l s.a s.e - s.a))] F1 = _ := s72 (n + 2 + k + 1) F1 ((hl.drop _).take _)
    have o12 := o1.trans o2
    have C2 := h.of o12 (a := (rs l (l.length + 2) (ptA l s.a s.e) (fl (noLet l s.a) 2 s.e)).1) (e := (rs l (l.length + 2) (ptA l s.a s.e) (fl (noLet l s.a) 2 s.e)).2) (d := s.d) (fun nm' q => by
      obtain ⟨el', hr'⟩ := q.row
      rw [hrow] at hr'
      simp only [Option.some.injEq, Prod.mk.injEq, List.cons.injEq, true_and, and_true] at hr'
      rw [← hr'.1]; exact c2)
    rw [oneS]
    generalize ptA l s.a s.e = A at *
    generalize fl (noLet l s.a) 2 s.e = E at *
    generalize rs l (l.length + 2) A E = r at *
    generalize wordK ((l.drop s.a).take (A - s.a)) = kd at *
    simp only [u91b, seqU_eq, condU_eq, blockU_eq, loopU_eq, skipU_eq, retU_eq, m14_mk, k14_mk, u91_0, u91_1, u91_2, u91_3, u91_4, u91_5, u91_6, u91_7, u91_8, u91_9, u91_10, u91_11, u91_12, u91_13, u91_14, u91_15, exU_n, exU_r, uCall_eq, c0.g1, e1, goOn_ok, hw, e2, eT_t, cn_true, uEq_nn, xo_t, xo_f]
    by_cases hc : A < r.1 ∨ kd = 0
    · rw [if_pos hc]
      obtain ⟨F3, e3, c3, o3⟩ := C2.fails (n + 2 + k + 1) (!decide (kd = 0)) 2
      obtain ⟨F4, m4, e4, c4, b4, st4⟩ := name91 c3 (c := s.a) (by simp only; omega) (by simp only; omega) (by simp only; omega)
      have e3' : clU kindD (n + 2 + k + 2) 92 [.p i 0, .t (!decide (kd = 0)), .n 2] F2 = _ := e3
      have hkd : decide (kd ≠ 0) = !decide (kd = 0) := by simp
      have st : Std F F4 (fun j => j = i) (fun j => j = m ∧ s.nm ≠ []) := (o12.std _).trans ((o3.std _).trans st4)
      have hx3 : F3.x = F.x := by rw [o3.x, o12.x]
      refine ⟨F4, .nl, ?_, ⟨⟨m4, by rw [hkd]; exact c4, fun _ => by rw [← hx3]; exact b4, 0, .inl ⟨rfl, rfl⟩, fun h => absurd rfl h⟩, st, by simp only; omega⟩⟩
      by_cases hA : A < r.1
      · rw [decide_eq_true hA, cn_true, e3', goOn_ok, e4]; rfl
      · have hk0 : kd = 0 := hc.resolve_left hA
        rw [decide_eq_false hA, cn_false, hk0]
        rw [hk0] at e3'
        rw [decide_eq_true rfl, cn_true] at *
        rw [e3', goOn_ok, e4]; rfl
    · rw [if_neg hc]
      have hA : ¬ A < r.1 := fun h => hc (.inl h)
      have hk0 : ¬ kd = 0 := fun h => hc (.inr h)
      have hin : clU kindD (n + 2 + k + 2) 106 [.n kd] F2 = _ := s106 (n + 2 + k + 1) F2 kd
      simp only [decide_eq_false hA, decide_eq_false hk0, cn_false, hin, goOn_ok, uEq_nn, xo_f, xo_t, eT_t, cn_dec, c2.g2, uGeq_nn]
      by_cases hi : innerK kd = 0 ∨ r.2 ≠ 0
      · rw [if_pos hi]
        have oo : OneOk F F2 i l m s (kd, [], { s with a := r.1, e := r.2 }) .nl := ⟨⟨m, C2, fun hn => .inl ⟨rfl, hn⟩, 0, .inl ⟨rfl, rfl⟩, fun h => absurd rfl h⟩, o12.std _, hr.2⟩
        refine ⟨F2, .nl, ?_, oo⟩
        by_cases hi0 : innerK kd = 0
        · rw [if_pos hi0]; rfl
        · have hr2 : ¬ r.2 = 0 := hi.resolve_left hi0
          rw [if_neg hi0, decide_eq_false hr2]; rfl
      · rw [if_neg hi]
        have hi0 : ¬ innerK kd = 0 := fun h => hi (.inl h)
        have hr2 : r.2 = 0 := Decidable.byContradiction fun h => hi (.inr h)
        rw [if_neg hi0, decide_eq_true hr2]
        simp only [Bool.not_true, cn_false]
        obtain ⟨F3, e3, c3, o3⟩ := C2.fails (n + 2 + k + 1) (decide (12 ≤ deep)) 6
        have e3' : clU kindD (n + 2 + k + 2) 92 [.p i 0, .t (decide (12 ≤ deep)), .n 6] F2 = _ := e3
        obtain ⟨nm3, q3, r3⟩ := c3.cu
        simp only at q3 r3
        rw [e3', goOn_ok]
        obtain ⟨el3, hr3⟩ := q3.row
        obtain ⟨ex3, hf3, hx3⟩ := q3.fam
        rw [q3.g4, uAdd_nn _ _ (by omega), uMM_nn, uNilc_p, uFad_p]
        rw [uSt_row _ hr3 hf3 hx3 (show ([FV.s l, .n r.1, .n (fl (decide (12 ≤ deep)) 6 r.2), nm3, .n s.d] : List FV)[0 + 4]? = some (.n s.d) from rfl) (Fi.n _) (Fi.n _)]
        have o4 := Oth.put F3 i ([FV.s l, .n r.1, .n (fl (decide (12 ≤ deep)) 6 r.2), nm3, .n s.d].set (0 + 4) (.n (max s.d (deep + 1))))
        have c4 : CuS (F3.put i ([FV.s l, .n r.1, .n (fl (decide (12 ≤ deep)) 6 r.2), nm3, .n s.d].set (0 + 4) (.n (max s.d (deep + 1))))) i l ⟨r.1, fl (decide (12 ≤ deep)) 6 r.2, max s.d (deep + 1), s.nm⟩ m :=
          ⟨⟨nm3, ⟨⟨el3, by rw [row_put, if_pos rfl, hr3]; rfl⟩, ⟨ex3, hf3, hx3⟩, q3.fi⟩, r3.oth o4 (q3.no1 _ _)⟩, o4.wf c3.wf hr3, c3.ne⟩
        generalize F3.put i ([FV.s l, .n r.1, .n (fl (decide (12 ≤ deep)) 6 r.2), nm3, .n s.d].set (0 + 4) (.n (max s.d (deep + 1)))) = F4 at *
        have hle2 := innerK_le kd
        obtain ⟨v5, F5, m5, me5, i5, o5, p5, e5, x5⟩ := loop91 (N := n + 2 + k + 2) hl hL hd (fun hlt F s m h1 h2 h3 h4 => by
            have := ih (deep + 1) F s m h1 h2 h4 (by omega) (by omega)
            rw [show n + 4 + k = n + 2 + k + 2 by omega] at this
            exact this) c4 hr.2 (by simp only; omega) (fun he => by
            simp only [hr2] at he
            by_cases h12 : 12 ≤ deep
            · rw [decide_eq_true h12] at he; cases he
            · omega) (innerK kd) (n + 2 + k + 2) (by omega) (by omega) (.n kd) (.n s.a) (.t false) (.n (innerK kd)) (.u []) (.t false) (.t false) (.u []) (.u [])
        rw [e5]
        simp only at x5
        obtain ⟨x1, x2, x3, x4, x6, x7, x8⟩ := x5
        simp only [exU_e, cn_true, show Nat.beq 0 0 = true from rfl, u91_26, u91_27, m14_mk, exU_n, uCall_eq]
        obtain ⟨F6, e6, c6, o6⟩ := x1.sign hl (by omega) (n + 2 + k) 62
        rw [e6, goOn_ok]
        obtain ⟨nm5, q5, r5⟩ := x1.cu
        have hx4 : F4.x = F.x := by rw [o4.x, o3.x, o12.x]
        have stf : Std F F6 (fun j => j = i) (fun j => j = m ∧ s.nm ≠ []) := (o12.std _).trans ((o3.std _).trans ((o4.std _).trans (x8.trans (o6.std _))))
        have sl6 := x4.oth o6 (q5.no1 3 me5)
        have ha6 := sgS_le (b := 62) x2
        by_cases i1 : innerK kd = 1
        · simp only [if_pos i1] at x1 x2 x3 x4 x7 c6 sl6 ha6 ⊢
          refine ⟨F6, v5, rfl, ⟨m5, c6, fun hn => by rw [← hx4]; exact x3 hn, me5, sl6, fun _ => ⟨by rw [← hx4]; exact x6, x7⟩⟩, stf, ha6⟩
        · simp only [if_neg i1] at x1 x2 x3 x4 x7 c6 sl6 ha6 ⊢
          refine ⟨F6, v5, rfl, ⟨m5, c6, fun hn => by rw [← hx4]; exact x3 hn, me5, sl6, fun _ => ⟨by rw [← hx4]; exact x6, x7⟩⟩, stf, ha6⟩
end Go.Proofs.Ytgejdfhfgphcbaa.Ev
/- Kind: a whole text is read; heads. -/
namespace Go.Proofs.Ytgejdfhfgphcbaa.Ev
open Go Go.RowKit
set_option linter.unusedVariables false
set_option linter.constructorNameAsVariable false
set_option linter.unusedSimpArgs false
set_option linter.unusedSectionVars false

def nof : Nat → Prop := fun _ => False
theorem s67 {l : List Nat} (hl : Bs l) (hL : l.length ≤ 1000000) (n : Nat) (hn : l.length < n) {F : FAW} (hF : Wf F) :
    ∃ F' i v m me, clU kindD (n + 19) 67 [.s l] F = .ok (.u [.p i 0, .n (readS l).1, v]) F' ∧ CuS F' i l (readS l).2.2 m ∧ SlB F' v 3 ((readS l).2.1.map FV.n) me ∧ Std F F' nof nof := by
  rw [cl67, u67_in]
  simp only [u67b, seqU_eq, retU_eq, m4_mk, u67_0, u67_1, u67_2, u67_3, u67_4, exU_n, exU_r, uCall_eq]
  have e1 : ∀ f : KU, uBuildF [(.s []), (.n 0), (.n 0), .nl, (.n 0)] [(0, 1, .s l)] F f = f (.a [.s l, .n 0, .n 0, .nl, .n 0]) F := fun f => rfl
  rw [e1, uBox_a]
  have st1 := Std.new hF [.s l, .n 0, .n 0, .nl, .n 0] 95 5 nof nof
  have c1 : CuS (F.new [.s l, .n 0, .n 0, .nl, .n 0] 95 5) F.x l ⟨0, 0, 0, []⟩ 0 :=
    ⟨⟨.nl, ⟨⟨95, by rw [row_new, if_pos rfl]⟩, ⟨5, by rw [fam_new, if_pos rfl]; exact ⟨rfl, Nat.le_refl _⟩⟩, Fi.nl⟩, .inl ⟨rfl, rfl⟩⟩, hF.new _ _ _, fun h => absurd rfl h⟩
  have hx1 : (F.new [.s l, .n 0, .n 0, .nl, .n 0] 95 5).x = F.x + 1 := rfl
  generalize F.new [.s l, .n 0, .n 0, .nl, .n 0] 95 5 = F1 at *
  obtain ⟨F2, v, e2, k2⟩ := s91 hl hL n hn 14 0 F1 ⟨0, 0, 0, []⟩ 0 c1 (Nat.zero_le _) (by decide) (by omega) (by omega)
  obtain ⟨m, c2, hm, me, sl, hme⟩ := k2.cu
  have e2' : clU kindD (n + 18) 91 [.p F.x 0, .n 0] F1 = _ := e2
  rw [e2', goOn_ok]
  simp only [uExt_0, uExt_1]
  obtain ⟨nm2, q2, r2⟩ := c2.cu
  obtain ⟨F3, e3, c3, o3⟩ := c2.fails (n + 17) (decide ((oneS l 14 0 ⟨0, 0, 0, []⟩).2.2.a < l.length)) 2
  have e3' : clU kindD (n + 18) 92 [.p F.x 0, .t (decide ((oneS l 14 0 ⟨0, 0, 0, []⟩).2.2.a < l.length)), .n 2] F2 = _ := e3
  simp only [q2.g1, uLen_s, uLss_nn, e3', goOn_ok]
  refine ⟨F3, F.x, v, m, me, rfl, c3, sl.oth o3 (q2.no1 _ _), ?_⟩
  refine Std.trans_new hF (Std.trans_new hF st1 k2.std (fun j hj hq => by omega) (fun j hj hq => absurd rfl hq.2)) (o3.std nof) (fun j hj hq => by omega) (fun _ _ h => h)
/-- A type's text. -/
theorem s25 {l : List Nat} (hl : Bs l) (hL : l.length ≤ 1000000) (n : Nat) (hn : l.length < n) {F : FAW} (hF : Wf F) :
    ∃ F', clU kindD (n + 20) 25 [.s l] F = .ok (.t (decide ((readS l).2.2.e = 0))) F' ∧ Std F F' nof nof ∧ Wf F' := by
  rw [cl25, u25_in]
  obtain ⟨F1, i, v, m, me, e1, c1, _, st⟩ := s67 hl hL n hn hF
  obtain ⟨nm, q, _⟩ := c1.cu
  simp only [u25b, seqU_eq, retU_eq, m3_mk, u25_0, u25_1, u25_2, exU_n, exU_r, uCall_eq, e1, goOn_ok, uExt_0, uExt_1, uExt_2, q.g2, uEq_nn, xo_f]
  exact ⟨F1, rfl, st, c1.wf⟩
theorem s26 {l : List Nat} (hl : Bs l) (hL : l.length ≤ 1000000) (n : Nat) (hn : l.length < n) {F : FAW} (hF : Wf F) :
    ∃ F', clU kindD (n + 20) 26 [.s l] F = .ok (.n (if (readS l).2.2.e = 0 then (readS l).2.2.d else 0)) F' ∧ Std F F' nof nof ∧ Wf F' := by
  rw [cl26, u26_in]
  obtain ⟨F1, i, v, m, me, e1, c1, _, st⟩ := s67 hl hL n hn hF
  obtain ⟨nm, q, _⟩ := c1.cu
  simp only [u26b, seqU_eq, condU_eq, skipU_eq, retU_eq, m4_mk, k4_mk, u26_0, u26_1, u26_2, u26_3, u26_4, u26_5, exU_n, exU_r, uCall_eq, e1, goOn_ok, uExt_0, uExt_1, uExt_2, q.g2, q.g4, uEq_nn, xo_t, eT_t]
  by_cases h : (readS l).2.2.e = 0
  · rw [if_pos h, decide_eq_true h]; exact ⟨F1, rfl, st, c1.wf⟩
  · rw [if_neg h, decide_eq_false h]; exact ⟨F1, rfl, st, c1.wf⟩
theorem s23 {l : List Nat} (hl : Bs l) (hL : l.length ≤ 1000000) (n : Nat) (hn : l.length < n) {F : FAW} (hF : Wf F) :
    ∃ F' v m, clU kindD (n + 20) 23 [.s l] F = .ok v F' ∧ SlB F' v 9 ((if (readS l).2.2.e = 0 then (readS l).2.2.nm else []).map FV.s) m ∧ Std F F' nof nof ∧ Wf F' := by
  rw [cl23, u23_in]
  obtain ⟨F1, i, v, m, me, e1, c1, _, st⟩ := s67 hl hL n hn hF
  obtain ⟨nm, q, r⟩ := c1.cu
  simp only [u23b, seqU_eq, condU_eq, skipU_eq, retU_eq, m4_mk, k4_mk, u23_0, u23_1, u23_2, u23_3, u23_4, u23_5, exU_n, exU_r, uCall_eq, e1, goOn_ok, uExt_0, uExt_1, uExt_2, q.g2, q.g3, uEq_nn, xo_t, eT_t]
  by_cases h : (readS l).2.2.e = 0
  · rw [if_pos h, decide_eq_true h]; exact ⟨F1, nm, m, rfl, r, st, c1.wf⟩
  · rw [if_neg h, decide_eq_false h]; exact ⟨F1, .nl, 0, rfl, .inl ⟨rfl, rfl⟩, st, c1.wf⟩
/-- Where a byte stands first. -/
theorem ixLU_at {c : Nat} (hc : c < 256) : ∀ {p m : List Nat} {k : Nat} (f : FV → RU), (∀ x ∈ p, x < 256 ∧ x ≠ c) → ixLU (p ++ c :: m) c k f = f (.n (k + p.length))
  | [], m, k, f, h => by
    show cn (Nat.beq (Nat.mod c 256) (Nat.mod c 256)) (f (.n k)) _ = _
    rw [beqU, decide_eq_true rfl, cn_true]; rfl
  | x :: p, m, k, f, h => by
    have e : ixLU (x :: (p ++ c :: m)) c k f = cn (Nat.beq (Nat.mod x 256) (Nat.mod c 256)) (f (.n k)) (ixLU (p ++ c :: m) c (Nat.succ k) f) := rfl
    have h1 := h x (by simp)
    have hx : Nat.mod x 256 = x := Nat.mod_eq_of_lt h1.1
    have hc' : Nat.mod c 256 = c := Nat.mod_eq_of_lt hc
    rw [List.cons_append, e, hx, hc', beqU, decide_eq_false h1.2, cn_false, ixLU_at hc f (fun y hy => h y (by simp [hy]))]
    rw [List.length_cons, show k.succ + p.length = k + (p.length + 1) by omega]
theorem s68 (n : Nat) (F : FAW) {c : Nat} (hc : c < 256) {p m : List Nat} (h : ∀ x ∈ p, x < 256 ∧ x ≠ c) : clU kindD (n + 3) 68 [.s (p ++ c :: m), .b c] F = .ok (.n p.length) F := by
  rw [cl68, u68_in]
  simp only [u68b, seqU_eq, retU_eq, m3_mk, u68_0, u68_1, exU_n, exU_r, uCall_eq]
  rw [cl93, u93_in]
  simp only [u93b, seqU_eq, retU_eq, m3_mk, u93_0, u93_1, exU_n, exU_r, uCall_eq]
  rw [cl108]
  have e : u108 (clU kindD n) n [.s (p ++ c :: m), .b c] F = ixLU (p ++ c :: m) c 0 fun v => .ok v F := rfl
  rw [e, ixLU_at hc _ h, goOn_ok, u93r_mk, goOn_ok, u68r_mk, Nat.zero_add]
namespace Ty
def name : Ty → List Nat
  | .nm p ps => p ++ flatP ps
  | _ => []
def pa : Ty → List Nat
  | .l1 _ a => a.txt
  | .l2 _ a _ => a.txt
  | _ => []
def pb : Ty → List Nat
  | .l2 _ _ b => b.txt
  | _ => []
end Ty
theorem goodP.no {w : List Nat} (h : goodP w) : ∀ x ∈ w, x < 256 ∧ x ≠ 60 := by
  intro x hx
  have := List.all_eq_true.mp h.all x hx
  simp only [isIn, isLet, isDig, Bool.or_eq_true, Bool.and_eq_true, decide_eq_true_eq] at this
  omega
theorem s21_bad {l : List Nat} (hl : Bs l) (hL : l.length ≤ 1000000) (n : Nat) (hn : l.length < n) {F : FAW} (hF : Wf F) (h : (readS l).2.2.e ≠ 0) :
    ∃ F', clU kindD (n + 20) 21 [.s l] F = .ok (.u [.n 0, .s [], .s [], .s [], .n (readS l).2.2.e]) F' ∧ Std F F' nof nof ∧ Wf F' := by
  rw [cl21, u21_in]
  obtain ⟨F1, i, v, m, me, e1, c1, _, st⟩ := s67 hl hL n hn hF
  obtain ⟨nm, q, _⟩ := c1.cu
  simp only [u21b, seqU_eq, condU_eq, blockU_eq, skipU_eq, retU_eq, m13_mk, k13_mk, u21_0, u21_1, u21_2, u21_3, u21_4, exU_n, exU_r, uCall_eq, e1, goOn_ok, uExt_0, uExt_1, uExt_2, q.g2, uEq_nn, xo_t, eT_t, decide_eq_false h, Bool.not_false, cn_true]
  exact ⟨F1, rfl, st, c1.wf⟩
theorem s21_ok {T : Ty} (hT : T.wf) (hd : T.dep ≤ 12) (hl : Bs T.txt) (hL : T.txt.length ≤ 1000000) (n : Nat) (hn : T.txt.length < n) {F : FAW} (hF : Wf F) :
    ∃ F', clU kindD (n + 20) 21 [.s T.txt] F = .ok (.u [.n T.knd, .s T.name, .s T.pa, .s T.pb, .n 0]) F' ∧ Std F F' nof nof ∧ Wf F' := by
  rw [cl21, u21_in]
  obtain ⟨F1, i, v, m, me, e1, c1, sl, st⟩ := s67 hl hL n hn hF
  rw [read_in hT hd] at e1 c1 sl
  simp only at e1 c1 sl
  obtain ⟨nm, q, _⟩ := c1.cu
  simp only at q
  simp only [u21b, seqU_eq, condU_eq, blockU_eq, skipU_eq, retU_eq, m13_mk, k13_mk, u21_0, u21_1, u21_2, u21_3, u21_4, u21_5, u21_6, u21_7, u21_8, u21_9, u21_10, u21_11, u21_12, u21_13, u21_14, u21_15, u21_16, exU_n, exU_r, uCall_eq, e1, goOn_ok, uExt_0, uExt_1, uExt_2, q.g2, uEq_nn, xo_t, xo_f, eT_t, decide_true, Bool.not_true, cn_false]
  refine ⟨F1, ?_, st, c1.wf⟩
  cases T with
  | nm p ps => rfl
  | wd w =>
    have hk : ¬ (Ty.wd w).knd = 0 := hT.2.1
    simp only [decide_eq_false hk, cn_false, eT_t, sl.len, Ty.ends, List.map_nil, List.length_nil, uEq_nn, xo_f, decide_true, cn_true]
    rfl
  | l1 w a =>
    have hne : ¬ (Ty.l1 w a).knd = 0 := innerK_ne hT.2.1
    have i0 : ([FV.n (0 + w.length + 1 + a.txt.length)])[0]? = some (.n (0 + w.length + 1 + a.txt.length)) := rfl
    simp only [Ty.ends, List.map_cons, List.map_nil] at sl
    have hs68 : clU kindD (n + 19) 68 [.s (w ++ 60 :: (a.txt ++ [62])), .b 60] F1 = _ := s68 (n + 16) F1 (by decide) hT.1.no
    simp only [decide_eq_false hne, cn_false, eT_t, sl.len, List.length_cons, List.length_nil, uEq_nn, xo_f]
    simp only [Ty.txt] at hL ⊢
    have hlen : (w ++ 60 :: (a.txt ++ [62])).length = w.length + (a.txt.length + 2) := by simp
    rw [hlen] at hL
    rw [hs68]
    simp only [goOn_ok]
    rw [uAdd_nn _ _ (by omega), sl.get i0 (Fi.n _), uSlS_nn _ _ (by omega) (by rw [hlen]; omega)]
    have : ((w ++ 60 :: (a.txt ++ [62])).drop (w.length + 1)).take (0 + w.length + 1 + a.txt.length - (w.length + 1)) = a.txt := by
      rw [show w ++ 60 :: (a.txt ++ [62]) = (w ++ [60]) ++ (a.txt ++ [62]) by simp, show 0 + w.length + 1 + a.txt.length - (w.length + 1) = a.txt.length by omega, show w.length + 1 = (w ++ [60]).length by simp, List.drop_left, List.take_left]
    rw [this]
    rfl
  | l2 w a b =>
    have hne : ¬ (Ty.l2 w a b).knd = 0 := innerK_ne hT.2.1
    have i0 : ([FV.n (0 + w.length + 1 + a.txt.length), FV.n (0 + w.length + 1 + a.txt.length + 1 + b.txt.length)])[0]? = some (.n (0 + w.length + 1 + a.txt.length)) := rfl
    have i1 : ([FV.n (0 + w.length + 1 + a.txt.length), FV.n (0 + w.length + 1 + a.txt.length + 1 + b.txt.length)])[1]? = some (.n (0 + w.length + 1 + a.txt.length + 1 + b.txt.length)) := rfl
    simp only [Ty.ends, List.map_cons, List.map_nil] at sl
    have hs68 : clU kindD (n + 19) 68 [.s (w ++ 60 :: (a.txt ++ 44 :: (b.txt ++ [62]))), .b 60] F1 = _ := s68 (n + 16) F1 (by decide) hT.1.no
    simp only [decide_eq_false hne, cn_false, eT_t, sl.len, List.length_cons, List.length_nil, uEq_nn, xo_f]
    simp only [Ty.txt] at hL ⊢
    have hlen : (w ++ 60 :: (a.txt ++ 44 :: (b.txt ++ [62]))).length = w.length + (a.txt.length + 1 + (b.txt.length + 2)) := by simp; omega
    rw [hlen] at hL
    rw [hs68]
    simp only [goOn_ok]
    have ha : ((w ++ 60 :: (a.txt ++ 44 :: (b.txt ++ [62]))).drop (w.length + 1)).take (0 + w.length + 1 + a.txt.length - (w.length + 1)) = a.txt := by
      rw [show w ++ 60 :: (a.txt ++ 44 :: (b.txt ++ [62])) = (w ++ [60]) ++ (a.txt ++ 44 :: (b.txt ++ [62])) by simp, show 0 + w.length + 1 + a.txt.length - (w.length + 1) = a.txt.length by omega, show w.length + 1 = (w ++ [60]).length by simp, List.drop_left, List.take_left]
    have hb : ((w ++ 60 :: (a.txt ++ 44 :: (b.txt ++ [62]))).drop (0 + w.length + 1 + a.txt.length + 1)).take (0 + w.length + 1 + a.txt.length + 1 + b.txt.length - (0 + w.length + 1 + a.txt.length + 1)) = b.txt := by
      rw [show w ++ 60 :: (a.txt ++ 44 :: (b.txt ++ [62])) = (w ++ 60 :: (a.txt ++ [44])) ++ (b.txt ++ [62]) by simp, show 0 + w.length + 1 + a.txt.length + 1 + b.txt.length - (0 + w.length + 1 + a.txt.length + 1) = b.txt.length by omega, show 0 + w.length + 1 + a.txt.length + 1 = (w ++ 60 :: (a.txt ++ [44])).length by simp; omega, List.drop_left, List.take_left]
    rw [uAdd_nn _ _ (by omega), sl.get i0 (Fi.n _), uSlS_nn _ _ (by omega) (by rw [hlen]; omega), ha]
    rw [show decide (0 + 1 + 1 = 0) = false from rfl, cn_false, show decide True = true from rfl, cn_true, sl.get i0 (Fi.n _), uAdd_nn _ _ (by omega), sl.get i1 (Fi.n _), uSlS_nn _ _ (by omega) (by rw [hlen]; omega), hb]
    rfl
end Go.Proofs.Ytgejdfhfgphcbaa.Ev
/- Kind: a type is shown. -/
namespace Go.Proofs.Ytgejdfhfgphcbaa.Ev
open Go Go.RowKit
set_option linter.unusedVariables false
set_option linter.constructorNameAsVariable false
set_option linter.unusedSimpArgs false
set_option linter.unusedSectionVars false

theorem s71 (n : Nat) {F : FAW} {s : List Nat} (hs : Bs s) {x k : Nat} {e es m o} (hx : F.row x = some ([.n k], e, es, m, o)) : clU kindD (n + 2) 71 [.s s, .p x 0] F = .ok (.t (decide (wordK s = k))) F := by
  rw [cl71, u71_in]
  simp only [u71b, seqU_eq, retU_eq, m3_mk, u71_0, u71_1, exU_n, exU_r, uCall_eq]
  rw [uLd_row _ hx (show ([FV.n k] : List FV)[0]? = some (.n k) from rfl) (Fi.n k), s72 n F hs, goOn_ok, uEq_nn, uLd_row _ hx (show ([FV.n k] : List FV)[0]? = some (.n k) from rfl) (Fi.n k), veqU_n]
  rfl
theorem uCallV_f (U : CU) (g : FuncId) (c args : List FV) (F : FAW) (f : KU) : uCallV U (.f g [] c) args F f = uCall U g (args ++ c) F f := by
  have e : uCallV U (.f g [] c) args F f = catU args c fun r => catU [] r fun l => uCall U g l F f := rfl
  rw [e, catU_eq]; rfl
theorem loop70 (n N : Nat) {F : FAW} {ws : List (List Nat)} (hws : ∀ w ∈ ws, Bs w) {v : FV} {q : Nat} (hv : SlB F v 9 (ws.map FV.s) q) {x k : Nat} {e es m o} (hx : F.row x = some ([.n k], e, es, m, o)) {j : Nat} {w : List Nat} (hj : ws[j]? = some w) (hk : wordK w = k) (hlt : ∀ i w, i < j → ws[i]? = some w → wordK w ≠ k) (hL : ws.length ≤ 1000)
    (d : FV) : ∀ (r a : Nat) (ee h i : FV), a + r = j → ∀ M, r < M → ∃ e' h' i', ∀ (κ : EX → W8 → FAW → RU), loopNU (u70_9 (clU kindD (n + 2)) N) κ M (.mk v (.f 71 [] [.p x 0]) d ee (.n ws.length) (.n a) h i) F = κ .ret (.mk v (.f 71 [] [.p x 0]) (.n j) e' (.n ws.length) (.n j) h' i') F := by
  intro r
  induction r with
  | zero =>
    intro a ee h i ha M hM
    obtain ⟨M, rfl⟩ : ∃ M', M = M' + 1 := ⟨M - 1, by omega⟩
    have ha : a = j := by omega
    subst ha
    have hl := (List.getElem?_eq_some_iff.mp hj).1
    refine ⟨.n a, .t true, .t true, fun κ => ?_⟩
    rw [loopNU_succ]
    simp only [u70_9, seqU_eq, condU_eq, blockU_eq, skipU_eq, retU_eq, u70_2, u70_3, u70_4, u70_5, u70_6, u70_7, u70_8, m8_mk, k8_mk, exU_n, exU_r, uLss_nn, decide_eq_true hl, eT_t, cn_true]
    rw [hv.get (w := .s w) (by rw [List.getElem?_map, hj]; rfl) (Fi.s w), uCallV_f, uCall_eq]
    have e1 : clU kindD (n + 2) 71 ([.s w] ++ [.p x 0]) F = _ := s71 n (hws w (List.mem_of_getElem? hj)) hx
    rw [e1, goOn_ok, decide_eq_true hk]
    rfl
  | succ r ih =>
    intro a ee h i ha M hM
    obtain ⟨M, rfl⟩ : ∃ M', M = M' + 1 := ⟨M - 1, by omega⟩
    have hl := (List.getElem?_eq_some_iff.mp hj).1
    have hal : a < ws.length := by omega
    have ha' : ws[a]? = some ws[a] := List.getElem?_eq_getElem hal
    obtain ⟨e', h', i', ih'⟩ := ih (a + 1) (.n a) (.t true) (.t false) (by omega) M (by omega)
    refine ⟨e', h', i', fun κ => ?_⟩
    rw [loopNU_succ]
    have ih'' := ih' κ
    generalize loopNU (u70_9 (clU kindD (n + 2)) N) κ M = rec at ih'' ⊢
    simp only [u70_9, seqU_eq, condU_eq, blockU_eq, skipU_eq, retU_eq, u70_2, u70_3, u70_4, u70_5, u70_6, u70_7, u70_8, m8_mk, k8_mk, exU_n, exU_r, uLss_nn, decide_eq_true hal, eT_t, cn_true]
    rw [hv.get (w := .s ws[a]) (by rw [List.getElem?_map, ha']; rfl) (Fi.s _), uCallV_f, uCall_eq]
    have e1 : clU kindD (n + 2) 71 ([.s ws[a]] ++ [.p x 0]) F = _ := s71 n (hws _ (List.mem_of_getElem? ha')) hx
    rw [e1, goOn_ok, decide_eq_false (hlt a _ (by omega) ha')]
    simp only [eT_t, cn_false, exU_n, uAdd_nn _ _ (show a + 1 ≤ 9223372036854775807 by omega)]
    exact ih''
theorem s70 (n : Nat) {F : FAW} {ws : List (List Nat)} (hws : ∀ w ∈ ws, Bs w) {v : FV} {q : Nat} (hv : SlB F v 9 (ws.map FV.s) q) {x k : Nat} {e es m o} (hx : F.row x = some ([.n k], e, es, m, o)) {j : Nat} {w : List Nat} (hj : ws[j]? = some w) (hk : wordK w = k) (hlt : ∀ i w, i < j → ws[i]? = some w → wordK w ≠ k) (hL : ws.length ≤ 1000) (hn : ws.length < n) :
    clU kindD (n + 3) 70 [v, .f 71 [] [.p x 0]] F = .ok (.n j) F := by
  have hl := (List.getElem?_eq_some_iff.mp hj).1
  rw [cl70, u70_in]
  simp only [u70b, seqU_eq, blockU_eq, loopU_eq, retU_eq, m8_mk, u70_0, u70_1, exU_n, exU_r, hv.len, List.length_map]
  obtain ⟨e', h', i', e1⟩ := loop70 n (n + 2) hws hv hx hj hk hlt hL (.n 0) j 0 (.u []) (.u []) (.u []) (by omega) (n + 2) (by omega)
  rw [e1]
  rfl
def wds : List (List Nat) := [[98, 111, 111, 108], [105, 56], [105, 49, 54], [105, 51, 50], [105, 54, 52], [100, 111, 117, 98, 108, 101], [115, 116, 114, 105, 110, 103], [98, 105, 110, 97, 114, 121]]
theorem wds_bs : ∀ w ∈ wds, Bs w := by
  intro w hw x hx
  have : (wds.all fun w => w.all fun x => decide (x < 256)) = true := by decide
  have := List.all_eq_true.mp (List.all_eq_true.mp this w hw) x hx
  simpa using this
/-- A simple word stands in the list. -/
theorem wds_at {w : List Nat} (h : wordK w ≠ 0) (hi : innerK (wordK w) = 0) : ∃ j, wds[j]? = some w ∧ (∀ (i : Nat) u, i < j → wds[i]? = some u → wordK u ≠ wordK w) := by
  have key : ∃ j, j < 8 ∧ wds[j]? = some w := by
    unfold wordK at h hi
    repeat' split at h
    all_goals first
      | (rename_i hh; subst hh; first
          | exact ⟨0, by decide, rfl⟩ | exact ⟨1, by decide, rfl⟩ | exact ⟨2, by decide, rfl⟩ | exact ⟨3, by decide, rfl⟩ | exact ⟨4, by decide, rfl⟩ | exact ⟨5, by decide, rfl⟩ | exact ⟨6, by decide, rfl⟩ | exact ⟨7, by decide, rfl⟩
          | exact absurd hi (by decide))
      | exact absurd rfl h
  obtain ⟨j, hj8, hj⟩ := key
  refine ⟨j, hj, fun i u hij hu => ?_⟩
  have hall : ∀ j < 8, ∀ i < j, ((wds[j]?).map wordK) ≠ ((wds[i]?).map wordK) := by decide
  intro hc
  have := hall j hj8 i hij
  rw [hj, hu, Option.map_some, Option.map_some, hc] at this
  exact this rfl
theorem word_inner {w : List Nat} (h : innerK (wordK w) ≠ 0) : (w = [108, 105, 115, 116] ∧ wordK w = 15 ∧ innerK (wordK w) = 1) ∨ (w = [115, 101, 116] ∧ wordK w = 14 ∧ innerK (wordK w) = 1) ∨ (w = [109, 97, 112] ∧ wordK w = 13 ∧ innerK (wordK w) = 2) := by
  by_cases h1 : w = [108, 105, 115, 116]
  · subst h1; exact .inl ⟨rfl, rfl, rfl⟩
  · by_cases h2 : w = [115, 101, 116]
    · subst h2; exact .inr (.inl ⟨rfl, rfl, rfl⟩)
    · by_cases h3 : w = [109, 97, 112]
      · subst h3; exact .inr (.inr ⟨rfl, rfl, rfl⟩)
      · exfalso
        unfold wordK at h
        simp only [h1, h2, h3, if_false] at h
        repeat' split at h
        all_goals exact h (by decide)
theorem s30 {T : Ty} (hT : T.wf) (hL : T.txt.length ≤ 1000000) (n : Nat) {F : FAW} (hF : Wf F) : ∃ F', clU kindD (n + 20) 30 [.n T.knd, .s T.name, .s T.pa, .s T.pb] F = .ok (.s T.txt) F' ∧ Std F F' nof nof ∧ Wf F' := by
  rw [cl30, u30_in]
  have n1 := hF.new [FV.n T.knd] 3 1
  have st1 := Std.new hF [FV.n T.knd] 3 1 nof nof
  have hx : (F.new [FV.n T.knd] 3 1).row F.x = some ([.n T.knd], 3, 1, F.x, false) := by rw [row_new, if_pos rfl]
  have hld : ∀ f : KU, uLd none (.p F.x 0) (F.new [FV.n T.knd] 3 1) f = f (.n T.knd) (F.new [FV.n T.knd] 3 1) := fun f => uLd_row f hx (show ([FV.n T.knd] : List FV)[0]? = some (.n T.knd) from rfl) (Fi.n _)
  simp only [u30b, seqU_eq, condU_eq, blockU_eq, skipU_eq, retU_eq, m14_mk, k14_mk, u30_0, u30_1, u30_2, u30_3, u30_4, u30_5, u30_6, u30_7, u30_8, u30_9, u30_10, u30_11, u30_12, u30_13, u30_14, u30_15, u30_16, u30_17, u30_18, u30_19, exU_n, exU_r, uCall_eq, uBox_fi _ _ (Fi.n T.knd), hld, uEq_nn, xo_f, eT_t]
  cases T with
  | nm p ps => exact ⟨_, rfl, st1, n1⟩
  | l1 w a =>
    rcases word_inner (w := w) (by have := hT.2.1; omega) with ⟨rfl, hk, _⟩ | ⟨rfl, hk, _⟩ | ⟨_, _, h3⟩
    · have hlen : (Ty.l1 [108, 105, 115, 116] a).txt.length = 4 + (a.txt.length + 2) := by simp [Ty.txt]; omega
      rw [hlen] at hL
      simp only [show (Ty.l1 [108, 105, 115, 116] a).knd = 15 from hk]
      simp only [show decide (15 = 0) = false from rfl, decide_true, cn_false, cn_true, eT_t]
      rw [uAdd_ss _ _ (by simp [Ty.pa]; omega), uAdd_ss _ _ (by simp [Ty.pa]; omega)]
      refine ⟨_, ?_, st1, n1⟩
      simp [u30r_mk, Ty.txt, Ty.pa, exU_n, hk, Ty.knd]
    · have hlen : (Ty.l1 [115, 101, 116] a).txt.length = 3 + (a.txt.length + 2) := by simp [Ty.txt]; omega
      rw [hlen] at hL
      simp only [show (Ty.l1 [115, 101, 116] a).knd = 14 from hk]
      simp only [show decide (14 = 0) = false from rfl, show decide (14 = 15) = false from rfl, decide_true, cn_false, cn_true, eT_t]
      rw [uAdd_ss _ _ (by simp [Ty.pa]; omega), uAdd_ss _ _ (by simp [Ty.pa]; omega)]
      refine ⟨_, ?_, st1, n1⟩
      simp [u30r_mk, Ty.txt, Ty.pa, exU_n, hk, Ty.knd]
    · have := hT.2.1; omega
  | l2 w a b =>
    rcases word_inner (w := w) (by have := hT.2.1; omega) with ⟨_, _, h3⟩ | ⟨_, _, h3⟩ | ⟨rfl, hk, _⟩
    · have := hT.2.1; omega
    · have := hT.2.1; omega
    · have hlen : (Ty.l2 [109, 97, 112] a b).txt.length = 3 + (a.txt.length + 1 + (b.txt.length + 2)) := by simp [Ty.txt]; omega
      rw [hlen] at hL
      simp only [show (Ty.l2 [109, 97, 112] a b).knd = 13 from hk]
      simp only [show decide (13 = 0) = false from rfl, show decide (13 = 15) = false from rfl, show decide (13 = 14) = false from rfl, decide_true, cn_false, cn_true, eT_t]
      rw [uAdd_ss _ _ (by simp [Ty.pa]; omega), uAdd_ss _ _ (by simp [Ty.pa]; omega), uAdd_ss _ _ (by simp [Ty.pa, Ty.pb]; omega), uAdd_ss _ _ (by simp [Ty.pa, Ty.pb]; omega)]
      refine ⟨_, ?_, st1, n1⟩
      simp [u30r_mk, Ty.txt, Ty.pa, Ty.pb, exU_n, hk, Ty.knd]
  | wd w =>
    obtain ⟨j, hj, hlt⟩ := wds_at hT.2.1 hT.2.2
    have k0 : ¬ (Ty.wd w).knd = 0 := hT.2.1
    have hin := hT.2.2
    have k1 : ¬ (Ty.wd w).knd = 15 := fun h => by have h : wordK w = 15 := h; rw [h] at hin; revert hin; decide
    have k2 : ¬ (Ty.wd w).knd = 14 := fun h => by have h : wordK w = 14 := h; rw [h] at hin; revert hin; decide
    have k3 : ¬ (Ty.wd w).knd = 13 := fun h => by have h : wordK w = 13 := h; rw [h] at hin; revert hin; decide
    simp only [decide_eq_false k0, decide_eq_false k1, decide_eq_false k2, decide_eq_false k3, cn_false, eT_t]
    generalize hF1 : F.new [FV.n (Ty.wd w).knd] 3 1 = F1 at *
    have e1 : ∀ f : KU, uLitF 9 1 [(.s [])] 8 [(0, 1, (.s [98, 111, 111, 108])), (1, 1, (.s [105, 56])), (2, 1, (.s [105, 49, 54])), (3, 1, (.s [105, 51, 50])), (4, 1, (.s [105, 54, 52])), (5, 1, (.s [100, 111, 117, 98, 108, 101])), (6, 1, (.s [115, 116, 114, 105, 110, 103])), (7, 1, (.s [98, 105, 110, 97, 114, 121]))] F1 f = f (.l F1.x 0 8 8) (F1.new (wds.map FV.s) 9 1) := fun f => by
      have e : uLitF 9 1 [(.s [])] 8 [(0, 1, (.s [98, 111, 111, 108])), (1, 1, (.s [105, 56])), (2, 1, (.s [105, 49, 54])), (3, 1, (.s [105, 51, 50])), (4, 1, (.s [105, 54, 52])), (5, 1, (.s [100, 111, 117, 98, 108, 101])), (6, 1, (.s [115, 116, 114, 105, 110, 103])), (7, 1, (.s [98, 105, 110, 97, 114, 121]))] F1 f = newU (wds.map FV.s) 9 1 F1 fun i F' => f (.l i 0 8 8) F' := rfl
      rw [e, newU_new]
    have hv : SlB (F1.new (wds.map FV.s) 9 1) (.l F1.x 0 8 8) 9 (wds.map FV.s) F1.x := .inr ⟨by decide, F1.x, false, rfl, by rw [row_new, if_pos rfl], by rw [fam_new, if_pos rfl]⟩
    have hx2 : (F1.new (wds.map FV.s) 9 1).row F.x = some ([.n (Ty.wd w).knd], 3, 1, F.x, false) := by
      rw [row_new, if_neg (by have := n1.row _ _ hx; omega)]; exact hx
    have e2 : clU kindD (n + 19) 70 [.l F1.x 0 8 8, .f 71 [] [.p F.x 0]] (F1.new (wds.map FV.s) 9 1) = .ok (.n j) _ := s70 (n + 16) wds_bs hv hx2 hj rfl hlt (by decide) (by show 8 < n + 16; omega)
    rw [e1]
    have e3 : ∀ f : KU, uMkf 71 [] [.p F.x 0] (F1.new (wds.map FV.s) 9 1) f = f (.f 71 [] [.p F.x 0]) (F1.new (wds.map FV.s) 9 1) := fun f => rfl
    rw [e3, e2, goOn_ok, uLss_nn]
    simp only [show decide (j < 0) = false from rfl, cn_false, eT_t]
    rw [hv.get (w := .s w) (by rw [List.getElem?_map, hj]; rfl) (Fi.s w)]
    exact ⟨_, rfl, st1.trans (Std.new n1 _ _ _ _ _), n1.new _ _ _⟩
end Go.Proofs.Ytgejdfhfgphcbaa.Ev
/- Kind: the law KindBack. -/
namespace Go.Proofs.Ytgejdfhfgphcbaa.Ev
open Go Go.RowKit
set_option linter.unusedVariables false
set_option linter.constructorNameAsVariable false
set_option linter.unusedSimpArgs false
set_option linter.unusedSectionVars false

theorem Std.none_trans {F F' F'' : FAW} (h : Std F F' nof nof) (k : Std F' F'' nof nof) : Std F F'' nof nof := h.trans k
theorem s28 (n : Nat) (F : FAW) : clU kindD (n + 1) 28 [.n 17] F = .ok (.n 8) F := by
  rw [cl28, u28_in]
  simp only [u28b, seqU_eq, condU_eq, blockU_eq, skipU_eq, retU_eq, m6_mk, k6_mk, u28_0, u28_1, u28_2, u28_3, u28_4, u28_5, u28_6, u28_7, exU_n, exU_r, uEq_nn, xo_f, eT_t, show decide (17 = 16) = false from rfl, decide_true, cn_false, cn_true, u28r_mk]
theorem Ty.txt_bs (T : Ty) (h : T.wf) : Bs T.txt := by
  have hg : ∀ w, goodP w → Bs w := fun w hw x hx => (by
    have := List.all_eq_true.mp hw.all x hx
    simp only [isIn, isLet, isDig, Bool.or_eq_true, Bool.and_eq_true, decide_eq_true_eq] at this
    omega)
  have hf : ∀ ps : List (List Nat), (∀ q ∈ ps, goodP q) → Bs (flatP ps) := by
    intro ps
    induction ps with
    | nil => intro _; exact Bs.nil
    | cons p ps ih =>
      intro h x hx
      rw [flatP_cons] at hx
      simp only [List.mem_cons, List.mem_append] at hx
      rcases hx with rfl | hx | hx
      · decide
      · exact hg p (h p (by simp)) x hx
      · exact ih (fun q hq => h q (by simp [hq])) x hx
  induction T with
  | nm p ps => exact (hg p h.1).append (hf ps h.2.1)
  | wd w => exact hg w h.1
  | l1 w a ih =>
    intro x hx
    simp only [Ty.txt, List.mem_append, List.mem_cons, List.not_mem_nil, or_false] at hx
    rcases hx with hx | rfl | hx | rfl
    · exact hg w h.1 x hx
    · decide
    · exact ih h.2.2 x hx
    · decide
  | l2 w a b ih1 ih2 =>
    intro x hx
    simp only [Ty.txt, List.mem_append, List.mem_cons, List.not_mem_nil, or_false] at hx
    rcases hx with hx | rfl | hx | rfl | hx | rfl
    · exact hg w h.1 x hx
    · decide
    · exact ih1 h.2.2.1 x hx
    · decide
    · exact ih2 h.2.2.2 x hx
    · decide
/-- Texts that are told as trees. -/
theorem goodP_dec {w : List Nat} (h : (match w with | c :: r => isLet c && r.all isIn | [] => false) = true) : goodP w := by
  cases w with
  | nil => cases h
  | cons c r =>
    simp only [Bool.and_eq_true] at h
    exact ⟨c, r, rfl, h.1, h.2⟩
theorem read_bad_nil : (readS []).2.2.e ≠ 0 := by
  intro h
  obtain ⟨T, h1, h2, _⟩ := read_out h
  have h3 := congrArg List.length h2
  have : 0 < T.txt.length := by
    cases T with
    | nm p ps => have := h1.1.pos; simp [Ty.txt]; omega
    | wd w => exact h1.1.pos
    | l1 w a => simp [Ty.txt]; omega
    | l2 w a b => simp [Ty.txt]; omega
  simp at h3; omega
/-- Does the package do anything? -/
theorem s20 (n : Nat) {F : FAW} (hF : Wf F) : ∃ F', clU kindD (n + 40) 20 [] F = .ok (.t true) F' ∧ Std F F' nof nof ∧ Wf F' := by
  rw [cl20, u20_in]
  let T1 : Ty := .l2 [109, 97, 112] (.wd [105, 56]) (.nm [97] [[66]])
  have w1 : T1.wf := ⟨goodP_dec (by decide), by decide, ⟨goodP_dec (by decide), by decide, by decide⟩, goodP_dec (by decide), fun q hq => by simp at hq; subst hq; exact goodP_dec (by decide), by decide⟩
  have t1 : T1.txt = [109, 97, 112, 60, 105, 56, 44, 97, 46, 66, 62] := rfl
  obtain ⟨F1, e1, a1, b1⟩ := s21_ok w1 (by decide) (T1.txt_bs w1) (by decide) (n + 19) (by show 11 < _; omega) hF
  have r2 : (readS [108, 105, 115, 116, 60]).2.2.e = 2 := by decide
  obtain ⟨F2, e2, a2, b2⟩ := s21_bad (l := [108, 105, 115, 116, 60]) (bsLit rfl) (by decide) (n + 19) (by show 5 < _; omega) b1 (by rw [r2]; decide)
  rw [r2] at e2
  obtain ⟨F3, e3, a3, b3⟩ := s30 w1 (by decide) (n + 19) b2
  have r4 : (readS [120]).2.2.e = 0 := by decide
  obtain ⟨F4, e4, a4, b4⟩ := s25 (l := [120]) (bsLit rfl) (by decide) (n + 19) (by show 1 < _; omega) b3
  have r5 : (readS [108, 105, 115, 116, 60, 105, 56, 62]).2.2.e = 0 := by decide
  have r5' : (readS [108, 105, 115, 116, 60, 105, 56, 62]).2.2.d = 1 := by decide
  obtain ⟨F5, e5, a5, b5⟩ := s26 (l := [108, 105, 115, 116, 60, 105, 56, 62]) (bsLit rfl) (by decide) (n + 19) (by show 8 < _; omega) b4
  have r6 : (if (readS [97]).2.2.e = 0 then (readS [97]).2.2.nm else []) = [[97]] := by decide
  obtain ⟨F6, v6, m6, e6, sl6, a6, b6⟩ := s23 (l := [97]) (bsLit rfl) (by decide) (n + 19) (by show 1 < _; omega) b5
  rw [r6] at sl6
  rw [r5, r5'] at e5
  rw [r4] at e4
  have e7 := s28 (n + 38) F5
  rw [t1] at e1 e3
  have e1' : clU kindD (n + 39) 21 [.s [109, 97, 112, 60, 105, 56, 44, 97, 46, 66, 62]] F = .ok (.u [.n 13, .s [], .s [105, 56], .s [97, 46, 66], .n 0]) F1 := e1
  have e3' : clU kindD (n + 39) 30 [.n 13, .s [], .s [105, 56], .s [97, 46, 66]] F2 = .ok (.s [109, 97, 112, 60, 105, 56, 44, 97, 46, 66, 62]) F3 := e3
  simp only [u20b, seqU_eq, retU_eq, m6_mk, u20_0, u20_1, u20_2, u20_3, exU_n, exU_r, uCall_eq, e1', e2, goOn_ok, uExt_0, uExt_1, uExt_2, uExt_3, uExt_4, uEq_nn, xo_f, decide_true, eT_t, cn_true,
    uEq_ss _ _ _ _ (bsLit (l := [105, 56]) rfl) (bsLit (l := [105, 56]) rfl), uEq_ss _ _ _ _ (bsLit (l := [97, 46, 66]) rfl) (bsLit (l := [97, 46, 66]) rfl), e3',
    uEq_ss _ _ _ _ (bsLit (l := [109, 97, 112, 60, 105, 56, 44, 97, 46, 66, 62]) rfl) (bsLit (l := [109, 97, 112, 60, 105, 56, 44, 97, 46, 66, 62]) rfl), e4, e5, if_true, e7, e6, sl6.len]
  exact ⟨F6, rfl, a1.none_trans (a2.none_trans (a3.none_trans (a4.none_trans (a5.none_trans a6)))), b6⟩
theorem uEqB_tt' (neg a b : Bool) (F : FAW) (f : KU) : uEqB neg (.t a) (.t b) F f = f (.t (xo neg (a == b))) F := uEqB_tt F f neg a b
/-- What lies within a type is a type, of lesser depth; within others lies none. -/
theorem within {T : Ty} (h : T.wf) (hd : T.dep ≤ 12) :
    ((readS T.pa).2.2.e = 0 ↔ (T.knd = 15 ∨ T.knd = 14 ∨ T.knd = 13)) ∧ ((readS T.pb).2.2.e = 0 ↔ T.knd = 13) ∧
    ((T.knd = 15 ∨ T.knd = 14 ∨ T.knd = 13) → T.dep = 1 + max (if (readS T.pa).2.2.e = 0 then (readS T.pa).2.2.d else 0) (if (readS T.pb).2.2.e = 0 then (readS T.pb).2.2.d else 0)) ∧ T.pa.length ≤ T.txt.length ∧ T.pb.length ≤ T.txt.length ∧ Bs T.pa ∧ Bs T.pb ∧ Bs T.name := by
  have hb := T.txt_bs h
  cases T with
  | nm p ps =>
    refine ⟨⟨fun h => absurd h read_bad_nil, fun h => ?_⟩, ⟨fun h => absurd h read_bad_nil, fun h => ?_⟩, fun h => ?_, Nat.zero_le _, Nat.zero_le _, Bs.nil, Bs.nil, hb⟩
    · rcases h with h | h | h <;> cases h
    · cases h
    · rcases h with h | h | h <;> cases h
  | wd w =>
    have hin := h.2.2
    have hn : ¬ (wordK w = 15 ∨ wordK w = 14 ∨ wordK w = 13) := by
      rintro (h | h | h) <;> (rw [h] at hin; revert hin; decide)
    refine ⟨⟨fun h => absurd h read_bad_nil, fun h => absurd h hn⟩, ⟨fun h => absurd h read_bad_nil, fun h => absurd (.inr (.inr h)) hn⟩, fun h => absurd h hn, Nat.zero_le _, Nat.zero_le _, Bs.nil, Bs.nil, Bs.nil⟩
  | l1 w a =>
    have hw : wordK w = 15 ∨ wordK w = 14 := by
      rcases word_inner (w := w) (by have := h.2.1; omega) with ⟨_, h, _⟩ | ⟨_, h, _⟩ | ⟨_, _, h3⟩
      · exact .inl h
      · exact .inr h
      · have := h.2.1; omega
    have hda : a.dep ≤ 12 := by simp only [Ty.dep] at hd; omega
    have ra := read_in h.2.2 hda
    have e1 : (readS a.txt).2.2.e = 0 := by rw [ra]
    have e2 : (readS a.txt).2.2.d = a.dep := by rw [ra]
    refine ⟨⟨fun _ => ?_, fun _ => e1⟩, ⟨fun h => absurd h read_bad_nil, fun h => ?_⟩, fun _ => ?_, by simp [Ty.pa, Ty.txt]; omega, Nat.zero_le _, a.txt_bs h.2.2, Bs.nil, Bs.nil⟩
    · rcases hw with hw | hw
      · exact .inl hw
      · exact .inr (.inl hw)
    · have h : wordK w = 13 := h
      omega
    · rw [show (if (readS (Ty.l1 w a).pb).2.2.e = 0 then (readS (Ty.l1 w a).pb).2.2.d else 0) = 0 from if_neg read_bad_nil, show (if (readS (Ty.l1 w a).pa).2.2.e = 0 then (readS (Ty.l1 w a).pa).2.2.d else 0) = a.dep from (if_pos e1).trans e2]
      simp only [Ty.dep]; omega
  | l2 w a b =>
    have hw : wordK w = 13 := by
      rcases word_inner (w := w) (by have := h.2.1; omega) with ⟨_, _, h3⟩ | ⟨_, _, h3⟩ | ⟨_, h, _⟩
      · have := h.2.1; omega
      · have := h.2.1; omega
      · exact h
    have hda : a.dep ≤ 12 := by simp only [Ty.dep] at hd; omega
    have hdb : b.dep ≤ 12 := by simp only [Ty.dep] at hd; omega
    have ra := read_in h.2.2.1 hda
    have rb := read_in h.2.2.2 hdb
    have e1 : (readS a.txt).2.2.e = 0 := by rw [ra]
    have e2 : (readS a.txt).2.2.d = a.dep := by rw [ra]
    have e3 : (readS b.txt).2.2.e = 0 := by rw [rb]
    have e4 : (readS b.txt).2.2.d = b.dep := by rw [rb]
    refine ⟨⟨fun _ => .inr (.inr hw), fun _ => e1⟩, ⟨fun _ => hw, fun _ => e3⟩, fun _ => ?_, by simp [Ty.pa, Ty.txt]; omega, by simp [Ty.pb, Ty.txt]; omega, a.txt_bs h.2.2.1, b.txt_bs h.2.2.2, Bs.nil⟩
    simp only [Ty.pa, Ty.pb, e1, e3, if_true, e2, e4, Ty.dep]; omega
/-- The law. -/
theorem s7 (n : Nat) (hn : 200 < n) {l : List Nat} (hl : Bs l) {F : FAW} (hF : Wf F) : ∃ F', clU kindD (n + 41) 7 [.s l] F = .ok (.t true) F' := by
  rw [cl7, u7_in]
  obtain ⟨F1, e1, a1, b1⟩ := s20 n hF
  simp only [u7b, seqU_eq, condU_eq, skipU_eq, retU_eq, m12_mk, k12_mk, u7_0, u7_1, u7_2, u7_3, u7_4, u7_5, u7_6, u7_7, u7_8, u7_9, u7_10, u7_11, u7_12, u7_13, u7_14, u7_15, exU_n, exU_r, uCall_eq, e1, goOn_ok, uNot_t, Bool.not_true, eT_t, cn_false, uLen_s, uGtr_nn]
  by_cases h200 : 200 < l.length
  · rw [decide_eq_true h200, cn_true]; exact ⟨F1, rfl⟩
  · rw [decide_eq_false h200, cn_false]
    by_cases he : (readS l).2.2.e = 0
    · obtain ⟨T, hT, rfl, hd⟩ := read_out he
      obtain ⟨x1, x2, x3, x4, x5, x6, x7, x8⟩ := within hT hd
      obtain ⟨F2, e2, a2, b2⟩ := s21_ok hT hd hl (by omega) (n + 20) (by omega) b1
      obtain ⟨F3, e3, a3, b3⟩ := s30 hT (by omega) (n + 20) b2
      obtain ⟨F4, e4, a4, b4⟩ := s25 x6 (by omega) (n + 20) (by omega) b3
      obtain ⟨F5, e5, a5, b5⟩ := s25 x7 (by omega) (n + 20) (by omega) b4
      obtain ⟨F6, e6, a6, b6⟩ := s26 hl (by omega) (n + 20) (by omega) b5
      obtain ⟨F7, e7, a7, b7⟩ := s26 x6 (by omega) (n + 20) (by omega) b6
      obtain ⟨F8, e8, a8, b8⟩ := s26 x7 (by omega) (n + 20) (by omega) b7
      rw [read_in hT hd] at e6
      simp only [if_true] at e6
      simp only [e2, goOn_ok, uExt_0, uExt_1, uExt_2, uExt_3, uExt_4, uEq_nn, xo_t, xo_f, decide_true, Bool.not_true, eT_t, cn_false, e3, uEq_ss _ _ _ _ hl hl, e4, e5]
      by_cases hw : T.knd = 15 ∨ T.knd = 14 ∨ T.knd = 13
      · have y1 := x1.mpr hw
        have y2 : (decide (T.knd = 13) == decide ((readS T.pb).2.2.e = 0)) = true := by
          by_cases h : T.knd = 13
          · rw [decide_eq_true h, decide_eq_true (x2.mpr h)]; rfl
          · rw [decide_eq_false h, decide_eq_false (fun h2 => h (x2.mp h2))]; rfl
        have y3 : T.dep = 1 + max (if (readS T.pa).2.2.e = 0 then (readS T.pa).2.2.d else 0) (if (readS T.pb).2.2.e = 0 then (readS T.pb).2.2.d else 0) := x3 hw
        have y5 : ∀ f : KU, ∀ G, uMM true [.n (if (readS T.pa).2.2.e = 0 then (readS T.pa).2.2.d else 0), .n (if (readS T.pb).2.2.e = 0 then (readS T.pb).2.2.d else 0)] G f = f (.n (max (if (readS T.pa).2.2.e = 0 then (readS T.pa).2.2.d else 0) (if (readS T.pb).2.2.e = 0 then (readS T.pb).2.2.d else 0))) G := fun f G => uMM_nn _ _ _ _
        have y6 : ∀ f : KU, ∀ G, uAdd (.n 1) (.n (max (if (readS T.pa).2.2.e = 0 then (readS T.pa).2.2.d else 0) (if (readS T.pb).2.2.e = 0 then (readS T.pb).2.2.d else 0))) G f = f (.n T.dep) G := fun f G => by rw [uAdd_nn _ _ (by omega), ← y3]
        rcases hw with hk | hk | hk
        · simp only [hk, decide_eq_true y1, show decide (15 = 15) = true from rfl, show decide (15 = 13) = false from rfl] at y2 ⊢
          simp only [cn_true, cn_false, eT_t, uEqB_tt, xo_t, uEq_nn, xo_f, e5, goOn_ok, y2, show (true == true) = true from rfl, Bool.not_true, exU_n, uNot_t, e6, e7, e8, y5, y6, decide_true]
          exact ⟨F8, rfl⟩
        · simp only [hk, decide_eq_true y1, show decide (14 = 14) = true from rfl, show decide (14 = 15) = false from rfl, show decide (14 = 13) = false from rfl] at y2 ⊢
          simp only [cn_true, cn_false, eT_t, uEqB_tt, xo_t, uEq_nn, xo_f, e5, goOn_ok, y2, show (true == true) = true from rfl, Bool.not_true, exU_n, uNot_t, e6, e7, e8, y5, y6, decide_true]
          exact ⟨F8, rfl⟩
        · have y8 := x2.mpr hk
          simp only [hk, decide_eq_true y1, decide_eq_true y8, show decide (13 = 13) = true from rfl, show decide (13 = 14) = false from rfl, show decide (13 = 15) = false from rfl] at y2 ⊢
          simp only [decide_eq_true y8, cn_true, cn_false, eT_t, uEqB_tt, xo_t, uEq_nn, xo_f, e5, goOn_ok, y2, show (true == true) = true from rfl, Bool.not_true, exU_n, uNot_t, e6, e7, e8, y5, y6, decide_true]
          exact ⟨F8, rfl⟩
      · have y1 : ¬ (readS T.pa).2.2.e = 0 := fun h => hw (x1.mp h)
        have y2 : ¬ T.knd = 13 := fun h => hw (.inr (.inr h))
        have y3 : ¬ (readS T.pb).2.2.e = 0 := fun h => y2 (x2.mp h)
        have y4 : ¬ T.knd = 15 := fun h => hw (.inl h)
        have y5 : ¬ T.knd = 14 := fun h => hw (.inr (.inl h))
        simp only [decide_eq_false y1, decide_eq_false y2, decide_eq_false y3, decide_eq_false y4, decide_eq_false y5, cn_false, eT_t, uEqB_tt, xo_t, uEq_nn, xo_f, e4, e5, goOn_ok, Bool.not_false, uNot_t, cn_true, show (false == false) = true from rfl, Bool.not_true, exU_n, exU_r]
        exact ⟨F5, rfl⟩
    · obtain ⟨F2, e2, a2, b2⟩ := s21_bad hl (by omega) (n + 20) (by omega) b1 he
      simp only [e2, goOn_ok, uExt_0, uExt_1, uExt_2, uExt_3, uExt_4, uEq_nn, xo_t, xo_f, decide_eq_false he, Bool.not_false, eT_t, cn_true, decide_true, uEq_ss _ _ _ _ Bs.nil Bs.nil, exU_n, exU_r]
      exact ⟨F2, rfl⟩
end Go.Proofs.Ytgejdfhfgphcbaa.Ev
