/- Msg: the cursor. -/
import Derived.Test.YtgejdfhfgphcbaaMsgS
import Derived.Test.YtgejdfhfgphcbaaEvF
namespace Go.Proofs.Ytgejdfhfgphcbaa.Ev
open Go Go.RowKit
set_option linter.unusedVariables false
set_option linter.constructorNameAsVariable false
set_option linter.unusedSimpArgs false
set_option linter.unusedSectionVars false

/-- But one row nothing is another. -/
structure Oth (F F' : FAW) (i : Nat) : Prop where
  row : ∀ j, j ≠ i → F'.row j = F.row j
  fam : ∀ j, F'.fam j = F.fam j
  mp : ∀ j, F'.mp j = F.mp j
  x : F'.x = F.x
theorem Oth.refl (F : FAW) (i : Nat) : Oth F F i := ⟨fun _ _ => rfl, fun _ => rfl, fun _ => rfl, rfl⟩
theorem Oth.trans {F F' F'' : FAW} {i : Nat} (h : Oth F F' i) (k : Oth F' F'' i) : Oth F F'' i :=
  ⟨fun j hj => (k.row j hj).trans (h.row j hj), fun j => (k.fam j).trans (h.fam j), fun j => (k.mp j).trans (h.mp j), k.x.trans h.x⟩
theorem Oth.put (F : FAW) (i : Nat) (d : List FV) : Oth F (F.put i d) i := ⟨fun j hj => by rw [row_put, if_neg hj], fun _ => rfl, fun j => mp_put F i d j, rfl⟩
theorem Oth.std {F F' : FAW} {i : Nat} (h : Oth F F' i) (B : Nat → Prop) : Std F F' (fun j => j = i) B :=
  ⟨fun j _ hj hr => by rw [h.row j hj]; exact hr, fun j _ _ hr => by rw [h.fam j]; exact hr, fun j _ hr => by rw [h.mp j]; exact hr, Nat.le_of_eq h.x.symm⟩
/-- An envelope's head. -/
structure Hd where
  nm : List Nat
  kd : Nat
  sq : Int
  old : Bool
def Hd.c (h : Hd) : List FV := [.s h.nm, .n h.kd, .i .i32 h.sq, .t h.old]
/-- The cursor stands in bytes, before its head. -/
structure Cu (F : FAW) (x : Nat) (v : FV) (l : List Nat) (n e : Nat) (h : Hd) : Prop where
  row : ∃ el, F.row x = some ([v, .n n, .n e, .s h.nm, .n h.kd, .i .i32 h.sq, .t h.old], el, 7, x, false)
  fam : ∃ ex, F.fam x = some (false, ex) ∧ 7 ≤ ex
  by_ : By F v l
section
variable {F : FAW} {x : Nat} {v : FV} {l : List Nat} {n e : Nat} {H : Hd} (h : Cu F x v l n e H) (f : KU)
include h
theorem Cu.g0 : uGet 0 (.p x 0) F f = f v F := by obtain ⟨el, hr⟩ := h.row; exact uGet_row f hr rfl h.by_.fi
theorem Cu.g1 : uGet 1 (.p x 0) F f = f (.n n) F := by obtain ⟨el, hr⟩ := h.row; exact uGet_row f hr rfl (Fi.n _)
theorem Cu.g2 : uGet 2 (.p x 0) F f = f (.n e) F := by obtain ⟨el, hr⟩ := h.row; exact uGet_row f hr rfl (Fi.n _)
omit f in
theorem Cu.put (n' e' : Nat) (H' : Hd) : Cu (F.put x [v, .n n', .n e', .s H'.nm, .n H'.kd, .i .i32 H'.sq, .t H'.old]) x v l n' e' H' := by
  obtain ⟨el, hr⟩ := h.row
  obtain ⟨ex, hf, h5⟩ := h.fam
  refine ⟨⟨el, by rw [row_put, if_pos rfl, hr]; rfl⟩, ⟨ex, by rw [fam_put]; exact hf, h5⟩, h.by_.std ((Oth.put F x _).std (fun _ => False)) ?_⟩
  intro i r e m o hi hx
  subst hx
  rw [hr] at hi
  simp at hi
theorem Cu.s1 (n' : Nat) : uSt 1 (.p x 1) (.n n') F f = f (.u []) (F.put x [v, .n n', .n e, .s H.nm, .n H.kd, .i .i32 H.sq, .t H.old]) := by
  obtain ⟨el, hr⟩ := h.row
  obtain ⟨ex, hf, h5⟩ := h.fam
  exact uSt_row f hr hf h5 rfl (Fi.n _) (Fi.n n')
theorem Cu.s2 (e' : Nat) : uSt 1 (.p x 2) (.n e') F f = f (.u []) (F.put x [v, .n n, .n e', .s H.nm, .n H.kd, .i .i32 H.sq, .t H.old]) := by
  obtain ⟨el, hr⟩ := h.row
  obtain ⟨ex, hf, h5⟩ := h.fam
  exact uSt_row f hr hf h5 rfl (Fi.n _) (Fi.n e')
theorem Cu.s3 (a : List Nat) : uSt 1 (.p x 3) (.s a) F f = f (.u []) (F.put x [v, .n n, .n e, .s a, .n H.kd, .i .i32 H.sq, .t H.old]) := by
  obtain ⟨el, hr⟩ := h.row
  obtain ⟨ex, hf, h5⟩ := h.fam
  exact uSt_row f hr hf h5 rfl (Fi.s _) (Fi.s _)
theorem Cu.s4 (a : Nat) : uSt 1 (.p x 4) (.n a) F f = f (.u []) (F.put x [v, .n n, .n e, .s H.nm, .n a, .i .i32 H.sq, .t H.old]) := by
  obtain ⟨el, hr⟩ := h.row
  obtain ⟨ex, hf, h5⟩ := h.fam
  exact uSt_row f hr hf h5 rfl (Fi.n _) (Fi.n _)
theorem Cu.s5 (a : Int) : uSt 1 (.p x 5) (.i .i32 a) F f = f (.u []) (F.put x [v, .n n, .n e, .s H.nm, .n H.kd, .i .i32 a, .t H.old]) := by
  obtain ⟨el, hr⟩ := h.row
  obtain ⟨ex, hf, h5⟩ := h.fam
  exact uSt_row f hr hf h5 rfl (Fi.i _ _) (Fi.i _ _)
theorem Cu.s6 (a : Bool) : uSt 1 (.p x 6) (.t a) F f = f (.u []) (F.put x [v, .n n, .n e, .s H.nm, .n H.kd, .i .i32 H.sq, .t a]) := by
  obtain ⟨el, hr⟩ := h.row
  obtain ⟨ex, hf, h5⟩ := h.fam
  exact uSt_row f hr hf h5 rfl (Fi.t _) (Fi.t _)
end
/-- An error is noted. -/
def fls (e : Nat) (b : Bool) (c : Nat) : Nat := if b = true then (if e = 0 then c else e) else e
theorem fls_f (e c : Nat) : fls e false c = e := rfl
theorem s57 (m : Nat) {F : FAW} {x : Nat} {v : FV} {l : List Nat} {n e : Nat} {H : Hd} (h : Cu F x v l n e H) (hw : Wf F) (b : Bool) (c : Nat) :
    ∃ F', clU msgD (m + 1) 57 [.p x 0, .t b, .n c] F = .ok (.u []) F' ∧ Cu F' x v l n (fls e b c) H ∧ Oth F F' x ∧ Wf F' := by
  rw [cl57, u57_in]
  cases b with
  | false =>
    simp only [↓u57b, ↓seqU_eq, ↓condU_eq, ↓skipU_eq, ↓u57_0, ↓u57_1, ↓m4_mk, ↓k4_mk, ↓exU_n, ↓eT_t, ↓cn_false, ↓u57r_mk]
    exact ⟨F, rfl, h, Oth.refl _ _, hw⟩
  | true =>
    by_cases he : e = 0
    · simp only [↓u57b, ↓seqU_eq, ↓condU_eq, ↓skipU_eq, ↓u57_0, ↓u57_1, ↓u57_2, ↓m4_mk, ↓k4_mk, ↓exU_n, ↓eT_t, ↓cn_true, ↓h.g2, ↓uEq_nn, xo_f, decide_eq_true he, ↓uNilc_p, ↓uFad_p, Nat.zero_add, ↓h.s2, ↓u57r_mk]
      refine ⟨_, rfl, ?_, Oth.put _ _ _, hw.put _ _⟩
      have := h.put n c H
      simpa [fls, he] using this
    · simp only [↓u57b, ↓seqU_eq, ↓condU_eq, ↓skipU_eq, ↓u57_0, ↓u57_1, ↓u57_2, ↓m4_mk, ↓k4_mk, ↓exU_n, ↓eT_t, ↓cn_true, ↓cn_false, ↓h.g2, ↓uEq_nn, xo_f, decide_eq_false he, ↓u57r_mk]
      refine ⟨F, rfl, ?_, Oth.refl _ _, hw⟩
      simpa [fls, he] using h
/-- Bytes are read. -/
def bye (l : List Nat) (n e k : Nat) : Nat := fls e (decide (l.length - n < k)) 3
def byn (l : List Nat) (n e k : Nat) : Nat := if bye l n e k = 0 then n + k else n
def byl (l : List Nat) (n e k : Nat) : List Nat := if bye l n e k = 0 then (l.drop n).take k else []
theorem bye0 {l : List Nat} {n e k : Nat} : bye l n e k = 0 ↔ e = 0 ∧ k ≤ l.length - n := by
  unfold bye fls
  by_cases h1 : l.length - n < k <;> by_cases h2 : e = 0 <;> simp [h1, h2] <;> omega
theorem byn_le {l : List Nat} {n e k : Nat} (h : n ≤ l.length) : byn l n e k ≤ l.length := by
  unfold byn bye fls
  by_cases h1 : l.length - n < k <;> by_cases h2 : e = 0 <;> simp [h1, h2] <;> omega
theorem s101 (m : Nat) {F : FAW} {x : Nat} {v : FV} {l : List Nat} {n e : Nat} {H : Hd} (h : Cu F x v l n e H) (hw : Wf F) (hn : n ≤ l.length) (hL : l.length ≤ 1000000) (k : Nat) :
    ∃ w F', clU msgD (m + 2) 101 [.p x 0, w64 k] F = .ok w F' ∧ Cu F' x v l (byn l n e k) (bye l n e k) H ∧ By F' w (byl l n e k) ∧ Oth F F' x ∧ Wf F' := by
  rw [cl101, u101_in, u101b_s, u101bt1_s]
  obtain ⟨F1, e1, h1, o1, w1⟩ := s57 m h hw (decide (l.length - n < k)) 3
  by_cases hb : bye l n e k = 0
  · have hb' : fls e (decide (l.length - n < k)) 3 = 0 := hb
    have hk : k ≤ l.length - n := (bye0.mp hb).2
    obtain ⟨w, e2, b2⟩ := h1.by_.cut (show n ≤ n + k by omega) (show n + k ≤ l.length by omega)
    have hs := h1.put (n + k) (fls e (decide (l.length - n < k)) 3) H
    refine ⟨w, F1.put x [v, .n (n + k), .n (fls e (decide (l.length - n < k)) 3), .s H.nm, .n H.kd, .i .i32 H.sq, .t H.old], ?eq, ?_, ?_, o1.trans (Oth.put _ _ _), w1.put _ _⟩
    case eq =>
      simp only [↓seqU_eq, ↓condU_eq, ↓skipU_eq, ↓u101_0, ↓u101_1, ↓m5_mk, ↓k5_mk, ↓exU_n, ↓h.g0, ↓h.g1, ↓h.by_.len, uSub_nn _ _ hn (show l.length ≤ 9223372036854775807 by omega), uCv_un _ _ (l.length - n) (by omega), uGtr_w, ↓uCall_eq, ↓e1, ↓goOn_ok]
      simp only [↓u101bt2_s, ↓seqU_eq, ↓condU_eq, ↓skipU_eq, ↓u101_2, ↓u101_3, ↓m5_mk, ↓k5_mk, ↓exU_n, ↓h1.g2, ↓uEq_nn, xo_t, hb', decide_true, Bool.not_true, ↓eT_t, ↓cn_false]
      simp only [↓u101bt3_s, ↓u101bt4_s, ↓u101bt5_s, ↓seqU_eq, ↓retU_eq, ↓u101_5, ↓u101_6, ↓u101_7, ↓m5_mk, ↓exU_n, ↓exU_r, ↓h1.g0, ↓h1.g1, uCv_nw _ _ k (by omega), uAdd_nn _ _ (show n + k ≤ 9223372036854775807 by omega), e2, ↓uNilc_p, ↓uFad_p, Nat.zero_add, ↓h1.s1, ↓u101r_mk, hb']
    · simp only [byn, bye, hb', if_true]
      rw [hb'] at hs
      exact hs
    · simp only [byl, hb, if_true]
      rw [show n + k - n = k by omega] at b2
      refine b2.std ((Oth.put F1 x _).std (fun _ => False)) ?_
      intro i r e m o hi hx
      subst hx
      obtain ⟨el, hr⟩ := h1.row
      rw [hr] at hi
      simp at hi
  · have hb' : ¬ fls e (decide (l.length - n < k)) 3 = 0 := hb
    refine ⟨.nl, F1, ?_, ?_, ?_, o1, w1⟩
    · simp only [↓seqU_eq, ↓condU_eq, ↓skipU_eq, ↓u101_0, ↓u101_1, ↓m5_mk, ↓k5_mk, ↓exU_n, ↓h.g0, ↓h.g1, ↓h.by_.len, uSub_nn _ _ hn (show l.length ≤ 9223372036854775807 by omega), uCv_un _ _ (l.length - n) (by omega), uGtr_w, ↓uCall_eq, ↓e1, ↓goOn_ok]
      simp only [↓u101bt2_s, ↓seqU_eq, ↓condU_eq, ↓skipU_eq, ↓retU_eq, ↓u101_2, ↓u101_3, ↓u101_4, ↓m5_mk, ↓k5_mk, ↓exU_n, ↓exU_r, ↓h1.g2, ↓uEq_nn, xo_t, decide_eq_false hb', Bool.not_false, ↓eT_t, ↓cn_true, ↓u101r_mk]
    · simp only [byn, hb, if_false]; exact h1
    · simp only [byl, hb, if_false]; exact .inl ⟨rfl, rfl⟩
end Go.Proofs.Ytgejdfhfgphcbaa.Ev
/- Msg: numbers that are read. -/
namespace Go.Proofs.Ytgejdfhfgphcbaa.Ev
open Go Go.RowKit
set_option linter.unusedVariables false
set_option linter.constructorNameAsVariable false
set_option linter.unusedSimpArgs false
set_option linter.unusedSectionVars false

theorem w_0 : FV.i .u64 0 = w64 0 := rfl
theorem w_1 : FV.i .u64 1 = w64 1 := rfl
theorem w_4 : FV.i .u64 4 = w64 4 := rfl
theorem w_5 : FV.i .u64 5 = w64 5 := rfl
theorem w_8 : FV.i .u64 8 = w64 8 := rfl
theorem w_40 : FV.i .u64 40 = w64 40 := rfl
theorem or_add {a b k : Nat} (hb : b < 2 ^ k) : a * 2 ^ k ||| b = a * 2 ^ k + b := by
  rw [Nat.mul_comm]
  exact (Nat.two_pow_add_eq_or_of_lt hb a).symm
def be4 : List Nat → Nat
  | [a, b, c, d] => ((a * 256 + b) * 256 + c) * 256 + d
  | _ => 0
theorem s102_nil (m : Nat) {F : FAW} {v : FV} (h : By F v []) : clU msgD (m + 1) 102 [v, .n 4] F = .ok (.u [w64 0, .n 3]) F := by
  have hlen : ∀ (G : FAW) (f : KU), uLen false v G f = f (.n 0) G := fun G f => h.len G f
  rw [cl102, u102_in]
  simp only [↓u102b, ↓seqU_eq, ↓condU_eq, ↓skipU_eq, ↓retU_eq, ↓u102_0, ↓u102_1, ↓u102_2, ↓u102_4, ↓u102_5, ↓u102_6, ↓m8_mk, ↓k8_mk, ↓exU_n, ↓exU_r, ↓uLss_nn, ↓uGtr_nn, ↓eT_t, ↓hlen, decide_eq_false (show ¬ 4 < 0 by omega), decide_eq_false (show ¬ 8 < 4 by omega), decide_eq_true (show 0 < 4 by omega), ↓cn_false, ↓cn_true, ↓u102r_mk, w_0]
theorem r102 (C : CU) (N : Nat) {F : FAW} {v : FV} {l : List Nat} (h : By F v l) (s acc x : Nat) (hs : s ≤ 24) (hx : l[4 - 1 - s / 8]? = some x) (hx2 : x < 256) (ha : acc < 18446744073709551616) (e g i j : FV) (κ : EX → W8 → FAW → RU) (M : Nat) :
    loopNU (u102_12 C N) κ (M + 1) (.mk v (.n 4) (w64 acc) e (.n s) g i j) F = uSub (.n s) (.n 8) F fun v0 S => loopNU (u102_12 C N) κ M (.mk v (.n 4) (w64 (acc ||| x * 2 ^ s % 18446744073709551616)) e v0 g i (.t true)) S := by
  rw [loopNU_succ]
  generalize loopNU (u102_12 C N) κ M = rec
  have e0 := fun f : KU => h.get hx f
  have e1 := uSub_nn F (fun v0 S => uQuo true .quo (.n s) (.n 8) S fun v1 S => uSub v0 v1 S fun v2 S => uIad 1 v v2 S fun v3 S => uLd none v3 S fun v4 S => uCvI .u64 v4 S fun v5 S => uSlow .shl v5 (.n s) S fun v6 S => uSlow .or (w64 acc) v6 S fun v7 S => uSub (.n s) (.n 8) S fun v0 S => rec (.mk v (.n 4) v7 e v0 g i (.t true)) S) (show 1 ≤ 4 by omega) (show 4 ≤ 9223372036854775807 by omega)
  simp only [↓u102_12, ↓seqU_eq, ↓condU_eq, ↓skipU_eq, ↓blockU_eq, ↓exitU_eq, ↓u102_8, ↓u102_9, ↓u102_10, ↓u102_11, ↓m8_mk, ↓k8_mk, ↓exU_n, ↓exU_e, ↓uGeq_nn, ↓eT_t, decide_eq_true (show 0 ≤ s by omega), ↓cn_true]
  refine e1.trans ?_
  rw [uDiv_nn _ _ s 8 (by omega) (by omega), uSub_nn _ _ (show s / 8 ≤ 4 - 1 by omega) (show 4 - 1 ≤ 9223372036854775807 by omega), e0, uCv_ub _ _ _ hx2, uShl_w _ _ _ s (by omega) _ (.inr rfl), uOr_w _ _ _ _ ha (Nat.mod_lt _ (by decide))]
theorem uSub_08 (F : FAW) (f : KU) : uSub (.n 0) (.n 8) F f = f (.i .i64 (-8)) F := rfl
theorem e102 (C : CU) (N : Nat) (F : FAW) (v d e g i j : FV) (κ : EX → W8 → FAW → RU) (M : Nat) :
    loopNU (u102_12 C N) κ (M + 1) (.mk v (.n 4) d e (.i .i64 (-8)) g i j) F = κ (.exit 0) (.mk v (.n 4) d e (.i .i64 (-8)) g i (.t false)) F := by
  rw [loopNU_succ]
  generalize loopNU (u102_12 C N) κ M = rec
  rfl
theorem or_be {a b c d : Nat} (ha : a < 256) (hb : b < 256) (hc : c < 256) (hd : d < 256) : (((0 ||| a * 2 ^ 24 % 18446744073709551616) ||| b * 2 ^ 16 % 18446744073709551616) ||| c * 2 ^ 8 % 18446744073709551616) ||| d * 2 ^ 0 % 18446744073709551616 = be4 [a, b, c, d] := by
  rw [Nat.mod_eq_of_lt (show a * 2 ^ 24 < _ by omega), Nat.mod_eq_of_lt (show b * 2 ^ 16 < _ by omega), Nat.mod_eq_of_lt (show c * 2 ^ 8 < _ by omega), Nat.mod_eq_of_lt (show d * 2 ^ 0 < _ by omega), Nat.zero_or,
      or_add (show b * 2 ^ 16 < 2 ^ 24 by omega), show a * 2 ^ 24 + b * 2 ^ 16 = (a * 256 + b) * 2 ^ 16 by omega, or_add (show c * 2 ^ 8 < 2 ^ 16 by omega), show (a * 256 + b) * 2 ^ 16 + c * 2 ^ 8 = ((a * 256 + b) * 256 + c) * 2 ^ 8 by omega, or_add (show d * 2 ^ 0 < 2 ^ 8 by omega)]
  simp only [be4]
  omega
theorem l102 (C : CU) (N : Nat) {F : FAW} {v : FV} {a b c d : Nat} (h : By F v [a, b, c, d]) (hl : Bs [a, b, c, d]) (e g i j : FV) (κ : EX → W8 → FAW → RU) (M : Nat) :
    loopNU (u102_12 C N) κ (M + 5) (.mk v (.n 4) (w64 0) e (.n 24) g i j) F = κ (.exit 0) (.mk v (.n 4) (w64 (be4 [a, b, c, d])) e (.i .i64 (-8)) g i (.t false)) F := by
  have ha : a < 256 := hl a (by simp)
  have hb : b < 256 := hl b (by simp)
  have hc : c < 256 := hl c (by simp)
  have hd : d < 256 := hl d (by simp)
  have b1 : (0 ||| a * 2 ^ 24 % 18446744073709551616) < 18446744073709551616 := by rw [Nat.zero_or]; exact Nat.mod_lt _ (by decide)
  have b2 := Nat.or_lt_two_pow (n := 64) b1 (Nat.mod_lt (b * 2 ^ 16) (show 0 < 18446744073709551616 by decide))
  have b3 := Nat.or_lt_two_pow (n := 64) b2 (Nat.mod_lt (c * 2 ^ 8) (show 0 < 18446744073709551616 by decide))
  have r0 := r102 C N h 24 0 a (by omega) rfl ha (by omega)
  have r1 := r102 C N h 16 _ b (by omega) rfl hb b1
  have r2 := r102 C N h 8 _ c (by omega) rfl hc b2
  have r3 := r102 C N h 0 _ d (by omega) rfl hd b3
  have r4 := e102 C N
  generalize u102_12 C N = B at *
  rw [r0, uSub_nn _ _ (show 8 ≤ 24 by omega) (by omega), show 24 - 8 = 16 from rfl, r1, uSub_nn _ _ (show 8 ≤ 16 by omega) (by omega), show 16 - 8 = 8 from rfl,
    r2, uSub_nn _ _ (show 8 ≤ 8 by omega) (by omega), show 8 - 8 = 0 from rfl, r3, uSub_08, r4, or_be ha hb hc hd]
theorem s102_4 (N : Nat) (hN : 5 ≤ N) {F : FAW} {v : FV} {a b c d : Nat} (h : By F v [a, b, c, d]) (hl : Bs [a, b, c, d]) : clU msgD (N + 1) 102 [v, .n 4] F = .ok (.u [w64 (be4 [a, b, c, d]), .n 0]) F := by
  have hlen : ∀ (G : FAW) (f : KU), uLen false v G f = f (.n 4) G := fun G f => h.len G f
  have hL : ∀ (C : CU) (e g i j : FV) (κ : EX → W8 → FAW → RU), loopNU (u102_12 C N) κ N (.mk v (.n 4) (w64 0) e (.n (8 * (4 - 1))) g i j) F = κ (.exit 0) (.mk v (.n 4) (w64 (be4 [a, b, c, d])) e (.i .i64 (-8)) g i (.t false)) F := by
    intro C e g i j κ
    have := l102 C N h hl e g i j κ (N - 5)
    rw [show N - 5 + 5 = N by omega] at this
    exact this
  rw [cl102, u102_in]
  simp only [↓u102b, ↓seqU_eq, ↓condU_eq, ↓skipU_eq, ↓retU_eq, ↓blockU_eq, ↓loopU_eq, ↓u102_0, ↓u102_1, ↓u102_2, ↓u102_4, ↓u102_5, ↓u102_7, ↓u102_13, ↓m8_mk, ↓k8_mk, ↓exU_n, ↓exU_r, ↓exU_e, ↓uLss_nn, ↓uGtr_nn, ↓eT_t, ↓hlen, decide_eq_false (show ¬ 4 < 0 by omega), decide_eq_false (show ¬ 8 < 4 by omega), decide_eq_false (show ¬ 4 < 4 by omega), ↓cn_false, uSub_nn _ _ (show 1 ≤ 4 by omega) (show 4 ≤ 9223372036854775807 by omega), uMul_nn _ _ (show 8 * (4 - 1) ≤ 9223372036854775807 by omega), w_0, hL, show Nat.beq 0 0 = true from rfl, ↓cn_true, ↓u102r_mk]
end Go.Proofs.Ytgejdfhfgphcbaa.Ev
/- Msg: the cursor's readers. -/
namespace Go.Proofs.Ytgejdfhfgphcbaa.Ev
open Go Go.RowKit
set_option linter.unusedVariables false
set_option linter.constructorNameAsVariable false
set_option linter.unusedSimpArgs false
set_option linter.unusedSectionVars false

section
variable {F : FAW} {x : Nat} {v : FV} {l : List Nat} {n e : Nat} {H : Hd}
theorem t57 (N : Nat) (hN : 1 ≤ N) (h : Cu F x v l n e H) (hw : Wf F) (b : Bool) (c : Nat) :
    ∃ F', clU msgD N 57 [.p x 0, .t b, .n c] F = .ok (.u []) F' ∧ Cu F' x v l n (fls e b c) H ∧ Oth F F' x ∧ Wf F' := by
  obtain ⟨m, rfl⟩ : ∃ m, N = m + 1 := ⟨N - 1, by omega⟩
  exact s57 m h hw b c
theorem t101 (N : Nat) (hN : 2 ≤ N) (h : Cu F x v l n e H) (hw : Wf F) (hn : n ≤ l.length) (hL : l.length ≤ 1000000) (k : Nat) :
    ∃ w F', clU msgD N 101 [.p x 0, w64 k] F = .ok w F' ∧ Cu F' x v l (byn l n e k) (bye l n e k) H ∧ By F' w (byl l n e k) ∧ Oth F F' x ∧ Wf F' := by
  obtain ⟨m, rfl⟩ : ∃ m, N = m + 2 := ⟨N - 2, by omega⟩
  exact s101 m h hw hn hL k
theorem byl_len {k : Nat} (h : bye l n e k = 0) : (byl l n e k).length = k := by
  have := (bye0.mp h).2
  rw [byl, if_pos h, List.length_take, List.length_drop]
  omega
theorem byl_bs (hl : Bs l) (k : Nat) : Bs (byl l n e k) := by
  unfold byl
  split
  · exact (hl.drop n).take k
  · exact Bs.nil
/-- A byte. -/
def rdb (l : List Nat) (n e : Nat) : Nat := (byl l n e 1).headD 0
theorem t83 (N : Nat) (hN : 3 ≤ N) (h : Cu F x v l n e H) (hw : Wf F) (hl : Bs l) (hn : n ≤ l.length) (hL : l.length ≤ 1000000) :
    ∃ F', clU msgD N 83 [.p x 0] F = .ok (.n (rdb l n e)) F' ∧ Cu F' x v l (byn l n e 1) (bye l n e 1) H ∧ Oth F F' x ∧ Wf F' := by
  obtain ⟨m, rfl⟩ : ∃ m, N = m + 1 := ⟨N - 1, by omega⟩
  obtain ⟨w, F1, e1, h1, b1, o1, w1⟩ := t101 m (by omega) h hw hn hL 1
  refine ⟨F1, ?_, h1, o1, w1⟩
  rw [cl83, u83_in, u83b_s, u83bt1_s]
  simp only [↓seqU_eq, ↓condU_eq, ↓skipU_eq, ↓u83_0, ↓u83_1, ↓m4_mk, ↓k4_mk, ↓exU_n, w_1, ↓uCall_eq, ↓e1, ↓goOn_ok]
  simp only [↓u83bt2_s, ↓seqU_eq, ↓condU_eq, ↓skipU_eq, ↓u83_2, ↓u83_3, ↓m4_mk, ↓k4_mk, ↓exU_n, ↓h1.g2, ↓uEq_nn, xo_t, ↓eT_t]
  by_cases hb : bye l n e 1 = 0
  · have hlen := byl_len hb
    match hc : byl l n e 1, hlen with
    | [c], _ =>
      rw [hc] at b1
      have e2 := fun f : KU => b1.get (k := 0) (x := c) rfl f
      have hc2 : c < 256 := byl_bs (n := n) (e := e) hl 1 c (by rw [hc]; simp)
      simp only [↓u83bt3_s, ↓seqU_eq, ↓retU_eq, decide_eq_true hb, Bool.not_true, ↓cn_false, ↓exU_n, ↓exU_r, ↓u83_5, ↓m4_mk, e2, uCv_nb _ _ c (by omega), ↓u83r_mk]
      simp only [rdb, hc, List.headD_cons]
  · simp only [↓seqU_eq, ↓retU_eq, decide_eq_false hb, Bool.not_false, ↓cn_true, ↓exU_n, ↓exU_r, ↓u83_4, ↓m4_mk, ↓u83r_mk]
    simp only [rdb, byl, hb, if_false, List.headD_nil]
/-- A byte that must be such. -/
theorem t84 (N : Nat) (hN : 4 ≤ N) (h : Cu F x v l n e H) (hw : Wf F) (hl : Bs l) (hn : n ≤ l.length) (hL : l.length ≤ 1000000) (c : Nat) :
    ∃ F', clU msgD N 84 [.p x 0, .n c] F = .ok (.u []) F' ∧ Cu F' x v l (byn l n e 1) (fls (bye l n e 1) (!decide (rdb l n e = c)) 2) H ∧ Oth F F' x ∧ Wf F' := by
  obtain ⟨m, rfl⟩ : ∃ m, N = m + 1 := ⟨N - 1, by omega⟩
  obtain ⟨F1, e1, h1, o1, w1⟩ := t83 m (by omega) h hw hl hn hL
  obtain ⟨F2, e2, h2, o2, w2⟩ := t57 m (by omega) h1 w1 (!decide (rdb l n e = c)) 2
  refine ⟨F2, ?_, h2, o1.trans o2, w2⟩
  rw [cl84, u84_in]
  simp only [↓u84b, ↓u84_0, ↓m2_mk, ↓uCall_eq, ↓e1, ↓goOn_ok, ↓uEq_nn, xo_t, ↓e2, ↓exU_n, ↓u84r_mk]
/-- A number of four bytes. -/
def rdn (l : List Nat) (n e : Nat) : Nat := be4 (byl l n e 4)
theorem t81 (N : Nat) (hN : 7 ≤ N) (h : Cu F x v l n e H) (hw : Wf F) (hl : Bs l) (hn : n ≤ l.length) (hL : l.length ≤ 1000000) :
    ∃ F', clU msgD N 81 [.p x 0] F = .ok (w64 (rdn l n e)) F' ∧ Cu F' x v l (byn l n e 4) (bye l n e 4) H ∧ Oth F F' x ∧ Wf F' := by
  obtain ⟨m, rfl⟩ : ∃ m, N = m + 1 := ⟨N - 1, by omega⟩
  obtain ⟨w, F1, e1, h1, b1, o1, w1⟩ := t101 m (by omega) h hw hn hL 4
  have key : ∃ c, clU msgD m 102 [w, .n 4] F1 = .ok (.u [w64 (rdn l n e), .n c]) F1 := by
    by_cases hb : bye l n e 4 = 0
    · have hlen := byl_len hb
      obtain ⟨k, rfl⟩ : ∃ k, m = k + 1 := ⟨m - 1, by omega⟩
      match hc : byl l n e 4, hlen with
      | [a, b, c, d], _ =>
        rw [hc] at b1
        have hbs := byl_bs (n := n) (e := e) hl 4
        rw [hc] at hbs
        rw [rdn, hc]
        exact ⟨0, s102_4 k (by omega) b1 hbs⟩
    · have hc : byl l n e 4 = [] := by simp only [byl, hb, if_false]
      rw [hc] at b1
      obtain ⟨k, rfl⟩ : ∃ k, m = k + 1 := ⟨m - 1, by omega⟩
      exact ⟨3, by rw [s102_nil _ b1, rdn, hc]; rfl⟩
  obtain ⟨c, e2⟩ := key
  refine ⟨F1, ?_, h1, o1, w1⟩
  rw [cl81, u81_in]
  simp only [↓u81b, ↓seqU_eq, ↓retU_eq, ↓u81_0, ↓u81_1, ↓u81_2, ↓m3_mk, ↓exU_n, ↓exU_r, w_4, ↓uCall_eq, ↓e1, ↓e2, ↓goOn_ok, ↓uExt_0, ↓uExt_1, ↓u81r_mk]
/-- A kind. -/
def mayB (k : Nat) : Bool := decide (1 ≤ k) && decide (k ≤ 4)
theorem t63 (N : Nat) (hN : 1 ≤ N) (k : Nat) (F : FAW) : clU msgD N 63 [.n k] F = .ok (.t (mayB k)) F := by
  obtain ⟨m, rfl⟩ : ∃ m, N = m + 1 := ⟨N - 1, by omega⟩
  rw [cl63, u63_in]
  simp only [↓u63b, ↓seqU_eq, ↓retU_eq, ↓u63_0, ↓u63_1, ↓m2_mk, ↓exU_n, ↓uGeq_nn, ↓uLeq_nn, ↓eT_t, ↓u63r_mk]
  unfold mayB
  by_cases h1 : 1 ≤ k <;> simp [h1, cn_true, cn_false, exU_r, u63r_mk]
theorem t82 (N : Nat) (hN : 2 ≤ N) (h : Cu F x v l n e H) (hw : Wf F) (k : Nat) :
    ∃ F', clU msgD N 82 [.p x 0, .n k] F = .ok (.n k) F' ∧ Cu F' x v l n (fls e (!mayB k) 2) H ∧ Oth F F' x ∧ Wf F' := by
  obtain ⟨m, rfl⟩ : ∃ m, N = m + 1 := ⟨N - 1, by omega⟩
  obtain ⟨F1, e1, h1, o1, w1⟩ := t57 m (by omega) h hw (!mayB k) 2
  refine ⟨F1, ?_, h1, o1, w1⟩
  have e0 := t63 m (by omega) k F
  rw [cl82, u82_in]
  simp only [↓u82b, ↓seqU_eq, ↓retU_eq, ↓u82_0, ↓u82_1, ↓u82_2, ↓m3_mk, ↓exU_n, ↓exU_r, ↓uCall_eq, ↓e0, ↓e1, ↓goOn_ok, ↓uNot_t, ↓u82r_mk]
/-- A name. -/
theorem t80 (N : Nat) (hN : 3 ≤ N) (h : Cu F x v l n e H) (hw : Wf F) (hn : n ≤ l.length) (hL : l.length ≤ 1000000) (k : Nat) :
    ∃ F', clU msgD N 80 [.p x 0, w64 k] F = .ok (.s (byl l n (fls e (decide (40 < k)) 4) k)) F' ∧ Cu F' x v l (byn l n (fls e (decide (40 < k)) 4) k) (bye l n (fls e (decide (40 < k)) 4) k) H ∧ Oth F F' x ∧ Wf F' := by
  obtain ⟨m, rfl⟩ : ∃ m, N = m + 1 := ⟨N - 1, by omega⟩
  obtain ⟨F1, e1, h1, o1, w1⟩ := t57 m (by omega) h hw (decide (40 < k)) 4
  obtain ⟨w, F2, e2, h2, b2, o2, w2⟩ := t101 m (by omega) h1 w1 hn hL k
  refine ⟨F2, ?_, h2, o1.trans o2, w2⟩
  rw [cl80, u80_in]
  simp only [↓u80b, ↓seqU_eq, ↓retU_eq, ↓u80_0, ↓u80_1, ↓u80_2, ↓m3_mk, ↓exU_n, ↓exU_r, w_40, uGtr_w, ↓uCall_eq, ↓e1, ↓e2, ↓goOn_ok, ↓b2.str, ↓u80r_mk]
end
end Go.Proofs.Ytgejdfhfgphcbaa.Ev
/- Msg: numbers of seven bits that are read. -/
namespace Go.Proofs.Ytgejdfhfgphcbaa.Ev
open Go Go.RowKit
set_option linter.unusedVariables false
set_option linter.constructorNameAsVariable false
set_option linter.unusedSimpArgs false
set_option linter.unusedSectionVars false

set_option maxRecDepth 20000 in
theorem and_128 : ∀ b : Fin 256, b.1 &&& 128 = if b.1 < 128 then 0 else 128 := by decide
set_option maxRecDepth 20000 in
theorem and_127 : ∀ b : Fin 256, b.1 &&& 127 = b.1 % 128 := by decide
theorem uAnd_128 (F : FAW) (f : KU) (b : Nat) (hb : b < 256) : uSlow .and (.b b) (.b 128) F f = f (.b (if b < 128 then 0 else 128)) F := by
  rw [uAnd_b _ _ _ _ hb (by omega), and_128 ⟨b, hb⟩]
theorem uAnd_127 (F : FAW) (f : KU) (b : Nat) (hb : b < 256) : uSlow .and (.b b) (.b 127) F f = f (.b (b % 128)) F := by
  rw [uAnd_b _ _ _ _ hb (by omega), and_127 ⟨b, hb⟩]
/-- Too long a number. -/
def tkL (b p : Nat) : Bool := decide (32 - p ≤ 7) && (!decide (b < 128) || !decide (b % 128 / 2 ^ (32 - p) = 0))
def tkV (v b p : Nat) : Nat := v ||| b % 128 * 2 ^ p % 18446744073709551616
/-- A number at the front. -/
def tk : List Nat → Nat → Nat → Nat → Nat × Nat × Nat
  | [], p, v, n => (0, 0, 3)
  | b :: t, p, v, n => if tkL b p = true then (0, 0, 4) else if b < 128 then (tkV v b p, n + 1, 0) else tk t (p + 7) (tkV v b p) (n + 1)
theorem e103 (C : CU) (a c d e f g j k l m : FV) (b p : Nat) (hb : b < 256) (hp : p ≤ 31) (F : FAW) (κ : EX → W12 → FAW → RU) :
    u103_11 C (.mk a c d e f g (.b b) (.n (32 - p)) j k l m) F κ = κ .normal (.mk a c d e f g (.b b) (.n (32 - p)) j k (.t (tkL b p)) m) F := by
  have hbm : b % 128 < 256 := by omega
  simp only [↓u103_11, ↓m12_mk, ↓uLeq_nn, ↓eT_t]
  unfold tkL
  by_cases h1 : 32 - p ≤ 7
  · by_cases h2 : b < 128
    · simp only [decide_eq_true h1, ↓cn_true, uAnd_128 _ _ _ hb, if_true, ↓uEq_bb, xo_t, decide_true, Bool.not_true, ↓eT_t, ↓cn_false, uAnd_127 _ _ _ hb, uCv_ub _ _ _ hbm, uShr_w _ _ _ (32 - p) (by omega) _ (.inr rfl), w_0, uNe_ww, h2, Bool.false_or, Bool.true_and]
    · simp only [decide_eq_true h1, ↓cn_true, uAnd_128 _ _ _ hb, if_false, ↓uEq_bb, xo_t, decide_eq_false (show ¬ 128 = 0 by omega), Bool.not_false, ↓eT_t, h2, decide_false, Bool.true_or, Bool.true_and]
  · simp only [decide_eq_false h1, ↓cn_false, Bool.false_and]
theorem l103 (C : CU) (N : Nat) {F : FAW} {w : FV} {l : List Nat} (h : By F w l) (hl : Bs l) (hL : l.length ≤ 1000000) (κ : EX → W12 → FAW → RU) : ∀ (t : List Nat) (pos p v : Nat), l.drop pos = t → p ≤ 31 → v < 18446744073709551616 → ∀ (M : Nat), pos ≤ l.length → t.length < M → ∀ (h' i j k ll m : FV),
    ∃ g1 g2 g3 g4 g5 g6 g7, loopNU (u103_19 C N) κ M (.mk w (.n 32) (w64 v) (.n pos) (.n 0) (.n p) h' i j k ll m) F = κ .ret (.mk w (.n 32) (w64 (tk t p v pos).1) (.n (tk t p v pos).2.1) (.n (tk t p v pos).2.2) g1 g2 g3 g4 g5 g6 g7) F := by
  intro t
  induction t with
  | nil =>
    intro pos p v ht hp hv M hle hM h' i j k ll m
    obtain ⟨M, rfl⟩ : ∃ M', M = M' + 1 := ⟨M - 1, by omega⟩
    have hpos : l.length ≤ pos := List.drop_eq_nil_iff.mp ht
    rw [loopNU_succ]
    generalize loopNU (u103_19 C N) κ M = rec
    have hp2 : pos = l.length := by omega
    simp only [↓u103_19, ↓seqU_eq, ↓condU_eq, ↓skipU_eq, ↓blockU_eq, ↓retU_eq, ↓u103_5, ↓u103_6, ↓u103_7, ↓m12_mk, ↓k12_mk, ↓exU_n, ↓exU_r, ↓h.len, ↓uEq_nn, xo_f, decide_eq_true hp2, ↓eT_t, ↓cn_true, w_0, tk]
    exact ⟨_, _, _, _, _, _, _, rfl⟩
  | cons b t ih =>
    intro pos p v ht hp hv M hle hM h' i j k ll m
    obtain ⟨M, rfl⟩ : ∃ M', M = M' + 1 := ⟨M - 1, by omega⟩
    have hpos : pos < l.length := by
      have := congrArg List.length ht
      rw [List.length_drop, List.length_cons] at this
      omega
    have hx : l[pos]? = some b := by
      have := congrArg (fun z => z[0]?) ht
      simpa using this
    have hb : b < 256 := hl b (List.mem_of_getElem? hx)
    have ht' : l.drop (pos + 1) = t := by
      have := congrArg (List.drop 1) ht
      rw [List.drop_drop] at this
      simpa [Nat.add_comm] using this
    have e0 := fun f : KU => h.get hx f
    have hv' : tkV v b p < 18446744073709551616 := Nat.or_lt_two_pow (n := 64) hv (Nat.mod_lt _ (by decide))
    have hbm : b % 128 < 256 := by omega
    rw [loopNU_succ]
    have ih' := ih (pos + 1) (p + 7) (tkV v b p) ht'
    generalize hrec : loopNU (u103_19 C N) κ M = rec at *
    simp only [↓u103_19, ↓seqU_eq, ↓condU_eq, ↓skipU_eq, ↓blockU_eq, ↓u103_5, ↓u103_6, ↓u103_8, ↓u103_9, ↓u103_10, ↓m12_mk, ↓k12_mk, ↓exU_n, ↓h.len, ↓uEq_nn, xo_f, decide_eq_false (show ¬ pos = l.length by omega), ↓eT_t, ↓cn_false, e0, uAdd_nn _ _ (show pos + 1 ≤ 9223372036854775807 by omega), ↓e103 _ _ _ _ _ _ _ _ _ _ _ _ _ hb hp, ↓u103_12, uSub_nn _ _ (show p ≤ 32 by omega) (show 32 ≤ 9223372036854775807 by omega)]
    by_cases h1 : tkL b p = true
    · simp only [h1, ↓cn_true, ↓seqU_eq, ↓retU_eq, ↓u103_13, ↓m12_mk, ↓exU_n, ↓exU_r, w_0, tk, if_true]
      exact ⟨_, _, _, _, _, _, _, rfl⟩
    · have h1 : tkL b p = false := by simpa using h1
      simp only [h1, ↓cn_false, ↓seqU_eq, ↓condU_eq, ↓skipU_eq, ↓retU_eq, ↓u103_14, ↓u103_15, ↓u103_16, ↓m12_mk, ↓k12_mk, ↓exU_n, uAnd_127 _ _ _ hb, uCv_ub _ _ _ hbm, uShl_w _ _ _ p (show p < 64 by omega) _ (.inr rfl), uOr_w _ _ _ _ hv (Nat.mod_lt _ (by decide)), uAnd_128 _ _ _ hb, ↓uEq_bb, xo_f, ↓eT_t, tk, Bool.false_eq_true, if_false]
      by_cases h2 : b < 128
      · simp only [h2, if_true, decide_true, ↓cn_true, ↓u103_17, ↓m12_mk, ↓exU_n, ↓exU_r]
        exact ⟨_, _, _, _, _, _, _, rfl⟩
      · have h3 : p + 7 ≤ 31 := by
          by_cases h4 : 32 - p ≤ 7
          · simp [tkL, h4, h2] at h1
          · omega
        simp only [h2, if_false, decide_eq_false (show ¬ 128 = 0 by omega), ↓cn_false, ↓exU_n, ↓u103_18, ↓m12_mk, uAdd_nn _ _ (show p + 7 ≤ 9223372036854775807 by omega)]
        have := ih (pos + 1) (p + 7) (tkV v b p) ht' h3 hv' M (by omega) (by simpa using hM)
        rw [hrec] at this
        exact this _ _ _ _ _ _
/-- A number at the front. -/
theorem s103 (N : Nat) {F : FAW} {w : FV} {l : List Nat} (h : By F w l) (hl : Bs l) (hL : l.length ≤ 1000000) (hN : l.length < N) :
    clU msgD (N + 1) 103 [w, .n 32] F = .ok (.u [w64 (tk l 0 0 0).1, .n (tk l 0 0 0).2.1, .n (tk l 0 0 0).2.2]) F := by
  rw [cl103, u103_in]
  have key := fun C κ => l103 C N h hl hL κ l 0 0 0 rfl (by omega) (by omega) N (by omega) hN
  simp only [↓u103b, ↓seqU_eq, ↓condU_eq, ↓skipU_eq, ↓blockU_eq, ↓loopU_eq, ↓u103_0, ↓u103_1, ↓u103_2, ↓u103_4, ↓m12_mk, ↓k12_mk, ↓exU_n, ↓uLss_nn, ↓uGtr_nn, ↓eT_t, decide_eq_false (show ¬ 32 < 1 by omega), decide_eq_false (show ¬ 64 < 32 by omega), ↓cn_false, w_0]
  generalize hB : u103_19 (clU msgD N) N = B
  have key := key (clU msgD N)
  rw [hB] at key
  obtain ⟨g1, g2, g3, g4, g5, g6, g7, e⟩ := key _ _ _ _ _ _ _
  rw [e]
  rfl
end Go.Proofs.Ytgejdfhfgphcbaa.Ev
/- Msg: heads that are read. -/
namespace Go.Proofs.Ytgejdfhfgphcbaa.Ev
open Go Go.RowKit
set_option linter.unusedVariables false
set_option linter.constructorNameAsVariable false
set_option linter.unusedSimpArgs false
set_option linter.unusedSectionVars false

theorem uEq_n0 (F : FAW) (f : KU) (neg : Bool) (op : BinOp) (a b : Nat) : uEq neg op (.n a) (.n b) F f = f (.t (xo neg (decide (a = b)))) F := uEq_nn F f neg op a b
theorem tk_le : ∀ (t : List Nat) (p v n : Nat), (tk t p v n).2.1 ≤ n + t.length
  | [], p, v, n => by simp [tk]
  | b :: t, p, v, n => by
    have := tk_le t (p + 7) (tkV v b p) (n + 1)
    unfold tk
    split
    · simp
    · split
      · simp
      · simp only [List.length_cons]; omega
/-- A number of seven bits. -/
def sv (l : List Nat) (n e : Nat) : Nat × Nat × Nat := if e = 0 then (let r := tk (l.drop n) 0 0 0; (r.1, n + r.2.1, fls (fls e (decide (r.2.2 = 4)) 2) (!decide (r.2.2 = 0)) r.2.2)) else (0, n, e)
section
variable {F : FAW} {x : Nat} {v : FV} {l : List Nat} {n e : Nat} {H : Hd}
theorem t103 (N : Nat) {F : FAW} {w : FV} {l : List Nat} (h : By F w l) (hl : Bs l) (hL : l.length ≤ 1000000) (hN : l.length + 1 < N) :
    clU msgD N 103 [w, .n 32] F = .ok (.u [w64 (tk l 0 0 0).1, .n (tk l 0 0 0).2.1, .n (tk l 0 0 0).2.2]) F := by
  obtain ⟨m, rfl⟩ : ∃ m, N = m + 1 := ⟨N - 1, by omega⟩
  exact s103 m h hl hL (by omega)
theorem t85 (N : Nat) (hN : l.length + 4 ≤ N) (h : Cu F x v l n e H) (hw : Wf F) (hl : Bs l) (hn : n ≤ l.length) (hL : l.length ≤ 1000000) :
    ∃ F', clU msgD N 85 [.p x 0] F = .ok (w64 (sv l n e).1) F' ∧ Cu F' x v l (sv l n e).2.1 (sv l n e).2.2 H ∧ Oth F F' x ∧ Wf F' := by
  obtain ⟨m, rfl⟩ : ∃ m, N = m + 1 := ⟨N - 1, by omega⟩
  rw [cl85, u85_in, u85b_s, u85bt1_s]
  by_cases he : e = 0
  · obtain ⟨w, e2, b2⟩ := h.by_.cut1 hn
    have e3 := t103 m b2 (hl.drop n) (by rw [List.length_drop]; omega) (by rw [List.length_drop]; omega)
    generalize hr : tk (l.drop n) 0 0 0 = r at e3
    have hr2 : r.2.1 ≤ (l.drop n).length := by
      have := tk_le (l.drop n) 0 0 0
      rw [hr] at this
      omega
    rw [List.length_drop] at hr2
    obtain ⟨F1, e4, h1, o1, w1⟩ := t57 m (by omega) h hw (decide (r.2.2 = 4)) 2
    obtain ⟨F2, e5, h2, o2, w2⟩ := t57 m (by omega) h1 w1 (!decide (r.2.2 = 0)) r.2.2
    have h3 := h2.put (n + r.2.1) (fls (fls e (decide (r.2.2 = 4)) 2) (!decide (r.2.2 = 0)) r.2.2) H
    refine ⟨F2.put x [v, .n (n + r.2.1), .n (fls (fls e (decide (r.2.2 = 4)) 2) (!decide (r.2.2 = 0)) r.2.2), .s H.nm, .n H.kd, .i .i32 H.sq, .t H.old], ?eq, ?cu, (o1.trans o2).trans (Oth.put _ _ _), w2.put _ _⟩
    case cu =>
      simp only [sv, hr, if_pos he]
      exact h3
    case eq =>
      simp only [sv, hr, if_pos he]
      simp only [↓seqU_eq, ↓condU_eq, ↓skipU_eq, ↓u85_0, ↓u85_1, ↓u85_2, ↓m6_mk, ↓k6_mk, ↓exU_n, ↓h.g2, ↓uEq_nn, xo_t, decide_eq_true he, Bool.not_true, ↓eT_t, ↓cn_false]
      simp only [↓u85bt2_s, ↓seqU_eq, ↓u85_4, ↓m6_mk, ↓exU_n, ↓h.g0, ↓h.g1, e2, ↓uCall_eq, ↓e3, ↓goOn_ok, ↓uExt_0, ↓uExt_1, ↓uExt_2]
      simp only [↓u85bt3_s, ↓u85bt4_s, ↓seqU_eq, ↓u85_5, ↓u85_6, ↓m6_mk, ↓exU_n, ↓uEq_nn, xo_f, xo_t, ↓uCall_eq, ↓e4, ↓e5, ↓goOn_ok]
      simp only [↓u85bt5_s, ↓u85bt6_s, ↓seqU_eq, ↓retU_eq, ↓u85_7, ↓u85_8, ↓m6_mk, ↓exU_n, ↓exU_r, ↓h2.g1, uAdd_nn _ _ (show n + r.2.1 ≤ 9223372036854775807 by omega), ↓uNilc_p, ↓uFad_p, Nat.zero_add, ↓h2.s1, ↓u85r_mk]
  · refine ⟨F, ?_, ?_, Oth.refl _ _, hw⟩
    · simp only [↓seqU_eq, ↓condU_eq, ↓skipU_eq, ↓retU_eq, ↓u85_0, ↓u85_1, ↓u85_2, ↓u85_3, ↓m6_mk, ↓k6_mk, ↓exU_n, ↓exU_r, ↓h.g2, ↓uEq_nn, xo_t, decide_eq_false he, Bool.not_false, ↓eT_t, ↓cn_true, w_0, ↓u85r_mk]
      simp only [sv, if_neg he]
    · simp only [sv, if_neg he]; exact h
theorem sv_le (hn : n ≤ l.length) : (sv l n e).2.1 ≤ l.length := by
  unfold sv
  split
  · have := tk_le (l.drop n) 0 0 0
    rw [List.length_drop] at this
    show n + _ ≤ _
    omega
  · exact hn
/-- Of 32 bits, with a sign. -/
def i32 (k : Nat) : Int := IntKind.wrap .i32 (IntKind.wrap .u32 (Int.ofNat k))
theorem uCv_u32 (F : FAW) (f : KU) (k : Nat) : uCvI .u32 (w64 k) F f = f (.i .u32 (IntKind.wrap .u32 (Int.ofNat k))) F := rfl
theorem uCv_i32 (F : FAW) (f : KU) (k : Nat) : uCvI .i32 (.i .u32 (IntKind.wrap .u32 (Int.ofNat k))) F f = f (.i .i32 (i32 k)) F := rfl
/-- A head of TBinary that has no version. -/
structure Ps where
  n : Nat
  e : Nat
  H : Hd
def Ps.nm (l : List Nat) (s : Ps) : Ps :=
  let k := rdn l s.n s.e
  let n1 := byn l s.n s.e 4
  let e2 := fls (bye l s.n s.e 4) (decide (40 < k)) 4
  ⟨byn l n1 e2 k, bye l n1 e2 k, { s.H with nm := byl l n1 e2 k }⟩
def Ps.kd (l : List Nat) (s : Ps) : Ps :=
  ⟨byn l s.n s.e 1, fls (bye l s.n s.e 1) (!mayB (rdb l s.n s.e)) 2, { s.H with kd := rdb l s.n s.e }⟩
def Ps.is (l : List Nat) (s : Ps) (c : Nat) : Ps := ⟨byn l s.n s.e 1, fls (bye l s.n s.e 1) (!decide (rdb l s.n s.e = c)) 2, s.H⟩
def Ps.sq (l : List Nat) (s : Ps) : Ps := ⟨byn l s.n s.e 4, bye l s.n s.e 4, { s.H with sq := i32 (rdn l s.n s.e) }⟩
def Ps.on (s : Ps) : Ps := ⟨s.n, s.e, { s.H with old := true }⟩
theorem Ps.nm_le {l : List Nat} {s : Ps} (h : s.n ≤ l.length) : (s.nm l).n ≤ l.length := byn_le (byn_le h)
theorem Ps.kd_le {l : List Nat} {s : Ps} (h : s.n ≤ l.length) : (s.kd l).n ≤ l.length := byn_le h
theorem Ps.is_le {l : List Nat} {s : Ps} (h : s.n ≤ l.length) (c : Nat) : (s.is l c).n ≤ l.length := byn_le h
def olds (l : List Nat) : Bool := match l with | [] => false | b :: _ => decide (b < 128)
def binP (l : List Nat) (s : Ps) : Ps := Ps.sq l (if olds l = true then Ps.kd l (Ps.nm l s.on) else Ps.nm l (Ps.kd l (Ps.is l (Ps.is l (Ps.is l s 128) 1) 0)))
end
section
variable {F : FAW} {x : Nat} {v : FV} {l : List Nat} {s : Ps}
theorem p_nm (N : Nat) (hN : 7 ≤ N) (h : Cu F x v l s.n s.e s.H) (hw : Wf F) (hl : Bs l) (hn : s.n ≤ l.length) (hL : l.length ≤ 1000000) :
    ∃ a b F1 F2 F', clU msgD N 81 [.p x 0] F = .ok a F1 ∧ clU msgD N 80 [.p x 0, a] F1 = .ok b F2 ∧ (∀ f : KU, uSt 1 (.p x 3) b F2 f = f (.u []) F') ∧ Cu F' x v l (s.nm l).n (s.nm l).e (s.nm l).H ∧ Oth F F' x ∧ Wf F' := by
  obtain ⟨F1, e1, h1, o1, w1⟩ := t81 N hN h hw hl hn hL
  obtain ⟨F2, e2, h2, o2, w2⟩ := t80 N (by omega) h1 w1 (byn_le hn) hL (rdn l s.n s.e)
  exact ⟨_, _, F1, F2, _, e1, e2, fun f => h2.s3 f _, h2.put _ _ (s.nm l).H, (o1.trans o2).trans (Oth.put _ _ _), w2.put _ _⟩
theorem p_kd (N : Nat) (hN : 7 ≤ N) (h : Cu F x v l s.n s.e s.H) (hw : Wf F) (hl : Bs l) (hn : s.n ≤ l.length) (hL : l.length ≤ 1000000) :
    ∃ a b F1 F2 F', clU msgD N 83 [.p x 0] F = .ok a F1 ∧ clU msgD N 82 [.p x 0, a] F1 = .ok b F2 ∧ (∀ f : KU, uSt 1 (.p x 4) b F2 f = f (.u []) F') ∧ Cu F' x v l (s.kd l).n (s.kd l).e (s.kd l).H ∧ Oth F F' x ∧ Wf F' := by
  obtain ⟨F1, e1, h1, o1, w1⟩ := t83 N (by omega) h hw hl hn hL
  obtain ⟨F2, e2, h2, o2, w2⟩ := t82 N (by omega) h1 w1 (rdb l s.n s.e)
  exact ⟨_, _, F1, F2, _, e1, e2, fun f => h2.s4 f _, h2.put _ _ (s.kd l).H, (o1.trans o2).trans (Oth.put _ _ _), w2.put _ _⟩
theorem p_is (N : Nat) (hN : 7 ≤ N) (h : Cu F x v l s.n s.e s.H) (hw : Wf F) (hl : Bs l) (hn : s.n ≤ l.length) (hL : l.length ≤ 1000000) (c : Nat) :
    ∃ F', clU msgD N 84 [.p x 0, .n c] F = .ok (.u []) F' ∧ Cu F' x v l (s.is l c).n (s.is l c).e (s.is l c).H ∧ Oth F F' x ∧ Wf F' :=
  t84 N (by omega) h hw hl hn hL c
theorem p_sq (N : Nat) (hN : 7 ≤ N) (h : Cu F x v l s.n s.e s.H) (hw : Wf F) (hl : Bs l) (hn : s.n ≤ l.length) (hL : l.length ≤ 1000000) :
    ∃ k F1 F', clU msgD N 81 [.p x 0] F = .ok (w64 k) F1 ∧ (∀ f : KU, uSt 1 (.p x 5) (.i .i32 (i32 k)) F1 f = f (.u []) F') ∧ Cu F' x v l (s.sq l).n (s.sq l).e (s.sq l).H ∧ Oth F F' x ∧ Wf F' := by
  obtain ⟨F1, e1, h1, o1, w1⟩ := t81 N hN h hw hl hn hL
  exact ⟨_, F1, _, e1, fun f => h1.s5 f _, h1.put _ _ (s.sq l).H, o1.trans (Oth.put _ _ _), w1.put _ _⟩
theorem p_on (h : Cu F x v l s.n s.e s.H) (hw : Wf F) :
    ∃ F', (∀ f : KU, uSt 1 (.p x 6) (.t true) F f = f (.u []) F') ∧ Cu F' x v l s.on.n s.on.e s.on.H ∧ Oth F F' x ∧ Wf F' :=
  ⟨_, fun f => h.s6 f true, h.put _ _ { s.H with old := true }, Oth.put _ _ _, hw.put _ _⟩
theorem Cu.ld0 (h : Cu F x v l s.n s.e s.H) (f : KU) : uLd none (.p x 0) F f = f v F := by obtain ⟨el, hr⟩ := h.row; exact uLd_row f hr rfl h.by_.fi
theorem olds_0 (C : CU) (h : Cu F x v l s.n s.e s.H) (c : FV) (κ : EX → W2 → FAW → RU) : u55_0 C (.mk (.p x 0) c) F κ = κ .normal (.mk (.p x 0) (.t (olds l))) F := by
  simp only [↓u55_0, ↓m2_mk, ↓uNilc_p, ↓uFad_p, Nat.zero_add, ↓h.ld0, ↓h.by_.len, ↓uGtr_nn, ↓eT_t]
  cases l with
  | nil => simp only [List.length_nil, decide_eq_false (show ¬ 0 < 0 by omega), ↓cn_false, olds]
  | cons b t =>
    have e0 := fun f : KU => h.by_.get (k := 0) (x := b) rfl f
    simp only [List.length_cons, decide_eq_true (show 0 < t.length + 1 by omega), ↓cn_true, ↓uNilc_p, ↓uFad_p, Nat.zero_add, ↓h.ld0, e0, ↓uLss_bb, olds]
theorem s55 (m : Nat) (hN : 7 ≤ m) (h : Cu F x v l s.n s.e s.H) (hw : Wf F) (hl : Bs l) (hn : s.n ≤ l.length) (hL : l.length ≤ 1000000) :
    ∃ F', clU msgD (m + 1) 55 [.p x 0] F = .ok (.u []) F' ∧ Cu F' x v l (binP l s).n (binP l s).e (binP l s).H ∧ Oth F F' x ∧ Wf F' := by
  rw [cl55, u55_in]
  by_cases ho : olds l = true
  · obtain ⟨F1, e1, h1, o1, w1⟩ := p_on h hw
    obtain ⟨a2, b2, G2, K2, F2, c2, d2, e2, h2, o2, w2⟩ := p_nm m hN h1 w1 hl hn hL
    obtain ⟨a3, b3, G3, K3, F3, c3, d3, e3, h3, o3, w3⟩ := p_kd m hN h2 w2 hl (Ps.nm_le hn) hL
    obtain ⟨a4, G4, F4, c4, e4, h4, o4, w4⟩ := p_sq m hN h3 w3 hl (Ps.kd_le (Ps.nm_le hn)) hL
    refine ⟨F4, ?_, by rw [binP, if_pos ho]; exact h4, ((o1.trans o2).trans o3).trans o4, w4⟩
    simp only [↓u55b, ↓seqU_eq, ↓condU_eq, ↓olds_0 _ h, ↓exU_n, ↓u55_1, ↓k2_mk, ↓eT_t, ho, ↓cn_true, ↓u55_2, ↓u55_3, ↓u55_4, ↓m2_mk, ↓uNilc_p, ↓uFad_p, Nat.zero_add, Nat.add_zero, show 3 + 3 = 6 from rfl, show 3 + 1 = 4 from rfl, ↓e1, ↓uCall_eq, ↓c2, ↓d2, ↓e2, ↓c3, ↓d3, ↓e3, ↓goOn_ok]
    simp only [↓u55_10, ↓m2_mk, ↓uNilc_p, ↓uFad_p, Nat.zero_add, show 3 + 2 = 5 from rfl, ↓uCall_eq, ↓c4, ↓goOn_ok, uCv_u32, uCv_i32, ↓e4, ↓exU_n, ↓u55r_mk]
  · have ho' : olds l = false := by simpa using ho
    obtain ⟨F1, e1, h1, o1, w1⟩ := p_is m hN h hw hl hn hL 128
    obtain ⟨F2, e2, h2, o2, w2⟩ := p_is m hN h1 w1 hl (Ps.is_le hn _) hL 1
    obtain ⟨F3, e3, h3, o3, w3⟩ := p_is m hN h2 w2 hl (Ps.is_le (Ps.is_le hn _) _) hL 0
    obtain ⟨a4, b4, G4, K4, F4, c4, d4, e4, h4, o4, w4⟩ := p_kd m hN h3 w3 hl (Ps.is_le (Ps.is_le (Ps.is_le hn _) _) _) hL
    obtain ⟨a5, b5, G5, K5, F5, c5, d5, e5, h5, o5, w5⟩ := p_nm m hN h4 w4 hl (Ps.kd_le (Ps.is_le (Ps.is_le (Ps.is_le hn _) _) _)) hL
    obtain ⟨a6, G6, F6, c6, e6, h6, o6, w6⟩ := p_sq m hN h5 w5 hl (Ps.nm_le (Ps.kd_le (Ps.is_le (Ps.is_le (Ps.is_le hn _) _) _))) hL
    refine ⟨F6, ?_, by rw [binP, if_neg ho]; exact h6, ((((o1.trans o2).trans o3).trans o4).trans o5).trans o6, w6⟩
    simp only [↓u55b, ↓seqU_eq, ↓condU_eq, ↓olds_0 _ h, ↓exU_n, ↓u55_1, ↓k2_mk, ↓eT_t, ho', ↓cn_false, ↓u55_5, ↓u55_6, ↓u55_7, ↓u55_8, ↓u55_9, ↓m2_mk, ↓uNilc_p, ↓uFad_p, Nat.zero_add, Nat.add_zero, show 3 + 1 = 4 from rfl, ↓uCall_eq, ↓e1, ↓e2, ↓e3, ↓c4, ↓d4, ↓e4, ↓c5, ↓d5, ↓e5, ↓goOn_ok]
    simp only [↓u55_10, ↓m2_mk, ↓uNilc_p, ↓uFad_p, Nat.zero_add, show 3 + 2 = 5 from rfl, ↓uCall_eq, ↓c6, ↓goOn_ok, uCv_u32, uCv_i32, ↓e6, ↓exU_n, ↓u55r_mk]
end
end Go.Proofs.Ytgejdfhfgphcbaa.Ev
/- Msg: heads of TCompact that are read; Take. -/
namespace Go.Proofs.Ytgejdfhfgphcbaa.Ev
open Go Go.RowKit
set_option linter.unusedVariables false
set_option linter.constructorNameAsVariable false
set_option linter.unusedSimpArgs false
set_option linter.unusedSectionVars false

theorem uAnd_n (F : FAW) (f : KU) (a b : Nat) (ha : a < 256) (hb : b < 256) : uSlow .and (.n a) (.n b) F f = f (.n (a &&& b)) F := by
  have h : binV .and (toV (.n a)) (toV (.n b)) = some (.int .i64 (Int.ofNat (a &&& b))) := by
    simp only [toV, binV, iop, if_true]
    congr 2
    show IntKind.wrap .i64 (((BitVec.ofInt 64 (Int.ofNat a) &&& BitVec.ofInt 64 (Int.ofNat b)).toNat : Nat) : Int) = _
    have e : (BitVec.ofInt 64 (Int.ofNat a) &&& BitVec.ofInt 64 (Int.ofNat b)).toNat = a &&& b := by
      rw [BitVec.toNat_and]
      simp
      rw [Nat.mod_eq_of_lt (show a < 18446744073709551616 by omega), Nat.mod_eq_of_lt (show b < 18446744073709551616 by omega)]
    have : a &&& b ≤ a := Nat.and_le_left
    rw [e, wrap_n (by omega)]
    rfl
  rw [uSlow_n h]; rfl
theorem uShr_n (F : FAW) (f : KU) (a k : Nat) (hk : k < 64) : uSlow .shr (.n a) (w64 k) F f = f (.n (a / 2 ^ k)) F := by
  have h : binV .shr (toV (.n a)) (toV (w64 k)) = some (.int .i64 (Int.ofNat (a / 2 ^ k))) := by
    have hm : (min (Int.ofNat k).toNat (IntKind.bits .i64)) = k := by simp [IntKind.bits]; omega
    simp only [w64, toV, binV, shop]
    rw [if_neg (by simp), hm]
    congr 2
    show Int.fdiv ((a : Nat) : Int) ((2 : Int) ^ k) = ((a / 2 ^ k : Nat) : Int)
    rw [Int.fdiv_eq_ediv_of_nonneg _ (by exact Int.pow_nonneg (by decide))]
    norm_cast
  rw [uSlow_n h]; rfl
theorem rdb_lt {l : List Nat} (hl : Bs l) (n e : Nat) : rdb l n e < 256 := by
  have h := byl_bs (n := n) (e := e) hl 1
  unfold rdb
  cases hc : byl l n e 1 with
  | nil => simp
  | cons b t => rw [hc] at h; exact h b (by simp)
def Ps.ver (l : List Nat) (s : Ps) : Ps :=
  let k := rdb l s.n s.e
  ⟨byn l s.n s.e 1, fls (fls (bye l s.n s.e 1) (!decide (k &&& 31 = 1)) 2) (!mayB (k / 2 ^ 5)) 2, { s.H with kd := k / 2 ^ 5 }⟩
def Ps.svq (l : List Nat) (s : Ps) : Ps := ⟨(sv l s.n s.e).2.1, (sv l s.n s.e).2.2, { s.H with sq := i32 (sv l s.n s.e).1 }⟩
def Ps.svn (l : List Nat) (s : Ps) : Ps :=
  let k := (sv l s.n s.e).1
  let n1 := (sv l s.n s.e).2.1
  let e2 := fls (sv l s.n s.e).2.2 (decide (40 < k)) 4
  ⟨byn l n1 e2 k, bye l n1 e2 k, { s.H with nm := byl l n1 e2 k }⟩
theorem Ps.ver_le {l : List Nat} {s : Ps} (h : s.n ≤ l.length) : (s.ver l).n ≤ l.length := byn_le h
theorem Ps.svq_le {l : List Nat} {s : Ps} (h : s.n ≤ l.length) : (s.svq l).n ≤ l.length := sv_le h
theorem Ps.svn_le {l : List Nat} {s : Ps} (h : s.n ≤ l.length) : (s.svn l).n ≤ l.length := byn_le (sv_le h)
/-- A head of TCompact. -/
def cmpP (l : List Nat) (s : Ps) : Ps := Ps.svn l (Ps.svq l (Ps.ver l (Ps.is l s 130)))
section
variable {F : FAW} {x : Nat} {v : FV} {l : List Nat} {s : Ps}
theorem p_svq (N : Nat) (hN : l.length + 8 ≤ N) (h : Cu F x v l s.n s.e s.H) (hw : Wf F) (hl : Bs l) (hn : s.n ≤ l.length) (hL : l.length ≤ 1000000) :
    ∃ k F1 F', clU msgD N 85 [.p x 0] F = .ok (w64 k) F1 ∧ (∀ f : KU, uSt 1 (.p x 5) (.i .i32 (i32 k)) F1 f = f (.u []) F') ∧ Cu F' x v l (s.svq l).n (s.svq l).e (s.svq l).H ∧ Oth F F' x ∧ Wf F' := by
  obtain ⟨F1, e1, h1, o1, w1⟩ := t85 N (by omega) h hw hl hn hL
  exact ⟨_, F1, _, e1, fun f => h1.s5 f _, h1.put _ _ (s.svq l).H, o1.trans (Oth.put _ _ _), w1.put _ _⟩
theorem p_svn (N : Nat) (hN : l.length + 8 ≤ N) (h : Cu F x v l s.n s.e s.H) (hw : Wf F) (hl : Bs l) (hn : s.n ≤ l.length) (hL : l.length ≤ 1000000) :
    ∃ a b F1 F2 F', clU msgD N 85 [.p x 0] F = .ok a F1 ∧ clU msgD N 80 [.p x 0, a] F1 = .ok b F2 ∧ (∀ f : KU, uSt 1 (.p x 3) b F2 f = f (.u []) F') ∧ Cu F' x v l (s.svn l).n (s.svn l).e (s.svn l).H ∧ Oth F F' x ∧ Wf F' := by
  obtain ⟨F1, e1, h1, o1, w1⟩ := t85 N (by omega) h hw hl hn hL
  obtain ⟨F2, e2, h2, o2, w2⟩ := t80 N (by omega) h1 w1 (sv_le hn) hL (sv l s.n s.e).1
  exact ⟨_, _, F1, F2, _, e1, e2, fun f => h2.s3 f _, h2.put _ _ (s.svn l).H, (o1.trans o2).trans (Oth.put _ _ _), w2.put _ _⟩
theorem p_ver (N : Nat) (hN : 8 ≤ N) (h : Cu F x v l s.n s.e s.H) (hw : Wf F) (hl : Bs l) (hn : s.n ≤ l.length) (hL : l.length ≤ 1000000) :
    ∃ k b F1 F2 F3 F', clU msgD N 83 [.p x 0] F = .ok (.n k) F1 ∧ k < 256 ∧ clU msgD N 57 [.p x 0, .t (!decide (k &&& 31 = 1)), .n 2] F1 = .ok (.u []) F2 ∧ clU msgD N 82 [.p x 0, .n (k / 2 ^ 5)] F2 = .ok b F3 ∧ (∀ f : KU, uSt 1 (.p x 4) b F3 f = f (.u []) F') ∧ Cu F' x v l (s.ver l).n (s.ver l).e (s.ver l).H ∧ Oth F F' x ∧ Wf F' := by
  obtain ⟨F1, e1, h1, o1, w1⟩ := t83 N (by omega) h hw hl hn hL
  obtain ⟨F2, e2, h2, o2, w2⟩ := t57 N (by omega) h1 w1 (!decide (rdb l s.n s.e &&& 31 = 1)) 2
  obtain ⟨F3, e3, h3, o3, w3⟩ := t82 N (by omega) h2 w2 (rdb l s.n s.e / 2 ^ 5)
  exact ⟨_, _, F1, F2, F3, _, e1, rdb_lt hl _ _, e2, e3, fun f => h3.s4 f _, h3.put _ _ (s.ver l).H, ((o1.trans o2).trans o3).trans (Oth.put _ _ _), w3.put _ _⟩
theorem s56 (m : Nat) (hN : l.length + 8 ≤ m) (h : Cu F x v l s.n s.e s.H) (hw : Wf F) (hl : Bs l) (hn : s.n ≤ l.length) (hL : l.length ≤ 1000000) :
    ∃ F', clU msgD (m + 1) 56 [.p x 0] F = .ok (.u []) F' ∧ Cu F' x v l (cmpP l s).n (cmpP l s).e (cmpP l s).H ∧ Oth F F' x ∧ Wf F' := by
  rw [cl56, u56_in]
  obtain ⟨F1, e1, h1, o1, w1⟩ := p_is m (by omega) h hw hl hn hL 130
  obtain ⟨k, b2, A2, B2, C2, F2, a2, hk, c2, d2, e2, h2, o2, w2⟩ := p_ver m (by omega) h1 w1 hl (Ps.is_le hn _) hL
  obtain ⟨a3, G3, F3, c3, e3, h3, o3, w3⟩ := p_svq m hN h2 w2 hl (Ps.ver_le (Ps.is_le hn _)) hL
  obtain ⟨a4, b4, G4, K4, F4, c4, d4, e4, h4, o4, w4⟩ := p_svn m hN h3 w3 hl (Ps.svq_le (Ps.ver_le (Ps.is_le hn _))) hL
  refine ⟨F4, ?_, h4, ((o1.trans o2).trans o3).trans o4, w4⟩
  simp only [↓u56b, ↓seqU_eq, ↓u56_0, ↓u56_1, ↓u56_2, ↓m2_mk, ↓uNilc_p, ↓uFad_p, Nat.zero_add, Nat.add_zero, ↓uCall_eq, ↓e1, ↓a2, ↓goOn_ok, ↓exU_n, uAnd_n _ _ _ _ hk (show 31 < 256 by omega), ↓uEq_nn, xo_t, ↓c2]
  simp only [↓u56_3, ↓u56_4, ↓u56_5, ↓m2_mk, ↓uNilc_p, ↓uFad_p, Nat.zero_add, Nat.add_zero, show 3 + 1 = 4 from rfl, show 3 + 2 = 5 from rfl, w_5, uShr_n _ _ _ 5 (show 5 < 64 by omega), ↓uCall_eq, ↓d2, ↓e2, ↓c3, ↓e3, ↓c4, ↓d4, ↓e4, ↓goOn_ok, uCv_u32, uCv_i32, ↓exU_n, ↓u56r_mk]
end
end Go.Proofs.Ytgejdfhfgphcbaa.Ev
/- Msg: Take. -/
namespace Go.Proofs.Ytgejdfhfgphcbaa.Ev
open Go Go.RowKit
set_option linter.unusedVariables false
set_option linter.constructorNameAsVariable false
set_option linter.unusedSimpArgs false
set_option linter.unusedSectionVars false

def hd0 : Hd := ⟨[], 0, 0, false⟩
def ps0 : Ps := ⟨0, 0, hd0⟩
theorem Hd.fi (h : Hd) : ∀ w ∈ h.c, Fi w := by
  intro w hw
  simp only [Hd.c, List.mem_cons, List.not_mem_nil, or_false] at hw
  rcases hw with rfl | rfl | rfl | rfl
  · exact Fi.s _
  · exact Fi.n _
  · exact Fi.i _ _
  · exact Fi.t _
/-- What is read: 0: TBinary, 1: TCompact. -/
def tkP (p : Nat) (l : List Nat) : Ps := if p = 0 then binP l ps0 else cmpP l ps0
theorem new_hd (F : FAW) (f : KU) : uNewF 23 4 [(.s []), (.n 0), (.i .i32 0), (.t false)] F f = f (.p F.x 0) (F.new hd0.c 23 4) := by
  have e : uNewF 23 4 [(.s []), (.n 0), (.i .i32 0), (.t false)] F f = newU hd0.c 23 4 F fun i F' => f (.p i 0) F' := rfl
  rw [e, newU_new]
theorem new_cu (F F0 : FAW) (f : KU) {w : FV} {l : List Nat} (hw : By F0 w l) : (uBuildF [.nl, (.n 0), (.n 0)] [(0, 1, w)] F fun v0 S => uBuildF [.nl, (.n 0), (.n 0), (.s []), (.n 0), (.i .i32 0), (.t false)] [(0, 3, v0)] S fun v1 S => uBox 73 7 v1 S f) = f (.p F.x 0) (F.new [w, .n 0, .n 0, .s [], .n 0, .i .i32 0, .t false] 73 7) := by
  have e : (uBuildF [.nl, (.n 0), (.n 0)] [(0, 1, w)] F fun v0 S => uBuildF [.nl, (.n 0), (.n 0), (.s []), (.n 0), (.i .i32 0), (.t false)] [(0, 3, v0)] S fun v1 S => uBox 73 7 v1 S f) = uBox 73 7 (.a [w, .n 0, .n 0, .s [], .n 0, .i .i32 0, .t false]) F f := by
    rcases hw with ⟨rfl, _⟩ | ⟨i, o, c, el, m, ro, cells, rfl, _⟩ <;> rfl
  rw [e, uBox_a]
theorem s16 (m : Nat) {F : FAW} {w : FV} {l : List Nat} (p : Nat) (hp : p = 0 ∨ p = 1) (hN : l.length + 10 ≤ m) (hb : By F w l) (hw : Wf F) (hl : Bs l) (hL : l.length ≤ 1000000) :
    ∃ F', clU msgD (m + 1) 16 [.n p, w] F = .ok (.u [.a (if (tkP p l).e = 0 then (tkP p l).H else hd0).c, .n (if (tkP p l).e = 0 then (tkP p l).n else 0), .n (tkP p l).e]) F' ∧ Std F F' (fun _ => False) (fun _ => False) ∧ Wf F' := by
  have hw1 := (hw.new hd0.c 23 4).new [w, .n 0, .n 0, .s [], .n 0, .i .i32 0, .t false] 73 7
  have st1 := (Std.new hw hd0.c 23 4 (fun _ => False) (fun _ => False)).trans (Std.new (hw.new hd0.c 23 4) [w, .n 0, .n 0, .s [], .n 0, .i .i32 0, .t false] 73 7 (fun _ => False) (fun _ => False))
  have hx1 : (F.new hd0.c 23 4).x = F.x + 1 := rfl
  have rx : ((F.new hd0.c 23 4).new [w, .n 0, .n 0, .s [], .n 0, .i .i32 0, .t false] 73 7).row F.x = some (hd0.c, 23, 4, F.x, false) := by
    rw [row_new, if_neg (by rw [hx1]; omega), row_new, if_pos rfl]
  have fx : ((F.new hd0.c 23 4).new [w, .n 0, .n 0, .s [], .n 0, .i .i32 0, .t false] 73 7).fam F.x = some (false, 4) := by
    rw [fam_new, if_neg (by rw [hx1]; omega), fam_new, if_pos rfl]
    rfl
  have cu : Cu ((F.new hd0.c 23 4).new [w, .n 0, .n 0, .s [], .n 0, .i .i32 0, .t false] 73 7) (F.x + 1) w l ps0.n ps0.e ps0.H :=
    ⟨⟨73, by rw [row_new, hx1, if_pos rfl]; rfl⟩, ⟨7, by rw [fam_new, hx1, if_pos rfl]; rfl, Nat.le_refl _⟩, hb.std st1 (fun _ _ _ _ _ _ h => h)⟩
  have hbox := fun f : KU => new_cu (F.new hd0.c 23 4) F f hb
  generalize (F.new hd0.c 23 4).new [w, .n 0, .n 0, .s [], .n 0, .i .i32 0, .t false] 73 7 = F1 at *
  rw [hx1] at hbox
  have key : ∃ F2, (∀ (C : CU) (κ : EX → W10 → FAW → RU), True) ∧ (clU msgD m (if p = 0 then 55 else 56) [.p (F.x + 1) 0] F1 = .ok (.u []) F2) ∧ Cu F2 (F.x + 1) w l (tkP p l).n (tkP p l).e (tkP p l).H ∧ Oth F1 F2 (F.x + 1) ∧ Wf F2 := by
    obtain ⟨k, rfl⟩ : ∃ k, m = k + 1 := ⟨m - 1, by omega⟩
    rcases hp with rfl | rfl
    · obtain ⟨F2, e2, h2, o2, w2⟩ := s55 k (by omega) cu hw1 hl (Nat.zero_le _) hL
      exact ⟨F2, fun _ _ => trivial, e2, h2, o2, w2⟩
    · obtain ⟨F2, e2, h2, o2, w2⟩ := s56 k (by omega) cu hw1 hl (Nat.zero_le _) hL
      exact ⟨F2, fun _ _ => trivial, e2, h2, o2, w2⟩
  obtain ⟨F2, _, e2, h2, o2, w2⟩ := key
  have rx2 : F2.row F.x = some (hd0.c, 23, 4, F.x, false) := by rw [o2.row _ (by omega)]; exact rx
  have fx2 : F2.fam F.x = some (false, 4) := by rw [o2.fam]; exact fx
  obtain ⟨el, hr⟩ := h2.row
  have hst := fun (H : Hd) (f : KU) => uSt_agg (vs := H.c) f rx2 fx2 (Nat.le_refl 4) rfl hd0.fi H.fi
  have rx3 : ∀ H : Hd, (F2.put F.x H.c).row F.x = some (H.c, 23, 4, F.x, false) := fun H => by rw [row_put, if_pos rfl, rx2]; rfl
  have hr3 : ∀ H : Hd, (F2.put F.x H.c).row (F.x + 1) = F2.row (F.x + 1) := fun H => by rw [row_put, if_neg (by omega)]
  have st2 : ∀ H : Hd, Std F (F2.put F.x H.c) (fun _ => False) (fun _ => False) := fun H => by
    refine ⟨fun j r _ hj => ?_, fun j r _ hj => ?_, fun j r hj => ?_, ?_⟩
    · have := hw.row _ _ hj
      rw [row_put, if_neg (by omega), o2.row _ (by omega)]
      exact st1.row j r (fun h => h) hj
    · rw [fam_put, o2.fam]; exact st1.fam j r (fun h => h) hj
    · rw [mp_put, o2.mp]; exact st1.mp j r hj
    · show F.x ≤ F2.x
      rw [o2.x]; exact st1.x
  have hst4 : ∀ (H : Hd) (f : KU), uSt 4 (.p F.x 0) (.a H.c) F2 f = f (.u []) (F2.put F.x H.c) := hst
  have l1 : ∀ f : KU, uLd none (.p (F.x + 1) 1) F2 f = f (.n (tkP p l).n) F2 := fun f => uLd_row f hr rfl (Fi.n _)
  have l2 : ∀ f : KU, uLd none (.p (F.x + 1) 2) F2 f = f (.n (tkP p l).e) F2 := fun f => uLd_row f hr rfl (Fi.n _)
  have l3 : ∀ f : KU, uLd (some 4) (.p (F.x + 1) 3) F2 f = f (.a (tkP p l).H.c) F2 := fun f => uLd_agg f hr (Nat.le_refl 7) (tkP p l).H.fi
  have m1 : ∀ (H : Hd) (f : KU), uLd none (.p (F.x + 1) 1) (F2.put F.x H.c) f = f (.n (tkP p l).n) (F2.put F.x H.c) := fun H f => uLd_row f ((hr3 H).trans hr) rfl (Fi.n _)
  have m2 : ∀ (H : Hd) (f : KU), uLd none (.p (F.x + 1) 2) (F2.put F.x H.c) f = f (.n (tkP p l).e) (F2.put F.x H.c) := fun H f => uLd_row f ((hr3 H).trans hr) rfl (Fi.n _)
  have m4 : ∀ (H : Hd) (f : KU), uLd (some 4) (.p F.x 0) (F2.put F.x H.c) f = f (.a H.c) (F2.put F.x H.c) := fun H f => uLd_agg f (rx3 H) (Nat.le_refl 4) H.fi
  have b0 : ∀ f : KU, uBuildF [(.s []), (.n 0), (.i .i32 0), (.t false)] [] F2 f = f (.a hd0.c) F2 := fun f => rfl
  refine ⟨F2.put F.x (if (tkP p l).e = 0 then (tkP p l).H else hd0).c, ?_, st2 _, w2.put _ _⟩
  rw [cl16, u16_in]
  generalize tkP p l = P at *
  have tail : ∀ (a0 a1 a3 a4 a6 a7 a8 a9 : FV) (C : CU) (n : Nat), u16bt3 C n (.mk a0 a1 (.p F.x 0) a3 a4 (.p (F.x + 1) 0) a6 a7 a8 a9) F2 (fun o v F => exU o (u16r v F) (fun _ => .no) (u16r v F)) = .ok (.u [.a (if P.e = 0 then P.H else hd0).c, .n (if P.e = 0 then P.n else 0), .n P.e]) (F2.put F.x (if P.e = 0 then P.H else hd0).c) := by
    intro a0 a1 a3 a4 a6 a7 a8 a9 C n
    by_cases he : P.e = 0
    · simp only [↓u16bt3_s, ↓u16bt4_s, ↓seqU_eq, ↓condU_eq, ↓skipU_eq, ↓retU_eq, ↓u16_10, ↓u16_11, ↓u16_13, ↓m10_mk, ↓k10_mk, ↓exU_n, ↓exU_r, ↓uNilc_p, ↓uFad_p, Nat.zero_add, ↓l1, ↓l2, ↓l3, ↓uEq_nn, xo_t, decide_eq_true he, Bool.not_true, ↓eT_t, ↓cn_false, ↓hst4, ↓m1, ↓veqU_n, ↓u16r_mk, ↓m4, if_pos he]
      rw [he]
    · simp only [↓u16bt3_s, ↓seqU_eq, ↓condU_eq, ↓skipU_eq, ↓retU_eq, ↓u16_10, ↓u16_11, ↓u16_12, ↓m10_mk, ↓k10_mk, ↓exU_n, ↓exU_r, ↓uNilc_p, ↓uFad_p, Nat.zero_add, ↓l1, ↓l2, ↓b0, ↓uEq_nn, xo_t, decide_eq_false he, Bool.not_false, ↓eT_t, ↓cn_true, ↓hst4, ↓m2, ↓veqU_n, ↓u16r_mk, ↓m4, if_neg he]
  rcases hp with rfl | rfl
  · simp only [if_true] at e2
    simp only [↓u16b_s, ↓u16bt1_s, ↓u16bt2_s, ↓seqU_eq, ↓condU_eq, ↓blockU_eq, ↓u16_0, ↓u16_1, ↓u16_2, ↓u16_3, ↓u16_4, ↓u16_5, ↓m10_mk, ↓k10_mk, ↓exU_n, ↓new_hd, ↓hbox, ↓uEq_nn, xo_f, decide_true, ↓eT_t, ↓cn_true, ↓uCall_eq, ↓e2, ↓goOn_ok, ↓tail]
  · simp only [show ¬ (1 = 0) by omega, if_false] at e2
    simp only [↓u16b_s, ↓u16bt1_s, ↓u16bt2_s, ↓seqU_eq, ↓condU_eq, ↓blockU_eq, ↓u16_0, ↓u16_1, ↓u16_2, ↓u16_3, ↓u16_4, ↓u16_6, ↓u16_7, ↓u16_8, ↓m10_mk, ↓k10_mk, ↓exU_n, ↓new_hd, ↓hbox, ↓uEq_nn, xo_f, decide_true, decide_eq_false (show ¬ 1 = 0 by omega), ↓eT_t, ↓cn_true, ↓cn_false, ↓uCall_eq, ↓e2, ↓goOn_ok, ↓tail]
end Go.Proofs.Ytgejdfhfgphcbaa.Ev
/- Msg: numbers that are put. -/
namespace Go.Proofs.Ytgejdfhfgphcbaa.Ev
open Go Go.RowKit
set_option linter.unusedVariables false
set_option linter.constructorNameAsVariable false
set_option linter.unusedSimpArgs false
set_option linter.unusedSectionVars false

theorem r64 (C : CU) (N : Nat) {F : FAW} {a : FV} {base g i L c el m ex : Nat} {cs : List FV} (hlen : ∀ (G : FAW) (f : KU), uLen false a G f = f (.n base) G) (hr : F.row i = some (cs, el, 1, m, false)) (hf : F.fam m = some (false, ex)) (hx : cs.length ≤ ex) (hL : cs.length = L) (hg : g < L) (hb : base ≤ g) (hc : ∀ w ∈ cs, Fi w) (d e h j : FV) (κ : EX → W8 → FAW → RU) (M : Nat) :
    loopNU (u64_12 C N) κ (M + 1) (.mk a (w64 c) d e (.l i 0 L L) (.n g) h j) F = uSub (.n g) (.n 1) (F.put i (cs.set g (.b (c % 256)))) fun v0 S => loopNU (u64_12 C N) κ M (.mk a (w64 (c / 2 ^ 8)) d e (.l i 0 L L) v0 h (.t true)) S := by
  rw [loopNU_succ]
  generalize loopNU (u64_12 C N) κ M = rec
  obtain ⟨w, hw⟩ : ∃ w, cs[g]? = some w := ⟨cs[g]'(by omega), List.getElem?_eq_getElem (by omega)⟩
  have e1 : ∀ f : KU, (uIad 1 (.l i 0 L L) (.n g) F fun v1 S => uSt 1 v1 (.b (c % 256)) S f) = f (.u []) (F.put i (cs.set g (.b (c % 256)))) := fun f => by
    rw [uIad_l _ _ hg, Nat.zero_add, Nat.mul_one]
    exact uSt_row f hr hf hx hw (hc w (List.mem_of_getElem? hw)) (Fi.b _)
  simp only [↓u64_12, ↓seqU_eq, ↓condU_eq, ↓skipU_eq, ↓blockU_eq, ↓exitU_eq, ↓u64_7, ↓u64_8, ↓u64_9, ↓u64_10, ↓u64_11, ↓m8_mk, ↓k8_mk, ↓exU_n, ↓hlen, ↓uGeq_nn, ↓eT_t, decide_eq_true hb, ↓cn_true, uCv_bw, e1, w_8, uShr_w _ _ _ 8 (show 8 < 64 by omega) _ (.inl rfl)]
theorem e64 (C : CU) (N : Nat) (F : FAW) (a c d e f h j : FV) (base : Nat) (hlen : ∀ (G : FAW) (f : KU), uLen false a G f = f (.n base) G) (κ : EX → W8 → FAW → RU) (M : Nat) (hb : base ≤ 9223372036854775807) :
    (uSub (.n base) (.n 1) F fun v0 S => loopNU (u64_12 C N) κ (M + 1) (.mk a c d e f v0 h j) S) = uSub (.n base) (.n 1) F fun v0 S => κ (.exit 0) (.mk a c d e f v0 h (.t false)) S := by
  by_cases h0 : base = 0
  · subst h0
    have e1 : ∀ g : KU, uSub (.n 0) (.n 1) F g = g (.i .i64 (-1)) F := fun g => rfl
    rw [e1, e1, loopNU_succ]
    generalize loopNU (u64_12 C N) κ M = rec
    have e2 : ∀ g : KU, uCmp (fun a b => Nat.ble b a) .geq (.i .i64 (-1)) (.n 0) F g = g (.t false) F := fun g => rfl
    simp only [↓u64_12, ↓seqU_eq, ↓condU_eq, ↓exitU_eq, ↓u64_7, ↓u64_8, ↓m8_mk, ↓k8_mk, ↓exU_n, ↓exU_e, ↓hlen, ↓e2, ↓eT_t, ↓cn_false]
  · rw [uSub_nn _ _ (show 1 ≤ base by omega) hb, uSub_nn _ _ (show 1 ≤ base by omega) hb, loopNU_succ]
    generalize loopNU (u64_12 C N) κ M = rec
    simp only [↓u64_12, ↓seqU_eq, ↓condU_eq, ↓exitU_eq, ↓u64_7, ↓u64_8, ↓m8_mk, ↓k8_mk, ↓exU_n, ↓exU_e, ↓hlen, ↓uGeq_nn, decide_eq_false (show ¬ base ≤ base - 1 by omega), ↓eT_t, ↓cn_false]
/-- The four lowest bytes. -/
def be4b (c : Nat) : List Nat := [c / 2 ^ 8 / 2 ^ 8 / 2 ^ 8 % 256, c / 2 ^ 8 / 2 ^ 8 % 256, c / 2 ^ 8 % 256, c % 256]
/-- Bytes are copied to the front. -/
theorem cpy {F : FAW} {a : FV} {xs : List Nat} (ha : By F a xs) {i L el m ex : Nat} {cs : List FV} (hr : F.row i = some (cs, el, 1, m, false)) (hf : F.fam m = some (false, ex)) (hx : cs.length ≤ ex) (hL : cs.length = L) (hle : xs.length ≤ L) (hc : ∀ w ∈ cs, Fi w) (hw : Wf F) :
    ∃ F', (∀ f : KU, uCpy 1 (.l i 0 L L) a F f = f (.n xs.length) F') ∧ F'.row i = some (xs.map FV.b ++ cs.drop xs.length, el, 1, m, false) ∧ Oth F F' i ∧ Wf F' := by
  have hs := fun g : Nat → List FV → RU => ha.sl.src (fun c hc => by obtain ⟨b, _, rfl⟩ := List.mem_map.mp hc; exact Fi.b b) g
  rw [List.length_map] at hs
  have e1 : ∀ f : KU, uCpy 1 (.l i 0 L L) a F f = cpyK i 0 F xs.length (xs.map FV.b) f := by
    intro f
    show cutK L a (fun x => srcU F 1 x fun n nw => cpyK i 0 F n nw f) = _
    rcases ha with ⟨rfl, rfl⟩ | ⟨j, o, c, el, mm, ro, cells, rfl, _⟩
    · rfl
    · show (Bool.rec (motive := fun _ => RU) (srcU F 1 (.l j o L c) fun n nw => cpyK i 0 F n nw f) (srcU F 1 (.l j o xs.length c) fun n nw => cpyK i 0 F n nw f) (Nat.ble xs.length L)) = _
      rw [bleU, decide_eq_true hle]
      exact hs _
  cases xs with
  | nil => exact ⟨F, fun f => by rw [e1]; rfl, by simpa using hr, Oth.refl _ _, hw⟩
  | cons b t =>
    refine ⟨F.put i ((b :: t).map FV.b ++ cs.drop (b :: t).length), fun f => ?_, by rw [row_put, if_pos rfl, hr]; rfl, Oth.put _ _ _, hw.put _ _⟩
    rw [e1]
    show (findH F.h i fun c _ _ fm ro => cn ro .no (stAtU c 0 ((b :: t).map FV.b) fun d => putU F i fm d fun F' => f (.n (b :: t).length) F')) = _
    rw [findH_get _ hr, cn_false]
    have e2 : ∀ g, stAtU cs 0 ((b :: t).map FV.b) g = stU cs ((b :: t).map FV.b) g := fun g => by cases cs <;> rfl
    rw [e2, stU_all _ _ _ (by rw [List.length_map]; omega) (fun c hc => by obtain ⟨b, _, rfl⟩ := List.mem_map.mp hc; exact Fi.b b) (fun a ha => hc a (List.mem_of_mem_take ha)), List.length_map, putU_put hr hf (by rw [List.length_append, List.length_map, List.length_drop]; omega)]
end Go.Proofs.Ytgejdfhfgphcbaa.Ev
/- Msg: octet.Put of four bytes. -/
namespace Go.Proofs.Ytgejdfhfgphcbaa.Ev
open Go Go.RowKit
set_option linter.unusedVariables false
set_option linter.constructorNameAsVariable false
set_option linter.unusedSimpArgs false
set_option linter.unusedSectionVars false

theorem set_at (xs : List FV) (k : Nat) (t : List FV) (w : FV) : (xs ++ t).set (xs.length + k) w = xs ++ t.set k w := by
  rw [List.set_append_right _ _ (by omega)]
  congr 2
  omega
theorem l64 {F : FAW} {a : FV} {i c el m ex : Nat} {xs : List FV} {z0 z1 z2 z3 : FV} (hlen : ∀ (G : FAW) (f : KU), uLen false a G f = f (.n xs.length) G) (hr : F.row i = some (xs ++ [z0, z1, z2, z3], el, 1, m, false)) (hf : F.fam m = some (false, ex)) (hx : xs.length + 4 ≤ ex) (hL : xs.length ≤ 1000000)
    (hxs : ∀ w ∈ xs, Fi w) (h0 : Fi z0) (h1 : Fi z1) (h2 : Fi z2) (h3 : Fi z3) (hw : Wf F) :
    ∃ F' v0, (∀ (C : CU) (N : Nat) (d e h j : FV) (κ : EX → W8 → FAW → RU) (M : Nat), 5 ≤ M → loopNU (u64_12 C N) κ M (.mk a (w64 c) d e (.l i 0 (xs.length + 4) (xs.length + 4)) (.n (xs.length + 3)) h j) F = κ (.exit 0) (.mk a (w64 (c / 2 ^ 8 / 2 ^ 8 / 2 ^ 8 / 2 ^ 8)) d e (.l i 0 (xs.length + 4) (xs.length + 4)) v0 h (.t false)) F') ∧ F'.row i = some (xs ++ (be4b c).map FV.b, el, 1, m, false) ∧ Oth F F' i ∧ Wf F' := by
  have fi : ∀ t : List FV, (∀ w ∈ t, Fi w) → ∀ w ∈ xs ++ t, Fi w := fun t ht w hw => by
    rcases List.mem_append.mp hw with h | h
    · exact hxs _ h
    · exact ht _ h
  have q1 : (F.put i (xs ++ [z0, z1, z2, .b (c % 256)])).row i = some (xs ++ [z0, z1, z2, .b (c % 256)], el, 1, m, false) := by rw [row_put, if_pos rfl, hr]; rfl
  have q2 : ((F.put i (xs ++ [z0, z1, z2, .b (c % 256)])).put i (xs ++ [z0, z1, .b (c / 2 ^ 8 % 256), .b (c % 256)])).row i = some (xs ++ [z0, z1, .b (c / 2 ^ 8 % 256), .b (c % 256)], el, 1, m, false) := by rw [row_put, if_pos rfl, q1]; rfl
  have q3 : (((F.put i (xs ++ [z0, z1, z2, .b (c % 256)])).put i (xs ++ [z0, z1, .b (c / 2 ^ 8 % 256), .b (c % 256)])).put i (xs ++ [z0, .b (c / 2 ^ 8 / 2 ^ 8 % 256), .b (c / 2 ^ 8 % 256), .b (c % 256)])).row i = some (xs ++ [z0, .b (c / 2 ^ 8 / 2 ^ 8 % 256), .b (c / 2 ^ 8 % 256), .b (c % 256)], el, 1, m, false) := by rw [row_put, if_pos rfl, q2]; rfl
  obtain ⟨v0, hv⟩ : ∃ v0, ∀ (G : FAW) (g : KU), uSub (.n xs.length) (.n 1) G g = g v0 G := by
    by_cases hz : xs.length = 0
    · exact ⟨.i .i64 (-1), fun G g => by rw [hz]; rfl⟩
    · exact ⟨.n (xs.length - 1), fun G g => uSub_nn G g (by omega) (by omega)⟩
  have s0 : ∀ (z w : FV) (t : List FV), (xs ++ z :: t).set xs.length w = xs ++ w :: t := fun z w t => set_at xs 0 (z :: t) w
  refine ⟨_, v0, fun C N d e h j κ M hM => ?_, by rw [row_put, if_pos rfl, q3]; rfl, (((Oth.put _ _ _).trans (Oth.put _ _ _)).trans (Oth.put _ _ _)).trans (Oth.put _ _ _), (((hw.put _ _).put _ _).put _ _).put _ _⟩
  obtain ⟨M, rfl⟩ : ∃ M', M = M' + 1 + 1 + 1 + 1 + 1 := ⟨M - 5, by omega⟩
  have r0 := r64 C N (c := c) (g := xs.length + 3) (L := xs.length + 4) hlen hr hf (by rw [List.length_append]; simpa using hx) (by rw [List.length_append]; rfl) (by omega) (by omega) (fi _ (by simp [h0, h1, h2, h3])) d e h j κ (M + 1 + 1 + 1 + 1)
  rw [set_at xs 3] at r0
  have r1 := r64 C N (c := c / 2 ^ 8) (g := xs.length + 2) (L := xs.length + 4) hlen q1 (by rw [fam_put]; exact hf) (by rw [List.length_append]; simpa using hx) (by rw [List.length_append]; rfl) (by omega) (by omega) (fi _ (by simp [h0, h1, h2, Fi.b])) d e h (.t true) κ (M + 1 + 1 + 1)
  rw [set_at xs 2] at r1
  have r2 := r64 C N (c := c / 2 ^ 8 / 2 ^ 8) (g := xs.length + 1) (L := xs.length + 4) hlen q2 (by rw [fam_put, fam_put]; exact hf) (by rw [List.length_append]; simpa using hx) (by rw [List.length_append]; rfl) (by omega) (by omega) (fi _ (by simp [h0, h1, Fi.b])) d e h (.t true) κ (M + 1 + 1)
  rw [set_at xs 1] at r2
  have r3 := r64 C N (c := c / 2 ^ 8 / 2 ^ 8 / 2 ^ 8) (g := xs.length) (L := xs.length + 4) hlen q3 (by rw [fam_put, fam_put, fam_put]; exact hf) (by rw [List.length_append]; simpa using hx) (by rw [List.length_append]; rfl) (by omega) (by omega) (fi _ (by simp [h0, Fi.b])) d e h (.t true) κ (M + 1)
  rw [s0] at r3
  have r4 := e64 C N (F := (((F.put i (xs ++ [z0, z1, z2, .b (c % 256)])).put i (xs ++ [z0, z1, .b (c / 2 ^ 8 % 256), .b (c % 256)])).put i (xs ++ [z0, .b (c / 2 ^ 8 / 2 ^ 8 % 256), .b (c / 2 ^ 8 % 256), .b (c % 256)])).put i (xs ++ [.b (c / 2 ^ 8 / 2 ^ 8 / 2 ^ 8 % 256), .b (c / 2 ^ 8 / 2 ^ 8 % 256), .b (c / 2 ^ 8 % 256), .b (c % 256)])) a (w64 (c / 2 ^ 8 / 2 ^ 8 / 2 ^ 8 / 2 ^ 8)) d e (.l i 0 (xs.length + 4) (xs.length + 4)) h (.t true) xs.length hlen κ M (by omega)
  rw [hv, hv] at r4
  rw [hv] at r3
  rw [uSub_nn _ _ (show 1 ≤ xs.length + 3 by omega) (by omega), show xs.length + 3 - 1 = xs.length + 2 from rfl] at r0
  rw [uSub_nn _ _ (show 1 ≤ xs.length + 2 by omega) (by omega), show xs.length + 2 - 1 = xs.length + 1 from rfl] at r1
  rw [uSub_nn _ _ (show 1 ≤ xs.length + 1 by omega) (by omega), show xs.length + 1 - 1 = xs.length from rfl] at r2
  exact r0.trans (r1.trans (r2.trans (r3.trans r4)))
end Go.Proofs.Ytgejdfhfgphcbaa.Ev
/- Msg: octet.Put. -/
namespace Go.Proofs.Ytgejdfhfgphcbaa.Ev
open Go Go.RowKit
set_option linter.unusedVariables false
set_option linter.constructorNameAsVariable false
set_option linter.unusedSimpArgs false
set_option linter.unusedSectionVars false

theorem repU_b : ∀ n : Nat, repU [.b 0] n = List.replicate n (.b 0)
  | 0 => rfl
  | n + 1 => by
    show [FV.b 0] ++ repU [.b 0] n = _
    rw [repU_b n]; rfl
theorem uMks_b (F : FAW) (f : KU) (L : Nat) (hL : L ≤ 2000000) : uMksF 5 1 1 [(.b 0)] (.n L) (.n L) F f = f (.l F.x 0 L L) (F.new (List.replicate L (.b 0)) 5 1) := by
  have e : uMksF 5 1 1 [(.b 0)] (.n L) (.n L) F f = cn (an (Nat.ble L L) (an (Nat.ble L 140737488355328) (Nat.ble (Nat.mul L 1) 281474976710656))) (newU (repU [.b 0] L) 5 1 F fun i F' => f (.l i 0 L L) F') .no := rfl
  have h : an (Nat.ble L L) (an (Nat.ble L 140737488355328) (Nat.ble (Nat.mul L 1) 281474976710656)) = true := by
    simp -implicitDefEqProofs only [an_eq, bleU]
    simp
    constructor
    · omega
    · omega
  rw [e, h, cn_true, repU_b, newU_new]
theorem tl64 (C : CU) (n : Nat) (hn : 5 ≤ n) {F : FAW} {a : FV} {xs : List Nat} (ha : By F a xs) (hw : Wf F) (hL : xs.length ≤ 1000000) (c : Nat) (d e g h i : FV) :
    ∃ F', (u64bt2 C n (.mk a (w64 c) (.n 4) e d g h i) F fun o v F => exU o (u64r v F) (fun _ => .no) (u64r v F)) = .ok (.l F.x 0 (xs.length + 4) (xs.length + 4)) F' ∧ SlB F' (.l F.x 0 (xs.length + 4) (xs.length + 4)) 5 ((xs ++ be4b c).map FV.b) F.x ∧ Std F F' (fun _ => False) (fun _ => False) ∧ Wf F' := by
  have r0 : (F.new (List.replicate (xs.length + 4) (.b 0)) 5 1).row F.x = some (List.replicate (xs.length + 4) (.b 0), 5, 1, F.x, false) := by rw [row_new, if_pos rfl]
  have f0 : (F.new (List.replicate (xs.length + 4) (.b 0)) 5 1).fam F.x = some (false, xs.length + 4) := by rw [fam_new, if_pos rfl, List.length_replicate]
  have st0 := Std.new hw (List.replicate (xs.length + 4) (.b 0)) 5 1 (fun _ => False) (fun _ => False)
  have w0 := hw.new (List.replicate (xs.length + 4) (.b 0)) 5 1
  have b0 := ha.std st0 (fun _ _ _ _ _ _ h => h)
  have hmk := fun f : KU => uMks_b F f (xs.length + 4) (by omega)
  generalize F.new (List.replicate (xs.length + 4) (.b 0)) 5 1 = F1 at *
  obtain ⟨F2, e2, r2, o2, w2⟩ := cpy b0 r0 f0 (by rw [List.length_replicate]; exact Nat.le_refl _) (List.length_replicate) (by omega) (fun w hw => by rw [List.eq_of_mem_replicate hw]; exact Fi.b 0) w0
  rw [List.drop_replicate, show xs.length + 4 - xs.length = 4 by omega] at r2
  have hlen : ∀ (G : FAW) (f : KU), uLen false a G f = f (.n (xs.map FV.b).length) G := fun G f => by rw [List.length_map]; exact ha.len G f
  obtain ⟨F3, v0, e3, r3, o3, w3⟩ := l64 (c := c) (i := F.x) (ex := xs.length + 4) hlen r2 (by rw [o2.fam]; exact f0) (by rw [List.length_map]; exact Nat.le_refl _) (by rw [List.length_map]; exact hL) (fun w hw => by obtain ⟨b, _, rfl⟩ := List.mem_map.mp hw; exact Fi.b b) (Fi.b 0) (Fi.b 0) (Fi.b 0) (Fi.b 0) w2
  rw [List.length_map] at e3
  refine ⟨F3, ?_, ?_, ?_, w3⟩
  · simp -implicitDefEqProofs only [↓u64bt2_s, ↓u64bt3_s, ↓seqU_eq, ↓u64_4, ↓u64_5, ↓m8_mk, ↓exU_n, ↓ha.len, uAdd_nn _ _ (show xs.length + 4 ≤ 9223372036854775807 by omega), ↓hmk, ↓e2]
    simp -implicitDefEqProofs only [↓u64bt4_s, ↓seqU_eq, ↓blockU_eq, ↓loopU_eq, ↓u64_6, ↓m8_mk, ↓exU_n, ↓uLen_l, uSub_nn _ _ (show 1 ≤ xs.length + 4 by omega) (show xs.length + 4 ≤ 9223372036854775807 by omega)]
    rw [show xs.length + 4 - 1 = xs.length + 3 from rfl, e3 _ _ _ _ _ _ _ _ hn, exU_e, show Nat.beq 0 0 = true from rfl, cn_true]
    simp -implicitDefEqProofs only [↓u64bt5_s, ↓seqU_eq, ↓retU_eq, ↓u64_13, ↓m8_mk, ↓exU_n, ↓exU_r, ↓u64r_mk]
  · refine .inr ⟨by simp [be4b], F.x, false, by simp [be4b], by rw [r3, List.map_append], ?_⟩
    rw [o3.fam, o2.fam, f0]
    simp [be4b]
  · refine ⟨fun j r _ hj => ?_, fun j r _ hj => ?_, fun j r hj => ?_, ?_⟩
    · have := hw.row _ _ hj
      rw [o3.row _ (by omega), o2.row _ (by omega)]
      exact st0.row j r (fun h => h) hj
    · rw [o3.fam, o2.fam]; exact st0.fam j r (fun h => h) hj
    · rw [o3.mp, o2.mp]; exact st0.mp j r hj
    · rw [o3.x, o2.x]; exact st0.x
/-- A number's four low bytes are put behind bytes. -/
theorem t64 (N : Nat) (hN : 6 ≤ N) {F : FAW} {a : FV} {xs : List Nat} (ha : By F a xs) (hw : Wf F) (hL : xs.length ≤ 1000000) (c : Nat) :
    ∃ F', clU msgD N 64 [a, w64 c, .n 4] F = .ok (.l F.x 0 (xs.length + 4) (xs.length + 4)) F' ∧ SlB F' (.l F.x 0 (xs.length + 4) (xs.length + 4)) 5 ((xs ++ be4b c).map FV.b) F.x ∧ Std F F' (fun _ => False) (fun _ => False) ∧ Wf F' := by
  obtain ⟨m, rfl⟩ : ∃ m, N = m + 1 := ⟨N - 1, by omega⟩
  have h := fun C : CU => tl64 C m (by omega) ha hw hL c (.u []) .nl (.u []) (.t false) (.u [])
  rw [cl64, u64_in]
  generalize clU msgD m = C
  obtain ⟨F', e1, h1, h2, h3⟩ := h C
  refine ⟨F', ?_, h1, h2, h3⟩
  simp -implicitDefEqProofs only [↓u64b_s, ↓u64bt1_s, ↓seqU_eq, ↓condU_eq, ↓skipU_eq, ↓u64_0, ↓u64_1, ↓u64_2, ↓m8_mk, ↓k8_mk, ↓exU_n, ↓uLss_nn, ↓uGtr_nn, ↓eT_t, decide_eq_false (show ¬ 4 < 0 by omega), decide_eq_false (show ¬ 8 < 4 by omega), ↓cn_false, ↓e1]
end Go.Proofs.Ytgejdfhfgphcbaa.Ev
