/- Kind: the laws KindNests, KindNames. -/
import Derived.Test.YtgejdfhfgphcbaaKindK
import Derived.Test.YtgejdfhfgphcbaaEvC
namespace Go.Proofs.Ytgejdfhfgphcbaa.Ev
open Go Go.RowKit
set_option linter.unusedVariables false
set_option linter.constructorNameAsVariable false
set_option linter.unusedSimpArgs false
set_option linter.unusedSectionVars false

/-- A type around another one. -/
def nestT (T : Ty) (z : Nat) : Ty := if z % 3 = 0 then .l1 [108, 105, 115, 116] T else if z % 3 = 1 then .l1 [115, 101, 116] T else .l2 [109, 97, 112] (.wd [115, 116, 114, 105, 110, 103]) T
theorem nestT_ok {T : Ty} (h : T.wf) (hn : T.nms = []) (z : Nat) : (nestT T z).wf ∧ (nestT T z).nms = [] ∧ (nestT T z).dep = T.dep + 1 ∧ (nestT T z).txt.length ≤ T.txt.length + 12 := by
  unfold nestT
  split
  · exact ⟨⟨goodP_dec (by decide), by decide, h⟩, hn, rfl, by simp [Ty.txt]⟩
  · split
    · exact ⟨⟨goodP_dec (by decide), by decide, h⟩, hn, rfl, by simp [Ty.txt]⟩
    · exact ⟨⟨goodP_dec (by decide), by decide, ⟨goodP_dec (by decide), by decide, by decide⟩, h⟩, by simp [Ty.nms, hn], by simp [Ty.dep], by simp [Ty.txt]⟩
theorem map_num {zs : List Int} (hz : ∀ n ∈ zs, (Lit.int .u8 n).wf = true) : zs.map (numV .u8) = (zs.map Int.toNat).map FV.b := by
  rw [List.map_map]
  exact List.map_congr_left fun z hz' => (numV_u8 (hz z hz')).1
theorem loop8 (n N : Nat) {F : FAW} {v : FV} {zs : List Nat} (hv : Sl F v (zs.map FV.b)) (hL : zs.length ≤ 20) (c f g h l m : FV) : ∀ (r a : Nat) (T : Ty) (i j k : FV), a + r = zs.length → T.wf → T.nms = [] → T.dep = a → T.txt.length ≤ 3 + 12 * a → ∀ M, r < M →
    ∃ i' j' k' l', ∀ κ : EX → W12 → FAW → RU, loopNU (u8_20 (clU kindD n) N) κ M (.mk v c (.s T.txt) (.n a) f g h i j k l m) F = κ (.exit 0) (.mk v c (.s ((zs.drop a).foldl nestT T).txt) (.n zs.length) f g h i' j' k' l' m) F := by
  intro r
  induction r generalizing l with
  | zero =>
    intro a T i j k ha hT hn hd ht M hM
    obtain ⟨M, rfl⟩ : ∃ M', M = M' + 1 := ⟨M - 1, by omega⟩
    have ha : a = zs.length := by omega
    subst ha
    refine ⟨.t false, j, k, l, fun κ => ?_⟩
    rw [loopNU_succ]
    simp only [u8_20, seqU_eq, condU_eq, exitU_eq, u8_9, u8_10, m12_mk, k12_mk, exU_n, exU_e, hv.len, List.length_map, uLss_nn, Nat.lt_irrefl, decide_false, eT_t, cn_false, List.drop_length, List.foldl_nil]
  | succ r ih =>
    intro a T i j k ha hT hn hd ht M hM
    obtain ⟨M, rfl⟩ : ∃ M', M = M' + 1 := ⟨M - 1, by omega⟩
    have hal : a < zs.length := by omega
    have hz : zs[a]? = some zs[a] := List.getElem?_eq_getElem hal
    obtain ⟨q1, q2, q3, q4⟩ := nestT_ok hT hn zs[a]
    have hstep : ∃ i' j' k' l', ∀ κ : EX → W12 → FAW → RU, loopNU (u8_20 (clU kindD n) N) κ (M + 1) (.mk v c (.s T.txt) (.n a) f g h i j k l m) F = loopNU (u8_20 (clU kindD n) N) κ M (.mk v c (.s (nestT T zs[a]).txt) (.n (a + 1)) f g h i' j' k' l' m) F := by
      by_cases h0 : zs[a] % 3 = 0
      · refine ⟨.t true, .b (zs[a] % 3), .t (decide (zs[a] % 3 = 0)), l, fun κ => ?_⟩
        rw [loopNU_succ]
        generalize loopNU (u8_20 (clU kindD n) N) κ M = rec
        simp only [u8_20, seqU_eq, condU_eq, blockU_eq, skipU_eq, exitU_eq, u8_9, u8_10, u8_11, u8_12, u8_13, u8_14, u8_15, u8_16, u8_17, u8_18, u8_19, m12_mk, k12_mk, exU_n, exU_e, hv.len, List.length_map, uLss_nn, decide_eq_true hal, eT_t, cn_true]
        rw [hv.get (w := .b zs[a]) (by rw [List.getElem?_map, hz]; rfl) (Fi.b _), uRem_bb _ _ _ (by decide)]
        simp only [uEq_bb, xo_f, eT_t, cn_dec]
        unfold nestT
        simp only [h0, if_true, if_pos trivial]
        rw [uAdd_ss _ _ (by simp; omega), uAdd_ss _ _ (by simp; omega), uAdd_nn _ _ (by omega)]
        simp only [Ty.txt, List.append_assoc, List.cons_append, List.nil_append]
      · by_cases h1 : zs[a] % 3 = 1
        · refine ⟨.t true, .b (zs[a] % 3), .t (decide (zs[a] % 3 = 0)), .t (decide (zs[a] % 3 = 1)), fun κ => ?_⟩
          rw [loopNU_succ]
          generalize loopNU (u8_20 (clU kindD n) N) κ M = rec
          simp only [u8_20, seqU_eq, condU_eq, blockU_eq, skipU_eq, exitU_eq, u8_9, u8_10, u8_11, u8_12, u8_13, u8_14, u8_15, u8_16, u8_17, u8_18, u8_19, m12_mk, k12_mk, exU_n, exU_e, hv.len, List.length_map, uLss_nn, decide_eq_true hal, eT_t, cn_true]
          rw [hv.get (w := .b zs[a]) (by rw [List.getElem?_map, hz]; rfl) (Fi.b _), uRem_bb _ _ _ (by decide)]
          simp only [uEq_bb, xo_f, eT_t, cn_dec]
          unfold nestT
          simp only [h1, if_false, if_true, show ¬ (1 = 0) by decide]
          rw [uAdd_ss _ _ (by simp; omega), uAdd_ss _ _ (by simp; omega), uAdd_nn _ _ (by omega)]
          simp only [Ty.txt, List.append_assoc, List.cons_append, List.nil_append]
        · refine ⟨.t true, .b (zs[a] % 3), .t (decide (zs[a] % 3 = 0)), .t (decide (zs[a] % 3 = 1)), fun κ => ?_⟩
          rw [loopNU_succ]
          generalize loopNU (u8_20 (clU kindD n) N) κ M = rec
          simp only [u8_20, seqU_eq, condU_eq, blockU_eq, skipU_eq, exitU_eq, u8_9, u8_10, u8_11, u8_12, u8_13, u8_14, u8_15, u8_16, u8_17, u8_18, u8_19, m12_mk, k12_mk, exU_n, exU_e, hv.len, List.length_map, uLss_nn, decide_eq_true hal, eT_t, cn_true]
          rw [hv.get (w := .b zs[a]) (by rw [List.getElem?_map, hz]; rfl) (Fi.b _), uRem_bb _ _ _ (by decide)]
          simp only [uEq_bb, xo_f, eT_t, cn_dec]
          unfold nestT
          simp only [h0, h1, if_false]
          rw [uAdd_ss _ _ (by simp; omega), uAdd_ss _ _ (by simp; omega), uAdd_nn _ _ (by omega)]
          simp only [Ty.txt, List.append_assoc, List.cons_append, List.nil_append]
    obtain ⟨i1, j1, k1, l1, e1⟩ := hstep
    obtain ⟨i2, j2, k2, l2, e2⟩ := ih l1 (a + 1) (nestT T zs[a]) i1 j1 k1 (by omega) q1 q2 (by omega) (by omega) M (by omega)
    refine ⟨i2, j2, k2, l2, fun κ => ?_⟩
    rw [e1, e2, List.drop_eq_getElem_cons hal, List.foldl_cons]
theorem nest_all : ∀ (zs : List Nat) (T : Ty), T.wf → T.nms = [] → (zs.foldl nestT T).wf ∧ (zs.foldl nestT T).nms = [] ∧ (zs.foldl nestT T).dep = T.dep + zs.length ∧ (zs.foldl nestT T).txt.length ≤ T.txt.length + 12 * zs.length
  | [], T, h, hn => ⟨h, hn, rfl, Nat.le_refl _⟩
  | z :: zs, T, h, hn => by
    obtain ⟨q1, q2, q3, q4⟩ := nestT_ok h hn z
    obtain ⟨r1, r2, r3, r4⟩ := nest_all zs _ q1 q2
    rw [List.foldl_cons, List.length_cons]
    exact ⟨r1, r2, by omega, by omega⟩
theorem s8 (n : Nat) (hn : 300 < n) {F : FAW} (hF : Wf F) {v : FV} {zs : List Nat} (hv : Sl F v (zs.map FV.b)) : ∃ F', clU kindD (n + 41) 8 [v] F = .ok (.t true) F' := by
  rw [cl8, u8_in]
  obtain ⟨F1, e1, a1, b1⟩ := s20 n hF
  have hv1 := hv.stdn a1
  simp only [↓u8b, ↓seqU_eq, ↓condU_eq, ↓blockU_eq, ↓loopU_eq, ↓skipU_eq, ↓retU_eq, ↓m12_mk, ↓k12_mk, ↓u8_0, ↓u8_1, ↓u8_2, ↓u8_3, ↓u8_4, ↓u8_5, ↓u8_6, ↓u8_7, ↓u8_8, ↓exU_n, ↓exU_r, uCall_eq, e1, goOn_ok, uNot_t, Bool.not_true, eT_t, cn_false, hv1.len, List.length_map, uGtr_nn]
  by_cases h20 : 20 < zs.length
  · rw [decide_eq_true h20, cn_true]; exact ⟨F1, rfl⟩
  · rw [decide_eq_false h20, cn_false]
    let T0 : Ty := .wd [105, 51, 50]
    have w0 : T0.wf := ⟨goodP_dec (by decide), by decide, by decide⟩
    obtain ⟨i', j', k', l', e2⟩ := loop8 (n + 40) (n + 40) hv1 (by omega) (.t false) (.u []) (.t false) (.t false) (.u []) (.u []) zs.length 0 T0 (.u []) (.u []) (.u []) (by omega) w0 rfl rfl (by decide) (n + 40) (by omega)
    obtain ⟨r1, r2, r3, r4⟩ := nest_all zs T0 w0 rfl
    have e2' := fun κ => e2 κ
    simp only [List.drop_zero, show T0.txt = [105, 51, 50] from rfl] at e2'
    rw [e2']
    generalize zs.foldl nestT T0 = T at *
    have hd0 : T0.dep = 0 := rfl
    have ht0 : T0.txt.length = 3 := rfl
    have hb := T.txt_bs r1
    rw [exU_e, show Nat.beq 0 0 = true from rfl, cn_true]
    have hL : T.txt.length ≤ 1000000 := by omega
    by_cases h12 : 12 < zs.length
    · have re := read_deep r1 (by omega)
      have he : (readS T.txt).2.2.e ≠ 0 := by rw [re]; decide
      obtain ⟨F2, e2, a2, b2⟩ := s21_bad hb hL (n + 20) (by omega) b1 he
      obtain ⟨F3, e3, a3, b3⟩ := s25 hb hL (n + 20) (by omega) b2
      obtain ⟨F4, e4, a4, b4⟩ := s26 hb hL (n + 20) (by omega) b3
      rw [re] at e2
      rw [if_neg he] at e4
      rw [decide_eq_false he] at e3
      simp only [↓seqU_eq, ↓condU_eq, ↓skipU_eq, ↓retU_eq, ↓u8_21, ↓u8_22, ↓u8_23, ↓u8_24, ↓u8_25, ↓m12_mk, ↓k12_mk, ↓exU_n, ↓exU_r, uCall_eq, e2, goOn_ok, uExt_0, uExt_1, uExt_2, uExt_3, uExt_4, (hv1.stdn a2).len, List.length_map, uGtr_nn, decide_eq_true h12, eT_t, cn_true, uEq_nn, xo_f, decide_true, e3, uNot_t, Bool.not_false, e4]
      exact ⟨F4, rfl⟩
    · have re := read_in r1 (by omega)
      obtain ⟨F2, e2, a2, b2⟩ := s21_ok r1 (by omega) hb hL (n + 20) (by omega) b1
      obtain ⟨F3, e3, a3, b3⟩ := s25 hb hL (n + 20) (by omega) b2
      obtain ⟨F4, e4, a4, b4⟩ := s26 hb hL (n + 20) (by omega) b3
      obtain ⟨F5, v5, m5, e5, sl5, a5, b5⟩ := s23 hb hL (n + 20) (by omega) b4
      rw [re] at e3 e4 sl5
      simp only [if_true, decide_true] at e3 e4
      have hdz : T.dep = zs.length := by omega
      rw [hdz] at e4
      simp only [if_true, r2, List.map_nil] at sl5
      simp only [↓seqU_eq, ↓condU_eq, ↓skipU_eq, ↓retU_eq, ↓u8_21, ↓u8_22, ↓u8_23, ↓u8_24, ↓u8_25, ↓m12_mk, ↓k12_mk, ↓exU_n, ↓exU_r, uCall_eq, e2, goOn_ok, uExt_0, uExt_1, uExt_2, uExt_3, uExt_4, (hv1.stdn a2).len, (hv1.stdn (a2.none_trans (a3.none_trans a4))).len, List.length_map, uGtr_nn, decide_eq_false h12, eT_t, cn_true, cn_false, uEq_nn, xo_f, decide_true, e3, e4, e5, sl5.len, List.length_nil]
      exact ⟨F5, rfl⟩
end Go.Proofs.Ytgejdfhfgphcbaa.Ev
