/- Kind: the laws KindNests, KindNames. -/
import Derived.Test.YtgejdfhfgphcbaaKindK
import Derived.Test.YtgejdfhfgphcbaaEvC
namespace Go.Proofs.Ytgejdfhfgphcbaa.Ev
open Go Go.RowKit
set_option linter.unusedVariables false
set_option linter.constructorNameAsVariable false
set_option linter.unusedSimpArgs false
set_option linter.unusedSectionVars false

/-- A type around another one. -/
def nestT (T : Ty) (z : Nat) : Ty := if z % 3 = 0 then .l1 [108, 105, 115, 116] T else if z % 3 = 1 then .l1 [115, 101, 116] T else .l2 [109, 97, 112] (.wd [115, 116, 114, 105, 110, 103]) T
theorem nestT_ok {T : Ty} (h : T.wf) (hn : T.nms = []) (z : Nat) : (nestT T z).wf ∧ (nestT T z).nms = [] ∧ (nestT T z).dep = T.dep + 1 ∧ (nestT T z).txt.length ≤ T.txt.length + 12 := by
  unfold nestT
  split
  · exact ⟨⟨goodP_dec (by decide), by decide, h⟩, hn, rfl, by simp [Ty.txt]⟩
  · split
    · exact ⟨⟨goodP_dec (by decide), by decide, h⟩, hn, rfl, by simp [Ty.txt]⟩
    · exact ⟨⟨goodP_dec (by decide), by decide, ⟨goodP_dec (by decide), by decide, by decide⟩, h⟩, by simp [Ty.nms, hn], by simp [Ty.dep], by simp [Ty.txt]⟩
theorem map_num {zs : List Int} (hz : ∀ n ∈ zs, (Lit.int .u8 n).wf = true) : zs.map (numV .u8) = (zs.map Int.toNat).map FV.b := by
  rw [List.map_map]
  exact List.map_congr_left fun z hz' => (numV_u8 (hz z hz')).1
theorem loop8 (n N : Nat) {F : FAW} {v : FV} {zs : List Nat} (hv : Sl F v (zs.map FV.b)) (hL : zs.length ≤ 20) (c f g h l m : FV) : ∀ (r a : Nat) (T : Ty) (i j k : FV), a + r = zs.length → T.wf → T.nms = [] → T.dep = a → T.txt.length ≤ 3 + 12 * a → ∀ M, r < M →
    ∃ i' j' k' l', ∀ κ : EX → W12 → FAW → RU, loopNU (u8_20 (clU kindD n) N) κ M (.mk v c (.s T.txt) (.n a) f g h i j k l m) F = κ (.exit 0) (.mk v c (.s ((zs.drop a).foldl nestT T).txt) (.n zs.length) f g h i' j' k' l' m) F := by
  intro r
  induction r generalizing l with
  | zero =>
    intro a T i j k ha hT hn hd ht M hM
    obtain ⟨M, rfl⟩ : ∃ M', M = M' + 1 := ⟨M - 1, by omega⟩
    have ha : a = zs.length := by omega
    subst ha
    refine ⟨.t false, j, k, l, fun κ => ?_⟩
    rw [loopNU_succ]
    simp only [u8_20, seqU_eq, condU_eq, exitU_eq, u8_9, u8_10, m12_mk, k12_mk, exU_n, exU_e, hv.len, List.length_map, uLss_nn, Nat.lt_irrefl, decide_false, eT_t, cn_false, List.drop_length, List.foldl_nil]
  | succ r ih =>
    intro a T i j k ha hT hn hd ht M hM
    obtain ⟨M, rfl⟩ : ∃ M', M = M' + 1 := ⟨M - 1, by omega⟩
    have hal : a < zs.length := by omega
    have hz : zs[a]? = some zs[a] := List.getElem?_eq_getElem hal
    obtain ⟨q1, q2, q3, q4⟩ := nestT_ok hT hn zs[a]
    have hstep : ∃ i' j' k' l', ∀ κ : EX → W12 → FAW → RU, loopNU (u8_20 (clU kindD n) N) κ (M + 1) (.mk v c (.s T.txt) (.n a) f g h i j k l m) F = loopNU (u8_20 (clU kindD n) N) κ M (.mk v c (.s (nestT T zs[a]).txt) (.n (a + 1)) f g h i' j' k' l' m) F := by
      by_cases h0 : zs[a] % 3 = 0
      · refine ⟨.t true, .b (zs[a] % 3), .t (decide (zs[a] % 3 = 0)), l, fun κ => ?_⟩
        rw [loopNU_succ]
        generalize loopNU (u8_20 (clU kindD n) N) κ M = rec
        simp only [u8_20, seqU_eq, condU_eq, blockU_eq, skipU_eq, exitU_eq, u8_9, u8_10, u8_11, u8_12, u8_13, u8_14, u8_15, u8_16, u8_17, u8_18, u8_19, m12_mk, k12_mk, exU_n, exU_e, hv.len, List.length_map, uLss_nn, decide_eq_true hal, eT_t, cn_true]
        rw [hv.get (w := .b zs[a]) (by rw [List.getElem?_map, hz]; rfl) (Fi.b _), uRem_bb _ _ _ (by decide)]
        simp only [uEq_bb, xo_f, eT_t, cn_dec]
        unfold nestT
        simp only [h0, if_true, if_pos trivial]
        rw [uAdd_ss _ _ (by simp; omega), uAdd_ss _ _ (by simp; omega), uAdd_nn _ _ (by omega)]
        simp only [Ty.txt, List.append_assoc, List.cons_append, List.nil_append]
      · by_cases h1 : zs[a] % 3 = 1
        · refine ⟨.t true, .b (zs[a] % 3), .t (decide (zs[a] % 3 = 0)), .t (decide (zs[a] % 3 = 1)), fun κ => ?_⟩
          rw [loopNU_succ]
          generalize loopNU (u8_20 (clU kindD n) N) κ M = rec
          simp only [u8_20, seqU_eq, condU_eq, blockU_eq, skipU_eq, exitU_eq, u8_9, u8_10, u8_11, u8_12, u8_13, u8_14, u8_15, u8_16, u8_17, u8_18, u8_19, m12_mk, k12_mk, exU_n, exU_e, hv.len, List.length_map, uLss_nn, decide_eq_true hal, eT_t, cn_true]
          rw [hv.get (w := .b zs[a]) (by rw [List.getElem?_map, hz]; rfl) (Fi.b _), uRem_bb _ _ _ (by decide)]
          simp only [uEq_bb, xo_f, eT_t, cn_dec]
          unfold nestT
          simp only [h1, if_false, if_true, show ¬ (1 = 0) by decide]
          rw [uAdd_ss _ _ (by simp; omega), uAdd_ss _ _ (by simp; omega), uAdd_nn _ _ (by omega)]
          simp only [Ty.txt, List.append_assoc, List.cons_append, List.nil_append]
        · refine ⟨.t true, .b (zs[a] % 3), .t (decide (zs[a] % 3 = 0)), .t (decide (zs[a] % 3 = 1)), fun κ => ?_⟩
          rw [loopNU_succ]
          generalize loopNU (u8_20 (clU kindD n) N) κ M = rec
          simp only [u8_20, seqU_eq, condU_eq, blockU_eq, skipU_eq, exitU_eq, u8_9, u8_10, u8_11, u8_12, u8_13, u8_14, u8_15, u8_16, u8_17, u8_18, u8_19, m12_mk, k12_mk, exU_n, exU_e, hv.len, List.length_map, uLss_nn, decide_eq_true hal, eT_t, cn_true]
          rw [hv.get (w := .b zs[a]) (by rw [List.getElem?_map, hz]; rfl) (Fi.b _), uRem_bb _ _ _ (by decide)]
          simp only [uEq_bb, xo_f, eT_t, cn_dec]
          unfold nestT
          simp only [h0, h1, if_false]
          rw [uAdd_ss _ _ (by simp; omega), uAdd_ss _ _ (by simp; omega), uAdd_nn _ _ (by omega)]
          simp only [Ty.txt, List.append_assoc, List.cons_append, List.nil_append]
    obtain ⟨i1, j1, k1, l1, e1⟩ := hstep
    obtain ⟨i2, j2, k2, l2, e2⟩ := ih l1 (a + 1) (nestT T zs[a]) i1 j1 k1 (by omega) q1 q2 (by omega) (by omega) M (by omega)
    refine ⟨i2, j2, k2, l2, fun κ => ?_⟩
    rw [e1, e2, List.drop_eq_getElem_cons hal, List.foldl_cons]
theorem nest_all : ∀ (zs : List Nat) (T : Ty), T.wf → T.nms = [] → (zs.foldl nestT T).wf ∧ (zs.foldl nestT T).nms = [] ∧ (zs.foldl nestT T).dep = T.dep + zs.length ∧ (zs.foldl nestT T).txt.length ≤ T.txt.length + 12 * zs.length
  | [], T, h, hn => ⟨h, hn, rfl, Nat.le_refl _⟩
  | z :: zs, T, h, hn => by
    obtain ⟨q1, q2, q3, q4⟩ := nestT_ok h hn z
    obtain ⟨r1, r2, r3, r4⟩ := nest_all zs _ q1 q2
    rw [List.foldl_cons, List.length_cons]
    exact ⟨r1, r2, by omega, by omega⟩
theorem s8 (n : Nat) (hn : 300 < n) {F : FAW} (hF : Wf F) {v : FV} {zs : List Nat} (hv : Sl F v (zs.map FV.b)) : ∃ F', clU kindD (n + 41) 8 [v] F = .ok (.t true) F' := by
  rw [cl8, u8_in]
  obtain ⟨F1, e1, a1, b1⟩ := s20 n hF
  have hv1 := hv.stdn a1
  simp only [↓u8b, ↓seqU_eq, ↓condU_eq, ↓blockU_eq, ↓loopU_eq, ↓skipU_eq, ↓retU_eq, ↓m12_mk, ↓k12_mk, ↓u8_0, ↓u8_1, ↓u8_2, ↓u8_3, ↓u8_4, ↓u8_5, ↓u8_6, ↓u8_7, ↓u8_8, ↓exU_n, ↓exU_r, uCall_eq, e1, goOn_ok, uNot_t, Bool.not_true, eT_t, cn_false, hv1.len, List.length_map, uGtr_nn]
  by_cases h20 : 20 < zs.length
  · rw [decide_eq_true h20, cn_true]; exact ⟨F1, rfl⟩
  · rw [decide_eq_false h20, cn_false]
    let T0 : Ty := .wd [105, 51, 50]
    have w0 : T0.wf := ⟨goodP_dec (by decide), by decide, by decide⟩
    obtain ⟨i', j', k', l', e2⟩ := loop8 (n + 40) (n + 40) hv1 (by omega) (.t false) (.u []) (.t false) (.t false) (.u []) (.u []) zs.length 0 T0 (.u []) (.u []) (.u []) (by omega) w0 rfl rfl (by decide) (n + 40) (by omega)
    obtain ⟨r1, r2, r3, r4⟩ := nest_all zs T0 w0 rfl
    have e2' := fun κ => e2 κ
    simp only [List.drop_zero, show T0.txt = [105, 51, 50] from rfl] at e2'
    rw [e2']
    generalize zs.foldl nestT T0 = T at *
    have hd0 : T0.dep = 0 := rfl
    have ht0 : T0.txt.length = 3 := rfl
    have hb := T.txt_bs r1
    rw [exU_e, show Nat.beq 0 0 = true from rfl, cn_true]
    have hL : T.txt.length ≤ 1000000 := by omega
    by_cases h12 : 12 < zs.length
    · have re := read_deep r1 (by omega)
      have he : (readS T.txt).2.2.e ≠ 0 := by rw [re]; decide
      obtain ⟨F2, e2, a2, b2⟩ := s21_bad hb hL (n + 20) (by omega) b1 he
      obtain ⟨F3, e3, a3, b3⟩ := s25 hb hL (n + 20) (by omega) b2
      obtain ⟨F4, e4, a4, b4⟩ := s26 hb hL (n + 20) (by omega) b3
      rw [re] at e2
      rw [if_neg he] at e4
      rw [decide_eq_false he] at e3
      simp only [↓seqU_eq, ↓condU_eq, ↓skipU_eq, ↓retU_eq, ↓u8_21, ↓u8_22, ↓u8_23, ↓u8_24, ↓u8_25, ↓m12_mk, ↓k12_mk, ↓exU_n, ↓exU_r, uCall_eq, e2, goOn_ok, uExt_0, uExt_1, uExt_2, uExt_3, uExt_4, (hv1.stdn a2).len, List.length_map, uGtr_nn, decide_eq_true h12, eT_t, cn_true, uEq_nn, xo_f, decide_true, e3, uNot_t, Bool.not_false, e4]
      exact ⟨F4, rfl⟩
    · have re := read_in r1 (by omega)
      obtain ⟨F2, e2, a2, b2⟩ := s21_ok r1 (by omega) hb hL (n + 20) (by omega) b1
      obtain ⟨F3, e3, a3, b3⟩ := s25 hb hL (n + 20) (by omega) b2
      obtain ⟨F4, e4, a4, b4⟩ := s26 hb hL (n + 20) (by omega) b3
      obtain ⟨F5, v5, m5, e5, sl5, a5, b5⟩ := s23 hb hL (n + 20) (by omega) b4
      rw [re] at e3 e4 sl5
      simp only [if_true, decide_true] at e3 e4
      have hdz : T.dep = zs.length := by omega
      rw [hdz] at e4
      simp only [if_true, r2, List.map_nil] at sl5
      simp only [↓seqU_eq, ↓condU_eq, ↓skipU_eq, ↓retU_eq, ↓u8_21, ↓u8_22, ↓u8_23, ↓u8_24, ↓u8_25, ↓m12_mk, ↓k12_mk, ↓exU_n, ↓exU_r, uCall_eq, e2, goOn_ok, uExt_0, uExt_1, uExt_2, uExt_3, uExt_4, (hv1.stdn a2).len, (hv1.stdn (a2.none_trans (a3.none_trans a4))).len, List.length_map, uGtr_nn, decide_eq_false h12, eT_t, cn_true, cn_false, uEq_nn, xo_f, decide_true, e3, e4, e5, sl5.len, List.length_nil]
      exact ⟨F5, rfl⟩
end Go.Proofs.Ytgejdfhfgphcbaa.Ev
/- Kind: the law KindNames. -/
namespace Go.Proofs.Ytgejdfhfgphcbaa.Ev
open Go Go.RowKit
set_option linter.unusedVariables false
set_option linter.constructorNameAsVariable false
set_option linter.unusedSimpArgs false
set_option linter.unusedSectionVars false

/-- The names. -/
def nmT (j : Nat) : Ty := if j = 0 then .nm [97] [] else if j = 1 then .nm [98] [[67]] else if j = 2 then .nm [120, 95, 49] [] else .nm [100] [[101], [102]]
def nmsL : List (List Nat) := [[97], [98, 46, 67], [120, 95, 49], [100, 46, 101, 46, 102]]
theorem nmT_at {j : Nat} (h : j < 4) : nmsL[j]? = some (nmT j).txt := by
  match j, h with
  | 0, _ => rfl
  | 1, _ => rfl
  | 2, _ => rfl
  | 3, _ => rfl
/-- A name's text. -/
def isNm (q : List Nat) : Prop := ∃ p ps, q = (Ty.nm p ps).txt ∧ (Ty.nm p ps).wf ∧ q.length ≤ 10
theorem nmT_ok (j : Nat) : (nmT j).wf ∧ (nmT j).nms = [(nmT j).txt] ∧ (nmT j).dep = 0 ∧ (nmT j).txt.length ≤ 5 ∧ isNm (nmT j).txt := by
  have g1 : (Ty.nm [97] []).wf := ⟨goodP_dec (by decide), fun q hq => by simp at hq, by decide⟩
  have g2 : (Ty.nm [98] [[67]]).wf := ⟨goodP_dec (by decide), fun q hq => by simp at hq; subst hq; exact goodP_dec (by decide), by decide⟩
  have g3 : (Ty.nm [120, 95, 49] []).wf := ⟨goodP_dec (by decide), fun q hq => by simp at hq, by decide⟩
  have g4 : (Ty.nm [100] [[101], [102]]).wf := ⟨goodP_dec (by decide), fun q hq => by
    simp at hq
    rcases hq with rfl | rfl
    · exact goodP_dec (by decide)
    · exact goodP_dec (by decide), by decide⟩
  unfold nmT
  split
  · exact ⟨g1, rfl, rfl, by decide, _, _, rfl, g1, by decide⟩
  · split
    · exact ⟨g2, rfl, rfl, by decide, _, _, rfl, g2, by decide⟩
    · split
      · exact ⟨g3, rfl, rfl, by decide, _, _, rfl, g3, by decide⟩
      · exact ⟨g4, rfl, rfl, by decide, _, _, rfl, g4, by decide⟩
def stepT (T : Ty) (z : Nat) : Ty := if z / 4 % 3 = 0 then .l2 [109, 97, 112] (nmT (z % 4)) T else if z / 4 % 3 = 1 then .l2 [109, 97, 112] T (nmT (z % 4)) else .l1 [108, 105, 115, 116] T
theorem stepT_ok {T : Ty} (h : T.wf) (hn : ∀ q ∈ T.nms, isNm q) (z : Nat) : (stepT T z).wf ∧ (∀ q ∈ (stepT T z).nms, isNm q) ∧ (stepT T z).dep ≤ T.dep + 1 ∧ (stepT T z).txt.length ≤ T.txt.length + 11 ∧ (stepT T z).nms.length ≤ T.nms.length + 1 := by
  obtain ⟨n1, n2, n3, n4, n5⟩ := nmT_ok (z % 4)
  unfold stepT
  split
  · refine ⟨⟨goodP_dec (by decide), by decide, n1, h⟩, fun q hq => ?_, by simp [Ty.dep, n3], by simp [Ty.txt]; omega, by simp [Ty.nms, n2]⟩
    simp only [Ty.nms, n2, List.mem_append, List.mem_cons, List.not_mem_nil, or_false] at hq
    rcases hq with rfl | hq
    · exact n5
    · exact hn q hq
  · split
    · refine ⟨⟨goodP_dec (by decide), by decide, h, n1⟩, fun q hq => ?_, by simp [Ty.dep, n3], by simp [Ty.txt]; omega, by simp [Ty.nms, n2]⟩
      simp only [Ty.nms, n2, List.mem_append, List.mem_cons, List.not_mem_nil, or_false] at hq
      rcases hq with hq | rfl
      · exact hn q hq
      · exact n5
    · exact ⟨⟨goodP_dec (by decide), by decide, h⟩, hn, by simp [Ty.dep], by simp [Ty.txt], by simp [Ty.nms]⟩
/-- What stands in memory in the loop. -/
structure L10 (F : FAW) (v d f : FV) (zs : List Nat) (W : List (List Nat)) : Prop where
  wf : Wf F
  v : Sl F v (zs.map FV.b)
  d : Sl F d (nmsL.map FV.s)
  f : ∃ m, SlB F f 9 (W.map FV.s) m
theorem loop10 (n N : Nat) {v d : FV} {zs : List Nat} (hz : Bs zs) (hL : zs.length ≤ 4) (a1 i j k l m o p x19 y20 w21 : FV) : ∀ (r a : Nat) (T : Ty) (F : FAW) (f h q r' s t : FV), L10 F v d f zs T.nms → a + r = zs.length → T.wf → (∀ q ∈ T.nms, isNm q) → T.nms.length ≤ a → T.txt.length ≤ 2 + 11 * a → ∀ M, r < M →
    ∃ F' f' h' q' r'' s' t', (∀ κ : EX → W21 → FAW → RU, loopNU (u10_25 (clU kindD n) N) κ M (.mk v a1 d (.s T.txt) f (.n a) h i j k l m o p q r' s t x19 y20 w21) F = κ (.exit 0) (.mk v a1 d (.s ((zs.drop a).foldl stepT T).txt) f' (.n zs.length) h' i j k l m o p q' r'' s' t' x19 y20 w21) F') ∧ L10 F' v d f' zs ((zs.drop a).foldl stepT T).nms := by
  intro r
  induction r with
  | zero =>
    intro a T F f h q r' s t hF ha hT hn hd ht M hM
    obtain ⟨M, rfl⟩ : ∃ M', M = M' + 1 := ⟨M - 1, by omega⟩
    have ha : a = zs.length := by omega
    subst ha
    rw [List.drop_length, List.foldl_nil]
    refine ⟨F, f, h, .t false, r', s, t, fun κ => ?_, hF⟩
    rw [loopNU_succ]
    simp only [↓u10_25, ↓seqU_eq, ↓condU_eq, ↓exitU_eq, ↓u10_11, ↓u10_12, ↓m21_mk, ↓k21_mk, ↓exU_n, ↓exU_e, hF.v.len, List.length_map, uLss_nn, Nat.lt_irrefl, decide_false, eT_t, cn_false]
  | succ r ih =>
    intro a T F f h q r' s t hF ha hT hn hd ht M hM
    obtain ⟨M, rfl⟩ : ∃ M', M = M' + 1 := ⟨M - 1, by omega⟩
    have hal : a < zs.length := by omega
    have hza : zs[a]? = some zs[a] := List.getElem?_eq_getElem hal
    obtain ⟨q1, q2, q3, q4, q5⟩ := stepT_ok hT hn zs[a]
    obtain ⟨n1, n2, n3, n4, n5⟩ := nmT_ok (zs[a] % 4)
    have hm4 : zs[a] % 4 < 4 := Nat.mod_lt _ (by decide)
    have hnm : (nmsL.map FV.s)[zs[a] % 4]? = some (.s (nmT (zs[a] % 4)).txt) := by rw [List.getElem?_map, nmT_at hm4]; rfl
    have h256 := hz _ (List.mem_of_getElem? hza)
    have hstep : ∃ F' f' h' q' r'' s' t', (∀ κ : EX → W21 → FAW → RU, loopNU (u10_25 (clU kindD n) N) κ (M + 1) (.mk v a1 d (.s T.txt) f (.n a) h i j k l m o p q r' s t x19 y20 w21) F = loopNU (u10_25 (clU kindD n) N) κ M (.mk v a1 d (.s (stepT T zs[a]).txt) f' (.n (a + 1)) h' i j k l m o p q' r'' s' t' x19 y20 w21) F') ∧ L10 F' v d f' zs (stepT T zs[a]).nms := by
      have pre : ∀ (κ : EX → W21 → FAW → RU) (st : W21) (F' : FAW), (∀ rec : W21 → FAW → RU, (u10_25 (clU kindD n) N) (.mk v a1 d (.s T.txt) f (.n a) h i j k l m o p q r' s t x19 y20 w21) F (fun o v F => exU o (rec v F) (fun i => κ (.exit i) v F) (κ .ret v F)) = rec st F') → loopNU (u10_25 (clU kindD n) N) κ (M + 1) (.mk v a1 d (.s T.txt) f (.n a) h i j k l m o p q r' s t x19 y20 w21) F = loopNU (u10_25 (clU kindD n) N) κ M st F' := fun κ st F' h => by rw [loopNU_succ]; exact h _
      obtain ⟨mf, hf⟩ := hF.f
      have g1 : ∀ f : KU, (uIad 1 v (.n a) F fun v0 S => uLd none v0 S f) = f (.b zs[a]) F := fun f => hF.v.get (by rw [List.getElem?_map, hza]; rfl) (Fi.b _) f
      have g2 : ∀ f : KU, (uIad 1 d (.b (zs[a] % 4)) F fun v0 S => uLd none v0 S f) = f (.s (nmT (zs[a] % 4)).txt) F := fun f => hF.d.getb hnm (Fi.s _) f
      have hfs : ∀ c ∈ T.nms.map FV.s, Fi c := fun c hc => by
        obtain ⟨y, _, rfl⟩ := List.mem_map.mp hc
        exact Fi.s y
      have p1 : ∀ (G : FAW) (f : KU), uAdd (.s [109, 97, 112, 60]) (.s (nmT (zs[a] % 4)).txt) G f = f (.s ([109, 97, 112, 60] ++ (nmT (zs[a] % 4)).txt)) G := fun G f => uAdd_ss _ _ (by simp; omega)
      have p2 : ∀ (G : FAW) (f : KU), uAdd (.s ([109, 97, 112, 60] ++ (nmT (zs[a] % 4)).txt)) (.s [44]) G f = f (.s ([109, 97, 112, 60] ++ (nmT (zs[a] % 4)).txt ++ [44])) G := fun G f => uAdd_ss _ _ (by simp; omega)
      have p3 : ∀ (G : FAW) (f : KU), uAdd (.s ([109, 97, 112, 60] ++ (nmT (zs[a] % 4)).txt ++ [44])) (.s T.txt) G f = f (.s ([109, 97, 112, 60] ++ (nmT (zs[a] % 4)).txt ++ [44] ++ T.txt)) G := fun G f => uAdd_ss _ _ (by simp; omega)
      have p4 : ∀ (G : FAW) (f : KU), uAdd (.s ([109, 97, 112, 60] ++ (nmT (zs[a] % 4)).txt ++ [44] ++ T.txt)) (.s [62]) G f = f (.s ([109, 97, 112, 60] ++ (nmT (zs[a] % 4)).txt ++ [44] ++ T.txt ++ [62])) G := fun G f => uAdd_ss _ _ (by simp; omega)
      have r1 : ∀ (G : FAW) (f : KU), uAdd (.s [109, 97, 112, 60]) (.s T.txt) G f = f (.s ([109, 97, 112, 60] ++ T.txt)) G := fun G f => uAdd_ss _ _ (by simp; omega)
      have r2 : ∀ (G : FAW) (f : KU), uAdd (.s ([109, 97, 112, 60] ++ T.txt)) (.s [44]) G f = f (.s ([109, 97, 112, 60] ++ T.txt ++ [44])) G := fun G f => uAdd_ss _ _ (by simp; omega)
      have r3 : ∀ (G : FAW) (f : KU), uAdd (.s ([109, 97, 112, 60] ++ T.txt ++ [44])) (.s (nmT (zs[a] % 4)).txt) G f = f (.s ([109, 97, 112, 60] ++ T.txt ++ [44] ++ (nmT (zs[a] % 4)).txt)) G := fun G f => uAdd_ss _ _ (by simp; omega)
      have r4 : ∀ (G : FAW) (f : KU), uAdd (.s ([109, 97, 112, 60] ++ T.txt ++ [44] ++ (nmT (zs[a] % 4)).txt)) (.s [62]) G f = f (.s ([109, 97, 112, 60] ++ T.txt ++ [44] ++ (nmT (zs[a] % 4)).txt ++ [62])) G := fun G f => uAdd_ss _ _ (by simp; omega)
      have t1 : ∀ (G : FAW) (f : KU), uAdd (.s [108, 105, 115, 116, 60]) (.s T.txt) G f = f (.s ([108, 105, 115, 116, 60] ++ T.txt)) G := fun G f => uAdd_ss _ _ (by simp; omega)
      have t2 : ∀ (G : FAW) (f : KU), uAdd (.s ([108, 105, 115, 116, 60] ++ T.txt)) (.s [62]) G f = f (.s ([108, 105, 115, 116, 60] ++ T.txt ++ [62])) G := fun G f => uAdd_ss _ _ (by simp; omega)
      by_cases h0 : zs[a] / 4 % 3 = 0
      · have lit : SlB _ (.l F.x 0 1 1) 9 _ F.x := lit_new hF.wf [FV.s (nmT (zs[a] % 4)).txt] 9 (by simp)
        have w1 := hF.wf.new [FV.s (nmT (zs[a] % 4)).txt] 9 1
        have st1 := Std.new hF.wf [FV.s (nmT (zs[a] % 4)).txt] 9 1 (fun _ => False) (fun _ => False)
        have hf1 := hf.sl.stdn st1
        obtain ⟨v', F', m', e1, s1, st2, w2, _⟩ := app_many w1 lit (fun c hc => by simp at hc; subst hc; exact Fi.s _) (hf1.src fun c hc => by
            obtain ⟨y, _, rfl⟩ := List.mem_map.mp hc
            exact Fi.s y) (fun c hc => by
            obtain ⟨y, _, rfl⟩ := List.mem_map.mp hc
            exact Fi.s y) (bytes := 16) (by simp; omega) (by simp; omega)
        refine ⟨F', v', .s (nmT (zs[a] % 4)).txt, .t true, .b (zs[a] / 4 % 3), .t (decide (zs[a] / 4 % 3 = 0)), t, fun κ => pre κ _ _ fun rec => ?_, ⟨w2, (hF.v.stdn st1).stdn st2, (hF.d.stdn st1).stdn st2, m', ?_⟩⟩
        · simp only [↓u10_25, ↓seqU_eq, ↓condU_eq, ↓blockU_eq, ↓skipU_eq, ↓exitU_eq, ↓u10_11, ↓u10_12, ↓u10_13, ↓u10_14, ↓u10_15, ↓u10_16, ↓u10_17, ↓u10_18, ↓u10_19, ↓u10_20, ↓u10_21, ↓u10_22, ↓u10_23, ↓u10_24, ↓m21_mk, ↓k21_mk, ↓exU_n, ↓exU_e, ↓hF.v.len, List.length_map, ↓uLss_nn, decide_eq_true hal, ↓eT_t, ↓cn_true, ↓cn_false, ↓g1, ↓g2, ↓uRem_bb _ _ _ (show 4 ≠ 0 by decide), ↓uRem_bb _ _ _ (show 3 ≠ 0 by decide), ↓uDiv_bb _ _ _ h256 (show 4 ≠ 0 by decide), ↓uEq_bb, xo_f, uAdd_nn _ _ (show a + 1 ≤ 9223372036854775807 by omega), decide_eq_true h0, ↓p1, ↓p2, ↓p3, ↓p4, ↓uLit1 _ _ (Fi.s _) (Fi.s _), ↓e1]
          unfold stepT
          rw [if_pos h0]
          simp only [Ty.txt, List.append_assoc, List.cons_append, List.nil_append]
        · unfold stepT
          rw [if_pos h0]
          simpa [Ty.nms, n2] using s1
      · by_cases h1 : zs[a] / 4 % 3 = 1
        · have w1 := hF.wf.new [FV.s (nmT (zs[a] % 4)).txt] 9 1
          have st1 := Std.new hF.wf [FV.s (nmT (zs[a] % 4)).txt] 9 1 (fun _ => False) (fun _ => False)
          have hf1 : SlB (F.new [FV.s (nmT (zs[a] % 4)).txt] 9 1) f 9 (T.nms.map FV.s) mf := hf.std st1 (fun _ _ _ h => h) (fun _ h => h)
          obtain ⟨v', F', m', e1, s1, st2, w2, _⟩ := app_one w1 hf1 hfs (Fi.s (nmT (zs[a] % 4)).txt) (j := F.x) (by rw [row_new, if_pos rfl]) (bytes := 16) (by simp; omega) (by simp; omega)
          refine ⟨F', v', .s (nmT (zs[a] % 4)).txt, .t true, .b (zs[a] / 4 % 3), .t (decide (zs[a] / 4 % 3 = 0)), .t (decide (zs[a] / 4 % 3 = 1)), fun κ => pre κ _ _ fun rec => ?_, ⟨w2, (hF.v.stdn st1).stdn st2, (hF.d.stdn st1).stdn st2, m', ?_⟩⟩
          · simp only [↓u10_25, ↓seqU_eq, ↓condU_eq, ↓blockU_eq, ↓skipU_eq, ↓exitU_eq, ↓u10_11, ↓u10_12, ↓u10_13, ↓u10_14, ↓u10_15, ↓u10_16, ↓u10_17, ↓u10_18, ↓u10_19, ↓u10_20, ↓u10_21, ↓u10_22, ↓u10_23, ↓u10_24, ↓m21_mk, ↓k21_mk, ↓exU_n, ↓exU_e, ↓hF.v.len, List.length_map, ↓uLss_nn, decide_eq_true hal, ↓eT_t, ↓cn_true, ↓cn_false, ↓g1, ↓g2, ↓uRem_bb _ _ _ (show 4 ≠ 0 by decide), ↓uRem_bb _ _ _ (show 3 ≠ 0 by decide), ↓uDiv_bb _ _ _ h256 (show 4 ≠ 0 by decide), ↓uEq_bb, xo_f, uAdd_nn _ _ (show a + 1 ≤ 9223372036854775807 by omega), decide_eq_false h0, decide_eq_true h1, ↓r1, ↓r2, ↓r3, ↓r4, ↓uLit1 _ _ (Fi.s _) (Fi.s _), ↓e1]
            unfold stepT
            rw [if_neg h0, if_pos h1]
            simp only [Ty.txt, List.append_assoc, List.cons_append, List.nil_append]
          · unfold stepT
            rw [if_neg h0, if_pos h1]
            simpa [Ty.nms, n2] using s1
        · refine ⟨F, f, .s (nmT (zs[a] % 4)).txt, .t true, .b (zs[a] / 4 % 3), .t (decide (zs[a] / 4 % 3 = 0)), .t (decide (zs[a] / 4 % 3 = 1)), fun κ => pre κ _ _ fun rec => ?_, ⟨hF.wf, hF.v, hF.d, mf, ?_⟩⟩
          · simp only [↓u10_25, ↓seqU_eq, ↓condU_eq, ↓blockU_eq, ↓skipU_eq, ↓exitU_eq, ↓u10_11, ↓u10_12, ↓u10_13, ↓u10_14, ↓u10_15, ↓u10_16, ↓u10_17, ↓u10_18, ↓u10_19, ↓u10_20, ↓u10_21, ↓u10_22, ↓u10_23, ↓u10_24, ↓m21_mk, ↓k21_mk, ↓exU_n, ↓exU_e, ↓hF.v.len, List.length_map, ↓uLss_nn, decide_eq_true hal, ↓eT_t, ↓cn_true, ↓cn_false, ↓g1, ↓g2, ↓uRem_bb _ _ _ (show 4 ≠ 0 by decide), ↓uRem_bb _ _ _ (show 3 ≠ 0 by decide), ↓uDiv_bb _ _ _ h256 (show 4 ≠ 0 by decide), ↓uEq_bb, xo_f, uAdd_nn _ _ (show a + 1 ≤ 9223372036854775807 by omega), decide_eq_false h0, decide_eq_false h1, ↓t1, ↓t2]
            unfold stepT
            rw [if_neg h0, if_neg h1]
            simp only [Ty.txt, List.append_assoc, List.cons_append, List.nil_append]
          · unfold stepT
            rw [if_neg h0, if_neg h1]
            exact hf
    obtain ⟨F1, f1, h1, r1, s1, t1, x1, e1, l1⟩ := hstep
    obtain ⟨F2, f2, h2, r2, s2, t2, x2, e2, l2⟩ := ih (a + 1) (stepT T zs[a]) F1 f1 h1 r1 s1 t1 x1 l1 (by omega) q1 q2 (by omega) (by omega) M (by omega)
    refine ⟨F2, f2, h2, r2, s2, t2, x2, fun κ => ?_, ?_⟩
    · rw [e1, e2, List.drop_eq_getElem_cons hal, List.foldl_cons]
    · rw [List.drop_eq_getElem_cons hal, List.foldl_cons]; exact l2
theorem loop10b (n N : Nat) (hn : 20 < n) {i f : FV} {W : List (List Nat)} (hW : ∀ q ∈ W, isNm q) (hL : W.length ≤ 4) (a c d e g h o p q r s t w : FV) : ∀ (rr j : Nat) (F : FAW) (k l m x y : FV), Wf F → Sl F i (W.map FV.s) → Sl F f (W.map FV.s) → j + rr = W.length → ∀ M, rr < M →
    ∃ F' k' l' m' x' y', ∀ κ : EX → W21 → FAW → RU, loopNU (u10_38 (clU kindD (n + 20)) N) κ M (.mk a c d e f g h i (.n j) k l m o p q r s t w x y) F = κ (.exit 3) (.mk a c d e f g h i (.n W.length) k' l' m' o p q r s t w x' y') F' := by
  intro rr
  induction rr with
  | zero =>
    intro j F k l m x y hF hi hf hj M hM
    obtain ⟨M, rfl⟩ : ∃ M', M = M' + 1 := ⟨M - 1, by omega⟩
    have hj : j = W.length := by omega
    subst hj
    refine ⟨F, k, l, m, .t false, y, fun κ => ?_⟩
    rw [loopNU_succ]
    simp only [↓u10_38, ↓seqU_eq, ↓condU_eq, ↓exitU_eq, ↓u10_31, ↓u10_32, ↓m21_mk, ↓k21_mk, ↓exU_n, ↓exU_e, hf.len, List.length_map, uLss_nn, Nat.lt_irrefl, decide_false, eT_t, cn_false]
  | succ rr ih =>
    intro j F k l m x y hF hi hf hj M hM
    obtain ⟨M, rfl⟩ : ∃ M', M = M' + 1 := ⟨M - 1, by omega⟩
    have hjl : j < W.length := by omega
    have hwj : W[j]? = some W[j] := List.getElem?_eq_getElem hjl
    obtain ⟨pp, ps, hq, hwf, hlen⟩ := hW W[j] (List.mem_of_getElem? hwj)
    have hb : Bs W[j] := by rw [hq]; exact Ty.txt_bs _ hwf
    obtain ⟨F1, e1, a1, b1⟩ := s21_ok hwf (Nat.zero_le _) (Ty.txt_bs _ hwf) (by rw [← hq]; omega) n (by rw [← hq]; omega) hF
    have e1' : clU kindD (n + 20) 21 [.s W[j]] F = .ok (.u [.n 0, .s W[j], .s [], .s [], .n 0]) F1 := by rw [hq]; exact e1
    have hi1 := hi.stdn a1
    have hf1 := hf.stdn a1
    obtain ⟨F2, k2, l2, m2, x2, y2, e2⟩ := ih (j + 1) F1 (.n 0) (.s W[j]) (.n 0) (.t true) (.t false) b1 hi1 hf1 (by omega) M (by omega)
    refine ⟨F2, k2, l2, m2, x2, y2, fun κ => ?_⟩
    have hget : (W.map FV.s)[j]? = some (.s W[j]) := by rw [List.getElem?_map, hwj]; rfl
    have g0 : ∀ f' : KU, (uIad 1 i (.n j) F fun v0 S => uLd none v0 S f') = f' (.s W[j]) F := fun f' => hi.get hget (Fi.s _) f'
    have g1 : ∀ f' : KU, (uIad 1 i (.n j) F1 fun v0 S => uLd none v0 S f') = f' (.s W[j]) F1 := fun f' => hi1.get hget (Fi.s _) f'
    have g2 : ∀ f' : KU, (uIad 1 f (.n j) F1 fun v0 S => uLd none v0 S f') = f' (.s W[j]) F1 := fun f' => hf1.get hget (Fi.s _) f'
    rw [loopNU_succ]
    have ih2 := e2 κ
    generalize loopNU (u10_38 (clU kindD (n + 20)) N) κ M = rec at ih2 ⊢
    simp only [↓u10_38, ↓seqU_eq, ↓condU_eq, ↓blockU_eq, ↓skipU_eq, ↓exitU_eq, ↓u10_31, ↓u10_32, ↓u10_33, ↓u10_34, ↓u10_35, ↓u10_37, ↓m21_mk, ↓k21_mk, ↓exU_n, ↓exU_e, ↓hf.len, List.length_map, ↓uLss_nn, decide_eq_true hjl, ↓eT_t, ↓cn_true, ↓cn_false, ↓g0, ↓g1, ↓g2, ↓uCall_eq, ↓e1', ↓goOn_ok, ↓uExt_0, ↓uExt_1, ↓uExt_2, ↓uExt_3, ↓uExt_4, ↓uEq_ss _ _ _ _ hb hb, decide_true, xo_t, Bool.not_true, ↓uEq_nn, uAdd_nn _ _ (show j + 1 ≤ 9223372036854775807 by omega)]
    exact ih2
theorem step_all : ∀ (zs : List Nat) (T : Ty), T.wf → (∀ q ∈ T.nms, isNm q) → (zs.foldl stepT T).wf ∧ (∀ q ∈ (zs.foldl stepT T).nms, isNm q) ∧ (zs.foldl stepT T).dep ≤ T.dep + zs.length ∧ (zs.foldl stepT T).txt.length ≤ T.txt.length + 11 * zs.length ∧ (zs.foldl stepT T).nms.length ≤ T.nms.length + zs.length
  | [], T, h, hn => ⟨h, hn, Nat.le_refl _, Nat.le_refl _, Nat.le_refl _⟩
  | z :: zs, T, h, hn => by
    obtain ⟨q1, q2, q3, q4, q5⟩ := stepT_ok h hn z
    obtain ⟨r1, r2, r3, r4, r5⟩ := step_all zs _ q1 q2
    rw [List.foldl_cons, List.length_cons]
    exact ⟨r1, r2, by omega, by omega, by omega⟩
theorem s10 (n : Nat) (hn : 300 < n) {F : FAW} (hF : Wf F) {v : FV} {zs : List Nat} (hz : Bs zs) (hv : Sl F v (zs.map FV.b)) : ∃ F', clU kindD (n + 41) 10 [v] F = .ok (.t true) F' := by
  rw [cl10, u10_in]
  obtain ⟨F1, e1, a1, b1⟩ := s20 n hF
  have hv1 := hv.stdn a1
  have elit : ∀ f : KU, uLitF 9 1 [(.s [])] 4 [(0, 1, (.s [97])), (1, 1, (.s [98, 46, 67])), (2, 1, (.s [120, 95, 49])), (3, 1, (.s [100, 46, 101, 46, 102]))] F1 f = f (.l F1.x 0 4 4) (F1.new (nmsL.map FV.s) 9 1) := fun f => by
    have e : uLitF 9 1 [(.s [])] 4 [(0, 1, (.s [97])), (1, 1, (.s [98, 46, 67])), (2, 1, (.s [120, 95, 49])), (3, 1, (.s [100, 46, 101, 46, 102]))] F1 f = newU (nmsL.map FV.s) 9 1 F1 fun i F' => f (.l i 0 4 4) F' := rfl
    rw [e, newU_new]
  have st2 := Std.new b1 (nmsL.map FV.s) 9 1 (fun _ => False) (fun _ => False)
  have w2 := b1.new (nmsL.map FV.s) 9 1
  have hd2 : SlB (F1.new (nmsL.map FV.s) 9 1) (.l F1.x 0 4 4) 9 (nmsL.map FV.s) F1.x := lit_new b1 (nmsL.map FV.s) 9 (by decide)
  simp only [↓u10b_s, ↓u10bt1_s, ↓u10bt2_s, ↓seqU_eq, ↓condU_eq, ↓skipU_eq, ↓retU_eq, ↓m21_mk, ↓k21_mk, ↓u10_0, ↓u10_1, ↓u10_2, ↓u10_3, ↓u10_4, ↓u10_5, ↓u10_6, ↓exU_n, ↓exU_r, ↓uCall_eq, ↓e1, ↓goOn_ok, ↓uNot_t, Bool.not_true, ↓eT_t, ↓cn_false, ↓hv1.len, List.length_map, ↓uGtr_nn]
  by_cases h4 : 4 < zs.length
  · rw [decide_eq_true h4, cn_true]; exact ⟨F1, rfl⟩
  · rw [decide_eq_false h4, cn_false]
    simp only [↓u10bt3_s, ↓u10bt4_s, ↓u10bt5_s, ↓u10bt6_s, ↓seqU_eq, ↓blockU_eq, ↓loopU_eq, ↓m21_mk, ↓u10_7, ↓u10_8, ↓u10_9, ↓u10_10, ↓exU_n, ↓elit]
    have w0 : (Ty.wd [105, 56]).wf := ⟨goodP_dec (by decide), by decide, by decide⟩
    obtain ⟨F3, f3, h3, q3, r3, s3, t3, e3, l3⟩ := loop10 (v := v) (d := .l F1.x 0 4 4) (n + 40) (n + 40) hz (by omega) (.t false) (.u []) (.u []) (.u []) (.u []) (.u []) (.t false) (.t false) (.u []) (.u []) (.u []) zs.length 0 (.wd [105, 56]) (F1.new (nmsL.map FV.s) 9 1) .nl (.u []) (.u []) (.u []) (.u []) (.u []) ⟨w2, hv1.stdn st2, hd2.sl, 0, .inl ⟨rfl, rfl⟩⟩ (by omega) w0 (fun q hq => by cases hq) (Nat.le_refl _) (by decide) (n + 40) (by omega)
    obtain ⟨t1, t2, t5, t4, t6⟩ := step_all zs (.wd [105, 56]) w0 (fun q hq => by cases hq)
    have e3' := fun κ => e3 κ
    simp only [List.drop_zero, show (Ty.wd [105, 56]).txt = [105, 56] from rfl] at e3' l3
    rw [e3', exU_e, show Nat.beq 0 0 = true from rfl, cn_true]
    generalize zs.foldl stepT (.wd [105, 56]) = T at *
    have hd0 : (Ty.wd [105, 56]).dep = 0 := rfl
    have ht0 : (Ty.wd [105, 56]).txt.length = 2 := rfl
    have hn0 : (Ty.wd [105, 56]).nms.length = 0 := rfl
    obtain ⟨mf, hf⟩ := l3.f
    have hb := T.txt_bs t1
    obtain ⟨F5, v5, m5, e5, sl5, a5, b5⟩ := s23 hb (by omega) (n + 20) (by omega) l3.wf
    have re := read_in t1 (by omega)
    rw [re] at sl5
    simp only [if_true] at sl5
    have hf5 : Sl F5 f3 (T.nms.map FV.s) := hf.sl.stdn a5
    simp only [↓u10bt7_s, ↓seqU_eq, ↓m21_mk, ↓u10_26, ↓exU_n, ↓uCall_eq, ↓e5, ↓goOn_ok]
    simp only [↓u10bt8_s, ↓seqU_eq, ↓condU_eq, ↓skipU_eq, ↓m21_mk, ↓k21_mk, ↓u10_27, ↓u10_28, ↓exU_n, ↓sl5.len, ↓hf5.len, List.length_map, ↓uEq_nn, decide_true, xo_t, Bool.not_true, ↓eT_t, ↓cn_false]
    simp only [↓u10bt9_s, ↓seqU_eq, ↓blockU_eq, ↓loopU_eq, ↓m21_mk, ↓u10_30, ↓exU_n]
    obtain ⟨F6, k6, l6, m6, x6, y6, e6⟩ := loop10b (n + 20) (n + 40) (by omega) (i := v5) (f := f3) t2 (by omega) v (.t false) (.l F1.x 0 4 4) (.s T.txt) (.n zs.length) h3 (.t false) (.t false) q3 r3 s3 t3 (.t false) T.nms.length 0 F5 (.u []) (.u []) (.u []) (.u []) (.u []) b5 sl5.sl hf5 (by omega) (n + 40) (by omega)
    rw [e6, exU_e, show Nat.beq 3 3 = true from rfl, cn_true]
    exact ⟨F6, rfl⟩
end Go.Proofs.Ytgejdfhfgphcbaa.Ev
/- Kind: the document's types in a plain form; what it reads is what the program reads. No program in sight. -/
namespace Go.Proofs.Ytgejdfhfgphcbaa.Ev
open Go Go.RowKit
set_option linter.unusedVariables false
set_option linter.constructorNameAsVariable false
set_option linter.unusedSimpArgs false
set_option linter.unusedSectionVars false

def isNb (b : Nat) : Bool := isIn b || decide (b = 46)
def farG : Bool → List Nat → Bool
  | d, [] => !d
  | d, c :: r => (!d || isLet c) && farG (decide (c = 46)) r
def runL (m : List Nat) : List Nat := m.takeWhile isNb
theorem isLet_46 : isLet 46 = false := rfl
theorem isIn_46 : isIn 46 = false := rfl
theorem farG_in : ∀ {p m : List Nat}, p.all isIn = true → farG false (p ++ m) = farG false m
  | [], m, _ => rfl
  | c :: p, m, h => by
    simp only [List.all_cons, Bool.and_eq_true] at h
    have hc : ¬ c = 46 := by rintro rfl; have := h.1; rw [isIn_46] at this; cases this
    show ((!false || isLet c) && farG (decide (c = 46)) (p ++ m)) = farG false m
    rw [decide_eq_false hc, farG_in h.2]; rfl
theorem farG_good {p m : List Nat} (h : goodP p) : farG true (p ++ m) = farG false m := by
  obtain ⟨c, r, rfl, h1, h2⟩ := h
  have hc : ¬ c = 46 := by rintro rfl; rw [isLet_46] at h1; cases h1
  show ((!true || isLet c) && farG (decide (c = 46)) (r ++ m)) = farG false m
  rw [decide_eq_false hc, farG_in h2, h1]; rfl
theorem farG_flat {m : List Nat} : ∀ {ps : List (List Nat)}, (∀ p ∈ ps, goodP p) → farG false (flatP ps ++ m) = farG false m
  | [], _ => rfl
  | p :: ps, h => by
    rw [flatP_cons, List.cons_append, List.append_assoc]
    have e : farG false (46 :: (p ++ (flatP ps ++ m))) = farG true (p ++ (flatP ps ++ m)) := rfl
    rw [e, farG_good (h p (by simp)), farG_flat (fun q hq => h q (by simp [hq]))]
theorem runL_in {p m : List Nat} (h : p.all isNb = true) : runL (p ++ m) = p ++ runL m := by
  unfold runL
  induction p with
  | nil => rfl
  | cons c p ih =>
    simp only [List.all_cons, Bool.and_eq_true] at h
    rw [List.cons_append, List.takeWhile_cons, h.1]
    simp [ih h.2]
theorem nb_of_in {p : List Nat} (h : p.all isIn = true) : p.all isNb = true := by
  rw [List.all_eq_true] at h ⊢
  intro x hx
  unfold isNb; rw [h x hx]; rfl
theorem nb_flat : ∀ {ps : List (List Nat)}, (∀ p ∈ ps, goodP p) → (flatP ps).all isNb = true
  | [], _ => rfl
  | p :: ps, h => by
    rw [flatP_cons]
    simp only [List.all_cons, List.all_append, Bool.and_eq_true]
    exact ⟨rfl, nb_of_in (h p (by simp)).all, nb_flat (fun q hq => h q (by simp [hq]))⟩
theorem runL_stop {m : List Nat} (h : stopd m) : runL m = [] := by
  cases m with
  | nil => rfl
  | cons b m =>
    have := h b rfl
    unfold runL
    rw [List.takeWhile_cons]
    have hb : isNb b = false := by unfold isNb; rw [this.1, decide_eq_false this.2]; rfl
    rw [hb]; rfl
/-- Where no part of a name follows a full stop. -/
theorem rs_bad {l : List Nat} : ∀ (k a a' e' : Nat), rs l k a 0 = (a', e') → e' ≠ 0 → e' = 2 ∧ ∃ ps m, (∀ p ∈ ps, goodP p) ∧ l.drop a = flatP ps ++ 46 :: m ∧ (∀ b, m.head? = some b → isLet b = false)
  | 0, a, a', e', h, he => by
    simp only [rs, Prod.mk.injEq] at h
    exact absurd h.2.symm he
  | k + 1, a, a', e', h, he => by
    unfold rs at h
    by_cases hc : (0:Nat) = 0 ∧ l[a]? = some 46
    · rw [if_pos hc] at h
      have hx := List.getElem?_eq_some_iff.mp hc.2
      obtain ⟨hlt, hb2⟩ := hx
      have hd : l.drop a = 46 :: l.drop (a + 1) := by rw [List.drop_eq_getElem_cons hlt, hb2]
      by_cases hl : noLet l (a + 1) = true
      · rw [hl, fl_t, rs_2 l _ _ 2 (by decide)] at h
        simp only [Prod.mk.injEq] at h
        refine ⟨h.2.symm, [], l.drop (a + 1), by simp, by rw [hd]; rfl, fun b hb => ?_⟩
        rw [List.head?_drop] at hb
        unfold noLet at hl
        rw [hb] at hl
        simpa using hl
      · have hl : noLet l (a + 1) = false := by simpa using hl
        obtain ⟨p, h1, h2, h3, h4⟩ := part_out hl
        rw [hl, fl_f, h3] at h
        obtain ⟨g1, ps, m, g2, g3, g4⟩ := rs_bad k _ _ _ h he
        refine ⟨g1, p :: ps, m, fun q hq => ?_, ?_, g4⟩
        · rcases List.mem_cons.mp hq with rfl | hq
          · exact h1
          · exact g2 q hq
        · rw [hd, h2, g3, flatP_cons]; simp
    · rw [if_neg hc] at h
      simp only [Prod.mk.injEq] at h
      exact absurd h.2.symm he
theorem farG_stop {m : List Nat} (h : ∀ b, m.head? = some b → isLet b = false) : farG true (runL m) = false := by
  cases m with
  | nil => rfl
  | cons b m =>
    have hb := h b rfl
    unfold runL
    rw [List.takeWhile_cons]
    split
    · unfold farG; rw [hb]; rfl
    · rfl
/-- What the program reads as a name, and what the reference does. -/
theorem name_same {l : List Nat} {a : Nat} :
    (noLet l a = true ∧ farG true (runL (l.drop a)) = false) ∨
    (noLet l a = false ∧ ∃ p, goodP p ∧ ptA l a 0 = a + p.length ∧
      (((rs l (l.length + 2) (a + p.length) 0).2 = 2 ∧ farG true (runL (l.drop a)) = false) ∨
       ∃ ps, (∀ q ∈ ps, goodP q) ∧ rs l (l.length + 2) (a + p.length) 0 = (a + (p ++ flatP ps).length, 0) ∧ runL (l.drop a) = p ++ flatP ps ∧ farG true (runL (l.drop a)) = true ∧ l.drop a = (p ++ flatP ps) ++ l.drop (a + (p ++ flatP ps).length) ∧ stopd (l.drop (a + (p ++ flatP ps).length)))) := by
  by_cases hl : noLet l a = true
  · refine .inl ⟨hl, farG_stop fun b hb => ?_⟩
    rw [List.head?_drop] at hb
    unfold noLet at hl
    rw [hb] at hl
    simpa using hl
  · have hl : noLet l a = false := by simpa using hl
    obtain ⟨p, h1, h2, h3, h4⟩ := part_out hl
    refine .inr ⟨hl, p, h1, h3, ?_⟩
    cases hr : rs l (l.length + 2) (a + p.length) 0 with
    | mk a' e' =>
      by_cases he : e' = 0
      · subst he
        obtain ⟨ps, k1, k2, k3, k4⟩ := rs_out (l.length + 2) (a + p.length) a' (by omega) hr h4
        have e5 : a' = a + (p ++ flatP ps).length := by rw [k3]; simp; omega
        subst e5
        have e6 : l.drop a = (p ++ flatP ps) ++ l.drop (a + (p ++ flatP ps).length) := by rw [List.append_assoc, ← k2]; exact h2
        have e7 : runL (l.drop a) = p ++ flatP ps := by
          rw [e6, runL_in, runL_stop k4, List.append_nil]
          rw [List.all_append, nb_of_in h1.all, nb_flat k1]; rfl
        refine .inr ⟨ps, k1, rfl, e7, ?_, e6, k4⟩
        rw [e7, farG_good h1]
        have := farG_flat (m := []) k1
        rw [List.append_nil] at this
        rw [this]; rfl
      · obtain ⟨g1, ps, m, g2, g3, g4⟩ := rs_bad _ _ _ _ hr he
        refine .inl ⟨g1, ?_⟩
        rw [h2, g3, runL_in (nb_of_in h1.all), farG_good h1, runL_in (nb_flat g2), farG_flat g2]
        have e : runL (46 :: m) = 46 :: runL m := rfl
        rw [e]
        show farG true (runL m) = false
        exact farG_stop g4

/-- The reference's type: its name's end is told by the run; what it is, where it ends, its error. -/
structure NdS where
  k : Nat
  name : List Nat
  pa : List Nat
  pb : List Nat
def firstS : List Nat → List Nat := fun s => s.takeWhile fun b => !decide (b = 46)
/-- A sign is read by the reference: where one stands, the error. -/
def rsg (l : List Nat) (c i : Nat) : Nat × Nat := if l[i]? = some c then (i + 1, 0) else (i, 2)
/-- A part: its text, where it ends, the error. -/
def partR (node : Nat → NdS × Nat × Nat) (l : List Nat) (c i : Nat) : List Nat × Nat × Nat :=
  if (rsg l c i).2 = 0 then ((l.drop (rsg l c i).1).take ((node (rsg l c i).1).2.1 - (rsg l c i).1), (node (rsg l c i).1).2.1, (node (rsg l c i).1).2.2)
  else ([], (rsg l c i).1, (rsg l c i).2)
def nodeR (l : List Nat) : Nat → Nat → Nat → NdS × Nat × Nat
  | 0, _, i => (⟨0, [], [], []⟩, i, 2)
  | k + 1, deep, i =>
    let nm := runL (l.drop i)
    let j := i + nm.length
    if farG true nm = false then (⟨0, [], [], []⟩, j, 2)
    else if wordK nm = 0 then (⟨0, nm, [], []⟩, j, if wordK (firstS nm) ≠ 0 then 2 else 0)
    else if innerK (wordK nm) = 0 then (⟨wordK nm, [], [], []⟩, j, 0)
    else if 12 < deep then (⟨0, [], [], []⟩, j, 6)
    else
      let A := partR (nodeR l k (deep + 1)) l 60 j
      let B := if wordK nm = 13 then (if A.2.2 = 0 then partR (nodeR l k (deep + 1)) l 44 A.2.1 else ([], A.2.1, A.2.2)) else ([], A.2.1, A.2.2)
      let C := if B.2.2 = 0 then rsg l 62 B.2.1 else (B.2.1, B.2.2)
      (⟨wordK nm, [], A.1, B.1⟩, C.1, C.2)
theorem first_in {p : List Nat} {ps : List (List Nat)} (h : goodP p) : firstS (p ++ flatP ps) = p := by
  have hp : ∀ (p m : List Nat), p.all isIn = true → firstS (p ++ m) = p ++ firstS m := by
    intro p m
    induction p with
    | nil => intro _; rfl
    | cons c p ih =>
      intro h
      simp only [List.all_cons, Bool.and_eq_true] at h
      have hc : ¬ c = 46 := by rintro rfl; have := h.1; rw [isIn_46] at this; cases this
      unfold firstS at ih ⊢
      rw [List.cons_append, List.takeWhile_cons, decide_eq_false hc]
      simp [ih h.2]
  rw [hp _ _ h.all]
  cases ps with
  | nil => simp [flatP, firstS]
  | cons q ps => rw [flatP_cons]; simp [firstS]
theorem word_dot {p : List Nat} {q : List Nat} {ps : List (List Nat)} : wordK (p ++ flatP (q :: ps)) = 0 := by
  have h46 : 46 ∈ p ++ flatP (q :: ps) := by rw [flatP_cons]; simp
  generalize p ++ flatP (q :: ps) = w at h46
  unfold wordK
  repeat' split
  all_goals first
    | rfl
    | (rename_i hh; subst hh; revert h46; decide)
theorem armS_a {one : Ks → Ks} {l : List Nat} {b : Nat} {s : Ks} (h : ∀ s, s.a ≤ l.length → (one s).a ≤ l.length) (ha : s.a ≤ l.length) : (armS one l b s).a ≤ l.length := by
  unfold armS
  split
  · exact h _ (sgS_le ha)
  · exact sgS_le ha
theorem oneS_a (l : List Nat) : ∀ (k deep : Nat) (s : Ks), s.a ≤ l.length → (oneS l k deep s).2.2.a ≤ l.length
  | 0, deep, s, h => by simpa [oneS] using h
  | k + 1, deep, s, h => by
    have ih := fun deep s h => oneS_a l k deep s h
    have h1 := ptA_le (l := l) (a := s.a) (e := s.e) h
    have h2 := rs_le l (l.length + 2) (ptA l s.a s.e) (fl (noLet l s.a) 2 s.e) h1.2
    rw [oneS]
    simp only
    split
    · exact h2.2
    · split
      · exact h2.2
      · have g := fun b s h => armS_a (one := fun s => (oneS l k (deep + 1) s).2.2) (l := l) (b := b) (s := s) (fun s h => ih _ s h) h
        split
        · exact sgS_le (g _ _ h2.2)
        · exact sgS_le (g _ _ (g _ _ h2.2))
theorem sg_sim {l : List Nat} {b : Nat} {s : Ks} (he : s.e = 0) : (sgS l b s).e = (rsg l b s.a).2 ∧ (sgS l b s).a = (rsg l b s.a).1 := by
  unfold sgS sgA noSign rsg
  by_cases h : l[s.a]? = some b
  · simp only [h, ne_eq, not_true_eq_false, decide_false, fl_f, he, if_true, and_self]
  · simp only [h, ne_eq, not_false_eq_true, decide_true, he, fl_t, if_false, and_self, show ¬ (2 = 0) by decide]
theorem arm_sim {one : Ks → Ks} {node : Nat → NdS × Nat × Nat} {l : List Nat} {b : Nat} {s : Ks} (he : s.e = 0) (ha : s.a ≤ l.length)
    (ih : ∀ s : Ks, s.e = 0 → s.a ≤ l.length → (one s).e = (node s.a).2.2 ∧ ((one s).e = 0 → (one s).a = (node s.a).2.1)) :
    (armS one l b s).e = (partR node l b s.a).2.2 ∧ ((armS one l b s).e = 0 → (armS one l b s).a = (partR node l b s.a).2.1) := by
  obtain ⟨g1, g2⟩ := sg_sim (l := l) (b := b) he
  unfold armS partR
  by_cases h : (sgS l b s).e = 0
  · rw [if_pos h, if_pos (by rw [← g1]; exact h)]
    have := ih (sgS l b s) h (sgS_le ha)
    rw [g2] at this
    exact this
  · rw [if_neg h, if_neg (by rw [← g1]; exact h)]
    exact ⟨g1, fun h' => absurd h' h⟩
theorem sim (l : List Nat) : ∀ (k deep : Nat) (s : Ks), s.e = 0 → s.a ≤ l.length → deep ≤ 12 → 12 < deep + k → (oneS l k deep s).2.2.e = (nodeR l k (deep + 1) s.a).2.2 ∧ ((oneS l k deep s).2.2.e = 0 → (oneS l k deep s).2.2.a = (nodeR l k (deep + 1) s.a).2.1)
  | 0, deep, s, he, ha, hd, hk => by omega
  | k + 1, deep, s, he, ha, hd, hk => by
    rcases name_same (l := l) (a := s.a) with ⟨h1, h2⟩ | ⟨h1, p, h2, h3, h4⟩
    · have e1 : ptA l s.a 0 = s.a := by unfold ptA; rw [h1, fl_t, if_neg (by decide)]
      have e2 : wordK ((l.drop s.a).take (s.a - s.a)) = 0 := by rw [Nat.sub_self, List.take_zero]; rfl
      have e3 : (oneS l (k + 1) deep s).2.2.e = 2 := by
        rw [oneS]
        simp only [he, e1, h1, fl_t, e2, or_true, if_true, rs_2 l _ s.a 2 (by decide)]
        exact fl_ne (by decide)
      have e4 : (nodeR l (k + 1) (deep + 1) s.a).2.2 = 2 := by
        unfold nodeR
        simp only [h2, if_true]
      rw [e3, e4]
      exact ⟨rfl, fun h => by cases h⟩
    · rcases h4 with ⟨h4, h5⟩ | ⟨ps, g1, g2, g3, g4, g5, g6⟩
      · have e3 : (oneS l (k + 1) deep s).2.2.e = 2 := by
          rw [oneS]
          simp only [he, h1, fl_f, h3, h4]
          split
          · exact fl_ne (by decide)
          · rw [if_pos (.inr (by decide))]
        have e4 : (nodeR l (k + 1) (deep + 1) s.a).2.2 = 2 := by
          unfold nodeR
          simp only [h5, if_true]
        rw [e3, e4]
        exact ⟨rfl, fun h => by cases h⟩
      · by_cases hc : ps ≠ [] ∨ wordK p = 0
        · rw [one_name h2 g1 g6 he g5 hc]
          have hw : wordK (p ++ flatP ps) = 0 := by
            cases ps with
            | nil => rcases hc with hc | hc
                     · exact absurd rfl hc
                     · simpa [flatP] using hc
            | cons q ps => exact word_dot
          unfold nodeR
          rw [g3] at g4
          simp only [g3, g4, hw, first_in h2, if_true, Bool.true_eq_false, if_false]
          by_cases hp : wordK p = 0
          · simp only [hp, ne_eq, not_true_eq_false, decide_false, fl_f, if_false]; exact ⟨trivial, fun _ => trivial⟩
          · simp only [hp, ne_eq, not_false_eq_true, decide_true, fl_t, if_true]; exact ⟨trivial, fun _ => trivial⟩
        · have hps : ps = [] := Decidable.byContradiction fun h => hc (.inl h)
          have hw : wordK p ≠ 0 := fun h => hc (.inr h)
          subst hps
          simp only [flatP, List.map_nil, List.flatten_nil, List.append_nil] at g2 g3 g4 g5 g6
          rw [one_word h2 g6 he g5 hw]
          unfold nodeR
          rw [g3] at g4
          simp only [g3, g4, hw, Bool.true_eq_false, if_false]
          by_cases hi : innerK (wordK p) = 0
          · simp only [hi, if_true]
            exact ⟨trivial, fun _ => trivial⟩
          · simp only [hi, if_false]
            have hin := innerK_le (wordK p)
            by_cases hdeep : 12 ≤ deep
            · have e6 : armS (fun s => (oneS l k (deep + 1) s).2.2) l 60 ⟨s.a + p.length, 6, max s.d (deep + 1), s.nm⟩ = ⟨s.a + p.length, 6, max s.d (deep + 1), s.nm⟩ := arm_e (by simp)
              have e7 : armS (fun s => (oneS l k (deep + 1) s).2.2) l 44 ⟨s.a + p.length, 6, max s.d (deep + 1), s.nm⟩ = ⟨s.a + p.length, 6, max s.d (deep + 1), s.nm⟩ := arm_e (by simp)
              have e8 : sgS l 62 ⟨s.a + p.length, 6, max s.d (deep + 1), s.nm⟩ = ⟨s.a + p.length, 6, max s.d (deep + 1), s.nm⟩ := sg_e (by simp)
              rw [decide_eq_true hdeep, fl_t, if_pos (show 12 < deep + 1 by omega)]
              simp only [e6, e7, e8]
              split <;> exact ⟨rfl, fun h => by cases h⟩
            · rw [decide_eq_false hdeep, fl_f, if_neg (show ¬ 12 < deep + 1 by omega)]
              have hlen : s.a + p.length ≤ l.length := by have := len_of g5; omega
              have ih : ∀ s : Ks, s.e = 0 → s.a ≤ l.length → (oneS l k (deep + 1) s).2.2.e = (nodeR l k (deep + 1 + 1) s.a).2.2 ∧ ((oneS l k (deep + 1) s).2.2.e = 0 → (oneS l k (deep + 1) s).2.2.a = (nodeR l k (deep + 1 + 1) s.a).2.1) :=
                fun s h1 h2 => sim l k (deep + 1) s h1 h2 (by omega) (by omega)
              have A := arm_sim (one := fun s => (oneS l k (deep + 1) s).2.2) (b := 60) (s := ⟨s.a + p.length, 0, max s.d (deep + 1), s.nm⟩) rfl hlen ih
              have Aa := armS_a (one := fun s => (oneS l k (deep + 1) s).2.2) (b := 60) (s := ⟨s.a + p.length, 0, max s.d (deep + 1), s.nm⟩) (fun s h => oneS_a l k _ s h) hlen
              simp only at A
              generalize armS (fun s => (oneS l k (deep + 1) s).2.2) l 60 ⟨s.a + p.length, 0, max s.d (deep + 1), s.nm⟩ = s4 at *
              generalize partR (nodeR l k (deep + 1 + 1)) l 60 (s.a + p.length) = pA at *
              have fin : ∀ (s5 : Ks) (i5 e5 : Nat), s5.e = e5 → (s5.e = 0 → s5.a = i5) → (sgS l 62 s5).e = (if e5 = 0 then rsg l 62 i5 else (i5, e5)).2 ∧ ((sgS l 62 s5).e = 0 → (sgS l 62 s5).a = (if e5 = 0 then rsg l 62 i5 else (i5, e5)).1) := by
                intro s5 i5 e5 h1 h2
                by_cases h0 : e5 = 0
                · rw [if_pos h0]
                  have h3 : s5.e = 0 := h1.trans h0
                  obtain ⟨q1, q2⟩ := sg_sim (l := l) (b := 62) h3
                  rw [h2 h3] at q1 q2
                  exact ⟨q1, fun _ => q2⟩
                · rw [if_neg h0, sg_e (by rw [h1]; exact h0)]
                  exact ⟨h1, h2⟩
              by_cases i1 : innerK (wordK p) = 1
              · have hn13 : ¬ wordK p = 13 := by intro h; rw [h] at i1; revert i1; decide
                simp only [if_pos i1, if_neg hn13]
                exact fin s4 _ _ A.1 A.2
              · have h13 : wordK p = 13 := by
                  have i2 : innerK (wordK p) = 2 := by omega
                  unfold innerK at i2
                  split at i2
                  · cases i2
                  · split at i2
                    · assumption
                    · cases i2
                simp only [if_neg i1, if_pos h13]
                by_cases h4e : s4.e = 0
                · have B := arm_sim (one := fun s => (oneS l k (deep + 1) s).2.2) (b := 44) (s := s4) h4e Aa ih
                  rw [A.2 h4e] at B
                  have hA0 : pA.2.2 = 0 := A.1.symm.trans h4e
                  simp only [hA0, if_true]
                  exact fin _ _ _ B.1 B.2
                · have hA0 : ¬ pA.2.2 = 0 := fun h => h4e (A.1.trans h)
                  have := fin s4 pA.2.1 pA.2.2 A.1 A.2
                  rw [arm_e h4e]
                  simp only [hA0, if_false] at this ⊢
                  exact this
theorem runL_word {l w m : List Nat} {a : Nat} (hw : goodP w) (hm : stopd m) (h : l.drop a = w ++ m) : runL (l.drop a) = w ∧ farG true w = true := by
  constructor
  · rw [h, runL_in (nb_of_in hw.all), runL_stop hm, List.append_nil]
  · have := farG_good (m := []) hw
    rw [List.append_nil] at this
    rw [this]; rfl
theorem partR_in {node : Nat → NdS × Nat × Nat} {l t m : List Nat} {c i : Nat} {nd : NdS} (h : l.drop i = c :: (t ++ m)) (hn : node (i + 1) = (nd, i + 1 + t.length, 0)) : partR node l c i = (t, i + 1 + t.length, 0) := by
  have h1 : rsg l c i = (i + 1, 0) := by
    unfold rsg
    rw [if_pos (by rw [getD h]; rfl)]
  have h2 : l.drop (i + 1) = t ++ m := dropD (p := [c]) (by simpa using h)
  unfold partR
  rw [h1]
  simp only [if_true, hn]
  rw [take_len h2]
theorem node_in : ∀ (T : Ty) (l m : List Nat) (k deep a : Nat), T.wf → T.ctx m → l.drop a = T.txt ++ m → deep + T.dep ≤ 13 → 13 < deep + k → nodeR l k deep a = (⟨T.knd, T.name, T.pa, T.pb⟩, a + T.txt.length, 0)
  | T, l, m, 0, deep, a, hw, hm, h, hd, hk => by omega
  | .nm p ps, l, m, k + 1, deep, a, hw, hm, h, hd, hk => by
    have e1 : runL (l.drop a) = p ++ flatP ps := by
      rw [h, Ty.txt, runL_in (by rw [List.all_append, nb_of_in hw.1.all, nb_flat hw.2.1]; rfl), runL_stop hm, List.append_nil]
    have e2 : farG true (p ++ flatP ps) = true := by
      rw [farG_good hw.1]
      have := farG_flat (m := []) hw.2.1
      rw [List.append_nil] at this
      rw [this]; rfl
    have e3 : wordK (p ++ flatP ps) = 0 := by
      cases ps with
      | nil => simpa [flatP] using hw.2.2
      | cons q ps => exact word_dot
    unfold nodeR
    simp only [e1, e2, e3, first_in hw.1, hw.2.2, Bool.true_eq_false, if_false, if_true, ne_eq, not_true_eq_false]
    rfl
  | .wd w, l, m, k + 1, deep, a, hw, hm, h, hd, hk => by
    obtain ⟨e1, e2⟩ := runL_word hw.1 hm h
    unfold nodeR
    simp only [e1, e2, hw.2.1, hw.2.2, Bool.true_eq_false, if_false, if_true]
    rfl
  | .l1 w t, l, m, k + 1, deep, a, hw, hm, h, hd, hk => by
    have hne := innerK_ne hw.2.1
    have h' : l.drop a = w ++ (60 :: (t.txt ++ ([62] ++ m))) := by rw [h]; simp [Ty.txt]
    obtain ⟨e1, e2⟩ := runL_word hw.1 (stopd_sign _ rfl (by decide)) h'
    have d1 := dropD h'
    have d2 : l.drop (a + w.length + 1) = t.txt ++ ([62] ++ m) := dropD (p := [60]) (by simpa using d1)
    simp only [Ty.dep] at hd
    have A := partR_in (node := nodeR l k (deep + 1)) d1 (node_in t l ([62] ++ m) k (deep + 1) (a + w.length + 1) hw.2.2 (Ty.ctx_of (stopd_sign _ rfl (by decide))) d2 (by omega) (by omega))
    have d3 : l.drop (a + w.length + 1 + t.txt.length) = 62 :: m := dropD d2
    have h1 : rsg l 62 (a + w.length + 1 + t.txt.length) = (a + w.length + 1 + t.txt.length + 1, 0) := by
      unfold rsg
      rw [if_pos (by rw [getD d3]; rfl)]
    have hn13 : ¬ wordK w = 13 := by intro h; have := hw.2.1; rw [h] at this; revert this; decide
    unfold nodeR
    simp only [e1, e2, hne, hw.2.1, Bool.true_eq_false, if_false, if_true, show ¬ (1 = 0) by decide, if_neg (show ¬ 12 < deep by omega), A, hn13, h1]
    simp only [Ty.knd, Ty.name, Ty.pa, Ty.pb, Ty.txt, Prod.mk.injEq, true_and, and_true, List.length_append, List.length_cons, List.length_nil]
    omega
  | .l2 w t u, l, m, k + 1, deep, a, hw, hm, h, hd, hk => by
    have hne := innerK_ne hw.2.1
    have h' : l.drop a = w ++ (60 :: (t.txt ++ (44 :: (u.txt ++ ([62] ++ m))))) := by rw [h]; simp [Ty.txt]
    obtain ⟨e1, e2⟩ := runL_word hw.1 (stopd_sign _ rfl (by decide)) h'
    have d1 := dropD h'
    have d2 : l.drop (a + w.length + 1) = t.txt ++ (44 :: (u.txt ++ ([62] ++ m))) := dropD (p := [60]) (by simpa using d1)
    simp only [Ty.dep] at hd
    have A := partR_in (node := nodeR l k (deep + 1)) d1 (node_in t l _ k (deep + 1) (a + w.length + 1) hw.2.2.1 (Ty.ctx_of (stopd_sign _ rfl (by decide))) d2 (by omega) (by omega))
    have d3 : l.drop (a + w.length + 1 + t.txt.length) = 44 :: (u.txt ++ ([62] ++ m)) := dropD d2
    have d4 : l.drop (a + w.length + 1 + t.txt.length + 1) = u.txt ++ ([62] ++ m) := dropD (p := [44]) (by simpa using d3)
    have B := partR_in (node := nodeR l k (deep + 1)) d3 (node_in u l _ k (deep + 1) (a + w.length + 1 + t.txt.length + 1) hw.2.2.2 (Ty.ctx_of (stopd_sign _ rfl (by decide))) d4 (by omega) (by omega))
    have d5 : l.drop (a + w.length + 1 + t.txt.length + 1 + u.txt.length) = 62 :: m := dropD d4
    have h1 : rsg l 62 (a + w.length + 1 + t.txt.length + 1 + u.txt.length) = (a + w.length + 1 + t.txt.length + 1 + u.txt.length + 1, 0) := by
      unfold rsg
      rw [if_pos (by rw [getD d5]; rfl)]
    have h13 : wordK w = 13 := by
      rcases word_inner (w := w) (by have := hw.2.1; omega) with ⟨_, _, h3⟩ | ⟨_, _, h3⟩ | ⟨_, h, _⟩
      · have := hw.2.1; omega
      · have := hw.2.1; omega
      · exact h
    unfold nodeR
    simp only [e1, e2, hne, hw.2.1, Bool.true_eq_false, if_false, if_true, show ¬ (2 = 0) by decide, if_neg (show ¬ 12 < deep by omega), A, B, h13, h1]
    simp only [Ty.knd, Ty.name, Ty.pa, Ty.pb, Ty.txt, h13, Prod.mk.injEq, true_and, and_true, List.length_append, List.length_cons, List.length_nil]
    rw [if_neg (by decide), if_neg (by decide)]
    simp only [Prod.mk.injEq, true_and, and_true]
    omega
/-- A whole text, by the document: the error. -/
def headE (l : List Nat) : Nat := if (nodeR l 14 1 0).2.2 = 0 ∧ (nodeR l 14 1 0).2.1 < l.length then 2 else (nodeR l 14 1 0).2.2
theorem headE_eq (l : List Nat) : headE l = (readS l).2.2.e := by
  obtain ⟨h1, h2⟩ := sim l 14 0 ⟨0, 0, 0, []⟩ rfl (Nat.zero_le _) (by decide) (by decide)
  simp only at h1 h2
  unfold headE readS
  simp only
  rw [← h1]
  by_cases h : (oneS l 14 0 ⟨0, 0, 0, []⟩).2.2.e = 0
  · rw [← h2 h]
    by_cases hl : (oneS l 14 0 ⟨0, 0, 0, []⟩).2.2.a < l.length
    · rw [if_pos ⟨h, hl⟩, decide_eq_true hl, h]; rfl
    · rw [if_neg (fun q => hl q.2), decide_eq_false hl, fl_f]
  · rw [if_neg (fun q => h q.1), fl_ne h]
end Go.Proofs.Ytgejdfhfgphcbaa.Ev
/- Kind: the document's reader. -/
namespace Go.Proofs.Ytgejdfhfgphcbaa.Ev
open Go Go.RowKit
set_option linter.unusedVariables false
set_option linter.constructorNameAsVariable false
set_option linter.unusedSimpArgs false
set_option linter.unusedSectionVars false

theorem s94 (n b : Nat) (F : FAW) : clU kindD (n + 1) 94 [.b b] F = .ok (.t (isLet b)) F := by
  rw [cl94, u94_in]
  simp only [↓u94b, ↓seqU_eq, ↓u94_0, ↓m2_mk, ↓exU_n, ↓u94_1, ↓uGeq_bb, ↓uLeq_bb, ↓uEq_bb, ↓eT_t, xo_f, ↓retU_eq, ↓exU_r, ↓u94r_mk]
  unfold isLet
  by_cases h2 : 97 ≤ b
  · by_cases h3 : b ≤ 122
    · simp [h2, h3, cn_true]
    · have h5 : ¬ b ≤ 90 := by omega
      have h4 : 65 ≤ b := by omega
      simp [h2, h3, h4, h5, cn_true, cn_false, eT_t]
  · by_cases h4 : 65 ≤ b
    · by_cases h5 : b ≤ 90 <;> simp [h2, h4, h5, cn_true, cn_false, eT_t]
    · simp [h2, h4, cn_true, cn_false, eT_t]
theorem s95 (n b : Nat) (F : FAW) : clU kindD (n + 1) 95 [.b b] F = .ok (.t (isDig b)) F := by
  rw [cl95, u95_in]
  simp only [↓u95b, ↓seqU_eq, ↓u95_0, ↓m2_mk, ↓exU_n, ↓u95_1, ↓uGeq_bb, ↓uLeq_bb, ↓eT_t, ↓retU_eq, ↓exU_r, ↓u95r_mk]
  unfold isDig
  by_cases h2 : 48 ≤ b
  · by_cases h3 : b ≤ 57 <;> simp [h2, h3, cn_true, cn_false]
  · simp [h2, cn_true, cn_false]
theorem s97 (n : Nat) (F : FAW) {s : List Nat} (hs : Bs s) : clU kindD (n + 1) 97 [.s s] F = .ok (.n (wordK s)) F := by
  have e : clU kindD (n + 1) 97 [.s s] F = clU kindD (n + 1) 72 [.s s] F := by
    rw [cl97, cl72]; rfl
  rw [e]; exact s72 n F hs
/-- The document's reader stands in a text. -/
structure Tp (F : FAW) (x : Nat) (l : List Nat) (i e : Nat) : Prop where
  row : ∃ el, F.row x = some ([.s l, .n i, .n e], el, 3, x, false)
  fam : ∃ ex, F.fam x = some (false, ex) ∧ 3 ≤ ex
section
variable {F : FAW} {x : Nat} {l : List Nat} {i e : Nat} (h : Tp F x l i e) (f : KU)
include h
theorem Tp.g0 : uGet 0 (.p x 0) F f = f (.s l) F := by obtain ⟨el, hr⟩ := h.row; exact uGet_row f hr rfl (Fi.s l)
theorem Tp.g1 : uGet 1 (.p x 0) F f = f (.n i) F := by obtain ⟨el, hr⟩ := h.row; exact uGet_row f hr rfl (Fi.n i)
theorem Tp.g2 : uGet 2 (.p x 0) F f = f (.n e) F := by obtain ⟨el, hr⟩ := h.row; exact uGet_row f hr rfl (Fi.n e)
theorem Tp.put (i' e' : Nat) : Tp (F.put x [.s l, .n i', .n e']) x l i' e' := by
  obtain ⟨el, hr⟩ := h.row
  obtain ⟨ex, hf, h5⟩ := h.fam
  exact ⟨⟨el, by rw [row_put, if_pos rfl, hr]; rfl⟩, ⟨ex, by rw [fam_put]; exact hf, h5⟩⟩
theorem Tp.s1 (i' : Nat) : uSt 1 (.p x 1) (.n i') F f = f (.u []) (F.put x [.s l, .n i', .n e]) := by
  obtain ⟨el, hr⟩ := h.row
  obtain ⟨ex, hf, h5⟩ := h.fam
  exact uSt_row f hr hf h5 rfl (Fi.n i) (Fi.n i')
theorem Tp.s2 (e' : Nat) : uSt 1 (.p x 2) (.n e') F f = f (.u []) (F.put x [.s l, .n i, .n e']) := by
  obtain ⟨el, hr⟩ := h.row
  obtain ⟨ex, hf, h5⟩ := h.fam
  exact uSt_row f hr hf h5 rfl (Fi.n e) (Fi.n e')
omit f in
theorem Tp.wf (hw : Wf F) (c : List FV) : Wf (F.put x c) := hw.put x c
omit f in
theorem Tp.lt (hw : Wf F) : x < F.x := by obtain ⟨el, hr⟩ := h.row; exact hw.row _ _ hr
omit f in
theorem Tp.std {F' : FAW} {A : Nat → Prop} (s : Std F F' A nof) (hA : ¬ A x) : Tp F' x l i e := by
  obtain ⟨el, hr⟩ := h.row
  obtain ⟨ex, hf, h5⟩ := h.fam
  exact ⟨⟨el, s.row _ _ hA hr⟩, ⟨ex, s.fam _ _ (fun h => h) hf, h5⟩⟩
end
/-- A sign. -/
theorem s99 (n : Nat) {F : FAW} {x : Nat} {l : List Nat} {i : Nat} (h : Tp F x l i 0) (hw : Wf F) (hl : Bs l) (hi : i ≤ l.length) (hL : l.length ≤ 1000000) (c : Nat) :
    ∃ F', clU kindD (n + 1) 99 [.p x 0, .b c] F = .ok (.u []) F' ∧ Tp F' x l (rsg l c i).1 (rsg l c i).2 ∧ Oth F F' x := by
  rw [cl99, u99_in]
  by_cases hlt : i < l.length
  · have hx : l[i]? = some l[i] := List.getElem?_eq_getElem hlt
    simp only [↓u99b, ↓seqU_eq, ↓condU_eq, ↓skipU_eq, ↓retU_eq, ↓u99_0, ↓u99_1, ↓m3_mk, ↓k3_mk, ↓exU_n, ↓h.g0, ↓h.g1, ↓uLen_s, ↓uEq_nn, xo_f, ↓eT_t, decide_eq_false (show ¬ i = l.length by omega), ↓cn_false, ↓uIdxS_n _ _ hl hx, ↓uEq_bb, xo_t]
    unfold rsg
    by_cases hc : l[i] = c
    · simp only [hx, hc, decide_true, Bool.not_true, ↓cn_false, if_true, ↓u99_3, ↓m3_mk, ↓h.g1, uAdd_nn _ _ (show i + 1 ≤ 9223372036854775807 by omega), ↓uNilc_p, ↓uFad_p, Nat.zero_add, ↓h.s1, ↓exU_n, ↓u99r_mk]
      exact ⟨_, rfl, h.put _ _, Oth.put _ _ _⟩
    · have hc' : ¬ (some l[i] = some c) := fun h => hc (Option.some.inj h)
      simp only [hx, hc', decide_eq_false hc, Bool.not_false, ↓cn_true, if_false, ↓u99_2, ↓m3_mk, ↓uNilc_p, ↓uFad_p, Nat.zero_add, ↓h.s2, ↓exU_n, ↓exU_r, ↓u99r_mk]
      exact ⟨_, rfl, h.put _ _, Oth.put _ _ _⟩
  · have hx : l[i]? = none := List.getElem?_eq_none (by omega)
    have e1 : ¬ ((none : Option Nat) = some c) := by simp
    unfold rsg
    simp only [↓u99b, ↓seqU_eq, ↓condU_eq, ↓skipU_eq, ↓retU_eq, ↓u99_0, ↓u99_1, ↓m3_mk, ↓k3_mk, ↓exU_n, ↓h.g0, ↓h.g1, ↓uLen_s, ↓uEq_nn, xo_f, ↓eT_t, decide_eq_true (show i = l.length by omega), ↓cn_true, hx, e1, if_false, ↓u99_2, ↓uNilc_p, ↓uFad_p, Nat.zero_add, ↓h.s2, ↓exU_r, ↓u99r_mk]
    exact ⟨_, rfl, h.put _ _, Oth.put _ _ _⟩
theorem runL_cons {l : List Nat} {i : Nat} (h : i < l.length) : runL (l.drop i) = if isNb l[i] then l[i] :: runL (l.drop (i + 1)) else [] := by
  unfold runL
  rw [List.drop_eq_getElem_cons h, List.takeWhile_cons]
theorem runL_nil {l : List Nat} {i : Nat} (h : l.length ≤ i) : runL (l.drop i) = [] := by
  rw [List.drop_eq_nil_of_le h]; rfl
theorem runL_le (l : List Nat) (i : Nat) (h : i ≤ l.length) : i + (runL (l.drop i)).length ≤ l.length := by
  have := (List.takeWhile_prefix (p := isNb) (l := l.drop i)).length_le
  rw [List.length_drop] at this
  unfold runL
  omega
theorem runL_pre (l : List Nat) (i : Nat) : (l.drop i).take (runL (l.drop i)).length = runL (l.drop i) := by
  unfold runL
  exact (List.prefix_iff_eq_take.mp (List.takeWhile_prefix (p := isNb) (l := l.drop i))).symm
theorem loop69 (m N : Nat) {x : Nat} {l : List Nat} (hl : Bs l) (hL : l.length ≤ 1000000) (c d e f g h i' j k' m' o p q r s t w : FV) : ∀ (rr i : Nat) (F : FAW) (kk : FV), Tp F x l i 0 → i ≤ l.length → l.length - i ≤ rr → ∀ M, rr < M →
    ∃ F' k2, (∀ κ : EX → W19 → FAW → RU, loopNU (u69_5 (clU kindD (m + 1)) N) κ M (.mk (.p x 0) c d e f g h i' j kk k' m' o p q r s t w) F = κ (.exit 0) (.mk (.p x 0) c d e f g h i' j k2 k' m' o p q r s t w) F') ∧ Tp F' x l (i + (runL (l.drop i)).length) 0 ∧ Oth F F' x := by
  intro rr
  induction rr with
  | zero =>
    intro i F kk hT hi hr M hM
    obtain ⟨M, rfl⟩ : ∃ M', M = M' + 1 := ⟨M - 1, by omega⟩
    have hle : l.length ≤ i := by omega
    refine ⟨F, .t false, fun κ => ?_, by rw [runL_nil hle]; exact hT, Oth.refl _ _⟩
    rw [loopNU_succ]
    simp only [↓u69_5, ↓seqU_eq, ↓condU_eq, ↓exitU_eq, ↓u69_2, ↓u69_3, ↓m19_mk, ↓k19_mk, ↓exU_n, ↓exU_e, ↓hT.g0, ↓hT.g1, ↓uLen_s, ↓uLss_nn, decide_eq_false (show ¬ i < l.length by omega), ↓eT_t, ↓cn_false]
  | succ rr ih =>
    intro i F kk hT hi hr M hM
    obtain ⟨M, rfl⟩ : ∃ M', M = M' + 1 := ⟨M - 1, by omega⟩
    by_cases hlt : i < l.length
    · have hx : l[i]? = some l[i] := List.getElem?_eq_getElem hlt
      by_cases hb : isNb l[i] = true
      · obtain ⟨F', k2, e1, t1, o1⟩ := ih (i + 1) (F.put x [.s l, .n (i + 1), .n 0]) (.t true) (hT.put _ _) (by omega) (by omega) M (by omega)
        refine ⟨F', k2, fun κ => ?_, ?_, (Oth.put _ _ _).trans o1⟩
        · rw [loopNU_succ]
          have e2 := e1 κ
          generalize loopNU (u69_5 (clU kindD (m + 1)) N) κ M = rec at e2 ⊢
          simp only [↓u69_5, ↓seqU_eq, ↓condU_eq, ↓blockU_eq, ↓skipU_eq, ↓u69_2, ↓u69_3, ↓u69_4, ↓m19_mk, ↓k19_mk, ↓exU_n, ↓exU_e, ↓hT.g0, ↓hT.g1, ↓uLen_s, ↓uLss_nn, decide_eq_true hlt, ↓eT_t, ↓cn_true, ↓uIdxS_n _ _ hl hx, ↓uCall_eq, ↓s94, ↓s95, ↓goOn_ok, ↓uEq_bb, xo_f]
          have hn : uAdd (.n i) (.n 1) F = fun f => f (.n (i + 1)) F := by funext f; exact uAdd_nn _ _ (by omega)
          by_cases h1 : isLet l[i] = true
          · simp only [h1, ↓cn_true, ↓exU_n, ↓eT_t, ↓skipU_eq, ↓u69_4, ↓m19_mk, ↓hT.g1, hn, ↓uNilc_p, ↓uFad_p, Nat.zero_add, ↓hT.s1]
            exact e2
          · have h1 : isLet l[i] = false := by simpa using h1
            by_cases h2 : isDig l[i] = true
            · simp only [h1, h2, ↓cn_true, ↓cn_false, ↓exU_n, ↓eT_t, ↓skipU_eq, ↓u69_4, ↓m19_mk, ↓hT.g1, hn, ↓uNilc_p, ↓uFad_p, Nat.zero_add, ↓hT.s1]
              exact e2
            · have h2 : isDig l[i] = false := by simpa using h2
              have h3 : l[i] = 46 := by
                unfold isNb isIn at hb
                rw [h1, h2] at hb
                simpa using hb
              simp only [h1, h2, decide_eq_true h3, ↓cn_true, ↓cn_false, ↓exU_n, ↓eT_t, ↓skipU_eq, ↓u69_4, ↓m19_mk, ↓hT.g1, hn, ↓uNilc_p, ↓uFad_p, Nat.zero_add, ↓hT.s1]
              exact e2
        · rw [runL_cons hlt, if_pos hb, List.length_cons, show i + ((runL (l.drop (i + 1))).length + 1) = i + 1 + (runL (l.drop (i + 1))).length by omega]
          exact t1
      · have hb : isNb l[i] = false := by simpa using hb
        have h123 : isLet l[i] = false ∧ isDig l[i] = false ∧ ¬ l[i] = 46 := by
          unfold isNb isIn at hb
          simpa [Bool.or_eq_false_iff, and_assoc] using hb
        refine ⟨F, .t false, fun κ => ?_, by rw [runL_cons hlt, hb]; exact hT, Oth.refl _ _⟩
        rw [loopNU_succ]
        simp only [↓u69_5, ↓seqU_eq, ↓condU_eq, ↓exitU_eq, ↓u69_2, ↓u69_3, ↓m19_mk, ↓k19_mk, ↓exU_n, ↓exU_e, ↓hT.g0, ↓hT.g1, ↓uLen_s, ↓uLss_nn, decide_eq_true hlt, ↓eT_t, ↓cn_true, ↓uIdxS_n _ _ hl hx, ↓uCall_eq, ↓s94, ↓s95, ↓goOn_ok, ↓uEq_bb, xo_f, h123.1, h123.2.1, decide_eq_false h123.2.2, ↓cn_false]
    · have hle : l.length ≤ i := by omega
      refine ⟨F, .t false, fun κ => ?_, by rw [runL_nil hle]; exact hT, Oth.refl _ _⟩
      rw [loopNU_succ]
      simp only [↓u69_5, ↓seqU_eq, ↓condU_eq, ↓exitU_eq, ↓u69_2, ↓u69_3, ↓m19_mk, ↓k19_mk, ↓exU_n, ↓exU_e, ↓hT.g0, ↓hT.g1, ↓uLen_s, ↓uLss_nn, decide_eq_false (show ¬ i < l.length by omega), ↓eT_t, ↓cn_false]
def farL : Bool → List Nat → Bool
  | d, [] => true
  | d, c :: r => (!d || isLet c) && farL (decide (c = 46)) r
def lastD : Bool → List Nat → Bool
  | d, [] => d
  | d, c :: r => lastD (decide (c = 46)) r
theorem farG_split : ∀ (d : Bool) (m : List Nat), farG d m = (farL d m && !lastD d m)
  | d, [] => by simp [farG, farL, lastD]
  | d, c :: r => by
    show ((!d || isLet c) && farG (decide (c = 46)) r) = (((!d || isLet c) && farL (decide (c = 46)) r) && !lastD (decide (c = 46)) r)
    rw [farG_split, Bool.and_assoc]
theorem lastD_at : ∀ (d : Bool) (m : List Nat) (h : m ≠ []), lastD d m = decide (m[m.length - 1]'(by have := List.length_pos_iff.mpr h; omega) = 46)
  | d, [c], _ => rfl
  | d, c :: b :: r, _ => by
    show lastD (decide (c = 46)) (b :: r) = _
    rw [lastD_at _ (b :: r) (by simp)]
    simp
/-- Is there a full stop ahead (or nothing)? -/
def pdot (s : List Nat) (i : Nat) : Bool := decide (i = 0) || decide (s[i - 1]? = some 46)
theorem loop96 (m N : Nat) {s : List Nat} (hs : Bs s) (hL : s.length ≤ 1000000) (c : FV) (F : FAW) : ∀ (rr i : Nat) (e f g : FV), i + rr = s.length → ∀ M, rr < M →
    ∃ d' e' f' g', ∀ κ : EX → W6 → FAW → RU, loopNU (u96_11 (clU kindD (m + 1)) N) κ M (.mk (.s s) c (.n i) e f g) F = if farL (pdot s i) (s.drop i) = true then κ (.exit 0) (.mk (.s s) c (.n s.length) e' f' g') F else κ .ret (.mk (.s s) (.t false) d' e' f' g') F := by
  intro rr
  induction rr with
  | zero =>
    intro i e f g hi M hM
    obtain ⟨M, rfl⟩ : ∃ M', M = M' + 1 := ⟨M - 1, by omega⟩
    have hle : i = s.length := by omega
    subst hle
    refine ⟨.u [], e, .t false, g, fun κ => ?_⟩
    rw [loopNU_succ, List.drop_length, if_pos (show farL (pdot s s.length) [] = true from rfl)]
    simp only [↓u96_11_s, ↓seqU_eq, ↓condU_eq, ↓exitU_eq, ↓u96_5, ↓u96_6, ↓m6_mk, ↓k6_mk, ↓exU_n, ↓exU_e, ↓uLen_s, ↓uLss_nn, Nat.lt_irrefl, decide_false, ↓eT_t, ↓cn_false]
  | succ rr ih =>
    intro i e f g hi M hM
    obtain ⟨M, rfl⟩ : ∃ M', M = M' + 1 := ⟨M - 1, by omega⟩
    have hlt : i < s.length := by omega
    have hx : s[i]? = some s[i] := List.getElem?_eq_getElem hlt
    have hpd : pdot s (i + 1) = decide (s[i] = 46) := by
      unfold pdot
      rw [Nat.add_sub_cancel, hx]
      simp
    have hdrop : farL (pdot s i) (s.drop i) = ((!pdot s i || isLet s[i]) && farL (pdot s (i + 1)) (s.drop (i + 1))) := by
      rw [List.drop_eq_getElem_cons hlt, hpd]; rfl
    have hsub : uAdd (.n i) (.n 1) F = fun f => f (.n (i + 1)) F := by funext f; exact uAdd_nn _ _ (by omega)
    have h7 : ∀ (κ : EX → W6 → FAW → RU), (u96_7 (clU kindD (m + 1))) (.mk (.s s) c (.n i) e (.t true) g) F κ = κ .normal (.mk (.s s) c (.n i) e (.t true) (.t (!(!pdot s i || isLet s[i])))) F := by
      intro κ
      by_cases h0 : i = 0
      · subst h0
        have : pdot s 0 = true := rfl
        simp only [↓u96_7, ↓m6_mk, ↓uEq_nn, xo_f, decide_true, ↓eT_t, ↓cn_true, ↓uIdxS_n _ _ hs hx, ↓uCall_eq, ↓s94, ↓goOn_ok, ↓uNot_t, this, Bool.not_true, Bool.false_or]
      · have hx1 : s[i - 1]? = some s[i - 1] := List.getElem?_eq_getElem (by omega)
        have hp : pdot s i = decide (s[i - 1] = 46) := by
          unfold pdot
          rw [hx1, decide_eq_false h0]; simp
        by_cases h46 : s[i - 1] = 46
        · rw [hp, decide_eq_true h46]
          simp only [↓u96_7, ↓m6_mk, ↓uEq_nn, xo_f, decide_eq_false h0, ↓eT_t, ↓cn_false, ↓uSub_nn _ _ (show 1 ≤ i by omega) (show i ≤ 9223372036854775807 by omega), ↓uIdxS_n _ _ hs hx1, ↓uEq_bb, decide_eq_true h46, ↓cn_true, ↓uIdxS_n _ _ hs hx, ↓uCall_eq, ↓s94, ↓goOn_ok, ↓uNot_t, Bool.not_true, Bool.false_or]
        · rw [hp, decide_eq_false h46]
          simp only [↓u96_7, ↓m6_mk, ↓uEq_nn, xo_f, decide_eq_false h0, ↓eT_t, ↓cn_false, ↓uSub_nn _ _ (show 1 ≤ i by omega) (show i ≤ 9223372036854775807 by omega), ↓uIdxS_n _ _ hs hx1, ↓uEq_bb, decide_eq_false h46, Bool.not_false, Bool.true_or, Bool.not_true]
    by_cases hb : (!pdot s i || isLet s[i]) = true
    · obtain ⟨d', e', f', g', e1⟩ := ih (i + 1) e (.t true) (.t (!(!pdot s i || isLet s[i]))) (by omega) M (by omega)
      refine ⟨d', e', f', g', fun κ => ?_⟩
      rw [loopNU_succ, hdrop, hb, Bool.true_and, ← e1 κ]
      generalize loopNU (u96_11 (clU kindD (m + 1)) N) κ M = rec
      simp only [↓u96_11_s, ↓u96_11t1_s, ↓seqU_eq, ↓condU_eq, ↓blockU_eq, ↓skipU_eq, ↓u96_5, ↓u96_6, ↓u96_8, ↓u96_10, ↓m6_mk, ↓k6_mk, ↓exU_n, ↓uLen_s, ↓uLss_nn, decide_eq_true hlt, ↓eT_t, ↓cn_true, ↓h7, hb, Bool.not_true, ↓cn_false, hsub]
    · have hb : (!pdot s i || isLet s[i]) = false := by simpa using hb
      refine ⟨.n i, e, .t true, .t true, fun κ => ?_⟩
      rw [loopNU_succ, hdrop, hb, Bool.false_and, if_neg (by decide)]
      simp only [↓u96_11_s, ↓u96_11t1_s, ↓seqU_eq, ↓condU_eq, ↓blockU_eq, ↓skipU_eq, ↓retU_eq, ↓u96_5, ↓u96_6, ↓u96_8, ↓u96_9, ↓u96_10, ↓m6_mk, ↓k6_mk, ↓exU_n, ↓exU_r, ↓uLen_s, ↓uLss_nn, decide_eq_true hlt, ↓eT_t, ↓cn_true, ↓h7, hb, Bool.not_false]
theorem s96 (n : Nat) {s : List Nat} (hs : Bs s) (hL : s.length ≤ 1000000) (hn : s.length < n) (F : FAW) : clU kindD (n + 2) 96 [.s s] F = .ok (.t (farG true s)) F := by
  rw [cl96, u96_in]
  by_cases h0 : s = []
  · subst h0
    simp only [↓u96b_s, ↓u96bt1_s, ↓seqU_eq, ↓condU_eq, ↓retU_eq, ↓u96_0, ↓u96_1, ↓u96_2, ↓u96_3, ↓m6_mk, ↓k6_mk, ↓exU_n, ↓exU_r, ↓uEq_ss _ _ _ _ Bs.nil Bs.nil, xo_f, decide_true, ↓eT_t, ↓cn_true, ↓u96r_mk]
    rfl
  · have hpos := List.length_pos_iff.mpr h0
    obtain ⟨d', e', f', g', e1⟩ := loop96 n (n + 1) hs hL (.t false) F s.length 0 (.t false) (.u []) (.u []) (by omega) (n + 1) (by omega)
    have hx : s[s.length - 1]? = some s[s.length - 1] := List.getElem?_eq_getElem (by omega)
    have hf : farG true s = (farL true s && !decide (s[s.length - 1] = 46)) := by rw [farG_split, lastD_at _ _ h0]
    have hp0 : farL (pdot s 0) (s.drop 0) = farL true s := rfl
    simp only [↓u96b_s, ↓u96bt1_s, ↓u96bt2_s, ↓seqU_eq, ↓condU_eq, ↓blockU_eq, ↓loopU_eq, ↓skipU_eq, ↓u96_0, ↓u96_1, ↓u96_2, ↓u96_4, ↓m6_mk, ↓k6_mk, ↓exU_n, ↓uEq_ss _ _ _ _ hs Bs.nil, xo_f, decide_eq_false h0, ↓eT_t, ↓cn_false]
    rw [e1, hp0, hf]
    by_cases hb : farL true s = true
    · rw [if_pos hb, hb, Bool.true_and, exU_e, show Nat.beq 0 0 = true from rfl, cn_true]
      simp only [↓u96bt3_s, ↓seqU_eq, ↓retU_eq, ↓u96_12, ↓m6_mk, ↓exU_n, ↓exU_r, ↓uLen_s, ↓uSub_nn _ _ (show 1 ≤ s.length by omega) (show s.length ≤ 9223372036854775807 by omega), ↓uIdxS_n _ _ hs hx, ↓uEq_bb, xo_t, ↓u96r_mk]
    · rw [if_neg hb]
      have hb : farL true s = false := by simpa using hb
      rw [hb, Bool.false_and]
      rfl
theorem firstS_at {s : List Nat} {i : Nat} (h : ∀ b ∈ s.take i, b ≠ 46) (hi : i < s.length) (h46 : s[i] = 46) : firstS s = s.take i := by
  unfold firstS
  have e : s = s.take i ++ 46 :: s.drop (i + 1) := by
    rw [← h46, ← List.drop_eq_getElem_cons hi, List.take_append_drop]
  rw [e, List.takeWhile_append_of_pos (by intro b hb; simpa using h b hb)]
  rw [List.takeWhile_cons, decide_eq_true rfl, ← e]
  simp
theorem firstS_all {s : List Nat} (h : ∀ b ∈ s, b ≠ 46) : firstS s = s := by
  unfold firstS
  have := List.takeWhile_append_of_pos (p := fun b => !decide (b = 46)) (l₁ := s) (l₂ := []) (by intro b hb; simpa using h b hb)
  simpa using this
theorem loop69b (m N : Nat) {s : List Nat} (hs : Bs s) (hL : s.length ≤ 1000000) (a c d e g j k l q r s' t w : FV) (F : FAW) : ∀ (rr i : Nat) (mm oo pp : FV), i + rr = s.length → (∀ b ∈ s.take i, b ≠ 46) → ∀ M, rr < M →
    ∃ i' m' o' p', ∀ κ : EX → W19 → FAW → RU, loopNU (u69_22 (clU kindD m) N) κ M (.mk a c d e (.s s) g (.s s) (.n i) j k l mm oo pp q r s' t w) F = κ (.exit 2) (.mk a c d e (.s s) g (.s (firstS s)) i' j k l m' o' p' q r s' t w) F := by
  intro rr
  induction rr with
  | zero =>
    intro i mm oo pp hi hno M hM
    obtain ⟨M, rfl⟩ : ∃ M', M = M' + 1 := ⟨M - 1, by omega⟩
    have hle : i = s.length := by omega
    subst hle
    rw [List.take_length] at hno
    refine ⟨.n s.length, mm, .t false, pp, fun κ => ?_⟩
    rw [loopNU_succ, firstS_all hno]
    simp only [↓u69_22_s, ↓seqU_eq, ↓condU_eq, ↓exitU_eq, ↓u69_16, ↓u69_17, ↓m19_mk, ↓k19_mk, ↓exU_n, ↓exU_e, ↓uLen_s, ↓uLss_nn, Nat.lt_irrefl, decide_false, ↓eT_t, ↓cn_false]
  | succ rr ih =>
    intro i mm oo pp hi hno M hM
    obtain ⟨M, rfl⟩ : ∃ M', M = M' + 1 := ⟨M - 1, by omega⟩
    have hlt : i < s.length := by omega
    have hx : s[i]? = some s[i] := List.getElem?_eq_getElem hlt
    have hadd : uAdd (.n i) (.n 1) F = fun f => f (.n (i + 1)) F := by funext f; exact uAdd_nn _ _ (by omega)
    by_cases h46 : s[i] = 46
    · refine ⟨.n i, mm, .t true, .t true, fun κ => ?_⟩
      rw [loopNU_succ, firstS_at hno hlt h46]
      simp only [↓u69_22_s, ↓u69_22t1_s, ↓seqU_eq, ↓condU_eq, ↓blockU_eq, ↓skipU_eq, ↓exitU_eq, ↓u69_16, ↓u69_17, ↓u69_18, ↓u69_19, ↓u69_20, ↓m19_mk, ↓k19_mk, ↓exU_n, ↓exU_e, ↓uLen_s, ↓uLss_nn, decide_eq_true hlt, ↓eT_t, ↓cn_true, ↓uIdxS_n _ _ hs hx, ↓uEq_bb, xo_f, decide_eq_true h46, ↓uSlS_n0 _ _ (show i ≤ s.length by omega), show Nat.beq 2 3 = false from rfl, ↓cn_false]
    · obtain ⟨i', m', o', p', e1⟩ := ih (i + 1) mm (.t true) (.t false) (by omega) (fun b hb => by
        rw [List.take_add_one, hx] at hb
        simp only [Option.toList_some, List.mem_append, List.mem_cons, List.not_mem_nil, or_false] at hb
        rcases hb with hb | rfl
        · exact hno b hb
        · exact h46) M (by omega)
      refine ⟨i', m', o', p', fun κ => ?_⟩
      rw [loopNU_succ, ← e1 κ]
      generalize loopNU (u69_22 (clU kindD m) N) κ M = rec
      simp only [↓u69_22_s, ↓u69_22t1_s, ↓seqU_eq, ↓condU_eq, ↓blockU_eq, ↓skipU_eq, ↓exitU_eq, ↓u69_16, ↓u69_17, ↓u69_18, ↓u69_19, ↓u69_21, ↓m19_mk, ↓k19_mk, ↓exU_n, ↓exU_e, ↓uLen_s, ↓uLss_nn, decide_eq_true hlt, ↓eT_t, ↓cn_true, ↓uIdxS_n _ _ hs hx, ↓uEq_bb, xo_f, decide_eq_false h46, ↓cn_false, hadd]
/-- A node in memory: four cells. -/
def nodeC (nd : NdS) : List FV := [.n nd.k, .s nd.name, .s nd.pa, .s nd.pb]
theorem nodeC_fi (nd : NdS) : ∀ w ∈ nodeC nd, Fi w := by
  intro w hw
  simp only [nodeC, List.mem_cons, List.not_mem_nil, or_false] at hw
  rcases hw with rfl | rfl | rfl | rfl
  · exact Fi.n _
  · exact Fi.s _
  · exact Fi.s _
  · exact Fi.s _
structure Nd (F : FAW) (y : Nat) (nd : NdS) : Prop where
  row : F.row y = some (nodeC nd, 38, 4, y, false)
  fam : F.fam y = some (false, 4)
theorem nd0 (F : FAW) (f : KU) : uNewF 38 4 [(.n 0), (.s []), (.s []), (.s [])] F f = f (.p F.x 0) (F.new (nodeC ⟨0, [], [], []⟩) 38 4) := by
  have e : uNewF 38 4 [(.n 0), (.s []), (.s []), (.s [])] F f = newU (nodeC ⟨0, [], [], []⟩) 38 4 F fun i F' => f (.p i 0) F' := rfl
  rw [e, newU_new]
theorem Nd.new (F : FAW) (nd : NdS) : Nd (F.new (nodeC nd) 38 4) F.x nd := ⟨by rw [row_new, if_pos rfl], by rw [fam_new, if_pos rfl]; rfl⟩
section
variable {F : FAW} {y : Nat} {nd : NdS} (h : Nd F y nd) (f : KU)
include h
theorem Nd.ld : uLd (some 4) (.p y 0) F f = f (.a (nodeC nd)) F := uLd_agg f h.row (by simp [nodeC]) (fun w hw => nodeC_fi nd w (by simpa [nodeC] using hw))
theorem Nd.st (nd' : NdS) : uSt 4 (.p y 0) (.a (nodeC nd')) F f = f (.u []) (F.put y (nodeC nd')) := uSt_agg (vs := nodeC nd') f h.row h.fam (by simp [nodeC]) rfl (nodeC_fi nd) (nodeC_fi nd')
theorem Nd.put (nd' : NdS) : Nd (F.put y (nodeC nd')) y nd' := ⟨by rw [row_put, if_pos rfl, h.row]; rfl, by rw [fam_put]; exact h.fam⟩
theorem Nd.l0 : uLd none (.p y 0) F f = f (.n nd.k) F := uLd_row f h.row rfl (Fi.n _)
theorem Nd.l1 : uLd none (.p y 1) F f = f (.s nd.name) F := uLd_row f h.row rfl (Fi.s _)
theorem Nd.l2 : uLd none (.p y 2) F f = f (.s nd.pa) F := uLd_row f h.row rfl (Fi.s _)
theorem Nd.l3 : uLd none (.p y 3) F f = f (.s nd.pb) F := uLd_row f h.row rfl (Fi.s _)
theorem Nd.sa (t : List Nat) : uSt 1 (.p y 2) (.s t) F f = f (.u []) (F.put y (nodeC ⟨nd.k, nd.name, t, nd.pb⟩)) := uSt_row f h.row h.fam (by simp [nodeC]) (show (nodeC nd)[2]? = some (.s nd.pa) from rfl) (Fi.s _) (Fi.s t)
theorem Nd.sb (t : List Nat) : uSt 1 (.p y 3) (.s t) F f = f (.u []) (F.put y (nodeC ⟨nd.k, nd.name, nd.pa, t⟩)) := uSt_row f h.row h.fam (by simp [nodeC]) (show (nodeC nd)[3]? = some (.s nd.pb) from rfl) (Fi.s _) (Fi.s t)
omit f in
theorem Nd.std {F' : FAW} {A : Nat → Prop} (s : Std F F' A nof) (hA : ¬ A y) : Nd F' y nd := ⟨s.row _ _ hA h.row, s.fam _ _ (fun h => h) h.fam⟩
omit f in
theorem Nd.lt (hw : Wf F) : y < F.x := hw.row _ _ h.row
end
/-- What the reader of a node does. -/
def NodeOk (k deep m x : Nat) (l : List Nat) : Prop := ∀ (F : FAW) (i : Nat), Tp F x l i 0 → Wf F → i ≤ l.length →
  ∃ F', clU kindD m 69 [.p x 0, .n deep] F = .ok (.a (nodeC (nodeR l k deep i).1)) F' ∧ Tp F' x l (nodeR l k deep i).2.1 (nodeR l k deep i).2.2 ∧ Std F F' (fun j => j = x) nof ∧ Wf F' ∧ i ≤ (nodeR l k deep i).2.1 ∧ (nodeR l k deep i).2.1 ≤ l.length
theorem rsg_le {l : List Nat} {c i : Nat} (h : i ≤ l.length) : i ≤ (rsg l c i).1 ∧ (rsg l c i).1 ≤ l.length := by
  unfold rsg
  split
  · rename_i hx
    have := (List.getElem?_eq_some_iff.mp hx).1
    exact ⟨by simp, by simp; omega⟩
  · exact ⟨Nat.le_refl _, h⟩
theorem s98 {l : List Nat} (hl : Bs l) (hL : l.length ≤ 1000000) {k deep m x : Nat} (hd : deep + 1 ≤ 1000) (ih : NodeOk k (deep + 1) (m + 1) x l) {F : FAW} {i : Nat} (h : Tp F x l i 0) (hw : Wf F) (hi : i ≤ l.length) (c : Nat) :
    ∃ F', clU kindD (m + 2) 98 [.p x 0, .b c, .n deep] F = .ok (.s (partR (nodeR l k (deep + 1)) l c i).1) F' ∧ Tp F' x l (partR (nodeR l k (deep + 1)) l c i).2.1 (partR (nodeR l k (deep + 1)) l c i).2.2 ∧ Std F F' (fun j => j = x) nof ∧ Wf F' ∧ i ≤ (partR (nodeR l k (deep + 1)) l c i).2.1 ∧ (partR (nodeR l k (deep + 1)) l c i).2.1 ≤ l.length := by
  rw [cl98, u98_in]
  obtain ⟨F1, e1, t1, o1⟩ := s99 m h hw hl hi hL c
  obtain ⟨el, hr⟩ := h.row
  have w1 := o1.wf hw hr
  have st1 := o1.std nof
  obtain ⟨b1, b2⟩ := rsg_le (l := l) (c := c) hi
  simp only [↓u98b_s, ↓u98bt1_s, ↓u98bt2_s, ↓u98bt3_s, ↓seqU_eq, ↓condU_eq, ↓skipU_eq, ↓u98_0, ↓u98_1, ↓u98_2, ↓u98_4, ↓u98_5, ↓m7_mk, ↓k7_mk, ↓exU_n, ↓h.g2, ↓uEq_nn, decide_true, xo_t, Bool.not_true, ↓eT_t, ↓cn_false, ↓uCall_eq, ↓e1, ↓goOn_ok, ↓t1.g1]
  unfold partR
  by_cases hz : (rsg l c i).2 = 0
  · rw [if_pos hz]
    rw [hz] at t1
    obtain ⟨F2, e2, t2, st2, w2, b3, b4⟩ := ih F1 _ t1 w1 b2
    simp only [↓u98bt4_s, ↓seqU_eq, ↓condU_eq, ↓u98_6, ↓u98_7, ↓u98_8, ↓m7_mk, ↓k7_mk, ↓exU_n, ↓t1.g2, ↓uEq_nn, decide_true, xo_f, ↓eT_t, ↓cn_true, ↓uCall_eq, ↓uAdd_nn _ _ (show deep + 1 ≤ 9223372036854775807 by omega), ↓e2, ↓goOn_ok]
    simp only [↓u98bt5_s, ↓seqU_eq, ↓retU_eq, ↓u98_9, ↓m7_mk, ↓exU_n, ↓exU_r, ↓t2.g0, ↓t2.g1, ↓uSlS_nn _ _ b3 b4, ↓u98r_mk]
    exact ⟨F2, rfl, t2, st1.trans st2, w2, by omega, b4⟩
  · rw [if_neg hz]
    simp only [↓u98bt4_s, ↓seqU_eq, ↓condU_eq, ↓skipU_eq, ↓u98_6, ↓u98_7, ↓m7_mk, ↓k7_mk, ↓exU_n, ↓t1.g2, ↓uEq_nn, decide_eq_false hz, xo_f, ↓eT_t, ↓cn_false]
    simp only [↓u98bt5_s, ↓seqU_eq, ↓retU_eq, ↓u98_9, ↓m7_mk, ↓exU_n, ↓exU_r, ↓t1.g0, ↓t1.g1, ↓uSlS_nn _ _ (Nat.le_refl _) b2, ↓u98r_mk, Nat.sub_self, List.take_zero]
    exact ⟨F1, rfl, t1, st1, w1, b1, b2⟩
theorem std_put_x {F F1 : FAW} {x : Nat} (h : Std F F1 (fun j => j = x) nof) (c : List FV) : Std F (F1.put x c) (fun j => j = x) nof := h.trans ((Oth.put F1 x c).std _)
theorem std_put_new {F F1 : FAW} {x y : Nat} (hF : Wf F) (h : Std F F1 (fun j => j = x) nof) (hy : F.x ≤ y) (c : List FV) : Std F (F1.put y c) (fun j => j = x) nof :=
  Std.trans_new hF h ((Oth.put F1 y c).std nof) (fun j hj hq => by omega) (fun _ _ h => h)
theorem Tp.put_other {F : FAW} {x : Nat} {l : List Nat} {i e : Nat} (h : Tp F x l i e) {y : Nat} (hy : y ≠ x) (c : List FV) : Tp (F.put y c) x l i e := h.std ((Oth.put F y c).std nof) (fun q => hy q.symm)
theorem Nd.put_other {F : FAW} {y : Nat} {nd : NdS} (h : Nd F y nd) {x : Nat} (hx : x ≠ y) (c : List FV) : Nd (F.put x c) y nd := h.std ((Oth.put F x c).std nof) (fun q => hx q.symm)
theorem bld0 (F : FAW) (f : KU) : uBuildF [(.n 0), (.s []), (.s []), (.s [])] [] F f = f (.a (nodeC ⟨0, [], [], []⟩)) F := rfl
theorem bldN (F : FAW) (f : KU) (t : List Nat) : uBuildF [(.n 0), (.s []), (.s []), (.s [])] [(1, 1, .s t)] F f = f (.a (nodeC ⟨0, t, [], []⟩)) F := rfl
theorem bldK (F : FAW) (f : KU) (k : Nat) : uBuildF [(.n 0), (.s []), (.s []), (.s [])] [(0, 1, .n k)] F f = f (.a (nodeC ⟨k, [], [], []⟩)) F := rfl
theorem s98e (m deep c : Nat) {F : FAW} {x : Nat} {l : List Nat} {i e : Nat} (h : Tp F x l i e) (he : e ≠ 0) : clU kindD (m + 1) 98 [.p x 0, .b c, .n deep] F = .ok (.s []) F := by
  rw [cl98, u98_in]
  simp only [↓u98b_s, ↓u98bt1_s, ↓seqU_eq, ↓condU_eq, ↓retU_eq, ↓u98_0, ↓u98_1, ↓u98_2, ↓u98_3, ↓m7_mk, ↓k7_mk, ↓exU_n, ↓exU_r, ↓h.g2, ↓uEq_nn, decide_eq_false he, xo_t, Bool.not_false, ↓eT_t, ↓cn_true, ↓u98r_mk]
theorem s69 {l : List Nat} {x : Nat} (hl : Bs l) (hL : l.length ≤ 1000000) (n : Nat) (hn : l.length < n) : ∀ (k deep : Nat), deep ≤ 13 → 13 < deep + k → NodeOk k deep (n + 2 * k + 1) x l
  | 0, deep, hd, hk => by omega
  | k + 1, deep, hd, hk => by
    intro F i h hw hi
    rw [show n + 2 * (k + 1) + 1 = (n + 2 * k) + 2 + 1 by omega, cl69, u69_in]
    have hxl := h.lt hw
    have st0 := Std.new hw (nodeC ⟨0, [], [], []⟩) 38 4 (fun j => j = x) nof
    have st0' := Std.new hw (nodeC ⟨0, [], [], []⟩) 38 4 (fun _ => False) nof
    have w0 := hw.new (nodeC ⟨0, [], [], []⟩) 38 4
    have t0 := h.std st0' (fun h => h)
    have d0 := Nd.new F ⟨0, [], [], []⟩
    generalize hF0 : F.new (nodeC ⟨0, [], [], []⟩) 38 4 = F0 at *
    have hx0 : F0.x = F.x + 1 := by rw [← hF0]; rfl
    obtain ⟨F1, k2, e1, t1, o1⟩ := loop69 (n + 2 * k + 1) (n + 2 * k + 2) hl hL (.n deep) (.p F.x 0) (.n i) (.u []) (.u []) (.u []) (.u []) (.u []) (.u []) (.u []) (.u []) (.u []) (.u []) (.u []) (.u []) (.u []) (.u []) (l.length - i) i F0 (.u []) t0 hi (Nat.le_refl _) (n + 2 * k + 2) (by omega)
    obtain ⟨el, hr0⟩ := t0.row
    have w1 := o1.wf w0 hr0
    have d1 := d0.std (o1.std nof) (by omega)
    have hj := runL_le l i hi
    have hpre := runL_pre l i
    have hnb : Bs (runL (l.drop i)) := by rw [← hpre]; exact (hl.drop _).take _
    have st1 : Std F F1 (fun j => j = x) nof := st0.trans (o1.std nof)
    have hx1 : F1.x = F.x + 1 := by rw [o1.x, hx0]
    simp only [↓u69b_s, ↓u69bt1_s, ↓u69bt2_s, ↓seqU_eq, ↓blockU_eq, ↓loopU_eq, ↓u69_0, ↓u69_1, ↓m19_mk, ↓exU_n, ↓nd0, hF0, ↓t0.g1]
    rw [e1, exU_e, show Nat.beq 0 0 = true from rfl, cn_true]
    rw [nodeR]
    have hfar : clU kindD (n + 2 * k + 2) 96 [.s (runL (l.drop i))] F1 = _ := s96 (n + 2 * k) hnb (by omega) (by omega) F1
    simp only [↓u69bt3_s, ↓u69bt4_s, ↓seqU_eq, ↓condU_eq, ↓u69_6, ↓u69_7, ↓u69_8, ↓m19_mk, ↓k19_mk, ↓exU_n, ↓t1.g0, ↓t1.g1, ↓uSlS_nn _ _ (show i ≤ i + (runL (l.drop i)).length by omega) hj, Nat.add_sub_cancel_left, hpre, ↓uCall_eq, ↓hfar, ↓goOn_ok, ↓uNot_t, ↓eT_t]
    generalize hnm : runL (l.drop i) = nm at *
    -- a node is told, and the reader turned or not
    have hj' : i + nm.length ≤ l.length := hj
    have hyx : F.x ≠ x := by omega
    by_cases c1 : farG true nm = false
    · simp only [c1, Bool.not_false, ↓cn_true, if_true, ↓seqU_eq, ↓retU_eq, ↓u69_9, ↓u69_10, ↓m19_mk, ↓exU_n, ↓exU_r, ↓uNilc_p, ↓uFad_p, Nat.zero_add, ↓t1.s2, ↓bld0, ↓(d1.put_other hyx.symm _).st, ↓u69r_mk, ↓((d1.put_other hyx.symm _).put _).ld]
      exact ⟨_, rfl, (t1.put _ _).put_other hyx _, std_put_new hw (std_put_x st1 _) (Nat.le_refl _) _, (w1.put _ _).put _ _, by simp, hj'⟩
    · have c1 : farG true nm = true := by simpa using c1
      have hb97 : clU kindD (n + 2 * k + 2) 97 [.s nm] F1 = _ := s97 (n + 2 * k + 1) F1 hnb
      simp only [c1, Bool.not_true, ↓cn_false, Bool.true_eq_false, if_false, ↓skipU_eq, ↓exU_n, ↓u69bt5_s, ↓u69bt6_s, ↓seqU_eq, ↓condU_eq, ↓u69_11, ↓u69_12, ↓u69_13, ↓m19_mk, ↓k19_mk, ↓uCall_eq, ↓hb97, ↓goOn_ok, ↓uEq_nn, xo_f, ↓eT_t]
      by_cases c2 : wordK nm = 0
      · simp only [c2, decide_true, ↓cn_true, if_true, ↓seqU_eq, ↓blockU_eq, ↓loopU_eq, ↓u69_14, ↓u69_15, ↓m19_mk, ↓exU_n]
        obtain ⟨i', m', o', p', e2⟩ := loop69b (n + 2 * k + 2) (n + 2 * k + 2) hnb (by omega) (.p x 0) (.n deep) (.p F.x 0) (.n i) (.n 0) (.u []) k2 (.t false) (.u []) (.u []) (.u []) (.u []) (.u []) F1 nm.length 0 (.t true) (.u []) (.u []) (by omega) (by simp) (n + 2 * k + 2) (by omega)
        rw [e2, exU_e, show Nat.beq 2 2 = true from rfl, cn_true]
        have hbf : Bs (firstS nm) := fun y hy => hnb y (List.takeWhile_subset _ hy)
        have hb97' : clU kindD (n + 2 * k + 2) 97 [.s (firstS nm)] F1 = _ := s97 (n + 2 * k + 1) F1 hbf
        by_cases c3 : wordK (firstS nm) = 0
        · simp only [↓u69_23, ↓u69_24, ↓m19_mk, ↓k19_mk, ↓exU_n, ↓uCall_eq, ↓hb97', ↓goOn_ok, ↓uEq_nn, c3, decide_true, xo_t, Bool.not_true, ↓eT_t, ↓cn_false, ↓u69_26, ↓retU_eq, ↓exU_r, ↓bldN, ↓d1.st, ↓u69r_mk, ↓(d1.put _).ld, ne_eq, not_true_eq_false, if_false]
          exact ⟨_, rfl, t1.put_other hyx _, std_put_new hw st1 (Nat.le_refl _) _, w1.put _ _, by simp, hj'⟩
        · simp only [↓u69_23, ↓u69_24, ↓u69_25, ↓m19_mk, ↓k19_mk, ↓exU_n, ↓uCall_eq, ↓hb97', ↓goOn_ok, ↓uEq_nn, c3, decide_false, xo_t, Bool.not_false, ↓eT_t, ↓cn_true, ↓uNilc_p, ↓uFad_p, Nat.zero_add, ↓t1.s2, ↓u69_26, ↓retU_eq, ↓exU_r, ↓bldN, ↓(d1.put_other hyx.symm _).st, ↓u69r_mk, ↓((d1.put_other hyx.symm _).put _).ld, ne_eq, not_false_eq_true, if_true]
          exact ⟨_, rfl, (t1.put _ _).put_other hyx _, std_put_new hw (std_put_x st1 _) (Nat.le_refl _) _, (w1.put _ _).put _ _, by simp, hj'⟩
      · simp only [c2, decide_false, ↓cn_false, if_false, ↓skipU_eq, ↓exU_n, ↓u69bt7_s]
        have hin : innerK (wordK nm) = 0 ↔ ¬ wordK nm = 15 ∧ ¬ wordK nm = 14 ∧ ¬ wordK nm = 13 := by
          unfold innerK
          constructor
          · intro h
            split at h
            · cases h
            · rename_i h1
              split at h
              · cases h
              · rename_i h2
                exact ⟨fun h => h1 (.inl h), fun h => h1 (.inr h), h2⟩
          · rintro ⟨h1, h2, h3⟩
            rw [if_neg (by rintro (h | h); exact h1 h; exact h2 h), if_neg h3]
        by_cases c3 : innerK (wordK nm) = 0
        · obtain ⟨h15, h14, h13⟩ := hin.mp c3
          simp only [c3, if_true, ↓seqU_eq, ↓condU_eq, ↓retU_eq, ↓u69_27, ↓u69_28, ↓u69_29, ↓m19_mk, ↓k19_mk, ↓exU_n, ↓exU_r, ↓uEq_nn, xo_t, decide_eq_false h15, decide_eq_false h14, decide_eq_false h13, Bool.not_false, ↓eT_t, ↓cn_true, ↓bldK, ↓d1.st, ↓u69r_mk, ↓(d1.put _).ld]
          exact ⟨_, rfl, t1.put_other hyx _, std_put_new hw st1 (Nat.le_refl _) _, w1.put _ _, by simp, hj'⟩
        · have hk3 : wordK nm = 15 ∨ wordK nm = 14 ∨ wordK nm = 13 := by
            by_cases h15 : wordK nm = 15
            · exact .inl h15
            · by_cases h14 : wordK nm = 14
              · exact .inr (.inl h14)
              · exact .inr (.inr (Decidable.byContradiction fun h13 => c3 (hin.mpr ⟨h15, h14, h13⟩)))
          have h27 : ∀ κ : EX → W19 → FAW → RU, ∀ v1 v2 v3 v4 v5 v6 v7 v8 v9 v10 v11 v12 v13 v14 v15 v16 v17 v18 : FV, (u69_27 (clU kindD (n + 2 * k + 2))) (.mk v1 v2 v3 v4 v5 (.n (wordK nm)) v6 v7 v8 v9 v10 v11 v12 v13 v14 v15 v16 v17 v18) F1 κ = κ .normal (.mk v1 v2 v3 v4 v5 (.n (wordK nm)) v6 v7 v8 v9 v10 v11 v12 v13 v14 (.t false) v16 v17 v18) F1 := by
            intro κ v1 v2 v3 v4 v5 v6 v7 v8 v9 v10 v11 v12 v13 v14 v15 v16 v17 v18
            rcases hk3 with h | h | h <;> rw [h] <;> simp only [↓u69_27, ↓m19_mk, ↓uEq_nn, xo_t, decide_true, Bool.not_true, ↓eT_t, ↓cn_false, show decide (14 = 15) = false from rfl, show decide (13 = 15) = false from rfl, show decide (13 = 14) = false from rfl, Bool.not_false, ↓cn_true]
          simp only [c3, if_false, ↓seqU_eq, ↓condU_eq, ↓skipU_eq, ↓h27, ↓u69_28, ↓k19_mk, ↓exU_n, ↓eT_t, ↓cn_false, ↓u69bt8_s, ↓u69_30, ↓u69_31, ↓m19_mk, ↓uGtr_nn]
          by_cases c4 : 12 < deep
          · simp only [c4, decide_true, ↓cn_true, if_true, ↓seqU_eq, ↓retU_eq, ↓u69_32, ↓u69_33, ↓m19_mk, ↓exU_n, ↓exU_r, ↓uNilc_p, ↓uFad_p, Nat.zero_add, ↓t1.s2, ↓bld0, ↓(d1.put_other hyx.symm _).st, ↓u69r_mk, ↓((d1.put_other hyx.symm _).put _).ld]
            exact ⟨_, rfl, (t1.put _ _).put_other hyx _, std_put_new hw (std_put_x st1 _) (Nat.le_refl _) _, (w1.put _ _).put _ _, by simp, hj'⟩
          · simp only [c4, decide_false, ↓cn_false, if_false, ↓exU_n, ↓u69bt9_s, ↓seqU_eq, ↓u69_34, ↓m19_mk, ↓bldK, ↓nd0]
            have n2 := Nd.new F1 ⟨0, [], [], []⟩
            have w2 := w1.new (nodeC ⟨0, [], [], []⟩) 38 4
            have sn := Std.new w1 (nodeC ⟨0, [], [], []⟩) 38 4 (fun _ => False) nof
            have t2 := t1.std sn (fun h => h)
            have d2 := d1.std sn (fun h => h)
            have st2 : Std F (F1.new (nodeC ⟨0, [], [], []⟩) 38 4) (fun j => j = x) nof := st1.trans (Std.new w1 _ _ _ _ _)
            have hzx : F1.x ≠ x := by omega
            have hzy : F1.x ≠ F.x := by omega
            have hzF : F.x ≤ F1.x := by omega
            generalize hF2 : F1.new (nodeC ⟨0, [], [], []⟩) 38 4 = F2 at *
            generalize hz : F1.x = z at *
            simp only [↓n2.st, ↓exU_n, ↓u69bt10_s, ↓seqU_eq, ↓u69_35, ↓m19_mk, ↓uCall_eq]
            have n3 := n2.put ⟨wordK nm, [], [], []⟩
            have t3 := t2.put_other hzx (nodeC ⟨wordK nm, [], [], []⟩)
            have d3 := d2.put_other hzy (nodeC ⟨wordK nm, [], [], []⟩)
            have w3 := w2.put z (nodeC ⟨wordK nm, [], [], []⟩)
            have st3 := std_put_new hw st2 hzF (nodeC ⟨wordK nm, [], [], []⟩)
            generalize F2.put z (nodeC ⟨wordK nm, [], [], []⟩) = F3 at *
            have ih := s69 (x := x) hl hL n hn k (deep + 1) (by omega) (by omega)
            obtain ⟨F4, e4, t4, s4, w4, b4, b5⟩ := s98 hl hL (m := n + 2 * k) (by omega) ih t3 w3 hj' 60
            simp only [↓e4, ↓goOn_ok, ↓uFad_p, Nat.zero_add]
            have n4 := n3.std s4 hzx
            have d4 := d3.std s4 hyx
            have st4 := st3.trans s4
            generalize partR (nodeR l k (deep + 1)) l 60 (i + nm.length) = A at *
            obtain ⟨Aa, Ai, Ae⟩ := A
            simp only at t4 b4 b5 ⊢
            simp only [↓n4.sa, ↓exU_n, ↓u69bt11_s, ↓seqU_eq, ↓condU_eq, ↓u69_36, ↓u69_37, ↓m19_mk, ↓k19_mk, ↓uEq_nn, xo_f, ↓eT_t]
            have n5 := n4.put ⟨wordK nm, [], Aa, []⟩
            have t5 := t4.put_other hzx (nodeC ⟨wordK nm, [], Aa, []⟩)
            have d5 := d4.put_other hzy (nodeC ⟨wordK nm, [], Aa, []⟩)
            have w5 := w4.put z (nodeC ⟨wordK nm, [], Aa, []⟩)
            have st5 := std_put_new hw st4 hzF (nodeC ⟨wordK nm, [], Aa, []⟩)
            generalize F4.put z (nodeC ⟨wordK nm, [], Aa, []⟩) = F5 at *
            -- what stands behind
            have fin : ∀ (F6 : FAW) (nd : NdS) (bi be : Nat) (o p q r s t : FV), Nd F6 z nd → Tp F6 x l bi be → Nd F6 F.x ⟨0, [], [], []⟩ → Wf F6 → Std F F6 (fun j => j = x) nof → i ≤ bi → bi ≤ l.length →
                ∃ F', (u69bt12 (clU kindD (n + 2 * k + 2)) (n + 2 * k + 2) (.mk (.p x 0) (.n deep) (.p F.x 0) (.n i) (.s nm) (.n (wordK nm)) (.u []) (.u []) (.p z 0) k2 (.t false) (.t false) o p q r s t (.u [])) F6 fun o v F => exU o (u69r v F) (fun _ => .no) (u69r v F)) = .ok (.a (nodeC nd)) F' ∧
                  Tp F' x l (if be = 0 then rsg l 62 bi else (bi, be)).1 (if be = 0 then rsg l 62 bi else (bi, be)).2 ∧ Std F F' (fun j => j = x) nof ∧ Wf F' ∧ i ≤ (if be = 0 then rsg l 62 bi else (bi, be)).1 ∧ (if be = 0 then rsg l 62 bi else (bi, be)).1 ≤ l.length := by
              intro F6 nd bi be o p q r s t n6 t6 d6 w6 st6 hb1 hb2
              by_cases hbe : be = 0
              · subst hbe
                obtain ⟨F7, e7, t7, o7⟩ := s99 (n + 2 * k + 1) t6 w6 hl hb2 hL 62
                have e7' : clU kindD (n + 2 * k + 2) 99 [.p x 0, .b 62] F6 = _ := e7
                obtain ⟨el6, hr6⟩ := t6.row
                have n7 := n6.std (o7.std nof) hzx
                have d7 := d6.std (o7.std nof) hyx
                have w7 := o7.wf w6 hr6
                have st7 := st6.trans (o7.std nof)
                have hle := rsg_le (l := l) (c := 62) hb2
                simp only [↓u69bt12_s, ↓u69bt13_s, ↓seqU_eq, ↓condU_eq, ↓retU_eq, ↓u69_39, ↓u69_40, ↓u69_41, ↓u69_42, ↓m19_mk, ↓k19_mk, ↓exU_n, ↓exU_r, ↓t6.g2, ↓uEq_nn, xo_f, decide_true, ↓eT_t, ↓cn_true, ↓uCall_eq, ↓e7', ↓goOn_ok, ↓n7.ld, ↓d7.st, ↓u69r_mk, ↓(d7.put nd).ld, if_true]
                exact ⟨_, rfl, t7.put_other hyx _, std_put_new hw st7 (Nat.le_refl _) _, w7.put _ _, by omega, hle.2⟩
              · simp only [↓u69bt12_s, ↓u69bt13_s, ↓seqU_eq, ↓condU_eq, ↓skipU_eq, ↓retU_eq, ↓u69_39, ↓u69_40, ↓u69_42, ↓m19_mk, ↓k19_mk, ↓exU_n, ↓exU_r, ↓t6.g2, ↓uEq_nn, xo_f, decide_eq_false hbe, ↓eT_t, ↓cn_false, ↓n6.ld, ↓d6.st, ↓u69r_mk, ↓(d6.put nd).ld, hbe, if_false]
                exact ⟨_, rfl, t6.put_other hyx _, std_put_new hw st6 (Nat.le_refl _) _, w6.put _ _, hb1, hb2⟩
            by_cases c5 : wordK nm = 13
            · simp only [c5, decide_true, ↓cn_true, ↓u69_38, ↓m19_mk, ↓uCall_eq, if_true]
              by_cases hAe : Ae = 0
              · subst hAe
                obtain ⟨F6, e6, t6, s6, w6, b6, b7⟩ := s98 hl hL (m := n + 2 * k) (by omega) ih t5 w5 b5 44
                have n6 := n5.std s6 hzx
                have d6 := d5.std s6 hyx
                have st6 := st5.trans s6
                simp only [↓e6, ↓goOn_ok, ↓uFad_p, Nat.zero_add, if_true]
                generalize partR (nodeR l k (deep + 1)) l 44 Ai = B at *
                obtain ⟨Ba, Bi, Be⟩ := B
                simp only at t6 b6 b7 ⊢
                simp only [↓n6.sb, ↓exU_n]
                rw [← c5]
                exact fin _ ⟨wordK nm, [], Aa, Ba⟩ Bi Be _ _ _ _ _ _ (by rw [c5] at n6 ⊢; exact n6.put _) (t6.put_other hzx _) (d6.put_other hzy _) (w6.put _ _) (std_put_new hw st6 hzF _) (by omega) b7
              · simp only [↓s98e _ _ _ t5 hAe, ↓goOn_ok, ↓uFad_p, Nat.zero_add, hAe, if_false]
                simp only [↓n5.sb, ↓exU_n]
                have hC : (if Ae = 0 then rsg l 62 Ai else (Ai, Ae)) = (Ai, Ae) := if_neg hAe
                have f := fun o p q r s t => fin _ ⟨wordK nm, [], Aa, []⟩ Ai Ae o p q r s t (n5.put _) (t5.put_other hzx _) (d5.put_other hzy _) (w5.put _ _) (std_put_new hw st5 hzF _) (by omega) b5
                simp only [hC] at f
                rw [← c5]
                exact f _ _ _ _ _ _
            · simp only [c5, decide_false, ↓cn_false, ↓skipU_eq, ↓exU_n, if_false]
              exact fin F5 ⟨wordK nm, [], Aa, []⟩ Ai Ae _ _ _ _ _ _ n5 t5 d5 w5 st5 (by omega) b5
end Go.Proofs.Ytgejdfhfgphcbaa.Ev
/- Kind: the document's heads, depths, names. -/
namespace Go.Proofs.Ytgejdfhfgphcbaa.Ev
open Go Go.RowKit
set_option linter.unusedVariables false
set_option linter.constructorNameAsVariable false
set_option linter.unusedSimpArgs false
set_option linter.unusedSectionVars false

def headN (l : List Nat) : NdS := if headE l = 0 then (nodeR l 14 1 0).1 else ⟨0, [], [], []⟩
theorem Std.put_new {F F1 : FAW} {y : Nat} (hF : Wf F) (h : Std F F1 nof nof) (hy : F.x ≤ y) (c : List FV) : Std F (F1.put y c) nof nof :=
  Std.trans_new hF h ((Oth.put F1 y c).std nof) (fun j hj hq => by omega) (fun _ _ h => h)
theorem s22 {l : List Nat} (hl : Bs l) (hL : l.length ≤ 1000000) (n : Nat) (hn : l.length < n) {F : FAW} (hF : Wf F) :
    ∃ F', clU kindD (n + 30) 22 [.s l] F = .ok (.u [.a (nodeC (headN l)), .n (headE l)]) F' ∧ Std F F' nof nof ∧ Wf F' := by
  rw [cl22, u22_in]
  have w0 := hF.new (nodeC ⟨0, [], [], []⟩) 38 4
  have s0 := Std.new hF (nodeC ⟨0, [], [], []⟩) 38 4 nof nof
  have d0 := Nd.new F ⟨0, [], [], []⟩
  have hx0 : (F.new (nodeC ⟨0, [], [], []⟩) 38 4).x = F.x + 1 := rfl
  have hbox : ∀ f : KU, uBuildF [(.s []), (.n 0), (.n 0)] [(0, 1, .s l)] (F.new (nodeC ⟨0, [], [], []⟩) 38 4) (fun v0 S => uBox 99 3 v0 S f) = f (.p (F.x + 1) 0) ((F.new (nodeC ⟨0, [], [], []⟩) 38 4).new [.s l, .n 0, .n 0] 99 3) := fun f => by
    have e : uBuildF [(.s []), (.n 0), (.n 0)] [(0, 1, .s l)] (F.new (nodeC ⟨0, [], [], []⟩) 38 4) (fun v0 S => uBox 99 3 v0 S f) = uBox 99 3 (.a [.s l, .n 0, .n 0]) (F.new (nodeC ⟨0, [], [], []⟩) 38 4) f := rfl
    rw [e, uBox_a]; rfl
  simp only [↓u22b_s, ↓u22bt1_s, ↓seqU_eq, ↓u22_0, ↓u22_1, ↓m7_mk, ↓exU_n, ↓nd0, ↓hbox]
  generalize F.new (nodeC ⟨0, [], [], []⟩) 38 4 = F0 at *
  have t1 : Tp (F0.new [.s l, .n 0, .n 0] 99 3) (F.x + 1) l 0 0 := ⟨⟨99, by rw [row_new, if_pos hx0.symm, hx0]⟩, ⟨3, by rw [fam_new, if_pos hx0.symm]; exact ⟨rfl, Nat.le_refl _⟩⟩⟩
  have w1 := w0.new [.s l, .n 0, .n 0] 99 3
  have sn := Std.new w0 [.s l, .n 0, .n 0] 99 3 nof nof
  have d1 := d0.std sn (fun h => h)
  have s1 := s0.trans sn
  have hx1 : (F0.new [.s l, .n 0, .n 0] 99 3).x = F.x + 2 := by show F0.x + 1 = _; omega
  generalize F0.new [.s l, .n 0, .n 0] 99 3 = F1 at *
  obtain ⟨F2, e2, t2, s2, w2, b1, b2⟩ := s69 hl hL n hn 14 1 (by decide) (by decide) F1 0 t1 w1 (Nat.zero_le _)
  have e2' : clU kindD (n + 29) 69 [.p (F.x + 1) 0, .n 1] F1 = _ := e2
  have d2 := d1.std s2 (by omega)
  have st2 : Std F F2 nof nof := Std.trans_new hF s1 s2 (fun j hj hq => by omega) (fun _ _ h => h)
  have n3 := Nd.new F2 ⟨0, [], [], []⟩
  have w3 := w2.new (nodeC ⟨0, [], [], []⟩) 38 4
  have sn3 := Std.new w2 (nodeC ⟨0, [], [], []⟩) 38 4 nof nof
  have t3 := t2.std sn3 (fun h => h)
  have d3 := d2.std sn3 (fun h => h)
  have st3 := st2.trans sn3
  have hx2 := s2.x
  simp only [↓u22bt2_s, ↓seqU_eq, ↓u22_2, ↓m7_mk, ↓exU_n, ↓uCall_eq, ↓e2', ↓goOn_ok, ↓nd0]
  have hz1 : F2.x ≠ F.x + 1 := by omega
  have hz0 : F2.x ≠ F.x := by omega
  have hzF : F.x ≤ F2.x := by omega
  generalize F2.new (nodeC ⟨0, [], [], []⟩) 38 4 = F3 at *
  generalize F2.x = z at *
  simp only [↓n3.st, ↓exU_n]
  have n4 := n3.put (nodeR l 14 1 0).1
  have t4 := t3.put_other hz1 (nodeC (nodeR l 14 1 0).1)
  have d4 := d3.put_other hz0 (nodeC (nodeR l 14 1 0).1)
  have w4 := w3.put z (nodeC (nodeR l 14 1 0).1)
  have st4 := Std.put_new hF st3 hzF (nodeC (nodeR l 14 1 0).1)
  generalize F3.put z (nodeC (nodeR l 14 1 0).1) = F4 at *
  have hE : headE l = if (nodeR l 14 1 0).2.2 = 0 ∧ (nodeR l 14 1 0).2.1 < l.length then 2 else (nodeR l 14 1 0).2.2 := rfl
  have hN : headN l = if headE l = 0 then (nodeR l 14 1 0).1 else ⟨0, [], [], []⟩ := rfl
  generalize (nodeR l 14 1 0).2.1 = ii at *
  generalize (nodeR l 14 1 0).2.2 = ee at *
  generalize (nodeR l 14 1 0).1 = nd at *
  -- behind the last test
  have fin : ∀ (F5 : FAW) (e : Nat) (g h : FV), Nd F5 z nd → Tp F5 (F.x + 1) l ii e → Nd F5 F.x ⟨0, [], [], []⟩ → Wf F5 → Std F F5 nof nof →
      ∃ F', (u22bt4 (clU kindD (n + 29)) (n + 29) (.mk (.s l) (.p F.x 0) (.n 0) (.p (F.x + 1) 0) (.p z 0) g h) F5 fun o v F => exU o (u22r v F) (fun _ => .no) (u22r v F)) = .ok (.u [.a (nodeC (if e = 0 then nd else ⟨0, [], [], []⟩)), .n e]) F' ∧ Std F F' nof nof ∧ Wf F' := by
    intro F5 e g h n5 t5 d5 w5 st5
    by_cases he : e = 0
    · subst he
      simp only [↓u22bt4_s, ↓u22bt5_s, ↓seqU_eq, ↓condU_eq, ↓skipU_eq, ↓retU_eq, ↓u22_6, ↓u22_7, ↓u22_9, ↓m7_mk, ↓k7_mk, ↓exU_n, ↓exU_r, ↓t5.g2, ↓uEq_nn, decide_true, xo_t, Bool.not_true, ↓eT_t, ↓cn_false, ↓n5.ld, ↓d5.st, ↓u22r_mk, ↓(d5.put nd).ld, if_true]
      exact ⟨_, rfl, Std.put_new hF st5 (Nat.le_refl _) _, w5.put _ _⟩
    · have tp := t5.put_other (y := F.x) (by omega) (nodeC ⟨0, [], [], []⟩)
      obtain ⟨el, hr⟩ := t5.row
      obtain ⟨el', hr'⟩ := tp.row
      simp only [↓u22bt4_s, ↓seqU_eq, ↓condU_eq, ↓retU_eq, ↓u22_6, ↓u22_7, ↓u22_8, ↓m7_mk, ↓k7_mk, ↓exU_n, ↓exU_r, ↓t5.g2, ↓uEq_nn, decide_eq_false he, xo_t, Bool.not_false, ↓eT_t, ↓cn_true, ↓bld0, ↓uNilc_p, ↓uFad_p, Nat.zero_add, ↓uLd_row _ hr (show ([FV.s l, .n ii, .n e] : List FV)[2]? = some (.n e) from rfl) (Fi.n _), ↓d5.st, ↓uLd_row _ hr' (show ([FV.s l, .n ii, .n e] : List FV)[2]? = some (.n e) from rfl) (Fi.n _), ↓veqU_n, ↓u22r_mk, ↓(d5.put _).ld, he, if_false]
      exact ⟨_, rfl, Std.put_new hF st5 (Nat.le_refl _) _, w5.put _ _⟩
  by_cases c1 : ee = 0
  · by_cases c2 : ii < l.length
    · simp only [↓u22bt3_s, ↓seqU_eq, ↓condU_eq, ↓u22_3, ↓u22_4, ↓u22_5, ↓m7_mk, ↓k7_mk, ↓exU_n, ↓t4.g2, ↓t4.g1, ↓uEq_nn, decide_eq_true c1, xo_f, ↓eT_t, ↓cn_true, ↓uLen_s, ↓uLss_nn, decide_eq_true c2, ↓uNilc_p, ↓uFad_p, Nat.zero_add, ↓t4.s2]
      have hE2 : headE l = 2 := by rw [hE, if_pos ⟨c1, c2⟩]
      rw [hN, hE2]
      exact fin _ 2 _ _ (n4.put_other hz1.symm _) (t4.put _ _) (d4.put_other (by omega) _) (w4.put _ _) (Std.put_new hF st4 (by omega) _)
    · simp only [↓u22bt3_s, ↓seqU_eq, ↓condU_eq, ↓skipU_eq, ↓u22_3, ↓u22_4, ↓m7_mk, ↓k7_mk, ↓exU_n, ↓t4.g2, ↓t4.g1, ↓uEq_nn, decide_eq_true c1, xo_f, ↓eT_t, ↓cn_true, ↓uLen_s, ↓uLss_nn, decide_eq_false c2, ↓cn_false]
      have hE2 : headE l = ee := by rw [hE, if_neg (fun h => c2 h.2)]
      rw [hN, hE2]
      exact fin _ ee _ _ n4 t4 d4 w4 st4
  · simp only [↓u22bt3_s, ↓seqU_eq, ↓condU_eq, ↓skipU_eq, ↓u22_3, ↓u22_4, ↓m7_mk, ↓k7_mk, ↓exU_n, ↓t4.g2, ↓uEq_nn, decide_eq_false c1, xo_f, ↓eT_t, ↓cn_false]
    have hE2 : headE l = ee := by rw [hE, if_neg (fun h => c1 h.1)]
    rw [hN, hE2]
    exact fin _ ee _ _ n4 t4 d4 w4 st4
theorem head_T {T : Ty} (h : T.wf) (hd : T.dep ≤ 12) : headE T.txt = 0 ∧ headN T.txt = ⟨T.knd, T.name, T.pa, T.pb⟩ := by
  have e1 : headE T.txt = 0 := by rw [headE_eq, read_in h hd]
  refine ⟨e1, ?_⟩
  unfold headN
  rw [if_pos e1, node_in T T.txt [] 14 1 0 h (Ty.ctx_of stopd_nil) (by simp) (by omega) (by omega)]
/-- Depth, by the document. -/
theorem s27_bad {l : List Nat} (hl : Bs l) (hL : l.length ≤ 1000000) (n : Nat) (hn : l.length < n) {F : FAW} (hF : Wf F) (he : headE l ≠ 0) :
    ∃ F', clU kindD (n + 31) 27 [.s l] F = .ok (.n 0) F' ∧ Std F F' nof nof ∧ Wf F' := by
  rw [cl27, u27_in]
  obtain ⟨F1, e1, s1, w1⟩ := s22 hl hL n hn hF
  have n2 := Nd.new F1 ⟨0, [], [], []⟩
  simp only [↓u27b_s, ↓u27bt1_s, ↓u27bt2_s, ↓seqU_eq, ↓condU_eq, ↓retU_eq, ↓u27_0, ↓u27_1, ↓u27_2, ↓u27_3, ↓u27_4, ↓m7_mk, ↓k7_mk, ↓exU_n, ↓exU_r, ↓uCall_eq, ↓e1, ↓goOn_ok, ↓uExt_0, ↓uExt_1, ↓nd0, ↓n2.st, ↓uEq_nn, decide_eq_false he, xo_t, Bool.not_false, ↓eT_t, ↓cn_true, ↓u27r_mk]
  exact ⟨_, rfl, Std.put_new hF (s1.trans (Std.new w1 _ _ _ _ _)) s1.x _, (w1.new _ _ _).put _ _⟩
theorem s27_ok : ∀ (T : Ty) (n : Nat) (F : FAW), T.wf → T.dep ≤ 12 → T.txt.length ≤ 1000000 → T.txt.length < n → Wf F →
    ∃ F', clU kindD (n + 31 + T.dep) 27 [.s T.txt] F = .ok (.n T.dep) F' ∧ Std F F' nof nof ∧ Wf F' := by
  -- what stands ahead
  have pre : ∀ (T : Ty) (n : Nat) (F : FAW), T.wf → T.dep ≤ 12 → T.txt.length ≤ 1000000 → T.txt.length < n → Wf F →
      ∃ F1 z, Nd F1 z ⟨T.knd, T.name, T.pa, T.pb⟩ ∧ Std F F1 nof nof ∧ Wf F1 ∧ clU kindD (n + 31) 27 [.s T.txt] F = u27bt2 (clU kindD (n + 30)) (n + 30) (.mk (.s T.txt) (.n 0) (.p z 0) (.n 0) (.u []) (.u []) (.u [])) F1 fun o v F => exU o (u27r v F) (fun _ => .no) (u27r v F) := by
    intro T n F hT hd hL hn hF
    obtain ⟨F1, e1, s1, w1⟩ := s22 (T.txt_bs hT) hL n hn hF
    obtain ⟨h1, h2⟩ := head_T hT hd
    rw [h1, h2] at e1
    have n2 := Nd.new F1 ⟨0, [], [], []⟩
    refine ⟨_, _, n2.put ⟨T.knd, T.name, T.pa, T.pb⟩, Std.put_new hF (s1.trans (Std.new w1 _ _ _ _ _)) s1.x _, (w1.new _ _ _).put _ _, ?_⟩
    rw [cl27, u27_in]
    simp only [↓u27b_s, ↓u27bt1_s, ↓seqU_eq, ↓u27_0, ↓u27_1, ↓m7_mk, ↓exU_n, ↓uCall_eq, ↓e1, ↓goOn_ok, ↓uExt_0, ↓uExt_1, ↓nd0, ↓n2.st]
  intro T
  induction T with
  | nm p ps =>
    intro n F hT hd hL hn hF
    obtain ⟨F1, z, n1, s1, w1, e1⟩ := pre _ n F hT hd hL hn hF
    rw [show n + 31 + (Ty.nm p ps).dep = n + 31 from rfl, e1]
    simp only [↓u27bt2_s, ↓seqU_eq, ↓condU_eq, ↓retU_eq, ↓u27_2, ↓u27_3, ↓u27_4, ↓m7_mk, ↓k7_mk, ↓exU_n, ↓exU_r, ↓uEq_nn, xo_t, ↓eT_t, decide_true, Bool.not_true, ↓cn_false, ↓uFad_p, Nat.zero_add, ↓n1.l0, show (Ty.nm p ps).knd = 0 from rfl, show decide (0 = 15) = false from rfl, show decide (0 = 14) = false from rfl, show decide (0 = 13) = false from rfl, Bool.not_false, ↓cn_true, ↓u27r_mk]
    exact ⟨F1, rfl, s1, w1⟩
  | wd w =>
    intro n F hT hd hL hn hF
    obtain ⟨F1, z, n1, s1, w1, e1⟩ := pre _ n F hT hd hL hn hF
    have hin := hT.2.2
    have k1 : ¬ (Ty.wd w).knd = 15 := fun h => by have h : wordK w = 15 := h; rw [h] at hin; revert hin; decide
    have k2 : ¬ (Ty.wd w).knd = 14 := fun h => by have h : wordK w = 14 := h; rw [h] at hin; revert hin; decide
    have k3 : ¬ (Ty.wd w).knd = 13 := fun h => by have h : wordK w = 13 := h; rw [h] at hin; revert hin; decide
    rw [show n + 31 + (Ty.wd w).dep = n + 31 from rfl, e1]
    simp only [↓u27bt2_s, ↓seqU_eq, ↓condU_eq, ↓retU_eq, ↓u27_2, ↓u27_3, ↓u27_4, ↓m7_mk, ↓k7_mk, ↓exU_n, ↓exU_r, ↓uEq_nn, xo_t, ↓eT_t, decide_true, Bool.not_true, ↓cn_false, ↓uFad_p, Nat.zero_add, ↓n1.l0, decide_eq_false k1, decide_eq_false k2, decide_eq_false k3, Bool.not_false, ↓cn_true, ↓u27r_mk]
    exact ⟨F1, rfl, s1, w1⟩
  | l1 w t ih =>
    intro n F hT hd hL hn hF
    have hlen : (Ty.l1 w t).txt.length = w.length + (t.txt.length + 2) := by simp [Ty.txt]
    have hdt : t.dep ≤ 12 := by simp only [Ty.dep] at hd; omega
    obtain ⟨F1, z, n1, s1, w1, e1⟩ := pre _ (n + t.dep + 1) F hT hd hL (by omega) hF
    obtain ⟨F2, e2, s2, w2⟩ := ih n F1 hT.2.2 hdt (by omega) (by omega) w1
    have n2 := n1.std s2 (fun h => h)
    have e2' : clU kindD (n + t.dep + 1 + 30) 27 [.s t.txt] F1 = .ok (.n t.dep) F2 := by rw [← e2]; congr 1; omega
    rw [show n + 31 + (Ty.l1 w t).dep = n + t.dep + 1 + 31 by simp only [Ty.dep]; omega, e1]
    have hk : (Ty.l1 w t).knd = 15 ∨ (Ty.l1 w t).knd = 14 := by
      rcases word_inner (w := w) (by have := hT.2.1; omega) with ⟨_, h, _⟩ | ⟨_, h, _⟩ | ⟨_, _, h3⟩
      · exact .inl h
      · exact .inr h
      · have := hT.2.1; omega
    have hd1 : uAdd (.n t.dep) (.n 1) F2 = fun f => f (.n (t.dep + 1)) F2 := by funext f; exact uAdd_nn _ _ (by omega)
    refine ⟨F2, ?_, s1.trans s2, w2⟩
    rcases hk with hk | hk <;>
      simp only [↓u27bt2_s, ↓u27bt3_s, ↓u27bt4_s, ↓u27bt5_s, ↓seqU_eq, ↓condU_eq, ↓skipU_eq, ↓retU_eq, ↓u27_2, ↓u27_3, ↓u27_5, ↓u27_6, ↓u27_7, ↓u27_9, ↓m7_mk, ↓k7_mk, ↓exU_n, ↓exU_r, ↓uEq_nn, xo_t, xo_f, ↓eT_t, decide_true, Bool.not_true, ↓cn_false, ↓uFad_p, Nat.zero_add, ↓n1.l0, ↓n1.l2, ↓n2.l0, hk, show decide (14 = 15) = false from rfl, show decide (15 = 13) = false from rfl, show decide (14 = 13) = false from rfl, Bool.not_false, ↓cn_true, show (Ty.l1 w t).pa = t.txt from rfl, ↓uCall_eq, ↓e2', ↓goOn_ok, hd1, ↓u27r_mk, Ty.dep]
  | l2 w t u ih1 ih2 =>
    intro n F hT hd hL hn hF
    have hlen : (Ty.l2 w t u).txt.length = w.length + (t.txt.length + 1 + (u.txt.length + 2)) := by simp [Ty.txt]; omega
    have hdt : t.dep ≤ 12 := by simp only [Ty.dep] at hd; omega
    have hdu : u.dep ≤ 12 := by simp only [Ty.dep] at hd; omega
    obtain ⟨F1, z, n1, s1, w1, e1⟩ := pre _ (n + max t.dep u.dep + 1) F hT hd hL (by omega) hF
    obtain ⟨F2, e2, s2, w2⟩ := ih1 (n + max t.dep u.dep - t.dep) F1 hT.2.2.1 hdt (by omega) (by omega) w1
    have n2 := n1.std s2 (fun h => h)
    obtain ⟨F3, e3, s3, w3⟩ := ih2 (n + max t.dep u.dep - u.dep) F2 hT.2.2.2 hdu (by omega) (by omega) w2
    have e2' : clU kindD (n + max t.dep u.dep + 1 + 30) 27 [.s t.txt] F1 = .ok (.n t.dep) F2 := by rw [← e2]; congr 1; omega
    have e3' : clU kindD (n + max t.dep u.dep + 1 + 30) 27 [.s u.txt] F2 = .ok (.n u.dep) F3 := by rw [← e3]; congr 1; omega
    have hk : (Ty.l2 w t u).knd = 13 := by
      rcases word_inner (w := w) (by have := hT.2.1; omega) with ⟨_, _, h3⟩ | ⟨_, _, h3⟩ | ⟨_, h, _⟩
      · have := hT.2.1; omega
      · have := hT.2.1; omega
      · exact h
    have hd1 : uAdd (.n (max t.dep u.dep)) (.n 1) F3 = fun f => f (.n (max t.dep u.dep + 1)) F3 := by funext f; exact uAdd_nn _ _ (by omega)
    rw [show n + 31 + (Ty.l2 w t u).dep = n + max t.dep u.dep + 1 + 31 by simp only [Ty.dep]; omega, e1]
    refine ⟨F3, ?_, s1.trans (s2.trans s3), w3⟩
    simp only [↓u27bt2_s, ↓u27bt3_s, ↓u27bt4_s, ↓u27bt5_s, ↓seqU_eq, ↓condU_eq, ↓skipU_eq, ↓retU_eq, ↓u27_2, ↓u27_3, ↓u27_5, ↓u27_6, ↓u27_7, ↓u27_8, ↓u27_9, ↓m7_mk, ↓k7_mk, ↓exU_n, ↓exU_r, ↓uEq_nn, xo_t, xo_f, ↓eT_t, decide_true, Bool.not_true, ↓cn_false, ↓uFad_p, Nat.zero_add, ↓n1.l0, ↓n1.l2, ↓n2.l0, ↓n2.l3, hk, show decide (13 = 15) = false from rfl, show decide (13 = 14) = false from rfl, Bool.not_false, ↓cn_true, show (Ty.l2 w t u).pa = t.txt from rfl, show (Ty.l2 w t u).pb = u.txt from rfl, ↓uCall_eq, ↓e2', ↓e3', ↓goOn_ok, ↓uMM_nn, hd1, ↓u27r_mk, Ty.dep]
end Go.Proofs.Ytgejdfhfgphcbaa.Ev
/- Kind: the document's names; the law KindAll. -/
namespace Go.Proofs.Ytgejdfhfgphcbaa.Ev
open Go Go.RowKit
set_option linter.unusedVariables false
set_option linter.constructorNameAsVariable false
set_option linter.unusedSimpArgs false
set_option linter.unusedSectionVars false

theorem Ty.nms_len : ∀ T : Ty, T.wf → T.nms.length ≤ T.txt.length
  | .nm p ps, h => by have := h.1.pos; simp [Ty.nms, Ty.txt]; omega
  | .wd w, h => by simp [Ty.nms]
  | .l1 w t, h => by have := t.nms_len h.2.2; simp [Ty.nms, Ty.txt]; omega
  | .l2 w t u, h => by have h1 := t.nms_len h.2.2.1; have h2 := u.nms_len h.2.2.2; simp [Ty.nms, Ty.txt]; omega
theorem strs_fi (l : List (List Nat)) : ∀ c ∈ l.map FV.s, Fi c := fun c hc => by
  obtain ⟨y, _, rfl⟩ := List.mem_map.mp hc
  exact Fi.s y
theorem s24_bad {l : List Nat} (hl : Bs l) (hL : l.length ≤ 1000000) (n : Nat) (hn : l.length < n) {F : FAW} (hF : Wf F) (he : headE l ≠ 0) :
    ∃ F', clU kindD (n + 31) 24 [.s l] F = .ok .nl F' ∧ Std F F' nof nof ∧ Wf F' := by
  rw [cl24, u24_in]
  obtain ⟨F1, e1, s1, w1⟩ := s22 hl hL n hn hF
  have n2 := Nd.new F1 ⟨0, [], [], []⟩
  simp only [↓u24b_s, ↓u24bt1_s, ↓u24bt2_s, ↓seqU_eq, ↓condU_eq, ↓blockU_eq, ↓retU_eq, ↓u24_0, ↓u24_1, ↓u24_2, ↓u24_3, ↓u24_4, ↓m8_mk, ↓k8_mk, ↓exU_n, ↓exU_r, ↓uCall_eq, ↓e1, ↓goOn_ok, ↓uExt_0, ↓uExt_1, ↓nd0, ↓n2.st, ↓uEq_nn, decide_eq_false he, xo_t, Bool.not_false, ↓eT_t, ↓cn_true, ↓u24r_mk]
  exact ⟨_, rfl, Std.put_new hF (s1.trans (Std.new w1 _ _ _ _ _)) s1.x _, (w1.new _ _ _).put _ _⟩
theorem s24_ok : ∀ (T : Ty) (n : Nat) (F : FAW), T.wf → T.dep ≤ 12 → T.txt.length ≤ 1000000 → T.txt.length < n → Wf F →
    ∃ F' v m, clU kindD (n + 31 + T.dep) 24 [.s T.txt] F = .ok v F' ∧ SlB F' v 9 (T.nms.map FV.s) m ∧ Std F F' nof nof ∧ Wf F' ∧ (T.nms ≠ [] → F.x ≤ m) := by
  have pre : ∀ (T : Ty) (n : Nat) (F : FAW), T.wf → T.dep ≤ 12 → T.txt.length ≤ 1000000 → T.txt.length < n → Wf F →
      ∃ F1 z, Nd F1 z ⟨T.knd, T.name, T.pa, T.pb⟩ ∧ Std F F1 nof nof ∧ Wf F1 ∧ clU kindD (n + 31) 24 [.s T.txt] F = u24bt2 (clU kindD (n + 30)) (n + 30) (.mk (.s T.txt) .nl (.p z 0) (.n 0) (.u []) (.u []) (.u []) (.u [])) F1 fun o v F => exU o (u24r v F) (fun _ => .no) (u24r v F) := by
    intro T n F hT hd hL hn hF
    obtain ⟨F1, e1, s1, w1⟩ := s22 (T.txt_bs hT) hL n hn hF
    obtain ⟨h1, h2⟩ := head_T hT hd
    rw [h1, h2] at e1
    have n2 := Nd.new F1 ⟨0, [], [], []⟩
    refine ⟨_, _, n2.put ⟨T.knd, T.name, T.pa, T.pb⟩, Std.put_new hF (s1.trans (Std.new w1 _ _ _ _ _)) s1.x _, (w1.new _ _ _).put _ _, ?_⟩
    rw [cl24, u24_in]
    simp only [↓u24b_s, ↓u24bt1_s, ↓seqU_eq, ↓u24_0, ↓u24_1, ↓m8_mk, ↓exU_n, ↓uCall_eq, ↓e1, ↓goOn_ok, ↓uExt_0, ↓uExt_1, ↓nd0, ↓n2.st]
  intro T
  induction T with
  | nm p ps =>
    intro n F hT hd hL hn hF
    obtain ⟨F1, z, n1, s1, w1, e1⟩ := pre _ n F hT hd hL hn hF
    rw [show n + 31 + (Ty.nm p ps).dep = n + 31 from rfl, e1]
    simp only [↓u24bt2_s, ↓seqU_eq, ↓condU_eq, ↓blockU_eq, ↓retU_eq, ↓u24_2, ↓u24_3, ↓u24_5, ↓u24_6, ↓u24_7, ↓m8_mk, ↓k8_mk, ↓exU_n, ↓exU_r, ↓uEq_nn, xo_t, xo_f, ↓eT_t, decide_true, Bool.not_true, ↓cn_false, ↓uFad_p, Nat.zero_add, ↓n1.l0, show (Ty.nm p ps).knd = 0 from rfl, ↓cn_true, ↓n1.l1, ↓uLit1 _ _ (Fi.s _) (Fi.s _), ↓u24r_mk]
    exact ⟨_, _, F1.x, rfl, lit_new w1 [FV.s (Ty.nm p ps).name] 9 (by simp), s1.trans (Std.new w1 _ _ _ _ _), w1.new _ _ _, fun _ => s1.x⟩
  | wd w =>
    intro n F hT hd hL hn hF
    obtain ⟨F1, z, n1, s1, w1, e1⟩ := pre _ n F hT hd hL hn hF
    have hin := hT.2.2
    have k0 : ¬ (Ty.wd w).knd = 0 := hT.2.1
    have k1 : ¬ (Ty.wd w).knd = 15 := fun h => by have h : wordK w = 15 := h; rw [h] at hin; revert hin; decide
    have k2 : ¬ (Ty.wd w).knd = 14 := fun h => by have h : wordK w = 14 := h; rw [h] at hin; revert hin; decide
    have k3 : ¬ (Ty.wd w).knd = 13 := fun h => by have h : wordK w = 13 := h; rw [h] at hin; revert hin; decide
    rw [show n + 31 + (Ty.wd w).dep = n + 31 from rfl, e1]
    simp only [↓u24bt2_s, ↓u24bt3_s, ↓seqU_eq, ↓condU_eq, ↓blockU_eq, ↓skipU_eq, ↓retU_eq, ↓u24_2, ↓u24_3, ↓u24_5, ↓u24_6, ↓u24_8, ↓u24_9, ↓u24_11, ↓u24_12, ↓u24_14, ↓m8_mk, ↓k8_mk, ↓exU_n, ↓exU_r, ↓uEq_nn, xo_t, xo_f, ↓eT_t, decide_true, Bool.not_true, ↓cn_false, ↓uFad_p, Nat.zero_add, ↓n1.l0, decide_eq_false k0, decide_eq_false k1, decide_eq_false k2, decide_eq_false k3, ↓u24r_mk]
    exact ⟨F1, .nl, 0, rfl, .inl ⟨rfl, rfl⟩, s1, w1, fun h => absurd rfl h⟩
  | l1 w t ih =>
    intro n F hT hd hL hn hF
    have hlen : (Ty.l1 w t).txt.length = w.length + (t.txt.length + 2) := by simp [Ty.txt]
    have hdt : t.dep ≤ 12 := by simp only [Ty.dep] at hd; omega
    obtain ⟨F1, z, n1, s1, w1, e1⟩ := pre _ (n + t.dep + 1) F hT hd hL (by omega) hF
    obtain ⟨F2, v2, m2, e2, b2, s2, w2, h2⟩ := ih n F1 hT.2.2 hdt (by omega) (by omega) w1
    have e2' : clU kindD (n + t.dep + 1 + 30) 24 [.s t.txt] F1 = .ok v2 F2 := by rw [← e2]; congr 1; omega
    rw [show n + 31 + (Ty.l1 w t).dep = n + t.dep + 1 + 31 by simp only [Ty.dep]; omega, e1]
    have hk : (Ty.l1 w t).knd = 15 ∨ (Ty.l1 w t).knd = 14 := by
      rcases word_inner (w := w) (by have := hT.2.1; omega) with ⟨_, h, _⟩ | ⟨_, h, _⟩ | ⟨_, _, h3⟩
      · exact .inl h
      · exact .inr h
      · have := hT.2.1; omega
    refine ⟨F2, v2, m2, ?_, b2, s1.trans s2, w2, fun hne => Nat.le_trans s1.x (h2 hne)⟩
    rcases hk with hk | hk <;>
      simp only [↓u24bt2_s, ↓seqU_eq, ↓condU_eq, ↓blockU_eq, ↓skipU_eq, ↓retU_eq, ↓u24_2, ↓u24_3, ↓u24_5, ↓u24_6, ↓u24_8, ↓u24_9, ↓u24_11, ↓u24_12, ↓u24_13, ↓m8_mk, ↓k8_mk, ↓exU_n, ↓exU_r, ↓uEq_nn, xo_t, xo_f, ↓eT_t, decide_true, Bool.not_true, ↓cn_false, ↓uFad_p, Nat.zero_add, ↓n1.l0, ↓n1.l2, hk, show decide (15 = 0) = false from rfl, show decide (14 = 0) = false from rfl, show decide (14 = 15) = false from rfl, show decide (15 = 13) = false from rfl, show decide (14 = 13) = false from rfl, ↓cn_true, show (Ty.l1 w t).pa = t.txt from rfl, ↓uCall_eq, ↓e2', ↓goOn_ok, ↓u24r_mk]
  | l2 w t u ih1 ih2 =>
    intro n F hT hd hL hn hF
    have hlen : (Ty.l2 w t u).txt.length = w.length + (t.txt.length + 1 + (u.txt.length + 2)) := by simp [Ty.txt]; omega
    have hdt : t.dep ≤ 12 := by simp only [Ty.dep] at hd; omega
    have hdu : u.dep ≤ 12 := by simp only [Ty.dep] at hd; omega
    obtain ⟨F1, z, n1, s1, w1, e1⟩ := pre _ (n + max t.dep u.dep + 1) F hT hd hL (by omega) hF
    obtain ⟨F2, v2, m2, e2, b2, s2, w2, h2⟩ := ih1 (n + max t.dep u.dep - t.dep) F1 hT.2.2.1 hdt (by omega) (by omega) w1
    have n2 := n1.std s2 (fun h => h)
    obtain ⟨F3, v3, m3, e3, b3, s3, w3, h3⟩ := ih2 (n + max t.dep u.dep - u.dep) F2 hT.2.2.2 hdu (by omega) (by omega) w2
    have e2' : clU kindD (n + max t.dep u.dep + 1 + 30) 24 [.s t.txt] F1 = .ok v2 F2 := by rw [← e2]; congr 1; omega
    have e3' : clU kindD (n + max t.dep u.dep + 1 + 30) 24 [.s u.txt] F2 = .ok v3 F3 := by rw [← e3]; congr 1; omega
    have hk : (Ty.l2 w t u).knd = 13 := by
      rcases word_inner (w := w) (by have := hT.2.1; omega) with ⟨_, _, h3⟩ | ⟨_, _, h3⟩ | ⟨_, h, _⟩
      · have := hT.2.1; omega
      · have := hT.2.1; omega
      · exact h
    have b2' : SlB F3 v2 9 (t.nms.map FV.s) m2 := b2.std s3 (fun _ _ _ h => h) (fun _ h => h)
    have lt := t.nms_len hT.2.2.1
    have lu := u.nms_len hT.2.2.2
    obtain ⟨v4, F4, m4, e4, b4, s4, w4, h4⟩ := app_many w3 b2' (strs_fi _) (b3.sl.src (strs_fi _)) (strs_fi _) (bytes := 16) (by simp; omega) (by simp; omega)
    rw [show n + 31 + (Ty.l2 w t u).dep = n + max t.dep u.dep + 1 + 31 by simp only [Ty.dep]; omega, e1]
    have hx2 := s2.x
    have hx3 := s3.x
    have hne : (t.nms.map FV.s ≠ []) ↔ t.nms ≠ [] := by simp
    refine ⟨F4, v4, m4, ?_, by simpa [Ty.nms] using b4, Std.trans_new hF (s1.trans (s2.trans s3)) s4 (fun _ _ h => h) (fun j hj hq => ?_), w4, fun hn' => ?_⟩
    · simp only [↓u24bt2_s, ↓seqU_eq, ↓condU_eq, ↓blockU_eq, ↓skipU_eq, ↓retU_eq, ↓u24_2, ↓u24_3, ↓u24_5, ↓u24_6, ↓u24_8, ↓u24_9, ↓u24_10, ↓m8_mk, ↓k8_mk, ↓exU_n, ↓exU_r, ↓uEq_nn, xo_t, xo_f, ↓eT_t, decide_true, Bool.not_true, ↓cn_false, ↓uFad_p, Nat.zero_add, ↓n1.l0, ↓n1.l2, ↓n1.l3, ↓n2.l3, hk, show decide (13 = 0) = false from rfl, ↓cn_true, show (Ty.l2 w t u).pa = t.txt from rfl, show (Ty.l2 w t u).pb = u.txt from rfl, ↓uCall_eq, ↓e2', ↓e3', ↓goOn_ok, ↓veqU_s, ↓e4, ↓u24r_mk]
    · have := h2 (hne.mp hq.2)
      have := s1.x
      omega
    · have hx1 := s1.x
      rcases h4 (by simpa [Ty.nms] using hn') with h5 | h5
      · rw [h5.1]; have := h2 (hne.mp h5.2); omega
      · omega
/-- Kinds on the wire: both are one text. -/
theorem wire_same (n : Nat) (v : FV) (F : FAW) : clU kindD (n + 1) 28 [v] F = clU kindD (n + 1) 29 [v] F := by
  rw [cl28, cl29]; rfl
theorem uEq_in (z : Int) (k : Nat) (F : FAW) (f : KU) : uEq false .eql (.i .i64 z) (.n k) F f = f (.t (decide (z = (k : Int)))) F := by
  have e : uEq false .eql (.i .i64 z) (.n k) F f = uSlow .eql (.i .i64 z) (.n k) F f := rfl
  have h : binV .eql (toV (.i .i64 z)) (toV (.n k)) = some (.bool (decide (z = (k : Int)))) := by
    simp only [toV, binV, iop, if_true]
    rfl
  rw [e, uSlow_n h]; rfl
theorem uEq_ii (z : Int) (F : FAW) (f : KU) : uEq false .eql (.i .i64 z) (.i .i64 z) F f = f (.t true) F := by
  have e : uEq false .eql (.i .i64 z) (.i .i64 z) F f = uSlow .eql (.i .i64 z) (.i .i64 z) F f := rfl
  have h : binV .eql (toV (.i .i64 z)) (toV (.i .i64 z)) = some (.bool true) := by
    simp only [toV, binV, iop, if_true, decide_true]
  rw [e, uSlow_n h]; rfl
/-- A value that is one with itself. -/
def Selfy (w : FV) : Prop := ∀ (G : FAW) (f : KU), uEq false .eql w w G f = f (.t true) G
theorem Selfy.n (m : Nat) : Selfy (.n m) := fun G f => by rw [uEq_nn, decide_eq_true rfl]; rfl
theorem Selfy.i (z : Int) : Selfy (.i .i64 z) := fun G f => uEq_ii z G f
theorem ex_cn {F : FAW} {t : Bool} {a b : RU} (h1 : ∃ w, a = .ok w F ∧ Selfy w) (h2 : ∃ w, b = .ok w F ∧ Selfy w) : ∃ w, cn t a b = .ok w F ∧ Selfy w := by
  cases t with
  | true => exact h1
  | false => exact h2
theorem wire_ok (n : Nat) (F : FAW) (k : Int) : ∃ w, clU kindD (n + 1) 28 [numV .i64 k] F = .ok w F ∧ Selfy w := by
  have key : ∀ (v : FV) (t : Nat → Bool), Selfy v → (∀ (m : Nat) (G : FAW) (f : KU), uEq false .eql v (.n m) G f = f (.t (t m)) G) → ∃ w, clU kindD (n + 1) 28 [v] F = .ok w F ∧ Selfy w := by
    intro v t hv hq
    rw [cl28, u28_in]
    simp only [u28b, seqU_eq, condU_eq, blockU_eq, skipU_eq, retU_eq, m6_mk, k6_mk, u28_0, u28_1, u28_2, u28_3, u28_4, u28_5, u28_6, u28_7, exU_n, exU_r, hq, eT_t, u28r_mk]
    refine ex_cn ⟨_, rfl, Selfy.n _⟩ (ex_cn ⟨_, rfl, Selfy.n _⟩ ?_)
    simp only [u28_8, u28_9, u28_10, u28_11, u28_12, u28_13, u28_14, u28_15, u28_16, u28_17, u28_18, u28_19, u28_20, u28_21, u28_22, u28_23, u28_24, u28_25, u28_26, u28_27, u28_28, u28_29, u28_30, u28_31, m6_mk, k6_mk, exU_n, exU_r, hq, eT_t, u28r_mk]
    repeat' (first | exact ⟨_, rfl, Selfy.n _⟩ | exact ⟨_, rfl, hv⟩ | refine ex_cn ?_ ?_)
  have hk : numV .i64 k = .n k.toNat ∨ numV .i64 k = .i .i64 k := by
    cases k with
    | ofNat m => exact .inl rfl
    | negSucc m => exact .inr rfl
  rcases hk with hk | hk
  · rw [hk]
    exact key _ (fun m => decide (k.toNat = m)) (Selfy.n _) fun m G f => by rw [uEq_nn]; rfl
  · rw [hk]
    exact key _ (fun m => decide (k = (m : Int))) (Selfy.i _) fun m G f => uEq_in _ _ G f
theorem loop6 (m N : Nat) {F : FAW} {v w : FV} {W : List (List Nat)} (hW : ∀ q ∈ W, Bs q) (hL : W.length ≤ 1000000) (hv : Sl F v (W.map FV.s)) (hw : Sl F w (W.map FV.s)) (a c d e f g h i j k p q r : FV) : ∀ (rr o : Nat) (s t : FV), o + rr = W.length → ∀ M, rr < M →
    ∃ s' t', ∀ κ : EX → W18 → FAW → RU, loopNU (u6_20 (clU kindD m) N) κ M (.mk a c d e f g h i j k v w (.n o) p q r s t) F = κ (.exit 0) (.mk a c d e f g h i j k v w (.n W.length) p q r s' t') F := by
  intro rr
  induction rr with
  | zero =>
    intro o s t ho M hM
    obtain ⟨M, rfl⟩ : ∃ M', M = M' + 1 := ⟨M - 1, by omega⟩
    have ho : o = W.length := by omega
    subst ho
    refine ⟨.t false, t, fun κ => ?_⟩
    rw [loopNU_succ]
    simp only [↓u6_20_s, ↓seqU_eq, ↓condU_eq, ↓exitU_eq, ↓u6_14, ↓u6_15, ↓m18_mk, ↓k18_mk, ↓exU_n, ↓exU_e, ↓hw.len, List.length_map, ↓uLss_nn, Nat.lt_irrefl, decide_false, ↓eT_t, ↓cn_false]
  | succ rr ih =>
    intro o s t ho M hM
    obtain ⟨M, rfl⟩ : ∃ M', M = M' + 1 := ⟨M - 1, by omega⟩
    have hlt : o < W.length := by omega
    have hx : W[o]? = some W[o] := List.getElem?_eq_getElem hlt
    have hb := hW _ (List.mem_of_getElem? hx)
    have hget : (W.map FV.s)[o]? = some (.s W[o]) := by rw [List.getElem?_map, hx]; rfl
    have g1 : ∀ f' : KU, (uIad 1 v (.n o) F fun v0 S => uLd none v0 S f') = f' (.s W[o]) F := fun f' => hv.get hget (Fi.s _) f'
    have g2 : ∀ f' : KU, (uIad 1 w (.n o) F fun v0 S => uLd none v0 S f') = f' (.s W[o]) F := fun f' => hw.get hget (Fi.s _) f'
    have hadd : uAdd (.n o) (.n 1) F = fun f => f (.n (o + 1)) F := by funext f; exact uAdd_nn _ _ (by omega)
    obtain ⟨s', t', e1⟩ := ih (o + 1) (.t true) (.t false) (by omega) M (by omega)
    refine ⟨s', t', fun κ => ?_⟩
    rw [loopNU_succ, ← e1 κ]
    generalize loopNU (u6_20 (clU kindD m) N) κ M = rec
    simp only [↓u6_20_s, ↓u6_20t1_s, ↓seqU_eq, ↓condU_eq, ↓blockU_eq, ↓skipU_eq, ↓u6_14, ↓u6_15, ↓u6_16, ↓u6_17, ↓u6_19, ↓m18_mk, ↓k18_mk, ↓exU_n, ↓hw.len, List.length_map, ↓uLss_nn, decide_eq_true hlt, ↓eT_t, ↓cn_true, ↓g1, ↓g2, ↓uEq_ss _ _ _ _ hb hb, decide_true, xo_t, Bool.not_true, ↓cn_false, hadd]
/-- The law. -/
theorem s6 (n : Nat) (hn : 300 < n) {l : List Nat} (hl : Bs l) (kz : Int) {F : FAW} (hF : Wf F) : ∃ F', clU kindD (n + 61) 6 [.s l, numV .i64 kz] F = .ok (.t true) F' := by
  rw [cl6, u6_in]
  obtain ⟨F1, e1, a1, b1⟩ := s20 (n + 20) hF
  have e1' : clU kindD (n + 60) 20 [] F = _ := e1
  simp only [↓u6b_s, ↓u6bt1_s, ↓u6bt2_s, ↓seqU_eq, ↓condU_eq, ↓skipU_eq, ↓retU_eq, ↓u6_0, ↓u6_1, ↓u6_2, ↓u6_4, ↓u6_5, ↓u6_6, ↓m18_mk, ↓k18_mk, ↓exU_n, ↓exU_r, ↓uCall_eq, ↓e1', ↓goOn_ok, ↓uNot_t, Bool.not_true, ↓eT_t, ↓cn_false, ↓uLen_s, ↓uGtr_nn]
  by_cases h200 : 200 < l.length
  · rw [decide_eq_true h200, cn_true]; exact ⟨F1, rfl⟩
  · rw [decide_eq_false h200, cn_false]
    -- what both say
    obtain ⟨nd, e, W, dp, hB, hWl, hWb, hA⟩ : ∃ (nd : NdS) (e : Nat) (W : List (List Nat)) (dp : Nat), (Bs nd.name ∧ Bs nd.pa ∧ Bs nd.pb) ∧ W.length ≤ 200 ∧ (∀ q ∈ W, Bs q) ∧ ∀ G : FAW, Wf G →
        (∃ G', clU kindD (n + 60) 21 [.s l] G = .ok (.u [.n nd.k, .s nd.name, .s nd.pa, .s nd.pb, .n e]) G' ∧ Std G G' nof nof ∧ Wf G') ∧
        (∃ G', clU kindD (n + 60) 22 [.s l] G = .ok (.u [.a (nodeC nd), .n e]) G' ∧ Std G G' nof nof ∧ Wf G') ∧
        (∃ G' v m, clU kindD (n + 60) 23 [.s l] G = .ok v G' ∧ SlB G' v 9 (W.map FV.s) m ∧ Std G G' nof nof ∧ Wf G') ∧
        (∃ G' v m, clU kindD (n + 60) 24 [.s l] G = .ok v G' ∧ SlB G' v 9 (W.map FV.s) m ∧ Std G G' nof nof ∧ Wf G') ∧
        (∃ G', clU kindD (n + 60) 25 [.s l] G = .ok (.t (decide (e = 0))) G' ∧ Std G G' nof nof ∧ Wf G') ∧
        (∃ G', clU kindD (n + 60) 26 [.s l] G = .ok (.n dp) G' ∧ Std G G' nof nof ∧ Wf G') ∧
        (∃ G', clU kindD (n + 60) 27 [.s l] G = .ok (.n dp) G' ∧ Std G G' nof nof ∧ Wf G') := by
      by_cases he : (readS l).2.2.e = 0
      · obtain ⟨T, hT, rfl, hd⟩ := read_out he
        obtain ⟨x1, x2, x3, x4, x5, x6, x7, x8⟩ := within hT hd
        obtain ⟨h1, h2⟩ := head_T hT hd
        have hr := read_in hT hd
        have hnl := T.nms_len hT
        refine ⟨⟨T.knd, T.name, T.pa, T.pb⟩, 0, T.nms, T.dep, ⟨x8, x6, x7⟩, by omega, ?_, fun G hG => ⟨s21_ok hT hd hl (by omega) (n + 40) (by omega) hG, ?_, ?_, ?_, ?_, ?_, ?_⟩⟩
        · intro q hq
          have : ∀ T : Ty, T.wf → ∀ q ∈ T.nms, Bs q := by
            intro T
            induction T with
            | nm p ps => intro h q hq; simp only [Ty.nms, List.mem_cons, List.not_mem_nil, or_false] at hq; subst hq; exact Ty.txt_bs (.nm p ps) h
            | wd w => intro h q hq; cases hq
            | l1 w t ih => intro h q hq; exact ih h.2.2 q hq
            | l2 w t u ih1 ih2 =>
              intro h q hq
              simp only [Ty.nms, List.mem_append] at hq
              rcases hq with hq | hq
              · exact ih1 h.2.2.1 q hq
              · exact ih2 h.2.2.2 q hq
          exact this T hT q hq
        · have := s22 hl (by omega) (n + 30) (by omega) hG
          rw [h1, h2] at this
          exact this
        · have := s23 hl (by omega) (n + 40) (by omega) hG
          rw [hr] at this
          simpa only [if_true] using this
        · obtain ⟨G', v, m, q1, q2, q3, q4, _⟩ := s24_ok T (n + 29 - T.dep) G hT hd (by omega) (by omega) hG
          exact ⟨G', v, m, by rw [← q1]; congr 1; omega, q2, q3, q4⟩
        · have := s25 hl (by omega) (n + 40) (by omega) hG
          rw [hr] at this
          exact this
        · have := s26 hl (by omega) (n + 40) (by omega) hG
          rw [hr] at this
          simpa only [if_true] using this
        · obtain ⟨G', q1, q3, q4⟩ := s27_ok T (n + 29 - T.dep) G hT hd (by omega) (by omega) hG
          exact ⟨G', by rw [← q1]; congr 1; omega, q3, q4⟩
      · have hE : headE l ≠ 0 := by rw [headE_eq]; exact he
        refine ⟨⟨0, [], [], []⟩, (readS l).2.2.e, [], 0, ⟨Bs.nil, Bs.nil, Bs.nil⟩, by simp, by simp, fun G hG => ⟨s21_bad hl (by omega) (n + 40) (by omega) hG he, ?_, ?_, ?_, s25 hl (by omega) (n + 40) (by omega) hG, ?_, s27_bad hl (by omega) (n + 29) (by omega) hG hE⟩⟩
        · have := s22 hl (by omega) (n + 30) (by omega) hG
          unfold headN at this
          rw [if_neg hE, headE_eq] at this
          exact this
        · have := s23 hl (by omega) (n + 40) (by omega) hG
          rw [if_neg he] at this
          exact this
        · obtain ⟨G', q1, q2, q3⟩ := s24_bad hl (by omega) (n + 29) (by omega) hG hE
          exact ⟨G', .nl, 0, q1, .inl ⟨rfl, rfl⟩, q2, q3⟩
        · have := s26 hl (by omega) (n + 40) (by omega) hG
          rw [if_neg he] at this
          exact this
    obtain ⟨F2, e2, a2, b2⟩ := (hA F1 b1).1
    obtain ⟨F3, e3, a3, b3⟩ := (hA F2 b2).2.1
    have n3 := Nd.new F3 ⟨0, [], [], []⟩
    have w4 := b3.new (nodeC ⟨0, [], [], []⟩) 38 4
    simp only [↓u6bt3_s, ↓seqU_eq, ↓u6_7, ↓m18_mk, ↓exU_n, ↓uCall_eq, ↓e2, ↓goOn_ok, ↓uExt_0, ↓uExt_1, ↓uExt_2, ↓uExt_3, ↓uExt_4]
    simp only [↓u6bt4_s, ↓seqU_eq, ↓u6_8, ↓m18_mk, ↓exU_n, ↓uCall_eq, ↓goOn_ok, ↓uExt_0, ↓uExt_1, ↓e3, ↓nd0, ↓n3.st]
    have n4 := n3.put nd
    have w5 := w4.put F3.x (nodeC nd)
    generalize (F3.new (nodeC ⟨0, [], [], []⟩) 38 4).put F3.x (nodeC nd) = F4 at *
    generalize F3.x = y at *
    obtain ⟨F5, v5, m5, e5, sl5, a5, b5⟩ := (hA F4 w5).2.2.1
    obtain ⟨F6, v6, m6, e6, sl6, a6, b6⟩ := (hA F5 b5).2.2.2.1
    have n6 := (n4.std a5 (fun h => h)).std a6 (fun h => h)
    have hv5 := sl5.sl.stdn a6
    have hv6 := sl6.sl
    simp only [↓u6bt5_s, ↓seqU_eq, ↓u6_9, ↓m18_mk, ↓exU_n, ↓uCall_eq, ↓e5, ↓e6, ↓goOn_ok]
    simp only [↓u6bt6_s, ↓seqU_eq, ↓condU_eq, ↓skipU_eq, ↓u6_10, ↓u6_11, ↓m18_mk, ↓k18_mk, ↓exU_n, ↓hv5.len, ↓hv6.len, List.length_map, ↓uEq_nn, decide_true, xo_t, Bool.not_true, ↓eT_t, ↓cn_false]
    simp only [↓u6bt7_s, ↓seqU_eq, ↓blockU_eq, ↓loopU_eq, ↓u6_13, ↓m18_mk, ↓exU_n]
    obtain ⟨s', t', e7⟩ := loop6 (n + 60) (n + 60) hWb (by omega) hv5 hv6 (.s l) (numV .i64 kz) (.t false) (.n nd.k) (.s nd.name) (.s nd.pa) (.s nd.pb) (.n e) (.p y 0) (.n e) (.t false) (.t false) (.t false) W.length 0 (.u []) (.u []) (by omega) (n + 60) (by omega)
    rw [e7, exU_e, show Nat.beq 0 0 = true from rfl, cn_true]
    obtain ⟨F7, e8, a7, b7⟩ := (hA F6 b6).2.2.2.2.1
    obtain ⟨F8, e9, a8, b8⟩ := (hA F7 b7).2.2.2.2.2.1
    obtain ⟨F9, e10, a9, b9⟩ := (hA F8 b8).2.2.2.2.2.2
    obtain ⟨w, e11, hw⟩ := wire_ok (n + 59) F9 kz
    have e11' : clU kindD (n + 60) 28 [numV .i64 kz] F9 = .ok w F9 := e11
    have e12 : clU kindD (n + 60) 29 [numV .i64 kz] F9 = .ok w F9 := (wire_same (n + 59) _ F9).symm.trans e11
    refine ⟨F9, ?_⟩
    simp only [↓u6bt8_s, ↓seqU_eq, ↓retU_eq, ↓u6_21, ↓m18_mk, ↓exU_n, ↓exU_r, ↓uFad_p, Nat.zero_add, ↓n6.l0, ↓n6.l1, ↓n6.l2, ↓n6.l3, ↓uEq_nn, decide_true, xo_f, ↓eT_t, ↓cn_true, ↓uEq_ss _ _ _ _ hB.1 hB.1, ↓uEq_ss _ _ _ _ hB.2.1 hB.2.1, ↓uEq_ss _ _ _ _ hB.2.2 hB.2.2, ↓uCall_eq, ↓e8, ↓goOn_ok, ↓uEqB_tt, beq_self_eq_true, ↓e9, ↓e10, ↓e11', ↓e12, ↓u6r_mk]
    exact hw _ _
end Go.Proofs.Ytgejdfhfgphcbaa.Ev
