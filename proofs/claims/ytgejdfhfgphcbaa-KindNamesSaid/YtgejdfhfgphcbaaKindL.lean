/- Kind: the law KindNames. -/
import Derived.Test.YtgejdfhfgphcbaaKindJ
namespace Go.Proofs.Ytgejdfhfgphcbaa.Ev
open Go Go.RowKit
set_option linter.unusedVariables false
set_option linter.constructorNameAsVariable false
set_option linter.unusedSimpArgs false
set_option linter.unusedSectionVars false

/-- The names. -/
def nmT (j : Nat) : Ty := if j = 0 then .nm [97] [] else if j = 1 then .nm [98] [[67]] else if j = 2 then .nm [120, 95, 49] [] else .nm [100] [[101], [102]]
def nmsL : List (List Nat) := [[97], [98, 46, 67], [120, 95, 49], [100, 46, 101, 46, 102]]
theorem nmT_at {j : Nat} (h : j < 4) : nmsL[j]? = some (nmT j).txt := by
  match j, h with
  | 0, _ => rfl
  | 1, _ => rfl
  | 2, _ => rfl
  | 3, _ => rfl
/-- A name's text. -/
def isNm (q : List Nat) : Prop := ∃ p ps, q = (Ty.nm p ps).txt ∧ (Ty.nm p ps).wf ∧ q.length ≤ 10
theorem nmT_ok (j : Nat) : (nmT j).wf ∧ (nmT j).nms = [(nmT j).txt] ∧ (nmT j).dep = 0 ∧ (nmT j).txt.length ≤ 5 ∧ isNm (nmT j).txt := by
  have g1 : (Ty.nm [97] []).wf := ⟨goodP_dec (by decide), fun q hq => by simp at hq, by decide⟩
  have g2 : (Ty.nm [98] [[67]]).wf := ⟨goodP_dec (by decide), fun q hq => by simp at hq; subst hq; exact goodP_dec (by decide), by decide⟩
  have g3 : (Ty.nm [120, 95, 49] []).wf := ⟨goodP_dec (by decide), fun q hq => by simp at hq, by decide⟩
  have g4 : (Ty.nm [100] [[101], [102]]).wf := ⟨goodP_dec (by decide), fun q hq => by
    simp at hq
    rcases hq with rfl | rfl
    · exact goodP_dec (by decide)
    · exact goodP_dec (by decide), by decide⟩
  unfold nmT
  split
  · exact ⟨g1, rfl, rfl, by decide, _, _, rfl, g1, by decide⟩
  · split
    · exact ⟨g2, rfl, rfl, by decide, _, _, rfl, g2, by decide⟩
    · split
      · exact ⟨g3, rfl, rfl, by decide, _, _, rfl, g3, by decide⟩
      · exact ⟨g4, rfl, rfl, by decide, _, _, rfl, g4, by decide⟩
def stepT (T : Ty) (z : Nat) : Ty := if z / 4 % 3 = 0 then .l2 [109, 97, 112] (nmT (z % 4)) T else if z / 4 % 3 = 1 then .l2 [109, 97, 112] T (nmT (z % 4)) else .l1 [108, 105, 115, 116] T
theorem stepT_ok {T : Ty} (h : T.wf) (hn : ∀ q ∈ T.nms, isNm q) (z : Nat) : (stepT T z).wf ∧ (∀ q ∈ (stepT T z).nms, isNm q) ∧ (stepT T z).dep ≤ T.dep + 1 ∧ (stepT T z).txt.length ≤ T.txt.length + 11 ∧ (stepT T z).nms.length ≤ T.nms.length + 1 := by
  obtain ⟨n1, n2, n3, n4, n5⟩ := nmT_ok (z % 4)
  unfold stepT
  split
  · refine ⟨⟨goodP_dec (by decide), by decide, n1, h⟩, fun q hq => ?_, by simp [Ty.dep, n3], by simp [Ty.txt]; omega, by simp [Ty.nms, n2]⟩
    simp only [Ty.nms, n2, List.mem_append, List.mem_cons, List.not_mem_nil, or_false] at hq
    rcases hq with rfl | hq
    · exact n5
    · exact hn q hq
  · split
    · refine ⟨⟨goodP_dec (by decide), by decide, h, n1⟩, fun q hq => ?_, by simp [Ty.dep, n3], by simp [Ty.txt]; omega, by simp [Ty.nms, n2]⟩
      simp only [Ty.nms, n2, List.mem_append, List.mem_cons, List.not_mem_nil, or_false] at hq
      rcases hq with hq | rfl
      · exact hn q hq
      · exact n5
    · exact ⟨⟨goodP_dec (by decide), by decide, h⟩, hn, by simp [Ty.dep], by simp [Ty.txt], by simp [Ty.nms]⟩
/-- What stands in memory in the loop. -/
structure L10 (F : FAW) (v d f : FV) (zs : List Nat) (W : List (List Nat)) : Prop where
  wf : Wf F
  v : Sl F v (zs.map FV.b)
  d : Sl F d (nmsL.map FV.s)
  f : ∃ m, SlB F f 9 (W.map FV.s) m
theorem loop10 (n N : Nat) {v d : FV} {zs : List Nat} (hz : Bs zs) (hL : zs.length ≤ 4) (a1 i j k l m o p x19 y20 w21 : FV) : ∀ (r a : Nat) (T : Ty) (F : FAW) (f h q r' s t : FV), L10 F v d f zs T.nms → a + r = zs.length → T.wf → (∀ q ∈ T.nms, isNm q) → T.nms.length ≤ a → T.txt.length ≤ 2 + 11 * a → ∀ M, r < M →
    ∃ F' f' h' q' r'' s' t', (∀ κ : EX → W21 → FAW → RU, loopNU (u10_25 (clU kindD n) N) κ M (.mk v a1 d (.s T.txt) f (.n a) h i j k l m o p q r' s t x19 y20 w21) F = κ (.exit 0) (.mk v a1 d (.s ((zs.drop a).foldl stepT T).txt) f' (.n zs.length) h' i j k l m o p q' r'' s' t' x19 y20 w21) F') ∧ L10 F' v d f' zs ((zs.drop a).foldl stepT T).nms := by
  intro r
  induction r with
  | zero =>
    intro a T F f h q r' s t hF ha hT hn hd ht M hM
    obtain ⟨M, rfl⟩ : ∃ M', M = M' + 1 := ⟨M - 1, by omega⟩
    have ha : a = zs.length := by omega
    subst ha
    rw [List.drop_length, List.foldl_nil]
    refine ⟨F, f, h, .t false, r', s, t, fun κ => ?_, hF⟩
    rw [loopNU_succ]
    simp only [↓u10_25, ↓seqU_eq, ↓condU_eq, ↓exitU_eq, ↓u10_11, ↓u10_12, ↓m21_mk, ↓k21_mk, ↓exU_n, ↓exU_e, hF.v.len, List.length_map, uLss_nn, Nat.lt_irrefl, decide_false, eT_t, cn_false]
  | succ r ih =>
    intro a T F f h q r' s t hF ha hT hn hd ht M hM
    obtain ⟨M, rfl⟩ : ∃ M', M = M' + 1 := ⟨M - 1, by omega⟩
    have hal : a < zs.length := by omega
    have hza : zs[a]? = some zs[a] := List.getElem?_eq_getElem hal
    obtain ⟨q1, q2, q3, q4, q5⟩ := stepT_ok hT hn zs[a]
    obtain ⟨n1, n2, n3, n4, n5⟩ := nmT_ok (zs[a] % 4)
    have hm4 : zs[a] % 4 < 4 := Nat.mod_lt _ (by decide)
    have hnm : (nmsL.map FV.s)[zs[a] % 4]? = some (.s (nmT (zs[a] % 4)).txt) := by rw [List.getElem?_map, nmT_at hm4]; rfl
    have h256 := hz _ (List.mem_of_getElem? hza)
    have hstep : ∃ F' f' h' q' r'' s' t', (∀ κ : EX → W21 → FAW → RU, loopNU (u10_25 (clU kindD n) N) κ (M + 1) (.mk v a1 d (.s T.txt) f (.n a) h i j k l m o p q r' s t x19 y20 w21) F = loopNU (u10_25 (clU kindD n) N) κ M (.mk v a1 d (.s (stepT T zs[a]).txt) f' (.n (a + 1)) h' i j k l m o p q' r'' s' t' x19 y20 w21) F') ∧ L10 F' v d f' zs (stepT T zs[a]).nms := by
      have pre : ∀ (κ : EX → W21 → FAW → RU) (st : W21) (F' : FAW), (∀ rec : W21 → FAW → RU, (u10_25 (clU kindD n) N) (.mk v a1 d (.s T.txt) f (.n a) h i j k l m o p q r' s t x19 y20 w21) F (fun o v F => exU o (rec v F) (fun i => κ (.exit i) v F) (κ .ret v F)) = rec st F') → loopNU (u10_25 (clU kindD n) N) κ (M + 1) (.mk v a1 d (.s T.txt) f (.n a) h i j k l m o p q r' s t x19 y20 w21) F = loopNU (u10_25 (clU kindD n) N) κ M st F' := fun κ st F' h => by rw [loopNU_succ]; exact h _
      obtain ⟨mf, hf⟩ := hF.f
      have g1 : ∀ f : KU, (uIad 1 v (.n a) F fun v0 S => uLd none v0 S f) = f (.b zs[a]) F := fun f => hF.v.get (by rw [List.getElem?_map, hza]; rfl) (Fi.b _) f
      have g2 : ∀ f : KU, (uIad 1 d (.b (zs[a] % 4)) F fun v0 S => uLd none v0 S f) = f (.s (nmT (zs[a] % 4)).txt) F := fun f => hF.d.getb hnm (Fi.s _) f
      have hfs : ∀ c ∈ T.nms.map FV.s, Fi c := fun c hc => by
        obtain ⟨y, _, rfl⟩ := List.mem_map.mp hc
        exact Fi.s y
      have p1 : ∀ (G : FAW) (f : KU), uAdd (.s [109, 97, 112, 60]) (.s (nmT (zs[a] % 4)).txt) G f = f (.s ([109, 97, 112, 60] ++ (nmT (zs[a] % 4)).txt)) G := fun G f => uAdd_ss _ _ (by simp; omega)
      have p2 : ∀ (G : FAW) (f : KU), uAdd (.s ([109, 97, 112, 60] ++ (nmT (zs[a] % 4)).txt)) (.s [44]) G f = f (.s ([109, 97, 112, 60] ++ (nmT (zs[a] % 4)).txt ++ [44])) G := fun G f => uAdd_ss _ _ (by simp; omega)
      have p3 : ∀ (G : FAW) (f : KU), uAdd (.s ([109, 97, 112, 60] ++ (nmT (zs[a] % 4)).txt ++ [44])) (.s T.txt) G f = f (.s ([109, 97, 112, 60] ++ (nmT (zs[a] % 4)).txt ++ [44] ++ T.txt)) G := fun G f => uAdd_ss _ _ (by simp; omega)
      have p4 : ∀ (G : FAW) (f : KU), uAdd (.s ([109, 97, 112, 60] ++ (nmT (zs[a] % 4)).txt ++ [44] ++ T.txt)) (.s [62]) G f = f (.s ([109, 97, 112, 60] ++ (nmT (zs[a] % 4)).txt ++ [44] ++ T.txt ++ [62])) G := fun G f => uAdd_ss _ _ (by simp; omega)
      have r1 : ∀ (G : FAW) (f : KU), uAdd (.s [109, 97, 112, 60]) (.s T.txt) G f = f (.s ([109, 97, 112, 60] ++ T.txt)) G := fun G f => uAdd_ss _ _ (by simp; omega)
      have r2 : ∀ (G : FAW) (f : KU), uAdd (.s ([109, 97, 112, 60] ++ T.txt)) (.s [44]) G f = f (.s ([109, 97, 112, 60] ++ T.txt ++ [44])) G := fun G f => uAdd_ss _ _ (by simp; omega)
      have r3 : ∀ (G : FAW) (f : KU), uAdd (.s ([109, 97, 112, 60] ++ T.txt ++ [44])) (.s (nmT (zs[a] % 4)).txt) G f = f (.s ([109, 97, 112, 60] ++ T.txt ++ [44] ++ (nmT (zs[a] % 4)).txt)) G := fun G f => uAdd_ss _ _ (by simp; omega)
      have r4 : ∀ (G : FAW) (f : KU), uAdd (.s ([109, 97, 112, 60] ++ T.txt ++ [44] ++ (nmT (zs[a] % 4)).txt)) (.s [62]) G f = f (.s ([109, 97, 112, 60] ++ T.txt ++ [44] ++ (nmT (zs[a] % 4)).txt ++ [62])) G := fun G f => uAdd_ss _ _ (by simp; omega)
      have t1 : ∀ (G : FAW) (f : KU), uAdd (.s [108, 105, 115, 116, 60]) (.s T.txt) G f = f (.s ([108, 105, 115, 116, 60] ++ T.txt)) G := fun G f => uAdd_ss _ _ (by simp; omega)
      have t2 : ∀ (G : FAW) (f : KU), uAdd (.s ([108, 105, 115, 116, 60] ++ T.txt)) (.s [62]) G f = f (.s ([108, 105, 115, 116, 60] ++ T.txt ++ [62])) G := fun G f => uAdd_ss _ _ (by simp; omega)
      by_cases h0 : zs[a] / 4 % 3 = 0
      · have lit : SlB _ (.l F.x 0 1 1) 9 _ F.x := lit_new hF.wf [FV.s (nmT (zs[a] % 4)).txt] 9 (by simp)
        have w1 := hF.wf.new [FV.s (nmT (zs[a] % 4)).txt] 9 1
        have st1 := Std.new hF.wf [FV.s (nmT (zs[a] % 4)).txt] 9 1 (fun _ => False) (fun _ => False)
        have hf1 := hf.sl.stdn st1
        obtain ⟨v', F', m', e1, s1, st2, w2, _⟩ := app_many w1 lit (fun c hc => by simp at hc; subst hc; exact Fi.s _) (hf1.src fun c hc => by
            obtain ⟨y, _, rfl⟩ := List.mem_map.mp hc
            exact Fi.s y) (fun c hc => by
            obtain ⟨y, _, rfl⟩ := List.mem_map.mp hc
            exact Fi.s y) (bytes := 16) (by simp; omega) (by simp; omega)
        refine ⟨F', v', .s (nmT (zs[a] % 4)).txt, .t true, .b (zs[a] / 4 % 3), .t (decide (zs[a] / 4 % 3 = 0)), t, fun κ => pre κ _ _ fun rec => ?_, ⟨w2, (hF.v.stdn st1).stdn st2, (hF.d.stdn st1).stdn st2, m', ?_⟩⟩
        · simp only [↓u10_25, ↓seqU_eq, ↓condU_eq, ↓blockU_eq, ↓skipU_eq, ↓exitU_eq, ↓u10_11, ↓u10_12, ↓u10_13, ↓u10_14, ↓u10_15, ↓u10_16, ↓u10_17, ↓u10_18, ↓u10_19, ↓u10_20, ↓u10_21, ↓u10_22, ↓u10_23, ↓u10_24, ↓m21_mk, ↓k21_mk, ↓exU_n, ↓exU_e, ↓hF.v.len, List.length_map, ↓uLss_nn, decide_eq_true hal, ↓eT_t, ↓cn_true, ↓cn_false, ↓g1, ↓g2, ↓uRem_bb _ _ _ (show 4 ≠ 0 by decide), ↓uRem_bb _ _ _ (show 3 ≠ 0 by decide), ↓uDiv_bb _ _ _ h256 (show 4 ≠ 0 by decide), ↓uEq_bb, xo_f, uAdd_nn _ _ (show a + 1 ≤ 9223372036854775807 by omega), decide_eq_true h0, ↓p1, ↓p2, ↓p3, ↓p4, ↓uLit1 _ _ (Fi.s _) (Fi.s _), ↓e1]
          unfold stepT
          rw [if_pos h0]
          simp only [Ty.txt, List.append_assoc, List.cons_append, List.nil_append]
        · unfold stepT
          rw [if_pos h0]
          simpa [Ty.nms, n2] using s1
      · by_cases h1 : zs[a] / 4 % 3 = 1
        · have w1 := hF.wf.new [FV.s (nmT (zs[a] % 4)).txt] 9 1
          have st1 := Std.new hF.wf [FV.s (nmT (zs[a] % 4)).txt] 9 1 (fun _ => False) (fun _ => False)
          have hf1 : SlB (F.new [FV.s (nmT (zs[a] % 4)).txt] 9 1) f 9 (T.nms.map FV.s) mf := hf.std st1 (fun _ _ _ h => h) (fun _ h => h)
          obtain ⟨v', F', m', e1, s1, st2, w2, _⟩ := app_one w1 hf1 hfs (Fi.s (nmT (zs[a] % 4)).txt) (j := F.x) (by rw [row_new, if_pos rfl]) (bytes := 16) (by simp; omega) (by simp; omega)
          refine ⟨F', v', .s (nmT (zs[a] % 4)).txt, .t true, .b (zs[a] / 4 % 3), .t (decide (zs[a] / 4 % 3 = 0)), .t (decide (zs[a] / 4 % 3 = 1)), fun κ => pre κ _ _ fun rec => ?_, ⟨w2, (hF.v.stdn st1).stdn st2, (hF.d.stdn st1).stdn st2, m', ?_⟩⟩
          · simp only [↓u10_25, ↓seqU_eq, ↓condU_eq, ↓blockU_eq, ↓skipU_eq, ↓exitU_eq, ↓u10_11, ↓u10_12, ↓u10_13, ↓u10_14, ↓u10_15, ↓u10_16, ↓u10_17, ↓u10_18, ↓u10_19, ↓u10_20, ↓u10_21, ↓u10_22, ↓u10_23, ↓u10_24, ↓m21_mk, ↓k21_mk, ↓exU_n, ↓exU_e, ↓hF.v.len, List.length_map, ↓uLss_nn, decide_eq_true hal, ↓eT_t, ↓cn_true, ↓cn_false, ↓g1, ↓g2, ↓uRem_bb _ _ _ (show 4 ≠ 0 by decide), ↓uRem_bb _ _ _ (show 3 ≠ 0 by decide), ↓uDiv_bb _ _ _ h256 (show 4 ≠ 0 by decide), ↓uEq_bb, xo_f, uAdd_nn _ _ (show a + 1 ≤ 9223372036854775807 by omega), decide_eq_false h0, decide_eq_true h1, ↓r1, ↓r2, ↓r3, ↓r4, ↓uLit1 _ _ (Fi.s _) (Fi.s _), ↓e1]
            unfold stepT
            rw [if_neg h0, if_pos h1]
            simp only [Ty.txt, List.append_assoc, List.cons_append, List.nil_append]
          · unfold stepT
            rw [if_neg h0, if_pos h1]
            simpa [Ty.nms, n2] using s1
        · refine ⟨F, f, .s (nmT (zs[a] % 4)).txt, .t true, .b (zs[a] / 4 % 3), .t (decide (zs[a] / 4 % 3 = 0)), .t (decide (zs[a] / 4 % 3 = 1)), fun κ => pre κ _ _ fun rec => ?_, ⟨hF.wf, hF.v, hF.d, mf, ?_⟩⟩
          · simp only [↓u10_25, ↓seqU_eq, ↓condU_eq, ↓blockU_eq, ↓skipU_eq, ↓exitU_eq, ↓u10_11, ↓u10_12, ↓u10_13, ↓u10_14, ↓u10_15, ↓u10_16, ↓u10_17, ↓u10_18, ↓u10_19, ↓u10_20, ↓u10_21, ↓u10_22, ↓u10_23, ↓u10_24, ↓m21_mk, ↓k21_mk, ↓exU_n, ↓exU_e, ↓hF.v.len, List.length_map, ↓uLss_nn, decide_eq_true hal, ↓eT_t, ↓cn_true, ↓cn_false, ↓g1, ↓g2, ↓uRem_bb _ _ _ (show 4 ≠ 0 by decide), ↓uRem_bb _ _ _ (show 3 ≠ 0 by decide), ↓uDiv_bb _ _ _ h256 (show 4 ≠ 0 by decide), ↓uEq_bb, xo_f, uAdd_nn _ _ (show a + 1 ≤ 9223372036854775807 by omega), decide_eq_false h0, decide_eq_false h1, ↓t1, ↓t2]
            unfold stepT
            rw [if_neg h0, if_neg h1]
            simp only [Ty.txt, List.append_assoc, List.cons_append, List.nil_append]
          · unfold stepT
            rw [if_neg h0, if_neg h1]
            exact hf
    obtain ⟨F1, f1, h1, r1, s1, t1, x1, e1, l1⟩ := hstep
    obtain ⟨F2, f2, h2, r2, s2, t2, x2, e2, l2⟩ := ih (a + 1) (stepT T zs[a]) F1 f1 h1 r1 s1 t1 x1 l1 (by omega) q1 q2 (by omega) (by omega) M (by omega)
    refine ⟨F2, f2, h2, r2, s2, t2, x2, fun κ => ?_, ?_⟩
    · rw [e1, e2, List.drop_eq_getElem_cons hal, List.foldl_cons]
    · rw [List.drop_eq_getElem_cons hal, List.foldl_cons]; exact l2
theorem loop10b (n N : Nat) (hn : 20 < n) {i f : FV} {W : List (List Nat)} (hW : ∀ q ∈ W, isNm q) (hL : W.length ≤ 4) (a c d e g h o p q r s t w : FV) : ∀ (rr j : Nat) (F : FAW) (k l m x y : FV), Wf F → Sl F i (W.map FV.s) → Sl F f (W.map FV.s) → j + rr = W.length → ∀ M, rr < M →
    ∃ F' k' l' m' x' y', ∀ κ : EX → W21 → FAW → RU, loopNU (u10_38 (clU kindD (n + 20)) N) κ M (.mk a c d e f g h i (.n j) k l m o p q r s t w x y) F = κ (.exit 3) (.mk a c d e f g h i (.n W.length) k' l' m' o p q r s t w x' y') F' := by
  intro rr
  induction rr with
  | zero =>
    intro j F k l m x y hF hi hf hj M hM
    obtain ⟨M, rfl⟩ : ∃ M', M = M' + 1 := ⟨M - 1, by omega⟩
    have hj : j = W.length := by omega
    subst hj
    refine ⟨F, k, l, m, .t false, y, fun κ => ?_⟩
    rw [loopNU_succ]
    simp only [↓u10_38, ↓seqU_eq, ↓condU_eq, ↓exitU_eq, ↓u10_31, ↓u10_32, ↓m21_mk, ↓k21_mk, ↓exU_n, ↓exU_e, hf.len, List.length_map, uLss_nn, Nat.lt_irrefl, decide_false, eT_t, cn_false]
  | succ rr ih =>
    intro j F k l m x y hF hi hf hj M hM
    obtain ⟨M, rfl⟩ : ∃ M', M = M' + 1 := ⟨M - 1, by omega⟩
    have hjl : j < W.length := by omega
    have hwj : W[j]? = some W[j] := List.getElem?_eq_getElem hjl
    obtain ⟨pp, ps, hq, hwf, hlen⟩ := hW W[j] (List.mem_of_getElem? hwj)
    have hb : Bs W[j] := by rw [hq]; exact Ty.txt_bs _ hwf
    obtain ⟨F1, e1, a1, b1⟩ := s21_ok hwf (Nat.zero_le _) (Ty.txt_bs _ hwf) (by rw [← hq]; omega) n (by rw [← hq]; omega) hF
    have e1' : clU kindD (n + 20) 21 [.s W[j]] F = .ok (.u [.n 0, .s W[j], .s [], .s [], .n 0]) F1 := by rw [hq]; exact e1
    have hi1 := hi.stdn a1
    have hf1 := hf.stdn a1
    obtain ⟨F2, k2, l2, m2, x2, y2, e2⟩ := ih (j + 1) F1 (.n 0) (.s W[j]) (.n 0) (.t true) (.t false) b1 hi1 hf1 (by omega) M (by omega)
    refine ⟨F2, k2, l2, m2, x2, y2, fun κ => ?_⟩
    have hget : (W.map FV.s)[j]? = some (.s W[j]) := by rw [List.getElem?_map, hwj]; rfl
    have g0 : ∀ f' : KU, (uIad 1 i (.n j) F fun v0 S => uLd none v0 S f') = f' (.s W[j]) F := fun f' => hi.get hget (Fi.s _) f'
    have g1 : ∀ f' : KU, (uIad 1 i (.n j) F1 fun v0 S => uLd none v0 S f') = f' (.s W[j]) F1 := fun f' => hi1.get hget (Fi.s _) f'
    have g2 : ∀ f' : KU, (uIad 1 f (.n j) F1 fun v0 S => uLd none v0 S f') = f' (.s W[j]) F1 := fun f' => hf1.get hget (Fi.s _) f'
    rw [loopNU_succ]
    have ih2 := e2 κ
    generalize loopNU (u10_38 (clU kindD (n + 20)) N) κ M = rec at ih2 ⊢
    simp only [↓u10_38, ↓seqU_eq, ↓condU_eq, ↓blockU_eq, ↓skipU_eq, ↓exitU_eq, ↓u10_31, ↓u10_32, ↓u10_33, ↓u10_34, ↓u10_35, ↓u10_37, ↓m21_mk, ↓k21_mk, ↓exU_n, ↓exU_e, ↓hf.len, List.length_map, ↓uLss_nn, decide_eq_true hjl, ↓eT_t, ↓cn_true, ↓cn_false, ↓g0, ↓g1, ↓g2, ↓uCall_eq, ↓e1', ↓goOn_ok, ↓uExt_0, ↓uExt_1, ↓uExt_2, ↓uExt_3, ↓uExt_4, ↓uEq_ss _ _ _ _ hb hb, decide_true, xo_t, Bool.not_true, ↓uEq_nn, uAdd_nn _ _ (show j + 1 ≤ 9223372036854775807 by omega)]
    exact ih2
theorem step_all : ∀ (zs : List Nat) (T : Ty), T.wf → (∀ q ∈ T.nms, isNm q) → (zs.foldl stepT T).wf ∧ (∀ q ∈ (zs.foldl stepT T).nms, isNm q) ∧ (zs.foldl stepT T).dep ≤ T.dep + zs.length ∧ (zs.foldl stepT T).txt.length ≤ T.txt.length + 11 * zs.length ∧ (zs.foldl stepT T).nms.length ≤ T.nms.length + zs.length
  | [], T, h, hn => ⟨h, hn, Nat.le_refl _, Nat.le_refl _, Nat.le_refl _⟩
  | z :: zs, T, h, hn => by
    obtain ⟨q1, q2, q3, q4, q5⟩ := stepT_ok h hn z
    obtain ⟨r1, r2, r3, r4, r5⟩ := step_all zs _ q1 q2
    rw [List.foldl_cons, List.length_cons]
    exact ⟨r1, r2, by omega, by omega, by omega⟩
theorem s10 (n : Nat) (hn : 300 < n) {F : FAW} (hF : Wf F) {v : FV} {zs : List Nat} (hz : Bs zs) (hv : Sl F v (zs.map FV.b)) : ∃ F', clU kindD (n + 41) 10 [v] F = .ok (.t true) F' := by
  rw [cl10, u10_in]
  obtain ⟨F1, e1, a1, b1⟩ := s20 n hF
  have hv1 := hv.stdn a1
  have elit : ∀ f : KU, uLitF 9 1 [(.s [])] 4 [(0, 1, (.s [97])), (1, 1, (.s [98, 46, 67])), (2, 1, (.s [120, 95, 49])), (3, 1, (.s [100, 46, 101, 46, 102]))] F1 f = f (.l F1.x 0 4 4) (F1.new (nmsL.map FV.s) 9 1) := fun f => by
    have e : uLitF 9 1 [(.s [])] 4 [(0, 1, (.s [97])), (1, 1, (.s [98, 46, 67])), (2, 1, (.s [120, 95, 49])), (3, 1, (.s [100, 46, 101, 46, 102]))] F1 f = newU (nmsL.map FV.s) 9 1 F1 fun i F' => f (.l i 0 4 4) F' := rfl
    rw [e, newU_new]
  have st2 := Std.new b1 (nmsL.map FV.s) 9 1 (fun _ => False) (fun _ => False)
  have w2 := b1.new (nmsL.map FV.s) 9 1
  have hd2 : SlB (F1.new (nmsL.map FV.s) 9 1) (.l F1.x 0 4 4) 9 (nmsL.map FV.s) F1.x := lit_new b1 (nmsL.map FV.s) 9 (by decide)
  simp only [↓u10b_s, ↓u10bt1_s, ↓u10bt2_s, ↓seqU_eq, ↓condU_eq, ↓skipU_eq, ↓retU_eq, ↓m21_mk, ↓k21_mk, ↓u10_0, ↓u10_1, ↓u10_2, ↓u10_3, ↓u10_4, ↓u10_5, ↓u10_6, ↓exU_n, ↓exU_r, ↓uCall_eq, ↓e1, ↓goOn_ok, ↓uNot_t, Bool.not_true, ↓eT_t, ↓cn_false, ↓hv1.len, List.length_map, ↓uGtr_nn]
  by_cases h4 : 4 < zs.length
  · rw [decide_eq_true h4, cn_true]; exact ⟨F1, rfl⟩
  · rw [decide_eq_false h4, cn_false]
    simp only [↓u10bt3_s, ↓u10bt4_s, ↓u10bt5_s, ↓u10bt6_s, ↓seqU_eq, ↓blockU_eq, ↓loopU_eq, ↓m21_mk, ↓u10_7, ↓u10_8, ↓u10_9, ↓u10_10, ↓exU_n, ↓elit]
    have w0 : (Ty.wd [105, 56]).wf := ⟨goodP_dec (by decide), by decide, by decide⟩
    obtain ⟨F3, f3, h3, q3, r3, s3, t3, e3, l3⟩ := loop10 (v := v) (d := .l F1.x 0 4 4) (n + 40) (n + 40) hz (by omega) (.t false) (.u []) (.u []) (.u []) (.u []) (.u []) (.t false) (.t false) (.u []) (.u []) (.u []) zs.length 0 (.wd [105, 56]) (F1.new (nmsL.map FV.s) 9 1) .nl (.u []) (.u []) (.u []) (.u []) (.u []) ⟨w2, hv1.stdn st2, hd2.sl, 0, .inl ⟨rfl, rfl⟩⟩ (by omega) w0 (fun q hq => by cases hq) (Nat.le_refl _) (by decide) (n + 40) (by omega)
    obtain ⟨t1, t2, t5, t4, t6⟩ := step_all zs (.wd [105, 56]) w0 (fun q hq => by cases hq)
    have e3' := fun κ => e3 κ
    simp only [List.drop_zero, show (Ty.wd [105, 56]).txt = [105, 56] from rfl] at e3' l3
    rw [e3', exU_e, show Nat.beq 0 0 = true from rfl, cn_true]
    generalize zs.foldl stepT (.wd [105, 56]) = T at *
    have hd0 : (Ty.wd [105, 56]).dep = 0 := rfl
    have ht0 : (Ty.wd [105, 56]).txt.length = 2 := rfl
    have hn0 : (Ty.wd [105, 56]).nms.length = 0 := rfl
    obtain ⟨mf, hf⟩ := l3.f
    have hb := T.txt_bs t1
    obtain ⟨F5, v5, m5, e5, sl5, a5, b5⟩ := s23 hb (by omega) (n + 20) (by omega) l3.wf
    have re := read_in t1 (by omega)
    rw [re] at sl5
    simp only [if_true] at sl5
    have hf5 : Sl F5 f3 (T.nms.map FV.s) := hf.sl.stdn a5
    simp only [↓u10bt7_s, ↓seqU_eq, ↓m21_mk, ↓u10_26, ↓exU_n, ↓uCall_eq, ↓e5, ↓goOn_ok]
    simp only [↓u10bt8_s, ↓seqU_eq, ↓condU_eq, ↓skipU_eq, ↓m21_mk, ↓k21_mk, ↓u10_27, ↓u10_28, ↓exU_n, ↓sl5.len, ↓hf5.len, List.length_map, ↓uEq_nn, decide_true, xo_t, Bool.not_true, ↓eT_t, ↓cn_false]
    simp only [↓u10bt9_s, ↓seqU_eq, ↓blockU_eq, ↓loopU_eq, ↓m21_mk, ↓u10_30, ↓exU_n]
    obtain ⟨F6, k6, l6, m6, x6, y6, e6⟩ := loop10b (n + 20) (n + 40) (by omega) (i := v5) (f := f3) t2 (by omega) v (.t false) (.l F1.x 0 4 4) (.s T.txt) (.n zs.length) h3 (.t false) (.t false) q3 r3 s3 t3 (.t false) T.nms.length 0 F5 (.u []) (.u []) (.u []) (.u []) (.u []) b5 sl5.sl hf5 (by omega) (n + 40) (by omega)
    rw [e6, exU_e, show Nat.beq 3 3 = true from rfl, cn_true]
    exact ⟨F6, rfl⟩
end Go.Proofs.Ytgejdfhfgphcbaa.Ev
