/- Msg: texts that are put; zig.Put. -/
import Derived.Test.YtgejdfhfgphcbaaMsgKU
import Derived.Test.YtgejdfhfgphcbaaEvF
import Derived.Test.YtgejdfhfgphcbaaMsgC
namespace Go.Proofs.Ytgejdfhfgphcbaa.Ev
open Go Go.RowKit
set_option linter.unusedVariables false
set_option linter.constructorNameAsVariable false
set_option linter.unusedSimpArgs false
set_option linter.unusedSectionVars false

theorem be4b_len (c : Nat) : (be4b c).length = 4 := rfl
theorem t64b (N : Nat) (hN : 6 ≤ N) {F : FAW} {a : FV} {xs : List Nat} (ha : By F a xs) (hw : Wf F) (hL : xs.length ≤ 1000000) (c : Nat) :
    ∃ v F', clU msgD N 64 [a, w64 c, .n 4] F = .ok v F' ∧ BB F' v (xs ++ be4b c) F.x ∧ v ≠ .nl ∧ Std F F' (fun _ => False) (fun _ => False) ∧ Wf F' := by
  obtain ⟨F', h1, h2, h3, h4⟩ := t64 N hN ha hw hL c
  have := h2.e
  rw [List.length_map] at this
  exact ⟨_, F', h1, this, by simp, h3, h4⟩
theorem t65 (N : Nat) (hN : 7 ≤ N) {F : FAW} {a : FV} {xs s : List Nat} (ha : By F a xs) (hs : Bs s) (hw : Wf F) (hL : xs.length ≤ 1000000) (hS : s.length ≤ 1000000) :
    ∃ v F' m, clU msgD N 65 [a, .s s] F = .ok v F' ∧ BB F' v (xs ++ be4b s.length ++ s) m ∧ F.x ≤ m ∧ Std F F' (fun _ => False) (fun _ => False) ∧ Wf F' := by
  obtain ⟨m, rfl⟩ : ∃ m, N = m + 1 := ⟨N - 1, by omega⟩
  obtain ⟨v1, F1, e1, h1, n1, s1, w1⟩ := t64b m (by omega) ha hw hL s.length
  obtain ⟨v2, F2, m2, e2, h2, s2, w2, n2⟩ := app_bb w1 h1 (fun g => src_s hs F1 g) (by rw [List.length_append, be4b_len]; omega)
  have hne : v2 ≠ .nl := by
    rintro rfl
    rcases h2 with ⟨_, h, _⟩ | ⟨i, mu, h, _⟩
    · simp [be4b] at h
    · cases h
  refine ⟨v2, F2, m2, ?_, h2, ?_, s1.fresh hw s2 (fun _ _ h => h) (fun j hj h => by omega), w2⟩
  · rw [cl65, u65_in]
    simp -implicitDefEqProofs only [↓u65b, ↓seqU_eq, ↓retU_eq, ↓u65_0, ↓u65_1, ↓m3_mk, ↓exU_n, ↓exU_r, ↓uLen_s, ↓uCv_un _ _ _ (show s.length < 18446744073709551616 by omega), ↓uCall_eq, ↓e1, ↓goOn_ok, ↓e2, ↓u65r_mk]
  · rcases n2 hne with ⟨h, _⟩ | h
    · omega
    · exact Nat.le_trans s1.x h
/-- slices.Clone. -/
theorem t90 (N : Nat) (hN : 1 ≤ N) {F : FAW} {a : FV} {xs : List Nat} (ha : By F a xs) (hw : Wf F) (hL : xs.length ≤ 1000000) :
    ∃ v F' m, clU msgD N 90 [a] F = .ok v F' ∧ BB F' v xs m ∧ (v ≠ .nl → F.x ≤ m) ∧ Std F F' (fun _ => False) (fun _ => False) ∧ Wf F' := by
  obtain ⟨m, rfl⟩ : ∃ m, N = m + 1 := ⟨N - 1, by omega⟩
  by_cases h0 : a = .nl
  · subst h0
    have : xs = [] := by
      rcases ha with ⟨_, h⟩ | ⟨i, o, c, el, m, ro, cells, h, _⟩
      · exact h
      · cases h
    subst this
    refine ⟨.nl, F, 0, ?_, SlE.nil _ _ _ _, fun h => absurd rfl h, Std.refl _ _ _, hw⟩
    have e1 : ∀ f : KU, uEqN 1 false .nl .nl F f = f (.t true) F := fun f => rfl
    rw [cl90, u90_in]
    simp -implicitDefEqProofs only [↓u90b, ↓seqU_eq, ↓condU_eq, ↓retU_eq, ↓u90_0, ↓u90_1, ↓u90_2, ↓u90_3, ↓m3_mk, ↓k3_mk, ↓exU_n, ↓exU_r, ↓e1, ↓eT_t, ↓cn_true, ↓u90r_mk]
  · have e1 : ∀ f : KU, uEqN 1 false a .nl F f = f (.t false) F := fun f => by
      rcases ha with ⟨h, _⟩ | ⟨i, o, c, el, m, ro, cells, rfl, _⟩
      · exact absurd h h0
      · rfl
    have st1 := Std.new hw [] 5 1 (fun _ => False) (fun _ => False)
    have h1 := SlE.lit0 F 5 1
    have w1 := hw.new [] 5 1
    have b1 := ha.std st1 (fun _ _ _ _ _ _ h => h)
    have el := fun f : KU => uLit0 5 1 [(.b 0)] F f
    have hx : (F.new [] 5 1).x = F.x + 1 := rfl
    generalize F.new [] 5 1 = F1 at *
    obtain ⟨v2, F2, m2, e2, h2, s2, w2, n2⟩ := app_bb (l := []) w1 h1 (fun g => b1.src g) (by simp; omega)
    refine ⟨v2, F2, m2, ?_, h2, fun hne => ?_, st1.fresh hw s2 (fun _ _ h => h) (fun j hj h => by omega), w2⟩
    · rw [cl90, u90_in]
      simp -implicitDefEqProofs only [↓u90b, ↓seqU_eq, ↓condU_eq, ↓skipU_eq, ↓retU_eq, ↓u90_0, ↓u90_1, ↓u90_2, ↓u90_4, ↓m3_mk, ↓k3_mk, ↓exU_n, ↓exU_r, ↓e1, ↓eT_t, ↓cn_false, ↓el, ↓e2, ↓u90r_mk]
    · rcases n2 hne with ⟨h, _⟩ | h
      · omega
      · omega
/-- A number of seven bits, low bits first. -/
def pv : Nat → Nat → List Nat
  | 0, v => [v % 256]
  | k + 1, v => if 127 < v then (v % 128 + 128) :: pv k (v / 128) else [v % 256]
theorem pv_len : ∀ k v, (pv k v).length ≤ k + 1
  | 0, v => Nat.le_refl _
  | k + 1, v => by
    unfold pv
    split
    · have := pv_len k (v / 128); simp; omega
    · simp
set_option maxRecDepth 8000 in
theorem or_128 : ∀ b : Fin 256, b.1 ||| 128 = b.1 % 128 + 128 := by decide
theorem w_7 : FV.i .u64 7 = w64 7 := rfl
theorem w_127 : FV.i .u64 127 = w64 127 := rfl
theorem srcU_lit {F : FAW} {i : Nat} {b : Nat} {e s m o} (h : F.row i = some ([.b b], e, s, m, o)) (g : Nat → List FV → RU) : srcU F 1 (.l i 0 1 1) g = g [b].length ([b].map FV.b) := srcU_one (Fi.b b) h g
theorem l66 (C : CU) (n : Nat) : ∀ (k c : Nat), c < 128 ^ (k + 1) → ∀ (M : Nat), k + 2 ≤ M → ∀ {F : FAW} {v : FV} {l : List Nat} {m : Nat} (h : BB F v l m) (hw : Wf F) (hl : l.length ≤ 2000000 - k * 10) (hk : k ≤ 20) (B : Nat) (hB : B ≤ F.x) (hm : v ≠ .nl → B ≤ m) (a e f : FV),
    ∃ v' m' F' c' e' f', (∀ κ : EX → W5 → FAW → RU, loopNU (u66_6 C n) κ M (.mk a (w64 c) e v f) F = κ (.exit 0) (.mk a (w64 c') e' v' f') F') ∧ c' ≤ 127 ∧ (∃ q, pv k c = q ++ [c' % 256] ∧ BB F' v' (l ++ q) m') ∧ Wf F' ∧ (v' ≠ .nl → B ≤ m') ∧ B ≤ F'.x ∧ ∀ F0 : FAW, F0.x = B → Wf F0 → Std F0 F (fun _ => False) (fun _ => False) → Std F0 F' (fun _ => False) (fun _ => False) := by
  intro k
  induction k with
  | zero =>
    intro c hc M hM F v l m h hw hl hk B hB hm a e f
    obtain ⟨M, rfl⟩ : ∃ M', M = M' + 1 := ⟨M - 1, by omega⟩
    refine ⟨v, m, F, c, e, .t false, fun κ => ?_, by omega, ⟨[], rfl, by rw [List.append_nil]; exact h⟩, hw, hm, hB, fun _ _ _ h => h⟩
    rw [loopNU_succ]
    generalize loopNU (u66_6 C n) κ M = rec
    simp -implicitDefEqProofs only [↓u66_6, ↓seqU_eq, ↓condU_eq, ↓exitU_eq, ↓u66_2, ↓u66_3, ↓m5_mk, ↓k5_mk, ↓exU_n, ↓exU_e, w_127, ↓uGtr_w _ _ _ _ .gtr rfl, decide_eq_false (show ¬ 127 < c by omega), ↓eT_t, ↓cn_false]
  | succ k ih =>
    intro c hc M hM F v l m h hw hl hk B hB hm a e f
    obtain ⟨M, rfl⟩ : ∃ M', M = M' + 1 := ⟨M - 1, by omega⟩
    by_cases hc1 : 127 < c
    · have h0 := hw.new [.b (c % 128 + 128)] 5 1
      have st0 := Std.new hw [.b (c % 128 + 128)] 5 1 (fun _ => False) (fun _ => False)
      have r0 : (F.new [.b (c % 128 + 128)] 5 1).row F.x = some ([.b (c % 128 + 128)], 5, 1, F.x, false) := by rw [row_new, if_pos rfl]
      have el := fun f : KU => uLit1 5 (.b 0) (Fi.b (c % 128 + 128)) (Fi.b 0) F f
      have hx : (F.new [.b (c % 128 + 128)] 5 1).x = F.x + 1 := rfl
      generalize F.new [.b (c % 128 + 128)] 5 1 = F1 at *
      have h1 : BB F1 v l m := h.std st0 (fun _ _ _ _ h => h) (fun _ h => h)
      obtain ⟨v2, F2, m2, e2, h2, s2, w2, n2⟩ := app_bb h0 h1 (fun g => srcU_lit r0 g) (by simp; omega)
      have hv2 : v2 ≠ .nl := by
        rintro rfl
        rcases h2 with ⟨_, h, _⟩ | ⟨i, mu, h, _⟩
        · simp at h
        · cases h
      have hx2 := s2.x
      have hm2 : v2 ≠ .nl → B ≤ m2 := fun hne => by
        rcases n2 hne with ⟨hq, hq'⟩ | hq
        · rw [hq]; exact hm hq'
        · omega
      obtain ⟨v3, m3, F3, c3, e3, f3, k1, k2, ⟨q, k3, k4⟩, k5, k6, k7, k8⟩ := ih (c / 128) (by rw [Nat.div_lt_iff_lt_mul (by omega)]; rw [Nat.pow_succ] at hc; exact hc) M (by omega) h2 w2 (by simp; omega) (by omega) B (by omega) hm2 a e (.t true)
      refine ⟨v3, m3, F3, c3, e3, f3, fun κ => ?_, k2, ⟨(c % 128 + 128) :: q, ?_, ?_⟩, k5, k6, k7, fun F0 h0 hw0 hs => k8 F0 h0 hw0 ((hs.trans st0).fresh hw0 s2 (fun _ _ h => h) (fun j hj hq => ?_))⟩
      · have k1 := k1 κ
        rw [loopNU_succ]
        generalize hr : loopNU (u66_6 C n) κ M = rec at k1 ⊢
        have eo : uSlow .or (.b (c % 256)) (.b 128) F = fun f => f (.b (c % 128 + 128)) F := by
          funext f
          rw [uOr_b _ _ _ _ (by omega) (by omega), or_128 ⟨c % 256, by omega⟩]
          show f (.b (c % 256 % 128 + 128)) F = _
          rw [Nat.mod_mod_of_dvd _ (by decide)]
        simp -implicitDefEqProofs only [↓u66_6, ↓seqU_eq, ↓condU_eq, ↓skipU_eq, ↓blockU_eq, ↓u66_2, ↓u66_3, ↓u66_4, ↓u66_5, ↓m5_mk, ↓k5_mk, ↓exU_n, w_127, w_7, ↓uGtr_w _ _ _ _ .gtr rfl, decide_eq_true hc1, ↓eT_t, ↓cn_true, ↓uCv_bw, ↓eo, ↓el, ↓e2, ↓uShr_w _ _ _ 7 (show 7 < 64 by omega) _ (.inl rfl)]
        exact k1
      · show (if 127 < c then (c % 128 + 128) :: pv k (c / 128) else [c % 256]) = _
        rw [if_pos hc1, k3]; rfl
      · rw [List.append_assoc] at k4; exact k4
      · obtain ⟨rfl, hq⟩ := hq
        have := hm hq
        omega
    · refine ⟨v, m, F, c, e, .t false, fun κ => ?_, by omega, ⟨[], ?_, by rw [List.append_nil]; exact h⟩, hw, hm, hB, fun _ _ _ h => h⟩
      · rw [loopNU_succ]
        generalize loopNU (u66_6 C n) κ M = rec
        simp -implicitDefEqProofs only [↓u66_6, ↓seqU_eq, ↓condU_eq, ↓exitU_eq, ↓u66_2, ↓u66_3, ↓m5_mk, ↓k5_mk, ↓exU_n, ↓exU_e, w_127, ↓uGtr_w _ _ _ _ .gtr rfl, decide_eq_false hc1, ↓eT_t, ↓cn_false]
      · show (if 127 < c then (c % 128 + 128) :: pv k (c / 128) else [c % 256]) = _
        rw [if_neg hc1]; rfl
theorem t66 (N : Nat) (hN : 8 ≤ N) {F : FAW} {a : FV} {xs : List Nat} (ha : By F a xs) (hw : Wf F) (hL : xs.length ≤ 1000000) (c : Nat) (hc : c < 4294967296) :
    ∃ v F' m, clU msgD N 66 [a, w64 c] F = .ok v F' ∧ BB F' v (xs ++ pv 4 c) m ∧ F.x ≤ m ∧ Std F F' (fun _ => False) (fun _ => False) ∧ Wf F' := by
  obtain ⟨m, rfl⟩ : ∃ m, N = m + 1 := ⟨N - 1, by omega⟩
  obtain ⟨v1, F1, m1, e1, h1, n1, s1, w1⟩ := t90 m (by omega) ha hw hL
  obtain ⟨v2, m2, F2, c2, e2, f2, k1, k2, ⟨q, k3, k4⟩, k5, k6, k7, k8⟩ := l66 (clU msgD m) m 4 c (by omega) m (by omega) h1 w1 (by omega) (by omega) F.x s1.x n1 a .nl (.u [])
  have st2 := k8 F rfl hw s1
  have h0 := k5.new [.b (c2 % 256)] 5 1
  have st0 := Std.new k5 [.b (c2 % 256)] 5 1 (fun _ => False) (fun _ => False)
  have r0 : (F2.new [.b (c2 % 256)] 5 1).row F2.x = some ([.b (c2 % 256)], 5, 1, F2.x, false) := by rw [row_new, if_pos rfl]
  have el := fun f : KU => uLit1 5 (.b 0) (Fi.b (c2 % 256)) (Fi.b 0) F2 f
  have hx : (F2.new [.b (c2 % 256)] 5 1).x = F2.x + 1 := rfl
  generalize F2.new [.b (c2 % 256)] 5 1 = F3 at *
  have k4' := k4.std st0 (fun _ _ _ _ h => h) (fun _ h => h)
  have hq : q.length ≤ 5 := by
    have := pv_len 4 c
    rw [k3] at this
    simp at this; omega
  obtain ⟨v4, F4, m4, e4, h4, s4, w4, n4⟩ := app_bb h0 k4' (fun g => srcU_lit r0 g) (by simp; omega)
  have hne : v4 ≠ .nl := by
    rintro rfl
    rcases h4 with ⟨_, h, _⟩ | ⟨i, mu, h, _⟩
    · simp at h
    · cases h
  refine ⟨v4, F4, m4, ?_, ?_, ?_, (st2.trans st0).fresh hw s4 (fun _ _ h => h) (fun j hj hq => ?_), w4⟩
  · rw [cl66, u66_in]
    generalize clU msgD m = C at *
    simp -implicitDefEqProofs only [↓u66b, ↓seqU_eq, ↓blockU_eq, ↓loopU_eq, ↓retU_eq, ↓u66_0, ↓u66_1, ↓u66_7, ↓m5_mk, ↓exU_n, ↓exU_e, ↓exU_r, ↓uCall_eq, ↓e1, ↓goOn_ok, ↓k1, show Nat.beq 0 0 = true from rfl, ↓cn_true, ↓uCv_bw, ↓el, ↓e4, ↓u66r_mk]
  · rw [k3, ← List.append_assoc]; exact h4
  · rcases n4 hne with ⟨rfl, h⟩ | h
    · exact k6 h
    · omega
  · obtain ⟨rfl, hq⟩ := hq
    have := k6 hq
    omega
end Go.Proofs.Ytgejdfhfgphcbaa.Ev
/- Msg: Put. -/
namespace Go.Proofs.Ytgejdfhfgphcbaa.Ev
open Go Go.RowKit
set_option linter.unusedVariables false
set_option linter.constructorNameAsVariable false
set_option linter.unusedSimpArgs false
set_option linter.unusedSectionVars false

/-- A head's row. -/
def HRow (F : FAW) (i : Nat) (H : Hd) : Prop := F.row i = some (H.c, 23, 4, i, false)
section
variable {F : FAW} {i : Nat} {H : Hd} (h : HRow F i H)
include h
theorem HRow.l0 (f : KU) : uLd none (.p i 0) F f = f (.s H.nm) F := uLd_row f h rfl (Fi.s _)
theorem HRow.l1 (f : KU) : uLd none (.p i 1) F f = f (.n H.kd) F := uLd_row f h rfl (Fi.n _)
theorem HRow.l2 (f : KU) : uLd none (.p i 2) F f = f (.i .i32 H.sq) F := uLd_row f h rfl (Fi.i _ _)
theorem HRow.l3 (f : KU) : uLd none (.p i 3) F f = f (.t H.old) F := uLd_row f h rfl (Fi.t _)
theorem HRow.la (f : KU) : uLd (some 4) (.p i 0) F f = f (.a H.c) F := uLd_agg f h (Nat.le_refl 4) H.fi
theorem HRow.std {F' : FAW} {A B : Nat → Prop} (hs : Std F F' A B) (hA : ¬ A i) : HRow F' i H := hs.row _ _ hA h
end
/-- A number with a sign as one of 32 bits without. -/
def sqw (z : Int) : Nat := (IntKind.wrap .u32 z).toNat
theorem sqw_lt (z : Int) : sqw z < 4294967296 := by
  unfold sqw
  simp only [IntKind.wrap, IntKind.bits, IntKind.signed]
  simp
  omega
theorem uCv_iu (z : Int) (F : FAW) (f : KU) : (uCvI .u32 (.i .i32 z) F fun v S => uCvI .u64 v S f) = f (w64 (sqw z)) F := by
  have e : (uCvI .u32 (.i .i32 z) F fun v S => uCvI .u64 v S f) = f (.i .u64 (IntKind.wrap .u64 (IntKind.wrap .u32 z))) F := rfl
  rw [e]
  have h : IntKind.wrap .u32 z = ((sqw z : Nat) : Int) := by
    unfold sqw
    rw [Int.toNat_of_nonneg]
    simp only [IntKind.wrap, IntKind.bits, IntKind.signed]
    simp
    omega
  rw [h, wrap_u64 (by have := sqw_lt z; omega)]
  rfl
theorem veqLU_b (k : Nat) (r : RU) : veqLU [.b k] [.b k] r = r := by
  have e : veqLU [.b k] [.b k] r = cn (veq1 (toV (.b k)) (toV (.b k))) r .no := rfl
  have h : veq1 (toV (.b k)) (toV (.b k)) = true := by simp [toV, veq1]
  rw [e, h, cn_true]
theorem rowU2_b {F F0 : FAW} {i k : Nat} {e s m m' o'} (h : F.row i = some ([.b k], e, s, m, false)) (h0 : F0.row i = some ([.b k], e, s, m', o')) (r : RU) : rowU2 F F0 (.l i 0 1 1) r = r := by
  have e1 : rowU2 F F0 (.l i 0 1 1) r = findH F.h i fun c e s _ ro => findH F0.h i fun c' e' s' _ _ => cn (an (nt ro) (an (Nat.beq e e') (Nat.beq s s'))) (veqLU c c' r) .no := rfl
  rw [e1, findH_get _ h, findH_get _ h0, an_eq, an_eq, nt_eq, beqU, beqU]
  simp only [decide_true, Bool.not_false, Bool.and_self, cn_true]
  exact veqLU_b k r
/-- A head as bytes. -/
def putP (p : Nat) (H : Hd) : List Nat :=
  if p = 0 then (if H.old = true then be4b H.nm.length ++ H.nm ++ [H.kd % 256] ++ be4b (sqw H.sq) else [128, 1, 0, H.kd % 256] ++ be4b H.nm.length ++ H.nm ++ be4b (sqw H.sq))
  else [130, (H.kd * 32 + 1) % 256] ++ pv 4 (sqw H.sq) ++ pv 4 H.nm.length ++ H.nm
theorem ne_of_bb {F : FAW} {v : FV} {l : List Nat} {m : Nat} (h : BB F v l m) (hl : l ≠ []) : v ≠ .nl := by
  rintro rfl
  rcases h with ⟨_, h, _⟩ | ⟨i, mu, h, _⟩
  · exact hl (by simpa using h)
  · cases h
theorem uLitB (F : FAW) (f : KU) (a b c d : Nat) : uLitF 5 1 [(.b 0)] 4 [(0, 1, .b a), (1, 1, .b b), (2, 1, .b c), (3, 1, .b d)] F f = f (.l F.x 0 4 4) (F.new [.b a, .b b, .b c, .b d] 5 1) := by
  have e : uLitF 5 1 [(.b 0)] 4 [(0, 1, .b a), (1, 1, .b b), (2, 1, .b c), (3, 1, .b d)] F f = newU [.b a, .b b, .b c, .b d] 5 1 F fun i F' => f (.l i 0 4 4) F' := rfl
  rw [e, newU_new]
theorem uLitB2 (F : FAW) (f : KU) (a b : Nat) : uLitF 5 1 [(.b 0)] 2 [(0, 1, .b a), (1, 1, .b b)] F f = f (.l F.x 0 2 2) (F.new [.b a, .b b] 5 1) := by
  have e : uLitF 5 1 [(.b 0)] 2 [(0, 1, .b a), (1, 1, .b b)] F f = newU [.b a, .b b] 5 1 F fun i F' => f (.l i 0 2 2) F' := rfl
  rw [e, newU_new]
theorem by_new (F : FAW) (l : List Nat) (n : Nat) (hn : n = l.length) : By (F.new (l.map FV.b) 5 1) (.l F.x 0 n n) l := by
  subst hn
  exact .inr ⟨F.x, 0, l.length, 5, F.x, false, l.map FV.b, rfl, Nat.le_refl _, by rw [row_new, if_pos rfl], by rw [List.drop_zero, List.take_of_length_le (by simp)], by simp⟩
theorem kd_shl : ∀ k : Fin 5, ∀ (F : FAW) (f : KU), (uSlow .shl (.n k.1) (.i .u64 5) F fun v0 S => uSlow .or v0 (.n 1) S fun v1 S => uCvI .u8 v1 S f) = f (.b ((k.1 * 32 + 1) % 256)) F := by
  intro k F f
  have : k.1 = 0 ∨ k.1 = 1 ∨ k.1 = 2 ∨ k.1 = 3 ∨ k.1 = 4 := by omega
  rcases this with h | h | h | h | h <;> rw [h] <;> rfl
theorem t18 (N : Nat) (hN : 12 ≤ N) {F : FAW} (p : Nat) (hp : p = 0 ∨ p = 1) (H : Hd) (hk : 1 ≤ H.kd ∧ H.kd ≤ 4) (hs : Bs H.nm) (hS : H.nm.length ≤ 1000) (hw : Wf F) :
    ∃ v F' m, clU msgD N 18 [.n p, .a H.c] F = .ok v F' ∧ BB F' v (putP p H) m ∧ v ≠ .nl ∧ F.x ≤ m ∧ Std F F' (fun _ => False) (fun _ => False) ∧ Wf F' := by
  obtain ⟨m, rfl⟩ : ∃ m, N = m + 1 := ⟨N - 1, by omega⟩
  have h0 : HRow (F.new H.c 23 4) F.x H := by show (F.new H.c 23 4).row F.x = _; rw [row_new, if_pos rfl]
  have st0 := Std.new hw H.c 23 4 (fun _ => False) (fun _ => False)
  have w0 := hw.new H.c 23 4
  have hbox := fun f : KU => uBox_a 23 4 H.c F f
  have hx0 : (F.new H.c 23 4).x = F.x + 1 := rfl
  generalize F.new H.c 23 4 = F0 at *
  have e63 := t63 m (by omega) H.kd F0
  have hmay : mayB H.kd = true := by unfold mayB; simp [hk.1, hk.2]
  rw [hmay] at e63
  have hcv := uCv_iu H.sq
  rw [cl18, u18_in]
  generalize hC : clU msgD m = C at *
  by_cases hp0 : p = 0
  · subst hp0
    by_cases ho : H.old = true
    · -- an old one
      have st1 := Std.new w0 [.b (H.kd % 256)] 5 1 (fun _ => False) (fun _ => False)
      have w1 := w0.new [.b (H.kd % 256)] 5 1
      have r1 : (F0.new [.b (H.kd % 256)] 5 1).row F0.x = some ([.b (H.kd % 256)], 5, 1, F0.x, false) := by rw [row_new, if_pos rfl]
      have el := fun f : KU => uLit1 5 (.b 0) (Fi.b (H.kd % 256)) (Fi.b 0) F0 f
      have hx1 : (F0.new [.b (H.kd % 256)] 5 1).x = F0.x + 1 := rfl
      generalize F0.new [.b (H.kd % 256)] 5 1 = F1 at *
      have h1 := h0.std st1 (fun h => h)
      obtain ⟨v2, F2, m2, e2, b2, n2, s2, w2⟩ := t65 m (by omega) (a := .nl) (xs := []) (.inl ⟨rfl, rfl⟩) hs w1 (by simp) (by omega)
      rw [hC] at e2
      have h2 := h1.std s2 (fun h => h)
      have r2 := s2.row _ _ (fun h => h) r1
      obtain ⟨v3, F3, m3, e3, b3, s3, w3, n3⟩ := app_bb w2 b2 (fun g => srcU_lit r2 g) (by simp [be4b_len]; omega)
      obtain ⟨v4, F4, e4, b4, n4, s4, w4⟩ := t64b m (by omega) b3.by w3 (by simp [be4b_len]; omega) (sqw H.sq)
      rw [hC] at e4
      have st2 := (st0.trans st1).trans s2
      have st3 := st2.fresh hw s3 (fun _ _ h => h) (fun j hj h => by omega)
      have st4 := st3.trans s4
      refine ⟨v4, F4, F3.x, ?_, ?_, n4, st3.x, st4, w4⟩
      · simp -implicitDefEqProofs only [↓u18b, ↓seqU_eq, ↓condU_eq, ↓blockU_eq, ↓retU_eq, ↓skipU_eq, ↓u18_0, ↓u18_1, ↓u18_2, ↓u18_3, ↓u18_5, ↓u18_6, ↓u18_7, ↓m10_mk, ↓k10_mk, ↓exU_n, ↓exU_r, ↓hbox, ↓uFad_p, Nat.zero_add, ↓h0.l2, ↓hcv, ↓h0.l1, ↓uCall_eq, ↓e63, ↓goOn_ok, ↓uNot_t, Bool.not_true, ↓eT_t, ↓cn_false, ↓uEq_nn, xo_f, decide_true, ↓cn_true, ↓h0.l3, ho, ↓h0.l0, ↓uCv_bn, ↓el, ↓h1.l1, ↓h1.l0, ↓veqU_n, ↓veqU_s, ↓e2, ↓h2.l1, ↓e3, ↓e4, ↓u18r_mk, ↓rowU2_b r2 r1]
      · have : putP 0 H = [] ++ be4b H.nm.length ++ H.nm ++ [H.kd % 256] ++ be4b (sqw H.sq) := by unfold putP; rw [if_pos rfl, if_pos ho, List.nil_append]
        rw [this]; exact b4
    · have st1 := Std.new w0 ([128, 1, 0, H.kd % 256].map FV.b) 5 1 (fun _ => False) (fun _ => False)
      have w1 := w0.new ([128, 1, 0, H.kd % 256].map FV.b) 5 1
      have b1 := by_new F0 [128, 1, 0, H.kd % 256] 4 rfl
      have el := fun f : KU => uLitB F0 f 128 1 0 (H.kd % 256)
      have el : ∀ f : KU, uLitF 5 1 [(.b 0)] 4 [(0, 1, .b 128), (1, 1, .b 1), (2, 1, .b 0), (3, 1, .b (H.kd % 256))] F0 f = f (.l F0.x 0 4 4) (F0.new ([128, 1, 0, H.kd % 256].map FV.b) 5 1) := el
      generalize F0.new ([128, 1, 0, H.kd % 256].map FV.b) 5 1 = F1 at *
      have h1 := h0.std st1 (fun h => h)
      obtain ⟨v2, F2, m2, e2, b2, n2, s2, w2⟩ := t65 m (by omega) b1 hs w1 (by simp) (by omega)
      rw [hC] at e2
      obtain ⟨v4, F4, e4, b4, n4, s4, w4⟩ := t64b m (by omega) b2.by w2 (by simp [be4b_len]; omega) (sqw H.sq)
      rw [hC] at e4
      have st2 := (st0.trans st1).trans s2
      refine ⟨v4, F4, F2.x, ?_, ?_, n4, st2.x, st2.trans s4, w4⟩
      · simp -implicitDefEqProofs only [↓u18b, ↓seqU_eq, ↓condU_eq, ↓blockU_eq, ↓retU_eq, ↓skipU_eq, ↓u18_0, ↓u18_1, ↓u18_2, ↓u18_3, ↓u18_5, ↓u18_6, ↓u18_8, ↓u18_9, ↓u18_10, ↓m10_mk, ↓k10_mk, ↓exU_n, ↓exU_r, ↓hbox, ↓uFad_p, Nat.zero_add, ↓h0.l2, ↓hcv, ↓h0.l1, ↓uCall_eq, ↓e63, ↓goOn_ok, ↓uNot_t, Bool.not_true, ↓eT_t, ↓cn_false, ↓uEq_nn, xo_f, decide_true, ↓cn_true, ↓h0.l3, (show H.old = false from Bool.not_eq_true _ ▸ ho), ↓uCv_bn, ↓el, ↓h1.l0, ↓e2, ↓e4, ↓u18r_mk]
      · have : putP 0 H = [128, 1, 0, H.kd % 256] ++ be4b H.nm.length ++ H.nm ++ be4b (sqw H.sq) := by unfold putP; rw [if_pos rfl, if_neg ho]
        rw [this]; exact b4
  · have hp1 : p = 1 := by omega
    subst hp1
    have st1 := Std.new w0 ([130, (H.kd * 32 + 1) % 256].map FV.b) 5 1 (fun _ => False) (fun _ => False)
    have w1 := w0.new ([130, (H.kd * 32 + 1) % 256].map FV.b) 5 1
    have b1 := by_new F0 [130, (H.kd * 32 + 1) % 256] 2 rfl
    have el : ∀ f : KU, uLitF 5 1 [(.b 0)] 2 [(0, 1, .b 130), (1, 1, .b ((H.kd * 32 + 1) % 256))] F0 f = f (.l F0.x 0 2 2) (F0.new ([130, (H.kd * 32 + 1) % 256].map FV.b) 5 1) := fun f => uLitB2 F0 f 130 ((H.kd * 32 + 1) % 256)
    generalize F0.new ([130, (H.kd * 32 + 1) % 256].map FV.b) 5 1 = F1 at *
    have h1 := h0.std st1 (fun h => h)
    have hsh := kd_shl ⟨H.kd, by omega⟩ F0
    simp only at hsh
    have hpl : ∀ k v, (pv k v).length ≤ k + 1 := pv_len
    obtain ⟨v2, F2, m2, e2, b2, n2, s2, w2⟩ := t66 m (by omega) b1 w1 (by simp) (sqw H.sq) (sqw_lt _)
    rw [hC] at e2
    have h2 := h1.std s2 (fun h => h)
    have l2 := hpl 4 (sqw H.sq)
    have l3 := hpl 4 H.nm.length
    obtain ⟨v3, F3, m3, e3, b3, n3, s3, w3⟩ := t66 m (by omega) b2.by w2 (by simp; omega) H.nm.length (by omega)
    rw [hC] at e3
    have h3 := h2.std s3 (fun h => h)
    obtain ⟨v4, F4, m4, e4, b4, s4, w4, n4⟩ := app_bb w3 b3 (fun g => src_s hs F3 g) (by simp; omega)
    have ne4 := ne_of_bb b4 (by simp)
    have st3 := ((st0.trans st1).trans s2).trans s3
    have hx2 := ((st0.trans st1).trans s2).x
    refine ⟨v4, F4, m4, ?_, ?_, ne4, ?_, st3.fresh hw s4 (fun _ _ h => h) (fun j hj h => by omega), w4⟩
    · simp -implicitDefEqProofs only [↓u18b, ↓seqU_eq, ↓condU_eq, ↓blockU_eq, ↓retU_eq, ↓skipU_eq, ↓u18_0, ↓u18_1, ↓u18_2, ↓u18_3, ↓u18_5, ↓u18_6, ↓u18_8, ↓u18_9, ↓u18_11, ↓u18_12, ↓u18_13, ↓u18_14, ↓m10_mk, ↓k10_mk, ↓exU_n, ↓exU_r, ↓hbox, ↓uFad_p, Nat.zero_add, ↓h0.l2, ↓hcv, ↓h0.l1, ↓uCall_eq, ↓e63, ↓goOn_ok, ↓uNot_t, Bool.not_true, ↓eT_t, ↓cn_false, ↓uEq_nn, xo_f, decide_true, ↓cn_true, decide_eq_false (show ¬ 1 = 0 by omega), ↓hsh, ↓el, ↓e2, ↓h2.l0, ↓uLen_s, ↓uCv_un _ _ _ (show H.nm.length < 18446744073709551616 by omega), ↓e3, ↓h3.l0, ↓veqU_s, ↓e4, ↓u18r_mk]
    · have : putP 1 H = [130, (H.kd * 32 + 1) % 256] ++ pv 4 (sqw H.sq) ++ pv 4 H.nm.length ++ H.nm := by unfold putP; rw [if_neg (by omega)]
      rw [this]; exact b4
    · rcases n4 ne4 with ⟨h, _⟩ | h
      · omega
      · exact Nat.le_trans st3.x h
end Go.Proofs.Ytgejdfhfgphcbaa.Ev
/- Msg: what is put is taken; cut off it is short. No program in sight. -/
namespace Go.Proofs.Ytgejdfhfgphcbaa.Ev
open Go Go.RowKit
set_option linter.unusedVariables false
set_option linter.constructorNameAsVariable false
set_option linter.unusedSimpArgs false
set_option linter.unusedSectionVars false

theorem fls3 (b : Bool) (c : Nat) : fls 3 b c = 3 := by cases b <;> rfl
theorem bye3 (l : List Nat) (n k : Nat) : bye l n 3 k = 3 := fls3 _ _
theorem by_ok {l : List Nat} {n k : Nat} {xs rest : List Nat} (h : l.drop n = xs ++ rest) (hk : xs.length = k) (hn : n ≤ l.length) : bye l n 0 k = 0 ∧ byn l n 0 k = n + k ∧ byl l n 0 k = xs := by
  have hl : l.length - n = xs.length + rest.length := by rw [← List.length_drop, h, List.length_append]
  have h0 : bye l n 0 k = 0 := by rw [bye0]; exact ⟨rfl, by omega⟩
  refine ⟨h0, by rw [byn, if_pos h0], ?_⟩
  rw [byl, if_pos h0, h, ← hk, List.take_left']
  rfl
theorem by_cut {l : List Nat} {n k : Nat} (h : l.length < n + k) (hn : n ≤ l.length) : bye l n 0 k = 3 := by
  unfold bye
  rw [decide_eq_true (by omega)]
  rfl
/-- A step of reading: what it reads, and what it comes to. -/
structure Good (f : List Nat → Ps → Ps) (s : Ps) (xs : List Nat) (s' : Ps) : Prop where
  e : s'.e = 0
  n : s'.n = s.n + xs.length
  full : ∀ pre rest, pre.length = s.n → f (pre ++ (xs ++ rest)) s = s'
  cut : ∀ pre k, pre.length = s.n → k < xs.length → (f (pre ++ xs.take k) s).e = 3
  err : ∀ l t, t.e = 3 → (f l t).e = 3
theorem Good.comp {f g : List Nat → Ps → Ps} {s s' s'' : Ps} {xs ys : List Nat} (hf : Good f s xs s') (hg : Good g s' ys s'') : Good (fun l s => g l (f l s)) s (xs ++ ys) s'' := by
  refine ⟨hg.e, by rw [hg.n, hf.n, List.length_append]; omega, fun pre rest hp => ?_, fun pre k hp hk => ?_, fun l t ht => hg.err _ _ (hf.err _ _ ht)⟩
  · show g _ (f _ s) = s''
    rw [List.append_assoc xs, hf.full pre (ys ++ rest) hp, ← List.append_assoc pre]
    exact hg.full (pre ++ xs) rest (by rw [List.length_append, hf.n, hp])
  · show (g _ (f _ s)).e = 3
    by_cases h : k < xs.length
    · rw [List.take_append_of_le_length (by omega)]
      exact hg.err _ _ (hf.cut pre k hp h)
    · have : (xs ++ ys).take k = xs ++ ys.take (k - xs.length) := by rw [List.take_append, List.take_of_length_le (by omega)]
      rw [this, hf.full pre _ hp, ← List.append_assoc]
      exact hg.cut (pre ++ xs) _ (by rw [List.length_append, hf.n, hp]) (by rw [List.length_append] at hk; omega)
theorem drop_pre {pre t : List Nat} {n : Nat} (h : pre.length = n) : (pre ++ t).drop n = t := by rw [← h, List.drop_left']; rfl
theorem len_le {pre t : List Nat} {n : Nat} (h : pre.length = n) : n ≤ (pre ++ t).length := by rw [List.length_append, h]; omega
theorem good_is (H : Hd) (n c : Nat) : Good (fun l s => Ps.is l s c) ⟨n, 0, H⟩ [c] ⟨n + 1, 0, H⟩ := by
  refine ⟨rfl, rfl, fun pre rest hp => ?_, fun pre k hp hk => ?_, fun l t ht => ?_⟩
  · obtain ⟨h1, h2, h3⟩ := by_ok (k := 1) (drop_pre (t := [c] ++ rest) hp) rfl (len_le hp)
    simp only [Ps.is, h1, h2, rdb, h3]
    simp [fls]
  · have : bye (pre ++ [c].take k) n 0 1 = 3 := by_cut (by simp at hk; simp [hk, hp]) (len_le hp)
    simp only [Ps.is, this, fls3]
  · simp only [Ps.is, ht, bye3, fls3]
theorem good_kd (H : Hd) (n c : Nat) (hc : 1 ≤ c ∧ c ≤ 4) : Good Ps.kd ⟨n, 0, H⟩ [c] ⟨n + 1, 0, { H with kd := c }⟩ := by
  refine ⟨rfl, rfl, fun pre rest hp => ?_, fun pre k hp hk => ?_, fun l t ht => ?_⟩
  · obtain ⟨h1, h2, h3⟩ := by_ok (k := 1) (drop_pre (t := [c] ++ rest) hp) rfl (len_le hp)
    simp only [Ps.kd, h1, h2, rdb, h3]
    simp [fls, mayB, hc.1, hc.2]
  · have : bye (pre ++ [c].take k) n 0 1 = 3 := by_cut (by simp at hk; simp [hk, hp]) (len_le hp)
    simp only [Ps.kd, this, fls3]
  · simp only [Ps.kd, ht, bye3, fls3]
theorem be4_4 {c : Nat} (h : c < 4294967296) : be4 (be4b c) = c := by
  show ((c / 2 ^ 8 / 2 ^ 8 / 2 ^ 8 % 256 * 256 + c / 2 ^ 8 / 2 ^ 8 % 256) * 256 + c / 2 ^ 8 % 256) * 256 + c % 256 = c
  omega
theorem i32_sqw {z : Int} (h : -2147483648 ≤ z ∧ z ≤ 2147483647) : i32 (sqw z) = z := by
  unfold i32 sqw
  simp only [IntKind.wrap, IntKind.bits, IntKind.signed]
  simp
  split <;> omega
theorem good_sq (H : Hd) (n : Nat) (z : Int) (hz : -2147483648 ≤ z ∧ z ≤ 2147483647) : Good Ps.sq ⟨n, 0, H⟩ (be4b (sqw z)) ⟨n + 4, 0, { H with sq := z }⟩ := by
  refine ⟨rfl, rfl, fun pre rest hp => ?_, fun pre k hp hk => ?_, fun l t ht => ?_⟩
  · obtain ⟨h1, h2, h3⟩ := by_ok (k := 4) (drop_pre (t := be4b (sqw z) ++ rest) hp) rfl (len_le hp)
    simp only [Ps.sq, h1, h2, rdn, h3]
    rw [be4_4 (sqw_lt z), i32_sqw hz]
  · have : bye (pre ++ (be4b (sqw z)).take k) n 0 4 = 3 := by_cut (by rw [List.length_append, List.length_take, hp]; simp only at hk ⊢; rw [be4b_len] at hk ⊢; omega) (len_le hp)
    simp only [Ps.sq, this]
  · simp only [Ps.sq, ht, bye3]
theorem good_nm (H : Hd) (n : Nat) (a : List Nat) (ha : a.length ≤ 40) : Good Ps.nm ⟨n, 0, H⟩ (be4b a.length ++ a) ⟨n + (4 + a.length), 0, { H with nm := a }⟩ := by
  refine ⟨rfl, by rw [List.length_append, be4b_len], fun pre rest hp => ?_, fun pre k hp hk => ?_, fun l t ht => ?_⟩
  · obtain ⟨h1, h2, h3⟩ := by_ok (l := pre ++ (be4b a.length ++ a ++ rest)) (k := 4) (xs := be4b a.length) (rest := a ++ rest) (by rw [drop_pre hp, List.append_assoc]) rfl (len_le hp)
    obtain ⟨g1, g2, g3⟩ := by_ok (l := pre ++ (be4b a.length ++ a ++ rest)) (n := n + 4) (k := a.length) (xs := a) (rest := rest) (by rw [← List.drop_drop, drop_pre hp, List.append_assoc]; rfl) rfl (by simp only [List.length_append, be4b_len, hp]; omega)
    simp only [Ps.nm, h1, h2, rdn, h3, be4_4 (show a.length < 4294967296 by omega), decide_eq_false (show ¬ 40 < a.length by omega)]
    show Ps.mk (byn _ (n + 4) 0 a.length) (bye _ (n + 4) 0 a.length) { H with nm := byl _ (n + 4) 0 a.length } = _
    rw [g1, g2, g3]
    simp only [Nat.add_assoc]
  · by_cases h4 : k < 4
    · have h1 : bye (pre ++ (be4b a.length ++ a).take k) n 0 4 = 3 := by_cut (by rw [List.length_append, List.length_take, hp]; simp only; omega) (len_le hp)
      simp only [Ps.nm, h1, fls3, bye3]
    · have ht : (be4b a.length ++ a).take k = be4b a.length ++ a.take (k - 4) := by rw [List.take_append, List.take_of_length_le (by rw [be4b_len]; omega), be4b_len]
      rw [List.length_append, be4b_len] at hk
      rw [ht]
      obtain ⟨h1, h2, h3⟩ := by_ok (l := pre ++ (be4b a.length ++ a.take (k - 4))) (k := 4) (xs := be4b a.length) (rest := a.take (k - 4)) (drop_pre hp) rfl (len_le hp)
      have h5 : bye (pre ++ (be4b a.length ++ a.take (k - 4))) (n + 4) 0 a.length = 3 := by_cut (by simp only [List.length_append, be4b_len, List.length_take, hp]; omega) (by simp only [List.length_append, be4b_len, hp]; omega)
      simp only [Ps.nm, h1, h2, rdn, h3, be4_4 (show a.length < 4294967296 by omega), decide_eq_false (show ¬ 40 < a.length by omega)]
      exact h5
  · simp only [Ps.nm, ht, bye3, fls3]
theorem or_add' {a b k : Nat} (hb : b < 2 ^ k) : b ||| a * 2 ^ k = b + a * 2 ^ k := by rw [Nat.or_comm, or_add hb, Nat.add_comm]
theorem tkV_eq {acc b p : Nat} (ha : acc < 2 ^ p) (hp : p ≤ 28) : tkV acc b p = acc + b % 128 * 2 ^ p := by
  unfold tkV
  have h1 : 2 ^ p ≤ 2 ^ 28 := Nat.pow_le_pow_right (by omega) hp
  have h2 : b % 128 * 2 ^ p ≤ 127 * 2 ^ 28 := Nat.mul_le_mul (by omega) h1
  rw [Nat.mod_eq_of_lt (by omega)]
  exact or_add' ha
theorem tk_pv : ∀ k, k ≤ 4 → ∀ (v acc n : Nat) (rest : List Nat), v < 2 ^ (4 + 7 * k) → acc < 2 ^ (28 - 7 * k) → tk (pv k v ++ rest) (28 - 7 * k) acc n = (acc + v * 2 ^ (28 - 7 * k), n + (pv k v).length, 0)
  | 0, _, v, acc, n, rest, hv, ha => by
    have h1 : v < 16 := by simpa using hv
    have hb : v % 256 = v := by omega
    have hL : tkL v 28 = false := by
      unfold tkL
      rw [decide_eq_true (show v < 128 by omega), show v % 128 / 2 ^ (32 - 28) = 0 by omega]
      rfl
    show tk (v % 256 :: rest) 28 acc n = _
    rw [hb]
    unfold tk
    rw [hL, if_neg (by decide), if_pos (by omega), tkV_eq (by simpa using ha) (by omega), show v % 128 = v by omega]
    rfl
  | k + 1, hk, v, acc, n, rest, hv, ha => by
    have hp7 : 28 - 7 * (k + 1) + 7 = 28 - 7 * k := by omega
    have hL : ∀ b, tkL b (28 - 7 * (k + 1)) = false := fun b => by
      unfold tkL
      rw [decide_eq_false (by omega), Bool.false_and]
    unfold pv
    split
    · rename_i h
      have hb : (v % 128 + 128) % 128 = v % 128 := by omega
      have hacc : acc + v % 128 * 2 ^ (28 - 7 * (k + 1)) < 2 ^ (28 - 7 * k) := by
        rw [← hp7, Nat.pow_add]
        have : v % 128 ≤ 127 := by omega
        have := Nat.mul_le_mul_right (2 ^ (28 - 7 * (k + 1))) this
        omega
      have ih := tk_pv k (by omega) (v / 128) (acc + v % 128 * 2 ^ (28 - 7 * (k + 1))) (n + 1) rest (by
        rw [Nat.div_lt_iff_lt_mul (by omega)]
        have : 2 ^ (4 + 7 * (k + 1)) = 2 ^ (4 + 7 * k) * 128 := by rw [show 4 + 7 * (k + 1) = 4 + 7 * k + 7 by omega, Nat.pow_add]
        omega) hacc
      show tk ((v % 128 + 128) :: (pv k (v / 128) ++ rest)) _ acc n = _
      unfold tk
      rw [hL, if_neg (by decide), if_neg (by omega), tkV_eq ha (by omega), hb, hp7, ih]
      refine Prod.ext ?_ (Prod.ext ?_ rfl)
      · show acc + v % 128 * 2 ^ (28 - 7 * (k + 1)) + v / 128 * 2 ^ (28 - 7 * k) = acc + v * 2 ^ (28 - 7 * (k + 1))
        rw [← hp7, Nat.pow_add]
        generalize 2 ^ (28 - 7 * (k + 1)) = q
        have : v = 128 * (v / 128) + v % 128 := by omega
        have e2 : v * q = (128 * (v / 128) + v % 128) * q := by rw [← this]
        rw [e2, Nat.add_mul, show 2 ^ 7 = 128 from rfl, Nat.mul_assoc, Nat.mul_comm q 128, ← Nat.mul_assoc (v / 128), Nat.mul_comm (v / 128) 128, Nat.mul_assoc]
        omega
      · show n + 1 + _ = n + (_ + 1)
        omega
    · rename_i h
      have hb : v % 256 = v := by omega
      show tk (v % 256 :: rest) _ acc n = _
      rw [hb]
      unfold tk
      rw [hL, if_neg (by decide), if_pos (by omega), tkV_eq ha (by omega), show v % 128 = v by omega]
      rfl
theorem tk_cut : ∀ k, k ≤ 4 → ∀ (v acc n c : Nat), c < (pv k v).length → tk ((pv k v).take c) (28 - 7 * k) acc n = (0, 0, 3)
  | 0, _, v, acc, n, c, hc => by
    have : c = 0 := by simp [pv] at hc; omega
    subst this; rfl
  | k + 1, hk, v, acc, n, c, hc => by
    have hp7 : 28 - 7 * (k + 1) + 7 = 28 - 7 * k := by omega
    have hL : ∀ b, tkL b (28 - 7 * (k + 1)) = false := fun b => by
      unfold tkL
      rw [decide_eq_false (by omega), Bool.false_and]
    unfold pv at hc ⊢
    split at hc
    · rename_i h
      rw [if_pos h]
      cases c with
      | zero => rfl
      | succ c =>
        rw [List.take_succ_cons]
        unfold tk
        rw [hL, if_neg (by decide), if_neg (by omega), hp7]
        exact tk_cut k (by omega) _ _ _ _ (by simpa using hc)
    · rename_i h
      rw [if_neg h]
      have : c = 0 := by simp at hc; omega
      subst this; rfl
theorem sv_ok {l : List Nat} {n v : Nat} {rest : List Nat} (h : l.drop n = pv 4 v ++ rest) (hv : v < 4294967296) : sv l n 0 = (v, n + (pv 4 v).length, 0) := by
  have := tk_pv 4 (by omega) v 0 0 rest (by simpa using hv) (by decide)
  unfold sv
  rw [if_pos rfl, h]
  simp only [show 28 - 7 * 4 = 0 by omega] at this
  simp only [this]
  simp [fls]
theorem sv_cut {l : List Nat} {n v c : Nat} (h : l.drop n = (pv 4 v).take c) (hc : c < (pv 4 v).length) : (sv l n 0).2.2 = 3 := by
  have := tk_cut 4 (by omega) v 0 0 c hc
  unfold sv
  rw [if_pos rfl, h]
  simp only [show 28 - 7 * 4 = 0 by omega] at this
  simp only [this]
  simp [fls]
theorem sv_3 (l : List Nat) (n : Nat) : sv l n 3 = (0, n, 3) := rfl
theorem good_svq (H : Hd) (n : Nat) (z : Int) (hz : -2147483648 ≤ z ∧ z ≤ 2147483647) : Good Ps.svq ⟨n, 0, H⟩ (pv 4 (sqw z)) ⟨n + (pv 4 (sqw z)).length, 0, { H with sq := z }⟩ := by
  refine ⟨rfl, rfl, fun pre rest hp => ?_, fun pre k hp hk => ?_, fun l t ht => ?_⟩
  · simp only [Ps.svq, sv_ok (drop_pre (t := pv 4 (sqw z) ++ rest) hp) (sqw_lt z), i32_sqw hz]
  · simp only [Ps.svq, sv_cut (drop_pre (t := (pv 4 (sqw z)).take k) hp) hk]
  · simp only [Ps.svq, ht, sv_3]
theorem ver_k : ∀ c : Fin 5, 1 ≤ c.1 → ((c.1 * 32 + 1) % 256) &&& 31 = 1 ∧ (c.1 * 32 + 1) % 256 / 2 ^ 5 = c.1 ∧ mayB c.1 = true := by decide
theorem good_ver (H : Hd) (n c : Nat) (hc : 1 ≤ c ∧ c ≤ 4) : Good Ps.ver ⟨n, 0, H⟩ [(c * 32 + 1) % 256] ⟨n + 1, 0, { H with kd := c }⟩ := by
  obtain ⟨k1, k2, k3⟩ := ver_k ⟨c, by omega⟩ hc.1
  simp only at k1 k2 k3
  refine ⟨rfl, rfl, fun pre rest hp => ?_, fun pre k hp hk => ?_, fun l t ht => ?_⟩
  · obtain ⟨h1, h2, h3⟩ := by_ok (k := 1) (drop_pre (t := [(c * 32 + 1) % 256] ++ rest) hp) rfl (len_le hp)
    simp only [Ps.ver, h1, h2, rdb, h3, List.headD_cons, k1, k2, k3]
    rfl
  · have : bye (pre ++ [(c * 32 + 1) % 256].take k) n 0 1 = 3 := by_cut (by simp at hk; simp [hk, hp]) (len_le hp)
    simp only [Ps.ver, this, fls3]
  · simp only [Ps.ver, ht, bye3, fls3]
theorem good_svn (H : Hd) (n : Nat) (a : List Nat) (ha : a.length ≤ 40) : Good Ps.svn ⟨n, 0, H⟩ (pv 4 a.length ++ a) ⟨n + ((pv 4 a.length).length + a.length), 0, { H with nm := a }⟩ := by
  refine ⟨rfl, by rw [List.length_append], fun pre rest hp => ?_, fun pre k hp hk => ?_, fun l t ht => ?_⟩
  · have h1 := sv_ok (l := pre ++ (pv 4 a.length ++ a ++ rest)) (n := n) (v := a.length) (rest := a ++ rest) (by rw [drop_pre hp, List.append_assoc]) (by omega)
    obtain ⟨g1, g2, g3⟩ := by_ok (l := pre ++ (pv 4 a.length ++ a ++ rest)) (n := n + (pv 4 a.length).length) (k := a.length) (xs := a) (rest := rest) (by rw [← List.drop_drop, drop_pre hp, List.append_assoc, List.drop_left']; rfl) rfl (by simp only [List.length_append, hp]; omega)
    simp only [Ps.svn, h1, decide_eq_false (show ¬ 40 < a.length by omega)]
    show Ps.mk (byn _ _ 0 a.length) (bye _ _ 0 a.length) { H with nm := byl _ _ 0 a.length } = _
    rw [g1, g2, g3]
    simp only [Nat.add_assoc]
  · by_cases h4 : k < (pv 4 a.length).length
    · have h1 := sv_cut (l := pre ++ (pv 4 a.length ++ a).take k) (n := n) (v := a.length) (c := k) (by rw [drop_pre hp, List.take_append_of_le_length (by omega)]) h4
      simp only [Ps.svn, h1, fls3, bye3]
    · have ht : (pv 4 a.length ++ a).take k = pv 4 a.length ++ a.take (k - (pv 4 a.length).length) := by rw [List.take_append, List.take_of_length_le (by omega)]
      rw [List.length_append] at hk
      rw [ht]
      have h1 := sv_ok (l := pre ++ (pv 4 a.length ++ a.take (k - (pv 4 a.length).length))) (n := n) (v := a.length) (rest := a.take (k - (pv 4 a.length).length)) (drop_pre hp) (by omega)
      have h5 : bye (pre ++ (pv 4 a.length ++ a.take (k - (pv 4 a.length).length))) (n + (pv 4 a.length).length) 0 a.length = 3 := by_cut (by simp only [List.length_append, List.length_take, hp]; omega) (by simp only [List.length_append, hp]; omega)
      simp only [Ps.svn, h1, decide_eq_false (show ¬ 40 < a.length by omega)]
      exact h5
  · simp only [Ps.svn, ht, sv_3, fls3, bye3]
theorem good_on (H : Hd) (n : Nat) : Good (fun _ s => Ps.on s) ⟨n, 0, H⟩ [] ⟨n, 0, { H with old := true }⟩ := ⟨rfl, rfl, fun _ _ _ => rfl, fun _ _ _ h => absurd h (by simp), fun _ _ h => h⟩
theorem good_cmp (H : Hd) (hk : 1 ≤ H.kd ∧ H.kd ≤ 4) (ho : H.old = false) (ha : H.nm.length ≤ 40) (hz : -2147483648 ≤ H.sq ∧ H.sq ≤ 2147483647) : ∃ n, Good cmpP ps0 (putP 1 H) ⟨n, 0, H⟩ := by
  have h0 := (((good_is hd0 0 130).comp (good_ver hd0 1 H.kd hk)).comp (good_svq _ _ H.sq hz)).comp (good_svn _ _ H.nm ha)
  have h : Good cmpP ps0 _ _ := h0
  have e : putP 1 H = [130] ++ [(H.kd * 32 + 1) % 256] ++ pv 4 (sqw H.sq) ++ (pv 4 H.nm.length ++ H.nm) := by unfold putP; rw [if_neg (by omega)]; simp only [List.append_assoc, List.cons_append, List.nil_append]
  rw [e]
  obtain ⟨nm, kd, sq, old⟩ := H
  simp only at ho
  subst ho
  exact ⟨_, h⟩
def binN (l : List Nat) (s : Ps) : Ps := Ps.sq l (Ps.nm l (Ps.kd l (Ps.is l (Ps.is l (Ps.is l s 128) 1) 0)))
def binO (l : List Nat) (s : Ps) : Ps := Ps.sq l (Ps.kd l (Ps.nm l s.on))
theorem bin_new (l : List Nat) (h : olds l = false) (s : Ps) : binP l s = binN l s := by unfold binP binN; rw [h, if_neg (by decide)]
theorem bin_old (l : List Nat) (h : olds l = true) (s : Ps) : binP l s = binO l s := by unfold binP binO; rw [h, if_pos rfl]
theorem take_olds {a : Nat} {t : List Nat} {k : Nat} (hk : 0 < k) : olds ((a :: t).take k) = decide (a < 128) := by
  obtain ⟨k, rfl⟩ : ∃ m, k = m + 1 := ⟨k - 1, by omega⟩
  rfl
theorem zero_cut {l : List Nat} : (binP (l.take 0) ps0).e = 3 := by
  rw [List.take_zero]; rfl
/-- What is put is taken, whatever stands behind; cut off it is short. -/
theorem good_put (p : Nat) (hp : p = 0 ∨ p = 1) (H : Hd) (hk : 1 ≤ H.kd ∧ H.kd ≤ 4) (ho : p = 1 → H.old = false) (ha : H.nm.length ≤ 40) (hz : -2147483648 ≤ H.sq ∧ H.sq ≤ 2147483647) :
    (∀ rest, tkP p (putP p H ++ rest) = ⟨(putP p H).length, 0, H⟩) ∧ ∀ k, k < (putP p H).length → (tkP p ((putP p H).take k)).e = 3 := by
  rcases hp with rfl | rfl
  · by_cases hold : H.old = true
    · have h0 := (((good_on hd0 0).comp (good_nm _ 0 H.nm ha)).comp (good_kd _ _ H.kd hk)).comp (good_sq _ _ H.sq hz)
      have h : Good binO ps0 _ _ := h0
      have e : putP 0 H = [] ++ (be4b H.nm.length ++ H.nm) ++ [H.kd] ++ be4b (sqw H.sq) := by unfold putP; rw [if_pos rfl, if_pos hold, Nat.mod_eq_of_lt (by omega)]; simp only [List.append_assoc, List.cons_append, List.nil_append]
      have eH : (⟨H.nm, H.kd, H.sq, true⟩ : Hd) = H := by rw [← hold]
      have hd : putP 0 H = (H.nm.length / 2 ^ 8 / 2 ^ 8 / 2 ^ 8 % 256) :: (putP 0 H).tail := by rw [e]; rfl
      have hlt : H.nm.length / 2 ^ 8 / 2 ^ 8 / 2 ^ 8 % 256 < 128 := by omega
      rw [← e] at h
      refine ⟨fun rest => ?_, fun k hkl => ?_⟩
      · have h1 := h.full [] rest rfl
        have h2 := h.n
        rw [List.nil_append] at h1
        unfold tkP
        rw [if_pos rfl, bin_old _ (by rw [hd]; exact decide_eq_true hlt)]
        refine h1.trans ?_
        have h3 : 0 + (4 + H.nm.length) + 1 + 4 = (putP 0 H).length := by simpa [ps0] using h2
        rw [← h3]
        exact congrArg (Ps.mk _ _) eH
      · unfold tkP
        rw [if_pos rfl]
        by_cases h0 : k = 0
        · subst h0
          exact zero_cut
        · have h1 := h.cut [] k rfl hkl
          rw [List.nil_append] at h1
          rw [bin_old _ (by rw [hd, take_olds (by omega)]; exact decide_eq_true hlt)]
          exact h1
    · have h0 := (((((good_is hd0 0 128).comp (good_is hd0 1 1)).comp (good_is hd0 2 0)).comp (good_kd hd0 3 H.kd hk)).comp (good_nm _ 4 H.nm ha)).comp (good_sq _ _ H.sq hz)
      have h : Good binN ps0 _ _ := h0
      have e : putP 0 H = [128] ++ [1] ++ [0] ++ [H.kd] ++ (be4b H.nm.length ++ H.nm) ++ be4b (sqw H.sq) := by unfold putP; rw [if_pos rfl, if_neg hold, Nat.mod_eq_of_lt (by omega)]; simp only [List.append_assoc, List.cons_append, List.nil_append]
      have eH : (⟨H.nm, H.kd, H.sq, false⟩ : Hd) = H := by rw [← (Bool.not_eq_true _).mp hold]
      have hd : putP 0 H = 128 :: (putP 0 H).tail := by rw [e]; rfl
      rw [← e] at h
      refine ⟨fun rest => ?_, fun k hkl => ?_⟩
      · have h1 := h.full [] rest rfl
        have h2 := h.n
        rw [List.nil_append] at h1
        unfold tkP
        rw [if_pos rfl, bin_new _ (by rw [hd]; rfl)]
        refine h1.trans ?_
        have h3 : 4 + (4 + H.nm.length) + 4 = (putP 0 H).length := by simpa [ps0] using h2
        rw [← h3]
        exact congrArg (Ps.mk _ _) eH
      · unfold tkP
        rw [if_pos rfl]
        by_cases h0 : k = 0
        · subst h0
          exact zero_cut
        · have h1 := h.cut [] k rfl hkl
          rw [List.nil_append] at h1
          rw [bin_new _ (by rw [hd, take_olds (by omega)]; rfl)]
          exact h1
  · obtain ⟨n, h⟩ := good_cmp H hk (ho rfl) ha hz
    refine ⟨fun rest => ?_, fun k hkl => ?_⟩
    · have h1 := h.full [] rest rfl
      have h2 := h.n
      rw [List.nil_append] at h1
      unfold tkP
      rw [if_neg (by omega), h1]
      have : n = (putP 1 H).length := by simpa [ps0] using h2
      rw [this]
    · have h1 := h.cut [] k rfl hkl
      rw [List.nil_append] at h1
      unfold tkP
      rw [if_neg (by omega)]
      exact h1
end Go.Proofs.Ytgejdfhfgphcbaa.Ev
/- Msg: begun, Place, MsgBack. -/
namespace Go.Proofs.Ytgejdfhfgphcbaa.Ev
open Go Go.RowKit
set_option linter.unusedVariables false
set_option linter.constructorNameAsVariable false
set_option linter.unusedSimpArgs false
set_option linter.unusedSectionVars false

theorem uRem_z (z : Int) (k : Nat) (hk : 0 < k) (hk2 : k ≤ 1000000) (F : FAW) (f : KU) : uQuo false .rem (numV .i64 z) (.n k) F f = f (numV .i64 (z.tmod k)) F := by
  cases z with
  | ofNat m =>
    have e : uQuo false .rem (numV .i64 (.ofNat m)) (.n k) F f = cn (Nat.beq k 0) .no (uNum (Nat.mod m k) F f) := rfl
    rw [e, beqU, decide_eq_false (by omega), cn_false, uNum_le _ _ (by have := Nat.mod_lt m hk; show m % k ≤ _; omega)]
    rfl
  | negSucc m =>
    have e : uQuo false .rem (numV .i64 (.negSucc m)) (.n k) F f = uSlow .rem (.i .i64 (.negSucc m)) (.n k) F f := rfl
    have h : binV .rem (toV (.i .i64 (.negSucc m))) (toV (.n k)) = some (.int .i64 ((Int.negSucc m).tmod k)) := by
      have hb' : ¬ (Int.ofNat k = 0) := by simp; omega
      simp only [toV, binV, iop, if_true, if_neg hb']
      rfl
    rw [e, uSlow_n h]; rfl
theorem tmod_in (z : Int) (k : Nat) (hk : 0 < k) : -(k : Int) < z.tmod k ∧ z.tmod k < k := by
  refine ⟨?_, Int.tmod_lt_of_pos _ (by omega)⟩
  have := Int.lt_tmod_of_pos z (show (0 : Int) < k by omega)
  omega
theorem uAdd_z (y : Int) (k : Nat) (hk : k ≤ 1000000) (h1 : -(k : Int) < y) (h2 : y < k) (F : FAW) (f : KU) : uAdd (numV .i64 y) (.n k) F f = f (.n (y + k).toNat) F := by
  cases y with
  | ofNat m =>
    have h2 : (m : Int) < k := h2
    have e : uAdd (numV .i64 (.ofNat m)) (.n k) F f = uAdd (.n m) (.n k) F f := rfl
    rw [e, uAdd_nn _ _ (by omega)]
    congr 2
  | negSucc m =>
    have e : uAdd (numV .i64 (.negSucc m)) (.n k) F f = uSlow .add (.i .i64 (.negSucc m)) (.n k) F f := rfl
    obtain ⟨q, hq⟩ : ∃ q : Nat, Int.negSucc m + (k : Int) = q := ⟨(Int.negSucc m + (k : Int)).toNat, by omega⟩
    have h : binV .add (toV (.i .i64 (.negSucc m))) (toV (.n k)) = some (.int .i64 (.ofNat q)) := by
      simp only [toV, binV, iop, if_true]
      rw [show Int.negSucc m + Int.ofNat k = ((q : Nat) : Int) from hq, wrap_n (by omega)]
      rfl
    rw [e, uSlow_n h, hq]; rfl
theorem uRem_nn (a k : Nat) (hk : 0 < k) (ha : a ≤ 9223372036854775807) (F : FAW) (f : KU) : uQuo false .rem (.n a) (.n k) F f = f (.n (a % k)) F := by
  have e : uQuo false .rem (.n a) (.n k) F f = cn (Nat.beq k 0) .no (uNum (Nat.mod a k) F f) := rfl
  rw [e, beqU, decide_eq_false (by omega), cn_false]
  exact uNum_le _ _ (Nat.le_trans (Nat.mod_le a k) ha)
theorem t19 (N : Nat) (hN : 1 ≤ N) (z : Int) (k : Nat) (hk : 0 < k) (hk2 : k ≤ 1000000) (F : FAW) : ∃ r, r < k ∧ clU msgD N 19 [numV .i64 z, .n k] F = .ok (.n r) F := by
  obtain ⟨m, rfl⟩ : ∃ m, N = m + 1 := ⟨N - 1, by omega⟩
  obtain ⟨h1, h2⟩ := tmod_in z k hk
  refine ⟨(z.tmod k + k).toNat % k, Nat.mod_lt _ hk, ?_⟩
  rw [cl19, u19_in]
  simp -implicitDefEqProofs only [↓u19b, ↓seqU_eq, ↓condU_eq, ↓skipU_eq, ↓retU_eq, ↓u19_0, ↓u19_1, ↓u19_2, ↓u19_4, ↓m4_mk, ↓k4_mk, ↓exU_n, ↓exU_r, ↓uLeq_nn, decide_eq_false (show ¬ k ≤ 0 by omega), ↓eT_t, ↓cn_false, ↓uRem_z z k hk hk2, ↓uAdd_z _ k hk2 h1 h2, ↓uRem_nn _ k hk (show (z.tmod k + k).toNat ≤ 9223372036854775807 by omega), ↓u19r_mk]
theorem eqA_hd (H : Hd) (hk : H.kd ≤ 4) (hs : H.nm.length ≤ 40) (hz : -2147483648 ≤ H.sq ∧ H.sq ≤ 2147483647) (F : FAW) (f : KU) : uEqA false [.str, .int .i64, .int .i32, .bl] (.a H.c) (.a H.c) F f = f (.t true) F := by
  have h : wEqA false [.str, .int .i64, .int .i32, .bl] (toV (.a H.c)) (toV (.a H.c)) = some (.bool true) := by
    have hf : fitsLs [.str, .int .i64, .int .i32, .bl] (toVs H.c) = true := by
      simp only [Hd.c, toVs, toV, fitsLs, fitsL, decide_true, Bool.and_self, Bool.true_and, Bool.and_true, Bool.and_eq_true, decide_eq_true_eq]
      refine ⟨?_, ?_, ?_⟩
      · show (H.nm.map UInt8.ofNat).toArray.size ≤ maxLen
        simp only [List.size_toArray, List.length_map]
        exact Nat.le_trans hs (by decide)
      · simp [Lit.wf, IntKind.min, IntKind.max, IntKind.bits, IntKind.signed]; omega
      · simp [Lit.wf, IntKind.min, IntKind.max, IntKind.bits, IntKind.signed]; omega
    have hc : ceqs (toVs H.c) (toVs H.c) = some true := by
      simp only [Hd.c, toVs, toV, ceqs, ceq]
      simp
    have e : eqaV [.str, .int .i64, .int .i32, .bl] (toV (.a H.c)) (toV (.a H.c)) = some true := by
      simp only [toV, eqaV]
      simp only [hf, Bool.and_self, if_true, hc]
    unfold wEqA
    rw [e]; rfl
  unfold uEqA
  rw [h]; rfl
theorem wf_of {F F' : FAW} (h : Wf F) : Wf F := h
/-- A head that is handed back lies in a row of its own. -/
theorem st_hd (F : FAW) (hw : Wf F) (H : Hd) : ∃ F', (∀ f : KU, (uNewF 23 4 [(.s []), (.n 0), (.i .i32 0), (.t false)] F fun v6 S => uSt 4 v6 (.a H.c) S fun v7 S => f v6 S) = f (.p F.x 0) F') ∧ HRow F' F.x H ∧ F'.x = F.x + 1 ∧ Std F F' (fun _ => False) (fun _ => False) ∧ Wf F' := by
  have r1 : (F.new hd0.c 23 4).row F.x = some (hd0.c, 23, 4, F.x, false) := by rw [row_new, if_pos rfl]
  have f1 : (F.new hd0.c 23 4).fam F.x = some (false, 4) := by rw [fam_new, if_pos rfl]; rfl
  refine ⟨(F.new hd0.c 23 4).put F.x H.c, fun f => ?_, ?_, rfl, ?_, (hw.new _ _ _).put _ _⟩
  · rw [new_hd]
    have := fun f : KU => uSt_agg (vs := H.c) f r1 f1 (Nat.le_refl 4) rfl hd0.fi H.fi
    exact this _
  · show ((F.new hd0.c 23 4).put F.x H.c).row F.x = _
    rw [row_put, if_pos rfl, r1]; rfl
  · exact (Std.new hw _ _ _ _ _).fresh hw ((Oth.put _ _ _).std (fun _ => False)) (fun j hj h => by omega) (fun _ _ h => h)
def hdA : Hd := ⟨[97], 1, 1, false⟩
def hdB : Hd := ⟨[98], 2, -1, false⟩
theorem put_len (p : Nat) (H : Hd) (h : H.nm.length ≤ 40) : (putP p H).length ≤ 60 ∧ 0 < (putP p H).length := by
  have h1 := pv_len 4 (sqw H.sq)
  have h2 := pv_len 4 H.nm.length
  unfold putP
  split
  · split <;> simp [be4b_len] <;> omega
  · simp; omega
theorem put_bs (p : Nat) (H : Hd) (hs : Bs H.nm) : Bs (putP p H) := by
  have hb : ∀ c, Bs (be4b c) := fun c x hx => by simp [be4b] at hx; omega
  have hp : ∀ k v, Bs (pv k v) := by
    intro k
    induction k with
    | zero => intro v x hx; simp [pv] at hx; omega
    | succ k ih =>
      intro v x hx
      unfold pv at hx
      split at hx
      · rcases List.mem_cons.mp hx with rfl | hx
        · omega
        · exact ih _ x hx
      · simp at hx; omega
  unfold putP
  split
  · split
    · exact (((hb _).append hs).append (fun x hx => by simp at hx; omega)).append (hb _)
    · exact (((show Bs [128, 1, 0, H.kd % 256] from fun x hx => by simp at hx; omega).append (hb _)).append hs).append (hb _)
  · exact (((show Bs [130, (H.kd * 32 + 1) % 256] from fun x hx => by simp at hx; omega).append (hp _ _)).append (hp _ _)).append hs
theorem bsA : Bs hdA.nm := fun x hx => by simp [hdA] at hx; omega
theorem bsB : Bs hdB.nm := fun x hx => by simp [hdB] at hx; omega
theorem bs_s {l : List Nat} (h : ∀ x ∈ l, x < 256) : Bs l := h
theorem t14 (N : Nat) (hN : 100 ≤ N) {F : FAW} (hw : Wf F) : ∃ F', clU msgD N 14 [] F = .ok (.t true) F' ∧ Std F F' (fun _ => False) (fun _ => False) ∧ Wf F' := by
  obtain ⟨m, rfl⟩ : ∃ m, N = m + 1 := ⟨N - 1, by omega⟩
  obtain ⟨v1, F1, m1, e1, b1, n1, x1, s1, w1⟩ := t18 m (by omega) 1 (.inr rfl) hdA (by decide) bsA (by decide) hw
  obtain ⟨v2, F2, m2, e2, b2, n2, x2, s2, w2⟩ := t18 m (by omega) 0 (.inl rfl) hdB (by decide) bsB (by decide) w1
  have hT : tkP 0 (putP 0 hdB) = ⟨13, 0, hdB⟩ := by
    have h := (good_put 0 (.inl rfl) hdB (by decide) (fun h => by cases h) (by decide) (by decide)).1 []
    rw [List.append_nil] at h
    exact h
  obtain ⟨k, rfl⟩ : ∃ k, m = k + 1 := ⟨m - 1, by omega⟩
  obtain ⟨F3, e3, s3, w3⟩ := s16 k 0 (.inl rfl) (l := putP 0 hdB) (by have := (put_len 0 hdB (by decide)).1; omega) b2.by w2 (put_bs _ _ bsB) (by have := (put_len 0 hdB (by decide)).1; omega)
  rw [hT] at e3
  simp only [if_true] at e3
  obtain ⟨F4, e4, r4, x4, s4, w4⟩ := st_hd F3 w3 hdB
  have b1' := (((b1.std s2 (fun _ _ _ _ h => h) (fun _ h => h)).std s3 (fun _ _ _ _ h => h) (fun _ h => h)).std s4 (fun _ _ _ _ h => h) (fun _ h => h)).by
  have hp : putP 1 hdA = [130, 33, 1, 1, 97] := by decide
  rw [hp] at b1'
  refine ⟨F4, ?_, ((s1.trans s2).trans s3).trans s4, w4⟩
  have bA : ∀ (F : FAW) (f : KU), uBuildF [(.s []), (.n 0), (.i .i32 0), (.t false)] [(0, 1, (.s [97])), (1, 1, (.n 1)), (2, 1, (.i .i32 1))] F f = f (.a hdA.c) F := fun F f => rfl
  have bB : ∀ (F : FAW) (f : KU), uBuildF [(.s []), (.n 0), (.i .i32 0), (.t false)] [(0, 1, (.s [98])), (1, 1, (.n 2)), (2, 1, (.i .i32 (-1)))] F f = f (.a hdB.c) F := fun F f => rfl
  have q1 : ∀ (F : FAW) (f : KU), uEq false .eql (.s [130, 33, 1, 1, 97]) (.s [130, 33, 1, 1, 97]) F f = f (.t true) F := fun F f => rfl
  have q2 : ∀ (F : FAW) (f : KU), uEq false .eql (.s hdB.nm) (.s [98]) F f = f (.t true) F := fun F f => rfl
  have q3 : ∀ (F : FAW) (f : KU), uEq false .eql (.i .i32 hdB.sq) (.i .i32 (-1)) F f = f (.t true) F := fun F f => rfl
  rw [cl14, u14_in]
  generalize clU msgD (k + 1) = C at *
  simp -implicitDefEqProofs only [↓u14b, ↓seqU_eq, ↓retU_eq, ↓u14_0, ↓u14_1, ↓u14_2, ↓u14_3, ↓m5_mk, ↓exU_n, ↓exU_r, ↓bA, ↓bB, ↓uCall_eq, ↓e1, ↓e2, ↓e3, ↓goOn_ok, ↓uExt_0, ↓uExt_1, ↓uExt_2, ↓e4, ↓b1'.str, ↓q1, ↓eT_t, ↓cn_true, ↓uEq_nn, xo_f, decide_true, ↓uFad_p, Nat.zero_add, ↓r4.l0, ↓q2, ↓r4.l2, ↓q3, ↓u14r_mk]
end Go.Proofs.Ytgejdfhfgphcbaa.Ev
/- What the law MsgBack comes to, however it is run. -/
namespace Go.Proofs.Ytgejdfhfgphcbaa.Ev
open Go Go.RowKit
set_option linter.unusedVariables false
set_option linter.constructorNameAsVariable false
set_option linter.unusedSimpArgs false
set_option linter.unusedSectionVars false

theorem i_sq (z : Int) : numV .i32 z = .i .i32 z := by cases z <;> rfl
theorem uFalse_t (F : FAW) (f : KU) : uEqB false (.t true) (.t true) F f = f (.t true) F := rfl
/-- The law from where the head is laid. -/
theorem tl4 (C : CU) (m n : Nat) (hC : C = clU msgD m) (hm : 200 ≤ m) {F : FAW} {more : FV} {ms : List Nat} (p : Nat) (hp : p = 0 ∨ p = 1) (H : Hd) (hk : 1 ≤ H.kd ∧ H.kd ≤ 4) (ho : p = 1 → H.old = false) (hs : Bs H.nm) (hS : H.nm.length ≤ 40) (hz : -2147483648 ≤ H.sq ∧ H.sq ≤ 2147483647)
    (hw : Wf F) (hmo : By F more ms) (hms : Bs ms) (hml : ms.length ≤ 20) (r : Nat) (hr : HRow F r H) (cut : Int) (a c g i j k l o q s t u v : FV) :
    ∃ F', (u4bt5 C n (.mk a c more (numV .i64 cut) (.p r 0) g (.n p) i j k l o q s t u) F fun o v F => exU o (u4r v F) (fun _ => .no) (u4r v F)) = .ok (.t true) F' := by
  obtain ⟨full, short⟩ := good_put p hp H hk ho hS hz
  obtain ⟨v1, F1, m1, e1, b1, n1, x1, s1, w1⟩ := t18 m (by omega) p hp H hk hs (by omega) hw
  obtain ⟨len1, len2⟩ := put_len p H hS
  have pbs := put_bs p H hs
  have l0 := SlE.lit0 F1 5 1
  have st0 := Std.new w1 [] 5 1 (fun _ => False) (fun _ => False)
  have w2 := w1.new [] 5 1
  have el := fun f : KU => uLit0 5 1 [(.b 0)] F1 f
  have hx : (F1.new [] 5 1).x = F1.x + 1 := rfl
  generalize F1.new [] 5 1 = F2 at *
  have b2 : BB F2 v1 (putP p H) m1 := b1.std st0 (fun _ _ _ _ h => h) (fun _ h => h)
  obtain ⟨v3, F3, m3, e3, b3, s3, w3, n3⟩ := app_bb (l := []) w2 l0 (fun g => b2.by.src g) (by simp; omega)
  rw [List.nil_append] at b3
  have hne3 := ne_of_bb b3 (by intro h; rw [h] at len2; simp at len2)
  have hm3 : F1.x ≤ m3 := by
    rcases n3 hne3 with ⟨h, _⟩ | h <;> omega
  have st3 := (s1.trans st0).fresh hw s3 (fun _ _ h => h) (fun j hj h => by have := s1.x; omega)
  have st13 := st0.fresh w1 s3 (fun _ _ h => h) (fun j hj h => by omega)
  have mo3 := hmo.std st3 (fun _ _ _ _ _ _ h => h)
  obtain ⟨v4, F4, m4, e4, b4, s4, w4, n4⟩ := app_bb w3 b3 (fun g => mo3.src g) (by omega)
  have hx1 := s1.x
  have st14 := st13.fresh w1 s4 (fun _ _ h => h) (fun j hj h => by omega)
  have st4 := s1.trans st14
  obtain ⟨k', rfl⟩ : ∃ k', m = k' + 1 := ⟨m - 1, by omega⟩
  have bsl : Bs (putP p H ++ ms) := pbs.append hms
  obtain ⟨F5, e5, s5, w5⟩ := s16 k' p hp (l := putP p H ++ ms) (by rw [List.length_append]; omega) b4.by w4 bsl (by rw [List.length_append]; omega)
  rw [full ms] at e5
  simp only [if_true] at e5
  obtain ⟨F6, e6, r6, x6, s6, w6⟩ := st_hd F5 w5 H
  have st16 := (st14.trans s5).trans s6
  have b6 : BB F6 v1 (putP p H) m1 := b1.std st16 (fun _ _ _ _ h => h) (fun _ h => h)
  obtain ⟨r', hr', e7⟩ := t19 (k' + 1) (by omega) cut (putP p H).length len2 (by omega) F6
  obtain ⟨v8, e8, b8⟩ := b6.by.cut (Nat.zero_le r') (Nat.le_of_lt hr')
  have e8 : ∀ f : KU, uSlV 1 v1 none (some (.n r')) none F6 f = f v8 F6 := fun f => by
    rw [← e8 f]
    rcases b6.by with ⟨rfl, _⟩ | ⟨i, o, c, el, m, ro, cells, rfl, _⟩ <;> rfl
  rw [List.drop_zero, Nat.sub_zero] at b8
  obtain ⟨F9, e9, s9, w9⟩ := s16 k' p hp (l := (putP p H).take r') (by rw [List.length_take]; omega) b8 w6 (pbs.take _) (by rw [List.length_take]; omega)
  rw [short r' hr'] at e9
  simp only [show ¬ (3 : Nat) = 0 by omega, if_false] at e9
  obtain ⟨F10, e10, r10, x10, s10, w10⟩ := st_hd F9 w9 hd0
  have r610 := (r6.std s9 (fun h => h)).std s10 (fun h => h)
  have h10 := (hr.std st4 (fun h => h)).std (((s5.trans s6).trans s9).trans s10) (fun h => h)
  have ea := eqA_hd H hk.2 hS hz F10
  subst hC
  generalize clU msgD (k' + 1) = C at *
  refine ⟨F10, ?_⟩
  simp -implicitDefEqProofs only [↓u4bt5_s, ↓u4bt6_s, ↓u4bt7_s, ↓u4bt8_s, ↓seqU_eq, ↓retU_eq, ↓u4_11, ↓u4_12, ↓u4_13, ↓u4_14, ↓m16_mk, ↓exU_n, ↓exU_r, ↓hr.la, ↓uCall_eq, ↓e1, ↓goOn_ok, ↓el, ↓e3, ↓e4, ↓e5, ↓uExt_0, ↓uExt_1, ↓uExt_2, ↓e6, ↓b6.len, ↓e7, ↓e8, ↓e9, ↓e10, ↓uEq_nn, xo_f, decide_true, ↓eT_t, ↓cn_true, ↓r610.la, ↓h10.la, ↓ea, ↓b6.len, ↓u4r_mk]
theorem hd_new (F : FAW) (H : Hd) : HRow (F.new H.c 23 4) F.x H := by show (F.new H.c 23 4).row F.x = _; rw [row_new, if_pos rfl]
theorem s4 (N : Nat) (hN : 250 ≤ N) {F : FAW} {more : FV} {ms : List Nat} (hw : Wf F) (hmo : By F more ms) (hms : Bs ms) (compact : Bool) (nm : List Nat) (hs : Bs nm) (kd : Int) (sq : Int) (hz : -2147483648 ≤ sq ∧ sq ≤ 2147483647) (old : Bool) (cut : Int) :
    ∃ F', clU msgD N 4 [.t compact, .a [.s nm, numV .i64 kd, .i .i32 sq, .t old], more, numV .i64 cut] F = .ok (.t true) F' := by
  obtain ⟨m, rfl⟩ : ∃ m, N = m + 1 := ⟨N - 1, by omega⟩
  have st0 := Std.new hw [.s nm, numV .i64 kd, .i .i32 sq, .t old] 23 4 (fun _ => False) (fun _ => False)
  have w0 := hw.new [.s nm, numV .i64 kd, .i .i32 sq, .t old] 23 4
  have r0 : (F.new [.s nm, numV .i64 kd, .i .i32 sq, .t old] 23 4).row F.x = some ([.s nm, numV .i64 kd, .i .i32 sq, .t old], 23, 4, F.x, false) := by rw [row_new, if_pos rfl]
  have f0 : (F.new [.s nm, numV .i64 kd, .i .i32 sq, .t old] 23 4).fam F.x = some (false, 4) := by rw [fam_new, if_pos rfl]; rfl
  have hbox := fun f : KU => uBox_a 23 4 [.s nm, numV .i64 kd, .i .i32 sq, .t old] F f
  generalize F.new [.s nm, numV .i64 kd, .i .i32 sq, .t old] 23 4 = F0 at *
  obtain ⟨F1, e1, s1, w1⟩ := t14 m (by omega) w0
  have r1 := s1.row _ _ (fun h => h) r0
  have f1 := s1.fam _ _ (fun h => h) f0
  have mo1 := hmo.std (st0.trans s1) (fun _ _ _ _ _ _ h => h)
  have l0 : ∀ f : KU, uLd none (.p F.x 0) F1 f = f (.s nm) F1 := fun f => uLd_row f r1 rfl (Fi.s _)
  have l1 : ∀ f : KU, uLd none (.p F.x 1) F1 f = f (numV .i64 kd) F1 := fun f => uLd_row f r1 rfl (numV_fi _ _)
  rw [cl4, u4_in]
  generalize hC : clU msgD m = C at *
  by_cases h1 : 40 < nm.length
  · refine ⟨F1, ?_⟩
    simp -implicitDefEqProofs only [↓u4b_s, ↓u4bt1_s, ↓u4bt2_s, ↓seqU_eq, ↓condU_eq, ↓skipU_eq, ↓retU_eq, ↓u4_0, ↓u4_1, ↓u4_2, ↓u4_4, ↓u4_5, ↓u4_6, ↓m16_mk, ↓k16_mk, ↓exU_n, ↓exU_r, ↓hbox, ↓uCall_eq, ↓e1, ↓goOn_ok, ↓uNot_t, Bool.not_true, ↓eT_t, ↓cn_false, ↓uFad_p, Nat.zero_add, ↓l0, ↓uLen_s, ↓uGtr_nn, decide_eq_true h1, ↓cn_true, ↓u4r_mk]
  · by_cases h2 : 1 ≤ kd ∧ kd ≤ 4
    · obtain ⟨k, rfl⟩ : ∃ k : Nat, kd = k := ⟨kd.toNat, by omega⟩
      have hn : numV .i64 (k : Int) = .n k := rfl
      simp only [hn] at r1 l1 hbox
      by_cases h3 : 20 < ms.length
      · refine ⟨F1, ?_⟩
        simp -implicitDefEqProofs only [↓u4b_s, ↓u4bt1_s, ↓u4bt2_s, ↓seqU_eq, ↓condU_eq, ↓skipU_eq, ↓retU_eq, ↓u4_0, ↓u4_1, ↓u4_2, ↓u4_4, ↓u4_5, ↓u4_6, ↓m16_mk, ↓k16_mk, ↓exU_n, ↓exU_r, hn, ↓hbox, ↓uCall_eq, ↓e1, ↓goOn_ok, ↓uNot_t, Bool.not_true, ↓eT_t, ↓cn_false, ↓uFad_p, Nat.zero_add, ↓l0, ↓l1, ↓uLen_s, ↓uGtr_nn, ↓uLss_nn, decide_eq_false h1, decide_eq_false (show ¬ k < 1 by omega), decide_eq_false (show ¬ 4 < k by omega), ↓mo1.len, decide_eq_true h3, ↓cn_true, ↓u4r_mk]
      · have hr : HRow F1 F.x ⟨nm, k, sq, old⟩ := r1
        cases compact with
        | false =>
          obtain ⟨F', e2⟩ := tl4 C m m hC.symm (by omega) (more := more) 0 (.inl rfl) ⟨nm, k, sq, old⟩ (by constructor <;> (show _ ≤ _) <;> simp only <;> omega) (fun h => by cases h) hs (by show nm.length ≤ 40; omega) hz w1 mo1 hms (by omega) F.x hr cut (.t false) (.a [.s nm, .n k, .i .i32 sq, .t old]) (.t false) (.u []) (.u []) (.u []) (.u []) (.u []) (.u []) (.t false) (.t false) (.t false) (.u [])
          refine ⟨F', ?_⟩
          simp -implicitDefEqProofs only [↓u4b_s, ↓u4bt1_s, ↓u4bt2_s, ↓u4bt3_s, ↓u4bt4_s, ↓seqU_eq, ↓condU_eq, ↓skipU_eq, ↓retU_eq, ↓u4_0, ↓u4_1, ↓u4_2, ↓u4_4, ↓u4_5, ↓u4_7, ↓u4_8, ↓u4_9, ↓m16_mk, ↓k16_mk, ↓exU_n, ↓exU_r, hn, ↓hbox, ↓uCall_eq, ↓e1, ↓goOn_ok, ↓uNot_t, Bool.not_true, ↓eT_t, ↓cn_false, ↓uFad_p, Nat.zero_add, ↓l0, ↓l1, ↓uLen_s, ↓uGtr_nn, ↓uLss_nn, decide_eq_false h1, decide_eq_false (show ¬ k < 1 by omega), decide_eq_false (show ¬ 4 < k by omega), ↓mo1.len, decide_eq_false h3, ↓e2]
        | true =>
          have hst := fun f : KU => uSt_row (k := 3) f hr f1 (Nat.le_refl 4) (a := .t old) rfl (Fi.t _) (Fi.t false)
          have hr2 : HRow (F1.put F.x [.s nm, .n k, .i .i32 sq, .t false]) F.x ⟨nm, k, sq, false⟩ := by show FAW.row _ _ = _; rw [row_put, if_pos rfl, r1]; rfl
          have mo2 : By (F1.put F.x [.s nm, .n k, .i .i32 sq, .t false]) more ms := by
            rcases hmo with h | ⟨i, o, c, el, m, ro, cells, a1, a2, a3, a4, a5⟩
            · exact .inl h
            · have := hw.row _ _ a3
              exact .inr ⟨i, o, c, el, m, ro, cells, a1, a2, by rw [row_put, if_neg (by omega)]; exact (st0.trans s1).row _ _ (fun h => h) a3, a4, a5⟩
          obtain ⟨F', e2⟩ := tl4 C m m hC.symm (by omega) (more := more) 1 (.inr rfl) ⟨nm, k, sq, false⟩ (by constructor <;> (show _ ≤ _) <;> simp only <;> omega) (fun _ => rfl) hs (by show nm.length ≤ 40; omega) hz (w1.put F.x [.s nm, .n k, .i .i32 sq, .t false]) mo2 hms (by omega) F.x hr2 cut (.t true) (.a [.s nm, .n k, .i .i32 sq, .t old]) (.t false) (.u []) (.u []) (.u []) (.u []) (.u []) (.u []) (.t false) (.t false) (.t true) (.u [])
          have hst : ∀ f : KU, uSt 1 (.p F.x 3) (.t false) F1 f = f (.u []) (F1.put F.x [.s nm, .n k, .i .i32 sq, .t false]) := hst
          refine ⟨F', ?_⟩
          simp -implicitDefEqProofs only [↓u4b_s, ↓u4bt1_s, ↓u4bt2_s, ↓u4bt3_s, ↓u4bt4_s, ↓seqU_eq, ↓condU_eq, ↓skipU_eq, ↓retU_eq, ↓u4_0, ↓u4_1, ↓u4_2, ↓u4_4, ↓u4_5, ↓u4_7, ↓u4_8, ↓u4_9, ↓u4_10, ↓m16_mk, ↓k16_mk, ↓exU_n, ↓exU_r, hn, ↓hbox, ↓uCall_eq, ↓e1, ↓goOn_ok, ↓uNot_t, Bool.not_true, ↓eT_t, ↓cn_false, ↓cn_true, ↓uFad_p, Nat.zero_add, ↓l0, ↓l1, ↓uLen_s, ↓uGtr_nn, ↓uLss_nn, decide_eq_false h1, decide_eq_false (show ¬ k < 1 by omega), decide_eq_false (show ¬ 4 < k by omega), ↓mo1.len, decide_eq_false h3, ↓hst, ↓e2]
    · -- not such a kind
      by_cases h4 : kd < 1
      · have hlt : ∀ f : KU, uCmp ltN .lss (numV .i64 kd) (.n 1) F1 f = f (.t true) F1 := fun f => by
          cases kd with
          | ofNat k =>
            have h4 : (k : Int) < 1 := h4
            have : k = 0 := by omega
            subst this; rfl
          | negSucc k =>
            have e : uCmp ltN .lss (numV .i64 (.negSucc k)) (.n 1) F1 f = uSlow .lss (.i .i64 (.negSucc k)) (.n 1) F1 f := rfl
            have h : binV .lss (toV (.i .i64 (.negSucc k))) (toV (.n 1)) = some (.bool true) := by
              simp only [toV, binV, iop, if_true]
              rw [decide_eq_true (by omega)]
            rw [e, uSlow_n h]; rfl
        refine ⟨F1, ?_⟩
        simp -implicitDefEqProofs only [↓u4b_s, ↓u4bt1_s, ↓u4bt2_s, ↓seqU_eq, ↓condU_eq, ↓skipU_eq, ↓retU_eq, ↓u4_0, ↓u4_1, ↓u4_2, ↓u4_4, ↓u4_5, ↓u4_6, ↓m16_mk, ↓k16_mk, ↓exU_n, ↓exU_r, ↓hbox, ↓uCall_eq, ↓e1, ↓goOn_ok, ↓uNot_t, Bool.not_true, ↓eT_t, ↓cn_false, ↓uFad_p, Nat.zero_add, ↓l0, ↓l1, ↓uLen_s, ↓uGtr_nn, decide_eq_false h1, ↓hlt, ↓cn_true, ↓u4r_mk]
      · obtain ⟨k, rfl⟩ : ∃ k : Nat, kd = k := ⟨kd.toNat, by omega⟩
        have hn : numV .i64 (k : Int) = .n k := rfl
        simp only [hn] at r1 l1 hbox
        refine ⟨F1, ?_⟩
        simp -implicitDefEqProofs only [↓u4b_s, ↓u4bt1_s, ↓u4bt2_s, ↓seqU_eq, ↓condU_eq, ↓skipU_eq, ↓retU_eq, ↓u4_0, ↓u4_1, ↓u4_2, ↓u4_4, ↓u4_5, ↓u4_6, ↓m16_mk, ↓k16_mk, ↓exU_n, ↓exU_r, hn, ↓hbox, ↓uCall_eq, ↓e1, ↓goOn_ok, ↓uNot_t, Bool.not_true, ↓eT_t, ↓cn_false, ↓uFad_p, Nat.zero_add, ↓l0, ↓l1, ↓uLen_s, ↓uGtr_nn, ↓uLss_nn, decide_eq_false h1, decide_eq_false (show ¬ k < 1 by omega), decide_eq_true (show 4 < k by omega), ↓cn_true, ↓u4r_mk]
theorem walkMsgBack (W : World) (compact : Bool) (nm : ByteArray) (kd : Int) (_ : (Lit.int .i64 kd).wf = true) (sq : Int) (hz : (Lit.int .i32 sq).wf = true) (old : Bool) (a : Option Addr) (len cap : Nat) (z : List Int) (hs : SliceArg W .u8 a len cap z) (cut : Int) (_ : (Lit.int .i64 cut).wf = true) :
    Calls Try.prog 4 #[.bool compact, .agg #[.string nm, .int .i64 kd, .int .i32 sq, .bool old], .slice a len cap, .int .i64 cut] W fun e W' => e = .returned (.bool true) ∧ Below W.heap.size W W' := by
  obtain ⟨ρ, S, F, fv, ms, h1, h2, h3, h4, h5, h6, h7, h8⟩ := arg_by (RelW.empty W) UR.empty Wf.empty hs
  have hz' : -2147483648 ≤ sq ∧ sq ≤ 2147483647 := by
    simp [Lit.wf, IntKind.min, IntKind.max, IntKind.bits, IntKind.signed] at hz; omega
  obtain ⟨F', h⟩ := s4 400 (by omega) h8 h5 h6 compact (bytesOf nm) (bytesOf_bs nm) kd sq hz' old cut
  refine mainU_ok msg_mixed msg_is msg_X msgD_ok (f := 4) (xf := f4) (args := [.t compact, .a [.s (bytesOf nm), numV .i64 kd, .i .i32 sq, .t old], fv, numV .i64 cut]) rfl h2 h1 ⟨rfl, fun i h => ?_⟩ (by rw [h]; rfl)
  simp only [toVs, List.size_toArray, List.length_cons, List.length_nil] at h
  have hi : i = 0 ∨ i = 1 ∨ i = 2 ∨ i = 3 := by omega
  rcases hi with rfl | rfl | rfl | rfl
  · exact fun _ => .bool _
  · intro _
    show VRel _ (toV (.a [.s (bytesOf nm), numV .i64 kd, .i .i32 sq, .t old])) _
    simp only [toV, toVs, numV_to]
    have hb := toV_bytes nm
    simp only [toV] at hb
    rw [hb]
    exact VRel.agg_l (.cons (.string _) (.cons (.int _ _) (.cons (.int _ _) (.cons (.bool _) .nil))))
  · exact fun _ => h4
  · intro _
    show VRel _ (toV (numV .i64 cut)) _
    rw [numV_to]; exact .int _ _
end Go.Proofs.Ytgejdfhfgphcbaa.Ev
