/- Msg: texts that are put; zig.Put. -/
import Derived.Test.YtgejdfhfgphcbaaMsgKU
import Derived.Test.YtgejdfhfgphcbaaEvF
import Derived.Test.YtgejdfhfgphcbaaMsgC
namespace Go.Proofs.Ytgejdfhfgphcbaa.Ev
open Go Go.RowKit
set_option linter.unusedVariables false
set_option linter.constructorNameAsVariable false
set_option linter.unusedSimpArgs false
set_option linter.unusedSectionVars false

theorem be4b_len (c : Nat) : (be4b c).length = 4 := rfl
theorem t64b (N : Nat) (hN : 6 ≤ N) {F : FAW} {a : FV} {xs : List Nat} (ha : By F a xs) (hw : Wf F) (hL : xs.length ≤ 1000000) (c : Nat) :
    ∃ v F', clU msgD N 64 [a, w64 c, .n 4] F = .ok v F' ∧ BB F' v (xs ++ be4b c) F.x ∧ v ≠ .nl ∧ Std F F' (fun _ => False) (fun _ => False) ∧ Wf F' := by
  obtain ⟨F', h1, h2, h3, h4⟩ := t64 N hN ha hw hL c
  have := h2.e
  rw [List.length_map] at this
  exact ⟨_, F', h1, this, by simp, h3, h4⟩
theorem t65 (N : Nat) (hN : 7 ≤ N) {F : FAW} {a : FV} {xs s : List Nat} (ha : By F a xs) (hs : Bs s) (hw : Wf F) (hL : xs.length ≤ 1000000) (hS : s.length ≤ 1000000) :
    ∃ v F' m, clU msgD N 65 [a, .s s] F = .ok v F' ∧ BB F' v (xs ++ be4b s.length ++ s) m ∧ F.x ≤ m ∧ Std F F' (fun _ => False) (fun _ => False) ∧ Wf F' := by
  obtain ⟨m, rfl⟩ : ∃ m, N = m + 1 := ⟨N - 1, by omega⟩
  obtain ⟨v1, F1, e1, h1, n1, s1, w1⟩ := t64b m (by omega) ha hw hL s.length
  obtain ⟨v2, F2, m2, e2, h2, s2, w2, n2⟩ := app_bb w1 h1 (fun g => src_s hs F1 g) (by rw [List.length_append, be4b_len]; omega)
  have hne : v2 ≠ .nl := by
    rintro rfl
    rcases h2 with ⟨_, h, _⟩ | ⟨i, mu, h, _⟩
    · simp [be4b] at h
    · cases h
  refine ⟨v2, F2, m2, ?_, h2, ?_, s1.fresh hw s2 (fun _ _ h => h) (fun j hj h => by omega), w2⟩
  · rw [cl65, u65_in]
    simp -implicitDefEqProofs only [↓u65b, ↓seqU_eq, ↓retU_eq, ↓u65_0, ↓u65_1, ↓m3_mk, ↓exU_n, ↓exU_r, ↓uLen_s, ↓uCv_un _ _ _ (show s.length < 18446744073709551616 by omega), ↓uCall_eq, ↓e1, ↓goOn_ok, ↓e2, ↓u65r_mk]
  · rcases n2 hne with ⟨h, _⟩ | h
    · omega
    · exact Nat.le_trans s1.x h
/-- slices.Clone. -/
theorem t90 (N : Nat) (hN : 1 ≤ N) {F : FAW} {a : FV} {xs : List Nat} (ha : By F a xs) (hw : Wf F) (hL : xs.length ≤ 1000000) :
    ∃ v F' m, clU msgD N 90 [a] F = .ok v F' ∧ BB F' v xs m ∧ (v ≠ .nl → F.x ≤ m) ∧ Std F F' (fun _ => False) (fun _ => False) ∧ Wf F' := by
  obtain ⟨m, rfl⟩ : ∃ m, N = m + 1 := ⟨N - 1, by omega⟩
  by_cases h0 : a = .nl
  · subst h0
    have : xs = [] := by
      rcases ha with ⟨_, h⟩ | ⟨i, o, c, el, m, ro, cells, h, _⟩
      · exact h
      · cases h
    subst this
    refine ⟨.nl, F, 0, ?_, SlE.nil _ _ _ _, fun h => absurd rfl h, Std.refl _ _ _, hw⟩
    have e1 : ∀ f : KU, uEqN 1 false .nl .nl F f = f (.t true) F := fun f => rfl
    rw [cl90, u90_in]
    simp -implicitDefEqProofs only [↓u90b, ↓seqU_eq, ↓condU_eq, ↓retU_eq, ↓u90_0, ↓u90_1, ↓u90_2, ↓u90_3, ↓m3_mk, ↓k3_mk, ↓exU_n, ↓exU_r, ↓e1, ↓eT_t, ↓cn_true, ↓u90r_mk]
  · have e1 : ∀ f : KU, uEqN 1 false a .nl F f = f (.t false) F := fun f => by
      rcases ha with ⟨h, _⟩ | ⟨i, o, c, el, m, ro, cells, rfl, _⟩
      · exact absurd h h0
      · rfl
    have st1 := Std.new hw [] 5 1 (fun _ => False) (fun _ => False)
    have h1 := SlE.lit0 F 5 1
    have w1 := hw.new [] 5 1
    have b1 := ha.std st1 (fun _ _ _ _ _ _ h => h)
    have el := fun f : KU => uLit0 5 1 [(.b 0)] F f
    have hx : (F.new [] 5 1).x = F.x + 1 := rfl
    generalize F.new [] 5 1 = F1 at *
    obtain ⟨v2, F2, m2, e2, h2, s2, w2, n2⟩ := app_bb (l := []) w1 h1 (fun g => b1.src g) (by simp; omega)
    refine ⟨v2, F2, m2, ?_, h2, fun hne => ?_, st1.fresh hw s2 (fun _ _ h => h) (fun j hj h => by omega), w2⟩
    · rw [cl90, u90_in]
      simp -implicitDefEqProofs only [↓u90b, ↓seqU_eq, ↓condU_eq, ↓skipU_eq, ↓retU_eq, ↓u90_0, ↓u90_1, ↓u90_2, ↓u90_4, ↓m3_mk, ↓k3_mk, ↓exU_n, ↓exU_r, ↓e1, ↓eT_t, ↓cn_false, ↓el, ↓e2, ↓u90r_mk]
    · rcases n2 hne with ⟨h, _⟩ | h
      · omega
      · omega
/-- A number of seven bits, low bits first. -/
def pv : Nat → Nat → List Nat
  | 0, v => [v % 256]
  | k + 1, v => if 127 < v then (v % 128 + 128) :: pv k (v / 128) else [v % 256]
theorem pv_len : ∀ k v, (pv k v).length ≤ k + 1
  | 0, v => Nat.le_refl _
  | k + 1, v => by
    unfold pv
    split
    · have := pv_len k (v / 128); simp; omega
    · simp
set_option maxRecDepth 8000 in
theorem or_128 : ∀ b : Fin 256, b.1 ||| 128 = b.1 % 128 + 128 := by decide
theorem w_7 : FV.i .u64 7 = w64 7 := rfl
theorem w_127 : FV.i .u64 127 = w64 127 := rfl
theorem srcU_lit {F : FAW} {i : Nat} {b : Nat} {e s m o} (h : F.row i = some ([.b b], e, s, m, o)) (g : Nat → List FV → RU) : srcU F 1 (.l i 0 1 1) g = g [b].length ([b].map FV.b) := srcU_one (Fi.b b) h g
theorem l66 (C : CU) (n : Nat) : ∀ (k c : Nat), c < 128 ^ (k + 1) → ∀ (M : Nat), k + 2 ≤ M → ∀ {F : FAW} {v : FV} {l : List Nat} {m : Nat} (h : BB F v l m) (hw : Wf F) (hl : l.length ≤ 2000000 - k * 10) (hk : k ≤ 20) (B : Nat) (hB : B ≤ F.x) (hm : v ≠ .nl → B ≤ m) (a e f : FV),
    ∃ v' m' F' c' e' f', (∀ κ : EX → W5 → FAW → RU, loopNU (u66_6 C n) κ M (.mk a (w64 c) e v f) F = κ (.exit 0) (.mk a (w64 c') e' v' f') F') ∧ c' ≤ 127 ∧ (∃ q, pv k c = q ++ [c' % 256] ∧ BB F' v' (l ++ q) m') ∧ Wf F' ∧ (v' ≠ .nl → B ≤ m') ∧ B ≤ F'.x ∧ ∀ F0 : FAW, F0.x = B → Wf F0 → Std F0 F (fun _ => False) (fun _ => False) → Std F0 F' (fun _ => False) (fun _ => False) := by
  intro k
  induction k with
  | zero =>
    intro c hc M hM F v l m h hw hl hk B hB hm a e f
    obtain ⟨M, rfl⟩ : ∃ M', M = M' + 1 := ⟨M - 1, by omega⟩
    refine ⟨v, m, F, c, e, .t false, fun κ => ?_, by omega, ⟨[], rfl, by rw [List.append_nil]; exact h⟩, hw, hm, hB, fun _ _ _ h => h⟩
    rw [loopNU_succ]
    generalize loopNU (u66_6 C n) κ M = rec
    simp -implicitDefEqProofs only [↓u66_6, ↓seqU_eq, ↓condU_eq, ↓exitU_eq, ↓u66_2, ↓u66_3, ↓m5_mk, ↓k5_mk, ↓exU_n, ↓exU_e, w_127, ↓uGtr_w _ _ _ _ .gtr rfl, decide_eq_false (show ¬ 127 < c by omega), ↓eT_t, ↓cn_false]
  | succ k ih =>
    intro c hc M hM F v l m h hw hl hk B hB hm a e f
    obtain ⟨M, rfl⟩ : ∃ M', M = M' + 1 := ⟨M - 1, by omega⟩
    by_cases hc1 : 127 < c
    · have h0 := hw.new [.b (c % 128 + 128)] 5 1
      have st0 := Std.new hw [.b (c % 128 + 128)] 5 1 (fun _ => False) (fun _ => False)
      have r0 : (F.new [.b (c % 128 + 128)] 5 1).row F.x = some ([.b (c % 128 + 128)], 5, 1, F.x, false) := by rw [row_new, if_pos rfl]
      have el := fun f : KU => uLit1 5 (.b 0) (Fi.b (c % 128 + 128)) (Fi.b 0) F f
      have hx : (F.new [.b (c % 128 + 128)] 5 1).x = F.x + 1 := rfl
      generalize F.new [.b (c % 128 + 128)] 5 1 = F1 at *
      have h1 : BB F1 v l m := h.std st0 (fun _ _ _ _ h => h) (fun _ h => h)
      obtain ⟨v2, F2, m2, e2, h2, s2, w2, n2⟩ := app_bb h0 h1 (fun g => srcU_lit r0 g) (by simp; omega)
      have hv2 : v2 ≠ .nl := by
        rintro rfl
        rcases h2 with ⟨_, h, _⟩ | ⟨i, mu, h, _⟩
        · simp at h
        · cases h
      have hx2 := s2.x
      have hm2 : v2 ≠ .nl → B ≤ m2 := fun hne => by
        rcases n2 hne with ⟨hq, hq'⟩ | hq
        · rw [hq]; exact hm hq'
        · omega
      obtain ⟨v3, m3, F3, c3, e3, f3, k1, k2, ⟨q, k3, k4⟩, k5, k6, k7, k8⟩ := ih (c / 128) (by rw [Nat.div_lt_iff_lt_mul (by omega)]; rw [Nat.pow_succ] at hc; exact hc) M (by omega) h2 w2 (by simp; omega) (by omega) B (by omega) hm2 a e (.t true)
      refine ⟨v3, m3, F3, c3, e3, f3, fun κ => ?_, k2, ⟨(c % 128 + 128) :: q, ?_, ?_⟩, k5, k6, k7, fun F0 h0 hw0 hs => k8 F0 h0 hw0 ((hs.trans st0).fresh hw0 s2 (fun _ _ h => h) (fun j hj hq => ?_))⟩
      · have k1 := k1 κ
        rw [loopNU_succ]
        generalize hr : loopNU (u66_6 C n) κ M = rec at k1 ⊢
        have eo : uSlow .or (.b (c % 256)) (.b 128) F = fun f => f (.b (c % 128 + 128)) F := by
          funext f
          rw [uOr_b _ _ _ _ (by omega) (by omega), or_128 ⟨c % 256, by omega⟩]
          show f (.b (c % 256 % 128 + 128)) F = _
          rw [Nat.mod_mod_of_dvd _ (by decide)]
        simp -implicitDefEqProofs only [↓u66_6, ↓seqU_eq, ↓condU_eq, ↓skipU_eq, ↓blockU_eq, ↓u66_2, ↓u66_3, ↓u66_4, ↓u66_5, ↓m5_mk, ↓k5_mk, ↓exU_n, w_127, w_7, ↓uGtr_w _ _ _ _ .gtr rfl, decide_eq_true hc1, ↓eT_t, ↓cn_true, ↓uCv_bw, ↓eo, ↓el, ↓e2, ↓uShr_w _ _ _ 7 (show 7 < 64 by omega) _ (.inl rfl)]
        exact k1
      · show (if 127 < c then (c % 128 + 128) :: pv k (c / 128) else [c % 256]) = _
        rw [if_pos hc1, k3]; rfl
      · rw [List.append_assoc] at k4; exact k4
      · obtain ⟨rfl, hq⟩ := hq
        have := hm hq
        omega
    · refine ⟨v, m, F, c, e, .t false, fun κ => ?_, by omega, ⟨[], ?_, by rw [List.append_nil]; exact h⟩, hw, hm, hB, fun _ _ _ h => h⟩
      · rw [loopNU_succ]
        generalize loopNU (u66_6 C n) κ M = rec
        simp -implicitDefEqProofs only [↓u66_6, ↓seqU_eq, ↓condU_eq, ↓exitU_eq, ↓u66_2, ↓u66_3, ↓m5_mk, ↓k5_mk, ↓exU_n, ↓exU_e, w_127, ↓uGtr_w _ _ _ _ .gtr rfl, decide_eq_false hc1, ↓eT_t, ↓cn_false]
      · show (if 127 < c then (c % 128 + 128) :: pv k (c / 128) else [c % 256]) = _
        rw [if_neg hc1]; rfl
theorem t66 (N : Nat) (hN : 8 ≤ N) {F : FAW} {a : FV} {xs : List Nat} (ha : By F a xs) (hw : Wf F) (hL : xs.length ≤ 1000000) (c : Nat) (hc : c < 4294967296) :
    ∃ v F' m, clU msgD N 66 [a, w64 c] F = .ok v F' ∧ BB F' v (xs ++ pv 4 c) m ∧ F.x ≤ m ∧ Std F F' (fun _ => False) (fun _ => False) ∧ Wf F' := by
  obtain ⟨m, rfl⟩ : ∃ m, N = m + 1 := ⟨N - 1, by omega⟩
  obtain ⟨v1, F1, m1, e1, h1, n1, s1, w1⟩ := t90 m (by omega) ha hw hL
  obtain ⟨v2, m2, F2, c2, e2, f2, k1, k2, ⟨q, k3, k4⟩, k5, k6, k7, k8⟩ := l66 (clU msgD m) m 4 c (by omega) m (by omega) h1 w1 (by omega) (by omega) F.x s1.x n1 a .nl (.u [])
  have st2 := k8 F rfl hw s1
  have h0 := k5.new [.b (c2 % 256)] 5 1
  have st0 := Std.new k5 [.b (c2 % 256)] 5 1 (fun _ => False) (fun _ => False)
  have r0 : (F2.new [.b (c2 % 256)] 5 1).row F2.x = some ([.b (c2 % 256)], 5, 1, F2.x, false) := by rw [row_new, if_pos rfl]
  have el := fun f : KU => uLit1 5 (.b 0) (Fi.b (c2 % 256)) (Fi.b 0) F2 f
  have hx : (F2.new [.b (c2 % 256)] 5 1).x = F2.x + 1 := rfl
  generalize F2.new [.b (c2 % 256)] 5 1 = F3 at *
  have k4' := k4.std st0 (fun _ _ _ _ h => h) (fun _ h => h)
  have hq : q.length ≤ 5 := by
    have := pv_len 4 c
    rw [k3] at this
    simp at this; omega
  obtain ⟨v4, F4, m4, e4, h4, s4, w4, n4⟩ := app_bb h0 k4' (fun g => srcU_lit r0 g) (by simp; omega)
  have hne : v4 ≠ .nl := by
    rintro rfl
    rcases h4 with ⟨_, h, _⟩ | ⟨i, mu, h, _⟩
    · simp at h
    · cases h
  refine ⟨v4, F4, m4, ?_, ?_, ?_, (st2.trans st0).fresh hw s4 (fun _ _ h => h) (fun j hj hq => ?_), w4⟩
  · rw [cl66, u66_in]
    generalize clU msgD m = C at *
    simp -implicitDefEqProofs only [↓u66b, ↓seqU_eq, ↓blockU_eq, ↓loopU_eq, ↓retU_eq, ↓u66_0, ↓u66_1, ↓u66_7, ↓m5_mk, ↓exU_n, ↓exU_e, ↓exU_r, ↓uCall_eq, ↓e1, ↓goOn_ok, ↓k1, show Nat.beq 0 0 = true from rfl, ↓cn_true, ↓uCv_bw, ↓el, ↓e4, ↓u66r_mk]
  · rw [k3, ← List.append_assoc]; exact h4
  · rcases n4 hne with ⟨rfl, h⟩ | h
    · exact k6 h
    · omega
  · obtain ⟨rfl, hq⟩ := hq
    have := k6 hq
    omega
end Go.Proofs.Ytgejdfhfgphcbaa.Ev
/- Msg: Put. -/
namespace Go.Proofs.Ytgejdfhfgphcbaa.Ev
open Go Go.RowKit
set_option linter.unusedVariables false
set_option linter.constructorNameAsVariable false
set_option linter.unusedSimpArgs false
set_option linter.unusedSectionVars false

/-- A head's row. -/
def HRow (F : FAW) (i : Nat) (H : Hd) : Prop := F.row i = some (H.c, 23, 4, i, false)
section
variable {F : FAW} {i : Nat} {H : Hd} (h : HRow F i H)
include h
theorem HRow.l0 (f : KU) : uLd none (.p i 0) F f = f (.s H.nm) F := uLd_row f h rfl (Fi.s _)
theorem HRow.l1 (f : KU) : uLd none (.p i 1) F f = f (.n H.kd) F := uLd_row f h rfl (Fi.n _)
theorem HRow.l2 (f : KU) : uLd none (.p i 2) F f = f (.i .i32 H.sq) F := uLd_row f h rfl (Fi.i _ _)
theorem HRow.l3 (f : KU) : uLd none (.p i 3) F f = f (.t H.old) F := uLd_row f h rfl (Fi.t _)
theorem HRow.la (f : KU) : uLd (some 4) (.p i 0) F f = f (.a H.c) F := uLd_agg f h (Nat.le_refl 4) H.fi
theorem HRow.std {F' : FAW} {A B : Nat → Prop} (hs : Std F F' A B) (hA : ¬ A i) : HRow F' i H := hs.row _ _ hA h
end
/-- A number with a sign as one of 32 bits without. -/
def sqw (z : Int) : Nat := (IntKind.wrap .u32 z).toNat
theorem sqw_lt (z : Int) : sqw z < 4294967296 := by
  unfold sqw
  simp only [IntKind.wrap, IntKind.bits, IntKind.signed]
  simp
  omega
theorem uCv_iu (z : Int) (F : FAW) (f : KU) : (uCvI .u32 (.i .i32 z) F fun v S => uCvI .u64 v S f) = f (w64 (sqw z)) F := by
  have e : (uCvI .u32 (.i .i32 z) F fun v S => uCvI .u64 v S f) = f (.i .u64 (IntKind.wrap .u64 (IntKind.wrap .u32 z))) F := rfl
  rw [e]
  have h : IntKind.wrap .u32 z = ((sqw z : Nat) : Int) := by
    unfold sqw
    rw [Int.toNat_of_nonneg]
    simp only [IntKind.wrap, IntKind.bits, IntKind.signed]
    simp
    omega
  rw [h, wrap_u64 (by have := sqw_lt z; omega)]
  rfl
theorem veqLU_b (k : Nat) (r : RU) : veqLU [.b k] [.b k] r = r := by
  have e : veqLU [.b k] [.b k] r = cn (veq1 (toV (.b k)) (toV (.b k))) r .no := rfl
  have h : veq1 (toV (.b k)) (toV (.b k)) = true := by simp [toV, veq1]
  rw [e, h, cn_true]
theorem rowU2_b {F F0 : FAW} {i k : Nat} {e s m m' o'} (h : F.row i = some ([.b k], e, s, m, false)) (h0 : F0.row i = some ([.b k], e, s, m', o')) (r : RU) : rowU2 F F0 (.l i 0 1 1) r = r := by
  have e1 : rowU2 F F0 (.l i 0 1 1) r = findH F.h i fun c e s _ ro => findH F0.h i fun c' e' s' _ _ => cn (an (nt ro) (an (Nat.beq e e') (Nat.beq s s'))) (veqLU c c' r) .no := rfl
  rw [e1, findH_get _ h, findH_get _ h0, an_eq, an_eq, nt_eq, beqU, beqU]
  simp only [decide_true, Bool.not_false, Bool.and_self, cn_true]
  exact veqLU_b k r
/-- A head as bytes. -/
def putP (p : Nat) (H : Hd) : List Nat :=
  if p = 0 then (if H.old = true then be4b H.nm.length ++ H.nm ++ [H.kd % 256] ++ be4b (sqw H.sq) else [128, 1, 0, H.kd % 256] ++ be4b H.nm.length ++ H.nm ++ be4b (sqw H.sq))
  else [130, (H.kd * 32 + 1) % 256] ++ pv 4 (sqw H.sq) ++ pv 4 H.nm.length ++ H.nm
theorem ne_of_bb {F : FAW} {v : FV} {l : List Nat} {m : Nat} (h : BB F v l m) (hl : l ≠ []) : v ≠ .nl := by
  rintro rfl
  rcases h with ⟨_, h, _⟩ | ⟨i, mu, h, _⟩
  · exact hl (by simpa using h)
  · cases h
theorem uLitB (F : FAW) (f : KU) (a b c d : Nat) : uLitF 5 1 [(.b 0)] 4 [(0, 1, .b a), (1, 1, .b b), (2, 1, .b c), (3, 1, .b d)] F f = f (.l F.x 0 4 4) (F.new [.b a, .b b, .b c, .b d] 5 1) := by
  have e : uLitF 5 1 [(.b 0)] 4 [(0, 1, .b a), (1, 1, .b b), (2, 1, .b c), (3, 1, .b d)] F f = newU [.b a, .b b, .b c, .b d] 5 1 F fun i F' => f (.l i 0 4 4) F' := rfl
  rw [e, newU_new]
theorem uLitB2 (F : FAW) (f : KU) (a b : Nat) : uLitF 5 1 [(.b 0)] 2 [(0, 1, .b a), (1, 1, .b b)] F f = f (.l F.x 0 2 2) (F.new [.b a, .b b] 5 1) := by
  have e : uLitF 5 1 [(.b 0)] 2 [(0, 1, .b a), (1, 1, .b b)] F f = newU [.b a, .b b] 5 1 F fun i F' => f (.l i 0 2 2) F' := rfl
  rw [e, newU_new]
theorem by_new (F : FAW) (l : List Nat) (n : Nat) (hn : n = l.length) : By (F.new (l.map FV.b) 5 1) (.l F.x 0 n n) l := by
  subst hn
  exact .inr ⟨F.x, 0, l.length, 5, F.x, false, l.map FV.b, rfl, Nat.le_refl _, by rw [row_new, if_pos rfl], by rw [List.drop_zero, List.take_of_length_le (by simp)], by simp⟩
theorem kd_shl : ∀ k : Fin 5, ∀ (F : FAW) (f : KU), (uSlow .shl (.n k.1) (.i .u64 5) F fun v0 S => uSlow .or v0 (.n 1) S fun v1 S => uCvI .u8 v1 S f) = f (.b ((k.1 * 32 + 1) % 256)) F := by
  intro k F f
  have : k.1 = 0 ∨ k.1 = 1 ∨ k.1 = 2 ∨ k.1 = 3 ∨ k.1 = 4 := by omega
  rcases this with h | h | h | h | h <;> rw [h] <;> rfl
theorem t18 (N : Nat) (hN : 12 ≤ N) {F : FAW} (p : Nat) (hp : p = 0 ∨ p = 1) (H : Hd) (hk : 1 ≤ H.kd ∧ H.kd ≤ 4) (hs : Bs H.nm) (hS : H.nm.length ≤ 1000) (hw : Wf F) :
    ∃ v F' m, clU msgD N 18 [.n p, .a H.c] F = .ok v F' ∧ BB F' v (putP p H) m ∧ v ≠ .nl ∧ F.x ≤ m ∧ Std F F' (fun _ => False) (fun _ => False) ∧ Wf F' := by
  obtain ⟨m, rfl⟩ : ∃ m, N = m + 1 := ⟨N - 1, by omega⟩
  have h0 : HRow (F.new H.c 23 4) F.x H := by show (F.new H.c 23 4).row F.x = _; rw [row_new, if_pos rfl]
  have st0 := Std.new hw H.c 23 4 (fun _ => False) (fun _ => False)
  have w0 := hw.new H.c 23 4
  have hbox := fun f : KU => uBox_a 23 4 H.c F f
  have hx0 : (F.new H.c 23 4).x = F.x + 1 := rfl
  generalize F.new H.c 23 4 = F0 at *
  have e63 := t63 m (by omega) H.kd F0
  have hmay : mayB H.kd = true := by unfold mayB; simp [hk.1, hk.2]
  rw [hmay] at e63
  have hcv := uCv_iu H.sq
  rw [cl18, u18_in]
  generalize hC : clU msgD m = C at *
  by_cases hp0 : p = 0
  · subst hp0
    by_cases ho : H.old = true
    · -- an old one
      have st1 := Std.new w0 [.b (H.kd % 256)] 5 1 (fun _ => False) (fun _ => False)
      have w1 := w0.new [.b (H.kd % 256)] 5 1
      have r1 : (F0.new [.b (H.kd % 256)] 5 1).row F0.x = some ([.b (H.kd % 256)], 5, 1, F0.x, false) := by rw [row_new, if_pos rfl]
      have el := fun f : KU => uLit1 5 (.b 0) (Fi.b (H.kd % 256)) (Fi.b 0) F0 f
      have hx1 : (F0.new [.b (H.kd % 256)] 5 1).x = F0.x + 1 := rfl
      generalize F0.new [.b (H.kd % 256)] 5 1 = F1 at *
      have h1 := h0.std st1 (fun h => h)
      obtain ⟨v2, F2, m2, e2, b2, n2, s2, w2⟩ := t65 m (by omega) (a := .nl) (xs := []) (.inl ⟨rfl, rfl⟩) hs w1 (by simp) (by omega)
      rw [hC] at e2
      have h2 := h1.std s2 (fun h => h)
      have r2 := s2.row _ _ (fun h => h) r1
      obtain ⟨v3, F3, m3, e3, b3, s3, w3, n3⟩ := app_bb w2 b2 (fun g => srcU_lit r2 g) (by simp [be4b_len]; omega)
      obtain ⟨v4, F4, e4, b4, n4, s4, w4⟩ := t64b m (by omega) b3.by w3 (by simp [be4b_len]; omega) (sqw H.sq)
      rw [hC] at e4
      have st2 := (st0.trans st1).trans s2
      have st3 := st2.fresh hw s3 (fun _ _ h => h) (fun j hj h => by omega)
      have st4 := st3.trans s4
      refine ⟨v4, F4, F3.x, ?_, ?_, n4, st3.x, st4, w4⟩
      · simp -implicitDefEqProofs only [↓u18b, ↓seqU_eq, ↓condU_eq, ↓blockU_eq, ↓retU_eq, ↓skipU_eq, ↓u18_0, ↓u18_1, ↓u18_2, ↓u18_3, ↓u18_5, ↓u18_6, ↓u18_7, ↓m10_mk, ↓k10_mk, ↓exU_n, ↓exU_r, ↓hbox, ↓uFad_p, Nat.zero_add, ↓h0.l2, ↓hcv, ↓h0.l1, ↓uCall_eq, ↓e63, ↓goOn_ok, ↓uNot_t, Bool.not_true, ↓eT_t, ↓cn_false, ↓uEq_nn, xo_f, decide_true, ↓cn_true, ↓h0.l3, ho, ↓h0.l0, ↓uCv_bn, ↓el, ↓h1.l1, ↓h1.l0, ↓veqU_n, ↓veqU_s, ↓e2, ↓h2.l1, ↓e3, ↓e4, ↓u18r_mk, ↓rowU2_b r2 r1]
      · have : putP 0 H = [] ++ be4b H.nm.length ++ H.nm ++ [H.kd % 256] ++ be4b (sqw H.sq) := by unfold putP; rw [if_pos rfl, if_pos ho, List.nil_append]
        rw [this]; exact b4
    · have st1 := Std.new w0 ([128, 1, 0, H.kd % 256].map FV.b) 5 1 (fun _ => False) (fun _ => False)
      have w1 := w0.new ([128, 1, 0, H.kd % 256].map FV.b) 5 1
      have b1 := by_new F0 [128, 1, 0, H.kd % 256] 4 rfl
      have el := fun f : KU => uLitB F0 f 128 1 0 (H.kd % 256)
      have el : ∀ f : KU, uLitF 5 1 [(.b 0)] 4 [(0, 1, .b 128), (1, 1, .b 1), (2, 1, .b 0), (3, 1, .b (H.kd % 256))] F0 f = f (.l F0.x 0 4 4) (F0.new ([128, 1, 0, H.kd % 256].map FV.b) 5 1) := el
      generalize F0.new ([128, 1, 0, H.kd % 256].map FV.b) 5 1 = F1 at *
      have h1 := h0.std st1 (fun h => h)
      obtain ⟨v2, F2, m2, e2, b2, n2, s2, w2⟩ := t65 m (by omega) b1 hs w1 (by simp) (by omega)
      rw [hC] at e2
      obtain ⟨v4, F4, e4, b4, n4, s4, w4⟩ := t64b m (by omega) b2.by w2 (by simp [be4b_len]; omega) (sqw H.sq)
      rw [hC] at e4
      have st2 := (st0.trans st1).trans s2
      refine ⟨v4, F4, F2.x, ?_, ?_, n4, st2.x, st2.trans s4, w4⟩
      · simp -implicitDefEqProofs only [↓u18b, ↓seqU_eq, ↓condU_eq, ↓blockU_eq, ↓retU_eq, ↓skipU_eq, ↓u18_0, ↓u18_1, ↓u18_2, ↓u18_3, ↓u18_5, ↓u18_6, ↓u18_8, ↓u18_9, ↓u18_10, ↓m10_mk, ↓k10_mk, ↓exU_n, ↓exU_r, ↓hbox, ↓uFad_p, Nat.zero_add, ↓h0.l2, ↓hcv, ↓h0.l1, ↓uCall_eq, ↓e63, ↓goOn_ok, ↓uNot_t, Bool.not_true, ↓eT_t, ↓cn_false, ↓uEq_nn, xo_f, decide_true, ↓cn_true, ↓h0.l3, (show H.old = false from Bool.not_eq_true _ ▸ ho), ↓uCv_bn, ↓el, ↓h1.l0, ↓e2, ↓e4, ↓u18r_mk]
      · have : putP 0 H = [128, 1, 0, H.kd % 256] ++ be4b H.nm.length ++ H.nm ++ be4b (sqw H.sq) := by unfold putP; rw [if_pos rfl, if_neg ho]
        rw [this]; exact b4
  · have hp1 : p = 1 := by omega
    subst hp1
    have st1 := Std.new w0 ([130, (H.kd * 32 + 1) % 256].map FV.b) 5 1 (fun _ => False) (fun _ => False)
    have w1 := w0.new ([130, (H.kd * 32 + 1) % 256].map FV.b) 5 1
    have b1 := by_new F0 [130, (H.kd * 32 + 1) % 256] 2 rfl
    have el : ∀ f : KU, uLitF 5 1 [(.b 0)] 2 [(0, 1, .b 130), (1, 1, .b ((H.kd * 32 + 1) % 256))] F0 f = f (.l F0.x 0 2 2) (F0.new ([130, (H.kd * 32 + 1) % 256].map FV.b) 5 1) := fun f => uLitB2 F0 f 130 ((H.kd * 32 + 1) % 256)
    generalize F0.new ([130, (H.kd * 32 + 1) % 256].map FV.b) 5 1 = F1 at *
    have h1 := h0.std st1 (fun h => h)
    have hsh := kd_shl ⟨H.kd, by omega⟩ F0
    simp only at hsh
    have hpl : ∀ k v, (pv k v).length ≤ k + 1 := pv_len
    obtain ⟨v2, F2, m2, e2, b2, n2, s2, w2⟩ := t66 m (by omega) b1 w1 (by simp) (sqw H.sq) (sqw_lt _)
    rw [hC] at e2
    have h2 := h1.std s2 (fun h => h)
    have l2 := hpl 4 (sqw H.sq)
    have l3 := hpl 4 H.nm.length
    obtain ⟨v3, F3, m3, e3, b3, n3, s3, w3⟩ := t66 m (by omega) b2.by w2 (by simp; omega) H.nm.length (by omega)
    rw [hC] at e3
    have h3 := h2.std s3 (fun h => h)
    obtain ⟨v4, F4, m4, e4, b4, s4, w4, n4⟩ := app_bb w3 b3 (fun g => src_s hs F3 g) (by simp; omega)
    have ne4 := ne_of_bb b4 (by simp)
    have st3 := ((st0.trans st1).trans s2).trans s3
    have hx2 := ((st0.trans st1).trans s2).x
    refine ⟨v4, F4, m4, ?_, ?_, ne4, ?_, st3.fresh hw s4 (fun _ _ h => h) (fun j hj h => by omega), w4⟩
    · simp -implicitDefEqProofs only [↓u18b, ↓seqU_eq, ↓condU_eq, ↓blockU_eq, ↓retU_eq, ↓skipU_eq, ↓u18_0, ↓u18_1, ↓u18_2, ↓u18_3, ↓u18_5, ↓u18_6, ↓u18_8, ↓u18_9, ↓u18_11, ↓u18_12, ↓u18_13, ↓u18_14, ↓m10_mk, ↓k10_mk, ↓exU_n, ↓exU_r, ↓hbox, ↓uFad_p, Nat.zero_add, ↓h0.l2, ↓hcv, ↓h0.l1, ↓uCall_eq, ↓e63, ↓goOn_ok, ↓uNot_t, Bool.not_true, ↓eT_t, ↓cn_false, ↓uEq_nn, xo_f, decide_true, ↓cn_true, decide_eq_false (show ¬ 1 = 0 by omega), ↓hsh, ↓el, ↓e2, ↓h2.l0, ↓uLen_s, ↓uCv_un _ _ _ (show H.nm.length < 18446744073709551616 by omega), ↓e3, ↓h3.l0, ↓veqU_s, ↓e4, ↓u18r_mk]
    · have : putP 1 H = [130, (H.kd * 32 + 1) % 256] ++ pv 4 (sqw H.sq) ++ pv 4 H.nm.length ++ H.nm := by unfold putP; rw [if_neg (by omega)]
      rw [this]; exact b4
    · rcases n4 ne4 with ⟨h, _⟩ | h
      · omega
      · exact Nat.le_trans st3.x h
end Go.Proofs.Ytgejdfhfgphcbaa.Ev
/- Msg: what is put is taken; cut off it is short. No program in sight. -/
namespace Go.Proofs.Ytgejdfhfgphcbaa.Ev
open Go Go.RowKit
set_option linter.unusedVariables false
set_option linter.constructorNameAsVariable false
set_option linter.unusedSimpArgs false
set_option linter.unusedSectionVars false

theorem fls3 (b : Bool) (c : Nat) : fls 3 b c = 3 := by cases b <;> rfl
theorem bye3 (l : List Nat) (n k : Nat) : bye l n 3 k = 3 := fls3 _ _
theorem by_ok {l : List Nat} {n k : Nat} {xs rest : List Nat} (h : l.drop n = xs ++ rest) (hk : xs.length = k) (hn : n ≤ l.length) : bye l n 0 k = 0 ∧ byn l n 0 k = n + k ∧ byl l n 0 k = xs := by
  have hl : l.length - n = xs.length + rest.length := by rw [← List.length_drop, h, List.length_append]
  have h0 : bye l n 0 k = 0 := by rw [bye0]; exact ⟨rfl, by omega⟩
  refine ⟨h0, by rw [byn, if_pos h0], ?_⟩
  rw [byl, if_pos h0, h, ← hk, List.take_left']
  rfl
theorem by_cut {l : List Nat} {n k : Nat} (h : l.length < n + k) (hn : n ≤ l.length) : bye l n 0 k = 3 := by
  unfold bye
  rw [decide_eq_true (by omega)]
  rfl
/-- A step of reading: what it reads, and what it comes to. -/
structure Good (f : List Nat → Ps → Ps) (s : Ps) (xs : List Nat) (s' : Ps) : Prop where
  e : s'.e = 0
  n : s'.n = s.n + xs.length
  full : ∀ pre rest, pre.length = s.n → f (pre ++ (xs ++ rest)) s = s'
  cut : ∀ pre k, pre.length = s.n → k < xs.length → (f (pre ++ xs.take k) s).e = 3
  err : ∀ l t, t.e = 3 → (f l t).e = 3
theorem Good.comp {f g : List Nat → Ps → Ps} {s s' s'' : Ps} {xs ys : List Nat} (hf : Good f s xs s') (hg : Good g s' ys s'') : Good (fun l s => g l (f l s)) s (xs ++ ys) s'' := by
  refine ⟨hg.e, by rw [hg.n, hf.n, List.length_append]; omega, fun pre rest hp => ?_, fun pre k hp hk => ?_, fun l t ht => hg.err _ _ (hf.err _ _ ht)⟩
  · show g _ (f _ s) = s''
    rw [List.append_assoc xs, hf.full pre (ys ++ rest) hp, ← List.append_assoc pre]
    exact hg.full (pre ++ xs) rest (by rw [List.length_append, hf.n, hp])
  · show (g _ (f _ s)).e = 3
    by_cases h : k < xs.length
    · rw [List.take_append_of_le_length (by omega)]
      exact hg.err _ _ (hf.cut pre k hp h)
    · have : (xs ++ ys).take k = xs ++ ys.take (k - xs.length) := by rw [List.take_append, List.take_of_length_le (by omega)]
      rw [this, hf.full pre _ hp, ← List.append_assoc]
      exact hg.cut (pre ++ xs) _ (by rw [List.length_append, hf.n, hp]) (by rw [List.length_append] at hk; omega)
theorem drop_pre {pre t : List Nat} {n : Nat} (h : pre.length = n) : (pre ++ t).drop n = t := by rw [← h, List.drop_left']; rfl
theorem len_le {pre t : List Nat} {n : Nat} (h : pre.length = n) : n ≤ (pre ++ t).length := by rw [List.length_append, h]; omega
theorem good_is (H : Hd) (n c : Nat) : Good (fun l s => Ps.is l s c) ⟨n, 0, H⟩ [c] ⟨n + 1, 0, H⟩ := by
  refine ⟨rfl, rfl, fun pre rest hp => ?_, fun pre k hp hk => ?_, fun l t ht => ?_⟩
  · obtain ⟨h1, h2, h3⟩ := by_ok (k := 1) (drop_pre (t := [c] ++ rest) hp) rfl (len_le hp)
    simp only [Ps.is, h1, h2, rdb, h3]
    simp [fls]
  · have : bye (pre ++ [c].take k) n 0 1 = 3 := by_cut (by simp at hk; simp [hk, hp]) (len_le hp)
    simp only [Ps.is, this, fls3]
  · simp only [Ps.is, ht, bye3, fls3]
theorem good_kd (H : Hd) (n c : Nat) (hc : 1 ≤ c ∧ c ≤ 4) : Good Ps.kd ⟨n, 0, H⟩ [c] ⟨n + 1, 0, { H with kd := c }⟩ := by
  refine ⟨rfl, rfl, fun pre rest hp => ?_, fun pre k hp hk => ?_, fun l t ht => ?_⟩
  · obtain ⟨h1, h2, h3⟩ := by_ok (k := 1) (drop_pre (t := [c] ++ rest) hp) rfl (len_le hp)
    simp only [Ps.kd, h1, h2, rdb, h3]
    simp [fls, mayB, hc.1, hc.2]
  · have : bye (pre ++ [c].take k) n 0 1 = 3 := by_cut (by simp at hk; simp [hk, hp]) (len_le hp)
    simp only [Ps.kd, this, fls3]
  · simp only [Ps.kd, ht, bye3, fls3]
theorem be4_4 {c : Nat} (h : c < 4294967296) : be4 (be4b c) = c := by
  show ((c / 2 ^ 8 / 2 ^ 8 / 2 ^ 8 % 256 * 256 + c / 2 ^ 8 / 2 ^ 8 % 256) * 256 + c / 2 ^ 8 % 256) * 256 + c % 256 = c
  omega
theorem i32_sqw {z : Int} (h : -2147483648 ≤ z ∧ z ≤ 2147483647) : i32 (sqw z) = z := by
  unfold i32 sqw
  simp only [IntKind.wrap, IntKind.bits, IntKind.signed]
  simp
  split <;> omega
theorem good_sq (H : Hd) (n : Nat) (z : Int) (hz : -2147483648 ≤ z ∧ z ≤ 2147483647) : Good Ps.sq ⟨n, 0, H⟩ (be4b (sqw z)) ⟨n + 4, 0, { H with sq := z }⟩ := by
  refine ⟨rfl, rfl, fun pre rest hp => ?_, fun pre k hp hk => ?_, fun l t ht => ?_⟩
  · obtain ⟨h1, h2, h3⟩ := by_ok (k := 4) (drop_pre (t := be4b (sqw z) ++ rest) hp) rfl (len_le hp)
    simp only [Ps.sq, h1, h2, rdn, h3]
    rw [be4_4 (sqw_lt z), i32_sqw hz]
  · have : bye (pre ++ (be4b (sqw z)).take k) n 0 4 = 3 := by_cut (by rw [List.length_append, List.length_take, hp]; simp only at hk ⊢; rw [be4b_len] at hk ⊢; omega) (len_le hp)
    simp only [Ps.sq, this]
  · simp only [Ps.sq, ht, bye3]
theorem good_nm (H : Hd) (n : Nat) (a : List Nat) (ha : a.length ≤ 40) : Good Ps.nm ⟨n, 0, H⟩ (be4b a.length ++ a) ⟨n + (4 + a.length), 0, { H with nm := a }⟩ := by
  refine ⟨rfl, by rw [List.length_append, be4b_len], fun pre rest hp => ?_, fun pre k hp hk => ?_, fun l t ht => ?_⟩
  · obtain ⟨h1, h2, h3⟩ := by_ok (l := pre ++ (be4b a.length ++ a ++ rest)) (k := 4) (xs := be4b a.length) (rest := a ++ rest) (by rw [drop_pre hp, List.append_assoc]) rfl (len_le hp)
    obtain ⟨g1, g2, g3⟩ := by_ok (l := pre ++ (be4b a.length ++ a ++ rest)) (n := n + 4) (k := a.length) (xs := a) (rest := rest) (by rw [← List.drop_drop, drop_pre hp, List.append_assoc]; rfl) rfl (by simp only [List.length_append, be4b_len, hp]; omega)
    simp only [Ps.nm, h1, h2, rdn, h3, be4_4 (show a.length < 4294967296 by omega), decide_eq_false (show ¬ 40 < a.length by omega)]
    show Ps.mk (byn _ (n + 4) 0 a.length) (bye _ (n + 4) 0 a.length) { H with nm := byl _ (n + 4) 0 a.length } = _
    rw [g1, g2, g3]
    simp only [Nat.add_assoc]
  · by_cases h4 : k < 4
    · have h1 : bye (pre ++ (be4b a.length ++ a).take k) n 0 4 = 3 := by_cut (by rw [List.length_append, List.length_take, hp]; simp only; omega) (len_le hp)
      simp only [Ps.nm, h1, fls3, bye3]
    · have ht : (be4b a.length ++ a).take k = be4b a.length ++ a.take (k - 4) := by rw [List.take_append, List.take_of_length_le (by rw [be4b_len]; omega), be4b_len]
      rw [List.length_append, be4b_len] at hk
      rw [ht]
      obtain ⟨h1, h2, h3⟩ := by_ok (l := pre ++ (be4b a.length ++ a.take (k - 4))) (k := 4) (xs := be4b a.length) (rest := a.take (k - 4)) (drop_pre hp) rfl (len_le hp)
      have h5 : bye (pre ++ (be4b a.length ++ a.take (k - 4))) (n + 4) 0 a.length = 3 := by_cut (by simp only [List.length_append, be4b_len, List.length_take, hp]; omega) (by simp only [List.length_append, be4b_len, hp]; omega)
      simp only [Ps.nm, h1, h2, rdn, h3, be4_4 (show a.length < 4294967296 by omega), decide_eq_false (show ¬ 40 < a.length by omega)]
      exact h5
  · simp only [Ps.nm, ht, bye3, fls3]
theorem or_add' {a b k : Nat} (hb : b < 2 ^ k) : b ||| a * 2 ^ k = b + a * 2 ^ k := by rw [Nat.or_comm, or_add hb, Nat.add_comm]
theorem tkV_eq {acc b p : Nat} (ha : acc < 2 ^ p) (hp : p ≤ 28) : tkV acc b p = acc + b % 128 * 2 ^ p := by
  unfold tkV
  have h1 : 2 ^ p ≤ 2 ^ 28 := Nat.pow_le_pow_right (by omega) hp
  have h2 : b % 128 * 2 ^ p ≤ 127 * 2 ^ 28 := Nat.mul_le_mul (by omega) h1
  rw [Nat.mod_eq_of_lt (by omega)]
  exact or_add' ha
theorem tk_pv : ∀ k, k ≤ 4 → ∀ (v acc n : Nat) (rest : List Nat), v < 2 ^ (4 + 7 * k) → acc < 2 ^ (28 - 7 * k) → tk (pv k v ++ rest) (28 - 7 * k) acc n = (acc + v * 2 ^ (28 - 7 * k), n + (pv k v).length, 0)
  | 0, _, v, acc, n, rest, hv, ha => by
    have h1 : v < 16 := by simpa using hv
    have hb : v % 256 = v := by omega
    have hL : tkL v 28 = false := by
      unfold tkL
      rw [decide_eq_true (show v < 128 by omega), show v % 128 / 2 ^ (32 - 28) = 0 by omega]
      rfl
    show tk (v % 256 :: rest) 28 acc n = _
    rw [hb]
    unfold tk
    rw [hL, if_neg (by decide), if_pos (by omega), tkV_eq (by simpa using ha) (by omega), show v % 128 = v by omega]
    rfl
  | k + 1, hk, v, acc, n, rest, hv, ha => by
    have hp7 : 28 - 7 * (k + 1) + 7 = 28 - 7 * k := by omega
    have hL : ∀ b, tkL b (28 - 7 * (k + 1)) = false := fun b => by
      unfold tkL
      rw [decide_eq_false (by omega), Bool.false_and]
    unfold pv
    split
    · rename_i h
      have hb : (v % 128 + 128) % 128 = v % 128 := by omega
      have hacc : acc + v % 128 * 2 ^ (28 - 7 * (k + 1)) < 2 ^ (28 - 7 * k) := by
        rw [← hp7, Nat.pow_add]
        have : v % 128 ≤ 127 := by omega
        have := Nat.mul_le_mul_right (2 ^ (28 - 7 * (k + 1))) this
        omega
      have ih := tk_pv k (by omega) (v / 128) (acc + v % 128 * 2 ^ (28 - 7 * (k + 1))) (n + 1) rest (by
        rw [Nat.div_lt_iff_lt_mul (by omega)]
        have : 2 ^ (4 + 7 * (k + 1)) = 2 ^ (4 + 7 * k) * 128 := by rw [show 4 + 7 * (k + 1) = 4 + 7 * k + 7 by omega, Nat.pow_add]
        omega) hacc
      show tk ((v % 128 + 128) :: (pv k (v / 128) ++ rest)) _ acc n = _
      unfold tk
      rw [hL, if_neg (by decide), if_neg (by omega), tkV_eq ha (by omega), hb, hp7, ih]
      refine Prod.ext ?_ (Prod.ext ?_ rfl)
      · show acc + v % 128 * 2 ^ (28 - 7 * (k + 1)) + v / 128 * 2 ^ (28 - 7 * k) = acc + v * 2 ^ (28 - 7 * (k + 1))
        rw [← hp7, Nat.pow_add]
        generalize 2 ^ (28 - 7 * (k + 1)) = q
        have : v = 128 * (v / 128) + v % 128 := by omega
        have e2 : v * q = (128 * (v / 128) + v % 128) * q := by rw [← this]
        rw [e2, Nat.add_mul, show 2 ^ 7 = 128 from rfl, Nat.mul_assoc, Nat.mul_comm q 128, ← Nat.mul_assoc (v / 128), Nat.mul_comm (v / 128) 128, Nat.mul_assoc]
        omega
      · show n + 1 + _ = n + (_ + 1)
        omega
    · rename_i h
      have hb : v % 256 = v := by omega
      show tk (v % 256 :: rest) _ acc n = _
      rw [hb]
      unfold tk
      rw [hL, if_neg (by decide), if_pos (by omega), tkV_eq ha (by omega), show v % 128 = v by omega]
      rfl
theorem tk_cut : ∀ k, k ≤ 4 → ∀ (v acc n c : Nat), c < (pv k v).length → tk ((pv k v).take c) (28 - 7 * k) acc n = (0, 0, 3)
  | 0, _, v, acc, n, c, hc => by
    have : c = 0 := by simp [pv] at hc; omega
    subst this; rfl
  | k + 1, hk, v, acc, n, c, hc => by
    have hp7 : 28 - 7 * (k + 1) + 7 = 28 - 7 * k := by omega
    have hL : ∀ b, tkL b (28 - 7 * (k + 1)) = false := fun b => by
      unfold tkL
      rw [decide_eq_false (by omega), Bool.false_and]
    unfold pv at hc ⊢
    split at hc
    · rename_i h
      rw [if_pos h]
      cases c with
      | zero => rfl
      | succ c =>
        rw [List.take_succ_cons]
        unfold tk
        rw [hL, if_neg (by decide), if_neg (by omega), hp7]
        exact tk_cut k (by omega) _ _ _ _ (by simpa using hc)
    · rename_i h
      rw [if_neg h]
      have : c = 0 := by simp at hc; omega
      subst this; rfl
theorem sv_ok {l : List Nat} {n v : Nat} {rest : List Nat} (h : l.drop n = pv 4 v ++ rest) (hv : v < 4294967296) : sv l n 0 = (v, n + (pv 4 v).length, 0) := by
  have := tk_pv 4 (by omega) v 0 0 rest (by simpa using hv) (by decide)
  unfold sv
  rw [if_pos rfl, h]
  simp only [show 28 - 7 * 4 = 0 by omega] at this
  simp only [this]
  simp [fls]
theorem sv_cut {l : List Nat} {n v c : Nat} (h : l.drop n = (pv 4 v).take c) (hc : c < (pv 4 v).length) : (sv l n 0).2.2 = 3 := by
  have := tk_cut 4 (by omega) v 0 0 c hc
  unfold sv
  rw [if_pos rfl, h]
  simp only [show 28 - 7 * 4 = 0 by omega] at this
  simp only [this]
  simp [fls]
theorem sv_3 (l : List Nat) (n : Nat) : sv l n 3 = (0, n, 3) := rfl
theorem good_svq (H : Hd) (n : Nat) (z : Int) (hz : -2147483648 ≤ z ∧ z ≤ 2147483647) : Good Ps.svq ⟨n, 0, H⟩ (pv 4 (sqw z)) ⟨n + (pv 4 (sqw z)).length, 0, { H with sq := z }⟩ := by
  refine ⟨rfl, rfl, fun pre rest hp => ?_, fun pre k hp hk => ?_, fun l t ht => ?_⟩
  · simp only [Ps.svq, sv_ok (drop_pre (t := pv 4 (sqw z) ++ rest) hp) (sqw_lt z), i32_sqw hz]
  · simp only [Ps.svq, sv_cut (drop_pre (t := (pv 4 (sqw z)).take k) hp) hk]
  · simp only [Ps.svq, ht, sv_3]
theorem ver_k : ∀ c : Fin 5, 1 ≤ c.1 → ((c.1 * 32 + 1) % 256) &&& 31 = 1 ∧ (c.1 * 32 + 1) % 256 / 2 ^ 5 = c.1 ∧ mayB c.1 = true := by decide
theorem good_ver (H : Hd) (n c : Nat) (hc : 1 ≤ c ∧ c ≤ 4) : Good Ps.ver ⟨n, 0, H⟩ [(c * 32 + 1) % 256] ⟨n + 1, 0, { H with kd := c }⟩ := by
  obtain ⟨k1, k2, k3⟩ := ver_k ⟨c, by omega⟩ hc.1
  simp only at k1 k2 k3
  refine ⟨rfl, rfl, fun pre rest hp => ?_, fun pre k hp hk => ?_, fun l t ht => ?_⟩
  · obtain ⟨h1, h2, h3⟩ := by_ok (k := 1) (drop_pre (t := [(c * 32 + 1) % 256] ++ rest) hp) rfl (len_le hp)
    simp only [Ps.ver, h1, h2, rdb, h3, List.headD_cons, k1, k2, k3]
    rfl
  · have : bye (pre ++ [(c * 32 + 1) % 256].take k) n 0 1 = 3 := by_cut (by simp at hk; simp [hk, hp]) (len_le hp)
    simp only [Ps.ver, this, fls3]
  · simp only [Ps.ver, ht, bye3, fls3]
theorem good_svn (H : Hd) (n : Nat) (a : List Nat) (ha : a.length ≤ 40) : Good Ps.svn ⟨n, 0, H⟩ (pv 4 a.length ++ a) ⟨n + ((pv 4 a.length).length + a.length), 0, { H with nm := a }⟩ := by
  refine ⟨rfl, by rw [List.length_append], fun pre rest hp => ?_, fun pre k hp hk => ?_, fun l t ht => ?_⟩
  · have h1 := sv_ok (l := pre ++ (pv 4 a.length ++ a ++ rest)) (n := n) (v := a.length) (rest := a ++ rest) (by rw [drop_pre hp, List.append_assoc]) (by omega)
    obtain ⟨g1, g2, g3⟩ := by_ok (l := pre ++ (pv 4 a.length ++ a ++ rest)) (n := n + (pv 4 a.length).length) (k := a.length) (xs := a) (rest := rest) (by rw [← List.drop_drop, drop_pre hp, List.append_assoc, List.drop_left']; rfl) rfl (by simp only [List.length_append, hp]; omega)
    simp only [Ps.svn, h1, decide_eq_false (show ¬ 40 < a.length by omega)]
    show Ps.mk (byn _ _ 0 a.length) (bye _ _ 0 a.length) { H with nm := byl _ _ 0 a.length } = _
    rw [g1, g2, g3]
    simp only [Nat.add_assoc]
  · by_cases h4 : k < (pv 4 a.length).length
    · have h1 := sv_cut (l := pre ++ (pv 4 a.length ++ a).take k) (n := n) (v := a.length) (c := k) (by rw [drop_pre hp, List.take_append_of_le_length (by omega)]) h4
      simp only [Ps.svn, h1, fls3, bye3]
    · have ht : (pv 4 a.length ++ a).take k = pv 4 a.length ++ a.take (k - (pv 4 a.length).length) := by rw [List.take_append, List.take_of_length_le (by omega)]
      rw [List.length_append] at hk
      rw [ht]
      have h1 := sv_ok (l := pre ++ (pv 4 a.length ++ a.take (k - (pv 4 a.length).length))) (n := n) (v := a.length) (rest := a.take (k - (pv 4 a.length).length)) (drop_pre hp) (by omega)
      have h5 : bye (pre ++ (pv 4 a.length ++ a.take (k - (pv 4 a.length).length))) (n + (pv 4 a.length).length) 0 a.length = 3 := by_cut (by simp only [List.length_append, List.length_take, hp]; omega) (by simp only [List.length_append, hp]; omega)
      simp only [Ps.svn, h1, decide_eq_false (show ¬ 40 < a.length by omega)]
      exact h5
  · simp only [Ps.svn, ht, sv_3, fls3, bye3]
theorem good_on (H : Hd) (n : Nat) : Good (fun _ s => Ps.on s) ⟨n, 0, H⟩ [] ⟨n, 0, { H with old := true }⟩ := ⟨rfl, rfl, fun _ _ _ => rfl, fun _ _ _ h => absurd h (by simp), fun _ _ h => h⟩
theorem good_cmp (H : Hd) (hk : 1 ≤ H.kd ∧ H.kd ≤ 4) (ho : H.old = false) (ha : H.nm.length ≤ 40) (hz : -2147483648 ≤ H.sq ∧ H.sq ≤ 2147483647) : ∃ n, Good cmpP ps0 (putP 1 H) ⟨n, 0, H⟩ := by
  have h0 := (((good_is hd0 0 130).comp (good_ver hd0 1 H.kd hk)).comp (good_svq _ _ H.sq hz)).comp (good_svn _ _ H.nm ha)
  have h : Good cmpP ps0 _ _ := h0
  have e : putP 1 H = [130] ++ [(H.kd * 32 + 1) % 256] ++ pv 4 (sqw H.sq) ++ (pv 4 H.nm.length ++ H.nm) := by unfold putP; rw [if_neg (by omega)]; simp only [List.append_assoc, List.cons_append, List.nil_append]
  rw [e]
  obtain ⟨nm, kd, sq, old⟩ := H
  simp only at ho
  subst ho
  exact ⟨_, h⟩
def binN (l : List Nat) (s : Ps) : Ps := Ps.sq l (Ps.nm l (Ps.kd l (Ps.is l (Ps.is l (Ps.is l s 128) 1) 0)))
def binO (l : List Nat) (s : Ps) : Ps := Ps.sq l (Ps.kd l (Ps.nm l s.on))
theorem bin_new (l : List Nat) (h : olds l = false) (s : Ps) : binP l s = binN l s := by unfold binP binN; rw [h, if_neg (by decide)]
theorem bin_old (l : List Nat) (h : olds l = true) (s : Ps) : binP l s = binO l s := by unfold binP binO; rw [h, if_pos rfl]
theorem take_olds {a : Nat} {t : List Nat} {k : Nat} (hk : 0 < k) : olds ((a :: t).take k) = decide (a < 128) := by
  obtain ⟨k, rfl⟩ : ∃ m, k = m + 1 := ⟨k - 1, by omega⟩
  rfl
theorem zero_cut {l : List Nat} : (binP (l.take 0) ps0).e = 3 := by
  rw [List.take_zero]; rfl
/-- What is put is taken, whatever stands behind; cut off it is short. -/
theorem good_put (p : Nat) (hp : p = 0 ∨ p = 1) (H : Hd) (hk : 1 ≤ H.kd ∧ H.kd ≤ 4) (ho : p = 1 → H.old = false) (ha : H.nm.length ≤ 40) (hz : -2147483648 ≤ H.sq ∧ H.sq ≤ 2147483647) :
    (∀ rest, tkP p (putP p H ++ rest) = ⟨(putP p H).length, 0, H⟩) ∧ ∀ k, k < (putP p H).length → (tkP p ((putP p H).take k)).e = 3 := by
  rcases hp with rfl | rfl
  · by_cases hold : H.old = true
    · have h0 := (((good_on hd0 0).comp (good_nm _ 0 H.nm ha)).comp (good_kd _ _ H.kd hk)).comp (good_sq _ _ H.sq hz)
      have h : Good binO ps0 _ _ := h0
      have e : putP 0 H = [] ++ (be4b H.nm.length ++ H.nm) ++ [H.kd] ++ be4b (sqw H.sq) := by unfold putP; rw [if_pos rfl, if_pos hold, Nat.mod_eq_of_lt (by omega)]; simp only [List.append_assoc, List.cons_append, List.nil_append]
      have eH : (⟨H.nm, H.kd, H.sq, true⟩ : Hd) = H := by rw [← hold]
      have hd : putP 0 H = (H.nm.length / 2 ^ 8 / 2 ^ 8 / 2 ^ 8 % 256) :: (putP 0 H).tail := by rw [e]; rfl
      have hlt : H.nm.length / 2 ^ 8 / 2 ^ 8 / 2 ^ 8 % 256 < 128 := by omega
      rw [← e] at h
      refine ⟨fun rest => ?_, fun k hkl => ?_⟩
      · have h1 := h.full [] rest rfl
        have h2 := h.n
        rw [List.nil_append] at h1
        unfold tkP
        rw [if_pos rfl, bin_old _ (by rw [hd]; exact decide_eq_true hlt)]
        refine h1.trans ?_
        have h3 : 0 + (4 + H.nm.length) + 1 + 4 = (putP 0 H).length := by simpa [ps0] using h2
        rw [← h3]
        exact congrArg (Ps.mk _ _) eH
      · unfold tkP
        rw [if_pos rfl]
        by_cases h0 : k = 0
        · subst h0
          exact zero_cut
        · have h1 := h.cut [] k rfl hkl
          rw [List.nil_append] at h1
          rw [bin_old _ (by rw [hd, take_olds (by omega)]; exact decide_eq_true hlt)]
          exact h1
    · have h0 := (((((good_is hd0 0 128).comp (good_is hd0 1 1)).comp (good_is hd0 2 0)).comp (good_kd hd0 3 H.kd hk)).comp (good_nm _ 4 H.nm ha)).comp (good_sq _ _ H.sq hz)
      have h : Good binN ps0 _ _ := h0
      have e : putP 0 H = [128] ++ [1] ++ [0] ++ [H.kd] ++ (be4b H.nm.length ++ H.nm) ++ be4b (sqw H.sq) := by unfold putP; rw [if_pos rfl, if_neg hold, Nat.mod_eq_of_lt (by omega)]; simp only [List.append_assoc, List.cons_append, List.nil_append]
      have eH : (⟨H.nm, H.kd, H.sq, false⟩ : Hd) = H := by rw [← (Bool.not_eq_true _).mp hold]
      have hd : putP 0 H = 128 :: (putP 0 H).tail := by rw [e]; rfl
      rw [← e] at h
      refine ⟨fun rest => ?_, fun k hkl => ?_⟩
      · have h1 := h.full [] rest rfl
        have h2 := h.n
        rw [List.nil_append] at h1
        unfold tkP
        rw [if_pos rfl, bin_new _ (by rw [hd]; rfl)]
        refine h1.trans ?_
        have h3 : 4 + (4 + H.nm.length) + 4 = (putP 0 H).length := by simpa [ps0] using h2
        rw [← h3]
        exact congrArg (Ps.mk _ _) eH
      · unfold tkP
        rw [if_pos rfl]
        by_cases h0 : k = 0
        · subst h0
          exact zero_cut
        · have h1 := h.cut [] k rfl hkl
          rw [List.nil_append] at h1
          rw [bin_new _ (by rw [hd, take_olds (by omega)]; rfl)]
          exact h1
  · obtain ⟨n, h⟩ := good_cmp H hk (ho rfl) ha hz
    refine ⟨fun rest => ?_, fun k hkl => ?_⟩
    · have h1 := h.full [] rest rfl
      have h2 := h.n
      rw [List.nil_append] at h1
      unfold tkP
      rw [if_neg (by omega), h1]
      have : n = (putP 1 H).length := by simpa [ps0] using h2
      rw [this]
    · have h1 := h.cut [] k rfl hkl
      rw [List.nil_append] at h1
      unfold tkP
      rw [if_neg (by omega)]
      exact h1
end Go.Proofs.Ytgejdfhfgphcbaa.Ev
/- Msg: begun, Place, MsgBack. -/
namespace Go.Proofs.Ytgejdfhfgphcbaa.Ev
open Go Go.RowKit
set_option linter.unusedVariables false
set_option linter.constructorNameAsVariable false
set_option linter.unusedSimpArgs false
set_option linter.unusedSectionVars false

theorem uRem_z (z : Int) (k : Nat) (hk : 0 < k) (hk2 : k ≤ 1000000) (F : FAW) (f : KU) : uQuo false .rem (numV .i64 z) (.n k) F f = f (numV .i64 (z.tmod k)) F := by
  cases z with
  | ofNat m =>
    have e : uQuo false .rem (numV .i64 (.ofNat m)) (.n k) F f = cn (Nat.beq k 0) .no (uNum (Nat.mod m k) F f) := rfl
    rw [e, beqU, decide_eq_false (by omega), cn_false, uNum_le _ _ (by have := Nat.mod_lt m hk; show m % k ≤ _; omega)]
    rfl
  | negSucc m =>
    have e : uQuo false .rem (numV .i64 (.negSucc m)) (.n k) F f = uSlow .rem (.i .i64 (.negSucc m)) (.n k) F f := rfl
    have h : binV .rem (toV (.i .i64 (.negSucc m))) (toV (.n k)) = some (.int .i64 ((Int.negSucc m).tmod k)) := by
      have hb' : ¬ (Int.ofNat k = 0) := by simp; omega
      simp only [toV, binV, iop, if_true, if_neg hb']
      rfl
    rw [e, uSlow_n h]; rfl
theorem tmod_in (z : Int) (k : Nat) (hk : 0 < k) : -(k : Int) < z.tmod k ∧ z.tmod k < k := by
  refine ⟨?_, Int.tmod_lt_of_pos _ (by omega)⟩
  have := Int.lt_tmod_of_pos z (show (0 : Int) < k by omega)
  omega
theorem uAdd_z (y : Int) (k : Nat) (hk : k ≤ 1000000) (h1 : -(k : Int) < y) (h2 : y < k) (F : FAW) (f : KU) : uAdd (numV .i64 y) (.n k) F f = f (.n (y + k).toNat) F := by
  cases y with
  | ofNat m =>
    have h2 : (m : Int) < k := h2
    have e : uAdd (numV .i64 (.ofNat m)) (.n k) F f = uAdd (.n m) (.n k) F f := rfl
    rw [e, uAdd_nn _ _ (by omega)]
    congr 2
  | negSucc m =>
    have e : uAdd (numV .i64 (.negSucc m)) (.n k) F f = uSlow .add (.i .i64 (.negSucc m)) (.n k) F f := rfl
    obtain ⟨q, hq⟩ : ∃ q : Nat, Int.negSucc m + (k : Int) = q := ⟨(Int.negSucc m + (k : Int)).toNat, by omega⟩
    have h : binV .add (toV (.i .i64 (.negSucc m))) (toV (.n k)) = some (.int .i64 (.ofNat q)) := by
      simp only [toV, binV, iop, if_true]
      rw [show Int.negSucc m + Int.ofNat k = ((q : Nat) : Int) from hq, wrap_n (by omega)]
      rfl
    rw [e, uSlow_n h, hq]; rfl
theorem uRem_nn (a k : Nat) (hk : 0 < k) (ha : a ≤ 9223372036854775807) (F : FAW) (f : KU) : uQuo false .rem (.n a) (.n k) F f = f (.n (a % k)) F := by
  have e : uQuo false .rem (.n a) (.n k) F f = cn (Nat.beq k 0) .no (uNum (Nat.mod a k) F f) := rfl
  rw [e, beqU, decide_eq_false (by omega), cn_false]
  exact uNum_le _ _ (Nat.le_trans (Nat.mod_le a k) ha)
theorem t19 (N : Nat) (hN : 1 ≤ N) (z : Int) (k : Nat) (hk : 0 < k) (hk2 : k ≤ 1000000) (F : FAW) : ∃ r, r < k ∧ clU msgD N 19 [numV .i64 z, .n k] F = .ok (.n r) F := by
  obtain ⟨m, rfl⟩ : ∃ m, N = m + 1 := ⟨N - 1, by omega⟩
  obtain ⟨h1, h2⟩ := tmod_in z k hk
  refine ⟨(z.tmod k + k).toNat % k, Nat.mod_lt _ hk, ?_⟩
  rw [cl19, u19_in]
  simp -implicitDefEqProofs only [↓u19b, ↓seqU_eq, ↓condU_eq, ↓skipU_eq, ↓retU_eq, ↓u19_0, ↓u19_1, ↓u19_2, ↓u19_4, ↓m4_mk, ↓k4_mk, ↓exU_n, ↓exU_r, ↓uLeq_nn, decide_eq_false (show ¬ k ≤ 0 by omega), ↓eT_t, ↓cn_false, ↓uRem_z z k hk hk2, ↓uAdd_z _ k hk2 h1 h2, ↓uRem_nn _ k hk (show (z.tmod k + k).toNat ≤ 9223372036854775807 by omega), ↓u19r_mk]
theorem eqA_hd (H : Hd) (hk : H.kd ≤ 4) (hs : H.nm.length ≤ 40) (hz : -2147483648 ≤ H.sq ∧ H.sq ≤ 2147483647) (F : FAW) (f : KU) : uEqA false [.str, .int .i64, .int .i32, .bl] (.a H.c) (.a H.c) F f = f (.t true) F := by
  have h : wEqA false [.str, .int .i64, .int .i32, .bl] (toV (.a H.c)) (toV (.a H.c)) = some (.bool true) := by
    have hf : fitsLs [.str, .int .i64, .int .i32, .bl] (toVs H.c) = true := by
      simp only [Hd.c, toVs, toV, fitsLs, fitsL, decide_true, Bool.and_self, Bool.true_and, Bool.and_true, Bool.and_eq_true, decide_eq_true_eq]
      refine ⟨?_, ?_, ?_⟩
      · show (H.nm.map UInt8.ofNat).toArray.size ≤ maxLen
        simp only [List.size_toArray, List.length_map]
        exact Nat.le_trans hs (by decide)
      · simp [Lit.wf, IntKind.min, IntKind.max, IntKind.bits, IntKind.signed]; omega
      · simp [Lit.wf, IntKind.min, IntKind.max, IntKind.bits, IntKind.signed]; omega
    have hc : ceqs (toVs H.c) (toVs H.c) = some true := by
      simp only [Hd.c, toVs, toV, ceqs, ceq]
      simp
    have e : eqaV [.str, .int .i64, .int .i32, .bl] (toV (.a H.c)) (toV (.a H.c)) = some true := by
      simp only [toV, eqaV]
      simp only [hf, Bool.and_self, if_true, hc]
    unfold wEqA
    rw [e]; rfl
  unfold uEqA
  rw [h]; rfl
theorem wf_of {F F' : FAW} (h : Wf F) : Wf F := h
/-- A head that is handed back lies in a row of its own. -/
theorem st_hd (F : FAW) (hw : Wf F) (H : Hd) : ∃ F', (∀ f : KU, (uNewF 23 4 [(.s []), (.n 0), (.i .i32 0), (.t false)] F fun v6 S => uSt 4 v6 (.a H.c) S fun v7 S => f v6 S) = f (.p F.x 0) F') ∧ HRow F' F.x H ∧ F'.x = F.x + 1 ∧ Std F F' (fun _ => False) (fun _ => False) ∧ Wf F' := by
  have r1 : (F.new hd0.c 23 4).row F.x = some (hd0.c, 23, 4, F.x, false) := by rw [row_new, if_pos rfl]
  have f1 : (F.new hd0.c 23 4).fam F.x = some (false, 4) := by rw [fam_new, if_pos rfl]; rfl
  refine ⟨(F.new hd0.c 23 4).put F.x H.c, fun f => ?_, ?_, rfl, ?_, (hw.new _ _ _).put _ _⟩
  · rw [new_hd]
    have := fun f : KU => uSt_agg (vs := H.c) f r1 f1 (Nat.le_refl 4) rfl hd0.fi H.fi
    exact this _
  · show ((F.new hd0.c 23 4).put F.x H.c).row F.x = _
    rw [row_put, if_pos rfl, r1]; rfl
  · exact (Std.new hw _ _ _ _ _).fresh hw ((Oth.put _ _ _).std (fun _ => False)) (fun j hj h => by omega) (fun _ _ h => h)
def hdA : Hd := ⟨[97], 1, 1, false⟩
def hdB : Hd := ⟨[98], 2, -1, false⟩
theorem put_len (p : Nat) (H : Hd) (h : H.nm.length ≤ 40) : (putP p H).length ≤ 60 ∧ 0 < (putP p H).length := by
  have h1 := pv_len 4 (sqw H.sq)
  have h2 := pv_len 4 H.nm.length
  unfold putP
  split
  · split <;> simp [be4b_len] <;> omega
  · simp; omega
theorem put_bs (p : Nat) (H : Hd) (hs : Bs H.nm) : Bs (putP p H) := by
  have hb : ∀ c, Bs (be4b c) := fun c x hx => by simp [be4b] at hx; omega
  have hp : ∀ k v, Bs (pv k v) := by
    intro k
    induction k with
    | zero => intro v x hx; simp [pv] at hx; omega
    | succ k ih =>
      intro v x hx
      unfold pv at hx
      split at hx
      · rcases List.mem_cons.mp hx with rfl | hx
        · omega
        · exact ih _ x hx
      · simp at hx; omega
  unfold putP
  split
  · split
    · exact (((hb _).append hs).append (fun x hx => by simp at hx; omega)).append (hb _)
    · exact (((show Bs [128, 1, 0, H.kd % 256] from fun x hx => by simp at hx; omega).append (hb _)).append hs).append (hb _)
  · exact (((show Bs [130, (H.kd * 32 + 1) % 256] from fun x hx => by simp at hx; omega).append (hp _ _)).append (hp _ _)).append hs
theorem bsA : Bs hdA.nm := fun x hx => by simp [hdA] at hx; omega
theorem bsB : Bs hdB.nm := fun x hx => by simp [hdB] at hx; omega
theorem bs_s {l : List Nat} (h : ∀ x ∈ l, x < 256) : Bs l := h
theorem t14 (N : Nat) (hN : 100 ≤ N) {F : FAW} (hw : Wf F) : ∃ F', clU msgD N 14 [] F = .ok (.t true) F' ∧ Std F F' (fun _ => False) (fun _ => False) ∧ Wf F' := by
  obtain ⟨m, rfl⟩ : ∃ m, N = m + 1 := ⟨N - 1, by omega⟩
  obtain ⟨v1, F1, m1, e1, b1, n1, x1, s1, w1⟩ := t18 m (by omega) 1 (.inr rfl) hdA (by decide) bsA (by decide) hw
  obtain ⟨v2, F2, m2, e2, b2, n2, x2, s2, w2⟩ := t18 m (by omega) 0 (.inl rfl) hdB (by decide) bsB (by decide) w1
  have hT : tkP 0 (putP 0 hdB) = ⟨13, 0, hdB⟩ := by
    have h := (good_put 0 (.inl rfl) hdB (by decide) (fun h => by cases h) (by decide) (by decide)).1 []
    rw [List.append_nil] at h
    exact h
  obtain ⟨k, rfl⟩ : ∃ k, m = k + 1 := ⟨m - 1, by omega⟩
  obtain ⟨F3, e3, s3, w3⟩ := s16 k 0 (.inl rfl) (l := putP 0 hdB) (by have := (put_len 0 hdB (by decide)).1; omega) b2.by w2 (put_bs _ _ bsB) (by have := (put_len 0 hdB (by decide)).1; omega)
  rw [hT] at e3
  simp only [if_true] at e3
  obtain ⟨F4, e4, r4, x4, s4, w4⟩ := st_hd F3 w3 hdB
  have b1' := (((b1.std s2 (fun _ _ _ _ h => h) (fun _ h => h)).std s3 (fun _ _ _ _ h => h) (fun _ h => h)).std s4 (fun _ _ _ _ h => h) (fun _ h => h)).by
  have hp : putP 1 hdA = [130, 33, 1, 1, 97] := by decide
  rw [hp] at b1'
  refine ⟨F4, ?_, ((s1.trans s2).trans s3).trans s4, w4⟩
  have bA : ∀ (F : FAW) (f : KU), uBuildF [(.s []), (.n 0), (.i .i32 0), (.t false)] [(0, 1, (.s [97])), (1, 1, (.n 1)), (2, 1, (.i .i32 1))] F f = f (.a hdA.c) F := fun F f => rfl
  have bB : ∀ (F : FAW) (f : KU), uBuildF [(.s []), (.n 0), (.i .i32 0), (.t false)] [(0, 1, (.s [98])), (1, 1, (.n 2)), (2, 1, (.i .i32 (-1)))] F f = f (.a hdB.c) F := fun F f => rfl
  have q1 : ∀ (F : FAW) (f : KU), uEq false .eql (.s [130, 33, 1, 1, 97]) (.s [130, 33, 1, 1, 97]) F f = f (.t true) F := fun F f => rfl
  have q2 : ∀ (F : FAW) (f : KU), uEq false .eql (.s hdB.nm) (.s [98]) F f = f (.t true) F := fun F f => rfl
  have q3 : ∀ (F : FAW) (f : KU), uEq false .eql (.i .i32 hdB.sq) (.i .i32 (-1)) F f = f (.t true) F := fun F f => rfl
  rw [cl14, u14_in]
  generalize clU msgD (k + 1) = C at *
  simp -implicitDefEqProofs only [↓u14b, ↓seqU_eq, ↓retU_eq, ↓u14_0, ↓u14_1, ↓u14_2, ↓u14_3, ↓m5_mk, ↓exU_n, ↓exU_r, ↓bA, ↓bB, ↓uCall_eq, ↓e1, ↓e2, ↓e3, ↓goOn_ok, ↓uExt_0, ↓uExt_1, ↓uExt_2, ↓e4, ↓b1'.str, ↓q1, ↓eT_t, ↓cn_true, ↓uEq_nn, xo_f, decide_true, ↓uFad_p, Nat.zero_add, ↓r4.l0, ↓q2, ↓r4.l2, ↓q3, ↓u14r_mk]
end Go.Proofs.Ytgejdfhfgphcbaa.Ev
/- The document's Put: a number's low bytes behind bytes. -/
namespace Go.Proofs.Ytgejdfhfgphcbaa.Ev
open Go Go.RowKit
set_option linter.unusedVariables false
set_option linter.constructorNameAsVariable false
set_option linter.unusedSimpArgs false
set_option linter.unusedSectionVars false

/-- The n lowest bytes, the greatest first. -/
def beN : Nat → Nat → List Nat
  | 0, _ => []
  | n + 1, c => beN n (c / 256) ++ [c % 256]
theorem beN_len : ∀ n c, (beN n c).length = n
  | 0, _ => rfl
  | n + 1, c => by rw [beN, List.length_append, beN_len n]; rfl
theorem beN_bs : ∀ n c, Bs (beN n c)
  | 0, _ => Bs.nil
  | n + 1, c => (beN_bs n _).append (fun x hx => by simp at hx; omega)
/-- One less than a number, as an index. -/
def ixv (m : Nat) : FV := if m = 0 then .i .i64 (-1) else .n (m - 1)
theorem uSub_ix (F : FAW) (f : KU) (m : Nat) (h : m ≤ 9223372036854775807) : uSub (.n m) (.n 1) F f = f (ixv m) F := by
  unfold ixv
  by_cases h0 : m = 0
  · subst h0; rfl
  · rw [if_neg h0, uSub_nn _ _ (by omega) h]
theorem uGeq_ix (F : FAW) (f : KU) (m a : Nat) (h : m ≤ a) : uCmp (fun a b => Nat.ble b a) .geq (ixv m) (.n a) F f = f (.t false) F := by
  unfold ixv
  by_cases h0 : m = 0
  · rw [if_pos h0]
    have e : uCmp (fun a b => Nat.ble b a) .geq (.i .i64 (-1)) (.n a) F f = uSlow .geq (.i .i64 (-1)) (.n a) F f := rfl
    have h : binV .geq (toV (.i .i64 (-1))) (toV (.n a)) = some (.bool false) := by
      simp only [toV, binV, iop, if_true]
      rw [decide_eq_false (by simp; omega)]
    rw [e, uSlow_n h]; rfl
  · rw [if_neg h0, uGeq_nn, decide_eq_false (by omega)]
theorem uRem_w (q : Bool) (a b : Nat) (hb : b ≠ 0) (F : FAW) (f : KU) : uQuo q .rem (w64 a) (w64 b) F f = f (w64 (a % b)) F := by
  have e : uQuo q .rem (w64 a) (w64 b) F f = uSlow .rem (w64 a) (w64 b) F f := rfl
  have h : binV .rem (toV (w64 a)) (toV (w64 b)) = some (.int .u64 (Int.ofNat (a % b))) := by
    have hb' : ¬ (Int.ofNat b = 0) := by simpa using hb
    simp only [w64, toV, binV, iop, if_true, if_neg hb']
    rfl
  rw [e, uSlow_n h]; rfl
theorem uDiv_w (q : Bool) (a b : Nat) (ha : a < 18446744073709551616) (hb : b ≠ 0) (F : FAW) (f : KU) : uQuo q .quo (w64 a) (w64 b) F f = f (w64 (a / b)) F := by
  have e : uQuo q .quo (w64 a) (w64 b) F f = uSlow .quo (w64 a) (w64 b) F f := rfl
  have h : binV .quo (toV (w64 a)) (toV (w64 b)) = some (.int .u64 (Int.ofNat (a / b))) := by
    have hb' : ¬ (Int.ofNat b = 0) := by simpa using hb
    have e2 : (Int.ofNat a).tdiv (Int.ofNat b) = ((a / b : Nat) : Int) := rfl
    simp only [w64, toV, binV, iop, if_true, if_neg hb', e2]
    rw [wrap_u64 (Nat.lt_of_le_of_lt (Nat.div_le_self a b) ha)]
    rfl
  rw [e, uSlow_n h]; rfl
theorem w_256 : FV.i .u64 256 = w64 256 := rfl
theorem w_128 : FV.i .u64 128 = w64 128 := rfl
theorem set_mid (pre done : List FV) (k : Nat) (z w : FV) : (pre ++ List.replicate (k + 1) z ++ done).set (pre.length + k) w = pre ++ List.replicate k z ++ (w :: done) := by
  rw [List.append_assoc, List.set_append_right _ _ (by omega), show pre.length + k - pre.length = k by omega, List.replicate_succ', List.append_assoc, List.set_append_right _ _ (by simp)]
  simp
theorem l53 (C : CU) (N : Nat) {pre : List Nat} (hp : pre.length ≤ 1000000) : ∀ (k : Nat), k ≤ 8 → ∀ (c : Nat), c < 18446744073709551616 → ∀ {F : FAW} {v : FV} {m : Nat} {dn : List Nat} (h : BB F v (pre ++ List.replicate k 0 ++ dn) m) (hw : Wf F) (M : Nat), k < M → ∀ (a d e i j : FV),
    ∃ F' c' ix j', (∀ κ : EX → W9 → FAW → RU, loopNU (u53_13 C N) κ M (.mk a (w64 c) d e v (.n pre.length) (ixv (pre.length + k)) i j) F = κ (.exit 0) (.mk a (w64 c') d e v (.n pre.length) ix i j') F') ∧ BB F' v (pre ++ beN k c ++ dn) m ∧ F'.x = F.x ∧ Wf F' ∧ ∀ F0, Wf F0 → F0.x ≤ m → Std F0 F (fun _ => False) (fun _ => False) → Std F0 F' (fun _ => False) (fun _ => False) := by
  intro k
  induction k with
  | zero =>
    intro hk c hc F v m dn h hw M hM a d e i j
    obtain ⟨M, rfl⟩ : ∃ M', M = M' + 1 := ⟨M - 1, by omega⟩
    refine ⟨F, c, ixv pre.length, .t false, fun κ => ?_, by simpa [beN] using h, rfl, hw, fun F0 _ _ h => h⟩
    rw [loopNU_succ]
    generalize loopNU (u53_13 C N) κ M = rec
    simp -implicitDefEqProofs only [↓u53_13, ↓seqU_eq, ↓condU_eq, ↓exitU_eq, ↓u53_8, ↓u53_9, ↓m9_mk, ↓k9_mk, ↓exU_n, ↓exU_e, Nat.add_zero, ↓uGeq_ix _ _ _ _ (Nat.le_refl _), ↓eT_t, ↓cn_false]
  | succ k ih =>
    intro hk c hc F v m dn h hw M hM a d e i j
    obtain ⟨M, rfl⟩ : ∃ M', M = M' + 1 := ⟨M - 1, by omega⟩
    obtain ⟨F1, e1, h1, x1, s1, w1⟩ := st_e hw h fi_b (k := pre.length + k) (by simp; omega) (Fi.b (c % 256 % 256))
    have hl : (List.map FV.b (pre ++ List.replicate (k + 1) 0 ++ dn)).set (pre.length + k) (.b (c % 256 % 256)) = List.map FV.b (pre ++ List.replicate k 0 ++ (c % 256 :: dn)) := by
      have := set_mid (pre.map FV.b) (dn.map FV.b) k (.b 0) (.b (c % 256 % 256))
      rw [List.length_map] at this
      simp only [List.map_append, List.map_replicate, List.map_cons]
      rw [this, Nat.mod_mod]
    rw [hl] at h1
    have hlen : (pre ++ List.replicate (k + 1) 0 ++ dn).length = (pre ++ List.replicate k 0 ++ (c % 256 :: dn)).length := by simp; omega
    rw [hlen] at h1
    obtain ⟨F2, c2, ix2, j2, k1, k2, k3, k4, k5⟩ := ih (by omega) (c / 256) (by omega) h1 w1 M (by omega) a d e i (.t true)
    refine ⟨F2, c2, ix2, j2, fun κ => ?_, ?_, by rw [k3, x1], k4, fun F0 hw0 hm hs => k5 F0 hw0 hm (hs.newfam hw0 s1 hm)⟩
    · have k1 := k1 κ
      rw [loopNU_succ]
      generalize loopNU (u53_13 C N) κ M = rec at k1 ⊢
      have hix : ixv (pre.length + (k + 1)) = .n (pre.length + k) := by unfold ixv; rw [if_neg (by omega)]; rfl
      simp -implicitDefEqProofs only [↓u53_13, ↓seqU_eq, ↓condU_eq, ↓skipU_eq, ↓blockU_eq, ↓u53_8, ↓u53_9, ↓u53_10, ↓u53_11, ↓u53_12, ↓m9_mk, ↓k9_mk, ↓exU_n, hix, ↓uGeq_nn, decide_eq_true (show pre.length ≤ pre.length + k by omega), ↓eT_t, ↓cn_true, w_256, ↓uRem_w _ c 256 (by decide), ↓uCv_bw, ↓e1, ↓uDiv_w _ c 256 hc (by decide), ↓uSub_ix _ _ (pre.length + k) (show pre.length + k ≤ 9223372036854775807 by omega)]
      exact k1
    · rw [beN]
      have : pre ++ beN k (c / 256) ++ (c % 256 :: dn) = pre ++ (beN k (c / 256) ++ [c % 256]) ++ dn := by simp
      rw [← this]; exact k2
/-- assayerref1.Put. -/
theorem t53 (N : Nat) (hN : 11 ≤ N) {F : FAW} {a : FV} {xs : List Nat} (ha : By F a xs) (hw : Wf F) (hL : xs.length ≤ 1000000) (c : Nat) (hc : c < 18446744073709551616) (n : Nat) (hn : n ≤ 8) :
    ∃ v F' m, clU msgD N 53 [a, w64 c, .n n] F = .ok v F' ∧ BB F' v (xs ++ beN n c) m ∧ v ≠ .nl ∧ F.x ≤ m ∧ Std F F' (fun _ => False) (fun _ => False) ∧ Wf F' := by
  obtain ⟨m, rfl⟩ : ∃ m, N = m + 1 := ⟨N - 1, by omega⟩
  have l0 := SlE.lit0 F 5 1
  have st0 := Std.new hw [] 5 1 (fun _ => False) (fun _ => False)
  have w0 := hw.new [] 5 1
  have el := fun f : KU => uLit0 5 1 [(.b 0)] F f
  have hx : (F.new [] 5 1).x = F.x + 1 := rfl
  have ha0 := ha.std st0 (fun _ _ _ _ _ _ h => h)
  generalize F.new [] 5 1 = F1 at *
  obtain ⟨v2, F2, m2, e2, b2, s2, w2, n2, ne2⟩ := app_bn (l := []) w0 l0 (fun g => ha0.src g) (by simp; omega)
  rw [List.nil_append] at b2
  have st2 := st0.fresh hw s2 (fun _ _ h => h) (fun j hj h => by omega)
  have hne2 := ne2 (by simp)
  have hm2 : F.x ≤ m2 := by
    rcases n2 hne2 with ⟨h, _⟩ | h <;> omega
  obtain ⟨v3, F3, m3, e3, b3, s3, w3, n3, ne3⟩ := appz_bb w2 b2 n (by omega)
  have hne3 := ne3 hne2
  have hm3 : F.x ≤ m3 := by
    have := st2.x
    rcases n3 hne3 with ⟨h, _⟩ | h <;> omega
  have st3 := st2.fresh hw s3 (fun _ _ h => h) (fun j hj h => by omega)
  obtain ⟨F4, c4, ix4, j4, k1, k2, k3, k4, k5⟩ := l53 (clU msgD m) m hL n hn c hc (dn := []) (by rw [List.append_nil]; exact b3) w3 m (by omega) a (.n n) .nl (.t false) (.u [])
  rw [List.append_nil] at k2
  have st4 := k5 F hw hm3 st3
  refine ⟨v3, F4, m3, ?_, k2, hne3, hm3, st4, k4⟩
  rw [cl53, u53_in]
  generalize clU msgD m = C at *
  have hlen : ∀ f : KU, uLen false v3 F3 f = f (.n (xs.length + n)) F3 := fun f => by rw [b3.len]; simp
  simp -implicitDefEqProofs only [↓u53b, ↓seqU_eq, ↓condU_eq, ↓skipU_eq, ↓retU_eq, ↓blockU_eq, ↓loopU_eq, ↓u53_0, ↓u53_1, ↓u53_2, ↓u53_3, ↓u53_5, ↓u53_6, ↓u53_7, ↓u53_14, ↓m9_mk, ↓k9_mk, ↓exU_n, ↓exU_e, ↓exU_r, ↓el, ↓e2, ↓uLss_nn, decide_eq_false (show ¬ n < 0 by omega), ↓eT_t, ↓cn_false, ↓uGtr_nn, decide_eq_false (show ¬ 8 < n by omega), ↓b2.len, ↓e3, ↓hlen, ↓uSub_ix _ _ (xs.length + n) (show xs.length + n ≤ 9223372036854775807 by omega), ↓k1, show Nat.beq 0 0 = true from rfl, ↓cn_true, ↓u53r_mk]
end Go.Proofs.Ytgejdfhfgphcbaa.Ev
/- The document's PutText, PutVar, PutHead. -/
namespace Go.Proofs.Ytgejdfhfgphcbaa.Ev
open Go Go.RowKit
set_option linter.unusedVariables false
set_option linter.constructorNameAsVariable false
set_option linter.unusedSimpArgs false
set_option linter.unusedSectionVars false

theorem t52 (N : Nat) (hN : 12 ≤ N) {F : FAW} {a : FV} {xs s : List Nat} (ha : By F a xs) (hs : Bs s) (hw : Wf F) (hL : xs.length ≤ 1000000) (hS : s.length ≤ 1000000) :
    ∃ v F' m, clU msgD N 52 [a, .s s] F = .ok v F' ∧ BB F' v (xs ++ beN 4 s.length ++ s) m ∧ v ≠ .nl ∧ F.x ≤ m ∧ Std F F' (fun _ => False) (fun _ => False) ∧ Wf F' := by
  obtain ⟨m, rfl⟩ : ∃ m, N = m + 1 := ⟨N - 1, by omega⟩
  obtain ⟨v1, F1, m1, e1, h1, n1, x1, s1, w1⟩ := t53 m (by omega) ha hw hL s.length (by omega) 4 (by omega)
  obtain ⟨v2, F2, m2, e2, h2, s2, w2, n2, ne2⟩ := app_bn w1 h1 (fun g => src_s hs F1 g) (by rw [List.length_append, beN_len]; omega)
  have hne := ne2 n1
  refine ⟨v2, F2, m2, ?_, h2, hne, ?_, s1.fresh hw s2 (fun _ _ h => h) (fun j hj h => by omega), w2⟩
  · rw [cl52, u52_in]
    simp -implicitDefEqProofs only [↓u52b, ↓seqU_eq, ↓retU_eq, ↓u52_0, ↓u52_1, ↓m3_mk, ↓exU_n, ↓exU_r, ↓uLen_s, ↓uCv_un _ _ _ (show s.length < 18446744073709551616 by omega), ↓uCall_eq, ↓e1, ↓goOn_ok, ↓e2, ↓u52r_mk]
  · rcases n2 hne with ⟨h, _⟩ | h
    · omega
    · exact Nat.le_trans s1.x h
theorem uAdd_b128 (x : Nat) (h : x < 128) (F : FAW) (f : KU) : uAdd (.b x) (.b 128) F f = f (.b (x + 128)) F := by
  have e : uAdd (.b x) (.b 128) F f = uSlow .add (.b x) (.b 128) F f := rfl
  have h : binV .add (toV (.b x)) (toV (.b 128)) = some (.int .u8 (Int.ofNat (x + 128))) := by
    simp only [toV, binV, iop, if_true]
    rw [show Int.ofNat x + Int.ofNat 128 = ((x + 128 : Nat) : Int) from rfl, wrap_u8 (by omega)]
    rfl
  rw [e, uSlow_n h]; rfl
theorem l54 (C : CU) (n : Nat) : ∀ (k c : Nat), c < 18446744073709551616 → c < 128 ^ (k + 1) → ∀ (M : Nat), k + 2 ≤ M → ∀ {F : FAW} {v : FV} {l : List Nat} {m : Nat} (h : BB F v l m) (hw : Wf F) (hl : l.length ≤ 2000000 - k * 10) (hk : k ≤ 20) (B : Nat) (hB : B ≤ F.x) (hm : v ≠ .nl → B ≤ m) (a e f : FV),
    ∃ v' m' F' c' e' f', (∀ κ : EX → W5 → FAW → RU, loopNU (u54_6 C n) κ M (.mk a (w64 c) e v f) F = κ (.exit 0) (.mk a (w64 c') e' v' f') F') ∧ c' ≤ 127 ∧ (∃ q, pv k c = q ++ [c' % 256] ∧ BB F' v' (l ++ q) m') ∧ Wf F' ∧ (v' ≠ .nl → B ≤ m') ∧ B ≤ F'.x ∧ ∀ F0 : FAW, F0.x = B → Wf F0 → Std F0 F (fun _ => False) (fun _ => False) → Std F0 F' (fun _ => False) (fun _ => False) := by
  intro k
  induction k with
  | zero =>
    intro c hc0 hc M hM F v l m h hw hl hk B hB hm a e f
    obtain ⟨M, rfl⟩ : ∃ M', M = M' + 1 := ⟨M - 1, by omega⟩
    refine ⟨v, m, F, c, e, .t false, fun κ => ?_, by omega, ⟨[], rfl, by rw [List.append_nil]; exact h⟩, hw, hm, hB, fun _ _ _ h => h⟩
    rw [loopNU_succ]
    generalize loopNU (u54_6 C n) κ M = rec
    simp -implicitDefEqProofs only [↓u54_6, ↓seqU_eq, ↓condU_eq, ↓exitU_eq, ↓u54_2, ↓u54_3, ↓m5_mk, ↓k5_mk, ↓exU_n, ↓exU_e, w_127, ↓uGtr_w _ _ _ _ .gtr rfl, decide_eq_false (show ¬ 127 < c by omega), ↓eT_t, ↓cn_false]
  | succ k ih =>
    intro c hc0 hc M hM F v l m h hw hl hk B hB hm a e f
    obtain ⟨M, rfl⟩ : ∃ M', M = M' + 1 := ⟨M - 1, by omega⟩
    by_cases hc1 : 127 < c
    · have h0 := hw.new [.b (c % 128 + 128)] 5 1
      have st0 := Std.new hw [.b (c % 128 + 128)] 5 1 (fun _ => False) (fun _ => False)
      have r0 : (F.new [.b (c % 128 + 128)] 5 1).row F.x = some ([.b (c % 128 + 128)], 5, 1, F.x, false) := by rw [row_new, if_pos rfl]
      have el := fun f : KU => uLit1 5 (.b 0) (Fi.b (c % 128 + 128)) (Fi.b 0) F f
      have hx : (F.new [.b (c % 128 + 128)] 5 1).x = F.x + 1 := rfl
      generalize F.new [.b (c % 128 + 128)] 5 1 = F1 at *
      have h1 : BB F1 v l m := h.std st0 (fun _ _ _ _ h => h) (fun _ h => h)
      obtain ⟨v2, F2, m2, e2, h2, s2, w2, n2⟩ := app_bb h0 h1 (fun g => srcU_lit r0 g) (by simp; omega)
      have hv2 : v2 ≠ .nl := by
        rintro rfl
        rcases h2 with ⟨_, h, _⟩ | ⟨i, mu, h, _⟩
        · simp at h
        · cases h
      have hx2 := s2.x
      have hm2 : v2 ≠ .nl → B ≤ m2 := fun hne => by
        rcases n2 hne with ⟨hq, hq'⟩ | hq
        · rw [hq]; exact hm hq'
        · omega
      obtain ⟨v3, m3, F3, c3, e3, f3, k1, k2, ⟨q, k3, k4⟩, k5, k6, k7, k8⟩ := ih (c / 128) (by omega) (by rw [Nat.div_lt_iff_lt_mul (by omega)]; rw [Nat.pow_succ] at hc; exact hc) M (by omega) h2 w2 (by simp; omega) (by omega) B (by omega) hm2 a e (.t true)
      refine ⟨v3, m3, F3, c3, e3, f3, fun κ => ?_, k2, ⟨(c % 128 + 128) :: q, ?_, ?_⟩, k5, k6, k7, fun F0 h0 hw0 hs => k8 F0 h0 hw0 ((hs.trans st0).fresh hw0 s2 (fun _ _ h => h) (fun j hj hq => ?_))⟩
      · have k1 := k1 κ
        rw [loopNU_succ]
        generalize hr : loopNU (u54_6 C n) κ M = rec at k1 ⊢
        have eo : ∀ f : KU, uAdd (.b (c % 128 % 256)) (.b 128) F f = f (.b (c % 128 + 128)) F := fun f => by
          rw [Nat.mod_eq_of_lt (show c % 128 < 256 by omega)]
          exact uAdd_b128 (c % 128) (by omega) F f
        simp -implicitDefEqProofs only [↓u54_6, ↓seqU_eq, ↓condU_eq, ↓skipU_eq, ↓blockU_eq, ↓u54_2, ↓u54_3, ↓u54_4, ↓u54_5, ↓m5_mk, ↓k5_mk, ↓exU_n, w_127, w_128, ↓uRem_w _ c 128 (by decide), ↓uGtr_w _ _ _ _ .gtr rfl, decide_eq_true hc1, ↓eT_t, ↓cn_true, ↓uCv_bw, ↓eo, ↓el, ↓e2, ↓uDiv_w _ c 128 (show c < 18446744073709551616 by omega) (by decide)]
        exact k1
      · show (if 127 < c then (c % 128 + 128) :: pv k (c / 128) else [c % 256]) = _
        rw [if_pos hc1, k3]; rfl
      · rw [List.append_assoc] at k4; exact k4
      · obtain ⟨rfl, hq⟩ := hq
        have := hm hq
        omega
    · refine ⟨v, m, F, c, e, .t false, fun κ => ?_, by omega, ⟨[], ?_, by rw [List.append_nil]; exact h⟩, hw, hm, hB, fun _ _ _ h => h⟩
      · rw [loopNU_succ]
        generalize loopNU (u54_6 C n) κ M = rec
        simp -implicitDefEqProofs only [↓u54_6, ↓seqU_eq, ↓condU_eq, ↓exitU_eq, ↓u54_2, ↓u54_3, ↓m5_mk, ↓k5_mk, ↓exU_n, ↓exU_e, w_127, ↓uGtr_w _ _ _ _ .gtr rfl, decide_eq_false hc1, ↓eT_t, ↓cn_false]
      · show (if 127 < c then (c % 128 + 128) :: pv k (c / 128) else [c % 256]) = _
        rw [if_neg hc1]; rfl
theorem t54 (N : Nat) (hN : 8 ≤ N) {F : FAW} {a : FV} {xs : List Nat} (ha : By F a xs) (hw : Wf F) (hL : xs.length ≤ 1000000) (c : Nat) (hc : c < 4294967296) :
    ∃ v F' m, clU msgD N 54 [a, w64 c] F = .ok v F' ∧ BB F' v (xs ++ pv 4 c) m ∧ F.x ≤ m ∧ Std F F' (fun _ => False) (fun _ => False) ∧ Wf F' := by
  obtain ⟨m, rfl⟩ : ∃ m, N = m + 1 := ⟨N - 1, by omega⟩
  have l0 := SlE.lit0 F 5 1
  have st0 := Std.new hw [] 5 1 (fun _ => False) (fun _ => False)
  have w0 := hw.new [] 5 1
  have el0 := fun f : KU => uLit0 5 1 [(.b 0)] F f
  have hx0 : (F.new [] 5 1).x = F.x + 1 := rfl
  have ha0 := ha.std st0 (fun _ _ _ _ _ _ h => h)
  generalize F.new [] 5 1 = F0 at *
  obtain ⟨v1, F1, m1, e1, h1, s01, w1, n1⟩ := app_bb (l := []) w0 l0 (fun g => ha0.src g) (by simp; omega)
  rw [List.nil_append] at h1
  have s1 := st0.fresh hw s01 (fun _ _ h => h) (fun j hj h => by omega)
  have n1 : v1 ≠ .nl → F.x ≤ m1 := fun h => by rcases n1 h with ⟨h, _⟩ | h <;> omega
  obtain ⟨v2, m2, F2, c2, e2, f2, k1, k2, ⟨q, k3, k4⟩, k5, k6, k7, k8⟩ := l54 (clU msgD m) m 4 c (by omega) (by omega) m (by omega) h1 w1 (by omega) (by omega) F.x s1.x n1 a .nl (.u [])
  have st2 := k8 F rfl hw s1
  have h0' := k5.new [.b (c2 % 256)] 5 1
  have st0' := Std.new k5 [.b (c2 % 256)] 5 1 (fun _ => False) (fun _ => False)
  have r0 : (F2.new [.b (c2 % 256)] 5 1).row F2.x = some ([.b (c2 % 256)], 5, 1, F2.x, false) := by rw [row_new, if_pos rfl]
  have el := fun f : KU => uLit1 5 (.b 0) (Fi.b (c2 % 256)) (Fi.b 0) F2 f
  have hx : (F2.new [.b (c2 % 256)] 5 1).x = F2.x + 1 := rfl
  generalize F2.new [.b (c2 % 256)] 5 1 = F3 at *
  have k4' := k4.std st0' (fun _ _ _ _ h => h) (fun _ h => h)
  have hq : q.length ≤ 5 := by
    have := pv_len 4 c
    rw [k3] at this
    simp at this; omega
  obtain ⟨v4, F4, m4, e4, h4, s4, w4, n4⟩ := app_bb h0' k4' (fun g => srcU_lit r0 g) (by simp; omega)
  have hne : v4 ≠ .nl := by
    rintro rfl
    rcases h4 with ⟨_, h, _⟩ | ⟨i, mu, h, _⟩
    · simp at h
    · cases h
  refine ⟨v4, F4, m4, ?_, ?_, ?_, (st2.trans st0').fresh hw s4 (fun _ _ h => h) (fun j hj hq => ?_), w4⟩
  · rw [cl54, u54_in]
    generalize clU msgD m = C at *
    simp -implicitDefEqProofs only [↓u54b, ↓seqU_eq, ↓blockU_eq, ↓loopU_eq, ↓retU_eq, ↓u54_0, ↓u54_1, ↓u54_7, ↓m5_mk, ↓exU_n, ↓exU_e, ↓exU_r, ↓el0, ↓e1, ↓k1, show Nat.beq 0 0 = true from rfl, ↓cn_true, ↓uCv_bw, ↓el, ↓e4, ↓u54r_mk]
  · rw [k3, ← List.append_assoc]; exact h4
  · rcases n4 hne with ⟨rfl, h⟩ | h
    · exact k6 h
    · omega
  · obtain ⟨rfl, hq⟩ := hq
    have := k6 hq
    omega
end Go.Proofs.Ytgejdfhfgphcbaa.Ev
/- The document's PutHead. -/
namespace Go.Proofs.Ytgejdfhfgphcbaa.Ev
open Go Go.RowKit
set_option linter.unusedVariables false
set_option linter.constructorNameAsVariable false
set_option linter.unusedSimpArgs false
set_option linter.unusedSectionVars false

theorem lss_1 (kd : Int) (h : kd < 1) (F : FAW) (f : KU) : uCmp ltN .lss (numV .i64 kd) (.n 1) F f = f (.t true) F := by
  cases kd with
  | ofNat k =>
    have h4 : (k : Int) < 1 := h
    have : k = 0 := by omega
    subst this; rfl
  | negSucc k =>
    have e : uCmp ltN .lss (numV .i64 (.negSucc k)) (.n 1) F f = uSlow .lss (.i .i64 (.negSucc k)) (.n 1) F f := rfl
    have h : binV .lss (toV (.i .i64 (.negSucc k))) (toV (.n 1)) = some (.bool true) := by
      simp only [toV, binV, iop, if_true]
      rw [decide_eq_true (by omega)]
    rw [e, uSlow_n h]; rfl
theorem t15_bad (N : Nat) (hN : 1 ≤ N) {F : FAW} (p : FV) (nm : List Nat) (kd : Int) (sq : Int) (old : Bool) (hk : ¬ (1 ≤ kd ∧ kd ≤ 4)) (hw : Wf F) :
    ∃ F', clU msgD N 15 [p, .a [.s nm, numV .i64 kd, .i .i32 sq, .t old]] F = .ok .nl F' ∧ Std F F' (fun _ => False) (fun _ => False) ∧ Wf F' := by
  obtain ⟨m, rfl⟩ : ∃ m, N = m + 1 := ⟨N - 1, by omega⟩
  have st0 := Std.new hw [.s nm, numV .i64 kd, .i .i32 sq, .t old] 23 4 (fun _ => False) (fun _ => False)
  have w0 := hw.new [.s nm, numV .i64 kd, .i .i32 sq, .t old] 23 4
  have r0 : (F.new [.s nm, numV .i64 kd, .i .i32 sq, .t old] 23 4).row F.x = some ([.s nm, numV .i64 kd, .i .i32 sq, .t old], 23, 4, F.x, false) := by rw [row_new, if_pos rfl]
  have hbox := fun f : KU => uBox_a 23 4 [.s nm, numV .i64 kd, .i .i32 sq, .t old] F f
  generalize F.new [.s nm, numV .i64 kd, .i .i32 sq, .t old] 23 4 = F0 at *
  have l1 : ∀ f : KU, uLd none (.p F.x 1) F0 f = f (numV .i64 kd) F0 := fun f => uLd_row f r0 rfl (numV_fi _ _)
  refine ⟨F0, ?_, st0, w0⟩
  rw [cl15, u15_in]
  generalize clU msgD m = C
  by_cases h4 : kd < 1
  · simp -implicitDefEqProofs only [↓u15b, ↓seqU_eq, ↓condU_eq, ↓retU_eq, ↓u15_0, ↓u15_1, ↓u15_2, ↓u15_3, ↓m11_mk, ↓k11_mk, ↓exU_n, ↓exU_r, ↓hbox, ↓uFad_p, Nat.zero_add, ↓l1, ↓lss_1 kd h4, ↓eT_t, ↓cn_true, ↓u15r_mk]
  · obtain ⟨k, rfl⟩ : ∃ k : Nat, kd = k := ⟨kd.toNat, by omega⟩
    have hn : numV .i64 (k : Int) = .n k := rfl
    simp only [hn] at l1 hbox
    simp -implicitDefEqProofs only [↓u15b, ↓seqU_eq, ↓condU_eq, ↓retU_eq, ↓u15_0, ↓u15_1, ↓u15_2, ↓u15_3, ↓m11_mk, ↓k11_mk, ↓exU_n, ↓exU_r, hn, ↓hbox, ↓uFad_p, Nat.zero_add, ↓l1, ↓uLss_nn, decide_eq_false (show ¬ k < 1 by omega), ↓uGtr_nn, decide_eq_true (show 4 < k by omega), ↓eT_t, ↓cn_true, ↓cn_false, ↓u15r_mk]
theorem kd_mul (k : Nat) (hk : k ≤ 4) (F : FAW) (f : KU) : (uMul (.n 32) (.n k) F fun v0 S => uAdd v0 (.n 1) S fun v1 S => uCvI .u8 v1 S f) = f (.b ((32 * k + 1) % 256)) F := by
  rw [uMul_nn _ _ (by omega), uAdd_nn _ _ (by omega), uCv_bn]
theorem t15_ok (N : Nat) (hN : 20 ≤ N) {F : FAW} (p : Nat) (hp : p = 0 ∨ p = 1) (H : Hd) (hk : 1 ≤ H.kd ∧ H.kd ≤ 4) (hs : Bs H.nm) (hS : H.nm.length ≤ 1000) (hw : Wf F) :
    ∃ v F' m l, clU msgD N 15 [.n p, .a H.c] F = .ok v F' ∧ BB F' v l m ∧ l.length ≤ 2000 ∧ Bs l ∧ F.x ≤ m ∧ Std F F' (fun _ => False) (fun _ => False) ∧ Wf F' := by
  obtain ⟨m, rfl⟩ : ∃ m, N = m + 1 := ⟨N - 1, by omega⟩
  have h0 : HRow (F.new H.c 23 4) F.x H := by show (F.new H.c 23 4).row F.x = _; rw [row_new, if_pos rfl]
  have st0 := Std.new hw H.c 23 4 (fun _ => False) (fun _ => False)
  have w0 := hw.new H.c 23 4
  have hbox := fun f : KU => uBox_a 23 4 H.c F f
  have hx0 : (F.new H.c 23 4).x = F.x + 1 := rfl
  generalize F.new H.c 23 4 = F0 at *
  have hcv := uCv_iu H.sq
  have hq := sqw_lt H.sq
  have pvl : ∀ v, (pv 4 v).length ≤ 5 := pv_len 4
  have pvb : ∀ v, Bs (pv 4 v) := by
    intro v
    have h := put_bs 1 ⟨[], 0, 0, false⟩ Bs.nil
    have hp : ∀ k v, Bs (pv k v) := by
      intro k
      induction k with
      | zero => intro v x hx; simp [pv] at hx; omega
      | succ k ih =>
        intro v x hx
        unfold pv at hx
        split at hx
        · rcases List.mem_cons.mp hx with rfl | hx
          · omega
          · exact ih _ x hx
        · simp at hx; omega
    exact hp 4 v
  rw [cl15, u15_in]
  generalize hC : clU msgD m = C at *
  by_cases hp0 : p = 0
  · subst hp0
    by_cases ho : H.old = true
    · have st1 := Std.new w0 [.b (H.kd % 256)] 5 1 (fun _ => False) (fun _ => False)
      have w1 := w0.new [.b (H.kd % 256)] 5 1
      have r1 : (F0.new [.b (H.kd % 256)] 5 1).row F0.x = some ([.b (H.kd % 256)], 5, 1, F0.x, false) := by rw [row_new, if_pos rfl]
      have el := fun f : KU => uLit1 5 (.b 0) (Fi.b (H.kd % 256)) (Fi.b 0) F0 f
      have hx1 : (F0.new [.b (H.kd % 256)] 5 1).x = F0.x + 1 := rfl
      generalize F0.new [.b (H.kd % 256)] 5 1 = F1 at *
      have h1 := h0.std st1 (fun h => h)
      obtain ⟨v2, F2, m2, e2, b2, ne2, n2, s2, w2⟩ := t52 m (by omega) (a := .nl) (xs := []) (.inl ⟨rfl, rfl⟩) hs w1 (by simp) (by omega)
      rw [hC] at e2
      have h2 := h1.std s2 (fun h => h)
      have r2 := s2.row _ _ (fun h => h) r1
      obtain ⟨v3, F3, m3, e3, b3, s3, w3, n3⟩ := app_bb w2 b2 (fun g => srcU_lit r2 g) (by simp [beN_len]; omega)
      have st2 := (st0.trans st1).trans s2
      have st3 := st2.fresh hw s3 (fun _ _ h => h) (fun j hj h => by omega)
      have h3 := h2.std s3 (fun h => h)
      obtain ⟨v4, F4, m4, e4, b4, n4, x4, s4, w4⟩ := t53 m (by omega) b3.by w3 (by simp [beN_len]; omega) (sqw H.sq) (by omega) 4 (by omega)
      rw [hC] at e4
      refine ⟨v4, F4, m4, _, ?_, b4, by simp [beN_len]; omega, ((((Bs.nil.append (beN_bs _ _)).append hs).append (fun x hx => by simp at hx; omega)).append (beN_bs _ _)), Nat.le_trans st3.x x4, st3.trans s4, w4⟩
      simp -implicitDefEqProofs only [↓u15b, ↓seqU_eq, ↓condU_eq, ↓blockU_eq, ↓retU_eq, ↓skipU_eq, ↓u15_0, ↓u15_1, ↓u15_2, ↓u15_4, ↓u15_5, ↓u15_6, ↓u15_7, ↓m11_mk, ↓k11_mk, ↓exU_n, ↓exU_r, ↓hbox, ↓uFad_p, Nat.zero_add, ↓h0.l1, ↓uLss_nn, decide_eq_false (show ¬ H.kd < 1 by omega), ↓uGtr_nn, decide_eq_false (show ¬ 4 < H.kd by omega), ↓eT_t, ↓cn_false, ↓uEq_nn, xo_f, decide_true, ↓cn_true, ↓h0.l3, ho, ↓h0.l0, ↓uCv_bn, ↓el, ↓h1.l1, ↓h1.l0, ↓veqU_n, ↓veqU_s, ↓uCall_eq, ↓e2, ↓goOn_ok, ↓rowU2_b r2 r1, ↓h2.l1, ↓e3, ↓h3.l2, ↓hcv, ↓e4, ↓u15r_mk]
    · have st1 := Std.new w0 ([128, 1, 0, H.kd % 256].map FV.b) 5 1 (fun _ => False) (fun _ => False)
      have w1 := w0.new ([128, 1, 0, H.kd % 256].map FV.b) 5 1
      have b1 := by_new F0 [128, 1, 0, H.kd % 256] 4 rfl
      have el : ∀ f : KU, uLitF 5 1 [(.b 0)] 4 [(0, 1, .b 128), (1, 1, .b 1), (2, 1, .b 0), (3, 1, .b (H.kd % 256))] F0 f = f (.l F0.x 0 4 4) (F0.new ([128, 1, 0, H.kd % 256].map FV.b) 5 1) := fun f => uLitB F0 f 128 1 0 (H.kd % 256)
      generalize F0.new ([128, 1, 0, H.kd % 256].map FV.b) 5 1 = F1 at *
      have h1 := h0.std st1 (fun h => h)
      obtain ⟨v2, F2, m2, e2, b2, ne2, n2, s2, w2⟩ := t52 m (by omega) b1 hs w1 (by simp) (by omega)
      rw [hC] at e2
      have h2 := h1.std s2 (fun h => h)
      obtain ⟨v4, F4, m4, e4, b4, n4, x4, s4, w4⟩ := t53 m (by omega) b2.by w2 (by simp [beN_len]; omega) (sqw H.sq) (by omega) 4 (by omega)
      rw [hC] at e4
      have st2 := (st0.trans st1).trans s2
      refine ⟨v4, F4, m4, _, ?_, b4, by simp [beN_len]; omega, ((((show Bs [128, 1, 0, H.kd % 256] from fun x hx => by simp at hx; omega).append (beN_bs _ _)).append hs).append (beN_bs _ _)), Nat.le_trans st2.x x4, st2.trans s4, w4⟩
      simp -implicitDefEqProofs only [↓u15b, ↓seqU_eq, ↓condU_eq, ↓blockU_eq, ↓retU_eq, ↓skipU_eq, ↓u15_0, ↓u15_1, ↓u15_2, ↓u15_4, ↓u15_5, ↓u15_8, ↓u15_9, ↓u15_10, ↓u15_11, ↓m11_mk, ↓k11_mk, ↓exU_n, ↓exU_r, ↓hbox, ↓uFad_p, Nat.zero_add, ↓h0.l1, ↓uLss_nn, decide_eq_false (show ¬ H.kd < 1 by omega), ↓uGtr_nn, decide_eq_false (show ¬ 4 < H.kd by omega), ↓eT_t, ↓cn_false, ↓uEq_nn, xo_f, decide_true, ↓cn_true, ↓h0.l3, (show H.old = false from Bool.not_eq_true _ ▸ ho), ↓uCv_bn, ↓el, ↓h1.l0, ↓uCall_eq, ↓e2, ↓goOn_ok, ↓h2.l2, ↓hcv, ↓e4, ↓u15r_mk]
  · have hp1 : p = 1 := by omega
    subst hp1
    have st1 := Std.new w0 ([130, (32 * H.kd + 1) % 256].map FV.b) 5 1 (fun _ => False) (fun _ => False)
    have w1 := w0.new ([130, (32 * H.kd + 1) % 256].map FV.b) 5 1
    have b1 := by_new F0 [130, (32 * H.kd + 1) % 256] 2 rfl
    have el : ∀ f : KU, uLitF 5 1 [(.b 0)] 2 [(0, 1, .b 130), (1, 1, .b ((32 * H.kd + 1) % 256))] F0 f = f (.l F0.x 0 2 2) (F0.new ([130, (32 * H.kd + 1) % 256].map FV.b) 5 1) := fun f => uLitB2 F0 f 130 ((32 * H.kd + 1) % 256)
    generalize F0.new ([130, (32 * H.kd + 1) % 256].map FV.b) 5 1 = F1 at *
    have h1 := h0.std st1 (fun h => h)
    have hsh := kd_mul H.kd hk.2 F0
    obtain ⟨v2, F2, m2, e2, b2, n2, s2, w2⟩ := t54 m (by omega) b1 w1 (by simp) (sqw H.sq) hq
    rw [hC] at e2
    have h2 := h1.std s2 (fun h => h)
    have l2 := pvl (sqw H.sq)
    have l3 := pvl H.nm.length
    obtain ⟨v3, F3, m3, e3, b3, n3, s3, w3⟩ := t54 m (by omega) b2.by w2 (by simp; omega) H.nm.length (by omega)
    rw [hC] at e3
    have h3 := h2.std s3 (fun h => h)
    obtain ⟨v4, F4, m4, e4, b4, s4, w4, n4⟩ := app_bb w3 b3 (fun g => src_s hs F3 g) (by simp; omega)
    have ne4 := ne_of_bb b4 (by simp)
    have st3 := ((st0.trans st1).trans s2).trans s3
    have hx2 := ((st0.trans st1).trans s2).x
    refine ⟨v4, F4, m4, _, ?_, b4, by simp; omega, ((((show Bs [130, (32 * H.kd + 1) % 256] from fun x hx => by simp at hx; omega).append (pvb _)).append (pvb _)).append hs), ?_, st3.fresh hw s4 (fun _ _ h => h) (fun j hj h => by omega), w4⟩
    · simp -implicitDefEqProofs only [↓u15b, ↓seqU_eq, ↓condU_eq, ↓blockU_eq, ↓retU_eq, ↓skipU_eq, ↓u15_0, ↓u15_1, ↓u15_2, ↓u15_4, ↓u15_5, ↓u15_8, ↓u15_9, ↓u15_12, ↓u15_13, ↓u15_14, ↓u15_15, ↓m11_mk, ↓k11_mk, ↓exU_n, ↓exU_r, ↓hbox, ↓uFad_p, Nat.zero_add, ↓h0.l1, ↓uLss_nn, decide_eq_false (show ¬ H.kd < 1 by omega), ↓uGtr_nn, decide_eq_false (show ¬ 4 < H.kd by omega), ↓eT_t, ↓cn_false, ↓uEq_nn, xo_f, decide_true, ↓cn_true, decide_eq_false (show ¬ 1 = 0 by omega), ↓hsh, ↓el, ↓h1.l2, ↓hcv, ↓uCall_eq, ↓e2, ↓goOn_ok, ↓h2.l0, ↓uLen_s, ↓uCv_un _ _ _ (show H.nm.length < 18446744073709551616 by omega), ↓e3, ↓h3.l0, ↓veqU_s, ↓e4, ↓u15r_mk]
    · rcases n4 ne4 with ⟨h, _⟩ | h
      · omega
      · exact Nat.le_trans st3.x h
end Go.Proofs.Ytgejdfhfgphcbaa.Ev
/- The document's reader: fail, take, Take, num, want, kind, name. -/
namespace Go.Proofs.Ytgejdfhfgphcbaa.Ev
open Go Go.RowKit
set_option linter.unusedVariables false
set_option linter.constructorNameAsVariable false
set_option linter.unusedSimpArgs false
set_option linter.unusedSectionVars false

def rdc (p : Nat) (v : FV) (l : List Nat) (n e : Nat) : List FV := [.nl, .nl, .nl, .n p, v, .n n, .n 0, .n (l.length + 100), .n e]
/-- The reader stands in bytes. -/
structure Rd (F : FAW) (x : Nat) (v : FV) (l : List Nat) (n e p : Nat) : Prop where
  row : F.row x = some (rdc p v l n e, 84, 9, x, false)
  fam : F.fam x = some (false, 9)
  by_ : By F v l
section
variable {F : FAW} {x : Nat} {v : FV} {l : List Nat} {n e p : Nat} (h : Rd F x v l n e p)
include h
theorem Rd.g4 (f : KU) : uGet 4 (.p x 0) F f = f v F := uGet_row f h.row rfl h.by_.fi
theorem Rd.g5 (f : KU) : uGet 5 (.p x 0) F f = f (.n n) F := uGet_row f h.row rfl (Fi.n _)
theorem Rd.g8 (f : KU) : uGet 8 (.p x 0) F f = f (.n e) F := uGet_row f h.row rfl (Fi.n _)
theorem Rd.l5 (f : KU) : uLd none (.p x 5) F f = f (.n n) F := uLd_row f h.row rfl (Fi.n _)
theorem Rd.l7 (f : KU) : uLd none (.p x 7) F f = f (.n (l.length + 100)) F := uLd_row f h.row rfl (Fi.n _)
theorem Rd.l8 (f : KU) : uLd none (.p x 8) F f = f (.n e) F := uLd_row f h.row rfl (Fi.n _)
theorem Rd.put (n' e' : Nat) : Rd (F.put x (rdc p v l n' e')) x v l n' e' p := by
  refine ⟨by rw [row_put, if_pos rfl, h.row]; rfl, by rw [fam_put]; exact h.fam, h.by_.std ((Oth.put F x _).std (fun _ => False)) ?_⟩
  intro i r e m o hi hx
  subst hx
  rw [h.row] at hi
  simp at hi
theorem Rd.s5 (n' : Nat) (f : KU) : uSt 1 (.p x 5) (.n n') F f = f (.u []) (F.put x (rdc p v l n' e)) := uSt_row f h.row h.fam (Nat.le_refl 9) rfl (Fi.n _) (Fi.n n')
theorem Rd.s8 (e' : Nat) (f : KU) : uSt 1 (.p x 8) (.n e') F f = f (.u []) (F.put x (rdc p v l n e')) := uSt_row f h.row h.fam (Nat.le_refl 9) rfl (Fi.n _) (Fi.n e')
end
theorem fls_t (e c : Nat) : fls e true c = if e = 0 then c else e := by simp [fls]
section
variable {F : FAW} {x : Nat} {v : FV} {l : List Nat} {n e p : Nat}
theorem t86 (N : Nat) (hN : 1 ≤ N) (h : Rd F x v l n e p) (hw : Wf F) (c : Nat) : ∃ F', clU msgD N 86 [.p x 0, .n c] F = .ok (.u []) F' ∧ Rd F' x v l n (fls e true c) p ∧ Oth F F' x ∧ Wf F' := by
  obtain ⟨m, rfl⟩ : ∃ m, N = m + 1 := ⟨N - 1, by omega⟩
  rw [cl86, u86_in, fls_t]
  generalize clU msgD m = C
  by_cases he : e = 0
  · refine ⟨F.put x (rdc p v l n c), ?_, by rw [if_pos he]; exact h.put n c, Oth.put _ _ _, hw.put _ _⟩
    simp -implicitDefEqProofs only [↓u86b, ↓seqU_eq, ↓condU_eq, ↓u86_0, ↓u86_1, ↓u86_2, ↓m3_mk, ↓k3_mk, ↓exU_n, ↓h.g8, ↓uEq_nn, xo_f, decide_eq_true he, ↓eT_t, ↓cn_true, ↓uNilc_p, ↓uFad_p, Nat.zero_add, ↓h.s8, ↓u86r_mk]
  · refine ⟨F, ?_, by rw [if_neg he]; exact h, Oth.refl _ _, hw⟩
    simp -implicitDefEqProofs only [↓u86b, ↓seqU_eq, ↓condU_eq, ↓skipU_eq, ↓u86_0, ↓u86_1, ↓m3_mk, ↓k3_mk, ↓exU_n, ↓h.g8, ↓uEq_nn, xo_f, decide_eq_false he, ↓eT_t, ↓cn_false, ↓u86r_mk]
theorem bye_ne {e : Nat} (he : ¬ e = 0) (l : List Nat) (n k : Nat) : bye l n e k = e ∧ byn l n e k = n ∧ byl l n e k = [] := by
  have : bye l n e k = e := by unfold bye fls; split <;> simp [he]
  exact ⟨this, by rw [byn, if_neg (by rw [this]; exact he)], by rw [byl, if_neg (by rw [this]; exact he)]⟩
theorem t87 (N : Nat) (hN : 1 ≤ N) (h : Rd F x v l n e p) (hw : Wf F) (hn : n ≤ l.length) (hL : l.length ≤ 1000000) (k : Nat) (hk : e = 0 → k ≤ 100) :
    ∃ w F', clU msgD N 87 [.p x 0, w64 k] F = .ok w F' ∧ Rd F' x v l (byn l n e k) (bye l n e k) p ∧ By F' w (byl l n e k) ∧ Oth F F' x ∧ Wf F' := by
  obtain ⟨m, rfl⟩ : ∃ m, N = m + 1 := ⟨N - 1, by omega⟩
  rw [cl87, u87_in]
  generalize clU msgD m = C
  by_cases he : e = 0
  · subst he
    have hk := hk rfl
    by_cases hs : l.length - n < k
    · have hb : bye l n 0 k = 3 := by unfold bye; rw [decide_eq_true hs]; rfl
      refine ⟨.nl, F.put x (rdc p v l n 3), ?_, ?_, ?_, Oth.put _ _ _, hw.put _ _⟩
      · simp -implicitDefEqProofs only [↓u87b, ↓seqU_eq, ↓condU_eq, ↓skipU_eq, ↓retU_eq, ↓u87_0, ↓u87_1, ↓u87_2, ↓u87_4, ↓u87_5, ↓u87_8, ↓u87_9, ↓u87_10, ↓u87_11, ↓m7_mk, ↓k7_mk, ↓exU_n, ↓exU_r, ↓h.g8, ↓h.g5, ↓h.g4, ↓uEq_nn, xo_t, decide_true, Bool.not_true, ↓eT_t, ↓cn_false, ↓cn_true, ↓uNilc_p, ↓uFad_p, Nat.zero_add, show 6 + 1 = 7 from rfl, ↓h.l7, ↓uLss_nn, decide_eq_false (show ¬ l.length + 100 < n by omega), uSub_nn _ _ (show n ≤ l.length + 100 by omega) (show l.length + 100 ≤ 9223372036854775807 by omega), uCv_un _ _ (l.length + 100 - n) (by omega), uGtr_w, decide_eq_false (show ¬ l.length + 100 - n < k by omega), ↓h.by_.len, uSub_nn _ _ hn (show l.length ≤ 9223372036854775807 by omega), uCv_un _ _ (l.length - n) (by omega), decide_eq_true hs, ↓h.s8, ↓u87r_mk]
      · rw [hb, byn, if_neg (by rw [hb]; decide)]; exact h.put n 3
      · rw [byl, if_neg (by rw [hb]; decide)]; exact .inl ⟨rfl, rfl⟩
    · have hb : bye l n 0 k = 0 := by rw [bye0]; exact ⟨rfl, by omega⟩
      obtain ⟨w, e2, b2⟩ := h.by_.cut (show n ≤ n + k by omega) (show n + k ≤ l.length by omega)
      refine ⟨w, F.put x (rdc p v l (n + k) 0), ?_, ?_, ?_, Oth.put _ _ _, hw.put _ _⟩
      · simp -implicitDefEqProofs only [↓u87b, ↓seqU_eq, ↓condU_eq, ↓skipU_eq, ↓retU_eq, ↓u87_0, ↓u87_1, ↓u87_2, ↓u87_4, ↓u87_5, ↓u87_8, ↓u87_9, ↓u87_12, ↓u87_13, ↓u87_14, ↓m7_mk, ↓k7_mk, ↓exU_n, ↓exU_r, ↓h.g8, ↓h.g5, ↓h.g4, ↓uEq_nn, xo_t, decide_true, Bool.not_true, ↓eT_t, ↓cn_false, ↓cn_true, ↓uNilc_p, ↓uFad_p, Nat.zero_add, show 6 + 1 = 7 from rfl, ↓h.l7, ↓uLss_nn, decide_eq_false (show ¬ l.length + 100 < n by omega), uSub_nn _ _ (show n ≤ l.length + 100 by omega) (show l.length + 100 ≤ 9223372036854775807 by omega), uCv_un _ _ (l.length + 100 - n) (by omega), uGtr_w, decide_eq_false (show ¬ l.length + 100 - n < k by omega), ↓h.by_.len, uSub_nn _ _ hn (show l.length ≤ 9223372036854775807 by omega), uCv_un _ _ (l.length - n) (by omega), decide_eq_false hs, uCv_nw _ _ k (by omega), uAdd_nn _ _ (show n + k ≤ 9223372036854775807 by omega), e2, ↓h.s5, ↓u87r_mk]
      · rw [hb, byn, if_pos hb]; exact h.put (n + k) 0
      · rw [byl, if_pos hb]
        rw [show n + k - n = k by omega] at b2
        refine b2.std ((Oth.put F x _).std (fun _ => False)) ?_
        intro i r e m o hi hx
        subst hx
        rw [h.row] at hi
        simp at hi
  · obtain ⟨b1, b2, b3⟩ := bye_ne he l n k
    rw [b1, b2, b3]
    refine ⟨.nl, F, ?_, h, .inl ⟨rfl, rfl⟩, Oth.refl _ _, hw⟩
    simp -implicitDefEqProofs only [↓u87b, ↓seqU_eq, ↓condU_eq, ↓retU_eq, ↓u87_0, ↓u87_1, ↓u87_2, ↓u87_3, ↓m7_mk, ↓k7_mk, ↓exU_n, ↓exU_r, ↓h.g8, ↓uEq_nn, xo_t, decide_eq_false he, Bool.not_false, ↓eT_t, ↓cn_true, ↓u87r_mk]
end
theorem uMul_w (a b : Nat) (h : a * b < 18446744073709551616) (F : FAW) (f : KU) : uMul (w64 a) (w64 b) F f = f (w64 (a * b)) F := by
  have e : uMul (w64 a) (w64 b) F f = uSlow .mul (w64 a) (w64 b) F f := rfl
  have h2 : binV .mul (toV (w64 a)) (toV (w64 b)) = some (.int .u64 (Int.ofNat (a * b))) := by
    simp only [w64, toV, binV, iop, if_true]
    rw [show Int.ofNat a * Int.ofNat b = ((a * b : Nat) : Int) from rfl, wrap_u64 h]
    rfl
  rw [e, uSlow_n h2]; rfl
theorem uAdd_w (a b : Nat) (h : a + b < 18446744073709551616) (F : FAW) (f : KU) : uAdd (w64 a) (w64 b) F f = f (w64 (a + b)) F := by
  have e : uAdd (w64 a) (w64 b) F f = uSlow .add (w64 a) (w64 b) F f := rfl
  have h2 : binV .add (toV (w64 a)) (toV (w64 b)) = some (.int .u64 (Int.ofNat (a + b))) := by
    simp only [w64, toV, binV, iop, if_true]
    rw [show Int.ofNat a + Int.ofNat b = ((a + b : Nat) : Int) from rfl, wrap_u64 h]
    rfl
  rw [e, uSlow_n h2]; rfl
/-- What bytes say, the greatest first. -/
def beF (l : List Nat) : Nat := l.foldl (fun a b => a * 256 + b) 0
theorem beF_snoc (l : List Nat) (b : Nat) : beF (l ++ [b]) = beF l * 256 + b := by simp [beF]
theorem beF_lt : ∀ (k : Nat) (l : List Nat), Bs l → l.length = k → beF l < 256 ^ k := by
  intro k
  induction k with
  | zero => intro l _ hl; have := List.length_eq_zero_iff.mp hl; subst this; decide
  | succ k ih =>
    intro l hb hl
    obtain ⟨t, b, rfl⟩ : ∃ t b, l = t ++ [b] := by
      rcases List.eq_nil_or_concat l with h | ⟨t, b, h⟩
      · subst h; simp at hl
      · exact ⟨t, b, by simpa using h⟩
    rw [beF_snoc, Nat.pow_succ]
    have := ih t (fun x hx => hb x (by simp [hx])) (by simpa using hl)
    have hb' := hb b (by simp)
    omega
theorem take_snoc {l : List Nat} {i b : Nat} (h : l[i]? = some b) : l.take (i + 1) = l.take i ++ [b] := by
  rw [List.take_add_one, h]; rfl
theorem l88 (C : CU) (N : Nat) {F : FAW} {w : FV} {l : List Nat} (h : By F w l) (hl : Bs l) (k : Nat) (hk : k ≤ 7) (hkl : k ≤ l.length) : ∀ (r i : Nat), i + r = k → ∀ (M : Nat), r < M → ∀ (d e h' i' j : FV),
    ∃ x j', ∀ κ : EX → W9 → FAW → RU, loopNU (u88_13 C N) κ M (.mk w (.n k) d e (w64 (beF (l.take i))) (.n i) h' i' j) F = κ (.exit 1) (.mk w (.n k) d e (w64 (beF (l.take k))) x h' i' j') F := by
  intro r
  induction r with
  | zero =>
    intro i hi M hM d e h' i' j
    obtain ⟨M, rfl⟩ : ∃ M', M = M' + 1 := ⟨M - 1, by omega⟩
    obtain rfl : i = k := by omega
    refine ⟨.n i, .t false, fun κ => ?_⟩
    rw [loopNU_succ]
    generalize loopNU (u88_13 C N) κ M = rec
    simp -implicitDefEqProofs only [↓u88_13, ↓seqU_eq, ↓condU_eq, ↓exitU_eq, ↓u88_9, ↓u88_10, ↓m9_mk, ↓k9_mk, ↓exU_n, ↓exU_e, ↓uLss_nn, decide_eq_false (Nat.lt_irrefl i), ↓eT_t, ↓cn_false]
  | succ r ih =>
    intro i hi M hM d e h' i' j
    obtain ⟨M, rfl⟩ : ∃ M', M = M' + 1 := ⟨M - 1, by omega⟩
    obtain ⟨b, hb⟩ : ∃ b, l[i]? = some b := ⟨l[i]'(by omega), List.getElem?_eq_getElem (by omega)⟩
    have hb2 := hl b (List.mem_of_getElem? hb)
    obtain ⟨x, j', k1⟩ := ih (i + 1) (by omega) M (by omega) d e h' i' (.t true)
    refine ⟨x, j', fun κ => ?_⟩
    have k1 := k1 κ
    rw [take_snoc hb, beF_snoc] at k1
    have hlt := beF_lt i (l.take i) (hl.take i) (by rw [List.length_take]; omega)
    have h6 : 256 ^ i ≤ 256 ^ 6 := Nat.pow_le_pow_right (by omega) (by omega)
    rw [loopNU_succ]
    generalize loopNU (u88_13 C N) κ M = rec at k1 ⊢
    simp -implicitDefEqProofs only [↓u88_13, ↓seqU_eq, ↓condU_eq, ↓skipU_eq, ↓blockU_eq, ↓u88_9, ↓u88_10, ↓u88_11, ↓u88_12, ↓m9_mk, ↓k9_mk, ↓exU_n, ↓uLss_nn, decide_eq_true (show i < k by omega), ↓eT_t, ↓cn_true, w_256, ↓uMul_w (beF (l.take i)) 256 (show beF (l.take i) * 256 < 18446744073709551616 by omega), ↓h.get hb, ↓uCv_ub _ _ b hb2, ↓uAdd_w (beF (l.take i) * 256) b (show beF (l.take i) * 256 + b < 18446744073709551616 by omega), uAdd_nn _ _ (show i + 1 ≤ 9223372036854775807 by omega)]
    exact k1
/-- assayerref1.Take. -/
theorem t88 (N : Nat) (hN : 10 ≤ N) {F : FAW} {w : FV} {l : List Nat} (h : By F w l) (hl : Bs l) (k : Nat) (hk : k ≤ 7) : clU msgD N 88 [w, .n k] F = .ok (.u [w64 (if l.length < k then 0 else beF (l.take k)), .n (if l.length < k then 3 else 0)]) F := by
  obtain ⟨m, rfl⟩ : ∃ m, N = m + 1 := ⟨N - 1, by omega⟩
  rw [cl88, u88_in]
  generalize clU msgD m = C
  by_cases hs : l.length < k
  · rw [if_pos hs, if_pos hs]
    simp -implicitDefEqProofs only [↓u88b, ↓seqU_eq, ↓condU_eq, ↓blockU_eq, ↓retU_eq, ↓u88_0, ↓u88_1, ↓u88_2, ↓u88_4, ↓u88_5, ↓u88_6, ↓m9_mk, ↓k9_mk, ↓exU_n, ↓exU_r, ↓uLss_nn, decide_eq_false (show ¬ k < 0 by omega), ↓eT_t, ↓cn_false, ↓uGtr_nn, decide_eq_false (show ¬ 8 < k by omega), ↓h.len, decide_eq_true hs, ↓cn_true, ↓u88r_mk, w_0]
  · rw [if_neg hs, if_neg hs]
    obtain ⟨x, j', k1⟩ := l88 C m h hl k hk (by omega) k 0 (by omega) m (by omega) (.i .u64 0) (.n 0) (.t false) (.t false) (.u [])
    have k1 : ∀ κ : EX → W9 → FAW → RU, loopNU (u88_13 C m) κ m (.mk w (.n k) (.i .u64 0) (.n 0) (.i .u64 0) (.n 0) (.t false) (.t false) (.u [])) F = κ (.exit 1) (.mk w (.n k) (.i .u64 0) (.n 0) (w64 (beF (l.take k))) x (.t false) (.t false) j') F := k1
    simp -implicitDefEqProofs only [↓u88b, ↓seqU_eq, ↓condU_eq, ↓blockU_eq, ↓loopU_eq, ↓skipU_eq, ↓retU_eq, ↓u88_0, ↓u88_1, ↓u88_2, ↓u88_4, ↓u88_5, ↓u88_7, ↓u88_8, ↓u88_14, ↓m9_mk, ↓k9_mk, ↓exU_n, ↓exU_e, ↓exU_r, ↓uLss_nn, decide_eq_false (show ¬ k < 0 by omega), ↓eT_t, ↓cn_false, ↓uGtr_nn, decide_eq_false (show ¬ 8 < k by omega), ↓h.len, decide_eq_false hs, ↓k1, show Nat.beq 1 1 = true from rfl, ↓cn_true, ↓u88r_mk]
end Go.Proofs.Ytgejdfhfgphcbaa.Ev
/- The document's TakeVar; num, want, kind, varint, name. -/
namespace Go.Proofs.Ytgejdfhfgphcbaa.Ev
open Go Go.RowKit
set_option linter.unusedVariables false
set_option linter.constructorNameAsVariable false
set_option linter.unusedSimpArgs false
set_option linter.unusedSectionVars false

theorem tkV_lt {v b p : Nat} (hv : v < 18446744073709551616) : tkV v b p < 18446744073709551616 := by
  unfold tkV
  exact Nat.or_lt_two_pow (n := 64) hv (Nat.mod_lt _ (by decide))
theorem uShr_bn (b k : Nat) (hb : b < 256) (hk : k < 8) (F : FAW) (f : KU) : uSlow .shr (.b b) (.n k) F f = f (.b (b / 2 ^ k)) F := by
  have h : binV .shr (toV (.b b)) (toV (.n k)) = some (.int .u8 (Int.ofNat (b / 2 ^ k))) := by
    have hm : (min (Int.ofNat k).toNat (IntKind.bits .u8)) = k := by simp [IntKind.bits]; omega
    simp only [toV, binV, shop]
    rw [if_neg (by simp), hm]
    congr 2
    show Int.fdiv ((b : Nat) : Int) ((2 : Int) ^ k) = ((b / 2 ^ k : Nat) : Int)
    rw [Int.fdiv_eq_ediv_of_nonneg _ (by exact Int.pow_nonneg (by decide))]
    norm_cast
  rw [uSlow_n h]; rfl
theorem uNe_bb (a b : Nat) (F : FAW) (f : KU) : uEq true .neq (.b a) (.b b) F f = f (.t (!decide (a = b))) F := by rw [uEq_bb, xo_t]
/-- Is the number too long? -/
theorem e89 (C : CU) {F : FAW} {w : FV} {l : List Nat} (h : By F w l) (a c d e f g k l' m p : FV) (i b : Nat) (hi : i ≤ 4) (hb : l[i]? = some b) (hb2 : b < 256) (κ : EX → W14 → FAW → RU) :
    u89_14 C (.mk w c d e f g (.n i) (.n (32 - 7 * i)) (.b (b % 128)) k l' m a p) F κ = κ .normal (.mk w c d e f g (.n i) (.n (32 - 7 * i)) (.b (b % 128)) k l' m (.t (tkL b (7 * i))) p) F := by
  have hg := fun f : KU => h.get hb f
  unfold tkL
  have hle : ¬ 32 - 7 * i ≤ 0 := by omega
  by_cases h4 : i = 4
  · subst h4
    by_cases h1 : b % 128 / 2 ^ (32 - 7 * 4) = 0
    · by_cases h2 : b < 128
      · simp -implicitDefEqProofs only [↓u89_14, ↓m14_mk, ↓uLeq_nn, decide_eq_false hle, ↓eT_t, ↓cn_false, ↓uLss_nn, decide_eq_true (show 32 - 7 * 4 < 7 by omega), ↓cn_true, ↓uShr_bn (b % 128) (32 - 7 * 4) (show b % 128 < 256 by omega) (by omega), ↓uNe_bb, decide_eq_true h1, Bool.not_true, decide_eq_true (show 32 - 7 * 4 ≤ 7 by omega), ↓hg, ↓uGtr_bb, decide_eq_false (show ¬ 127 < b by omega), decide_eq_true h2, Bool.true_and, Bool.false_or]
      · simp -implicitDefEqProofs only [↓u89_14, ↓m14_mk, ↓uLeq_nn, decide_eq_false hle, ↓eT_t, ↓cn_false, ↓uLss_nn, decide_eq_true (show 32 - 7 * 4 < 7 by omega), ↓cn_true, ↓uShr_bn (b % 128) (32 - 7 * 4) (show b % 128 < 256 by omega) (by omega), ↓uNe_bb, decide_eq_true h1, Bool.not_true, decide_eq_true (show 32 - 7 * 4 ≤ 7 by omega), ↓hg, ↓uGtr_bb, decide_eq_true (show 127 < b by omega), decide_eq_false h2, Bool.not_false, Bool.true_and, Bool.true_or]
    · simp -implicitDefEqProofs only [↓u89_14, ↓m14_mk, ↓uLeq_nn, decide_eq_false hle, ↓eT_t, ↓cn_false, ↓uLss_nn, decide_eq_true (show 32 - 7 * 4 < 7 by omega), ↓cn_true, ↓uShr_bn (b % 128) (32 - 7 * 4) (show b % 128 < 256 by omega) (by omega), ↓uNe_bb, decide_eq_false h1, Bool.not_false, decide_eq_true (show 32 - 7 * 4 ≤ 7 by omega), Bool.true_and, Bool.or_true]
  · simp -implicitDefEqProofs only [↓u89_14, ↓m14_mk, ↓uLeq_nn, decide_eq_false hle, ↓eT_t, ↓cn_false, ↓uLss_nn, decide_eq_false (show ¬ 32 - 7 * i < 7 by omega), decide_eq_false (show ¬ 32 - 7 * i ≤ 7 by omega), Bool.false_and]
theorem l89 (C : CU) (N : Nat) {F : FAW} {w : FV} {l : List Nat} (h : By F w l) (hl : Bs l) (hL : l.length ≤ 1000000) : ∀ (t : List Nat) (pos v : Nat), l.drop pos = t → pos ≤ 4 → v < 18446744073709551616 → ∀ (M : Nat), t.length < M → pos ≤ l.length → ∀ (i j k l' m o p : FV),
    ∃ g1 g2 g3 g4 g5 g6 g7 g8 g9, ∀ κ : EX → W14 → FAW → RU, loopNU (u89_22 C N) κ M (.mk w (.n 32) (.i .u64 0) (.n 0) (.n 0) (w64 v) (.n pos) i j k l' m o p) F = κ .ret (.mk w (.n 32) (w64 (tk t (7 * pos) v pos).1) (.n (tk t (7 * pos) v pos).2.1) (.n (tk t (7 * pos) v pos).2.2) g1 g2 g3 g4 g5 g6 g7 g8 g9) F := by
  intro t
  induction t with
  | nil =>
    intro pos v ht hp hv M hM hle i j k l' m o p
    obtain ⟨M, rfl⟩ : ∃ M', M = M' + 1 := ⟨M - 1, by omega⟩
    have hlen : l.length ≤ pos := List.drop_eq_nil_iff.mp ht
    refine ⟨w64 v, .n pos, i, j, k, .t true, .t false, o, p, fun κ => ?_⟩
    rw [loopNU_succ]
    generalize loopNU (u89_22 C N) κ M = rec
    simp -implicitDefEqProofs only [↓u89_22, ↓seqU_eq, ↓condU_eq, ↓blockU_eq, ↓skipU_eq, ↓retU_eq, ↓u89_6, ↓u89_7, ↓u89_8, ↓u89_9, ↓u89_11, ↓m14_mk, ↓k14_mk, ↓exU_n, ↓exU_r, ↓h.len, ↓uGeq_nn, decide_eq_true hlen, ↓eT_t, ↓cn_true, uMul_nn _ _ (show 7 * pos ≤ 9223372036854775807 by omega), decide_eq_false (show ¬ 32 ≤ 7 * pos by omega), ↓cn_false]
    rfl
  | cons b t ih =>
    intro pos v ht hp hv M hM hle i j k l' m o p
    obtain ⟨M, rfl⟩ : ∃ M', M = M' + 1 := ⟨M - 1, by omega⟩
    have hb : l[pos]? = some b := by
      have : (l.drop pos)[0]? = some b := by rw [ht]; rfl
      rw [List.getElem?_drop, Nat.add_zero] at this; exact this
    have hlt : pos < l.length := (List.getElem?_eq_some_iff.mp hb).1
    have hb2 := hl b (List.mem_of_getElem? hb)
    have hg := fun f : KU => h.get hb f
    have ht1 : l.drop (pos + 1) = t := by rw [← List.drop_drop, ht]; rfl
    have hv1 := tkV_lt (b := b) (p := 7 * pos) hv
    have pre : ∀ κ : EX → W14 → FAW → RU, loopNU (u89_22 C N) κ (M + 1) (.mk w (.n 32) (.i .u64 0) (.n 0) (.n 0) (w64 v) (.n pos) i j k l' m o p) F =
        cn (tkL b (7 * pos)) (κ .ret (.mk w (.n 32) (.i .u64 0) (.n 0) (.n 4) (w64 v) (.n pos) (.n (32 - 7 * pos)) (.b (b % 128)) k (.t false) m (.t (tkL b (7 * pos))) p) F)
          (cn (decide (b < 128)) (κ .ret (.mk w (.n 32) (w64 (tkV v b (7 * pos))) (.n (pos + 1)) (.n 0) (w64 (tkV v b (7 * pos))) (.n pos) (.n (32 - 7 * pos)) (.b (b % 128)) k (.t false) m (.t (tkL b (7 * pos))) (.t (decide (b < 128)))) F)
            (loopNU (u89_22 C N) κ M (.mk w (.n 32) (.i .u64 0) (.n 0) (.n 0) (w64 (tkV v b (7 * pos))) (.n (pos + 1)) (.n (32 - 7 * pos)) (.b (b % 128)) k (.t false) m (.t (tkL b (7 * pos))) (.t (decide (b < 128)))) F)) := by
      intro κ
      rw [loopNU_succ]
      generalize loopNU (u89_22 C N) κ M = rec
      have he := fun (κ : EX → W14 → FAW → RU) (k l' m a p : FV) => e89 C h a (.n 32) (.i .u64 0) (.n 0) (.n 0) (w64 v) k l' m p pos b hp hb hb2 κ
      cases hL1 : tkL b (7 * pos) with
      | true =>
        simp -implicitDefEqProofs only [↓u89_22, ↓seqU_eq, ↓condU_eq, ↓blockU_eq, ↓skipU_eq, ↓retU_eq, ↓u89_6, ↓u89_7, ↓u89_12, ↓u89_13, ↓u89_15, ↓u89_16, ↓m14_mk, ↓k14_mk, ↓exU_n, ↓exU_r, ↓h.len, ↓uGeq_nn, decide_eq_false (show ¬ l.length ≤ pos by omega), ↓eT_t, ↓cn_false, uMul_nn _ _ (show 7 * pos ≤ 9223372036854775807 by omega), uSub_nn _ _ (show 7 * pos ≤ 32 by omega) (show 32 ≤ 9223372036854775807 by omega), ↓hg, ↓uRem_bb _ _ 128 (by decide), ↓he, hL1, ↓cn_true]
      | false =>
        cases hb3 : decide (b < 128) with
        | true =>
          simp -implicitDefEqProofs only [↓u89_22, ↓seqU_eq, ↓condU_eq, ↓blockU_eq, ↓skipU_eq, ↓retU_eq, ↓u89_6, ↓u89_7, ↓u89_12, ↓u89_13, ↓u89_15, ↓u89_17, ↓u89_18, ↓u89_19, ↓u89_20, ↓m14_mk, ↓k14_mk, ↓exU_n, ↓exU_r, ↓h.len, ↓uGeq_nn, decide_eq_false (show ¬ l.length ≤ pos by omega), ↓eT_t, ↓cn_false, uMul_nn _ _ (show 7 * pos ≤ 9223372036854775807 by omega), uSub_nn _ _ (show 7 * pos ≤ 32 by omega) (show 32 ≤ 9223372036854775807 by omega), ↓hg, ↓uRem_bb _ _ 128 (by decide), ↓he, hL1, ↓uCv_ub _ _ (b % 128) (show b % 128 < 256 by omega), ↓uShl_w _ _ (b % 128) (7 * pos) (show 7 * pos < 64 by omega) _ (.inr rfl), ↓uOr_w _ _ v _ hv (Nat.mod_lt (b % 128 * 2 ^ (7 * pos)) (show 18446744073709551616 > 0 by decide)), ↓uLss_bb, hb3, ↓cn_true, uAdd_nn _ _ (show pos + 1 ≤ 9223372036854775807 by omega)]
          rfl
        | false =>
          simp -implicitDefEqProofs only [↓u89_22, ↓seqU_eq, ↓condU_eq, ↓blockU_eq, ↓skipU_eq, ↓retU_eq, ↓u89_6, ↓u89_7, ↓u89_12, ↓u89_13, ↓u89_15, ↓u89_17, ↓u89_18, ↓u89_19, ↓u89_21, ↓m14_mk, ↓k14_mk, ↓exU_n, ↓exU_r, ↓h.len, ↓uGeq_nn, decide_eq_false (show ¬ l.length ≤ pos by omega), ↓eT_t, ↓cn_false, uMul_nn _ _ (show 7 * pos ≤ 9223372036854775807 by omega), uSub_nn _ _ (show 7 * pos ≤ 32 by omega) (show 32 ≤ 9223372036854775807 by omega), ↓hg, ↓uRem_bb _ _ 128 (by decide), ↓he, hL1, ↓uCv_ub _ _ (b % 128) (show b % 128 < 256 by omega), ↓uShl_w _ _ (b % 128) (7 * pos) (show 7 * pos < 64 by omega) _ (.inr rfl), ↓uOr_w _ _ v _ hv (Nat.mod_lt (b % 128 * 2 ^ (7 * pos)) (show 18446744073709551616 > 0 by decide)), ↓uLss_bb, hb3, ↓cn_false, uAdd_nn _ _ (show pos + 1 ≤ 9223372036854775807 by omega)]
          rfl
    by_cases h1 : tkL b (7 * pos) = true
    · refine ⟨w64 v, .n pos, .n (32 - 7 * pos), .b (b % 128), k, .t false, m, .t true, p, fun κ => ?_⟩
      have e : tk (b :: t) (7 * pos) v pos = (0, 0, 4) := by unfold tk; rw [if_pos h1]
      rw [pre, e, h1, cn_true]
      rfl
    · have h1' : tkL b (7 * pos) = false := by simpa using h1
      by_cases h2 : b < 128
      · refine ⟨w64 (tkV v b (7 * pos)), .n pos, .n (32 - 7 * pos), .b (b % 128), k, .t false, m, .t false, .t true, fun κ => ?_⟩
        have e : tk (b :: t) (7 * pos) v pos = (tkV v b (7 * pos), pos + 1, 0) := by unfold tk; rw [if_neg h1, if_pos h2]
        rw [pre, e, h1', cn_false, decide_eq_true h2, cn_true]
      · have hp4 : pos ≠ 4 := by
          rintro rfl
          unfold tkL at h1'
          rw [decide_eq_false h2] at h1'
          simp at h1'
        obtain ⟨g1, g2, g3, g4, g5, g6, g7, g8, g9, hk⟩ := ih (pos + 1) _ ht1 (by omega) hv1 M (by simpa using hM) (by omega) (.n (32 - 7 * pos)) (.b (b % 128)) k (.t false) m (.t false) (.t false)
        refine ⟨g1, g2, g3, g4, g5, g6, g7, g8, g9, fun κ => ?_⟩
        have e : tk (b :: t) (7 * pos) v pos = tk t (7 * (pos + 1)) (tkV v b (7 * pos)) (pos + 1) := by
          show (if tkL b (7 * pos) = true then _ else if b < 128 then _ else tk t (7 * pos + 7) (tkV v b (7 * pos)) (pos + 1)) = _
          rw [if_neg h1, if_neg h2, show 7 * pos + 7 = 7 * (pos + 1) by omega]
        rw [pre, e, h1', cn_false, decide_eq_false h2, cn_false]
        exact hk κ
theorem t89 (N : Nat) {F : FAW} {w : FV} {l : List Nat} (h : By F w l) (hl : Bs l) (hL : l.length ≤ 1000000) (hN : l.length + 1 < N) :
    clU msgD N 89 [w, .n 32] F = .ok (.u [w64 (tk l 0 0 0).1, .n (tk l 0 0 0).2.1, .n (tk l 0 0 0).2.2]) F := by
  obtain ⟨m, rfl⟩ : ∃ m, N = m + 1 := ⟨N - 1, by omega⟩
  rw [cl89, u89_in]
  generalize clU msgD m = C
  obtain ⟨g1, g2, g3, g4, g5, g6, g7, g8, g9, k1⟩ := l89 C m h hl hL l 0 0 rfl (by omega) (by omega) m (by omega) (by omega) (.u []) (.u []) (.t false) (.u []) (.u []) (.u []) (.u [])
  simp only [Nat.mul_zero] at k1
  have k1 : ∀ κ : EX → W14 → FAW → RU, loopNU (u89_22 C m) κ m (.mk w (.n 32) (.i .u64 0) (.n 0) (.n 0) (.i .u64 0) (.n 0) (.u []) (.u []) (.t false) (.u []) (.u []) (.u []) (.u [])) F = κ .ret (.mk w (.n 32) (w64 (tk l 0 0 0).1) (.n (tk l 0 0 0).2.1) (.n (tk l 0 0 0).2.2) g1 g2 g3 g4 g5 g6 g7 g8 g9) F := k1
  simp -implicitDefEqProofs only [↓u89b, ↓seqU_eq, ↓condU_eq, ↓blockU_eq, ↓loopU_eq, ↓skipU_eq, ↓u89_0, ↓u89_1, ↓u89_2, ↓u89_4, ↓u89_5, ↓m14_mk, ↓k14_mk, ↓exU_n, ↓exU_r, ↓uLss_nn, decide_eq_false (show ¬ 32 < 1 by omega), ↓eT_t, ↓cn_false, ↓uGtr_nn, decide_eq_false (show ¬ 64 < 32 by omega), ↓k1, ↓u89r_mk]
section
variable {F : FAW} {x : Nat} {v : FV} {l : List Nat} {n e p : Nat}
theorem bylK_len {l : List Nat} {n e k : Nat} (h : bye l n e k = 0) : (byl l n e k).length = k := by
  have := bye0.mp h
  rw [byl, if_pos h, List.length_take, List.length_drop]; omega
theorem bylK_bs {l : List Nat} (hl : Bs l) (n e k : Nat) : Bs (byl l n e k) := by
  unfold byl; split
  · exact (hl.drop _).take _
  · exact Bs.nil
theorem t59 (N : Nat) (hN : 11 ≤ N) (h : Rd F x v l n e p) (hw : Wf F) (hl : Bs l) (hn : n ≤ l.length) (hL : l.length ≤ 1000000) (k : Nat) (hk : k ≤ 7) :
    ∃ F', clU msgD N 59 [.p x 0, .n k] F = .ok (w64 (beF (byl l n e k))) F' ∧ Rd F' x v l (byn l n e k) (bye l n e k) p ∧ Oth F F' x ∧ Wf F' := by
  obtain ⟨m, rfl⟩ : ∃ m, N = m + 1 := ⟨N - 1, by omega⟩
  obtain ⟨w, F1, e1, h1, b1, o1, w1⟩ := t87 m (by omega) h hw hn hL k (fun _ => by omega)
  refine ⟨F1, ?_, h1, o1, w1⟩
  rw [cl59, u59_in]
  by_cases hb : bye l n e k = 0
  · have e2 := t88 m (by omega) b1 (bylK_bs hl n e k) k hk
    rw [bylK_len hb, if_neg (by omega), if_neg (by omega), List.take_of_length_le (by rw [bylK_len hb]; exact Nat.le_refl _)] at e2
    generalize clU msgD m = C at *
    simp -implicitDefEqProofs only [↓u59b, ↓seqU_eq, ↓condU_eq, ↓skipU_eq, ↓retU_eq, ↓u59_0, ↓u59_1, ↓u59_2, ↓u59_3, ↓u59_5, ↓u59_6, ↓m6_mk, ↓k6_mk, ↓exU_n, ↓exU_r, ↓uCv_un _ _ k (show k < 18446744073709551616 by omega), ↓uCall_eq, ↓e1, ↓goOn_ok, ↓h1.g8, ↓uEq_nn, xo_t, hb, decide_true, Bool.not_true, ↓eT_t, ↓cn_false, ↓e2, ↓uExt_0, ↓uExt_1, ↓u59r_mk]
  · have hbl : byl l n e k = [] := by rw [byl, if_neg hb]
    rw [hbl]
    generalize clU msgD m = C at *
    simp -implicitDefEqProofs only [↓u59b, ↓seqU_eq, ↓condU_eq, ↓skipU_eq, ↓retU_eq, ↓u59_0, ↓u59_1, ↓u59_2, ↓u59_3, ↓u59_4, ↓m6_mk, ↓k6_mk, ↓exU_n, ↓exU_r, ↓uCv_un _ _ k (show k < 18446744073709551616 by omega), ↓uCall_eq, ↓e1, ↓goOn_ok, ↓h1.g8, ↓uEq_nn, xo_t, decide_eq_false hb, Bool.not_false, ↓eT_t, ↓cn_true, ↓u59r_mk]
    rfl
theorem beF_1 {l : List Nat} {n e : Nat} : beF (byl l n e 1) = rdb l n e := by
  unfold rdb
  by_cases hb : bye l n e 1 = 0
  · have := bylK_len hb
    match h : byl l n e 1, this with
    | [b], _ => simp [beF]
  · rw [byl, if_neg hb]; rfl
theorem beF_4 {l : List Nat} {n e : Nat} : beF (byl l n e 4) = rdn l n e := by
  unfold rdn
  by_cases hb : bye l n e 4 = 0
  · have := bylK_len hb
    match h : byl l n e 4, this with
    | [a, b, c, d], _ => simp [beF, be4]
  · rw [byl, if_neg hb]; rfl
theorem t58 (N : Nat) (hN : 12 ≤ N) (h : Rd F x v l n e p) (hw : Wf F) (hl : Bs l) (hn : n ≤ l.length) (hL : l.length ≤ 1000000) (c : Nat) :
    ∃ F', clU msgD N 58 [.p x 0, .b c] F = .ok (.u []) F' ∧ Rd F' x v l (byn l n e 1) (fls (bye l n e 1) (!decide (rdb l n e = c)) 2) p ∧ Oth F F' x ∧ Wf F' := by
  obtain ⟨m, rfl⟩ : ∃ m, N = m + 1 := ⟨N - 1, by omega⟩
  obtain ⟨F1, e1, h1, o1, w1⟩ := t59 m (by omega) h hw hl hn hL 1 (by omega)
  rw [beF_1] at e1
  have hlt := rdb_lt hl n e
  rw [cl58, u58_in]
  by_cases hc : rdb l n e = c
  · refine ⟨F1, ?_, by rw [decide_eq_true hc]; exact h1, o1, w1⟩
    generalize clU msgD m = C at *
    simp -implicitDefEqProofs only [↓u58b, ↓seqU_eq, ↓condU_eq, ↓skipU_eq, ↓u58_0, ↓u58_1, ↓m3_mk, ↓k3_mk, ↓exU_n, ↓uCall_eq, ↓e1, ↓goOn_ok, ↓uCv_bw, Nat.mod_eq_of_lt hlt, ↓uNe_bb, decide_eq_true hc, Bool.not_true, ↓eT_t, ↓cn_false, ↓u58r_mk]
  · obtain ⟨F2, e2, h2, o2, w2⟩ := t86 m (by omega) h1 w1 2
    refine ⟨F2, ?_, by rw [decide_eq_false hc]; exact h2, o1.trans o2, w2⟩
    generalize clU msgD m = C at *
    simp -implicitDefEqProofs only [↓u58b, ↓seqU_eq, ↓condU_eq, ↓skipU_eq, ↓u58_0, ↓u58_1, ↓u58_2, ↓m3_mk, ↓k3_mk, ↓exU_n, ↓uCall_eq, ↓e1, ↓e2, ↓goOn_ok, ↓uCv_bw, Nat.mod_eq_of_lt hlt, ↓uNe_bb, decide_eq_false hc, Bool.not_false, ↓eT_t, ↓cn_true, ↓u58r_mk]
theorem t60 (N : Nat) (hN : 1 ≤ N) (h : Rd F x v l n e p) (hw : Wf F) (k : Nat) :
    ∃ F', clU msgD N 60 [.p x 0, .n k] F = .ok (.u []) F' ∧ Rd F' x v l n (fls e (!mayB k) 2) p ∧ Oth F F' x ∧ Wf F' := by
  obtain ⟨m, rfl⟩ : ∃ m, N = m + 1 := ⟨N - 1, by omega⟩
  rw [cl60, u60_in]
  generalize clU msgD m = C
  by_cases he : e = 0
  · subst he
    by_cases hk : 1 ≤ k ∧ k ≤ 4
    · refine ⟨F, ?_, by unfold mayB fls; simp [hk.1, hk.2]; exact h, Oth.refl _ _, hw⟩
      simp -implicitDefEqProofs only [↓u60b, ↓seqU_eq, ↓condU_eq, ↓skipU_eq, ↓u60_0, ↓u60_1, ↓m3_mk, ↓k3_mk, ↓exU_n, ↓h.g8, ↓uEq_nn, xo_f, decide_true, ↓eT_t, ↓cn_true, ↓cn_false, ↓uLss_nn, decide_eq_false (show ¬ k < 1 by omega), ↓uGtr_nn, decide_eq_false (show ¬ 4 < k by omega), ↓u60r_mk]
    · refine ⟨F.put x (rdc p v l n 2), ?_, ?_, Oth.put _ _ _, hw.put _ _⟩
      · by_cases h1 : k < 1
        · simp -implicitDefEqProofs only [↓u60b, ↓seqU_eq, ↓condU_eq, ↓skipU_eq, ↓u60_0, ↓u60_1, ↓u60_2, ↓m3_mk, ↓k3_mk, ↓exU_n, ↓h.g8, ↓uEq_nn, xo_f, decide_true, ↓eT_t, ↓cn_true, ↓cn_false, ↓uLss_nn, decide_eq_true h1, ↓uNilc_p, ↓uFad_p, Nat.zero_add, ↓h.s8, ↓u60r_mk]
        · simp -implicitDefEqProofs only [↓u60b, ↓seqU_eq, ↓condU_eq, ↓skipU_eq, ↓u60_0, ↓u60_1, ↓u60_2, ↓m3_mk, ↓k3_mk, ↓exU_n, ↓h.g8, ↓uEq_nn, xo_f, decide_true, ↓eT_t, ↓cn_true, ↓cn_false, ↓uLss_nn, decide_eq_false h1, ↓uGtr_nn, decide_eq_true (show 4 < k by omega), ↓uNilc_p, ↓uFad_p, Nat.zero_add, ↓h.s8, ↓u60r_mk]
      · have : (!mayB k) = true := by unfold mayB; simp; omega
        rw [this, fls_t, if_pos rfl]
        exact h.put n 2
  · refine ⟨F, ?_, ?_, Oth.refl _ _, hw⟩
    · simp -implicitDefEqProofs only [↓u60b, ↓seqU_eq, ↓condU_eq, ↓skipU_eq, ↓u60_0, ↓u60_1, ↓m3_mk, ↓k3_mk, ↓exU_n, ↓h.g8, ↓uEq_nn, xo_f, decide_eq_false he, ↓eT_t, ↓cn_false, ↓u60r_mk]
    · have : fls e (!mayB k) 2 = e := by unfold fls; split <;> simp [he]
      rw [this]; exact h
theorem t62 (N : Nat) (hN : 2 ≤ N) (h : Rd F x v l n e p) (hw : Wf F) (hn : n ≤ l.length) (hL : l.length ≤ 1000000) (k : Nat) :
    ∃ F', clU msgD N 62 [.p x 0, w64 k] F = .ok (.s (byl l n (fls e (decide (40 < k)) 4) k)) F' ∧ Rd F' x v l (byn l n (fls e (decide (40 < k)) 4) k) (bye l n (fls e (decide (40 < k)) 4) k) p ∧ Oth F F' x ∧ Wf F' := by
  obtain ⟨m, rfl⟩ : ∃ m, N = m + 1 := ⟨N - 1, by omega⟩
  rw [cl62, u62_in]
  by_cases he : e = 0
  · subst he
    by_cases hk : 40 < k
    · obtain ⟨w, F2, e2, h2, b2, o2, w2⟩ := t87 m (by omega) (h.put n 4) (hw.put x _) hn hL k (fun h => by cases h)
      have e4 : fls 0 (decide (40 < k)) 4 = 4 := by rw [decide_eq_true hk]; rfl
      rw [e4]
      refine ⟨F2, ?_, h2, (Oth.put _ _ _).trans o2, w2⟩
      generalize clU msgD m = C at *
      simp -implicitDefEqProofs only [↓u62b, ↓seqU_eq, ↓condU_eq, ↓skipU_eq, ↓retU_eq, ↓u62_0, ↓u62_1, ↓u62_2, ↓u62_3, ↓u62_4, ↓m4_mk, ↓k4_mk, ↓exU_n, ↓exU_r, ↓h.g8, ↓uEq_nn, xo_f, decide_true, ↓eT_t, ↓cn_true, w_40, uGtr_w, decide_eq_true hk, ↓uNilc_p, ↓uFad_p, Nat.zero_add, ↓h.s8, ↓uCall_eq, ↓e2, ↓goOn_ok, ↓b2.str, ↓u62r_mk]
    · obtain ⟨w, F2, e2, h2, b2, o2, w2⟩ := t87 m (by omega) h hw hn hL k (fun h => by omega)
      have e4 : fls 0 (decide (40 < k)) 4 = 0 := by rw [decide_eq_false hk]; rfl
      rw [e4]
      refine ⟨F2, ?_, h2, o2, w2⟩
      generalize clU msgD m = C at *
      simp -implicitDefEqProofs only [↓u62b, ↓seqU_eq, ↓condU_eq, ↓skipU_eq, ↓retU_eq, ↓u62_0, ↓u62_1, ↓u62_2, ↓u62_4, ↓m4_mk, ↓k4_mk, ↓exU_n, ↓exU_r, ↓h.g8, ↓uEq_nn, xo_f, decide_true, ↓eT_t, ↓cn_true, w_40, uGtr_w, decide_eq_false hk, ↓cn_false, ↓uCall_eq, ↓e2, ↓goOn_ok, ↓b2.str, ↓u62r_mk]
  · obtain ⟨w, F2, e2, h2, b2, o2, w2⟩ := t87 m (by omega) h hw hn hL k (fun h => absurd h he)
    have e4 : fls e (decide (40 < k)) 4 = e := by unfold fls; split <;> simp [he]
    rw [e4]
    refine ⟨F2, ?_, h2, o2, w2⟩
    generalize clU msgD m = C at *
    simp -implicitDefEqProofs only [↓u62b, ↓seqU_eq, ↓condU_eq, ↓skipU_eq, ↓retU_eq, ↓u62_0, ↓u62_1, ↓u62_2, ↓u62_4, ↓m4_mk, ↓k4_mk, ↓exU_n, ↓exU_r, ↓h.g8, ↓uEq_nn, xo_f, decide_eq_false he, ↓eT_t, ↓cn_false, ↓uCall_eq, ↓e2, ↓goOn_ok, ↓b2.str, ↓u62r_mk]
end
end Go.Proofs.Ytgejdfhfgphcbaa.Ev
/- The document's varint. -/
namespace Go.Proofs.Ytgejdfhfgphcbaa.Ev
open Go Go.RowKit
set_option linter.unusedVariables false
set_option linter.constructorNameAsVariable false
set_option linter.unusedSimpArgs false
set_option linter.unusedSectionVars false

theorem tk_cons (b : Nat) (t : List Nat) (p v n : Nat) : tk (b :: t) p v n = if tkL b p = true then (0, 0, 4) else if b < 128 then (tkV v b p, n + 1, 0) else tk t (p + 7) (tkV v b p) (n + 1) := rfl
theorem tk_pre : ∀ (a t : List Nat) (p v n : Nat), (tk a p v n).2.2 ≠ 3 → tk (a ++ t) p v n = tk a p v n
  | [], t, p, v, n, h => absurd rfl h
  | b :: a, t, p, v, n, h => by
    rw [tk_cons] at h
    rw [List.cons_append, tk_cons, tk_cons]
    split
    · rfl
    · rename_i h1
      rw [if_neg h1] at h
      split
      · rfl
      · rename_i h2
        rw [if_neg h2] at h
        exact tk_pre a t _ _ _ h
theorem tk_e : ∀ (a : List Nat) (p v n : Nat), (tk a p v n).2.2 = 0 ∨ tk a p v n = (0, 0, 3) ∨ tk a p v n = (0, 0, 4)
  | [], p, v, n => .inr (.inl rfl)
  | b :: a, p, v, n => by
    rw [tk_cons]
    split
    · exact .inr (.inr rfl)
    · split
      · exact .inl rfl
      · exact tk_e a _ _ _
theorem tk_n : ∀ (P : List Nat) (b p v n : Nat), (tk P p v n).2.2 = 3 → (tk (P ++ [b]) p v n).2.2 = 0 → (tk (P ++ [b]) p v n).2.1 = n + P.length + 1
  | [], b, p, v, n, _, h => by
    rw [List.nil_append, tk_cons] at h ⊢
    split at h
    · cases h
    · rename_i h1
      rw [if_neg h1]
      split at h
      · rename_i h2
        rw [if_pos h2]; rfl
      · cases h
  | c :: P, b, p, v, n, h3, h => by
    rw [tk_cons] at h3
    rw [List.cons_append, tk_cons] at h ⊢
    split at h
    · cases h
    · rename_i h1
      rw [if_neg h1] at h3 ⊢
      split at h
      · rename_i h2
        rw [if_pos h2] at h3; cases h3
      · rename_i h2
        rw [if_neg h2] at h3 ⊢
        rw [tk_n P b _ _ _ h3 h]
        simp; omega
theorem sv_eq {l : List Nat} {n : Nat} : sv l n 0 = ((tk (l.drop n) 0 0 0).1, n + (tk (l.drop n) 0 0 0).2.1, fls (fls 0 (decide ((tk (l.drop n) 0 0 0).2.2 = 4)) 2) (!decide ((tk (l.drop n) 0 0 0).2.2 = 0)) (tk (l.drop n) 0 0 0).2.2) := rfl
section
variable {x : Nat} {v : FV} {l : List Nat} {p : Nat}
theorem l61 (m N : Nat) (hm : l.length + 5 ≤ m) (hl : Bs l) (hL : l.length ≤ 1000000) (at_ : Nat) : ∀ (t P : List Nat) {F : FAW} {n : Nat}, l.drop at_ = P ++ t → (tk P 0 0 0).2.2 = 3 → n = at_ + P.length → n ≤ l.length → Rd F x v l n 0 p → Wf F → ∀ (M : Nat), t.length < M → ∀ (f g h i j k : FV),
    ∃ F' n' g1 g2 g3 g4 g5 g6, (∀ κ : EX → W10 → FAW → RU, loopNU (u61_15 (clU msgD m) N) κ M (.mk (.p x 0) (.n 32) (.i .u64 0) (.n at_) f g h i j k) F = κ .ret (.mk (.p x 0) (.n 32) (w64 (sv l at_ 0).1) (.n at_) g1 g2 g3 g4 g5 g6) F') ∧ Rd F' x v l n' (sv l at_ 0).2.2 p ∧ n' ≤ l.length ∧ ((sv l at_ 0).2.2 = 0 → n' = (sv l at_ 0).2.1) ∧ Oth F F' x ∧ Wf F' := by
  intro t
  induction t with
  | nil =>
    intro P F n hd hP hn hle hR hw M hM f g h i j k
    obtain ⟨M, rfl⟩ : ∃ M', M = M' + 1 := ⟨M - 1, by omega⟩
    rw [List.append_nil] at hd
    have hlen : l.length - n = 0 := by
      have : (l.drop at_).length = P.length := by rw [hd]
      rw [List.length_drop] at this; omega
    obtain ⟨w, F1, e1, h1, b1, o1, w1⟩ := t87 m (by omega) hR hw hle hL 1 (fun _ => by omega)
    have hb : bye l n 0 1 = 3 := by unfold bye; rw [decide_eq_true (by omega)]; rfl
    have hs : sv l at_ 0 = (0, at_ + 0, 3) := by
      rw [sv_eq, hd]
      rcases tk_e P 0 0 0 with h | h | h
      · rw [h] at hP; cases hP
      · rw [h]; rfl
      · rw [h] at hP; cases hP
    rw [hb, byn, if_neg (by rw [hb]; decide)] at h1
    refine ⟨F1, n, f, g, .t true, i, j, k, fun κ => ?_, by rw [hs]; exact h1, hle, (by rw [hs]; intro h; cases h), o1, w1⟩
    rw [loopNU_succ]
    generalize loopNU (u61_15 (clU msgD m) N) κ M = rec
    generalize clU msgD m = C at *
    have e1 : C 87 [.p x 0, .i .u64 1] F = .ok w F1 := e1
    simp -implicitDefEqProofs only [↓u61_15, ↓seqU_eq, ↓condU_eq, ↓blockU_eq, ↓skipU_eq, ↓retU_eq, ↓u61_2, ↓u61_3, ↓u61_4, ↓u61_5, ↓m10_mk, ↓k10_mk, ↓exU_n, ↓exU_r, ↓uCall_eq, ↓e1, ↓goOn_ok, ↓h1.g8, ↓uEq_nn, xo_t, decide_eq_false (show ¬ 3 = 0 by omega), Bool.not_false, ↓eT_t, ↓cn_true]
    rw [hs]; rfl
  | cons b t ih =>
    intro P F n hd hP hn hle hR hw M hM f g h i j k
    obtain ⟨M, rfl⟩ : ∃ M', M = M' + 1 := ⟨M - 1, by omega⟩
    have hlen : (l.drop at_).length = P.length + t.length + 1 := by rw [hd]; simp; omega
    rw [List.length_drop] at hlen
    obtain ⟨w, F1, e1, h1, b1, o1, w1⟩ := t87 m (by omega) hR hw hle hL 1 (fun _ => by omega)
    have hb : bye l n 0 1 = 0 := by rw [bye0]; exact ⟨rfl, by omega⟩
    rw [hb, byn, if_pos hb] at h1
    obtain ⟨w2, e2, b2⟩ := h1.by_.cut (show at_ ≤ n + 1 by omega) (show n + 1 ≤ l.length by omega)
    have hPb : (l.drop at_).take (n + 1 - at_) = P ++ [b] := by
      rw [hd, show n + 1 - at_ = P.length + 1 by omega, List.take_append, List.take_of_length_le (Nat.le_succ _)]
      simp
    rw [hPb] at b2
    have hbs : Bs (P ++ [b]) := by rw [← hPb]; exact (hl.drop _).take _
    have e3 := t89 m b2 hbs (by rw [← hPb, List.length_take, List.length_drop]; omega) (by rw [← hPb, List.length_take, List.length_drop]; omega)
    have hda : l.drop at_ = (P ++ [b]) ++ t := by rw [hd]; simp
    have e1' : clU msgD m 87 [.p x 0, .i .u64 1] F = .ok w F1 := e1
    rcases tk_e (P ++ [b]) 0 0 0 with h0 | h3 | h4
    · -- it ends here
      have hs : sv l at_ 0 = ((tk (P ++ [b]) 0 0 0).1, at_ + (tk (P ++ [b]) 0 0 0).2.1, 0) := by
        rw [sv_eq, hda, tk_pre _ _ _ _ _ (by rw [h0]; decide), h0]; rfl
      have hk := tk_n P b 0 0 0 hP h0
      rw [h0] at e3
      refine ⟨F1, n + 1, w64 (tk (P ++ [b]) 0 0 0).1, .n 0, .t false, .n 0, .t true, k, fun κ => ?_, by rw [hs]; exact h1, by omega, (by rw [hs]; intro _; show n + 1 = at_ + _; omega), o1, w1⟩
      rw [loopNU_succ, hs]
      generalize loopNU (u61_15 (clU msgD m) N) κ M = rec
      generalize clU msgD m = C at *
      simp -implicitDefEqProofs only [↓u61_15, ↓seqU_eq, ↓condU_eq, ↓blockU_eq, ↓skipU_eq, ↓retU_eq, ↓u61_2, ↓u61_3, ↓u61_4, ↓u61_6, ↓u61_7, ↓u61_8, ↓u61_9, ↓u61_10, ↓m10_mk, ↓k10_mk, ↓exU_n, ↓exU_r, ↓uCall_eq, ↓e1', ↓goOn_ok, ↓h1.g8, ↓uEq_nn, xo_t, xo_f, decide_true, Bool.not_true, ↓eT_t, ↓cn_false, ↓cn_true, ↓h1.g4, ↓h1.g5, ↓e2, ↓e3, ↓uExt_0, ↓uExt_1, ↓uExt_2]
    · -- more is to come
      rw [h3] at e3
      obtain ⟨F2, n', g1, g2, g3, g4, g5, g6, k1, k2, k3, k4, k5, k6⟩ := ih (P ++ [b]) hda (by rw [h3]) (by rw [hn]; simp; omega) (by omega) h1 w1 M (by simpa using hM) (w64 0) (.n 3) (.t false) (.n 3) (.t false) (.t false)
      refine ⟨F2, n', g1, g2, g3, g4, g5, g6, fun κ => ?_, k2, k3, k4, o1.trans k5, k6⟩
      have k1' := k1 κ
      clear k1
      rw [loopNU_succ]
      generalize loopNU (u61_15 (clU msgD m) N) κ M = rec at k1' ⊢
      generalize clU msgD m = C at *
      simp -implicitDefEqProofs only [↓u61_15, ↓seqU_eq, ↓condU_eq, ↓blockU_eq, ↓skipU_eq, ↓retU_eq, ↓u61_2, ↓u61_3, ↓u61_4, ↓u61_6, ↓u61_7, ↓u61_8, ↓u61_9, ↓u61_11, ↓u61_12, ↓m10_mk, ↓k10_mk, ↓exU_n, ↓exU_r, ↓uCall_eq, ↓e1', ↓goOn_ok, ↓h1.g8, ↓uEq_nn, xo_t, xo_f, decide_true, Bool.not_true, ↓eT_t, ↓cn_false, ↓cn_true, ↓h1.g4, ↓h1.g5, ↓e2, ↓e3, ↓uExt_0, ↓uExt_1, ↓uExt_2, decide_eq_false (show ¬ 3 = 0 by omega), decide_eq_false (show ¬ 3 = 4 by omega)]
      exact k1'
    · -- too long
      have hs : sv l at_ 0 = (0, at_ + 0, 2) := by
        rw [sv_eq, hda, tk_pre _ _ _ _ _ (by rw [h4]; decide), h4]; rfl
      rw [h4] at e3
      refine ⟨F1.put x (rdc p v l (n + 1) 2), n + 1, w64 0, .n 4, .t false, .n 4, .t false, .t true, fun κ => ?_, by rw [hs]; exact h1.put (n + 1) 2, by omega, (by rw [hs]; intro h; cases h), o1.trans (Oth.put _ _ _), w1.put _ _⟩
      rw [loopNU_succ, hs]
      generalize loopNU (u61_15 (clU msgD m) N) κ M = rec
      generalize clU msgD m = C at *
      simp -implicitDefEqProofs only [↓u61_15, ↓seqU_eq, ↓condU_eq, ↓blockU_eq, ↓skipU_eq, ↓retU_eq, ↓u61_2, ↓u61_3, ↓u61_4, ↓u61_6, ↓u61_7, ↓u61_8, ↓u61_9, ↓u61_11, ↓u61_12, ↓u61_13, ↓u61_14, ↓m10_mk, ↓k10_mk, ↓exU_n, ↓exU_r, ↓uCall_eq, ↓e1', ↓goOn_ok, ↓h1.g8, ↓uEq_nn, xo_t, xo_f, decide_true, Bool.not_true, ↓eT_t, ↓cn_false, ↓cn_true, ↓h1.g4, ↓h1.g5, ↓e2, ↓e3, ↓uExt_0, ↓uExt_1, ↓uExt_2, decide_eq_false (show ¬ 4 = 0 by omega), ↓uNilc_p, ↓uFad_p, Nat.zero_add, ↓h1.s8]
      rfl
theorem t61 (N : Nat) (hN : l.length + 6 ≤ N) (hl : Bs l) (hL : l.length ≤ 1000000) {F : FAW} {n e : Nat} (h : Rd F x v l n e p) (hw : Wf F) (hn : n ≤ l.length) :
    ∃ F' n', clU msgD N 61 [.p x 0, .n 32] F = .ok (w64 (sv l n e).1) F' ∧ Rd F' x v l n' (sv l n e).2.2 p ∧ n' ≤ l.length ∧ ((sv l n e).2.2 = 0 → n' = (sv l n e).2.1) ∧ Oth F F' x ∧ Wf F' := by
  obtain ⟨m, rfl⟩ : ∃ m, N = m + 1 := ⟨N - 1, by omega⟩
  rw [cl61, u61_in]
  by_cases he : e = 0
  · subst he
    obtain ⟨F', n', g1, g2, g3, g4, g5, g6, k1, k2, k3, k4, k5, k6⟩ := l61 m m (by omega) hl hL n (l.drop n) [] rfl rfl rfl hn h hw m (by rw [List.length_drop]; omega) (.u []) (.u []) (.u []) (.u []) (.u []) (.u [])
    refine ⟨F', n', ?_, k2, k3, k4, k5, k6⟩
    generalize clU msgD m = C at *
    simp -implicitDefEqProofs only [↓u61b, ↓seqU_eq, ↓blockU_eq, ↓loopU_eq, ↓u61_0, ↓u61_1, ↓m10_mk, ↓exU_n, ↓exU_r, ↓h.g5, ↓k1, ↓u61r_mk]
  · obtain ⟨w, F1, e1, h1, b1, o1, w1⟩ := t87 m (by omega) h hw hn hL 1 (fun h => absurd h he)
    obtain ⟨q1, q2, q3⟩ := bye_ne he l n 1
    rw [q1, q2] at h1
    have hs : sv l n e = (0, n, e) := by unfold sv; rw [if_neg he]
    rw [hs]
    refine ⟨F1, n, ?_, h1, hn, fun _ => rfl, o1, w1⟩
    obtain ⟨k, rfl⟩ : ∃ k, m = k + 1 := ⟨m - 1, by omega⟩
    have e1 : clU msgD (k + 1) 87 [.p x 0, .i .u64 1] F = .ok w F1 := e1
    generalize clU msgD (k + 1) = C at *
    simp -implicitDefEqProofs only [↓u61b, ↓seqU_eq, ↓condU_eq, ↓blockU_eq, ↓loopU_eq, ↓loopNU_succ, ↓u61_15, ↓skipU_eq, ↓retU_eq, ↓u61_0, ↓u61_1, ↓u61_2, ↓u61_3, ↓u61_4, ↓u61_5, ↓m10_mk, ↓k10_mk, ↓exU_n, ↓exU_r, ↓h.g5, ↓uCall_eq, ↓e1, ↓goOn_ok, ↓h1.g8, ↓uEq_nn, xo_t, decide_eq_false he, Bool.not_false, ↓eT_t, ↓cn_true, ↓u61r_mk]
    rfl
end
end Go.Proofs.Ytgejdfhfgphcbaa.Ev
/- The document's TakeHead. -/
namespace Go.Proofs.Ytgejdfhfgphcbaa.Ev
open Go Go.RowKit
set_option linter.unusedVariables false
set_option linter.constructorNameAsVariable false
set_option linter.unusedSimpArgs false
set_option linter.unusedSectionVars false

/-- The reader and the head that it fills. -/
structure RS (F : FAW) (x y : Nat) (v : FV) (l : List Nat) (s : Ps) (p : Nat) : Prop where
  rd : Rd F x v l s.n s.e p
  hr : HRow F y s.H
  hf : F.fam y = some (false, 4)
  ne : x ≠ y
  wf : Wf F
  le : s.n ≤ l.length
/-- But two rows nothing is another. -/
structure Ot (F F' : FAW) (x y : Nat) : Prop where
  row : ∀ j, j ≠ x → j ≠ y → F'.row j = F.row j
  fam : ∀ j, F'.fam j = F.fam j
  mp : ∀ j, F'.mp j = F.mp j
  x : F'.x = F.x
theorem Ot.trans {F F' F'' : FAW} {x y : Nat} (h : Ot F F' x y) (k : Ot F' F'' x y) : Ot F F'' x y :=
  ⟨fun j hj hj2 => (k.row j hj hj2).trans (h.row j hj hj2), fun j => (k.fam j).trans (h.fam j), fun j => (k.mp j).trans (h.mp j), k.x.trans h.x⟩
theorem Oth.ot {F F' : FAW} {x : Nat} (h : Oth F F' x) (y : Nat) : Ot F F' x y := ⟨fun j hj _ => h.row j hj, h.fam, h.mp, h.x⟩
theorem Oth.ot' {F F' : FAW} {y : Nat} (h : Oth F F' y) (x : Nat) : Ot F F' x y := ⟨fun j _ hj => h.row j hj, h.fam, h.mp, h.x⟩
section
variable {F F' : FAW} {x y : Nat} {v : FV} {l : List Nat} {s : Ps} {p : Nat}
theorem RS.rd' (h : RS F x y v l s p) {n e : Nat} (r : Rd F' x v l n e p) (o : Oth F F' x) (w : Wf F') (le : n ≤ l.length) : RS F' x y v l ⟨n, e, s.H⟩ p :=
  ⟨r, by show F'.row y = _; rw [o.row y (Ne.symm h.ne)]; exact h.hr, by rw [o.fam]; exact h.hf, h.ne, w, le⟩
theorem RS.st (h : RS F x y v l s p) (H : Hd) : RS (F.put y H.c) x y v l ⟨s.n, s.e, H⟩ p := by
  refine ⟨⟨?_, by rw [fam_put]; exact h.rd.fam, h.rd.by_.std ((Oth.put F y _).std (fun _ => False)) ?_⟩, ?_, by rw [fam_put]; exact h.hf, h.ne, h.wf.put _ _, h.le⟩
  · rw [row_put, if_neg h.ne]; exact h.rd.row
  · intro i r e m o hi hx
    subst hx
    have hy : F.row i = some (s.H.c, 23, 4, i, false) := h.hr
    rw [hy] at hi
    simp at hi
  · have hy : F.row y = some (s.H.c, 23, 4, y, false) := h.hr
    show (F.put y H.c).row y = _
    rw [row_put, if_pos rfl, hy]; rfl
theorem RS.s0 (h : RS F x y v l s p) (a : List Nat) (f : KU) : uSt 1 (.p y 0) (.s a) F f = f (.u []) (F.put y { s.H with nm := a }.c) := uSt_row f h.hr h.hf (Nat.le_refl 4) rfl (Fi.s _) (Fi.s _)
theorem RS.s1 (h : RS F x y v l s p) (a : Nat) (f : KU) : uSt 1 (.p y 1) (.n a) F f = f (.u []) (F.put y { s.H with kd := a }.c) := uSt_row f h.hr h.hf (Nat.le_refl 4) rfl (Fi.n _) (Fi.n _)
theorem RS.s2 (h : RS F x y v l s p) (a : Int) (f : KU) : uSt 1 (.p y 2) (.i .i32 a) F f = f (.u []) (F.put y { s.H with sq := a }.c) := uSt_row f h.hr h.hf (Nat.le_refl 4) rfl (Fi.i _ _) (Fi.i _ _)
theorem RS.s3 (h : RS F x y v l s p) (a : Bool) (f : KU) : uSt 1 (.p y 3) (.t a) F f = f (.u []) (F.put y { s.H with old := a }.c) := uSt_row f h.hr h.hf (Nat.le_refl 4) rfl (Fi.t _) (Fi.t _)
variable (h : RS F x y v l s p) (hl : Bs l) (hL : l.length ≤ 1000000)
include h hl hL
theorem q_num (N : Nat) (hN : 11 ≤ N) (k : Nat) (hk : k ≤ 7) : ∃ F', clU msgD N 59 [.p x 0, .n k] F = .ok (w64 (beF (byl l s.n s.e k))) F' ∧ RS F' x y v l ⟨byn l s.n s.e k, bye l s.n s.e k, s.H⟩ p ∧ Ot F F' x y := by
  obtain ⟨F', e, r, o, w⟩ := t59 N hN h.rd h.wf hl h.le hL k hk
  exact ⟨F', e, h.rd' r o w (byn_le h.le), o.ot y⟩
theorem q_want (N : Nat) (hN : 12 ≤ N) (c : Nat) : ∃ F', clU msgD N 58 [.p x 0, .b c] F = .ok (.u []) F' ∧ RS F' x y v l (s.is l c) p ∧ Ot F F' x y := by
  obtain ⟨F', e, r, o, w⟩ := t58 N hN h.rd h.wf hl h.le hL c
  exact ⟨F', e, h.rd' r o w (byn_le h.le), o.ot y⟩
theorem q_kind (N : Nat) (hN : 1 ≤ N) (k : Nat) : ∃ F', clU msgD N 60 [.p x 0, .n k] F = .ok (.u []) F' ∧ RS F' x y v l ⟨s.n, fls s.e (!mayB k) 2, s.H⟩ p ∧ Ot F F' x y := by
  obtain ⟨F', e, r, o, w⟩ := t60 N hN h.rd h.wf k
  exact ⟨F', e, h.rd' r o w h.le, o.ot y⟩
theorem q_name (N : Nat) (hN : 2 ≤ N) (k : Nat) : ∃ F', clU msgD N 62 [.p x 0, w64 k] F = .ok (.s (byl l s.n (fls s.e (decide (40 < k)) 4) k)) F' ∧ RS F' x y v l ⟨byn l s.n (fls s.e (decide (40 < k)) 4) k, bye l s.n (fls s.e (decide (40 < k)) 4) k, s.H⟩ p ∧ Ot F F' x y := by
  obtain ⟨F', e, r, o, w⟩ := t62 N hN h.rd h.wf h.le hL k
  exact ⟨F', e, h.rd' r o w (byn_le h.le), o.ot y⟩
theorem q_var (N : Nat) (hN : l.length + 6 ≤ N) : ∃ F' n', clU msgD N 61 [.p x 0, .n 32] F = .ok (w64 (sv l s.n s.e).1) F' ∧ RS F' x y v l ⟨n', (sv l s.n s.e).2.2, s.H⟩ p ∧ ((sv l s.n s.e).2.2 = 0 → n' = (sv l s.n s.e).2.1) ∧ Ot F F' x y := by
  obtain ⟨F', n', e, r, le, q, o, w⟩ := t61 N hN hl hL h.rd h.wf h.le
  exact ⟨F', n', e, h.rd' r o w le, q, o.ot y⟩
/-- A name of a length of four bytes, noted. -/
theorem q_nm (N : Nat) (hN : 12 ≤ N) : ∃ a b F1 F2 F', clU msgD N 59 [.p x 0, .n 4] F = .ok a F1 ∧ clU msgD N 62 [.p x 0, a] F1 = .ok b F2 ∧ (∀ f : KU, uSt 1 (.p y 0) b F2 f = f (.u []) F') ∧ RS F' x y v l (s.nm l) p ∧ Ot F F' x y := by
  obtain ⟨F1, e1, r1, o1⟩ := q_num h hl hL N (by omega) 4 (by omega)
  rw [beF_4] at e1
  obtain ⟨F2, e2, r2, o2⟩ := q_name r1 hl hL N (by omega) (rdn l s.n s.e)
  refine ⟨_, _, F1, F2, _, e1, e2, fun f => r2.s0 _ f, r2.st _, (o1.trans o2).trans ((Oth.put _ _ _).ot' x)⟩
theorem q_kd (N : Nat) (hN : 12 ≤ N) : ∃ k F1 F2 F', k < 256 ∧ clU msgD N 59 [.p x 0, .n 1] F = .ok (w64 k) F1 ∧ (∀ f : KU, uSt 1 (.p y 1) (.n k) F1 f = f (.u []) F2) ∧ (∀ f : KU, uLd none (.p y 1) F2 f = f (.n k) F2) ∧ clU msgD N 60 [.p x 0, .n k] F2 = .ok (.u []) F' ∧ RS F' x y v l (s.kd l) p ∧ Ot F F' x y := by
  obtain ⟨F1, e1, r1, o1⟩ := q_num h hl hL N (by omega) 1 (by omega)
  rw [beF_1] at e1
  have r2 := r1.st { s.H with kd := rdb l s.n s.e }
  obtain ⟨F3, e3, r3, o3⟩ := q_kind r2 hl hL N (by omega) (rdb l s.n s.e)
  exact ⟨_, F1, _, F3, rdb_lt hl _ _, e1, fun f => r1.s1 _ f, fun f => r2.hr.l1 f, e3, r3, (o1.trans ((Oth.put _ _ _).ot' x)).trans o3⟩
theorem q_sq (N : Nat) (hN : 12 ≤ N) : ∃ k F1 F', clU msgD N 59 [.p x 0, .n 4] F = .ok (w64 k) F1 ∧ (∀ f : KU, uSt 1 (.p y 2) (.i .i32 (i32 k)) F1 f = f (.u []) F') ∧ RS F' x y v l (s.sq l) p ∧ Ot F F' x y := by
  obtain ⟨F1, e1, r1, o1⟩ := q_num h hl hL N (by omega) 4 (by omega)
  rw [beF_4] at e1
  exact ⟨_, F1, _, e1, fun f => r1.s2 _ f, r1.st _, o1.trans ((Oth.put _ _ _).ot' x)⟩
omit hl hL in
theorem q_on : (∀ f : KU, uSt 1 (.p y 3) (.t true) F f = f (.u []) (F.put y { s.H with old := true }.c)) ∧ RS (F.put y { s.H with old := true }.c) x y v l s.on p ∧ Ot F (F.put y { s.H with old := true }.c) x y :=
  ⟨fun f => h.s3 _ f, h.st _, (Oth.put _ _ _).ot' x⟩
end
section
variable {F : FAW} {x y : Nat} {v : FV} {l : List Nat} {s : Ps}
theorem and_31 (k : Nat) : k &&& 31 = k % 32 := Nat.and_two_pow_sub_one_eq_mod k 5
theorem fls_ne {e : Nat} (he : ¬ e = 0) (b : Bool) (c : Nat) : fls e b c = e := by unfold fls; split <;> simp [he]
/-- What a state with an error and another with the same one have alike. -/
def Like (a b : Ps) : Prop := a.e = b.e ∧ (b.e = 0 → a = b)
theorem sv_ne {l : List Nat} {n e : Nat} (he : ¬ e = 0) : sv l n e = (0, n, e) := by unfold sv; rw [if_neg he]
theorem like_svn {a b : Ps} (h : Like a b) : (Ps.svn l a).e = (Ps.svn l b).e ∧ ((Ps.svn l b).e = 0 → Ps.svn l a = Ps.svn l b) := by
  obtain ⟨h1, h2⟩ := h
  by_cases hb : b.e = 0
  · have := h2 hb; subst this; exact ⟨rfl, fun _ => rfl⟩
  · have ha : ¬ a.e = 0 := by rw [h1]; exact hb
    simp only [Ps.svn, sv_ne ha, sv_ne hb, fls_ne ha, fls_ne hb, (bye_ne ha l a.n 0).1, (bye_ne hb l b.n 0).1]
    exact ⟨h1, fun h => absurd h hb⟩
theorem w_32 : FV.i .u64 32 = w64 32 := rfl
theorem w_1' : FV.i .u64 1 = w64 1 := rfl
theorem q_ver (C : CU) {F : FAW} {s : Ps} {p : Nat} (h : RS F x y v l s p) (k : Nat) (a c d e f j k' l' mm o : FV) :
    ∃ F' l'', (∀ κ : EX → W13 → FAW → RU, (seqU (u17_10 C) (condU u17_11 (u17_12 C) (skipU))) (.mk a c d e f (.p x 0) (.p y 0) (w64 k) j k' l' mm o) F κ = κ .normal (.mk a c d e f (.p x 0) (.p y 0) (w64 k) j k' l'' mm o) F') ∧ RS F' x y v l ⟨s.n, fls s.e (!decide (k &&& 31 = 1)) 2, s.H⟩ p ∧ Ot F F' x y := by
  by_cases he : s.e = 0
  · by_cases hk : k % 32 = 1
    · refine ⟨F, .t false, fun κ => ?_, ?_, (Oth.refl F x).ot y⟩
      · simp -implicitDefEqProofs only [↓seqU_eq, ↓condU_eq, ↓skipU_eq, ↓u17_10, ↓u17_11, ↓m13_mk, ↓k13_mk, ↓exU_n, ↓h.rd.g8, ↓uEq_nn, xo_f, decide_eq_true he, ↓eT_t, ↓cn_true, w_32, w_1', ↓uRem_w _ k 32 (by decide), uNe_ww, decide_eq_true hk, Bool.not_true, ↓cn_false]
      · rw [and_31, decide_eq_true hk]; exact h
    · refine ⟨F.put x (rdc p v l s.n 2), .t true, fun κ => ?_, ?_, (Oth.put _ _ _).ot y⟩
      · simp -implicitDefEqProofs only [↓seqU_eq, ↓condU_eq, ↓skipU_eq, ↓u17_10, ↓u17_11, ↓u17_12, ↓m13_mk, ↓k13_mk, ↓exU_n, ↓h.rd.g8, ↓uEq_nn, xo_f, decide_eq_true he, ↓eT_t, ↓cn_true, w_32, w_1', ↓uRem_w _ k 32 (by decide), uNe_ww, decide_eq_false hk, Bool.not_false, ↓uNilc_p, ↓uFad_p, Nat.zero_add, ↓h.rd.s8]
      · rw [and_31, decide_eq_false hk, he]
        exact h.rd' (h.rd.put s.n 2) (Oth.put _ _ _) (h.wf.put _ _) h.le
  · refine ⟨F, .t false, fun κ => ?_, ?_, (Oth.refl F x).ot y⟩
    · simp -implicitDefEqProofs only [↓seqU_eq, ↓condU_eq, ↓skipU_eq, ↓u17_10, ↓u17_11, ↓m13_mk, ↓k13_mk, ↓exU_n, ↓h.rd.g8, ↓uEq_nn, xo_f, decide_eq_false he, ↓eT_t, ↓cn_false]
    · rw [fls_ne he]; exact h
/-- Of TCompact. -/
theorem q_cmp (hl : Bs l) (hL : l.length ≤ 1000000) (m : Nat) (hm : l.length + 20 ≤ m) (h : RS F x y v l ps0 1) (a c d e f i j k' l' mm o : FV) (C : CU) (hC : C = clU msgD m) :
    ∃ F' s' i' l'', (∀ κ : EX → W13 → FAW → RU, (seqU (u17_8 C) (seqU (u17_9 C) (seqU (seqU (u17_10 C) (condU u17_11 (u17_12 C) (skipU))) (seqU (u17_13 C) (seqU (u17_14 C) (seqU (u17_15 C) (u17_16 C))))))) (.mk a c d e f (.p x 0) (.p y 0) i j k' l' mm o) F κ = κ .normal (.mk a c d e f (.p x 0) (.p y 0) i' j k' l'' mm o) F') ∧ RS F' x y v l s' 1 ∧ Like s' (cmpP l ps0) ∧ Ot F F' x y := by
  obtain ⟨F1, e1, r1, o1⟩ := q_want h hl hL m (by omega) 130
  obtain ⟨F2, e2, r2, o2⟩ := q_num r1 hl hL m (by omega) 1 (by omega)
  rw [beF_1] at e2
  have hlt := rdb_lt hl (ps0.is l 130).n (ps0.is l 130).e
  generalize hk : rdb l (ps0.is l 130).n (ps0.is l 130).e = k at *
  obtain ⟨F3, l3, e3, r3, o3⟩ := q_ver C r2 k a c d e f j k' l' mm o
  have r4 := r3.st { (ps0.is l 130).H with kd := k / 2 ^ 5 }
  have e4 := fun f : KU => r3.s1 (k / 2 ^ 5) f
  have o4 := (Oth.put F3 y ({ (ps0.is l 130).H with kd := k / 2 ^ 5 } : Hd).c).ot' x
  have e4 : ∀ f : KU, uSt 1 (.p y 1) (.n (k / 32)) F3 f = f (.u []) (F3.put y ({ (ps0.is l 130).H with kd := k / 2 ^ 5 } : Hd).c) := e4
  have g4 : ∀ f : KU, uLd none (.p y 1) (F3.put y ({ (ps0.is l 130).H with kd := k / 2 ^ 5 } : Hd).c) f = f (.n (k / 32)) (F3.put y ({ (ps0.is l 130).H with kd := k / 2 ^ 5 } : Hd).c) := fun f => r4.hr.l1 f
  generalize F3.put y ({ (ps0.is l 130).H with kd := k / 2 ^ 5 } : Hd).c = F4 at *
  obtain ⟨F5, e5, r5, o5⟩ := q_kind r4 hl hL m (by omega) (k / 2 ^ 5)
  have e5 : clU msgD m 60 [.p x 0, .n (k / 32)] F4 = .ok (.u []) F5 := e5
  have r5 : RS F5 x y v l (Ps.ver l (Ps.is l ps0 130)) 1 := by
    have : Ps.ver l (Ps.is l ps0 130) = ⟨byn l (ps0.is l 130).n (ps0.is l 130).e 1, fls (fls (bye l (ps0.is l 130).n (ps0.is l 130).e 1) (!decide (k &&& 31 = 1)) 2) (!mayB (k / 2 ^ 5)) 2, { (ps0.is l 130).H with kd := k / 2 ^ 5 }⟩ := by
      unfold Ps.ver; rw [hk]
    rw [this]; exact r5
  generalize hs1 : Ps.ver l (Ps.is l ps0 130) = s1 at *
  obtain ⟨F6, n6, e6, r6, q6, o6⟩ := q_var r5 hl hL m (by omega)
  have r7 := r6.st { s1.H with sq := i32 (sv l s1.n s1.e).1 }
  have e7 := fun f : KU => r6.s2 (i32 (sv l s1.n s1.e).1) f
  have o7 := (Oth.put F6 y ({ s1.H with sq := i32 (sv l s1.n s1.e).1 } : Hd).c).ot' x
  simp only at r7 e7
  generalize F6.put y ({ s1.H with sq := i32 (sv l s1.n s1.e).1 } : Hd).c = F7 at *
  have lk1 : Like ⟨n6, (sv l s1.n s1.e).2.2, { s1.H with sq := i32 (sv l s1.n s1.e).1 }⟩ (s1.svq l) := ⟨rfl, fun h => by
    have := q6 h
    unfold Ps.svq
    rw [← this]⟩
  generalize hs2 : (⟨n6, (sv l s1.n s1.e).2.2, { s1.H with sq := i32 (sv l s1.n s1.e).1 }⟩ : Ps) = s2 at *
  obtain ⟨F8, n8, e8, r8, q8, o8⟩ := q_var r7 hl hL m (by omega)
  obtain ⟨F9, e9, r9, o9⟩ := q_name r8 hl hL m (by omega) (sv l s2.n s2.e).1
  simp only at r9 e9
  have r10 := r9.st { s2.H with nm := byl l n8 (fls (sv l s2.n s2.e).2.2 (decide (40 < (sv l s2.n s2.e).1)) 4) (sv l s2.n s2.e).1 }
  have e10 := fun f : KU => r9.s0 (byl l n8 (fls (sv l s2.n s2.e).2.2 (decide (40 < (sv l s2.n s2.e).1)) 4) (sv l s2.n s2.e).1) f
  have o10 := (Oth.put F9 y ({ s2.H with nm := byl l n8 (fls (sv l s2.n s2.e).2.2 (decide (40 < (sv l s2.n s2.e).1)) 4) (sv l s2.n s2.e).1 } : Hd).c).ot' x
  simp only at r10 e10
  refine ⟨_, _, w64 k, l3, fun κ => ?_, r10, ?_, (((((((((o1.trans o2).trans o3).trans o4).trans o5).trans o6).trans o7).trans o8).trans o9).trans o10)⟩
  · subst hC
    generalize clU msgD m = C at *
    generalize seqU (u17_10 C) (condU u17_11 (u17_12 C) (skipU)) = Q at e3 ⊢
    simp -implicitDefEqProofs only [↓seqU_eq, ↓u17_8, ↓u17_9, ↓u17_13, ↓u17_14, ↓u17_15, ↓u17_16, ↓m13_mk, ↓exU_n, ↓uCall_eq, ↓e1, ↓e2, ↓goOn_ok, ↓e3, w_32, ↓uDiv_w _ k 32 (show k < 18446744073709551616 by omega) (by decide), ↓uCv_nw _ _ (k / 32) (show k / 32 ≤ 9223372036854775807 by omega), ↓uFad_p, Nat.zero_add, ↓e4, ↓g4, ↓e5, ↓e6, uCv_u32, uCv_i32, ↓e7, ↓e8, ↓e9, ↓e10]
  · -- alike
    have lk2 : Like ⟨byn l n8 (fls (sv l s2.n s2.e).2.2 (decide (40 < (sv l s2.n s2.e).1)) 4) (sv l s2.n s2.e).1, bye l n8 (fls (sv l s2.n s2.e).2.2 (decide (40 < (sv l s2.n s2.e).1)) 4) (sv l s2.n s2.e).1, { s2.H with nm := byl l n8 (fls (sv l s2.n s2.e).2.2 (decide (40 < (sv l s2.n s2.e).1)) 4) (sv l s2.n s2.e).1 }⟩ (s2.svn l) := by
      by_cases he : (sv l s2.n s2.e).2.2 = 0
      · have := q8 he
        subst this
        exact ⟨rfl, fun _ => rfl⟩
      · have e1 : fls (sv l s2.n s2.e).2.2 (decide (40 < (sv l s2.n s2.e).1)) 4 = (sv l s2.n s2.e).2.2 := fls_ne he _ _
        refine ⟨?_, fun h => ?_⟩
        · show bye l n8 _ _ = bye l _ _ _
          rw [e1, (bye_ne he l n8 _).1, (bye_ne he l _ _).1]
        · exfalso
          have : bye l (sv l s2.n s2.e).2.1 (fls (sv l s2.n s2.e).2.2 (decide (40 < (sv l s2.n s2.e).1)) 4) (sv l s2.n s2.e).1 = 0 := h
          rw [e1, (bye_ne he l _ _).1] at this
          exact he this
    have lk3 := like_svn (l := l) lk1
    have hc : cmpP l ps0 = Ps.svn l (s1.svq l) := by unfold cmpP; rw [hs1]
    rw [hc]
    refine ⟨lk2.1.trans lk3.1, fun h => ?_⟩
    rw [← lk3.2 h]
    exact lk2.2 (lk3.1.trans h)
end
end Go.Proofs.Ytgejdfhfgphcbaa.Ev
/- The document's TakeHead, whole. -/
namespace Go.Proofs.Ytgejdfhfgphcbaa.Ev
open Go Go.RowKit
set_option linter.unusedVariables false
set_option linter.constructorNameAsVariable false
set_option linter.unusedSimpArgs false
set_option linter.unusedSectionVars false

section
variable {F : FAW} {x y : Nat} {v : FV} {l : List Nat} {s : Ps}
/-- Of TBinary. -/
theorem q_bin (hl : Bs l) (hL : l.length ≤ 1000000) (m : Nat) (hm : 20 ≤ m) (h : RS F x y v l ps0 0) (a d e f i j k' l' mm o : FV) (C : CU) (hC : C = clU msgD m) :
    ∃ F' m', (∀ κ : EX → W13 → FAW → RU, (seqU (u17_17 C) (condU u17_18 (seqU (u17_19 C) (seqU (u17_20 C) (seqU (u17_21 C) (seqU (u17_22 C) (u17_23 C))))) (seqU (u17_24 C) (seqU (u17_25 C) (seqU (u17_26 C) (seqU (u17_27 C) (seqU (u17_28 C) (seqU (u17_29 C) (u17_30 C))))))))) (.mk a v d e f (.p x 0) (.p y 0) i j k' l' mm o) F κ = κ .normal (.mk a v d e f (.p x 0) (.p y 0) i j k' l' m' o) F') ∧ RS F' x y v l (binP l ps0) 0 ∧ Ot F F' x y := by
  have htest : ∀ κ : EX → W13 → FAW → RU, u17_17 C (.mk a v d e f (.p x 0) (.p y 0) i j k' l' mm o) F κ = κ .normal (.mk a v d e f (.p x 0) (.p y 0) i j k' l' (.t (olds l)) o) F := fun κ => by
    have hb := h.rd.by_
    cases l with
    | nil =>
      simp -implicitDefEqProofs only [↓u17_17, ↓m13_mk, ↓hb.len, ↓uGtr_nn, List.length_nil, decide_eq_false (show ¬ 0 < 0 by omega), ↓eT_t, ↓cn_false]
      rfl
    | cons b t =>
      simp -implicitDefEqProofs only [↓u17_17, ↓m13_mk, ↓hb.len, ↓uGtr_nn, List.length_cons, decide_eq_true (show 0 < t.length + 1 by omega), ↓eT_t, ↓cn_true, ↓hb.get (show (b :: t)[0]? = some b from rfl), ↓uLss_bb]
      rfl
  by_cases ho : olds l = true
  · obtain ⟨e1, r1, o1⟩ := q_on h
    obtain ⟨a2, b2, G1, G2, F2, e2, e3, e4, r2, o2⟩ := q_nm r1 hl hL m (by omega)
    obtain ⟨k, G3, G4, F3, hk, e5, e6, e7, e8, r3, o3⟩ := q_kd r2 hl hL m (by omega)
    obtain ⟨k2, G5, F4, e9, e10, r4, o4⟩ := q_sq r3 hl hL m (by omega)
    have hb : binP l ps0 = Ps.sq l (Ps.kd l (Ps.nm l ps0.on)) := by unfold binP; rw [if_pos ho]
    rw [hb]
    refine ⟨F4, .t true, fun κ => ?_, r4, ((o1.trans o2).trans o3).trans o4⟩
    subst hC
    generalize clU msgD m = C at *
    simp -implicitDefEqProofs only [↓seqU_eq, ↓condU_eq, ↓htest, ↓u17_18, ↓u17_19, ↓u17_20, ↓u17_21, ↓u17_22, ↓u17_23, ↓m13_mk, ↓k13_mk, ↓exU_n, ho, ↓eT_t, ↓cn_true, ↓uFad_p, Nat.zero_add, ↓e1, ↓uCall_eq, ↓e2, ↓e3, ↓goOn_ok, ↓e4, ↓e5, ↓uCv_nw _ _ k (show k ≤ 9223372036854775807 by omega), ↓e6, ↓e7, ↓e8, ↓e9, uCv_u32, uCv_i32, ↓e10]
  · obtain ⟨H1, e1, r1, o1⟩ := q_want h hl hL m (by omega) 128
    obtain ⟨H2, e2, r2, o2⟩ := q_want r1 hl hL m (by omega) 1
    obtain ⟨H3, e3, r3, o3⟩ := q_want r2 hl hL m (by omega) 0
    obtain ⟨k, G3, G4, F3, hk, e5, e6, e7, e8, r4, o4⟩ := q_kd r3 hl hL m (by omega)
    obtain ⟨a2, b2, G1, G2, F2, f2, f3, f4, r5, o5⟩ := q_nm r4 hl hL m (by omega)
    obtain ⟨k2, G5, F4, e9, e10, r6, o6⟩ := q_sq r5 hl hL m (by omega)
    have hb : binP l ps0 = Ps.sq l (Ps.nm l (Ps.kd l (Ps.is l (Ps.is l (Ps.is l ps0 128) 1) 0))) := by unfold binP; rw [if_neg ho]
    rw [hb]
    refine ⟨F4, .t false, fun κ => ?_, r6, ((((o1.trans o2).trans o3).trans o4).trans o5).trans o6⟩
    have ho' : olds l = false := by simpa using ho
    subst hC
    generalize clU msgD m = C at *
    simp -implicitDefEqProofs only [↓seqU_eq, ↓condU_eq, ↓htest, ↓u17_18, ↓u17_24, ↓u17_25, ↓u17_26, ↓u17_27, ↓u17_28, ↓u17_29, ↓u17_30, ↓m13_mk, ↓k13_mk, ↓exU_n, ho', ↓eT_t, ↓cn_false, ↓uFad_p, Nat.zero_add, ↓uCall_eq, ↓e1, ↓e2, ↓e3, ↓goOn_ok, ↓f4, ↓e5, ↓uCv_nw _ _ k (show k ≤ 9223372036854775807 by omega), ↓e6, ↓e7, ↓e8, ↓f2, ↓f3, ↓e9, uCv_u32, uCv_i32, ↓e10]
end
theorem hd_newA (F : FAW) (H : Hd) : HRow (F.new H.c 23 4) F.x H := by show (F.new H.c 23 4).row F.x = _; rw [row_new, if_pos rfl]
theorem new_rd (F : FAW) (f : KU) {v : FV} {l : List Nat} (p : Nat) (hv : By F v l) (hL : l.length ≤ 1000000) : (uLen false v F fun v0 S => uAdd v0 (.n 100) S fun v1 S => uBuildF [(.n 0), (.n 0)] [(1, 1, v1)] S fun v2 S => uBuildF [.nl, .nl, .nl, (.n 0), .nl, (.n 0), (.n 0), (.n 0), (.n 0)] [(3, 1, .n p), (4, 1, v), (6, 2, v2)] S fun v3 S => uBox 84 9 v3 S f) = f (.p F.x 0) (F.new (rdc p v l 0 0) 84 9) := by
  rw [hv.len, uAdd_nn _ _ (by omega)]
  have e : (uBuildF [(.n 0), (.n 0)] [(1, 1, .n (l.length + 100))] F fun v2 S => uBuildF [.nl, .nl, .nl, (.n 0), .nl, (.n 0), (.n 0), (.n 0), (.n 0)] [(3, 1, .n p), (4, 1, v), (6, 2, v2)] S fun v3 S => uBox 84 9 v3 S f) = uBox 84 9 (.a (rdc p v l 0 0)) F f := by
    rcases hv with ⟨rfl, _⟩ | ⟨i, o, c, el, m, ro, cells, rfl, _⟩ <;> rfl
  rw [e, uBox_a]
theorem t17 (N : Nat) {F : FAW} {w : FV} {l : List Nat} (p : Nat) (hp : p = 0 ∨ p = 1) (hN : l.length + 30 ≤ N) (hb : By F w l) (hw : Wf F) (hl : Bs l) (hL : l.length ≤ 1000000) :
    ∃ F', clU msgD N 17 [.n p, w] F = .ok (.u [.a (if (tkP p l).e = 0 then (tkP p l).H else hd0).c, .n (if (tkP p l).e = 0 then (tkP p l).n else 0), .n (tkP p l).e]) F' ∧ Std F F' (fun _ => False) (fun _ => False) ∧ Wf F' := by
  obtain ⟨m, rfl⟩ : ∃ m, N = m + 1 := ⟨N - 1, by omega⟩
  have w1 := hw.new hd0.c 23 4
  have st1 := Std.new hw hd0.c 23 4 (fun _ => False) (fun _ => False)
  have d1 : HRow (F.new hd0.c 23 4) F.x hd0 := hd_newA F hd0
  have df1 : (F.new hd0.c 23 4).fam F.x = some (false, 4) := by rw [fam_new, if_pos rfl]; rfl
  have e1 := fun f : KU => new_hd F f
  have x1 : (F.new hd0.c 23 4).x = F.x + 1 := rfl
  generalize F.new hd0.c 23 4 = F1 at *
  have b1 := hb.std st1 (fun _ _ _ _ _ _ h => h)
  have e2 := fun f : KU => new_rd F1 f p b1 hL
  have w2 := w1.new (rdc p w l 0 0) 84 9
  have st2 := Std.new w1 (rdc p w l 0 0) 84 9 (fun _ => False) (fun _ => False)
  have rr2 : (F1.new (rdc p w l 0 0) 84 9).row F1.x = some (rdc p w l 0 0, 84, 9, F1.x, false) := by rw [row_new, if_pos rfl]
  have rf2 : (F1.new (rdc p w l 0 0) 84 9).fam F1.x = some (false, 9) := by rw [fam_new, if_pos rfl]; rfl
  have x2 : (F1.new (rdc p w l 0 0) 84 9).x = F1.x + 1 := rfl
  generalize F1.new (rdc p w l 0 0) 84 9 = F2 at *
  have e3 := fun f : KU => new_hd F2 f
  have w3 := w2.new hd0.c 23 4
  have st3 := Std.new w2 hd0.c 23 4 (fun _ => False) (fun _ => False)
  have h3 : HRow (F2.new hd0.c 23 4) F2.x hd0 := hd_newA F2 hd0
  have hf3 : (F2.new hd0.c 23 4).fam F2.x = some (false, 4) := by rw [fam_new, if_pos rfl]; rfl
  have x3 : (F2.new hd0.c 23 4).x = F2.x + 1 := rfl
  generalize F2.new hd0.c 23 4 = F3 at *
  have st13 := st2.trans st3
  have rs : RS F3 F1.x F2.x w l ps0 p := ⟨⟨st3.row _ _ (fun h => h) rr2, st3.fam _ _ (fun h => h) rf2, b1.std st13 (fun _ _ _ _ _ _ h => h)⟩, h3, hf3, by omega, w3, Nat.zero_le _⟩
  have key : ∃ F4 s' i' k2 l2 m2 j2 , (∀ κ : EX → W13 → FAW → RU, (seqU (u17_6 (clU msgD m)) (condU u17_7 (seqU (u17_8 (clU msgD m)) (seqU (u17_9 (clU msgD m)) (seqU (seqU (u17_10 (clU msgD m)) (condU u17_11 (u17_12 (clU msgD m)) (skipU))) (seqU (u17_13 (clU msgD m)) (seqU (u17_14 (clU msgD m)) (seqU (u17_15 (clU msgD m)) (u17_16 (clU msgD m)))))))) (seqU (u17_17 (clU msgD m)) (condU u17_18 (seqU (u17_19 (clU msgD m)) (seqU (u17_20 (clU msgD m)) (seqU (u17_21 (clU msgD m)) (seqU (u17_22 (clU msgD m)) (u17_23 (clU msgD m)))))) (seqU (u17_24 (clU msgD m)) (seqU (u17_25 (clU msgD m)) (seqU (u17_26 (clU msgD m)) (seqU (u17_27 (clU msgD m)) (seqU (u17_28 (clU msgD m)) (seqU (u17_29 (clU msgD m)) (u17_30 (clU msgD m)))))))))))) (.mk (.n p) w (.p F.x 0) (.n 0) (.n 0) (.p F1.x 0) (.p F2.x 0) (.u []) (.t false) (.u []) (.u []) (.u []) (.u [])) F3 κ = κ .normal (.mk (.n p) w (.p F.x 0) (.n 0) (.n 0) (.p F1.x 0) (.p F2.x 0) i' j2 k2 l2 m2 (.u [])) F4) ∧ RS F4 F1.x F2.x w l s' p ∧ Like s' (tkP p l) ∧ Ot F3 F4 F1.x F2.x := by
    rcases hp with rfl | rfl
    · obtain ⟨F4, m', k1, k2, k3⟩ := q_bin hl hL m (by omega) rs (.n 0) (.p F.x 0) (.n 0) (.n 0) (.u []) (.t false) (.t false) (.u []) (.u []) (.u []) (clU msgD m) rfl
      refine ⟨F4, binP l ps0, .u [], .t false, .u [], m', .t false, fun κ => ?_, k2, ⟨by unfold tkP; rw [if_pos rfl], fun _ => by unfold tkP; rw [if_pos rfl]⟩, k3⟩
      generalize clU msgD m = C at *
      generalize seqU (u17_17 C) (condU u17_18 (seqU (u17_19 C) (seqU (u17_20 C) (seqU (u17_21 C) (seqU (u17_22 C) (u17_23 C))))) (seqU (u17_24 C) (seqU (u17_25 C) (seqU (u17_26 C) (seqU (u17_27 C) (seqU (u17_28 C) (seqU (u17_29 C) (u17_30 C)))))))) = Q at k1 ⊢
      simp -implicitDefEqProofs only [↓seqU_eq, ↓condU_eq, ↓u17_6, ↓u17_7, ↓m13_mk, ↓k13_mk, ↓exU_n, ↓uEq_nn, xo_f, decide_eq_false (show ¬ 0 = 1 by omega), ↓eT_t, ↓cn_false, ↓k1]
    · obtain ⟨F4, s', i', l'', k1, k2, k3, k4⟩ := q_cmp hl hL m (by omega) rs (.n 1) w (.p F.x 0) (.n 0) (.n 0) (.u []) (.t false) (.t true) (.u []) (.u []) (.u []) (clU msgD m) rfl
      refine ⟨F4, s', i', .t true, l'', .u [], .t false, fun κ => ?_, k2, by unfold tkP; rw [if_neg (by omega)]; exact k3, k4⟩
      generalize clU msgD m = C at *
      generalize seqU (u17_8 C) (seqU (u17_9 C) (seqU (seqU (u17_10 C) (condU u17_11 (u17_12 C) (skipU))) (seqU (u17_13 C) (seqU (u17_14 C) (seqU (u17_15 C) (u17_16 C)))))) = Q at k1 ⊢
      simp -implicitDefEqProofs only [↓seqU_eq, ↓condU_eq, ↓u17_6, ↓u17_7, ↓m13_mk, ↓k13_mk, ↓exU_n, ↓uEq_nn, xo_f, decide_true, ↓eT_t, ↓cn_true, ↓k1]
  obtain ⟨F4, s', i', k2, l2, m2, j2, k1, r4, lk, o4⟩ := key
  have d4 : HRow F4 F.x hd0 := by
    show F4.row F.x = _
    rw [o4.row _ (by omega) (by omega)]
    exact st13.row _ _ (fun h => h) d1
  have df4 : F4.fam F.x = some (false, 4) := by rw [o4.fam]; exact st13.fam _ _ (fun h => h) df1
  have hst := fun (H : Hd) (f : KU) => uSt_agg (vs := H.c) f d4 df4 (Nat.le_refl 4) rfl hd0.fi H.fi
  have hst4 : ∀ (H : Hd) (f : KU), uSt 4 (.p F.x 0) (.a H.c) F4 f = f (.u []) (F4.put F.x H.c) := hst
  have d5 : ∀ H : Hd, HRow (F4.put F.x H.c) F.x H := fun H => by
    have d4' : F4.row F.x = some (hd0.c, 23, 4, F.x, false) := d4
    show FAW.row _ _ = _; rw [row_put, if_pos rfl, d4']; rfl
  have rd5 : ∀ H : Hd, (F4.put F.x H.c).row F1.x = some (rdc p w l s'.n s'.e, 84, 9, F1.x, false) := fun H => by rw [row_put, if_neg (by omega)]; exact r4.rd.row
  have sl : ∀ H : Hd, Std F (F4.put F.x H.c) (fun _ => False) (fun _ => False) := fun H => by
    refine ⟨fun j r _ e => ?_, fun j r _ e => ?_, fun j r e => ?_, ?_⟩
    · have := hw.row _ _ e
      rw [row_put, if_neg (by omega), o4.row _ (by omega) (by omega)]
      exact (st1.trans st13).row j r (fun h => h) e
    · rw [fam_put, o4.fam]; exact (st1.trans st13).fam j r (fun h => h) e
    · rw [mp_put, o4.mp]; exact (st1.trans st13).mp j r e
    · show F.x ≤ F4.x
      rw [o4.x]; omega
  have he := lk.1
  have b0 : ∀ f : KU, uBuildF [(.s []), (.n 0), (.i .i32 0), (.t false)] [] F4 f = f (.a hd0.c) F4 := fun f => rfl
  rw [cl17, u17_in, u17b_s, u17bt1_s, u17bt2_s, u17bt3_s, u17bt4_s]
  generalize clU msgD m = C at *
  generalize seqU (u17_6 C) (condU u17_7 (seqU (u17_8 C) (seqU (u17_9 C) (seqU (seqU (u17_10 C) (condU u17_11 (u17_12 C) (skipU))) (seqU (u17_13 C) (seqU (u17_14 C) (seqU (u17_15 C) (u17_16 C))))))) (seqU (u17_17 C) (condU u17_18 (seqU (u17_19 C) (seqU (u17_20 C) (seqU (u17_21 C) (seqU (u17_22 C) (u17_23 C))))) (seqU (u17_24 C) (seqU (u17_25 C) (seqU (u17_26 C) (seqU (u17_27 C) (seqU (u17_28 C) (seqU (u17_29 C) (u17_30 C)))))))))) = Q at k1 ⊢
  have hp1 : ∀ κ : EX → W13 → FAW → RU, u17_1 C (.mk (.n p) w (.p F.x 0) (.n 0) (.n 0) (.u []) (.u []) (.u []) (.u []) (.u []) (.u []) (.u []) (.u [])) F1 κ = κ .normal (.mk (.n p) w (.p F.x 0) (.n 0) (.n 0) (.u []) (.u []) (.u []) (.t false) (.u []) (.u []) (.u []) (.u [])) F1 := fun κ => by
    rcases hp with rfl | rfl
    · simp -implicitDefEqProofs only [↓u17_1, ↓m13_mk, ↓uEq_nn, xo_t, decide_true, Bool.not_true, ↓eT_t, ↓cn_false]
    · simp -implicitDefEqProofs only [↓u17_1, ↓m13_mk, ↓uEq_nn, xo_t, decide_eq_false (show ¬ 1 = 0 by omega), decide_true, Bool.not_true, Bool.not_false, ↓eT_t, ↓cn_true]
  by_cases h0 : (tkP p l).e = 0
  · have hs := lk.2 h0
    subst hs
    rw [if_pos h0, if_pos h0]
    refine ⟨F4.put F.x (tkP p l).H.c, ?_, sl _, r4.wf.put _ _⟩
    have l5 : ∀ f : KU, uLd none (.p F1.x 5) (F4.put F.x (tkP p l).H.c) f = f (.n (tkP p l).n) (F4.put F.x (tkP p l).H.c) := fun f => uLd_row f (rd5 _) rfl (Fi.n _)
    simp -implicitDefEqProofs only [↓seqU_eq, ↓condU_eq, ↓skipU_eq, ↓retU_eq, ↓u17_0, ↓hp1, ↓u17_2, ↓u17_4, ↓u17_5, ↓m13_mk, ↓k13_mk, ↓exU_n, ↓exU_r, ↓e1, ↓eT_t, ↓cn_false, ↓e2, ↓e3, ↓k1, ↓u17bt5_s, ↓u17_31, ↓u17_32, ↓r4.rd.g8, ↓uEq_nn, xo_t, decide_eq_true h0, Bool.not_true, ↓u17bt6_s, ↓u17_34, ↓r4.hr.la, ↓uNilc_p, ↓uFad_p, Nat.zero_add, ↓r4.rd.l5, ↓hst4, ↓l5, ↓veqU_n, ↓u17r_mk, ↓(d5 (tkP p l).H).la]
    rw [h0]
  · rw [if_neg h0, if_neg h0]
    refine ⟨F4.put F.x hd0.c, ?_, sl _, r4.wf.put _ _⟩
    have hn0 : ¬ s'.e = 0 := by rw [he]; exact h0
    have l8 : ∀ f : KU, uLd none (.p F1.x 8) (F4.put F.x hd0.c) f = f (.n s'.e) (F4.put F.x hd0.c) := fun f => uLd_row f (rd5 _) rfl (Fi.n _)
    simp -implicitDefEqProofs only [↓seqU_eq, ↓condU_eq, ↓skipU_eq, ↓retU_eq, ↓u17_0, ↓hp1, ↓u17_2, ↓u17_4, ↓u17_5, ↓m13_mk, ↓k13_mk, ↓exU_n, ↓exU_r, ↓e1, ↓eT_t, ↓cn_false, ↓cn_true, ↓e2, ↓e3, ↓k1, ↓u17bt5_s, ↓u17_31, ↓u17_32, ↓r4.rd.g8, ↓uEq_nn, xo_t, decide_eq_false hn0, Bool.not_false, ↓u17_33, ↓b0, ↓uNilc_p, ↓uFad_p, Nat.zero_add, ↓r4.rd.l8, ↓hst4, ↓l8, ↓veqU_n, ↓u17r_mk, ↓(d5 hd0).la]
    rw [he]
end Go.Proofs.Ytgejdfhfgphcbaa.Ev
/- What the law MsgTurned comes to, however it is run. -/
namespace Go.Proofs.Ytgejdfhfgphcbaa.Ev
open Go Go.RowKit
set_option linter.unusedVariables false
set_option linter.constructorNameAsVariable false
set_option linter.unusedSimpArgs false
set_option linter.unusedSectionVars false

theorem i32_in (k : Nat) : -2147483648 ≤ i32 k ∧ i32 k ≤ 2147483647 := by
  unfold i32
  simp only [IntKind.wrap, IntKind.bits, IntKind.signed]
  simp
  split <;> omega
/-- What heads that are read are. -/
def OkH (l : List Nat) (H : Hd) : Prop := H.kd < 256 ∧ H.nm.length ≤ l.length ∧ -2147483648 ≤ H.sq ∧ H.sq ≤ 2147483647
theorem bylK_le (l : List Nat) (n e k : Nat) : (byl l n e k).length ≤ l.length := by
  unfold byl; split
  · rw [List.length_take, List.length_drop]; omega
  · exact Nat.zero_le _
section
variable {l : List Nat} (hl : Bs l) {s : Ps} (h : OkH l s.H)
include h
theorem ok_nm : OkH l (s.nm l).H := ⟨h.1, bylK_le _ _ _ _, h.2.2⟩
theorem ok_sq : OkH l (s.sq l).H := ⟨h.1, h.2.1, i32_in _⟩
theorem ok_svq : OkH l (s.svq l).H := ⟨h.1, h.2.1, i32_in _⟩
theorem ok_svn : OkH l (s.svn l).H := ⟨h.1, bylK_le _ _ _ _, h.2.2⟩
include hl
theorem ok_kd : OkH l (s.kd l).H := ⟨rdb_lt hl _ _, h.2⟩
theorem ok_ver : OkH l (s.ver l).H := ⟨by have := rdb_lt hl s.n s.e; show rdb l s.n s.e / 2 ^ 5 < 256; omega, h.2⟩
end
theorem ok_tk (p : Nat) {l : List Nat} (hl : Bs l) : OkH l (tkP p l).H := by
  have h0 : OkH l hd0 := ⟨by decide, Nat.zero_le _, by decide, by decide⟩
  unfold tkP
  split
  · unfold binP
    split
    · exact ok_sq (ok_kd hl (ok_nm (s := ps0.on) h0))
    · exact ok_sq (ok_nm (ok_kd hl (s := ((ps0.is l 128).is l 1).is l 0) h0))
  · exact ok_svn (ok_svq (ok_ver hl (s := ps0.is l 130) h0))
theorem eqA_hd' {l : List Nat} (H : Hd) (h : OkH l H) (hL : l.length ≤ 1000000) (F : FAW) (f : KU) : uEqA false [.str, .int .i64, .int .i32, .bl] (.a H.c) (.a H.c) F f = f (.t true) F := by
  obtain ⟨h1, h2, h3, h4⟩ := h
  have h : wEqA false [.str, .int .i64, .int .i32, .bl] (toV (.a H.c)) (toV (.a H.c)) = some (.bool true) := by
    have hf : fitsLs [.str, .int .i64, .int .i32, .bl] (toVs H.c) = true := by
      simp only [Hd.c, toVs, toV, fitsLs, fitsL, decide_true, Bool.and_self, Bool.true_and, Bool.and_true, Bool.and_eq_true, decide_eq_true_eq]
      refine ⟨?_, ?_, ?_⟩
      · show (H.nm.map UInt8.ofNat).toArray.size ≤ maxLen
        simp only [List.size_toArray, List.length_map]
        have : (1000000 : Nat) ≤ maxLen := by decide
        omega
      · simp [Lit.wf, IntKind.min, IntKind.max, IntKind.bits, IntKind.signed]; omega
      · simp [Lit.wf, IntKind.min, IntKind.max, IntKind.bits, IntKind.signed]; omega
    have hc : ceqs (toVs H.c) (toVs H.c) = some true := by
      simp only [Hd.c, toVs, toV, ceqs, ceq]
      simp
    have e : eqaV [.str, .int .i64, .int .i32, .bl] (toV (.a H.c)) (toV (.a H.c)) = some true := by
      simp only [toV, eqaV]
      simp only [hf, Bool.and_self, if_true, hc]
    unfold wEqA
    rw [e]; rfl
  unfold uEqA
  rw [h]; rfl
theorem mod_lt_len {a : Nat} {l : List Nat} (h : 0 < l.length) : a % l.length < l.length := Nat.mod_lt _ h
/-- Bytes are turned. -/
theorem l3 (C : CU) (N : Nat) {F0 : FAW} (hw0 : Wf F0) {at_ to : FV} {xa ts : List Nat} (ha : By F0 at_ xa) (ht : By F0 to ts) (hts : Bs ts) (has : Bs xa) (hl1 : xa.length ≤ 3) (hl2 : xa.length ≤ ts.length) (a c f g h k l m o p q r s t : FV) : ∀ (r' i : Nat), i + r' = xa.length → ∀ {F : FAW} {v : FV} {m' : Nat} {b : List Nat}, BB F v b m' → Bs b → b.length ≤ 3000 → Wf F → Std F0 F (fun _ => False) (fun _ => False) → (v ≠ .nl → F0.x ≤ m') → ∀ (M : Nat), r' < M → ∀ (w : FV),
    ∃ F' b' j' w', (∀ κ : EX → W19 → FAW → RU, loopNU (u3_17 C N) κ M (.mk a c at_ to f g h v (.n i) k l m o p q r s t w) F = κ (.exit 0) (.mk a c at_ to f g h v j' k l m o p q r s t w') F') ∧ BB F' v b' m' ∧ Bs b' ∧ b'.length = b.length ∧ Wf F' ∧ Std F0 F' (fun _ => False) (fun _ => False) := by
  intro r'
  induction r' with
  | zero =>
    intro i hi F v m' b hb hbs hbl hw hs hm M hM w
    obtain ⟨M, rfl⟩ : ∃ M', M = M' + 1 := ⟨M - 1, by omega⟩
    have ha1 := ha.std hs (fun _ _ _ _ _ _ h => h)
    refine ⟨F, b, .n i, .t false, fun κ => ?_, hb, hbs, rfl, hw, hs⟩
    rw [loopNU_succ]
    generalize loopNU (u3_17 C N) κ M = rec
    simp -implicitDefEqProofs only [↓u3_17, ↓seqU_eq, ↓condU_eq, ↓exitU_eq, ↓u3_13, ↓u3_14, ↓m19_mk, ↓k19_mk, ↓exU_n, ↓exU_e, ↓ha1.len, ↓uLss_nn, decide_eq_false (show ¬ i < xa.length by omega), ↓eT_t, ↓cn_false]
  | succ r' ih =>
    intro i hi F v m' b hb hbs hbl hw hs hm M hM w
    obtain ⟨M, rfl⟩ : ∃ M', M = M' + 1 := ⟨M - 1, by omega⟩
    have ha1 := ha.std hs (fun _ _ _ _ _ _ h => h)
    have ht1 := ht.std hs (fun _ _ _ _ _ _ h => h)
    by_cases h0 : 0 < b.length
    · obtain ⟨x, hx⟩ : ∃ x, xa[i]? = some x := ⟨xa[i]'(by omega), List.getElem?_eq_getElem (by omega)⟩
      obtain ⟨y, hy⟩ : ∃ y, ts[i]? = some y := ⟨ts[i]'(by omega), List.getElem?_eq_getElem (by omega)⟩
      have hx2 := has x (List.mem_of_getElem? hx)
      have hy2 := hts y (List.mem_of_getElem? hy)
      have hv : v ≠ .nl := by
        rintro rfl
        rcases hb with ⟨_, h, _⟩ | ⟨_, _, h, _⟩
        · rw [List.map_eq_nil_iff] at h; subst h; simp at h0
        · cases h
      obtain ⟨F1, e1, b1, x1, s1, w1⟩ := st_e hw hb fi_b (k := x % b.length) (Nat.mod_lt _ h0) (Fi.b y)
      have hset : (b.map FV.b).set (x % b.length) (.b y) = (b.set (x % b.length) y).map FV.b := by rw [List.map_set]
      rw [hset] at b1
      have hlen : b.length = (b.set (x % b.length) y).length := by rw [List.length_set]
      have b1' : BB F1 v (b.set (x % b.length) y) m' := by
        show SlE F1 v 5 1 (b.set (x % b.length) y).length _ m'
        rw [← hlen]; exact b1
      have hs1 := hs.newfam hw0 s1 (hm hv)
      have hbs1 : Bs (b.set (x % b.length) y) := fun z hz => by
        rcases List.mem_or_eq_of_mem_set hz with h | h
        · exact hbs z h
        · rw [h]; exact hy2
      obtain ⟨F2, b2, j2, w2, k1, k2, k3, k4, k5, k6⟩ := ih (i + 1) (by omega) b1' hbs1 (by rw [← hlen]; exact hbl) w1 hs1 hm M (by omega) (.t true)
      refine ⟨F2, b2, j2, w2, fun κ => ?_, k2, k3, by rw [k4, ← hlen], k5, k6⟩
      have k1' := k1 κ
      clear k1
      rw [loopNU_succ]
      generalize loopNU (u3_17 C N) κ M = rec at k1' ⊢
      simp -implicitDefEqProofs only [↓u3_17, ↓seqU_eq, ↓condU_eq, ↓skipU_eq, ↓blockU_eq, ↓u3_13, ↓u3_14, ↓u3_15, ↓u3_16, ↓m19_mk, ↓k19_mk, ↓exU_n, ↓ha1.len, ↓uLss_nn, decide_eq_true (show i < xa.length by omega), ↓eT_t, ↓cn_true, ↓hb.len, ↓uGtr_nn, decide_eq_true h0, ↓ha1.get hx, ↓uCv_nb _ _ x (show x ≤ 9223372036854775807 by omega), ↓uRem_nn x b.length h0 (show x ≤ 9223372036854775807 by omega), ↓ht1.get hy, ↓e1, uAdd_nn _ _ (show i + 1 ≤ 9223372036854775807 by omega)]
      exact k1'
    · refine ⟨F, b, .n i, .t false, fun κ => ?_, hb, hbs, rfl, hw, hs⟩
      rw [loopNU_succ]
      generalize loopNU (u3_17 C N) κ M = rec
      simp -implicitDefEqProofs only [↓u3_17, ↓seqU_eq, ↓condU_eq, ↓exitU_eq, ↓u3_13, ↓u3_14, ↓m19_mk, ↓k19_mk, ↓exU_n, ↓exU_e, ↓ha1.len, ↓uLss_nn, decide_eq_true (show i < xa.length by omega), ↓hb.len, ↓uGtr_nn, decide_eq_false h0, ↓eT_t, ↓cn_true, ↓cn_false]
theorem t15 (N : Nat) (hN : 20 ≤ N) {F : FAW} (p : Nat) (hp : p = 0 ∨ p = 1) (nm : List Nat) (kd sq : Int) (old : Bool) (hs : Bs nm) (hS : nm.length ≤ 1000) (hw : Wf F) :
    ∃ v F' m l, clU msgD N 15 [.n p, .a [.s nm, numV .i64 kd, .i .i32 sq, .t old]] F = .ok v F' ∧ BB F' v l m ∧ l.length ≤ 2000 ∧ Bs l ∧ (v ≠ .nl → F.x ≤ m) ∧ Std F F' (fun _ => False) (fun _ => False) ∧ Wf F' := by
  by_cases hk : 1 ≤ kd ∧ kd ≤ 4
  · obtain ⟨k, rfl⟩ : ∃ k : Nat, kd = k := ⟨kd.toNat, by omega⟩
    obtain ⟨v, F', m, l, h1, h2, h3, h4, h5, h6, h7⟩ := t15_ok N hN p hp ⟨nm, k, sq, old⟩ (by constructor <;> (show _ ≤ _) <;> simp only <;> omega) hs hS hw
    exact ⟨v, F', m, l, h1, h2, h3, h4, fun _ => h5, h6, h7⟩
  · obtain ⟨F', h1, h2, h3⟩ := t15_bad N (by omega) (.n p) nm kd sq old hk hw
    exact ⟨.nl, F', 0, [], h1, SlE.nil _ _ _ _, by simp, Bs.nil, fun h => absurd rfl h, h2, h3⟩
/-- The law from where the protocol is known. -/
theorem tl3 (C : CU) (m n : Nat) (hn : 5 ≤ n) (hC : C = clU msgD m) (hm : 4000 ≤ m) {F : FAW} {at_ to : FV} {xa ts : List Nat} (p : Nat) (hp : p = 0 ∨ p = 1) (nm : List Nat) (kd sq : Int) (old : Bool) (hs : Bs nm) (hS : nm.length ≤ 60)
    (hw : Wf F) (ha : By F at_ xa) (ht : By F to ts) (hts : Bs ts) (has : Bs xa) (hl1 : xa.length ≤ 3) (hl2 : xa.length ≤ ts.length) (r : Nat) (hr : F.row r = some ([.s nm, numV .i64 kd, .i .i32 sq, .t old], 23, 4, r, false)) (a c g i j k l mm o pp q r' s t w : FV) :
    ∃ F', (u3bt5 C n (.mk a c at_ to (.p r 0) g (.n p) i j k l mm o pp q r' s t w) F fun o v F => exU o (u3r v F) (fun _ => .no) (u3r v F)) = .ok (.t true) F' := by
  obtain ⟨v1, F1, m1, b, e1, b1, bl, bb, x1, s1, w1⟩ := t15 m (by omega) p hp nm kd sq old hs (by omega) hw
  have hla : ∀ f : KU, uLd (some 4) (.p r 0) F f = f (.a [.s nm, numV .i64 kd, .i .i32 sq, .t old]) F := fun f => uLd_agg f hr (Nat.le_refl 4) (by
    intro w hw
    simp only [List.drop_zero, List.take_succ_cons, List.take_zero, List.mem_cons, List.not_mem_nil, or_false] at hw
    rcases hw with rfl | rfl | rfl | rfl
    · exact Fi.s _
    · exact numV_fi _ _
    · exact Fi.i _ _
    · exact Fi.t _)
  obtain ⟨F2, b', j', w', k1, b2, bb2, bl2, w2, s2⟩ := l3 C n hw ha ht hts has hl1 hl2 a c (.p r 0) g (.n p) k l mm o pp q r' s t xa.length 0 (by omega) b1 bb (by omega) w1 s1 x1 n (by omega) w
  have hlb : b'.length ≤ 2000 := by omega
  obtain ⟨k', rfl⟩ : ∃ k', m = k' + 1 := ⟨m - 1, by omega⟩
  obtain ⟨F3, e3, s3, w3⟩ := s16 k' p hp (l := b') (by omega) b2.by w2 bb2 (by omega)
  obtain ⟨F4, e4, r4, x4, s4, w4⟩ := st_hd F3 w3 (if (tkP p b').e = 0 then (tkP p b').H else hd0)
  have b4 := (b2.std s3 (fun _ _ _ _ h => h) (fun _ h => h)).std s4 (fun _ _ _ _ h => h) (fun _ h => h)
  obtain ⟨F5, e5, s5, w5⟩ := t17 (k' + 1) p hp (l := b') (by omega) b4.by w4 bb2 (by omega)
  obtain ⟨F6, e6, r6, x6, s6, w6⟩ := st_hd F5 w5 (if (tkP p b').e = 0 then (tkP p b').H else hd0)
  have r46 := (r4.std s5 (fun h => h)).std s6 (fun h => h)
  have hok : OkH b' (if (tkP p b').e = 0 then (tkP p b').H else hd0) := by
    split
    · exact ok_tk p bb2
    · exact ⟨by decide, Nat.zero_le _, by decide, by decide⟩
  have ea := eqA_hd' _ hok (by omega) F6
  generalize (if (tkP p b').e = 0 then (tkP p b').H else hd0) = H at *
  generalize (if (tkP p b').e = 0 then (tkP p b').n else 0) = nn at *
  subst hC
  generalize clU msgD (k' + 1) = C at *
  refine ⟨F6, ?_⟩
  simp -implicitDefEqProofs only [↓u3bt5_s, ↓u3bt6_s, ↓u3bt7_s, ↓u3bt8_s, ↓u3bt9_s, ↓seqU_eq, ↓blockU_eq, ↓loopU_eq, ↓retU_eq, ↓u3_11, ↓u3_12, ↓u3_18, ↓u3_19, ↓u3_20, ↓m19_mk, ↓exU_n, ↓exU_e, ↓exU_r, ↓hla, ↓uCall_eq, ↓e1, ↓goOn_ok, ↓k1, show Nat.beq 0 0 = true from rfl, ↓cn_true, ↓e3, ↓uExt_0, ↓uExt_1, ↓uExt_2, ↓e4, ↓e5, ↓e6, ↓r46.la, ↓r6.la, ↓ea, ↓eT_t, ↓uEq_nn, xo_f, decide_true, ↓u3r_mk]
theorem s3 (N : Nat) (hN : 5000 ≤ N) {F : FAW} {at_ to : FV} {xa ts : List Nat} (hw : Wf F) (ha : By F at_ xa) (ht : By F to ts) (hts : Bs ts) (has : Bs xa) (compact : Bool) (nm : List Nat) (hs : Bs nm) (kd sq : Int) (old : Bool) :
    ∃ F', clU msgD N 3 [.t compact, .a [.s nm, numV .i64 kd, .i .i32 sq, .t old], at_, to] F = .ok (.t true) F' := by
  obtain ⟨m, rfl⟩ : ∃ m, N = m + 1 := ⟨N - 1, by omega⟩
  have st0 := Std.new hw [.s nm, numV .i64 kd, .i .i32 sq, .t old] 23 4 (fun _ => False) (fun _ => False)
  have w0 := hw.new [.s nm, numV .i64 kd, .i .i32 sq, .t old] 23 4
  have r0 : (F.new [.s nm, numV .i64 kd, .i .i32 sq, .t old] 23 4).row F.x = some ([.s nm, numV .i64 kd, .i .i32 sq, .t old], 23, 4, F.x, false) := by rw [row_new, if_pos rfl]
  have hbox := fun f : KU => uBox_a 23 4 [.s nm, numV .i64 kd, .i .i32 sq, .t old] F f
  generalize F.new [.s nm, numV .i64 kd, .i .i32 sq, .t old] 23 4 = F0 at *
  obtain ⟨F1, e1, s1, w1⟩ := t14 m (by omega) w0
  have r1 := s1.row _ _ (fun h => h) r0
  have st1 := st0.trans s1
  have ha1 := ha.std st1 (fun _ _ _ _ _ _ h => h)
  have ht1 := ht.std st1 (fun _ _ _ _ _ _ h => h)
  have l0 : ∀ f : KU, uLd none (.p F.x 0) F1 f = f (.s nm) F1 := fun f => uLd_row f r1 rfl (Fi.s _)
  rw [cl3, u3_in]
  generalize hC : clU msgD m = C at *
  by_cases h1 : 60 < nm.length
  · refine ⟨F1, ?_⟩
    simp -implicitDefEqProofs only [↓u3b_s, ↓u3bt1_s, ↓u3bt2_s, ↓seqU_eq, ↓condU_eq, ↓skipU_eq, ↓retU_eq, ↓u3_0, ↓u3_1, ↓u3_2, ↓u3_4, ↓u3_5, ↓u3_6, ↓m19_mk, ↓k19_mk, ↓exU_n, ↓exU_r, ↓hbox, ↓uCall_eq, ↓e1, ↓goOn_ok, ↓uNot_t, Bool.not_true, ↓eT_t, ↓cn_false, ↓uFad_p, Nat.zero_add, ↓l0, ↓uLen_s, ↓uGtr_nn, decide_eq_true h1, ↓cn_true, ↓u3r_mk]
  · by_cases h2 : 3 < xa.length
    · refine ⟨F1, ?_⟩
      simp -implicitDefEqProofs only [↓u3b_s, ↓u3bt1_s, ↓u3bt2_s, ↓seqU_eq, ↓condU_eq, ↓skipU_eq, ↓retU_eq, ↓u3_0, ↓u3_1, ↓u3_2, ↓u3_4, ↓u3_5, ↓u3_6, ↓m19_mk, ↓k19_mk, ↓exU_n, ↓exU_r, ↓hbox, ↓uCall_eq, ↓e1, ↓goOn_ok, ↓uNot_t, Bool.not_true, ↓eT_t, ↓cn_false, ↓uFad_p, Nat.zero_add, ↓l0, ↓uLen_s, ↓uGtr_nn, decide_eq_false h1, ↓ha1.len, decide_eq_true h2, ↓cn_true, ↓u3r_mk]
    · by_cases h3 : ts.length < xa.length
      · refine ⟨F1, ?_⟩
        simp -implicitDefEqProofs only [↓u3b_s, ↓u3bt1_s, ↓u3bt2_s, ↓seqU_eq, ↓condU_eq, ↓skipU_eq, ↓retU_eq, ↓u3_0, ↓u3_1, ↓u3_2, ↓u3_4, ↓u3_5, ↓u3_6, ↓m19_mk, ↓k19_mk, ↓exU_n, ↓exU_r, ↓hbox, ↓uCall_eq, ↓e1, ↓goOn_ok, ↓uNot_t, Bool.not_true, ↓eT_t, ↓cn_false, ↓uFad_p, Nat.zero_add, ↓l0, ↓uLen_s, ↓uGtr_nn, decide_eq_false h1, ↓ha1.len, decide_eq_false h2, ↓ht1.len, ↓uLss_nn, decide_eq_true h3, ↓cn_true, ↓u3r_mk]
      · cases compact with
        | false =>
          obtain ⟨F', e2⟩ := tl3 C m m (by omega) hC.symm (by omega) 0 (.inl rfl) nm kd sq old hs (by omega) w1 ha1 ht1 hts has (by omega) (by omega) F.x r1 (.t false) (.a [.s nm, numV .i64 kd, .i .i32 sq, .t old]) (.t false) (.u []) (.u []) (.u []) (.u []) (.u []) (.u []) (.u []) (.u []) (.t false) (.t false) (.t false) (.u [])
          refine ⟨F', ?_⟩
          simp -implicitDefEqProofs only [↓u3b_s, ↓u3bt1_s, ↓u3bt2_s, ↓u3bt3_s, ↓u3bt4_s, ↓seqU_eq, ↓condU_eq, ↓skipU_eq, ↓retU_eq, ↓u3_0, ↓u3_1, ↓u3_2, ↓u3_4, ↓u3_5, ↓u3_7, ↓u3_8, ↓u3_9, ↓m19_mk, ↓k19_mk, ↓exU_n, ↓exU_r, ↓hbox, ↓uCall_eq, ↓e1, ↓goOn_ok, ↓uNot_t, Bool.not_true, ↓eT_t, ↓cn_false, ↓uFad_p, Nat.zero_add, ↓l0, ↓uLen_s, ↓uGtr_nn, decide_eq_false h1, ↓ha1.len, decide_eq_false h2, ↓ht1.len, ↓uLss_nn, decide_eq_false h3, ↓e2]
        | true =>
          obtain ⟨F', e2⟩ := tl3 C m m (by omega) hC.symm (by omega) 1 (.inr rfl) nm kd sq old hs (by omega) w1 ha1 ht1 hts has (by omega) (by omega) F.x r1 (.t true) (.a [.s nm, numV .i64 kd, .i .i32 sq, .t old]) (.t false) (.u []) (.u []) (.u []) (.u []) (.u []) (.u []) (.u []) (.u []) (.t false) (.t false) (.t true) (.u [])
          refine ⟨F', ?_⟩
          simp -implicitDefEqProofs only [↓u3b_s, ↓u3bt1_s, ↓u3bt2_s, ↓u3bt3_s, ↓u3bt4_s, ↓seqU_eq, ↓condU_eq, ↓skipU_eq, ↓retU_eq, ↓u3_0, ↓u3_1, ↓u3_2, ↓u3_4, ↓u3_5, ↓u3_7, ↓u3_8, ↓u3_9, ↓u3_10, ↓m19_mk, ↓k19_mk, ↓exU_n, ↓exU_r, ↓hbox, ↓uCall_eq, ↓e1, ↓goOn_ok, ↓uNot_t, Bool.not_true, ↓eT_t, ↓cn_false, ↓cn_true, ↓uFad_p, Nat.zero_add, ↓l0, ↓uLen_s, ↓uGtr_nn, decide_eq_false h1, ↓ha1.len, decide_eq_false h2, ↓ht1.len, ↓uLss_nn, decide_eq_false h3, ↓e2]
theorem walkMsgTurned (W : World) (compact : Bool) (nm : ByteArray) (kd : Int) (_ : (Lit.int .i64 kd).wf = true) (sq : Int) (_ : (Lit.int .i32 sq).wf = true) (old : Bool) (a : Option Addr) (len cap : Nat) (z : List Int) (hs : SliceArg W .u8 a len cap z) (a' : Option Addr) (len' cap' : Nat) (z' : List Int) (hs' : SliceArg W .u8 a' len' cap' z') :
    Calls Try.prog 3 #[.bool compact, .agg #[.string nm, .int .i64 kd, .int .i32 sq, .bool old], .slice a len cap, .slice a' len' cap'] W fun e W' => e = .returned (.bool true) ∧ Below W.heap.size W W' := by
  obtain ⟨ρ, S, F, fv, ms, h1, h2, h3, h4, h5, h6, h7, h8⟩ := arg_by (RelW.empty W) UR.empty Wf.empty hs
  obtain ⟨ρ', S', F', fv', ms', k1, k2, k3, k4, k5, k6, k7, k8⟩ := arg_by h1 h2 h8 hs'
  obtain ⟨R, h⟩ := s3 6000 (by omega) k8 (h5.std k7 (fun _ _ _ _ _ _ h => h)) k5 k6 h6 compact (bytesOf nm) (bytesOf_bs nm) kd sq old
  refine mainU_ok msg_mixed msg_is msg_X msgD_ok (f := 3) (xf := f3) (args := [.t compact, .a [.s (bytesOf nm), numV .i64 kd, .i .i32 sq, .t old], fv, fv']) rfl k2 k1 ⟨rfl, fun i h => ?_⟩ (by rw [h]; rfl)
  simp only [toVs, List.size_toArray, List.length_cons, List.length_nil] at h
  have hi : i = 0 ∨ i = 1 ∨ i = 2 ∨ i = 3 := by omega
  rcases hi with rfl | rfl | rfl | rfl
  · exact fun _ => .bool _
  · intro _
    show VRel _ (toV (.a [.s (bytesOf nm), numV .i64 kd, .i .i32 sq, .t old])) _
    simp only [toV, toVs, numV_to]
    have hb := toV_bytes nm
    simp only [toV] at hb
    rw [hb]
    exact VRel.agg_l (.cons (.string _) (.cons (.int _ _) (.cons (.int _ _) (.cons (.bool _) .nil))))
  · exact fun _ => h4.mono k3
  · exact fun _ => k4
end Go.Proofs.Ytgejdfhfgphcbaa.Ev
