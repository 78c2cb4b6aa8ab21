/- Numbers without a sign, bits; parts of slices. -/
import Derived.Test.YtgejdfhfgphcbaaEvC
namespace Go.Proofs.Ytgejdfhfgphcbaa.Ev
open Go Go.RowKit
set_option linter.unusedVariables false
set_option linter.constructorNameAsVariable false
set_option linter.unusedSimpArgs false
set_option linter.unusedSectionVars false

/-- A number of 64 bits without a sign. -/
def w64 (n : Nat) : FV := .i .u64 (Int.ofNat n)
theorem Fi.w64 (n : Nat) : Fi (w64 n) := Fi.i _ _
theorem wrap_u64 {m : Nat} (h : m < 18446744073709551616) : IntKind.wrap .u64 (m : Int) = (m : Int) := by
  simp only [IntKind.wrap, IntKind.bits, IntKind.signed]
  simp
  omega
theorem wrap_u64' (m : Nat) : IntKind.wrap .u64 (m : Int) = ((m % 18446744073709551616 : Nat) : Int) := by
  simp only [IntKind.wrap, IntKind.bits, IntKind.signed]
  simp
theorem wrap_u8' (m : Nat) : IntKind.wrap .u8 (m : Int) = ((m % 256 : Nat) : Int) := by
  simp only [IntKind.wrap, IntKind.bits, IntKind.signed]
  simp
theorem wrap_u32' (m : Nat) : IntKind.wrap .u32 (m : Int) = ((m % 4294967296 : Nat) : Int) := by
  simp only [IntKind.wrap, IntKind.bits, IntKind.signed]
  simp
section
variable (F : FAW) (f : KU)
theorem uGtr_w (a b : Nat) (op : BinOp) (hop : op = .gtr) : uCmp (fun a b => ltN b a) op (w64 a) (w64 b) F f = f (.t (decide (b < a))) F := by
  subst hop
  have e : uCmp (fun a b => ltN b a) .gtr (w64 a) (w64 b) F f = uSlow .gtr (w64 a) (w64 b) F f := rfl
  have h : binV .gtr (toV (w64 a)) (toV (w64 b)) = some (.bool (decide (b < a))) := by
    simp only [w64, toV, binV, iop, if_true]
    congr 2
    simp
  rw [e, uSlow_n h]; rfl
theorem uEq_ww (neg : Bool) (a b : Nat) : uEq neg (if neg then .neq else .eql) (w64 a) (w64 b) F f = f (.t (xo neg (decide (a = b)))) F := by
  have h : binV (if neg then .neq else .eql) (toV (w64 a)) (toV (w64 b)) = some (.bool (xo neg (decide (a = b)))) := by
    cases neg
    · simp only [w64, toV, binV, iop, if_true, Bool.false_eq_true, if_false, xo_f]
      congr 2
      exact decide_eq_decide.mpr Int.ofNat_inj
    · simp only [w64, toV, binV, iop, if_true, xo_t]
      rw [show decide (Int.ofNat a = Int.ofNat b) = decide (a = b) from decide_eq_decide.mpr Int.ofNat_inj]
  have e : uEq neg (if neg then .neq else .eql) (w64 a) (w64 b) F f = uSlow (if neg then .neq else .eql) (w64 a) (w64 b) F f := rfl
  rw [e, uSlow_n h]; rfl
theorem uNe_ww (a b : Nat) : uEq true .neq (w64 a) (w64 b) F f = f (.t (!decide (a = b))) F := by
  have := uEq_ww F f true a b
  rw [xo_t] at this
  exact this
theorem uCv_un (m : Nat) (h : m < 18446744073709551616) : uCvI .u64 (.n m) F f = f (w64 m) F := by
  have e : uCvI .u64 (.n m) F f = uO (wCvI .u64 (toV (.n m))) F f := rfl
  have h2 : wCvI .u64 (toV (.n m)) = some (.int .u64 (Int.ofNat m)) := by
    simp only [toV, wCvI]
    rw [show (Int.ofNat m) = ((m : Nat) : Int) from rfl, wrap_u64 h]
  rw [e, h2]; rfl
theorem uCv_ub (m : Nat) (h : m < 256) : uCvI .u64 (.b m) F f = f (w64 m) F := by
  have e : uCvI .u64 (.b m) F f = uO (wCvI .u64 (toV (.b m))) F f := rfl
  have h2 : wCvI .u64 (toV (.b m)) = some (.int .u64 (Int.ofNat m)) := by
    simp only [toV, wCvI]
    rw [show (Int.ofNat m) = ((m : Nat) : Int) from rfl, wrap_u64 (by omega)]
  rw [e, h2]; rfl
theorem uCv_nw (m : Nat) (h : m ≤ 9223372036854775807) : uCvI .i64 (w64 m) F f = f (.n m) F := by
  have e : uCvI .i64 (w64 m) F f = uO (wCvI .i64 (toV (w64 m))) F f := rfl
  have h2 : wCvI .i64 (toV (w64 m)) = some (.int .i64 (Int.ofNat m)) := by
    simp only [w64, toV, wCvI]
    rw [show (Int.ofNat m) = ((m : Nat) : Int) from rfl, wrap_n h]
  rw [e, h2]; rfl
theorem uCv_nb (m : Nat) (h : m ≤ 9223372036854775807) : uCvI .i64 (.b m) F f = f (.n m) F := uNum_le F f h
theorem uCv_bn (m : Nat) : uCvI .u8 (.n m) F f = f (.b (m % 256)) F := rfl
theorem uCv_bw (m : Nat) : uCvI .u8 (w64 m) F f = f (.b (m % 256)) F := by
  have e : uCvI .u8 (w64 m) F f = uO (wCvI .u8 (toV (w64 m))) F f := rfl
  have h2 : wCvI .u8 (toV (w64 m)) = some (.int .u8 (Int.ofNat (m % 256))) := by
    simp only [w64, toV, wCvI]
    rw [show (Int.ofNat m) = ((m : Nat) : Int) from rfl, wrap_u8']
    rfl
  rw [e, h2]; rfl
theorem uShr_w (a k : Nat) (hk : k < 64) (v : FV) (hv : v = w64 k ∨ v = .n k) : uSlow .shr (w64 a) v F f = f (w64 (a / 2 ^ k)) F := by
  have h : binV .shr (toV (w64 a)) (toV v) = some (.int .u64 (Int.ofNat (a / 2 ^ k))) := by
    have hm : (min (Int.ofNat k).toNat (IntKind.bits .u64)) = k := by simp [IntKind.bits]; omega
    rcases hv with rfl | rfl <;>
    · simp only [w64, toV, binV, shop]
      rw [if_neg (by simp), hm]
      congr 2
      show Int.fdiv ((a : Nat) : Int) ((2 : Int) ^ k) = ((a / 2 ^ k : Nat) : Int)
      rw [Int.fdiv_eq_ediv_of_nonneg _ (by exact Int.pow_nonneg (by decide))]
      norm_cast
  rw [uSlow_n h]; rfl
theorem uShl_w (a k : Nat) (hk : k < 64) (v : FV) (hv : v = w64 k ∨ v = .n k) : uSlow .shl (w64 a) v F f = f (w64 (a * 2 ^ k % 18446744073709551616)) F := by
  have h : binV .shl (toV (w64 a)) (toV v) = some (.int .u64 (Int.ofNat (a * 2 ^ k % 18446744073709551616))) := by
    have hm : (min (Int.ofNat k).toNat (IntKind.bits .u64)) = k := by simp [IntKind.bits]; omega
    rcases hv with rfl | rfl <;>
    · simp only [w64, toV, binV, shop]
      rw [if_neg (by simp), hm]
      show some (Value.int .u64 (IntKind.wrap .u64 (((a : Nat) : Int) * (2 : Int) ^ k))) = _
      rw [show ((a : Nat) : Int) * (2 : Int) ^ k = ((a * 2 ^ k : Nat) : Int) by norm_cast, wrap_u64']
      rfl
  rw [uSlow_n h]; rfl
theorem uOr_w (a b : Nat) (ha : a < 18446744073709551616) (hb : b < 18446744073709551616) : uSlow .or (w64 a) (w64 b) F f = f (w64 (a ||| b)) F := by
  have h : binV .or (toV (w64 a)) (toV (w64 b)) = some (.int .u64 (Int.ofNat (a ||| b))) := by
    simp only [w64, toV, binV, iop, if_true]
    congr 2
    show IntKind.wrap .u64 (((BitVec.ofInt 64 (Int.ofNat a) ||| BitVec.ofInt 64 (Int.ofNat b)).toNat : Nat) : Int) = _
    have e : (BitVec.ofInt 64 (Int.ofNat a) ||| BitVec.ofInt 64 (Int.ofNat b)).toNat = a ||| b := by
      rw [BitVec.toNat_or]
      simp
      rw [Nat.mod_eq_of_lt ha, Nat.mod_eq_of_lt hb]
    rw [e, wrap_u64 (Nat.or_lt_two_pow (n := 64) ha hb)]
    rfl
  rw [uSlow_n h]; rfl
theorem uOr_b (a b : Nat) (ha : a < 256) (hb : b < 256) : uSlow .or (.b a) (.b b) F f = f (.b (a ||| b)) F := by
  have h : binV .or (toV (.b a)) (toV (.b b)) = some (.int .u8 (Int.ofNat (a ||| b))) := by
    simp only [toV, binV, iop, if_true]
    congr 2
    show IntKind.wrap .u8 (((BitVec.ofInt 8 (Int.ofNat a) ||| BitVec.ofInt 8 (Int.ofNat b)).toNat : Nat) : Int) = _
    have e : (BitVec.ofInt 8 (Int.ofNat a) ||| BitVec.ofInt 8 (Int.ofNat b)).toNat = a ||| b := by
      rw [BitVec.toNat_or]
      simp
      rw [Nat.mod_eq_of_lt ha, Nat.mod_eq_of_lt hb]
    rw [e, wrap_u8 (Nat.or_lt_two_pow (n := 8) ha hb)]
    rfl
  rw [uSlow_n h]; rfl
theorem uAnd_b (a b : Nat) (ha : a < 256) (hb : b < 256) : uSlow .and (.b a) (.b b) F f = f (.b (a &&& b)) F := by
  have h : binV .and (toV (.b a)) (toV (.b b)) = some (.int .u8 (Int.ofNat (a &&& b))) := by
    simp only [toV, binV, iop, if_true]
    congr 2
    show IntKind.wrap .u8 (((BitVec.ofInt 8 (Int.ofNat a) &&& BitVec.ofInt 8 (Int.ofNat b)).toNat : Nat) : Int) = _
    have e : (BitVec.ofInt 8 (Int.ofNat a) &&& BitVec.ofInt 8 (Int.ofNat b)).toNat = a &&& b := by
      rw [BitVec.toNat_and]
      simp
      rw [Nat.mod_eq_of_lt ha, Nat.mod_eq_of_lt hb]
    rw [e, wrap_u8 (Nat.lt_of_le_of_lt Nat.and_le_left ha)]
    rfl
  rw [uSlow_n h]; rfl
theorem uDiv_nn (a b : Nat) (ha : a ≤ 9223372036854775807) (hb : b ≠ 0) : uQuo true .quo (.n a) (.n b) F f = f (.n (a / b)) F := by
  have e : uQuo true .quo (.n a) (.n b) F f = cn (Nat.beq b 0) .no (uNum (Nat.div a b) F f) := rfl
  rw [e, beqU, decide_eq_false hb]
  exact uNum_le F f (Nat.le_trans (Nat.div_le_self a b) ha)
end
end Go.Proofs.Ytgejdfhfgphcbaa.Ev
/- Slices of bytes. -/
namespace Go.Proofs.Ytgejdfhfgphcbaa.Ev
open Go Go.RowKit
set_option linter.unusedVariables false
set_option linter.constructorNameAsVariable false
set_option linter.unusedSimpArgs false
set_option linter.unusedSectionVars false

/-- A slice whose bytes are known. -/
def By (F : FAW) (v : FV) (l : List Nat) : Prop :=
  (v = .nl ∧ l = []) ∨ ∃ i o c el m ro cells, v = .l i o l.length c ∧ l.length ≤ c ∧ F.row i = some (cells, el, 1, m, ro) ∧ (cells.drop o).take l.length = l.map FV.b ∧ o + l.length ≤ cells.length
theorem By.sl {F : FAW} {v : FV} {l : List Nat} (h : By F v l) : Sl F v (l.map FV.b) := by
  rcases h with ⟨rfl, rfl⟩ | ⟨i, o, c, el, m, ro, cells, rfl, h1, h2, h3, h4⟩
  · exact .inl ⟨rfl, rfl⟩
  · exact .inr ⟨i, o, c, el, m, ro, cells, by rw [List.length_map], h2, by rw [List.length_map]; exact h3, by rw [List.length_map]; exact h4⟩
theorem By.fi {F : FAW} {v : FV} {l : List Nat} (h : By F v l) : Fi v := by
  rcases h with ⟨rfl, _⟩ | ⟨i, o, c, el, m, ro, cells, rfl, _⟩
  · exact Fi.nl
  · exact Fi.l _ _ _ _
theorem By.len {F : FAW} {v : FV} {l : List Nat} (h : By F v l) (G : FAW) (f : KU) : uLen false v G f = f (.n l.length) G := by
  rw [h.sl.len, List.length_map]
theorem By.get {F : FAW} {v : FV} {l : List Nat} (h : By F v l) {k x : Nat} (hk : l[k]? = some x) (f : KU) : (uIad 1 v (.n k) F fun v0 S => uLd none v0 S f) = f (.b x) F :=
  h.sl.get (by rw [List.getElem?_map, hk]; rfl) (Fi.b x) f
theorem By.std {F F' : FAW} {v : FV} {l : List Nat} (h : By F v l) {A B : Nat → Prop} (hs : Std F F' A B) (hA : ∀ i r e m o, F.row i = some (r, e, 1, m, o) → ¬ A i) : By F' v l := by
  rcases h with h | ⟨i, o, c, el, m, ro, cells, h1, h0, h2, h3, h4⟩
  · exact .inl h
  · exact .inr ⟨i, o, c, el, m, ro, cells, h1, h0, hs.row _ _ (hA _ _ _ _ _ h2) h2, h3, h4⟩
theorem optU_s (k d : Nat) (g : Nat → RU) : optU (some (.n k)) d g = g k := by
  show fN k g = _
  rw [fN_eq]
theorem optU_o (d : Nat) (g : Nat → RU) : optU none d g = g d := by
  show fN d g = _
  rw [fN_eq]
theorem By.cut {F : FAW} {v : FV} {l : List Nat} (h : By F v l) {a b : Nat} (h1 : a ≤ b) (h2 : b ≤ l.length) : ∃ w, (∀ f : KU, uSlV 1 v (some (.n a)) (some (.n b)) none F f = f w F) ∧ By F w ((l.drop a).take (b - a)) := by
  rcases h with ⟨rfl, rfl⟩ | ⟨i, o, c, el, m, ro, cells, rfl, h0, hr, ht, hle⟩
  · have hb : b = 0 := by simpa using h2
    have ha : a = 0 := by omega
    subst hb ha
    exact ⟨.nl, fun f => rfl, .inl ⟨rfl, rfl⟩⟩
  · have hlen : ((l.drop a).take (b - a)).length = b - a := by rw [List.length_take, List.length_drop]; omega
    refine ⟨.l i (o + a) (b - a) (c - a), fun f => ?_, .inr ⟨i, o + a, c - a, el, m, ro, cells, by rw [hlen], by rw [hlen]; omega, hr, ?_, by rw [hlen]; omega⟩⟩
    · show uSlVL 1 i o l.length c (some (.n a)) (some (.n b)) none F f = _
      unfold uSlVL
      rw [findH_get _ hr]
      have e1 : an (Nat.ble a b) (an (Nat.ble b c) (an (Nat.ble c c) (nt (an false false)))) = true := by
        simp only [an_eq, nt_eq, bleU]
        simp [h1, show b ≤ c by omega]
      rw [optU_s, optU_s, optU_o]
      show cn (Nat.beq 1 1) (cn (an (Nat.ble a b) (an (Nat.ble b c) (an (Nat.ble c c) (nt (an false false))))) (fN (Nat.add o (Nat.mul a 1)) fun o => fN (Nat.sub b a) fun n => fN (Nat.sub c a) fun c => f (.l i o n c) F) .no) .no = _
      rw [e1, show Nat.beq 1 1 = true from rfl, cn_true, cn_true, fN_eq, fN_eq, fN_eq]
      show f (.l i (o + a * 1) (b - a) (c - a)) F = _
      rw [Nat.mul_one]
    · rw [hlen, ← List.drop_drop, List.map_take, List.map_drop, ← ht, List.drop_take, List.take_take, Nat.min_eq_left (by omega)]
theorem By.cut1 {F : FAW} {v : FV} {l : List Nat} (h : By F v l) {a : Nat} (h2 : a ≤ l.length) : ∃ w, (∀ f : KU, uSlV 1 v (some (.n a)) none none F f = f w F) ∧ By F w (l.drop a) := by
  obtain ⟨w, h3, h4⟩ := h.cut h2 (Nat.le_refl _)
  refine ⟨w, fun f => ?_, by rw [List.take_of_length_le (by rw [List.length_drop]; omega)] at h4; exact h4⟩
  rw [← h3 f]
  rcases h with ⟨rfl, rfl⟩ | ⟨i, o, c, el, m, ro, cells, rfl, h0, hr, ht, hle⟩
  · rfl
  · rfl
theorem bytesU_all : ∀ (cells : List FV) (l : List Nat) (g : List Nat → RU), cells.take l.length = l.map FV.b → bytesU cells l.length g = g l
  | _, [], g, _ => by cases ‹List FV› <;> rfl
  | [], x :: l, g, h => by simp at h
  | a :: cells, x :: l, g, h => by
    simp only [List.length_cons, List.take_succ_cons, List.map_cons, List.cons.injEq] at h
    obtain ⟨rfl, h⟩ := h
    exact bytesU_all cells l (fun r => g (x :: r)) h
theorem By.str {F : FAW} {v : FV} {l : List Nat} (h : By F v l) (f : KU) : uCvBS v F f = f (.s l) F := by
  rcases h with ⟨rfl, rfl⟩ | ⟨i, o, c, el, m, ro, cells, rfl, h0, hr, ht, hle⟩
  · rfl
  · show (findH F.h i fun c _ _ _ _ => dropU c o fun r => bytesU r l.length fun bs => f (.s bs) F) = _
    rw [findH_get _ hr, dropU_le _ (by omega), bytesU_all _ _ _ ht]
theorem SlB.by {F : FAW} {v : FV} {el m : Nat} {l : List Nat} (h : SlB F v el (l.map FV.b) m) : By F v l := by
  rcases h with ⟨h1, h2⟩ | ⟨_, i, mu, h2, h3, _⟩
  · exact .inl ⟨h2, by simpa using h1⟩
  · exact .inr ⟨i, 0, _, el, m, false, _, by rw [h2, List.length_map], Nat.le_refl _, h3, by rw [List.drop_zero, List.take_of_length_le (by simp)], by simp⟩
theorem uNilc_p (i o : Nat) (F : FAW) (f : KU) : uNilc (.p i o) F f = f (.p i o) F := rfl
theorem uFad_p (k i o : Nat) (F : FAW) (f : KU) : uFad k (.p i o) F f = f (.p i (o + k)) F := by
  show fN (Nat.add o k) (fun o => f (.p i o) F) = _
  rw [fN_eq]; rfl
end Go.Proofs.Ytgejdfhfgphcbaa.Ev
/- Slices that grow by append, elements of any size; empty ones too. -/
namespace Go.Proofs.Ytgejdfhfgphcbaa.Ev
open Go Go.RowKit
set_option linter.unusedVariables false
set_option linter.constructorNameAsVariable false
set_option linter.unusedSimpArgs false
set_option linter.unusedSectionVars false

/-- A slice that was built by append: n elements of es cells; m: its family. -/
def SlE (F : FAW) (v : FV) (el es n : Nat) (cs : List FV) (m : Nat) : Prop :=
  (v = .nl ∧ cs = [] ∧ n = 0) ∨ ∃ i mu, v = .l i 0 n n ∧ cs.length = n * es ∧ F.row i = some (cs, el, es, m, false) ∧ F.fam m = some (mu, cs.length)
theorem SlE.nil (F : FAW) (el es m : Nat) : SlE F .nl el es 0 [] m := .inl ⟨rfl, rfl, rfl⟩
theorem SlE.length {F : FAW} {v : FV} {el es n : Nat} {cs : List FV} {m : Nat} (h : SlE F v el es n cs m) : cs.length = n * es := by
  rcases h with ⟨_, rfl, rfl⟩ | ⟨i, mu, _, h, _⟩
  · simp
  · exact h
theorem SlE.fi {F : FAW} {v : FV} {el es n : Nat} {cs : List FV} {m : Nat} (h : SlE F v el es n cs m) : Fi v := by
  rcases h with ⟨rfl, _⟩ | ⟨i, mu, rfl, _⟩
  · exact Fi.nl
  · exact Fi.l _ _ _ _
theorem SlE.len {F : FAW} {v : FV} {el es n : Nat} {cs : List FV} {m : Nat} (h : SlE F v el es n cs m) (G : FAW) (f : KU) : uLen false v G f = f (.n n) G := by
  rcases h with ⟨rfl, _, rfl⟩ | ⟨i, mu, rfl, _⟩ <;> rfl
theorem SlE.std {F F' : FAW} {v : FV} {el es n : Nat} {cs : List FV} {m : Nat} (h : SlE F v el es n cs m) {A B : Nat → Prop} (hs : Std F F' A B) (hA : ∀ i r e, F.row i = some (r, e, es, m, false) → ¬ A i) (hB : v ≠ .nl → ¬ B m) : SlE F' v el es n cs m := by
  rcases h with h | ⟨i, mu, h2, h1, h3, h4⟩
  · exact .inl h
  · exact .inr ⟨i, mu, h2, h1, hs.row _ _ (hA _ _ _ h3) h3, hs.fam _ _ (hB (by rw [h2]; simp)) h4⟩
theorem SlE.lt {F : FAW} {v : FV} {el es n : Nat} {cs : List FV} {m : Nat} (h : SlE F v el es n cs m) (hF : Wf F) (hne : v ≠ .nl) : m < F.x := by
  rcases h with ⟨h1, _⟩ | ⟨i, mu, _, _, _, h4⟩
  · exact absurd h1 hne
  · exact hF.fam _ _ h4
theorem SlE.by {F : FAW} {v : FV} {el n m : Nat} {l : List Nat} (h : SlE F v el 1 n (l.map FV.b) m) : By F v l := by
  rcases h with ⟨h1, h2, _⟩ | ⟨i, mu, h2, h1, h3, _⟩
  · exact .inl ⟨h1, by simpa using h2⟩
  · rw [List.length_map, Nat.mul_one] at h1
    exact .inr ⟨i, 0, _, el, m, false, _, by rw [h2, h1], by rw [h1]; exact Nat.le_refl _, h3, by rw [List.drop_zero, List.take_of_length_le (by simp)], by simp⟩
theorem SlB.e {F : FAW} {v : FV} {el : Nat} {cs : List FV} {m : Nat} (h : SlB F v el cs m) : SlE F v el 1 cs.length cs m := by
  rcases h with ⟨rfl, rfl⟩ | ⟨_, i, mu, h2, h3, h4⟩
  · exact .inl ⟨rfl, rfl, rfl⟩
  · exact .inr ⟨i, mu, h2, by rw [Nat.mul_one], h3, h4⟩
/-- A literal of nothing. -/
theorem uLit0 (el es : Nat) (z : List FV) (F : FAW) (f : KU) : uLitF el es z 0 [] F f = f (.l F.x 0 0 0) (F.new [] el es) := by
  have e : uLitF el es z 0 [] F f = newU [] el es F fun i F' => f (.l i 0 0 0) F' := rfl
  rw [e, newU_new]
theorem SlE.lit0 (F : FAW) (el es : Nat) : SlE (F.new [] el es) (.l F.x 0 0 0) el es 0 [] F.x := .inr ⟨F.x, false, rfl, by simp, by rw [row_new, if_pos rfl], by rw [fam_new, if_pos rfl]⟩
theorem app_k {F : FAW} (hF : Wf F) {v : FV} {el es n : Nat} {cs : List FV} {m : Nat} (h : SlE F v el es n cs m) (hcs : ∀ c ∈ cs, Fi c) {k : Nat} {ds : List FV} (hk : ds.length = k * es) (hds : ∀ c ∈ ds, Fi c) {bytes : Nat}
    (hb : (2 * (n + k) + 192) * bytes ≤ 281474976710656) (hl : n + k ≤ 140737488355328) :
    ∃ v' F' m', (∀ f : KU, allU ds (eL v (fun i o l c => appSU el es bytes i o l c k ds F f) (appNU el es bytes k ds F f) (fun _ => .no) (fun _ => .no) .no) = f v' F') ∧ SlE F' v' el es (n + k) (cs ++ ds) m' ∧ Std F F' (fun _ => False) (fun q => q = m ∧ v ≠ .nl) ∧ Wf F' ∧ (v' ≠ .nl → (m' = m ∧ v ≠ .nl) ∨ F.x ≤ m') ∧ (v ≠ .nl → v' ≠ .nl) := by
  by_cases h0 : k = 0
  · subst h0
    have : ds = [] := List.length_eq_zero_iff.mp (by rw [hk, Nat.zero_mul])
    subst this
    refine ⟨v, F, m, fun f => ?_, by rw [List.append_nil, Nat.add_zero]; exact h, Std.refl _ _ _, hF, fun hne => .inl ⟨rfl, hne⟩, fun h => h⟩
    rcases h with ⟨rfl, _, _⟩ | ⟨i, mu, rfl, _⟩ <;> rfl
  · rcases h with ⟨rfl, rfl, rfl⟩ | ⟨i, mu, rfl, hn, hi, hm⟩
    · refine ⟨.l F.x 0 k k, F.new ds el es, F.x, fun f => ?_, .inr ⟨F.x, false, by rw [Nat.zero_add], by rw [List.nil_append, hk, Nat.zero_add], by rw [row_new, if_pos rfl]; simp, by rw [fam_new, if_pos rfl]; simp⟩, Std.new hF _ _ _ _ _, hF.new _ _ _, fun _ => .inr (Nat.le_refl _), fun h => absurd rfl h⟩
      rw [allU_all _ hds]
      show appNU el es bytes k ds F f = _
      unfold appNU
      rw [beqU, decide_eq_false h0]
      show cn (fitU k bytes) (newU ds el es F fun i F' => f (.l i 0 k k) F') .no = _
      rw [fitU_le (by simpa using hb) (by simpa using hl), cn_true, newU_new]
    · refine ⟨.l F.x 0 (n + k) (n + k), F.grown m (cs ++ ds) el es false, m, fun f => ?_, .inr ⟨F.x, true, rfl, by rw [List.length_append, hn, hk, Nat.add_mul], by rw [row_grown, if_pos rfl], by rw [fam_grown, if_pos rfl, hm]; rfl⟩, ?_, ?_, fun _ => .inl ⟨rfl, by simp⟩, fun _ => by simp⟩
      · rw [allU_all _ hds]
        show appSU el es bytes i 0 n n k ds F f = _
        unfold appSU
        rw [beqU, decide_eq_false h0]
        show (findH F.h i fun cc el' es' fm ro => cn (an (nt ro) (an (Nat.beq es' es) (Nat.beq el' el))) (Bool.rec (motive := fun _ => RU) (appGrU es bytes 0 n k cc ds el fm F f) (appInU es i 0 n n k cc ds fm F f) (Nat.ble (Nat.add n k) n)) .no) = _
        rw [findH_get _ hi, an_eq, an_eq, nt_eq, beqU, beqU, bleU]
        simp only [decide_true, Bool.not_false, Bool.and_self, cn_true]
        rw [decide_eq_false (show ¬ Nat.add n k ≤ n by show ¬ n + k ≤ n; omega)]
        show appGrU es bytes 0 n k cs ds el m F f = _
        have e2 : appGrU es bytes 0 n k cs ds el m F f = fN (Nat.mul n es) fun j => rowU cs j fun mm => cn (fitU (Nat.add n k) bytes) (growU F m 0 j mm ds el es false fun x F' => fN (Nat.add n k) fun n => f (.l x 0 n n) F') .no := by
          unfold appGrU
          congr 1
          funext j
          unfold rowAtU
          rw [dropU_le _ (by omega)]; rfl
        have e3 : Nat.mul n es = cs.length := hn.symm
        have e5 : Nat.add n k = n + k := rfl
        rw [e2, fN_eq, e3, rowU_all _ hcs, e5, fitU_le hb hl, cn_true]
        unfold growU
        rw [catU_eq, fN_eq, lenU_eq, findF_get _ hm, ltN_eq]
        have e4 : Nat.add 0 cs.length = cs.length := Nat.zero_add _
        rw [e4, decide_eq_false (by omega)]
        show growK F m (cs ++ ds) el es false (cs ++ ds).length _ = _
        unfold growK
        rw [fN_eq, setF_get _ _ _ _ hm]
        simp only [fN_eq]
        rfl
      · refine ⟨fun j r _ e => by rw [row_grown, if_neg (by have := hF.row j r e; omega)]; exact e, fun j r hj e => ?_, fun j r e => by rw [mp_grown]; exact e, Nat.le_succ _⟩
        rw [fam_grown, if_neg (fun q => hj ⟨q, by simp⟩)]; exact e
      · have hx : (F.grown m (cs ++ ds) el es false).x = F.x + 1 := rfl
        refine ⟨⟨Nat.lt_succ_of_lt (hF.fam _ _ hm), hF.own.mono (Nat.le_succ _)⟩, fun j r e => ?_, fun j r e => ?_, fun j r e => ?_⟩
        · rw [row_grown] at e; rw [hx]
          split at e
          · omega
          · have := hF.row j r e; omega
        · rw [fam_grown] at e; rw [hx]
          split at e
          · rename_i q; subst q; have := hF.fam _ _ hm; omega
          · have := hF.fam j r e; omega
        · rw [mp_grown] at e; rw [hx]
          have := hF.mp j r e; omega
theorem app_e {F : FAW} (hF : Wf F) {v : FV} {el es n : Nat} {cs : List FV} {m : Nat} (h : SlE F v el es n cs m) (hcs : ∀ c ∈ cs, Fi c) {w : FV} {k : Nat} {ds : List FV} (hd : ∀ g : Nat → List FV → RU, srcU F es w g = g k ds) (hk : ds.length = k * es) (hds : ∀ c ∈ ds, Fi c) {bytes : Nat}
    (hb : (2 * (n + k) + 192) * bytes ≤ 281474976710656) (hl : n + k ≤ 140737488355328) :
    ∃ v' F' m', (∀ f : KU, uApp el es bytes v w F f = f v' F') ∧ SlE F' v' el es (n + k) (cs ++ ds) m' ∧ Std F F' (fun _ => False) (fun q => q = m ∧ v ≠ .nl) ∧ Wf F' ∧ (v' ≠ .nl → (m' = m ∧ v ≠ .nl) ∨ F.x ≤ m') ∧ (v ≠ .nl → v' ≠ .nl) := by
  obtain ⟨v', F', m', h1, h2⟩ := app_k hF h hcs hk hds hb hl
  refine ⟨v', F', m', fun f => ?_, h2⟩
  unfold uApp
  rw [hd]
  exact h1 f
theorem repU_rep (z : FV) : ∀ n : Nat, repU [z] n = List.replicate n z
  | 0 => rfl
  | n + 1 => by
    show [z] ++ repU [z] n = _
    rw [repU_rep z n]; rfl
/-- Noughts are put behind. -/
theorem appz_e {F : FAW} (hF : Wf F) {v : FV} {el n : Nat} {cs : List FV} {m : Nat} (h : SlE F v el 1 n cs m) (hcs : ∀ c ∈ cs, Fi c) (z : FV) (hz : Fi z) (k : Nat) {bytes : Nat}
    (hb : (2 * (n + k) + 192) * bytes ≤ 281474976710656) (hl : n + k ≤ 140737488355328) :
    ∃ v' F' m', (∀ f : KU, uAppzF el 1 bytes [z] v (.n k) F f = f v' F') ∧ SlE F' v' el 1 (n + k) (cs ++ List.replicate k z) m' ∧ Std F F' (fun _ => False) (fun q => q = m ∧ v ≠ .nl) ∧ Wf F' ∧ (v' ≠ .nl → (m' = m ∧ v ≠ .nl) ∨ F.x ≤ m') ∧ (v ≠ .nl → v' ≠ .nl) := by
  obtain ⟨v', F', m', h1, h2⟩ := app_k hF h hcs (k := k) (ds := List.replicate k z) (by rw [List.length_replicate, Nat.mul_one]) (fun c hc => by rw [List.eq_of_mem_replicate hc]; exact hz) hb hl
  refine ⟨v', F', m', fun f => ?_, h2⟩
  have e : uAppzF el 1 bytes [z] v (.n k) F f = cn (an (Nat.ble k 140737488355328) (Nat.ble (Nat.mul k bytes) 281474976710656)) (cn (Nat.beq (lenU (repU [z] k)) (Nat.mul k 1)) (allU (repU [z] k) (eL v (fun i o l c => appSU el 1 bytes i o l c k (repU [z] k) F f) (appNU el 1 bytes k (repU [z] k) F f) (fun _ => .no) (fun _ => .no) .no)) .no) .no := rfl
  have hkb : k * bytes ≤ 281474976710656 := Nat.le_trans (Nat.mul_le_mul_right _ (by omega)) hb
  have e1 : an (Nat.ble k 140737488355328) (Nat.ble (Nat.mul k bytes) 281474976710656) = true := by
    rw [an_eq, bleU, bleU, decide_eq_true (show k ≤ 140737488355328 by omega), decide_eq_true (show Nat.mul k bytes ≤ 281474976710656 from hkb)]; rfl
  have e2 : Nat.beq (lenU (repU [z] k)) (Nat.mul k 1) = true := by
    rw [beqU, lenU_eq, repU_rep, List.length_replicate]
    exact decide_eq_true (Nat.mul_one k).symm
  rw [e, e1, cn_true, e2, cn_true, repU_rep]
  exact h1 f
/-- What was there stands, when a family that is new is written. -/
theorem Std.newfam {F F1 F2 : FAW} {m : Nat} (hF : Wf F) (h : Std F F1 (fun _ => False) (fun _ => False)) (k : Std F1 F2 (fun j => ∃ r e s o, F1.row j = some (r, e, s, m, o)) (fun q => q = m)) (hm : F.x ≤ m) : Std F F2 (fun _ => False) (fun _ => False) := by
  refine ⟨fun j r _ e => k.row j r (fun ⟨c, e', s, o, q⟩ => ?_) (h.row j r (fun q => q) e), fun j r _ e => k.fam j r (fun q => ?_) (h.fam j r (fun q => q) e), fun j r e => k.mp j r (h.mp j r e), Nat.le_trans h.x k.x⟩
  · rw [h.row j r (fun q => q) e] at q
    simp only [Option.some.injEq] at q
    subst q
    have : m < F.x := hF.own.get e
    omega
  · have := hF.fam _ _ e
    omega
/-- What came in stands, whatever was done to what is new. -/
theorem Std.fresh {F F1 F2 : FAW} {A' B' : Nat → Prop} (hF : Wf F) (h : Std F F1 (fun _ => False) (fun _ => False)) (k : Std F1 F2 A' B') (hA : ∀ j, j < F.x → ¬ A' j) (hB : ∀ j, j < F.x → ¬ B' j) : Std F F2 (fun _ => False) (fun _ => False) :=
  ⟨fun j r _ e => k.row j r (hA j (hF.row j r e)) (h.row j r (fun q => q) e), fun j r _ e => k.fam j r (hB j (hF.fam j r e)) (h.fam j r (fun q => q) e), fun j r e => k.mp j r (h.mp j r e), Nat.le_trans h.x k.x⟩
theorem lessH_cell (fm i j : Nat) (c : List FV) (e s m : Nat) (o : Bool) (r : HL) : lessH fm i (.cell j c e s m o r) = if m = fm ∧ j ≠ i then lessH fm i r else .cell j c e s m o (lessH fm i r) := by
  have h : lessH fm i (.cell j c e s m o r) = Bool.rec (motive := fun _ => HL) (.cell j c e s m o (lessH fm i r)) (lessH fm i r) (an (Nat.beq m fm) (nt (Nat.beq i j))) := rfl
  rw [h, an_eq, nt_eq, beqU, beqU]
  by_cases h1 : m = fm
  · by_cases h2 : i = j
    · rw [if_neg (by rintro ⟨_, h⟩; exact h h2.symm), decide_eq_true h1, decide_eq_true h2]; rfl
    · rw [if_pos ⟨h1, fun h => h2 h.symm⟩, decide_eq_true h1, decide_eq_false h2]; rfl
  · rw [if_neg (by rintro ⟨h, _⟩; exact h1 h), decide_eq_false h1]; rfl
theorem getH_less (fm i j : Nat) : ∀ (h : HL) (c : List FV) (e s m : Nat) (o : Bool), getH h j = some (c, e, s, m, o) → (j = i ∨ m ≠ fm) → getH (lessH fm i h) j = some (c, e, s, m, o)
  | .nil, c, e, s, m, o, h, _ => by cases h
  | .cell k c' e' s' m' o' r, c, e, s, m, o, h, hj => by
    simp only [getH] at h
    rw [lessH_cell]
    by_cases hk : j = k
    · rw [if_pos hk] at h
      simp only [Option.some.injEq, Prod.mk.injEq] at h
      obtain ⟨rfl, rfl, rfl, rfl, rfl⟩ := h
      rw [if_neg (by rintro ⟨h1, h2⟩; rcases hj with h | h
                     · exact h2 (hk ▸ h)
                     · exact h h1)]
      simp only [getH, if_pos hk]
    · rw [if_neg hk] at h
      split
      · exact getH_less fm i j r _ _ _ _ _ h hj
      · simp only [getH, if_neg hk]; exact getH_less fm i j r _ _ _ _ _ h hj
  | .map k es r, c, e, s, m, o, h, hj => getH_less fm i j r c e s m o h hj
theorem getH_less_some (fm i j : Nat) : ∀ (h : HL) r, getH (lessH fm i h) j = some r → ∃ r', getH h j = some r'
  | .nil, r, h => by cases h
  | .cell k c' e' s' m' o' t, r, h => by
    rw [lessH_cell] at h
    simp only [getH]
    by_cases hk : j = k
    · exact ⟨_, by rw [if_pos hk]⟩
    · rw [if_neg hk]
      split at h
      · exact getH_less_some fm i j t r h
      · simp only [getH, if_neg hk] at h; exact getH_less_some fm i j t r h
  | .map k es t, r, h => getH_less_some fm i j t r h
theorem getMp_less (fm i j : Nat) : ∀ h : HL, getMp (lessH fm i h) j = getMp h j
  | .nil => rfl
  | .cell k c' e' s' m' o' t => by
    rw [lessH_cell]
    split
    · exact getMp_less fm i j t
    · simp only [getMp]; exact getMp_less fm i j t
  | .map k es t => by
    show getMp (.map k es (lessH fm i t)) j = _
    simp only [getMp]
    rw [getMp_less fm i j t]
theorem Own.less {n fm i : Nat} : ∀ {h : HL}, Own n h → Own n (lessH fm i h)
  | .nil, h => h
  | .cell k c e s m o t, h => by
    rw [lessH_cell]
    split
    · exact Own.less h.2
    · exact ⟨h.1, Own.less h.2⟩
  | .map k es t, h => Own.less (h := t) h
/-- An element is stored in a slice that was built by append. -/
theorem st_e {F : FAW} (hF : Wf F) {v : FV} {el n : Nat} {cs : List FV} {m : Nat} (h : SlE F v el 1 n cs m) (hcs : ∀ c ∈ cs, Fi c) {k : Nat} (hk : k < n) {w : FV} (hw : Fi w) :
    ∃ F', (∀ f : KU, (uIad 1 v (.n k) F fun p S => uSt 1 p w S f) = f (.u []) F') ∧ SlE F' v el 1 n (cs.set k w) m ∧ F'.x = F.x ∧ Std F F' (fun j => ∃ r e s o, F.row j = some (r, e, s, m, o)) (fun q => q = m) ∧ Wf F' := by
  rcases h with ⟨_, _, rfl⟩ | ⟨i, mu, rfl, hn, hi, hm⟩
  · omega
  · rw [Nat.mul_one] at hn
    obtain ⟨a, ha⟩ : ∃ a, cs[k]? = some a := ⟨cs[k]'(by omega), List.getElem?_eq_getElem (by omega)⟩
    have hfa := hcs a (List.mem_of_getElem? ha)
    have e0 : ∀ f : KU, (uIad 1 (.l i 0 n n) (.n k) F fun p S => uSt 1 p w S f) = putU F i m (cs.set k w) fun F' => f (.u []) F' := fun f => by
      rw [uIad_l _ _ hk, Nat.zero_add, Nat.mul_one]
      show uStR 1 i k (cellsU w) F f = _
      rw [hw.2.2]
      unfold uStR
      rw [findH_get _ hi, cn_false]
      show stAtU cs k [w] (fun d => putU F i m d fun F' => f (.u []) F') = _
      rw [stAtU_one hw _ ha hfa]
    cases mu with
    | false =>
      refine ⟨F.put i (cs.set k w), fun f => ?_, .inr ⟨i, false, rfl, by rw [List.length_set, hn, Nat.mul_one], by rw [row_put, if_pos rfl, hi]; rfl, by rw [fam_put, List.length_set]; exact hm⟩, rfl, ⟨fun j r hj e => ?_, fun j r _ e => e, fun j r e => by rw [mp_put]; exact e, Nat.le_refl _⟩, hF.put _ _⟩
      · rw [e0]
        exact putU_put hi hm (by rw [List.length_set]; exact Nat.le_refl _) _
      · rw [row_put, if_neg (fun q => hj ⟨cs, el, 1, false, by rw [q]; exact hi⟩)]; exact e
    | true =>
      have g1 : getH (lessH m i F.h) i = some (cs, el, 1, m, false) := getH_less m i i F.h _ _ _ _ _ hi (.inl rfl)
      refine ⟨⟨putHL i (cs.set k w) (lessH m i F.h), putFL m false cs.length F.fs, F.x⟩, fun f => ?_, .inr ⟨i, false, rfl, by rw [List.length_set, hn, Nat.mul_one], ?_, ?_⟩, rfl, ⟨fun j r hj e => ?_, fun j r hj e => ?_, fun j r e => ?_, Nat.le_refl _⟩, ⟨(hF.own.less).put, fun j r e => ?_, fun j r e => ?_, fun j r e => ?_⟩⟩
      · rw [e0]
        unfold putU
        rw [findF_get _ hm]
        show (fN (lenU (cs.set k w)) fun n => setH i (cs.set k w) (lessH m i F.h) fun h => setF m false (Bool.rec (motive := fun _ => Nat) n cs.length (Nat.ble n cs.length)) F.fs fun fs => f (.u []) ⟨h, fs, F.x⟩) = _
        rw [fN_eq, lenU_eq, setH_get _ _ _ g1, bleU, decide_eq_true (by rw [List.length_set]; exact Nat.le_refl _)]
        show setF m false cs.length F.fs _ = _
        rw [setF_get _ _ _ _ hm]
      · show getH (putHL i (cs.set k w) (lessH m i F.h)) i = _
        rw [getH_put, if_pos rfl, g1]; rfl
      · show getFm (putFL m false cs.length F.fs) m = _
        rw [getFm_put, if_pos rfl, List.length_set]
        have : getFm F.fs m = some (true, cs.length) := hm
        rw [this]; rfl
      · show getH (putHL i (cs.set k w) (lessH m i F.h)) j = _
        have hji : j ≠ i := fun q => hj ⟨cs, el, 1, false, by rw [q]; exact hi⟩
        rw [getH_put, if_neg hji]
        obtain ⟨c, e', s, m', o⟩ := r
        exact getH_less m i j F.h c e' s m' o e (.inr fun q => hj ⟨c, e', s, o, by rw [← q]; exact e⟩)
      · show getFm (putFL m false cs.length F.fs) j = _
        rw [getFm_put, if_neg hj]; exact e
      · show getMp (putHL i (cs.set k w) (lessH m i F.h)) j = _
        rw [getMp_put, getMp_less]; exact e
      · have e : getH (putHL i (cs.set k w) (lessH m i F.h)) j = some r := e
        rw [getH_put] at e
        split at e
        · rename_i q; rw [q]; exact hF.row _ _ hi
        · obtain ⟨r', hr'⟩ := getH_less_some m i j F.h r e
          exact hF.row j r' hr'
      · have e : getFm (putFL m false cs.length F.fs) j = some r := e
        rw [getFm_put] at e
        split at e
        · rename_i q; rw [q]; exact hF.fam _ _ hm
        · exact hF.fam j r e
      · have e : getMp (putHL i (cs.set k w) (lessH m i F.h)) j = some r := e
        rw [getMp_put, getMp_less] at e
        exact hF.mp j r e
theorem fi_b {l : List Nat} : ∀ c ∈ l.map FV.b, Fi c := fun c hc => by obtain ⟨b, _, rfl⟩ := List.mem_map.mp hc; exact Fi.b b
theorem By.src {F : FAW} {v : FV} {l : List Nat} (h : By F v l) (g : Nat → List FV → RU) : srcU F 1 v g = g l.length (l.map FV.b) := by
  rw [h.sl.src fi_b, List.length_map]
theorem src_s {l : List Nat} (h : Bs l) (F : FAW) (g : Nat → List FV → RU) : srcU F 1 (.s l) g = g l.length (l.map FV.b) := by
  have e : srcU F 1 (.s l) g = cn (Nat.beq 1 1) (fN (lenU l) fun n => g n (strU l)) .no := rfl
  rw [e, show Nat.beq 1 1 = true from rfl, cn_true, fN_eq, lenU_eq, strU_bs l h]
/-- A text's bytes. -/
def bytesOf (a : ByteArray) : List Nat := a.data.toList.map UInt8.toNat
theorem bytesOf_bs (a : ByteArray) : Bs (bytesOf a) := by
  intro x hx
  obtain ⟨b, _, rfl⟩ := List.mem_map.mp hx
  exact b.toNat_lt
theorem toV_bytes (a : ByteArray) : toV (.s (bytesOf a)) = .string a := by
  simp only [toV, bytesOf, List.map_map]
  congr 1
  cases a with
  | mk d =>
    congr 1
    apply Array.ext'
    simp only [Function.comp_def, UInt8.ofNat_toNat, List.map_id']
theorem map_num8 {z : List Int} (h : ∀ n ∈ z, (Lit.int .u8 n).wf = true) : z.map (numV .u8) = (z.map Int.toNat).map FV.b ∧ Bs (z.map Int.toNat) := by
  refine ⟨?_, fun x hx => ?_⟩
  · rw [List.map_map]
    exact List.map_congr_left fun n hn => (numV_u8 (h n hn)).1
  · obtain ⟨n, hn, rfl⟩ := List.mem_map.mp hx
    exact (numV_u8 (h n hn)).2
/-- Bytes that came in. -/
theorem arg_by {W : World} {ρ : Ren} {S : AW} {F : FAW} (h : RelW W ρ S W) (u : UR F S) (hw : Wf F) {a : Option Addr} {len cap : Nat} {zs : List Int} (ha : SliceArg W .u8 a len cap zs) :
    ∃ ρ' S' F' fv ms, RelW W ρ' S' W ∧ UR F' S' ∧ ρ.le ρ' ∧ VRel ρ' (toV fv) (.slice a len cap) ∧ By F' fv ms ∧ Bs ms ∧ Std F F' (fun _ => False) (fun _ => False) ∧ Wf F' := by
  rcases ha with ⟨rfl, rfl, rfl, rfl⟩ | ⟨x, C, elem, G, rfl, hsp, hb, hl, hz, hc, hcell, hwz⟩
  · exact ⟨ρ, S, F, .nl, [], h, u, Ren.le_refl _, .nils, .inl ⟨rfl, rfl⟩, Bs.nil, ⟨fun _ _ _ h => h, fun _ _ _ h => h, fun _ _ h => h, Nat.le_refl _⟩, hw⟩
  · have h1 := h.arg (toVs (zs.map (numV .u8))) elem 1 (off := x.off) hb (fun i v hi hbad => by
      rw [toVs_map, List.getElem?_map, List.getElem?_map] at hi
      cases hzi : zs[i]? with
      | none => rw [hzi] at hi; cases hi
      | some z =>
        rw [hzi] at hi
        simp only [Option.map_some, Option.some.injEq] at hi
        subst hi
        refine ⟨.int .u8 z, hcell i z hzi, ?_⟩
        rw [numV_to]
        exact .int _ _)
    have hm := map_num8 hwz
    have hlen : (zs.map Int.toNat).length = len := by rw [List.length_map, hz]
    refine ⟨_, _, F.arg (zs.map (numV .u8)) elem 1, .l F.x 0 len len, zs.map Int.toNat, h1, u.arg _ _ _, Ren.le_add _ (h.fresh _ (Nat.le_refl _)), ?_, .inr ⟨F.x, 0, len, elem, F.x, true, zs.map (numV .u8), by rw [hlen], by rw [hlen]; exact Nat.le_refl _, by rw [row_arg, if_pos rfl], by rw [List.drop_zero, ← hm.1, hlen, List.take_of_length_le (by rw [List.length_map, hz]; exact Nat.le_refl _)], by simp [hz]⟩, hm.2, Std.arg hw _ _ _ _ _, hw.arg _ _ _⟩
    have : VRel (ρ.add S.next ⟨x.block, x.off, C.size, 1⟩) (.slice (some ⟨S.next, 0, none⟩) len len) (.slice (some x) len cap) :=
      .slice (p := ⟨x.block, x.off, C.size, 1⟩) (Ren.add_same _ _ _) (Nat.le_refl _) hl (fun h0 => ⟨x.off, by cases x; simp_all, by simp, by have := hc h0; simp; omega⟩)
    rw [← u.next] at this ⊢
    simpa only [toV] using this
inductive ListRel {α β : Type} (R : α → β → Prop) : List α → List β → Prop
  | nil : ListRel R [] []
  | cons {a b as bs} (h : R a b) (t : ListRel R as bs) : ListRel R (a :: as) (b :: bs)
theorem ListRel.length {α β : Type} {R : α → β → Prop} {xs : List α} {ys : List β} (h : ListRel R xs ys) : xs.length = ys.length := by
  induction h with
  | nil => rfl
  | cons h t ih => simp [ih]
theorem ListRel.get {α β : Type} {R : α → β → Prop} {xs : List α} {ys : List β} (h : ListRel R xs ys) : ∀ (i : Nat) (h1 : i < xs.length) (h2 : i < ys.length), R xs[i] ys[i] := by
  induction h with
  | nil => intro i h1; simp at h1
  | cons h t ih =>
    intro i h1 h2
    cases i with
    | zero => exact h
    | succ i => exact ih i (by simpa using h1) (by simpa using h2)
/-- A struct's cells stand for a struct's. -/
theorem VRel.agg_l {ρ : Ren} {xs ys : List Value} (h : ListRel (VRel ρ) xs ys) : VRel ρ (.agg xs.toArray) (.agg ys.toArray) := by
  refine .agg _ _ (by simpa using h.length) fun i h1 h2 => ?_
  simpa using h.get i (by simpa using h1) (by simpa using h2)
/-- Bytes, built by append. -/
abbrev BB (F : FAW) (v : FV) (l : List Nat) (m : Nat) : Prop := SlE F v 5 1 l.length (l.map FV.b) m
theorem app_bn {F : FAW} (hF : Wf F) {v : FV} {l : List Nat} {m : Nat} (h : BB F v l m) {w : FV} {d : List Nat} (hd : ∀ g : Nat → List FV → RU, srcU F 1 w g = g d.length (d.map FV.b)) (hl : l.length + d.length ≤ 100000000) :
    ∃ v' F' m', (∀ f : KU, uApp 5 1 1 v w F f = f v' F') ∧ BB F' v' (l ++ d) m' ∧ Std F F' (fun _ => False) (fun q => q = m ∧ v ≠ .nl) ∧ Wf F' ∧ (v' ≠ .nl → (m' = m ∧ v ≠ .nl) ∨ F.x ≤ m') ∧ (v ≠ .nl → v' ≠ .nl) := by
  obtain ⟨v', F', m', h1, h2, h3, h4, h5⟩ := app_e hF h fi_b hd (by rw [List.length_map, Nat.mul_one]) fi_b (bytes := 1) (by omega) (by omega)
  exact ⟨v', F', m', h1, by rw [← List.map_append, ← List.length_append] at h2; exact h2, h3, h4, h5⟩
theorem app_bb {F : FAW} (hF : Wf F) {v : FV} {l : List Nat} {m : Nat} (h : BB F v l m) {w : FV} {d : List Nat} (hd : ∀ g : Nat → List FV → RU, srcU F 1 w g = g d.length (d.map FV.b)) (hl : l.length + d.length ≤ 100000000) :
    ∃ v' F' m', (∀ f : KU, uApp 5 1 1 v w F f = f v' F') ∧ BB F' v' (l ++ d) m' ∧ Std F F' (fun _ => False) (fun q => q = m ∧ v ≠ .nl) ∧ Wf F' ∧ (v' ≠ .nl → (m' = m ∧ v ≠ .nl) ∨ F.x ≤ m') := by
  obtain ⟨v', F', m', h1, h2, h3, h4, h5, _⟩ := app_bn hF h hd hl
  exact ⟨v', F', m', h1, h2, h3, h4, h5⟩
theorem appz_bb {F : FAW} (hF : Wf F) {v : FV} {l : List Nat} {m : Nat} (h : BB F v l m) (k : Nat) (hl : l.length + k ≤ 100000000) :
    ∃ v' F' m', (∀ f : KU, uAppzF 5 1 1 [(.b 0)] v (.n k) F f = f v' F') ∧ BB F' v' (l ++ List.replicate k 0) m' ∧ Std F F' (fun _ => False) (fun q => q = m ∧ v ≠ .nl) ∧ Wf F' ∧ (v' ≠ .nl → (m' = m ∧ v ≠ .nl) ∨ F.x ≤ m') ∧ (v ≠ .nl → v' ≠ .nl) := by
  obtain ⟨v', F', m', h1, h2, h3⟩ := appz_e hF h fi_b (.b 0) (Fi.b 0) k (bytes := 1) (by omega) (by omega)
  refine ⟨v', F', m', h1, ?_, h3⟩
  have e : l.map FV.b ++ List.replicate k (FV.b 0) = (l ++ List.replicate k 0).map FV.b := by simp
  rw [e] at h2
  show SlE F' v' 5 1 (l ++ List.replicate k 0).length _ m'
  rw [List.length_append, List.length_replicate]
  exact h2
end Go.Proofs.Ytgejdfhfgphcbaa.Ev
