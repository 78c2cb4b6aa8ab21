/- Numbers as lists of entries of 32 bits: what a list is worth, a number's own list, one entry, one bit: no program in sight. No condition. -/
import Derived.Test.YtgejdfhfgphcbaaAid
namespace Go.Proofs.Ytgejdfhfgphcbaa.Big
open Go.RowKit Go.Proofs.YtgejdfhfgphcbaaW.PrintWords Go.Proofs.YtgejdfhfgphcbaaW.PrintLast Go.Proofs.YtgejdfhfgphcbaaW.PrintMore Go.Proofs.Ytgejdfhfgphcbaa.Aid

/-- entries are numbers of 32 bits -/
def U (l : List Int) : Prop := ∀ x ∈ l, 0 ≤ x ∧ x < 4294967296
theorem U.nil : U [] := by intro x hx; cases hx
theorem U.cons {a : Int} {l : List Int} (ha : 0 ≤ a ∧ a < 4294967296) (h : U l) : U (a :: l) := by
  intro x hx; rcases List.mem_cons.mp hx with rfl | hx
  · exact ha
  · exact h x hx
theorem U.head {a : Int} {l : List Int} (h : U (a :: l)) : 0 ≤ a ∧ a < 4294967296 := h a (List.mem_cons_self ..)
theorem U.tail {a : Int} {l : List Int} (h : U (a :: l)) : U l := fun x hx => h x (List.mem_cons_of_mem _ hx)
theorem U.app {a b : List Int} (ha : U a) (hb : U b) : U (a ++ b) := by
  intro x hx; rcases List.mem_append.mp hx with h | h
  · exact ha x h
  · exact hb x h
theorem U.take {a : List Int} (ha : U a) (n : Nat) : U (a.take n) := fun x hx => ha x (List.mem_of_mem_take hx)
theorem U.drop {a : List Int} (ha : U a) (n : Nat) : U (a.drop n) := fun x hx => ha x (List.mem_of_mem_drop hx)
theorem U.set {a : List Int} (ha : U a) (n : Nat) {x : Int} (hx : 0 ≤ x ∧ x < 4294967296) : U (a.set n x) := by
  intro y hy; rcases List.mem_or_eq_of_mem_set hy with h | h
  · exact ha y h
  · exact h ▸ hx
theorem U.rep (n : Nat) : U (List.replicate n 0) := by
  intro x hx; rw [List.mem_replicate] at hx; omega
theorem U.rd {l : List Int} (h : U l) (i : Nat) : 0 ≤ rd l (i : Int) ∧ rd l (i : Int) < 4294967296 := by
  unfold Go.Proofs.YtgejdfhfgphcbaaW.PrintWords.rd
  rw [Int.toNat_natCast, List.getD_eq_getElem?_getD]
  by_cases hi : i < l.length
  · rw [List.getElem?_eq_getElem hi]; exact h _ (List.getElem_mem hi)
  · rw [List.getElem?_eq_none (by omega)]; decide
theorem take_rd {l : List Int} (i : Nat) (hi : i < l.length) : l.take (i + 1) = l.take i ++ [rd l (i : Int)] := by
  rw [List.take_succ_eq_append_getElem hi, rd, Int.toNat_natCast, List.getD_eq_getElem?_getD, List.getElem?_eq_getElem hi]
  rfl
theorem drop_rd {l : List Int} (i : Nat) (hi : i < l.length) : l.drop i = rd l (i : Int) :: l.drop (i + 1) := by
  rw [List.drop_eq_getElem_cons hi, rd, Int.toNat_natCast, List.getD_eq_getElem?_getD, List.getElem?_eq_getElem hi]
  rfl

/-- what a list of entries is worth -/
def val : List Int → Nat
  | [] => 0
  | a :: l => a.toNat + 4294967296 * val l
/-- a number's entries, no nought behind -/
def limbs (n : Nat) : List Int := if h : n = 0 then [] else ((n % 4294967296 : Nat) : Int) :: limbs (n / 4294967296)
termination_by n
decreasing_by omega
theorem limbs_zero : limbs 0 = [] := by unfold limbs; rfl
theorem limbs_pos {n : Nat} (h : n ≠ 0) : limbs n = ((n % 4294967296 : Nat) : Int) :: limbs (n / 4294967296) := by
  conv => lhs; unfold limbs
  rw [dif_neg h]
theorem U_limbs (n : Nat) : U (limbs n) := by
  induction n using Nat.strongRecOn with
  | _ n ih =>
    by_cases h : n = 0
    · rw [h, limbs_zero]; exact U.nil
    · rw [limbs_pos h]; exact U.cons (by omega) (ih _ (by omega))
theorem val_limbs (n : Nat) : val (limbs n) = n := by
  induction n using Nat.strongRecOn with
  | _ n ih =>
    by_cases h : n = 0
    · rw [h, limbs_zero]; rfl
    · rw [limbs_pos h, val, ih _ (by omega)]; omega
theorem val_append (a b : List Int) : val (a ++ b) = val a + 4294967296 ^ a.length * val b := by
  induction a with
  | nil => simp [val]
  | cons x a ih =>
    rw [List.cons_append, val, ih, val, List.length_cons, Nat.pow_succ]
    grind
theorem val_one (x : Int) : val [x] = x.toNat := by simp [val]
theorem val_rep (n : Nat) : val (List.replicate n 0) = 0 := by
  induction n with
  | zero => rfl
  | succ n ih => rw [List.replicate_succ, val, ih]; rfl
theorem val_take_succ {l : List Int} (i : Nat) (hi : i < l.length) : val (l.take (i + 1)) = val (l.take i) + 4294967296 ^ i * (rd l (i : Int)).toNat := by
  rw [take_rd i hi, val_append, val_one, List.length_take, Nat.min_eq_left (by omega)]
theorem val_lt {l : List Int} (h : U l) : val l < 4294967296 ^ l.length := by
  induction l with
  | nil => simp [val]
  | cons a l ih =>
    have := ih h.tail
    have ha := h.head
    rw [val, List.length_cons, Nat.pow_succ]
    omega
theorem val_split (l : List Int) (i : Nat) : val l = val (l.take i) + 4294967296 ^ i * val (l.drop i) := by
  by_cases h : i ≤ l.length
  · conv => lhs; rw [← List.take_append_drop i l]
    rw [val_append, List.length_take, Nat.min_eq_left h]
  · rw [List.take_of_length_le (by omega), List.drop_eq_nil_of_le (by omega)]; simp [val]

/-- no nought behind -/
def Top (l : List Int) : Prop := ∀ h : l ≠ [], l.getLast h ≠ 0
theorem limbs_of_top {l : List Int} (h : U l) (ht : Top l) : limbs (val l) = l := by
  induction l with
  | nil => rw [val, limbs_zero]
  | cons a l ih =>
    have ha := h.head
    have ht' : Top l := by
      intro hl
      have := ht (by simp)
      rwa [List.getLast_cons hl] at this
    have e := ih h.tail ht'
    have hn : val (a :: l) ≠ 0 := by
      rw [val]
      intro h0
      have h1 : val l = 0 := by omega
      rw [h1, limbs_zero] at e
      have := ht (by simp)
      subst e
      simp at this
      omega
    rw [limbs_pos hn, val, show (a.toNat + 4294967296 * val l) / 4294967296 = val l by omega, e]
    congr 1
    omega
theorem limbs_snoc0 {l : List Int} : val (l ++ [0]) = val l := by rw [val_append, val_one]; simp
theorem top_limbs (n : Nat) : Top (limbs n) := by
  induction n using Nat.strongRecOn with
  | _ n ih =>
    by_cases h : n = 0
    · rw [h, limbs_zero]; intro h; exact absurd rfl h
    · rw [limbs_pos h]
      intro hne
      by_cases h2 : n / 4294967296 = 0
      · simp only [h2, limbs_zero, List.getLast_singleton]; omega
      · rw [List.getLast_cons (by rw [limbs_pos h2]; simp)]
        exact ih _ (by omega) _
/-- how many entries -/
theorem limbs_len_le {n k : Nat} : (limbs n).length ≤ k ↔ n < 4294967296 ^ k := by
  induction k generalizing n with
  | zero =>
    rw [Nat.pow_zero]
    by_cases h : n = 0
    · rw [h, limbs_zero]; decide
    · rw [limbs_pos h, List.length_cons]; omega
  | succ k ih =>
    by_cases h : n = 0
    · rw [h, limbs_zero]
      have := Nat.pow_pos (n := k + 1) (show 0 < 4294967296 by decide)
      simp only [List.length_nil]; omega
    · rw [limbs_pos h, List.length_cons, Nat.pow_succ]
      have := ih (n := n / 4294967296)
      have e : n < 4294967296 ^ k * 4294967296 ↔ n / 4294967296 < 4294967296 ^ k := by
        rw [Nat.div_lt_iff_lt_mul (by decide)]
      rw [e, ← this]; omega
theorem limbs_len0 {n : Nat} : (limbs n).length = 0 ↔ n = 0 := by
  have := limbs_len_le (n := n) (k := 0)
  rw [Nat.pow_zero] at this
  omega
theorem limbs_inj {m n : Nat} (h : limbs m = limbs n) : m = n := by rw [← val_limbs m, h, val_limbs]
theorem U_bound {l : List Int} (h : U l) (i : Nat) : val l / 4294967296 ^ i % 4294967296 = (rd l (i : Int)).toNat := by
  by_cases hi : i < l.length
  · rw [val_split l i, drop_rd i hi, val]
    have h1 := val_lt (h.take i)
    rw [List.length_take, Nat.min_eq_left (by omega)] at h1
    have hr := h.rd i
    rw [Nat.add_mul_div_left _ _ (by omega), Nat.div_eq_of_lt h1]
    omega
  · have h1 := val_lt h
    have h2 : (4294967296 : Nat) ^ l.length ≤ 4294967296 ^ i := Nat.pow_le_pow_right (by decide) (by omega)
    rw [Nat.div_eq_of_lt (by omega), rd, Int.toNat_natCast, List.getD_eq_getElem?_getD, List.getElem?_eq_none (by omega)]
    rfl

theorem rd_app_left {a b : List Int} (i : Nat) (h : i < a.length) : rd (a ++ b) (i : Int) = rd a (i : Int) := by
  unfold Go.Proofs.YtgejdfhfgphcbaaW.PrintWords.rd
  rw [Int.toNat_natCast, List.getD_eq_getElem?_getD, List.getD_eq_getElem?_getD, List.getElem?_append_left h]
theorem val_set {l : List Int} (j : Nat) (hj : j < l.length) (v : Int) : val (l.set j v) + 4294967296 ^ j * (rd l (j : Int)).toNat = val l + 4294967296 ^ j * v.toNat := by
  rw [List.set_eq_take_append_cons_drop, if_pos hj, val_append, val, val_split l j, drop_rd j hj, val, List.length_take, Nat.min_eq_left (by omega)]
  grind
/-- one more entry of a sum -/
theorem sum_step (out : List Int) (c X Y a b s : Nat) (h : val out + 4294967296 ^ out.length * c = X + Y) (hs : s = c + a + b) :
    val (out ++ [((s % 4294967296 : Nat) : Int)]) + 4294967296 ^ (out ++ [((s % 4294967296 : Nat) : Int)]).length * (s / 4294967296) = (X + 4294967296 ^ out.length * a) + (Y + 4294967296 ^ out.length * b) := by
  rw [val_append, val_one, List.length_append, List.length_singleton, Nat.pow_succ, Int.toNat_natCast]
  have := Nat.div_add_mod s 4294967296
  generalize s % 4294967296 = m at *
  generalize s / 4294967296 = d at *
  generalize 4294967296 ^ out.length = P at *
  generalize val out = V at *
  subst hs
  grind
theorem val_zero_top {l : List Int} (h : U l) (i : Nat) (hz : val l < 4294967296 ^ i) : rd l (i : Int) = 0 := by
  have := U_bound h i
  rw [Nat.div_eq_of_lt hz] at this
  have := h.rd i
  omega
/-- lists of one length with the same entries -/
theorem val_of_entries {l : List Int} (N : Nat) (hN : N < 4294967296 ^ l.length) (he : ∀ i : Nat, i < l.length → (rd l (i : Int)).toNat = N / 4294967296 ^ i % 4294967296) : val l = N := by
  have key : ∀ k, k ≤ l.length → val (l.take k) = N % 4294967296 ^ k := by
    intro k
    induction k with
    | zero => intro _; simp [val, Nat.mod_one]
    | succ k ih =>
      intro hk
      rw [val_take_succ k (by omega), ih (by omega), he k (by omega), Nat.pow_succ, Nat.mod_mul]
  have := key l.length (Nat.le_refl _)
  rw [List.take_of_length_le (Nat.le_refl _), Nat.mod_eq_of_lt hN] at this
  exact this
theorem limbs_len_lt {m n : Nat} (h : (limbs m).length < (limbs n).length) : m < n := by
  have h1 : m < 4294967296 ^ (limbs m).length := limbs_len_le.mp (Nat.le_refl _)
  have h2 : ¬ n < 4294967296 ^ (limbs m).length := fun hn => by
    have := limbs_len_le.mpr hn; omega
  omega
theorem pow_pos_ (i : Nat) : 0 < 4294967296 ^ i := Nat.pow_pos (by decide)
/-- the lesser one, by the first entry from above that is unlike -/
theorem val_lt_at {a b : List Int} (ha : U a) (hb : U b) (i : Nat) (hl : a.length = b.length) (hi : i < a.length) (hd : val (a.drop (i + 1)) = val (b.drop (i + 1))) (h : rd a (i : Int) < rd b (i : Int)) : val a < val b := by
  rw [val_split a i, val_split b i, drop_rd i hi, drop_rd i (by omega), val, val, hd]
  have h1 := val_lt (ha.take i)
  rw [List.length_take, Nat.min_eq_left (by omega)] at h1
  have r1 := ha.rd i
  have r2 := hb.rd i
  generalize 4294967296 ^ i = P at *
  generalize val (List.drop (i + 1) b) = D at *
  have : P * ((rd a (i : Int)).toNat + 4294967296 * D) + P ≤ P * ((rd b (i : Int)).toNat + 4294967296 * D) := by
    rw [← Nat.mul_succ]
    exact Nat.mul_le_mul_left _ (by omega)
  omega
theorem drop_succ_val {a b : List Int} (i : Nat) (ha : i < a.length) (hb : i < b.length) (hd : val (a.drop (i + 1)) = val (b.drop (i + 1))) (h : rd a (i : Int) = rd b (i : Int)) : val (a.drop i) = val (b.drop i) := by
  rw [drop_rd i ha, drop_rd i hb, val, val, hd, h]
/-- one entry of a number without its lowest bits -/
theorem shr_entry (N a b n : Nat) (hn : n < 32) (i : Nat) (ha : N / 4294967296 ^ i % 4294967296 = a) (hb : N / 4294967296 ^ (i + 1) % 4294967296 = b) :
    (a + 4294967296 * b) / 2 ^ n % 4294967296 = N / 2 ^ n / 4294967296 ^ i % 4294967296 := by
  have e1 : N / 2 ^ n / 4294967296 ^ i = N / 4294967296 ^ i / 2 ^ n := by rw [Nat.div_div_eq_div_mul, Nat.div_div_eq_div_mul, Nat.mul_comm]
  rw [e1]
  rw [Nat.pow_succ, ← Nat.div_div_eq_div_mul] at hb
  generalize N / 4294967296 ^ i = M at *
  have e2 : M = (a + 4294967296 * b) + 2 ^ n * (2 ^ (32 - n) * 4294967296 * (M / 4294967296 / 4294967296)) := by
    have : 2 ^ n * (2 ^ (32 - n) * 4294967296 * (M / 4294967296 / 4294967296)) = 4294967296 * (4294967296 * (M / 4294967296 / 4294967296)) := by
      rw [← Nat.mul_assoc, ← Nat.mul_assoc, ← Nat.pow_add, show n + (32 - n) = 32 by omega]
      grind
    rw [this]; omega
  conv => rhs; rw [e2, Nat.add_mul_div_left _ _ (Nat.pow_pos (by decide))]
  rw [show 2 ^ (32 - n) * 4294967296 * (M / 4294967296 / 4294967296) = 4294967296 * (2 ^ (32 - n) * (M / 4294967296 / 4294967296)) by grind, Nat.add_mul_mod_self_left]

/-- how many bits a number has -/
def nb (v : Nat) : Nat := if v = 0 then 0 else Nat.log2 v + 1
theorem nb_le {v k : Nat} : nb v ≤ k ↔ v < 2 ^ k := by
  unfold nb
  by_cases h : v = 0
  · rw [if_pos h, h]
    have := Nat.pow_pos (n := k) (show 0 < 2 by decide)
    omega
  · rw [if_neg h, ← Nat.log2_lt h]; omega
theorem lt_nb {v k : Nat} : k < nb v ↔ 2 ^ k ≤ v := by
  have := nb_le (v := v) (k := k); omega
theorem nb_unique {v k : Nat} (h1 : v < 2 ^ k) (h2 : ∀ j, j < k → 2 ^ j ≤ v) : nb v = k := by
  have a := nb_le.mpr h1
  by_cases h : nb v = k
  · exact h
  · exact absurd (h2 (nb v) (by omega)) (by have := nb_le.mp (Nat.le_refl (nb v)); omega)
theorem nb_mul_pow (v k : Nat) (h : v ≠ 0) : nb (v * 2 ^ k) = nb v + k := by
  have hp : 0 < 2 ^ k := Nat.pow_pos (by decide)
  apply nb_unique
  · rw [Nat.pow_add]; exact Nat.mul_lt_mul_of_pos_right (nb_le.mp (Nat.le_refl _)) hp
  · intro j hj
    by_cases hjk : j < k
    · have h1 : 2 ^ j ≤ 2 ^ k := Nat.pow_le_pow_right (by decide) (by omega)
      have h2 : 1 * 2 ^ k ≤ v * 2 ^ k := Nat.mul_le_mul_right _ (by omega)
      omega
    · have : 2 ^ j = 2 ^ (j - k) * 2 ^ k := by rw [← Nat.pow_add]; congr 1; omega
      rw [this]
      exact Nat.mul_le_mul_right _ (lt_nb.mp (by omega))
theorem nb_div_pow (v k : Nat) : nb (v / 2 ^ k) = nb v - k := by
  have hp : 0 < 2 ^ k := Nat.pow_pos (by decide)
  apply nb_unique
  · rw [Nat.div_lt_iff_lt_mul hp, ← Nat.pow_add]
    exact nb_le.mp (by omega)
  · intro j hj
    rw [Nat.le_div_iff_mul_le hp, ← Nat.pow_add]
    exact lt_nb.mp (by omega)
theorem pow32 (q : Nat) : 4294967296 ^ q = 2 ^ (32 * q) := by rw [Nat.pow_mul]
/-- one bit of a number -/
theorem bit_of {l : List Int} (h : U l) (i : Nat) : val l / 2 ^ i % 2 = (rd l ((i / 32 : Nat) : Int)).toNat / 2 ^ (i % 32) % 2 := by
  rw [← U_bound h, pow32]
  have e : 2 ^ i = 2 ^ (32 * (i / 32)) * 2 ^ (i % 32) := by rw [← Nat.pow_add]; congr 1; omega
  rw [e, ← Nat.div_div_eq_div_mul]
  generalize val l / 2 ^ (32 * (i / 32)) = M
  have hr : i % 32 < 32 := by omega
  generalize i % 32 = r at *
  have e2 : M = M % 4294967296 + 2 ^ r * (2 ^ (31 - r) * 2 * (M / 4294967296)) := by
    have : 2 ^ r * (2 ^ (31 - r) * 2 * (M / 4294967296)) = 4294967296 * (M / 4294967296) := by
      rw [← Nat.mul_assoc, ← Nat.mul_assoc, ← Nat.pow_add, show r + (31 - r) = 31 by omega]
    rw [this]; omega
  conv => lhs; rw [e2, Nat.add_mul_div_left _ _ (Nat.pow_pos (by decide))]
  rw [show 2 ^ (31 - r) * 2 * (M / 4294967296) = 2 * (2 ^ (31 - r) * (M / 4294967296)) by grind, Nat.add_mul_mod_self_left]
/-- a number whose bits from i up are told lies in its i-th entry so -/
theorem entry_low {l : List Int} (h : U l) (i : Nat) (hz : val l % 2 ^ (i + 1) = 0) : (rd l ((i / 32 : Nat) : Int)).toNat % 2 ^ (i % 32 + 1) = 0 := by
  rw [← U_bound h, pow32]
  have hr : i % 32 < 32 := by omega
  have e : i + 1 = 32 * (i / 32) + (i % 32 + 1) := by omega
  have d1 : 2 ^ (i + 1) ∣ val l := Nat.dvd_of_mod_eq_zero hz
  rw [e, Nat.pow_add] at d1
  generalize i % 32 = r at *
  obtain ⟨c, hc⟩ := d1
  have : val l / 2 ^ (32 * (i / 32)) = 2 ^ (r + 1) * c := by
    rw [hc, Nat.mul_assoc, Nat.mul_div_cancel_left _ (Nat.pow_pos (by decide))]
  rw [this]
  have d2 : 2 ^ (r + 1) ∣ 4294967296 := ⟨2 ^ (31 - r), by rw [← Nat.pow_add, show r + 1 + (31 - r) = 32 by omega]⟩
  rw [Nat.mod_mod_of_dvd _ d2]
  exact Nat.mul_mod_right ..
/-- one more bit of a quotient -/
theorem div_step (X Y Q R b i : Nat) (h : X / 2 ^ (i + 1) = Q / 2 ^ (i + 1) * Y + R) (hq : Q % 2 ^ (i + 1) = 0) (hb : X / 2 ^ i % 2 = b) :
    X / 2 ^ i = Q / 2 ^ i * Y + (2 * R + b) ∧ Q % 2 ^ i = 0 := by
  have hp : 0 < 2 ^ i := Nat.pow_pos (by decide)
  obtain ⟨c, rfl⟩ : 2 ^ (i + 1) ∣ Q := Nat.dvd_of_mod_eq_zero hq
  rw [Nat.pow_succ] at h ⊢
  rw [Nat.mul_div_cancel_left _ (by omega), ← Nat.div_div_eq_div_mul] at h
  rw [Nat.mul_assoc, Nat.mul_div_cancel_left _ hp]
  refine ⟨?_, by simp⟩
  generalize X / 2 ^ i = M at *
  have : M = 2 * (M / 2) + b := by omega
  rw [this, h]
  grind
theorem div_put (X Y Q S i : Nat) (h : X / 2 ^ i = Q / 2 ^ i * Y + S) (hq : Q % 2 ^ i = 0) (hs : Y ≤ S) :
    X / 2 ^ i = (Q + 2 ^ i) / 2 ^ i * Y + (S - Y) ∧ (Q + 2 ^ i) % 2 ^ i = 0 := by
  have hp : 0 < 2 ^ i := Nat.pow_pos (by decide)
  rw [Nat.add_div_right _ hp, Nat.add_mod_right]
  refine ⟨?_, hq⟩
  rw [h, Nat.succ_mul]
  omega
theorem or_bit (x r : Nat) (h : x % 2 ^ (r + 1) = 0) : x ||| 2 ^ r = x + 2 ^ r := by
  obtain ⟨c, rfl⟩ : 2 ^ (r + 1) ∣ x := Nat.dvd_of_mod_eq_zero h
  rw [← Nat.two_pow_add_eq_or_of_lt (Nat.pow_lt_pow_right (by decide) (by omega))]
end Go.Proofs.Ytgejdfhfgphcbaa.Big
