/- Package big's shr, Shl, Len32, Bits, Div, by what their lists are worth. Lists of up to 100 entries. -/
import Derived.Test.YtgejdfhfgphcbaaBigMul
namespace Go.Proofs.Ytgejdfhfgphcbaa.Big
open Go.RowKit Go.Proofs.Ytgejdfhfgphcbaa.PBig Go.Proofs.YtgejdfhfgphcbaaW.PrintWords Go.Proofs.YtgejdfhfgphcbaaW.PrintLast Go.Proofs.YtgejdfhfgphcbaaW.PrintMore Go.Proofs.Ytgejdfhfgphcbaa.Aid

theorem rd_out {l : List Int} (i : Nat) (h : l.length ≤ i) : rd l (i : Int) = 0 := by
  unfold Go.Proofs.YtgejdfhfgphcbaaW.PrintWords.rd
  rw [Int.toNat_natCast, List.getD_eq_getElem?_getD, List.getElem?_eq_none h]
  rfl
theorem rd_set_eq {l : List Int} (p : Nat) (v : Int) (h : p < l.length) : rd (l.set p v) (p : Int) = v := by
  unfold Go.Proofs.YtgejdfhfgphcbaaW.PrintWords.rd
  rw [Int.toNat_natCast, List.getD_eq_getElem?_getD, List.getElem?_set_self h]
  rfl
theorem rd_nat {l : List Int} (h : U l) (i : Nat) : rd l (i : Int) = (((rd l (i : Int)).toNat : Nat) : Int) := by
  have := h.rd i; omega
theorem shr_word (a b s : Nat) (ha : a < 4294967296) (hb : b < 4294967296) (hs : s < 32) :
    (shr .u64 (Go.bits .or .u64 ((b * 4294967296 : Nat) : Int) (a : Int)) (s : Int)) % 4294967296 = (((a + 4294967296 * b) / 2 ^ s % 4294967296 : Nat) : Int) := by
  rw [or_u64 _ _ (by omega) (by omega), show b * 4294967296 = 2 ^ 32 * b by omega, ← Nat.two_pow_add_eq_or_of_lt (by omega)]
  unfold shr
  rw [Int.toNat_natCast, Nat.min_eq_left (by simp only [IntKind.bits]; omega), Int.natCast_emod, Int.natCast_ediv, Int.natCast_pow, Nat.add_comm]
  rfl
theorem shr_loop (t : List Int) (ht : U t) (hl : t.length ≤ 1000) (s : Nat) (hs : s < 32) (d : Nat) : ∀ (i : Nat) (cur : List Int) (k : Nat), i + d = t.length → d + 1010 < k → cur.length = t.length → U cur →
    (∀ j : Nat, i ≤ j → rd cur (j : Int) = rd t (j : Int)) → (∀ j : Nat, j < i → (rd cur (j : Int)).toNat = val t / 2 ^ s / 4294967296 ^ j % 4294967296) →
    big_shr.l0 k cur (s : Int) (t.length : Int) (i : Int) = some (limbs (val t / 2 ^ s)) := by
  induction d with
  | zero =>
    intro i cur k hi hk hc hu hn hv
    obtain ⟨k, rfl⟩ : ∃ m, k = m + 1 := ⟨k - 1, by omega⟩
    simp only [big_shr.l0]
    have lt := val_lt ht
    have e : val cur = val t / 2 ^ s := val_of_entries (val t / 2 ^ s) (Nat.lt_of_le_of_lt (Nat.div_le_self _ _) (by rw [hc]; exact lt)) (fun j hj => hv j (by omega))
    rw [if_neg (by omega), cut_ok _ hu (by omega) k (by omega), Option.bind_some, e]
  | succ d ih =>
    intro i cur k hi hk hc hu hn hv
    obtain ⟨k, rfl⟩ : ∃ m, k = m + 1 := ⟨k - 1, by omega⟩
    have r0 := ht.rd i
    have r1 := ht.rd (i + 1)
    have step := shr_entry (val t) _ _ s hs i (U_bound ht i) (U_bound ht (i + 1))
    have go : ∀ v : Int, v = (((((rd t (i : Int)).toNat + 4294967296 * (rd t ((i + 1 : Nat) : Int)).toNat) / 2 ^ s % 4294967296 : Nat)) : Int) →
        big_shr.l0 k (cur.set i v) (s : Int) (t.length : Int) ((i + 1 : Nat) : Int) = some (limbs (val t / 2 ^ s)) := by
      intro v hvv
      have hb : v.toNat = val t / 2 ^ s / 4294967296 ^ i % 4294967296 := by rw [hvv, Int.toNat_natCast, step]
      refine ih (i + 1) _ k (by omega) (by omega) (by rw [List.length_set]; omega) (hu.set _ (by omega)) ?_ ?_
      · intro j hj
        rw [rd_set_ne _ _ _ (by omega)]
        exact hn j (by omega)
      · intro j hj
        by_cases hji : j = i
        · subst hji
          rw [rd_set_eq _ _ (by omega)]
          exact hb
        · rw [rd_set_ne _ _ _ (by omega)]
          exact hv j (by omega)
    simp only [big_shr.l0]
    rw [if_pos (by omega), w64 (x := (i : Int) + 1) (by omega) (by omega), show (i : Int) + 1 = ((i + 1 : Nat) : Int) by omega, Int.toNat_natCast]
    by_cases h1 : i + 1 < t.length
    · rw [if_pos (by omega), if_pos (by omega), if_pos (by omega), if_pos (by omega), if_pos (by omega), hn i (by omega), hn (i + 1) (by omega), wraps_u64 (rd t (i : Int)) (by omega) (by omega), wraps_u64 (rd t ((i + 1 : Nat) : Int)) (by omega) (by omega), wraps_u64 (rd t ((i + 1 : Nat) : Int) * 4294967296) (by omega) (by omega)]
      apply go
      rw [← shr_word _ _ s (by omega) (by omega) hs, Int.natCast_mul, ← rd_nat ht, ← rd_nat ht]
      rfl
    · rw [if_neg (by omega), if_pos (by omega), if_pos (by omega), if_pos (by omega), hn i (by omega), wraps_u64 (rd t (i : Int)) (by omega) (by omega)]
      apply go
      rw [rd_out (l := t) (i + 1) (by omega)]
      rw [← shr_word _ _ s (by omega) (by decide) hs, ← rd_nat ht]
      rfl
theorem tdiv32 (n : Nat) : Int.tdiv (n : Int) 32 = ((n / 32 : Nat) : Int) := by rw [Int.tdiv_eq_ediv_of_nonneg (by omega)]; omega
theorem tmod32 (n : Nat) : Int.tmod (n : Int) 32 = ((n % 32 : Nat) : Int) := by rw [Int.tmod_eq_emod_of_nonneg (by omega)]; omega
theorem val_drop {L : List Int} (h : U L) (q : Nat) (hq : q ≤ L.length) : val (L.drop q) = val L / 4294967296 ^ q := by
  rw [val_split L q]
  have lt := val_lt (h.take q)
  rw [List.length_take, Nat.min_eq_left hq] at lt
  rw [Nat.add_mul_div_left _ _ (pow_pos_ q), Nat.div_eq_of_lt lt, Nat.zero_add]
theorem pow_parts (n : Nat) : 2 ^ n = 4294967296 ^ (n / 32) * 2 ^ (n % 32) := by
  rw [pow32, ← Nat.pow_add]; congr 1; omega
theorem shr_ok (L : List Int) (h : U L) (hl : L.length ≤ 1000) (n : Nat) (hn : n ≤ 1000000) (k : Nat) (hk : 2020 < k) : big_shr.f k L (n : Int) = some (limbs (val L / 2 ^ n)) := by
  unfold big_shr.f
  rw [tdiv32, tmod32, w64 (by omega) (by omega), Int.toNat_natCast]
  by_cases c : L.length ≤ n / 32
  · rw [if_pos (by omega)]
    have lt := val_lt h
    have h2 : (4294967296 : Nat) ^ L.length ≤ 2 ^ n := by rw [pow32]; exact Nat.pow_le_pow_right (by decide) (by omega)
    rw [Nat.div_eq_of_lt (by omega), limbs_zero]
  · rw [if_neg (by omega), if_pos (by omega), if_pos (by omega), cut_ok _ (h.drop _) (by rw [List.length_drop]; omega) k (by rw [List.length_drop]; omega), Option.bind_some]
    have e1 := limbs_len_val (h.drop (n / 32))
    rw [List.length_drop] at e1
    have := shr_loop (limbs (val (L.drop (n / 32)))) (U_limbs _) (by omega) (n % 32) (by omega) _ 0 (limbs (val (L.drop (n / 32)))) k (Nat.zero_add _) (by omega) rfl (U_limbs _) (fun _ _ => rfl) (fun j hj => by omega)
    rw [val_limbs, val_drop h _ (by omega), Nat.div_div_eq_div_mul, ← pow_parts] at this
    rw [val_drop h _ (by omega)]
    exact this

/-- a number, so many places up or down -/
def shN (v : Nat) (n : Int) : Nat := if n < 0 then v / 2 ^ (-n).toNat else v * 2 ^ n.toNat
theorem shl_small_ (a s : Nat) (ha : a < 4294967296) (hs : s < 32) : shl .u64 (a : Int) (s : Int) = ((2 ^ s * a : Nat) : Int) ∧ 2 ^ s * a < 2 ^ s * 4294967296 ∧ 2 ^ s ≤ 2147483648 := by
  have h1 : 2 ^ s ≤ 2 ^ 31 := Nat.pow_le_pow_right (by decide) (by omega)
  have h2 : 2 ^ s * a < 2 ^ s * 4294967296 := Nat.mul_lt_mul_of_pos_left ha (Nat.pow_pos (by decide))
  have h3 : 2 ^ s * a ≤ 2 ^ 31 * 4294967295 := Nat.mul_le_mul h1 (by omega)
  refine ⟨?_, h2, by omega⟩
  unfold shl
  rw [Int.toNat_natCast, Nat.min_eq_left (by simp only [IntKind.bits]; omega)]
  have e : (a : Int) * 2 ^ s = ((2 ^ s * a : Nat) : Int) := by rw [Int.natCast_mul, Int.natCast_pow, Int.mul_comm]; rfl
  rw [e, wraps_u64 _ (by omega) (by omega)]
theorem shl_loop (t : List Int) (ht : U t) (hl : t.length ≤ 1000) (n : Nat) (hn : n ≤ 100000) (d : Nat) : ∀ (i c : Nat) (out : List Int) (k : Nat), i + d = t.length → d + 6010 < k → out.length = n / 32 + i → U out → c < 2 ^ (n % 32) →
    val out + 4294967296 ^ (n / 32 + i) * c = val (t.take i) * 2 ^ n →
    big_Shl.l0 k (n : Int) out (c : Int) t (t.length : Int) (i : Int) = some (limbs (val t * 2 ^ n)) := by
  have hp : 2 ^ (n % 32) ≤ 2 ^ 31 := Nat.pow_le_pow_right (by decide) (by omega)
  induction d with
  | zero =>
    intro i c out k hi hk ho hu hc hv
    obtain ⟨k, rfl⟩ : ∃ m, k = m + 1 := ⟨k - 1, by omega⟩
    simp only [big_Shl.l0]
    rw [if_neg (by omega), if_pos (by omega), cut_ok _ (hu.snoc (by omega)) (by rw [List.length_append, List.length_singleton]; omega) k (by rw [List.length_append, List.length_singleton]; omega), Option.bind_some, val_close _ _ (by omega), ho, hv, take_all i (by omega)]
  | succ d ih =>
    intro i c out k hi hk ho hu hc hv
    obtain ⟨k, rfl⟩ : ∃ m, k = m + 1 := ⟨k - 1, by omega⟩
    have r0 := ht.rd i
    have hxt := val_take_succ (l := t) i (by omega)
    obtain ⟨e1, e2, e3⟩ := shl_small_ (rd t (i : Int)).toNat (n % 32) (by omega) (by omega)
    have e : Go.bits .or .u64 (c : Int) (shl .u64 (IntKind.u64.wrap (rd t (i : Int))) ((n % 32 : Nat) : Int)) = ((c + 2 ^ (n % 32) * (rd t (i : Int)).toNat + 0 : Nat) : Int) := by
      rw [wraps_u64 _ (by omega) (by omega), rd_nat ht i, e1, Int.toNat_natCast, or_u64 _ _ (by omega) (by omega), Nat.or_comm, ← Nat.two_pow_add_eq_or_of_lt hc, Nat.add_comm, Nat.add_zero]
    simp only [big_Shl.l0]
    rw [if_pos (by omega), if_pos (by omega), if_pos (by omega), tmod32, if_pos (by omega), if_pos (by omega), w64 (x := (i : Int) + 1) (by omega) (by omega), show (i : Int) + 1 = ((i + 1 : Nat) : Int) by omega, e]
    have st := sum_step out c (val (t.take i) * 2 ^ n) 0 (2 ^ (n % 32) * (rd t (i : Int)).toNat) 0 _ (by rw [ho]; exact hv) rfl
    rw [Nat.mul_zero, Nat.add_zero] at st
    generalize hs : c + 2 ^ (n % 32) * (rd t (i : Int)).toNat + 0 = s at *
    rw [show ((s : Nat) : Int) % 4294967296 = ((s % 4294967296 : Nat) : Int) by omega, show ((s : Nat) : Int) / 4294967296 = ((s / 4294967296 : Nat) : Int) by omega]
    have hs2 : s < 2 ^ (n % 32) * 4294967296 := by
      have : 2 ^ (n % 32) * ((rd t (i : Int)).toNat + 1) ≤ 2 ^ (n % 32) * 4294967296 := Nat.mul_le_mul_left _ (by omega)
      rw [Nat.mul_add, Nat.mul_one] at this
      omega
    refine ih (i + 1) _ _ k (by omega) (by omega) (by rw [List.length_append, List.length_singleton]; omega) (hu.snoc (by omega)) ((Nat.div_lt_iff_lt_mul (by decide)).mpr hs2) ?_
    rw [List.length_append, List.length_singleton, ho] at st
    rw [hxt, ← Nat.add_assoc, st, Nat.add_mul, pow_parts n, Nat.pow_add]
    generalize val (t.take i) = V
    generalize (rd t (i : Int)).toNat = a
    generalize 4294967296 ^ (n / 32) = P
    generalize 4294967296 ^ i = Q
    generalize 2 ^ (n % 32) = R
    grind
theorem shl_ok (L : List Int) (h : U L) (hl : L.length ≤ 1000) (n : Int) (h0 : -20000 ≤ n) (h1 : n ≤ 20000) (k : Nat) (hk : 8020 < k) : big_Shl.f k L n = some (limbs (shN (val L) n)) := by
  unfold big_Shl.f
  have e1 := limbs_len_val h
  rw [cut_ok _ h (by omega) k (by omega), Option.bind_some, w64 (x := ((limbs (val L)).length : Int) + 1) (by omega) (by omega), w64 (by omega) (by omega)]
  by_cases hn : n < 0
  · rw [show shN (val L) n = val L / 2 ^ (-n).toNat from if_pos hn]
    by_cases c : n < -32 * (((limbs (val L)).length : Int) + 1)
    · rw [if_pos c]
      have lt := val_lt (U_limbs (val L))
      have h2 : (4294967296 : Nat) ^ (limbs (val L)).length ≤ 2 ^ (-n).toNat := by rw [pow32]; exact Nat.pow_le_pow_right (by decide) (by omega)
      rw [val_limbs] at lt
      rw [Nat.div_eq_of_lt (by omega), limbs_zero]
    · rw [if_neg c, if_pos hn, w64 (by omega) (by omega)]
      obtain ⟨m, hm⟩ : ∃ m : Nat, -n = (m : Int) := ⟨(-n).toNat, by omega⟩
      rw [hm, shr_ok _ (U_limbs _) (by omega) m (by omega) k (by omega), Option.bind_some, val_limbs, Int.toNat_natCast]
  · obtain ⟨m, rfl⟩ : ∃ m : Nat, n = (m : Int) := ⟨n.toNat, by omega⟩
    rw [if_neg (by omega), if_neg (by omega), show shN (val L) (m : Int) = val L * 2 ^ (m : Int).toNat from if_neg hn, Int.toNat_natCast]
    by_cases c : val L = 0
    · rw [c, limbs_zero, Nat.zero_mul, limbs_zero, if_pos (by simp)]
    · have hp : (limbs (val L)).length ≠ 0 := fun e => c (limbs_len0.mp e)
      rw [if_neg (by omega), tdiv32, w64 (x := ((m / 32 : Nat) : Int)) (by omega) (by omega), w64 (x := ((m / 32 : Nat) : Int) + ((limbs (val L)).length : Int)) (by omega) (by omega), w64 (by omega) (by omega), if_pos (by omega), if_pos (by omega), if_pos (by omega), Int.toNat_natCast]
      have := shl_loop (limbs (val L)) (U_limbs _) (by omega) m (by omega) _ 0 0 (List.replicate (m / 32) 0) k (Nat.zero_add _) (by omega) (by rw [List.length_replicate]; rfl) (U.rep _) (Nat.pow_pos (by decide)) (by rw [val_rep]; simp [val])
      rw [val_limbs] at this
      exact this

theorem tab_ok (b : Nat) (h : b < 256) : bt (⟨#[0, 1, 2, 2, 3, 3, 3, 3, 4, 4, 4, 4, 4, 4, 4, 4, 5, 5, 5, 5, 5, 5, 5, 5, 5, 5, 5, 5, 5, 5, 5, 5, 6, 6, 6, 6, 6, 6, 6, 6, 6, 6, 6, 6, 6, 6, 6, 6, 6, 6, 6, 6, 6, 6, 6, 6, 6, 6, 6, 6, 6, 6, 6, 6, 7, 7, 7, 7, 7, 7, 7, 7, 7, 7, 7, 7, 7, 7, 7, 7, 7, 7, 7, 7, 7, 7, 7, 7, 7, 7, 7, 7, 7, 7, 7, 7, 7, 7, 7, 7, 7, 7, 7, 7, 7, 7, 7, 7, 7, 7, 7, 7, 7, 7, 7, 7, 7, 7, 7, 7, 7, 7, 7, 7, 7, 7, 7, 7, 8, 8, 8, 8, 8, 8, 8, 8, 8, 8, 8, 8, 8, 8, 8, 8, 8, 8, 8, 8, 8, 8, 8, 8, 8, 8, 8, 8, 8, 8, 8, 8, 8, 8, 8, 8, 8, 8, 8, 8, 8, 8, 8, 8, 8, 8, 8, 8, 8, 8, 8, 8, 8, 8, 8, 8, 8, 8, 8, 8, 8, 8, 8, 8, 8, 8, 8, 8, 8, 8, 8, 8, 8, 8, 8, 8, 8, 8, 8, 8, 8, 8, 8, 8, 8, 8, 8, 8, 8, 8, 8, 8, 8, 8, 8, 8, 8, 8, 8, 8, 8, 8, 8, 8, 8, 8, 8, 8, 8, 8, 8, 8, 8, 8, 8, 8, 8, 8, 8, 8, 8, 8, 8, 8, 8, 8, 8, 8]⟩ : ByteArray) (b : Int) = (nb b : Int) := by
  have key : ∀ b : Fin 256, bt (⟨#[0, 1, 2, 2, 3, 3, 3, 3, 4, 4, 4, 4, 4, 4, 4, 4, 5, 5, 5, 5, 5, 5, 5, 5, 5, 5, 5, 5, 5, 5, 5, 5, 6, 6, 6, 6, 6, 6, 6, 6, 6, 6, 6, 6, 6, 6, 6, 6, 6, 6, 6, 6, 6, 6, 6, 6, 6, 6, 6, 6, 6, 6, 6, 6, 7, 7, 7, 7, 7, 7, 7, 7, 7, 7, 7, 7, 7, 7, 7, 7, 7, 7, 7, 7, 7, 7, 7, 7, 7, 7, 7, 7, 7, 7, 7, 7, 7, 7, 7, 7, 7, 7, 7, 7, 7, 7, 7, 7, 7, 7, 7, 7, 7, 7, 7, 7, 7, 7, 7, 7, 7, 7, 7, 7, 7, 7, 7, 7, 8, 8, 8, 8, 8, 8, 8, 8, 8, 8, 8, 8, 8, 8, 8, 8, 8, 8, 8, 8, 8, 8, 8, 8, 8, 8, 8, 8, 8, 8, 8, 8, 8, 8, 8, 8, 8, 8, 8, 8, 8, 8, 8, 8, 8, 8, 8, 8, 8, 8, 8, 8, 8, 8, 8, 8, 8, 8, 8, 8, 8, 8, 8, 8, 8, 8, 8, 8, 8, 8, 8, 8, 8, 8, 8, 8, 8, 8, 8, 8, 8, 8, 8, 8, 8, 8, 8, 8, 8, 8, 8, 8, 8, 8, 8, 8, 8, 8, 8, 8, 8, 8, 8, 8, 8, 8, 8, 8, 8, 8, 8, 8, 8, 8, 8, 8, 8, 8, 8, 8, 8, 8, 8, 8, 8, 8, 8, 8]⟩ : ByteArray) ((b.val : Nat) : Int) = (nb b.val : Int) := by decide +kernel
  exact key ⟨b, h⟩
theorem nb_up (v s : Nat) (h : 2 ^ s ≤ v) : nb v = s + nb (v / 2 ^ s) := by
  have := nb_div_pow v s
  have := lt_nb.mpr h
  omega
theorem nb_small {b : Nat} (h : b < 256) : nb b ≤ 8 := nb_le.mpr h
theorem len32_ok (a : Nat) (h : a < 4294967296) : bits_Len32.f (a : Int) = some (nb a : Int) := by
  unfold bits_Len32.f
  rw [show (a : Int) / 65536 = ((a / 65536 : Nat) : Int) by omega, show ((a / 65536 : Nat) : Int) / 256 = ((a / 16777216 : Nat) : Int) by omega, show ((a / 16777216 : Nat) : Int) % 256 = ((a / 16777216 : Nat) : Int) by omega]
  by_cases c1 : 65536 ≤ a
  · rw [if_pos (by omega)]
    by_cases c2 : 16777216 ≤ a
    · have n8 := nb_small (b := a / 16777216) (by omega)
      rw [if_pos (by omega), if_pos (by omega), if_pos (by omega), tab_ok _ (by omega), w64 (x := (nb (a / 16777216) : Int)) (by omega) (by omega), w64 (by omega) (by omega), nb_up a 24 (by omega)]
      congr 1
    · have n8 := nb_small (b := a / 65536) (by omega)
      rw [if_neg (by omega), show ((a / 65536 : Nat) : Int) % 256 = ((a / 65536 : Nat) : Int) by omega, if_pos (by omega), if_pos (by omega), tab_ok _ (by omega), w64 (x := (nb (a / 65536) : Int)) (by omega) (by omega), w64 (by omega) (by omega), nb_up a 16 (by omega)]
      congr 1
  · rw [if_neg (by omega)]
    by_cases c2 : 256 ≤ a
    · have n8 := nb_small (b := a / 256) (by omega)
      rw [if_pos (by omega), show ((a : Nat) : Int) / 256 % 256 = ((a / 256 : Nat) : Int) by omega, if_pos (by omega), if_pos (by omega), tab_ok _ (by omega), w64 (x := (nb (a / 256) : Int)) (by omega) (by omega), w64 (by omega) (by omega), nb_up a 8 (by omega)]
      congr 1
    · have n8 := nb_small (b := a) (by omega)
      rw [if_neg (by omega), show ((a : Nat) : Int) % 256 = ((a : Nat) : Int) by omega, if_pos (by omega), if_pos (by omega), tab_ok _ (by omega), w64 (x := (nb a : Int)) (by omega) (by omega), w64 (by omega) (by omega)]
      congr 1
      omega
theorem top_pos {n : Nat} (h : n ≠ 0) : 0 < rd (limbs n) (((limbs n).length - 1 : Nat) : Int) := by
  have hp : (limbs n).length ≠ 0 := fun e => h (limbs_len0.mp e)
  have hne : limbs n ≠ [] := fun e => hp (by rw [e]; rfl)
  have t := top_limbs n hne
  have r := (U_limbs n).rd ((limbs n).length - 1)
  have e : (limbs n).getLast hne = rd (limbs n) (((limbs n).length - 1 : Nat) : Int) := by
    have hh : (limbs n).take ((limbs n).length - 1 + 1) = limbs n := take_all _ (by omega)
    have := getLast_take (L := limbs n) ((limbs n).length - 1) (by omega) (by rw [hh]; exact hne)
    rw [← this]
    congr 1
    exact hh.symm
  rw [e] at t
  omega
theorem bits_ok (L : List Int) (h : U L) (hl : L.length ≤ 1000) (k : Nat) (hk : 1010 < k) : big_Bits.f k L = some (nb (val L) : Int) := by
  unfold big_Bits.f
  have e1 := limbs_len_val h
  rw [cut_ok _ h (by omega) k (by omega), Option.bind_some]
  by_cases c : val L = 0
  · rw [c, limbs_zero, if_pos (by simp)]; rfl
  · have hp : (limbs (val L)).length ≠ 0 := fun e => c (limbs_len0.mp e)
    have tp := top_pos c
    have r := (U_limbs (val L)).rd ((limbs (val L)).length - 1)
    have vs := val_split (limbs (val L)) ((limbs (val L)).length - 1)
    have dr := drop_rd (l := limbs (val L)) ((limbs (val L)).length - 1) (by omega)
    rw [dr, List.drop_eq_nil_of_le (by omega)] at vs
    have lt := val_lt ((U_limbs (val L)).take ((limbs (val L)).length - 1))
    rw [List.length_take, Nat.min_eq_left (by omega)] at lt
    rw [val_limbs] at vs
    simp only [val, Nat.mul_zero, Nat.add_zero] at vs
    rw [if_neg (by omega), w64 (by omega) (by omega), if_pos (by omega), if_pos (by omega), show ((limbs (val L)).length : Int) - 1 = (((limbs (val L)).length - 1 : Nat) : Int) by omega]
    generalize hm : (limbs (val L)).length - 1 = m at *
    generalize ht : rd (limbs (val L)) (m : Int) = t at *
    have l32 := len32_ok t.toNat (by omega)
    rw [Int.toNat_of_nonneg (by omega)] at l32
    have n32 : nb t.toNat ≤ 32 := nb_le.mpr (by omega)
    rw [l32, Option.bind_some, w64 (x := 32 * (m : Int)) (by omega) (by omega), w64 (by omega) (by omega)]
    have hb : 2 ^ (32 * m) ≤ val L := by
      rw [← pow32, vs]
      have : 4294967296 ^ m * 1 ≤ 4294967296 ^ m * t.toNat := Nat.mul_le_mul_left _ (by omega)
      omega
    rw [nb_up (val L) (32 * m) hb, ← pow32]
    have : val L / 4294967296 ^ m = t.toNat := by rw [vs, Nat.add_mul_div_left _ _ (pow_pos_ m), Nat.div_eq_of_lt lt, Nat.zero_add]
    rw [this]
    congr 1
end Go.Proofs.Ytgejdfhfgphcbaa.Big
