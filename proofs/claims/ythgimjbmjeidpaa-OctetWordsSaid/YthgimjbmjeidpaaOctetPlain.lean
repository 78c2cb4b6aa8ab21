/- The plain side of layer 1 (octet): numbers as bytes, and what the printed functions answer. No program in sight but the printed functions. -/
import Derived.Test.YthgimjbmjeidpaaPOctetx
import Derived.Test.YthgimjbmjeidpaaAid
namespace Go.Proofs.Ythgimjbmjeidpaa.Octet
open Go.RowKit Go.Proofs.Ythgimjbmjeidpaa.POctet Go.Proofs.YthgimjbmjeidpaaW.PrintWords Go.Proofs.YthgimjbmjeidpaaW.PrintLast Go.Proofs.YthgimjbmjeidpaaW.PrintMore Go.Proofs.Ythgimjbmjeidpaa.Aid

theorem w64 {x : Int} (h0 : -9223372036854775808 ≤ x) (h1 : x ≤ 9223372036854775807) : wrap64 x = x := by unfold wrap64; omega

/-- bytes, as numbers -/
def Bytes (l : List Int) : Prop := ∀ x ∈ l, 0 ≤ x ∧ x ≤ 255
theorem Bytes.app {a b : List Int} (ha : Bytes a) (hb : Bytes b) : Bytes (a ++ b) := fun x hx => by
  rcases List.mem_append.mp hx with h | h
  · exact ha x h
  · exact hb x h
theorem Bytes.take {l : List Int} (h : Bytes l) (n : Nat) : Bytes (l.take n) := fun x hx => h x (List.mem_of_mem_take hx)
theorem Bytes.drop {l : List Int} (h : Bytes l) (n : Nat) : Bytes (l.drop n) := fun x hx => h x (List.mem_of_mem_drop hx)
theorem Bytes.nil : Bytes [] := fun x hx => by cases hx
theorem Bytes.of_wf {l : List Int} (h : ∀ x ∈ l, (Lit.int .u8 x).wf = true) : Bytes l := fun x hx => wf_u8 (h x hx)
theorem Bytes.rd_ {l : List Int} (h : Bytes l) (i : Nat) (hi : i < l.length) : 0 ≤ rd l (i : Int) ∧ rd l (i : Int) ≤ 255 := by
  unfold rd
  rw [Int.toNat_natCast, List.getD_eq_getElem?_getD, List.getElem?_eq_getElem hi]
  exact h _ (List.getElem_mem hi)
theorem Bytes.of (s : ByteArray) : Bytes (bytesOf s) := fun x hx => by
  unfold bytesOf at hx
  obtain ⟨b, _, rfl⟩ := List.mem_map.mp hx
  have := b.toNat_lt
  constructor <;> omega

theorem take_rd {l : List Int} (i : Nat) (hi : i < l.length) : l.take (i + 1) = l.take i ++ [rd l (i : Int)] := by
  rw [List.take_succ_eq_append_getElem hi, rd, Int.toNat_natCast, List.getD_eq_getElem?_getD, List.getElem?_eq_getElem hi]
  rfl

/-- the number that bytes say -/
def be (l : List Int) : Int := l.foldl (fun a x => a * 256 + x) 0
theorem be_snoc (l : List Int) (x : Int) : be (l ++ [x]) = be l * 256 + x := by simp [be, List.foldl_append]
theorem be_bound (n : Nat) : ∀ l : List Int, l.length = n → Bytes l → 0 ≤ be l ∧ be l < ((256 ^ n : Nat) : Int) := by
  induction n with
  | zero => intro l hl _; rw [List.length_eq_zero_iff.mp hl]; exact ⟨by decide, by decide⟩
  | succ n ih =>
    intro l hl hb
    have hne : l ≠ [] := by intro h; rw [h] at hl; simp at hl
    have e := List.dropLast_concat_getLast hne
    have h1 := ih l.dropLast (by rw [List.length_dropLast]; omega) (fun x hx => hb x ((List.dropLast_sublist l).subset hx))
    have h2 := hb _ (List.getLast_mem hne)
    rw [← e, be_snoc, Nat.pow_succ]
    generalize be l.dropLast = a at *
    generalize l.getLast hne = x at *
    omega

theorem pow256 (n : Nat) : (256 : Nat) ^ n = 2 ^ (8 * n) := by rw [Nat.pow_mul]
theorem pow256_le {n : Nat} (h : n ≤ 8) : 256 ^ n ≤ 18446744073709551616 := Nat.le_trans (Nat.pow_le_pow_right (by omega) h) (by decide)

/-- a byte goes below what is there -/
theorem or_in (a x : Int) (j : Nat) (ha : 0 ≤ a) (hx0 : 0 ≤ x) (hx1 : x ≤ 255) (hj : j < 8) (hb : a * ((256 ^ (j + 1) : Nat) : Int) < 18446744073709551616) :
    bits .or .u64 (a * ((256 ^ (j + 1) : Nat) : Int)) (shl .u64 (IntKind.u64.wrap x) ((8 * j : Nat) : Int)) = (a * 256 + x) * ((256 ^ j : Nat) : Int) := by
  obtain ⟨A, rfl⟩ := Int.eq_ofNat_of_zero_le ha
  obtain ⟨X, rfl⟩ := Int.eq_ofNat_of_zero_le hx0
  have hp : 256 ^ (j + 1) = 256 ^ j * 256 := Nat.pow_succ ..
  have hpl := pow256_le (show j + 1 ≤ 8 by omega)
  have hX : X * 256 ^ j < 256 ^ (j + 1) := by
    rw [hp, Nat.mul_comm (256 ^ j)]
    exact Nat.mul_lt_mul_of_pos_right (by omega) (Nat.pow_pos (by omega))
  have hs : shl .u64 (IntKind.u64.wrap (X : Int)) ((8 * j : Nat) : Int) = ((X * 256 ^ j : Nat) : Int) := by
    rw [wraps_u64 (X : Int) (by omega) (by omega)]
    unfold shl
    rw [Int.toNat_natCast, Nat.min_eq_left (by simp only [IntKind.bits]; omega), pow256, show (X : Int) * 2 ^ (8 * j) = ((X * 2 ^ (8 * j) : Nat) : Int) by rw [Int.natCast_mul, Int.natCast_pow]; rfl]
    rw [← pow256]
    exact wraps_u64 _ (by omega) (by omega)
  rw [hs, show (A : Int) * ((256 ^ (j + 1) : Nat) : Int) = ((A * 256 ^ (j + 1) : Nat) : Int) from (Int.natCast_mul _ _).symm]
  have hb2 : A * 256 ^ (j + 1) < 18446744073709551616 := by
    rw [show (A : Int) * ((256 ^ (j + 1) : Nat) : Int) = ((A * 256 ^ (j + 1) : Nat) : Int) from (Int.natCast_mul _ _).symm] at hb
    omega
  rw [bits_join .u64 64 (by decide) wraps_u64 (8 * (j + 1)) _ _ (by omega) ?_ (by omega) (by omega) ?_ (by omega)]
  · rw [hp]
    have key : ∀ P : Nat, ((A * (P * 256) : Nat) : Int) + ((X * P : Nat) : Int) = ((A : Int) * 256 + (X : Int)) * (P : Int) := by
      intro P
      rw [Int.natCast_mul, Int.natCast_mul, Int.natCast_mul, Int.add_mul, Int.mul_assoc, Int.mul_comm (256 : Int)]
      rfl
    exact key _
  · rw [show ((2 : Int) ^ (8 * (j + 1))) = ((2 ^ (8 * (j + 1)) : Nat) : Int) from (Int.natCast_pow 2 _).symm, ← pow256, ← Int.natCast_emod, Nat.mul_mod_left]; rfl
  · rw [show ((2 : Int) ^ (8 * (j + 1))) = ((2 ^ (8 * (j + 1)) : Nat) : Int) from (Int.natCast_pow 2 _).symm, ← pow256]
    exact Int.ofNat_lt.mpr hX

theorem take_l0 (L : List Int) (hL : Bytes L) (_hl : L.length < 1000000000000) (n : Nat) (hn : n ≤ 8) (hnl : n ≤ L.length) (j : Nat) : ∀ k, j ≤ n → j < k →
    octet_Take.l0 k L (n : Int) (be (L.take (n - j)) * ((256 ^ j : Nat) : Int)) (8 * (j : Int) - 8) = some (be (L.take n), 0) := by
  induction j with
  | zero =>
    intro k _ hk
    obtain ⟨k, rfl⟩ : ∃ m, k = m + 1 := ⟨k - 1, by omega⟩
    simp only [octet_Take.l0]
    rw [if_neg (by omega), Nat.sub_zero, Nat.pow_zero, show ((1 : Nat) : Int) = 1 from rfl, Int.mul_one]
  | succ j ih =>
    intro k hj hk
    obtain ⟨k, rfl⟩ : ∃ m, k = m + 1 := ⟨k - 1, by omega⟩
    have hq : wrap64 (Int.tdiv (8 * ((j + 1 : Nat) : Int) - 8) 8) = (j : Int) := by
      rw [show 8 * ((j + 1 : Nat) : Int) - 8 = 8 * (j : Int) by omega, Int.mul_tdiv_cancel_left _ (by decide)]
      exact w64 (by omega) (by omega)
    have hi : wrap64 (wrap64 ((n : Int) - 1) - wrap64 (Int.tdiv (8 * ((j + 1 : Nat) : Int) - 8) 8)) = ((n - (j + 1) : Nat) : Int) := by
      rw [hq, w64 (x := (n : Int) - 1) (by omega) (by omega), w64 (by omega) (by omega)]
      omega
    have hb := be_bound (n - (j + 1)) (L.take (n - (j + 1))) (by rw [List.length_take]; omega) (hL.take _)
    have hr := hL.rd_ (n - (j + 1)) (by omega)
    have hb2 : be (L.take (n - (j + 1))) * ((256 ^ (j + 1) : Nat) : Int) < 18446744073709551616 := by
      have h1 := Int.mul_lt_mul_of_pos_right hb.2 (show ((0 : Nat) : Int) < ((256 ^ (j + 1) : Nat) : Int) from Int.ofNat_lt.mpr (Nat.pow_pos (by omega)))
      have h2 : 256 ^ (n - (j + 1)) * 256 ^ (j + 1) = 256 ^ n := by rw [← Nat.pow_add, show n - (j + 1) + (j + 1) = n by omega]
      have h3 := pow256_le hn
      rw [show ((256 ^ (n - (j + 1)) : Nat) : Int) * ((256 ^ (j + 1) : Nat) : Int) = ((256 ^ (n - (j + 1)) * 256 ^ (j + 1) : Nat) : Int) from (Int.natCast_mul _ _).symm, h2] at h1
      omega
    simp only [octet_Take.l0]
    rw [hi, if_pos (by omega), if_pos (by omega), if_pos (by omega), if_pos (by omega)]
    rw [show 8 * ((j + 1 : Nat) : Int) - 8 = ((8 * j : Nat) : Int) by omega, or_in _ _ j hb.1 hr.1 hr.2 (by omega) hb2]
    rw [← be_snoc, ← take_rd _ (by omega), show n - (j + 1) + 1 = n - j by omega, w64 (by omega) (by omega)]
    exact ih k (by omega) (by omega)

theorem take_ok (L : List Int) (hL : Bytes L) (hl : L.length < 1000000000000) (n k : Nat) (hn : n ≤ 8) (hnl : n ≤ L.length) (hk : 20 < k) : octet_Take.f k L (n : Int) = some (be (L.take n), 0) := by
  obtain ⟨k, rfl⟩ : ∃ m, k = m + 1 := ⟨k - 1, by omega⟩
  rw [octet_Take.f, if_neg (by omega), show decide ((n : Int) > 8) = false by rw [decide_eq_false_iff_not]; omega]
  simp only [octet_Take.j0]
  rw [if_neg (by decide), if_neg (by omega), w64 (x := (n : Int) - 1) (by omega) (by omega), w64 (by omega) (by omega)]
  have := take_l0 L hL hl n hn hnl n k (Nat.le_refl _) (by omega)
  rw [Nat.sub_self, List.take_zero, show be [] = 0 from rfl, Int.zero_mul] at this
  rw [show 8 * ((n : Int) - 1) = 8 * (n : Int) - 8 by omega]
  exact this
theorem take_short (L : List Int) (n k : Nat) (hn : n ≤ 8) (hnl : L.length < n) (hk : 20 < k) : octet_Take.f k L (n : Int) = some (0, 3) := by
  obtain ⟨k, rfl⟩ : ∃ m, k = m + 1 := ⟨k - 1, by omega⟩
  rw [octet_Take.f, if_neg (by omega), show decide ((n : Int) > 8) = false by rw [decide_eq_false_iff_not]; omega]
  simp only [octet_Take.j0]
  rw [if_neg (by decide), if_pos (by omega)]

theorem rtake_l0 (L : List Int) (hL : Bytes L) (_hl : L.length < 1000000000000) (n : Nat) (hn : n ≤ 8) (hnl : n ≤ L.length) (d : Nat) : ∀ k i : Nat, i + d = n → d < k →
    assayerref1_Take.l0 k L (n : Int) (be (L.take i)) (i : Int) = some (be (L.take n), 0) := by
  induction d with
  | zero =>
    intro k i hi hk
    obtain ⟨k, rfl⟩ : ∃ m, k = m + 1 := ⟨k - 1, by omega⟩
    simp only [assayerref1_Take.l0]
    rw [if_neg (by omega), show i = n by omega]
  | succ d ih =>
    intro k i hi hk
    obtain ⟨k, rfl⟩ : ∃ m, k = m + 1 := ⟨k - 1, by omega⟩
    have hb := be_bound (i + 1) (L.take (i + 1)) (by rw [List.length_take]; omega) (hL.take _)
    have hb0 := be_bound i (L.take i) (by rw [List.length_take]; omega) (hL.take _)
    have hr := hL.rd_ i (by omega)
    have h8 := pow256_le (show i + 1 ≤ 8 by omega)
    rw [take_rd i (by omega), be_snoc] at hb
    simp only [assayerref1_Take.l0]
    rw [if_pos (by omega), if_pos (by omega), if_pos (by omega), wraps_u64 (be (L.take i) * 256) (by omega) (by omega), wraps_u64 (rd L (i : Int)) (by omega) (by omega), wraps_u64 _ (by omega) (by omega), w64 (by omega) (by omega), ← be_snoc, ← take_rd i (by omega), show (i : Int) + 1 = ((i + 1 : Nat) : Int) by omega]
    exact ih k (i + 1) (by omega) (by omega)
theorem rtake_ok (L : List Int) (hL : Bytes L) (hl : L.length < 1000000000000) (n k : Nat) (hn : n ≤ 8) (hnl : n ≤ L.length) (hk : 20 < k) : assayerref1_Take.f k L (n : Int) = some (be (L.take n), 0) := by
  obtain ⟨k, rfl⟩ : ∃ m, k = m + 1 := ⟨k - 1, by omega⟩
  rw [assayerref1_Take.f, if_neg (by omega), show decide ((n : Int) > 8) = false by rw [decide_eq_false_iff_not]; omega]
  simp only [assayerref1_Take.j0]
  rw [if_neg (by decide), if_neg (by omega)]
  have := rtake_l0 L hL hl n hn hnl n k 0 (by omega) (by omega)
  rw [List.take_zero, show be [] = 0 from rfl] at this
  exact this
theorem rtake_short (L : List Int) (n k : Nat) (hn : n ≤ 8) (hnl : L.length < n) (hk : 20 < k) : assayerref1_Take.f k L (n : Int) = some (0, 3) := by
  obtain ⟨k, rfl⟩ : ∃ m, k = m + 1 := ⟨k - 1, by omega⟩
  rw [assayerref1_Take.f, if_neg (by omega), show decide ((n : Int) > 8) = false by rw [decide_eq_false_iff_not]; omega]
  simp only [assayerref1_Take.j0]
  rw [if_neg (by decide), if_pos (by omega)]

/-- a number's lowest bytes -/
def beb (v : Int) : Nat → List Int
  | 0 => []
  | n + 1 => beb (v / 256) n ++ [v % 256]
theorem beb_length (n : Nat) : ∀ v, (beb v n).length = n := by
  induction n with
  | zero => intro v; rfl
  | succ n ih => intro v; rw [beb, List.length_append, ih]; rfl
theorem beb_bytes (n : Nat) : ∀ v, Bytes (beb v n) := by
  induction n with
  | zero => intro v; exact Bytes.nil
  | succ n ih => intro v; rw [beb]; exact (ih _).app (fun x hx => by rw [List.mem_singleton] at hx; omega)
theorem be_beb (n : Nat) : ∀ v, 0 ≤ v → be (beb v n) = v % ((256 ^ n : Nat) : Int) := by
  induction n with
  | zero => intro v _; rw [beb, Nat.pow_zero, show ((1 : Nat) : Int) = 1 from rfl, Int.emod_one]; rfl
  | succ n ih =>
    intro v hv
    rw [beb, be_snoc, ih _ (Int.ediv_nonneg hv (by decide))]
    obtain ⟨V, rfl⟩ := Int.eq_ofNat_of_zero_le hv
    rw [Nat.pow_succ, Nat.mul_comm (256 ^ n)]
    have h := Nat.mod_mul (a := 256) (b := 256 ^ n) (x := V)
    generalize 256 ^ n = M at *
    rw [show (V : Int) / 256 = ((V / 256 : Nat) : Int) from rfl, ← Int.natCast_emod, ← Int.natCast_emod, h]
    omega

theorem set_rep (L t : List Int) (j : Nat) (x : Int) : (L ++ List.replicate (j + 1) 0 ++ t).set (L.length + j) x = L ++ List.replicate j 0 ++ x :: t := by
  rw [List.replicate_succ', ← List.append_assoc, List.append_assoc (L ++ List.replicate j 0)]
  rw [List.set_append_right _ _ (by simp)]
  rw [show L.length + j - (L ++ List.replicate j (0 : Int)).length = 0 by simp]
  rfl
theorem put_l0 (L : List Int) (hl : L.length < 1000000000000) (n : Nat) : ∀ (k : Nat) (v : Int) (t : List Int), t.length + n ≤ 8 → n < k →
    octet_Put.l0 k L v (L ++ List.replicate n 0 ++ t) (((L.length + n : Nat) : Int) - 1) = some (L ++ beb v n ++ t) := by
  induction n with
  | zero =>
    intro k v t _ hk
    obtain ⟨k, rfl⟩ : ∃ m, k = m + 1 := ⟨k - 1, by omega⟩
    simp only [octet_Put.l0]
    rw [if_neg (by omega)]
    rfl
  | succ n ih =>
    intro k v t ht hk
    obtain ⟨k, rfl⟩ : ∃ m, k = m + 1 := ⟨k - 1, by omega⟩
    simp only [octet_Put.l0]
    rw [if_pos (by omega), if_pos (by omega), if_pos (by simp only [List.length_append, List.length_replicate]; omega)]
    rw [show (((L.length + (n + 1) : Nat) : Int) - 1).toNat = L.length + n by omega, set_rep, w64 (by omega) (by omega), show ((L.length + (n + 1) : Nat) : Int) - 1 - 1 = ((L.length + n : Nat) : Int) - 1 by omega]
    rw [ih k (v / 256) (v % 256 :: t) (by rw [List.length_cons]; omega) (by omega), beb]
    simp
theorem put_ok (L : List Int) (hl : L.length < 1000000000000) (v : Int) (n k : Nat) (hn : n ≤ 8) (hk : 20 < k) : octet_Put.f k L v (n : Int) = some (L ++ beb v n) := by
  obtain ⟨k, rfl⟩ : ∃ m, k = m + 2 := ⟨k - 2, by omega⟩
  rw [octet_Put.f, if_neg (by omega), show decide ((n : Int) > 8) = false by rw [decide_eq_false_iff_not]; omega]
  simp only [octet_Put.j0]
  rw [if_neg (by decide)]
  simp only [octet_Put.j1]
  rw [w64 (by omega) (by omega), if_pos (by omega), if_pos (by omega), Option.bind_some, Option.bind_some]
  rw [show ((L.length : Int) + (n : Int)).toNat = L.length + n by omega, List.length_replicate, Nat.min_eq_left (by omega), List.take_length, List.drop_replicate, show L.length + n - L.length = n by omega]
  rw [List.length_append, List.length_replicate, w64 (by omega) (by omega)]
  have := put_l0 L hl n k v [] (by simpa using hn) (by omega)
  rw [List.append_nil, List.append_nil] at this
  exact this

/-- what a text at the front says -/
def tt (L : List Int) : ByteArray × Int × Int := if 4 ≤ L.length ∧ be (L.take 4) ≤ (L.length : Int) - 4 then (strOfNums ((L.take (4 + be (L.take 4)).toNat).drop 4), 4 + be (L.take 4), 0) else (⟨#[]⟩, 0, 3)
theorem tt_ok (L : List Int) (hL : Bytes L) (hl : L.length < 1000000000000) (k : Nat) (hk : 20 < k) : octet_TakeText.f k L = some (tt L) := by
  rw [octet_TakeText.f, tt]
  by_cases h4 : 4 ≤ L.length
  · have hb := be_bound 4 (L.take 4) (by rw [List.length_take]; omega) (hL.take _)
    have e : octet_Take.f k L 4 = some (be (L.take 4), 0) := take_ok L hL hl 4 k (by omega) h4 hk
    rw [e, Option.bind_some, if_pos rfl, w64 (x := (L.length : Int) - 4) (by omega) (by omega), wraps_u64 _ (by omega) (by omega)]
    rw [w64 (x := be (L.take 4)) (by omega) (by omega), w64 (x := 4 + be (L.take 4)) (by omega) (by omega)]
    by_cases hc : be (L.take 4) ≤ (L.length : Int) - 4
    · rw [if_neg (by omega), if_pos (by omega), if_pos (by omega), if_pos ⟨h4, hc⟩]
    · rw [if_pos (by omega), if_neg (fun h => hc h.2)]
  · have e : octet_Take.f k L 4 = some (0, 3) := take_short L 4 k (by omega) (by omega) hk
    rw [e, Option.bind_some, if_neg (by decide), if_neg (fun h => h4 h.1)]
theorem rtt_ok (L : List Int) (hL : Bytes L) (hl : L.length < 1000000000000) (k : Nat) (hk : 20 < k) : assayerref1_TakeText.f k L = some (tt L) := by
  rw [assayerref1_TakeText.f, tt]
  by_cases h4 : 4 ≤ L.length
  · have hb := be_bound 4 (L.take 4) (by rw [List.length_take]; omega) (hL.take _)
    have e : assayerref1_Take.f k L 4 = some (be (L.take 4), 0) := rtake_ok L hL hl 4 k (by omega) h4 hk
    rw [e, Option.bind_some, if_pos rfl, w64 (x := (L.length : Int) - 4) (by omega) (by omega), wraps_u64 _ (by omega) (by omega)]
    rw [w64 (x := be (L.take 4)) (by omega) (by omega), w64 (x := 4 + be (L.take 4)) (by omega) (by omega)]
    by_cases hc : be (L.take 4) ≤ (L.length : Int) - 4
    · rw [if_pos (by omega), if_pos (by omega), if_pos (by omega), if_pos ⟨h4, hc⟩]
    · rw [if_neg (by omega), if_neg (fun h => hc h.2)]
  · have e : assayerref1_Take.f k L 4 = some (0, 3) := rtake_short L 4 k (by omega) (by omega) hk
    rw [e, Option.bind_some, if_neg (by decide), if_neg (fun h => h4 h.1)]

theorem str_bytes (s : ByteArray) : strOfNums (bytesOf s) = s := by
  unfold strOfNums bytesOf
  rw [List.map_map]
  have : (s.data.toList.map ((fun n : Int => UInt8.ofNat n.toNat) ∘ fun b => (b.toNat : Int))) = s.data.toList := by
    conv => rhs; rw [← List.map_id s.data.toList]
    apply List.map_congr_left
    intro b _
    simp
  rw [this, Array.toArray_toList]
theorem puttext_ok (L : List Int) (hl : L.length < 100000000) (s : ByteArray) (hs : s.size < 1000000) (k : Nat) (hk : 20 < k) : octet_PutText.f k L s = some (L ++ beb (s.size : Int) 4 ++ bytesOf s) := by
  rw [octet_PutText.f, wraps_u64 _ (by omega) (by omega)]
  have e : octet_Put.f k L (s.size : Int) 4 = _ := put_ok L (by omega) (s.size : Int) 4 k (by omega) hk
  rw [e, Option.bind_some, if_pos (by rw [List.length_append, beb_length]; omega)]
/-- what was put is taken, whatever stands behind -/
theorem tt_put (s : ByteArray) (hs : s.size < 1000000) (more : List Int) : tt (beb (s.size : Int) 4 ++ bytesOf s ++ more) = (s, 4 + (s.size : Int), 0) := by
  have h4 : (beb (s.size : Int) 4 ++ bytesOf s ++ more).take 4 = beb (s.size : Int) 4 := by
    rw [List.append_assoc, List.take_append_of_le_length (by rw [beb_length]; omega), List.take_of_length_le (by rw [beb_length]; omega)]
  have hb : be (beb (s.size : Int) 4) = (s.size : Int) := by rw [be_beb 4 _ (by omega)]; omega
  rw [tt, h4, hb, if_pos ⟨by rw [List.length_append, List.length_append, beb_length]; omega, by rw [List.length_append, List.length_append, beb_length, bytesOf_length]; omega⟩]
  have e : ((beb (s.size : Int) 4 ++ bytesOf s ++ more).take (4 + (s.size : Int)).toNat).drop 4 = bytesOf s := by
    rw [show (4 + (s.size : Int)).toNat = (beb (s.size : Int) 4 ++ bytesOf s).length by rw [List.length_append, beb_length, bytesOf_length]; omega, List.take_left]
    exact List.drop_left' (beb_length 4 _)
  rw [e, str_bytes]
end Go.Proofs.Ythgimjbmjeidpaa.Octet
