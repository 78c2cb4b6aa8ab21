/- The plain side of octet's Sum: the printed loop is a fold over bytes of 32 bits, and that fold goes together with xor. -/
import Derived.Test.YthgimjbmjeidpaaOctetPlain
namespace Go.Proofs.Ythgimjbmjeidpaa.Octet
open Go.RowKit Go.Proofs.Ythgimjbmjeidpaa.POctet Go.Proofs.YthgimjbmjeidpaaW.PrintWords Go.Proofs.YthgimjbmjeidpaaW.PrintLast Go.Proofs.YthgimjbmjeidpaaW.PrintMore Go.Proofs.Ythgimjbmjeidpaa.Aid

/-- a register as a number -/
def nv (x : BitVec 32) : Int := (x.toNat : Int)
theorem nv_range (x : BitVec 32) : 0 ≤ nv x ∧ nv x ≤ 4294967295 := by
  have := x.isLt
  unfold nv
  omega
theorem ofInt_nv (x : BitVec 32) : BitVec.ofInt 32 (nv x) = x := by
  unfold nv
  rw [BitVec.ofInt_natCast, BitVec.ofNat_toNat, BitVec.setWidth_eq]
theorem nv_ofInt (x : Int) (h0 : 0 ≤ x) (h1 : x ≤ 4294967295) : nv (BitVec.ofInt 32 x) = x := by
  unfold nv
  rw [BitVec.toNat_ofInt]
  omega
theorem wrap_nv (x : BitVec 32) : IntKind.u32.wrap ((x.toNat : Nat) : Int) = nv x := by
  have := x.isLt
  rw [IntKind.wrap_u32]
  unfold nv
  omega
theorem xor_nv (x y : BitVec 32) : bits .xor .u32 (nv x) (nv y) = nv (x ^^^ y) := by
  show IntKind.u32.wrap ((BitVec.ofInt 32 (nv x) ^^^ BitVec.ofInt 32 (nv y)).toNat : Int) = _
  rw [ofInt_nv, ofInt_nv, wrap_nv]
theorem and_nv (x y : BitVec 32) : bits .and .u32 (nv x) (nv y) = nv (x &&& y) := by
  show IntKind.u32.wrap ((BitVec.ofInt 32 (nv x) &&& BitVec.ofInt 32 (nv y)).toNat : Int) = _
  rw [ofInt_nv, ofInt_nv, wrap_nv]
theorem nv_inj {x y : BitVec 32} (h : nv x = nv y) : x = y := by
  apply BitVec.eq_of_toNat_eq
  unfold nv at h
  omega

def M : BitVec 32 := 0x82F63B78#32
/-- one bit -/
def T (s : BitVec 32) : BitVec 32 := (s >>> 1) ^^^ (if s.getLsbD 0 then M else 0#32)
theorem T_xor (a b : BitVec 32) : T (a ^^^ b) = T a ^^^ T b := by
  have h : (a ^^^ b) >>> 1 = (a >>> 1) ^^^ (b >>> 1) := BitVec.ushiftRight_xor_distrib a b 1
  unfold T
  rw [h, BitVec.getLsbD_xor]
  cases ha : a.getLsbD 0 <;> cases hb : b.getLsbD 0 <;> simp
  · rw [BitVec.xor_assoc]
  · rw [BitVec.xor_assoc, BitVec.xor_assoc, BitVec.xor_comm M]
  · rw [BitVec.xor_assoc (a >>> 1) M, BitVec.xor_comm (b >>> 1) M, ← BitVec.xor_assoc M M, BitVec.xor_self, BitVec.zero_xor]
theorem turned_nv (s : BitVec 32) : octet_turned.f (nv s) = some (nv (T s)) := by
  have h1 : (nv s : Int) / (2 : Int) = nv (s >>> (1 : Nat)) := by
    unfold nv
    rw [BitVec.toNat_ushiftRight, Nat.shiftRight_eq_div_pow]
    omega
  have e1 : (1 : Int) = nv 1#32 := by decide
  have e2 : (2197175160 : Int) = nv M := by decide
  have h2 : (-(bits .and .u32 (nv s) 1)) % 4294967296 = nv (if s.getLsbD 0 then BitVec.allOnes 32 else 0#32) := by
    have := nv_range s
    rw [u32_and1 this.1 this.2]
    have hb : s.getLsbD 0 = decide (nv s % 2 = 1) := by
      unfold nv
      rw [BitVec.getLsbD, Nat.testBit_zero]
      rw [Bool.eq_iff_iff, decide_eq_true_eq, decide_eq_true_eq]
      omega
    rw [hb]
    by_cases h : nv s % 2 = 1
    · rw [h]; decide
    · rw [show nv s % 2 = 0 by omega]; decide
  rw [octet_turned.f, h1, h2, e2, and_nv, xor_nv]
  congr 2
  unfold T
  congr 1
  cases s.getLsbD 0
  · decide
  · decide

def T8 (s : BitVec 32) : BitVec 32 := T (T (T (T (T (T (T (T s)))))))
theorem T8_xor (a b : BitVec 32) : T8 (a ^^^ b) = T8 a ^^^ T8 b := by
  unfold T8
  rw [T_xor, T_xor, T_xor, T_xor, T_xor, T_xor, T_xor, T_xor]
/-- the register behind bytes -/
def crc : BitVec 32 → List Int → BitVec 32
  | s, [] => s
  | s, x :: l => crc (T8 (s ^^^ BitVec.ofInt 32 x)) l
theorem crc_app (a b : List Int) : ∀ s, crc s (a ++ b) = crc (crc s a) b := by
  induction a with
  | nil => intro s; rfl
  | cons x a ih => intro s; exact ih _

theorem sum_step (k : Nat) (L : List Int) (s : BitVec 32) (n j r : Nat) (hl : n < 1000000000000) (hj : 8 * j + r < 8 * n) (hr : 0 < r) (hr8 : r < 8) :
    octet_Sum.l0 (k + 1) L (nv s) ((8 * n : Nat) : Int) ((8 * j + r : Nat) : Int) = octet_Sum.l0 k L (nv (T s)) ((8 * n : Nat) : Int) ((8 * j + (r + 1) : Nat) : Int) := by
  simp only [octet_Sum.l0]
  have ht : Int.tmod ((8 * j + r : Nat) : Int) 8 = (r : Int) := by
    rw [Int.tmod_eq_emod_of_nonneg (by omega)]; omega
  rw [if_pos (by omega), ht, if_neg (by omega), turned_nv, Option.bind_some, w64 (by omega) (by omega)]
  rfl
theorem sum_first (k : Nat) (L : List Int) (hL : Bytes L) (s : BitVec 32) (j : Nat) (hl : L.length < 1000000000000) (hj : j < L.length) :
    octet_Sum.l0 (k + 1) L (nv s) ((8 * L.length : Nat) : Int) ((8 * j + 0 : Nat) : Int) = octet_Sum.l0 k L (nv (T (s ^^^ BitVec.ofInt 32 (rd L (j : Int))))) ((8 * L.length : Nat) : Int) ((8 * j + (0 + 1) : Nat) : Int) := by
  simp only [octet_Sum.l0]
  have ht : Int.tmod ((8 * j + 0 : Nat) : Int) 8 = 0 := by
    rw [Int.tmod_eq_emod_of_nonneg (by omega)]; omega
  have hd : wrap64 (Int.tdiv ((8 * j + 0 : Nat) : Int) 8) = (j : Int) := by
    rw [Int.tdiv_eq_ediv_of_nonneg (by omega), w64 (by omega) (by omega)]; omega
  have hr := hL.rd_ j hj
  rw [if_pos (by omega), ht, if_pos rfl, hd, if_pos (by omega), if_pos (by omega)]
  rw [show rd L (j : Int) % 4294967296 = nv (BitVec.ofInt 32 (rd L (j : Int))) by rw [nv_ofInt _ (by omega) (by omega)]; omega]
  rw [xor_nv, turned_nv, Option.bind_some, w64 (by omega) (by omega)]
  rfl
theorem sum_byte (k : Nat) (L : List Int) (hL : Bytes L) (s : BitVec 32) (j : Nat) (hl : L.length < 1000000000000) (hj : j < L.length) :
    octet_Sum.l0 (k + 8) L (nv s) ((8 * L.length : Nat) : Int) ((8 * j + 0 : Nat) : Int) = octet_Sum.l0 k L (nv (T8 (s ^^^ BitVec.ofInt 32 (rd L (j : Int))))) ((8 * L.length : Nat) : Int) ((8 * (j + 1) + 0 : Nat) : Int) := by
  rw [show k + 8 = (k + 7) + 1 from rfl, sum_first (k + 7) L hL s j hl hj]
  rw [show k + 7 = (k + 6) + 1 from rfl, sum_step _ L _ L.length j (0 + 1) hl (by omega) (by omega) (by omega)]
  rw [show k + 6 = (k + 5) + 1 from rfl, sum_step _ L _ L.length j (0 + 1 + 1) hl (by omega) (by omega) (by omega)]
  rw [show k + 5 = (k + 4) + 1 from rfl, sum_step _ L _ L.length j (0 + 1 + 1 + 1) hl (by omega) (by omega) (by omega)]
  rw [show k + 4 = (k + 3) + 1 from rfl, sum_step _ L _ L.length j (0 + 1 + 1 + 1 + 1) hl (by omega) (by omega) (by omega)]
  rw [show k + 3 = (k + 2) + 1 from rfl, sum_step _ L _ L.length j (0 + 1 + 1 + 1 + 1 + 1) hl (by omega) (by omega) (by omega)]
  rw [show k + 2 = (k + 1) + 1 from rfl, sum_step _ L _ L.length j (0 + 1 + 1 + 1 + 1 + 1 + 1) hl (by omega) (by omega) (by omega)]
  rw [sum_step _ L _ L.length j (0 + 1 + 1 + 1 + 1 + 1 + 1 + 1) hl (by omega) (by omega) (by omega)]
  rfl
theorem sum_l0 (L : List Int) (hL : Bytes L) (hl : L.length < 1000000000000) (d : Nat) : ∀ (j k : Nat) (s : BitVec 32), j + d = L.length → 8 * d < k →
    octet_Sum.l0 k L (nv s) ((8 * L.length : Nat) : Int) ((8 * j + 0 : Nat) : Int) = some (nv (~~~ crc s (L.drop j))) := by
  induction d with
  | zero =>
    intro j k s hj hk
    obtain ⟨k, rfl⟩ : ∃ m, k = m + 1 := ⟨k - 1, by omega⟩
    simp only [octet_Sum.l0]
    rw [if_neg (by omega), List.drop_eq_nil_of_le (by omega), show (4294967295 : Int) = nv (BitVec.allOnes 32) by decide, xor_nv, BitVec.xor_allOnes]
    rfl
  | succ d ih =>
    intro j k s hj hk
    obtain ⟨k, rfl⟩ : ∃ m, k = m + 8 := ⟨k - 8, by omega⟩
    rw [sum_byte k L hL s j hl (by omega), ih (j + 1) k _ (by omega) (by omega)]
    rw [List.drop_eq_getElem_cons (show j < L.length by omega), crc]
    have : rd L (j : Int) = L[j] := by
      unfold rd
      rw [Int.toNat_natCast, List.getD_eq_getElem?_getD, List.getElem?_eq_getElem (by omega)]
      rfl
    rw [this]
/-- the check sum -/
def sum (L : List Int) : Int := nv (~~~ crc (BitVec.allOnes 32) L)
theorem sum_ok (L : List Int) (hL : Bytes L) (hl : L.length < 1000000000000) (k : Nat) (hk : 8 * L.length < k) : octet_Sum.f k L = some (sum L) := by
  rw [octet_Sum.f, w64 (by omega) (by omega), show (4294967295 : Int) = nv (BitVec.allOnes 32) by decide]
  exact sum_l0 L hL hl L.length 0 k _ (by omega) (by omega)

theorem crc_xor (a : List Int) : ∀ (b : List Int) (s t : BitVec 32), a.length = b.length → (∀ x ∈ a, 0 ≤ x ∧ x ≤ 255) → (∀ x ∈ b, 0 ≤ x ∧ x ≤ 255) →
    crc (s ^^^ t) (List.zipWith (bits .xor .u8) a b) = crc s a ^^^ crc t b := by
  induction a with
  | nil =>
    intro b s t hl _ _
    cases b with
    | nil => rfl
    | cons y b => simp at hl
  | cons x a ih =>
    intro b s t hl ha hb
    cases b with
    | nil => simp at hl
    | cons y b =>
      have hx := ha x (List.mem_cons_self ..)
      have hy := hb y (List.mem_cons_self ..)
      have e : BitVec.ofInt 32 (bits .xor .u8 x y) = BitVec.ofInt 32 x ^^^ BitVec.ofInt 32 y := by
        obtain ⟨X, rfl⟩ := Int.eq_ofNat_of_zero_le hx.1
        obtain ⟨Y, rfl⟩ := Int.eq_ofNat_of_zero_le hy.1
        have h1 : bits .xor .u8 (X : Int) (Y : Int) = ((X ^^^ Y : Nat) : Int) := by
          show IntKind.u8.wrap ((BitVec.ofInt 8 (X : Int) ^^^ BitVec.ofInt 8 (Y : Int)).toNat : Int) = _
          rw [BitVec.ofInt_natCast, BitVec.ofInt_natCast, BitVec.toNat_xor, BitVec.toNat_ofNat, BitVec.toNat_ofNat, Nat.mod_eq_of_lt (show X < 2 ^ 8 by omega), Nat.mod_eq_of_lt (show Y < 2 ^ 8 by omega), IntKind.wrap_u8]
          have := Nat.xor_lt_two_pow (show X < 2 ^ 8 by omega) (show Y < 2 ^ 8 by omega)
          omega
        rw [h1, BitVec.ofInt_natCast, BitVec.ofInt_natCast, BitVec.ofInt_natCast]
        apply BitVec.eq_of_toNat_eq
        have := Nat.xor_lt_two_pow (show X < 2 ^ 32 by omega) (show Y < 2 ^ 32 by omega)
        rw [BitVec.toNat_xor, BitVec.toNat_ofNat, BitVec.toNat_ofNat, BitVec.toNat_ofNat, Nat.mod_eq_of_lt this, Nat.mod_eq_of_lt (show X < 2 ^ 32 by omega), Nat.mod_eq_of_lt (show Y < 2 ^ 32 by omega)]
      rw [List.zipWith_cons_cons, crc, crc, crc, e]
      rw [← ih b _ _ (by simpa using hl) (fun z hz => ha z (List.mem_cons_of_mem _ hz)) (fun z hz => hb z (List.mem_cons_of_mem _ hz)), ← T8_xor]
      congr 2
      rw [BitVec.xor_assoc, BitVec.xor_assoc]
      congr 1
      rw [← BitVec.xor_assoc, BitVec.xor_comm t, BitVec.xor_assoc]
end Go.Proofs.Ythgimjbmjeidpaa.Octet
