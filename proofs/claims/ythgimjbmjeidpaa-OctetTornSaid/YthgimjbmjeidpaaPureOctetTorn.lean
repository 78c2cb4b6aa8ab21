/- OctetTorn, the plain law: a record that is torn is short, one of which a bit is turned is none, another one behind does not matter. No condition. -/
import Derived.Test.YthgimjbmjeidpaaOctetSeal
namespace Go.Proofs.Ythgimjbmjeidpaa.Pure
open Go.RowKit Go.Proofs.Ythgimjbmjeidpaa.POctet Go.Proofs.YthgimjbmjeidpaaW.PrintWords Go.Proofs.YthgimjbmjeidpaaW.PrintLast Go.Proofs.YthgimjbmjeidpaaW.PrintMore Go.Proofs.Ythgimjbmjeidpaa.Aid Go.Proofs.Ythgimjbmjeidpaa.Octet

theorem T_top (s : BitVec 32) : (T s).getLsbD 31 = s.getLsbD 0 := by
  unfold T
  rw [BitVec.getLsbD_xor, BitVec.getLsbD_ushiftRight, BitVec.getLsbD_of_ge s (1 + 31) (by decide), Bool.false_xor]
  cases s.getLsbD 0
  · rw [if_neg (by decide)]; decide
  · rw [if_pos rfl]; decide
theorem T_inj {s t : BitVec 32} (h : T s = T t) : s = t := by
  have h0 : s.getLsbD 0 = t.getLsbD 0 := by rw [← T_top, h, T_top]
  unfold T at h
  rw [h0] at h
  have h1 : s >>> (1 : Nat) = t >>> (1 : Nat) := by
    have := congrArg (· ^^^ (if t.getLsbD 0 = true then M else 0#32)) h
    simpa [BitVec.xor_assoc] using this
  apply BitVec.eq_of_getLsbD_eq
  intro i hi
  rcases Nat.eq_zero_or_pos i with rfl | hp
  · exact h0
  · have := congrArg (fun x => x.getLsbD (i - 1)) h1
    simp only [BitVec.getLsbD_ushiftRight] at this
    rwa [show 1 + (i - 1) = i by omega] at this
theorem T8_inj {s t : BitVec 32} (h : T8 s = T8 t) : s = t := T_inj (T_inj (T_inj (T_inj (T_inj (T_inj (T_inj (T_inj h)))))))
theorem crc_inj (L : List Int) : ∀ s t : BitVec 32, crc s L = crc t L → s = t := by
  induction L with
  | nil => intro s t h; exact h
  | cons b L ih =>
    intro s t h
    have h1 := T8_inj (ih _ _ h)
    have := congrArg (· ^^^ BitVec.ofInt 32 b) h1
    simpa [BitVec.xor_assoc] using this
theorem crc_set (L : List Int) (hL : Bytes L) : ∀ (j : Nat) (v : Int) (s : BitVec 32), j < L.length → 0 ≤ v → v ≤ 255 → v ≠ rd L (j : Int) → crc s (L.set j v) ≠ crc s L := by
  induction L with
  | nil => intro j v s hj; exact absurd hj (by simp)
  | cons b L ih =>
    intro j v s hj h0 h1 hne h
    have hb := hL b (List.mem_cons_self ..)
    cases j with
    | zero =>
      have h2 := T8_inj (crc_inj L _ _ h)
      have h3 : BitVec.ofInt 32 v = BitVec.ofInt 32 b := by
        have := congrArg (s ^^^ ·) h2
        simpa [← BitVec.xor_assoc] using this
      have h4 := congrArg nv h3
      rw [nv_ofInt v h0 (by omega), nv_ofInt b (by omega) (by omega)] at h4
      exact hne (by rw [h4]; rfl)
    | succ j =>
      refine ih (fun x hx => hL x (List.mem_cons_of_mem _ hx)) j v _ (by simpa using hj) h0 h1 ?_ h
      intro e
      exact hne (by rw [e]; unfold Go.Proofs.YthgimjbmjeidpaaW.PrintWords.rd; rw [Int.toNat_natCast, Int.toNat_natCast]; rfl)
theorem be_inj (n : Nat) : ∀ a b : List Int, a.length = n → b.length = n → Bytes a → Bytes b → be a = be b → a = b := by
  induction n with
  | zero => intro a b ha hb _ _ _; rw [List.length_eq_zero_iff.mp ha, List.length_eq_zero_iff.mp hb]
  | succ n ih =>
    intro a b ha hb hA hB h
    have ea : a = a.take n ++ [rd a (n : Int)] := by rw [← take_rd n (by omega), List.take_of_length_le (by omega)]
    have eb : b = b.take n ++ [rd b (n : Int)] := by rw [← take_rd n (by omega), List.take_of_length_le (by omega)]
    have ra := hA.rd_ n (by omega)
    have rb := hB.rd_ n (by omega)
    rw [ea, eb, be_snoc, be_snoc] at h
    have h1 : be (a.take n) = be (b.take n) := by omega
    have h2 := ih _ _ (by rw [List.length_take]; omega) (by rw [List.length_take]; omega) (hA.take n) (hB.take n) h1
    rw [ea, eb, h2, show rd a (n : Int) = rd b (n : Int) by omega]
theorem flip_ (a r : Nat) (ha : a < 256) (hr : r < 8) : Go.bits .xor .u8 (a : Int) (shl .u8 1 (r : Int)) ≠ (a : Int) ∧ 0 ≤ Go.bits .xor .u8 (a : Int) (shl .u8 1 (r : Int)) ∧ Go.bits .xor .u8 (a : Int) (shl .u8 1 (r : Int)) ≤ 255 := by
  have key : ∀ (a : Fin 256) (r : Fin 8), Go.bits .xor .u8 ((a.val : Nat) : Int) (shl .u8 1 ((r.val : Nat) : Int)) ≠ ((a.val : Nat) : Int) ∧ 0 ≤ Go.bits .xor .u8 ((a.val : Nat) : Int) (shl .u8 1 ((r.val : Nat) : Int)) ∧ Go.bits .xor .u8 ((a.val : Nat) : Int) (shl .u8 1 ((r.val : Nat) : Int)) ≤ 255 := by decide +kernel
  exact key ⟨a, ha⟩ ⟨r, hr⟩
/-- a record by its parts -/
theorem parts (A X B R : List Int) (hA : A.length = 3) (hb : be A = (X.length : Int)) (hB : B.length = 4) :
    useal (A ++ X ++ B ++ R) = if be B = sum X then (X, 7 + (X.length : Int), 0) else ([], 0, 2) := by
  have e1 : (A ++ X ++ B ++ R).take 3 = A := by rw [List.append_assoc, List.append_assoc, List.take_left' hA]
  have e2 : ((A ++ X ++ B ++ R).drop (3 + X.length)).take 4 = B := by rw [List.append_assoc, List.drop_left' (by rw [List.length_append, hA]), List.take_left' hB]
  have e3 : ((A ++ X ++ B ++ R).take (3 + X.length)).drop 3 = X := by rw [List.append_assoc, List.take_left' (by rw [List.length_append, hA]), List.drop_left' hA]
  unfold useal
  rw [e1, hb, show ((3 : Int) + (X.length : Int)).toNat = 3 + X.length by omega, e2, e3, if_pos ⟨by simp only [List.length_append]; omega, by simp only [List.length_append]; omega⟩]
theorem short_ (L : List Int) (hl : L.length < 16777216) (m : Nat) (hm : m < 7 + L.length) : useal ((slr L).take m) = ([], 0, 3) := by
  unfold useal
  rw [if_neg]
  rintro ⟨h1, h2⟩
  have e1 : ((slr L).take m).take 3 = beb (L.length : Int) 3 := by
    rw [List.length_take] at h1
    rw [List.take_take, Nat.min_eq_left (by omega), slr, if_neg (by omega), List.append_assoc, List.take_left' (beb_length _ _)]
  rw [e1, be_beb 3 _ (by omega), List.length_take] at h2
  have : ((256 ^ 3 : Nat) : Int) = 16777216 := by decide
  rw [this] at h2
  omega
theorem turned_ (L : List Int) (hL : Bytes L) (hl : L.length < 16777216) (p r : Nat) (hp : 3 ≤ p) (hp2 : p < 7 + L.length) (hr : r < 8) :
    useal ((slr L).set p (Go.bits .xor .u8 (rd (slr L) (p : Int)) (shl .u8 1 (r : Int)))) = ([], 0, 2) := by
  have hA := beb_length 3 (L.length : Int)
  have hB := beb_length 4 (sum L)
  have bB := beb_bytes 4 (sum L)
  have bA : be (beb (L.length : Int) 3) = (L.length : Int) := by
    have : ((256 ^ 3 : Nat) : Int) = 16777216 := by decide
    rw [be_beb 3 _ (by omega), this]; omega
  have hs := sum_range L
  have bS : be (beb (sum L) 4) = sum L := by
    have : ((256 ^ 4 : Nat) : Int) = 4294967296 := by decide
    rw [be_beb 4 _ (by omega), this]; omega
  rw [show slr L = beb (L.length : Int) 3 ++ L ++ beb (sum L) 4 by rw [slr, if_neg (by omega)]]
  by_cases c : p < 3 + L.length
  · have er : rd (beb (L.length : Int) 3 ++ L ++ beb (sum L) 4) (p : Int) = rd L ((p - 3 : Nat) : Int) := by
      unfold Go.Proofs.YthgimjbmjeidpaaW.PrintWords.rd
      rw [Int.toNat_natCast, Int.toNat_natCast, List.getD_eq_getElem?_getD, List.getD_eq_getElem?_getD, List.append_assoc, List.getElem?_append_right (by omega), List.getElem?_append_left (by omega), hA]
    have rr := hL.rd_ (p - 3) (by omega)
    obtain ⟨f1, f2, f3⟩ := flip_ (rd L ((p - 3 : Nat) : Int)).toNat r (by omega) hr
    rw [Int.toNat_of_nonneg rr.1] at f1 f2 f3
    rw [er]
    generalize Go.bits .xor .u8 (rd L ((p - 3 : Nat) : Int)) (shl .u8 1 (r : Int)) = v at *
    have es : (beb (L.length : Int) 3 ++ L ++ beb (sum L) 4).set p v = beb (L.length : Int) 3 ++ L.set (p - 3) v ++ beb (sum L) 4 ++ [] := by
      rw [List.append_assoc, List.set_append_right _ _ (by omega), hA, List.set_append_left _ _ (by omega), List.append_nil, List.append_assoc]
    rw [es, parts _ _ _ _ hA (by rw [List.length_set]; exact bA) hB, if_neg]
    rw [bS]
    intro h
    have h1 := nv_inj h
    have h2 : crc (BitVec.allOnes 32) (L.set (p - 3) v) = crc (BitVec.allOnes 32) L := by
      have := congrArg (fun x => ~~~ x) h1
      simpa using this.symm
    exact crc_set L hL (p - 3) v _ (by omega) f2 f3 f1 h2
  · have er : rd (beb (L.length : Int) 3 ++ L ++ beb (sum L) 4) (p : Int) = rd (beb (sum L) 4) ((p - (3 + L.length) : Nat) : Int) := by
      unfold Go.Proofs.YthgimjbmjeidpaaW.PrintWords.rd
      rw [Int.toNat_natCast, Int.toNat_natCast, List.getD_eq_getElem?_getD, List.getD_eq_getElem?_getD, List.getElem?_append_right (by rw [List.length_append]; omega), List.length_append, hA]
    have rr := bB.rd_ (p - (3 + L.length)) (by omega)
    obtain ⟨f1, f2, f3⟩ := flip_ (rd (beb (sum L) 4) ((p - (3 + L.length) : Nat) : Int)).toNat r (by omega) hr
    rw [Int.toNat_of_nonneg rr.1] at f1 f2 f3
    rw [er]
    generalize Go.bits .xor .u8 (rd (beb (sum L) 4) ((p - (3 + L.length) : Nat) : Int)) (shl .u8 1 (r : Int)) = v at *
    have es : (beb (L.length : Int) 3 ++ L ++ beb (sum L) 4).set p v = beb (L.length : Int) 3 ++ L ++ (beb (sum L) 4).set (p - (3 + L.length)) v ++ [] := by
      rw [List.set_append_right _ _ (by rw [List.length_append]; omega), List.length_append, hA, List.append_nil]
    have bB2 : Bytes ((beb (sum L) 4).set (p - (3 + L.length)) v) := by
      intro x hx
      rcases List.mem_or_eq_of_mem_set hx with h | h
      · exact bB x h
      · rw [h]; exact ⟨f2, f3⟩
    rw [es, parts _ _ _ _ hA bA (by rw [List.length_set]; exact hB), if_neg]
    intro h
    have h1 := be_inj 4 _ _ (by rw [List.length_set]; exact hB) hB bB2 bB (by rw [h, bS])
    have h2 : rd ((beb (sum L) 4).set (p - (3 + L.length)) v) ((p - (3 + L.length) : Nat) : Int) = v := by
      unfold Go.Proofs.YthgimjbmjeidpaaW.PrintWords.rd
      rw [Int.toNat_natCast, List.getD_eq_getElem?_getD, List.getElem?_set_self (by omega)]
      rfl
    rw [h1] at h2
    exact f1 h2.symm
theorem whole_ (L R : List Int) (hl : L.length < 16777216) : useal (slr L ++ R) = (L, 7 + (L.length : Int), 0) := by
  have hA := beb_length 3 (L.length : Int)
  have hB := beb_length 4 (sum L)
  have bA : be (beb (L.length : Int) 3) = (L.length : Int) := by
    have : ((256 ^ 3 : Nat) : Int) = 16777216 := by decide
    rw [be_beb 3 _ (by omega), this]; omega
  have hs := sum_range L
  have bS : be (beb (sum L) 4) = sum L := by
    have : ((256 ^ 4 : Nat) : Int) = 4294967296 := by decide
    rw [be_beb 4 _ (by omega), this]; omega
  rw [show slr L = beb (L.length : Int) 3 ++ L ++ beb (sum L) 4 by rw [slr, if_neg (by omega)], parts _ _ _ _ hA bA hB, if_pos bS]
theorem slr_length (L : List Int) (hl : L.length < 16777216) : (slr L).length = 7 + L.length := by
  rw [slr, if_neg (by omega), List.length_append, List.length_append, beb_length, beb_length]; omega
theorem slr_bytes (L : List Int) (hL : Bytes L) (hl : L.length < 16777216) : Bytes (slr L) := by
  rw [slr, if_neg (by omega)]; exact ((beb_bytes 3 _).app hL).app (beb_bytes 4 _)
theorem set_bytes {l : List Int} (h : Bytes l) (n : Nat) (v : Int) (h0 : 0 ≤ v) (h1 : v ≤ 255) : Bytes (l.set n v) := by
  intro x hx
  rcases List.mem_or_eq_of_mem_set hx with h2 | h2
  · exact h x h2
  · rw [h2]; exact ⟨h0, h1⟩
theorem torn_main (L R : List Int) (hL : Bytes L) (hR : Bytes R) (lL : L.length ≤ 80) (lR : R.length ≤ 20) (a b : Nat) (ha : a ≤ 65535) (hb : b ≤ 65535) : assayerlaw1_OctetTorn.j0 2001 L R (a : Int) (b : Int) false = some true := by
  have hlen := slr_length L (by omega)
  have hSb := slr_bytes L hL (by omega)
  have hw := whole_ L R (by omega)
  simp only [assayerlaw1_OctetTorn.j0]
  rw [if_neg (by decide), slr_ok L hL (by omega) 2000 (by omega), Option.bind_some]
  have hsh := short_ L (by omega) (a % (slr L).length) (by have := Nat.mod_lt a (show 0 < (slr L).length by omega); omega)
  have htu := turned_ L hL (by omega)
  generalize slr L = S at *
  have ea : Int.tmod (wrap64 (a : Int)) (S.length : Int) = ((a % S.length : Nat) : Int) := by
    rw [w64 (by omega) (by omega), Int.tmod_eq_emod_of_nonneg (by omega)]; rfl
  have hmod := Nat.mod_lt b (show 0 < 8 * S.length - 24 by omega)
  have eb : wrap64 (24 + Int.tmod (wrap64 (b : Int)) (wrap64 (wrap64 (8 * (S.length : Int)) - 24))) = ((24 + b % (8 * S.length - 24) : Nat) : Int) := by
    rw [w64 (x := (b : Int)) (by omega) (by omega), w64 (x := 8 * (S.length : Int)) (by omega) (by omega), w64 (x := 8 * (S.length : Int) - 24) (by omega) (by omega), Int.tmod_eq_emod_of_nonneg (by omega), show 8 * (S.length : Int) - 24 = ((8 * S.length - 24 : Nat) : Int) by omega, ← Int.natCast_emod, w64 (by omega) (by omega)]
    rfl
  have hml := Nat.mod_lt a (show 0 < S.length by omega)
  obtain ⟨bit, hbit, h24, hlt⟩ : ∃ bit : Nat, 24 + b % (8 * S.length - 24) = bit ∧ 24 ≤ bit ∧ bit < 8 * S.length := ⟨_, rfl, by omega, by omega⟩
  rw [hbit] at eb
  clear hmod hbit
  rw [ea, eb]
  clear ea eb
  generalize a % S.length = m at *
  have ed : wrap64 (Int.tdiv (bit : Int) 8) = ((bit / 8 : Nat) : Int) := by
    rw [Int.tdiv_eq_ediv_of_nonneg (Int.natCast_nonneg _), w64 (by omega) (by omega)]; rfl
  have em : Int.tmod (bit : Int) 8 = ((bit % 8 : Nat) : Int) := by rw [Int.tmod_eq_emod_of_nonneg (Int.natCast_nonneg _)]; rfl
  have hv := htu (bit / 8) (bit % 8) (by omega) (by omega) (by omega)
  have rr := hSb.rd_ (bit / 8) (by omega)
  obtain ⟨_, f2, f3⟩ := flip_ (rd S ((bit / 8 : Nat) : Int)).toNat (bit % 8) (by omega) (by omega)
  rw [Int.toNat_of_nonneg rr.1] at f2 f3
  rw [ed, em, w64 (x := 7 + (L.length : Int)) (by omega) (by omega), w64 (x := 8 * (S.length : Int)) (by omega) (by omega), w64 (x := 8 * (S.length : Int) - 24) (by omega) (by omega), if_pos (by omega), if_neg (by omega), if_pos (by omega), if_pos (by omega), Int.toNat_natCast, Int.toNat_natCast]
  rw [useal_ok _ (hSb.take _) (by rw [List.length_take]; omega) 2000 (by rw [List.length_take]; omega), Option.bind_some, hsh, if_neg (by omega), Option.bind_some, if_pos (by simp; omega), Option.bind_some, List.nil_append, if_pos (by omega), if_pos (by omega), if_pos (by omega)]
  rw [useal_ok _ (set_bytes hSb _ _ f2 f3) (by rw [List.length_set]; omega) 2000 (by rw [List.length_set]; omega), Option.bind_some, hv, Option.bind_some, if_pos (by simp; omega), Option.bind_some, List.nil_append, if_pos (by omega)]
  rw [useal_ok _ (hSb.app hR) (by rw [List.length_append]; omega) 2000 (by rw [List.length_append]; omega), Option.bind_some, hw]
  dsimp only
  rw [if_pos rfl, if_pos rfl, if_pos rfl, if_pos rfl, if_pos rfl, if_pos (by omega), beq_self_eq_true]
theorem OctetTorn : assayerlaw1_OctetTorn.Pure := by
  intro L R a b _ _ hL _ _ hR ha hb
  have wa := wf_u16 ha
  have wb := wf_u16 hb
  obtain ⟨a, rfl⟩ := Int.eq_ofNat_of_zero_le wa.1
  obtain ⟨b, rfl⟩ := Int.eq_ofNat_of_zero_le wb.1
  have ht : assayerlaw1_OctetTorn.j0 2001 L R (a : Int) (b : Int) true = some true := by
    simp only [assayerlaw1_OctetTorn.j0]
    rw [if_pos trivial]
  refine ⟨2001, ?_⟩
  rw [assayerlaw1_OctetTorn.f, assayerlaw1_begun.f, Option.bind_some, if_pos rfl]
  by_cases c1 : (L.length : Int) > 80
  · rw [if_pos c1]; exact ht
  · rw [if_neg c1]
    by_cases c2 : (R.length : Int) > 20
    · rw [decide_eq_true c2]; exact ht
    · rw [decide_eq_false c2]
      exact torn_main L R (Bytes.of_wf hL) (Bytes.of_wf hR) (by omega) (by omega) a b (by omega) (by omega)
end Go.Proofs.Ythgimjbmjeidpaa.Pure
