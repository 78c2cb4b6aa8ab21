/- Numbers and sums as bytes (octet): Put, Take, Sum. -/
import Derived.Test.YthclmjelknibhaaDKall
import Derived.Test.YthclmjelknibhaaEvF
import Derived.ChangeArms
namespace Go.Proofs.Ythclmjelknibhaa.Ev
open Go Go.RowKit
set_option linter.unusedVariables false
set_option linter.constructorNameAsVariable false
set_option linter.unusedSimpArgs false
set_option linter.unusedSectionVars false

/-- The n lowest bytes, the greatest first. -/
def beN : Nat → Nat → List Nat
  | 0, _ => []
  | n + 1, c => beN n (c / 256) ++ [c % 256]
theorem beN_len : ∀ n c, (beN n c).length = n
  | 0, _ => rfl
  | n + 1, c => by rw [beN, List.length_append, beN_len n]; rfl
theorem beN_bs : ∀ n c, Bs (beN n c)
  | 0, _ => Bs.nil
  | n + 1, c => (beN_bs n _).append (fun x hx => by simp at hx; omega)
/-- What bytes say, the greatest first. -/
def beF (l : List Nat) : Nat := l.foldl (fun a b => a * 256 + b) 0
theorem beF_snoc (l : List Nat) (b : Nat) : beF (l ++ [b]) = beF l * 256 + b := by simp [beF]
theorem beF_lt : ∀ (k : Nat) (l : List Nat), Bs l → l.length = k → beF l < 256 ^ k := by
  intro k
  induction k with
  | zero => intro l _ hl; have := List.length_eq_zero_iff.mp hl; subst this; decide
  | succ k ih =>
    intro l hb hl
    obtain ⟨t, b, rfl⟩ : ∃ t b, l = t ++ [b] := by
      rcases List.eq_nil_or_concat l with h | ⟨t, b, h⟩
      · subst h; simp at hl
      · exact ⟨t, b, by simpa using h⟩
    rw [beF_snoc, Nat.pow_succ]
    have := ih t (fun x hx => hb x (by simp [hx])) (by simpa using hl)
    have hb' := hb b (by simp)
    omega
theorem beF_beN : ∀ (n c : Nat), c < 256 ^ n → beF (beN n c) = c
  | 0, c, h => by have : c = 0 := by simpa using h
                  subst this; rfl
  | n + 1, c, h => by
    rw [beN, beF_snoc, beF_beN n (c / 256) (by rw [Nat.div_lt_iff_lt_mul (by decide)]; rw [Nat.pow_succ] at h; exact h)]
    omega
theorem take_snoc {l : List Nat} {i b : Nat} (h : l[i]? = some b) : l.take (i + 1) = l.take i ++ [b] := by
  rw [List.take_add_one, h]; rfl
theorem uSub_ix (F : FAW) (f : KU) (m : Nat) (h : m ≤ 9223372036854775807) : uSub (.n m) (.n 1) F f = f (iv ((m : Int) - 1)) F :=
  sub_z F f (a := (m : Int)) (b := 1) ⟨by omega, by omega⟩ ⟨by omega, by omega⟩
theorem set_mid (pre done : List FV) (k : Nat) (z w : FV) : (pre ++ List.replicate (k + 1) z ++ done).set (pre.length + k) w = pre ++ List.replicate k z ++ (w :: done) := by
  rw [List.append_assoc, List.set_append_right _ _ (by omega), show pre.length + k - pre.length = k by omega, List.replicate_succ', List.append_assoc, List.set_append_right _ _ (by simp)]
  simp
theorem cpy {F : FAW} {a : FV} {xs : List Nat} (ha : By F a xs) {i L el m ex : Nat} {cs : List FV} (hr : F.row i = some (cs, el, 1, m, false)) (hf : F.fam m = some (false, ex)) (hx : cs.length ≤ ex) (hL : cs.length = L) (hle : xs.length ≤ L) (hc : ∀ w ∈ cs, Fi w) (hw : Wf F) :
    ∃ F', (∀ f : KU, uCpy 1 (.l i 0 L L) a F f = f (.n xs.length) F') ∧ F'.row i = some (xs.map FV.b ++ cs.drop xs.length, el, 1, m, false) ∧ (∀ j, F'.fam j = F.fam j) ∧ Sg F F' (· = i) No No ∧ Wf F' := by
  have hs := fun g : Nat → List FV → RU => ha.src g
  have e1 : ∀ f : KU, uCpy 1 (.l i 0 L L) a F f = cpyK i 0 F xs.length (xs.map FV.b) f := by
    intro f
    show cutK L a (fun x => srcU F 1 x fun n nw => cpyK i 0 F n nw f) = _
    rcases ha.cases with ⟨rfl, h⟩ | ⟨j, o, c, rfl⟩
    · subst h; rfl
    · show (Bool.rec (motive := fun _ => RU) (srcU F 1 (.l j o L c) fun n nw => cpyK i 0 F n nw f) (srcU F 1 (.l j o xs.length c) fun n nw => cpyK i 0 F n nw f) (Nat.ble xs.length L)) = _
      rw [bleU, decide_eq_true hle]
      exact hs _
  cases xs with
  | nil => exact ⟨F, fun f => by rw [e1]; rfl, by simpa using hr, fun _ => rfl, Sg.refl _ _ _ _, hw⟩
  | cons b t =>
    refine ⟨F.put i ((b :: t).map FV.b ++ cs.drop (b :: t).length), fun f => ?_, by rw [row_put, if_pos rfl, hr]; rfl, fun j => fam_put _ _ _ _, Sg.put rfl, hw.put _ _⟩
    rw [e1]
    show (findH F.h i fun c _ _ fm ro => cn ro .no (stAtU c 0 ((b :: t).map FV.b) fun d => putU F i fm d fun F' => f (.n (b :: t).length) F')) = _
    rw [findH_get _ hr, cn_false, stAtU_all fi_b _ (by rw [List.length_map]; omega) hc, List.take_zero, List.nil_append, Nat.zero_add, List.length_map, putU_put hr hf (by rw [List.length_append, List.length_map, List.length_drop]; omega)]
theorem l90 (C : CU) (N : Nat) {pre : List Nat} (hp : pre.length ≤ 1000000) {a : FV} (ha : ∀ (F : FAW) (f : KU), uLen false a F f = f (.n pre.length) F) : ∀ (k : Nat), k ≤ 8 → ∀ (c : Nat), c < 18446744073709551616 → ∀ {F : FAW} {v : FV} {m : Nat} {dn : List Nat} (h : BB F v (pre ++ List.replicate k 0 ++ dn) m) (hw : Wf F) (M : Nat), k < M → ∀ (d e h' i : FV),
    ∃ F' c' ix j', (∀ κ : EX → W8 → FAW → RU, loopNU (u90_12 C N) κ M (.mk a (w64 c) d e v (iv ((pre.length : Int) + k - 1)) h' i) F = κ (.exit 0) (.mk a c' d e v ix h' j') F') ∧ BB F' v (pre ++ beN k c ++ dn) m ∧ F'.x = F.x ∧ Wf F' ∧ ∀ F0, Wf F0 → F0.x ≤ m → Std F0 F (fun _ => False) (fun _ => False) → Std F0 F' (fun _ => False) (fun _ => False) := by
  intro k
  induction k with
  | zero =>
    intro hk c hc F v m dn h hw M hM d e h' i
    obtain ⟨M, rfl⟩ : ∃ M', M = M' + 1 := ⟨M - 1, by omega⟩
    refine ⟨F, w64 c, iv ((pre.length : Int) + (0 : Nat) - 1), .t false, fun κ => ?_, by simpa [beN] using h, rfl, hw, fun F0 _ _ h => h⟩
    rw [loopNU_succ]
    generalize loopNU (u90_12 C N) κ M = rec
    have hc : ∀ F f, uCmp (fun a b => Nat.ble b a) .geq (iv ((pre.length : Int) + (0 : Nat) - 1)) (.n pre.length) F f = f (.t false) F := fun F f => by
      refine (ge_z F f _ (pre.length : Int)).trans ?_
      rw [decide_eq_false (by omega)]
    simp -implicitDefEqProofs only [↓SS, Nat.zero_add, Nat.add_zero, Bool.not_true, Bool.not_false, ↓u90_12, ↓u90_0, ↓u90_1, ↓u90_2, ↓u90_3, ↓u90_4, ↓u90_5, ↓u90_6, ↓u90_7, ↓u90_8, ↓u90_9, ↓u90_10, ↓u90_11, ↓u90_13, ↓m8_mk, ↓k8_mk, ↓u90r_mk, ↓ha, ↓hc]
  | succ k ih =>
    intro hk c hc F v m dn h hw M hM d e h' i
    obtain ⟨M, rfl⟩ : ∃ M', M = M' + 1 := ⟨M - 1, by omega⟩
    obtain ⟨F1, e1, h1, x1, s1, w1⟩ := st_e hw h fi_b (k := pre.length + k) (by simp; omega) (Fi.b (c % 256))
    have hl : (List.map FV.b (pre ++ List.replicate (k + 1) 0 ++ dn)).set (pre.length + k) (.b (c % 256)) = List.map FV.b (pre ++ List.replicate k 0 ++ (c % 256 :: dn)) := by
      have := set_mid (pre.map FV.b) (dn.map FV.b) k (.b 0) (.b (c % 256))
      rw [List.length_map] at this
      simp only [List.map_append, List.map_replicate, List.map_cons]
      rw [this]
    rw [hl] at h1
    have hlen : (pre ++ List.replicate (k + 1) 0 ++ dn).length = (pre ++ List.replicate k 0 ++ (c % 256 :: dn)).length := by simp; omega
    rw [hlen] at h1
    obtain ⟨F2, c2, ix2, j2, k1, k2, k3, k4, k5⟩ := ih (by omega) (c / 256) (by omega) h1 w1 M (by omega) d e h' (.t true)
    refine ⟨F2, c2, ix2, j2, fun κ => ?_, ?_, by rw [k3, x1], k4, fun F0 hw0 hm hs => k5 F0 hw0 hm (hs.newfam hw0 s1 hm)⟩
    · have k1 := k1 κ
      rw [loopNU_succ]
      generalize loopNU (u90_12 C N) κ M = rec at k1 ⊢
      have hix : iv ((pre.length : Int) + (k + 1 : Nat) - 1) = .n (pre.length + k) := by
        have : (pre.length : Int) + (k + 1 : Nat) - 1 = ((pre.length + k : Nat) : Int) := by omega
        rw [this]; rfl
      have hge := fun F f => uGeq_nn F f .geq (pre.length + k) pre.length
      have hsh := fun F f => uShr_w F f c 8 (by decide) (.i .u64 8) (.inl rfl)
      have hsub := fun F f => uSub_ix F f (pre.length + k) (by omega)
      have hcast : ((pre.length + k : Nat) : Int) - 1 = (pre.length : Int) + k - 1 := by omega
      rw [hcast] at hsub
      have h256 : c / 2 ^ 8 = c / 256 := rfl
      rw [h256] at hsh
      simp -implicitDefEqProofs only [↓SS, Nat.zero_add, Nat.add_zero, Bool.not_true, Bool.not_false, ↓u90_12, ↓u90_0, ↓u90_1, ↓u90_2, ↓u90_3, ↓u90_4, ↓u90_5, ↓u90_6, ↓u90_7, ↓u90_8, ↓u90_9, ↓u90_10, ↓u90_11, ↓u90_13, ↓m8_mk, ↓k8_mk, ↓u90r_mk, ↓ha, hix, ↓hge, decide_eq_true (show pre.length ≤ pre.length + k by omega), ↓uCv_bw, ↓e1, ↓hsh, ↓hsub]
      exact k1
    · rw [beN]
      have : pre ++ beN k (c / 256) ++ (c % 256 :: dn) = pre ++ (beN k (c / 256) ++ [c % 256]) ++ dn := by simp
      rw [← this]; exact k2
/-- octet.Put. -/
theorem t90 (N : Nat) (hN : 11 ≤ N) {F : FAW} {a : FV} {xs : List Nat} (ha : By F a xs) (hw : Wf F) (hL : xs.length ≤ 1000000) (c : Nat) (hc : c < 18446744073709551616) (n : Nat) (hn : n ≤ 8) :
    ∃ v F' m, clU dskD N 90 [a, w64 c, .n n] F = .ok v F' ∧ BB F' v (xs ++ beN n c) m ∧ F.x ≤ m ∧ Sq F F' ∧ Wf F' := by
  obtain ⟨m, rfl⟩ : ∃ m, N = m + 1 := ⟨N - 1, by omega⟩
  obtain ⟨q1, q2⟩ := mkz_ok hw (xs.length + n) (by omega)
  have w0 := hw.new ((List.replicate (xs.length + n) 0).map FV.b) 5 1
  have s0 : Sq F (F.new ((List.replicate (xs.length + n) 0).map FV.b) 5 1) := Sq.new hw _ _ _
  have r0 : (F.new ((List.replicate (xs.length + n) 0).map FV.b) 5 1).row F.x = some ((List.replicate (xs.length + n) 0).map FV.b, 5, 1, F.x, false) := by rw [row_new, if_pos rfl]
  have f0 : (F.new ((List.replicate (xs.length + n) 0).map FV.b) 5 1).fam F.x = some (false, xs.length + n) := by rw [fam_new, if_pos rfl]; simp
  obtain ⟨F2, e2, r2, fm2, s2, w2⟩ := cpy (L := xs.length + n) (ha.sq s0) r0 f0 (by simp) (by simp) (by omega) fi_b w0
  have hb2 : BB F2 (.l F.x 0 (xs.length + n) (xs.length + n)) (xs ++ List.replicate n 0 ++ []) F.x := by
    refine .inr ⟨F.x, false, by simp, by simp, ?_, by rw [fm2, f0]; simp⟩
    rw [r2]
    simp
  have st2 : Sq F F2 := s0.fresh hw s2 (fun j hj q => by omega) (fun j hj q => q) (fun j hj q => q)
  obtain ⟨F3, c3, ix, j3, k1, k2, k3, k4, k5⟩ := l90 (clU dskD m) m hL (fun G f => ha.len G f) n hn c hc hb2 w2 m (by omega) (.n n) .nl (.t false) (.u [])
  rw [List.append_nil] at k2
  refine ⟨_, F3, F.x, ?_, k2, Nat.le_refl _, (k5 F hw (Nat.le_refl _) st2.std).sq, k4⟩
  rw [cl90, u90_in]
  have hlt := fun F f => uLss_nn F f .lss n 0
  have hgt := fun F f => uGtr_nn F f .gtr n 8
  have hadd := fun F f => uAdd_nn F f (a := xs.length) (b := n) (by omega)
  have hl2 : ∀ (F' : FAW) (f : KU), uLen false (.l F.x 0 (xs.length + n) (xs.length + n)) F' f = f (.n (xs.length + n)) F' := fun _ _ => rfl
  have hsub := fun F f => uSub_ix F f (xs.length + n) (by omega)
  have hcast : ((xs.length + n : Nat) : Int) - 1 = (xs.length : Int) + n - 1 := by omega
  rw [hcast] at hsub
  have be0 : Nat.beq 0 0 = true := rfl
  simp -implicitDefEqProofs only [↓SS, Nat.zero_add, Nat.add_zero, Bool.not_true, Bool.not_false, ↓u90b, ↓u90_0, ↓u90_1, ↓u90_2, ↓u90_3, ↓u90_4, ↓u90_5, ↓u90_6, ↓u90_7, ↓u90_8, ↓u90_9, ↓u90_10, ↓u90_11, ↓u90_13, ↓m8_mk, ↓k8_mk, ↓u90r_mk, ↓hlt, decide_eq_false (show ¬ n < 0 by omega), ↓hgt, decide_eq_false (show ¬ 8 < n by omega), ↓ha.len, ↓hadd, ↓q1, ↓e2, ↓hl2, ↓hsub, ↓loopU_eq, ↓k1, be0]
-- Take
theorem or_mul {a b s : Nat} (h : b < 2 ^ s) : a * 2 ^ s ||| b = a * 2 ^ s + b := by
  rw [Nat.mul_comm, Nat.two_pow_add_eq_or_of_lt h]
theorem l86 (C : CU) (N : Nat) {F : FAW} {w : FV} {l : List Nat} (h : By F w l) (hl : Bs l) (k : Nat) (hk : k ≤ 7) (hkl : k ≤ l.length) : ∀ (r i : Nat), i + r = k → ∀ (M : Nat), r < M → ∀ (e g h' j : FV),
    ∃ x j', ∀ κ : EX → W8 → FAW → RU, loopNU (u86_12 C N) κ M (.mk w (.n k) (w64 (beF (l.take i) * 2 ^ (8 * r))) e (iv (8 * ((k : Int) - 1 - i))) g h' j) F = κ (.exit 0) (.mk w (.n k) (w64 (beF (l.take k))) e x g h' j') F := by
  intro r
  induction r with
  | zero =>
    intro i hi M hM e g h' j
    obtain ⟨M, rfl⟩ : ∃ M', M = M' + 1 := ⟨M - 1, by omega⟩
    obtain rfl : i = k := by omega
    refine ⟨iv (8 * ((i : Int) - 1 - i)), .t false, fun κ => ?_⟩
    rw [loopNU_succ]
    generalize loopNU (u86_12 C N) κ M = rec
    have hc : ∀ F f, uCmp (fun a b => Nat.ble b a) .geq (iv (8 * ((i : Int) - 1 - i))) (.n 0) F f = f (.t false) F := fun F f => by
      refine (ge_z F f _ 0).trans ?_
      rw [decide_eq_false (by omega)]
    simp -implicitDefEqProofs only [↓SS, Nat.zero_add, Nat.add_zero, Bool.not_true, Bool.not_false, ↓u86_12, ↓u86_0, ↓u86_1, ↓u86_2, ↓u86_3, ↓u86_4, ↓u86_5, ↓u86_6, ↓u86_7, ↓u86_8, ↓u86_9, ↓u86_10, ↓u86_11, ↓u86_13, ↓m8_mk, ↓k8_mk, ↓u86r_mk, ↓hc]
    simp
  | succ r ih =>
    intro i hi M hM e g h' j
    obtain ⟨M, rfl⟩ : ∃ M', M = M' + 1 := ⟨M - 1, by omega⟩
    obtain ⟨b, hb⟩ : ∃ b, l[i]? = some b := ⟨l[i]'(by omega), List.getElem?_eq_getElem (by omega)⟩
    have hb2 := hl b (List.mem_of_getElem? hb)
    obtain ⟨x, j', k1⟩ := ih (i + 1) (by omega) M (by omega) e g h' (.t true)
    refine ⟨x, j', fun κ => ?_⟩
    have k1 := k1 κ
    rw [take_snoc hb, beF_snoc] at k1
    have hlt := beF_lt i (l.take i) (hl.take i) (by rw [List.length_take]; omega)
    have hpow : (256 : Nat) ^ i * 2 ^ (8 * (r + 1)) = 2 ^ (8 * k) := by
      rw [show (256 : Nat) = 2 ^ 8 from rfl, ← Nat.pow_mul, ← Nat.pow_add]
      congr 1; omega
    have h56 : (2 : Nat) ^ (8 * k) ≤ 2 ^ 56 := Nat.pow_le_pow_right (by decide) (by omega)
    have hd : beF (l.take i) * 2 ^ (8 * (r + 1)) < 18446744073709551616 := by
      have : beF (l.take i) * 2 ^ (8 * (r + 1)) < 256 ^ i * 2 ^ (8 * (r + 1)) := Nat.mul_lt_mul_of_pos_right hlt (Nat.two_pow_pos _)
      omega
    have hr48 : (2 : Nat) ^ (8 * r) ≤ 2 ^ 48 := Nat.pow_le_pow_right (by decide) (by omega)
    have hbs : b * 2 ^ (8 * r) < 18446744073709551616 := by
      have : b * 2 ^ (8 * r) ≤ 255 * 2 ^ 48 := Nat.mul_le_mul (by omega) hr48
      omega
    have hbs2 : b * 2 ^ (8 * r) < 2 ^ (8 * (r + 1)) := by
      have e : (2 : Nat) ^ (8 * (r + 1)) = 256 * 2 ^ (8 * r) := by rw [Nat.mul_add, Nat.pow_add]; omega
      rw [e]
      exact Nat.mul_lt_mul_of_pos_right hb2 (Nat.two_pow_pos _)
    have hor : beF (l.take i) * 2 ^ (8 * (r + 1)) ||| b * 2 ^ (8 * r) = (beF (l.take i) * 256 + b) * 2 ^ (8 * r) := by
      rw [or_mul hbs2]
      have e : (2 : Nat) ^ (8 * (r + 1)) = 256 * 2 ^ (8 * r) := by rw [Nat.mul_add, Nat.pow_add]; omega
      rw [e, Nat.add_mul, Nat.mul_assoc]
    rw [loopNU_succ]
    generalize loopNU (u86_12 C N) κ M = rec at k1 ⊢
    have hf : iv (8 * ((k : Int) - 1 - i)) = .n (8 * r) := by
      have : 8 * ((k : Int) - 1 - i) = ((8 * r : Nat) : Int) := by omega
      rw [this]; rfl
    have hc := fun F f => uGeq_nn F f .geq (8 * r) 0
    have hs1 := fun F f => uSub_nn F f (a := k) (b := 1) (by omega) (by omega)
    have hdv := fun F f => uDiv_nn F f (8 * r) 8 (by omega) (by decide)
    have hs2 := fun F f => uSub_nn F f (a := k - 1) (b := r) (by omega) (by omega)
    have e8 : 8 * r / 8 = r := by omega
    have ei : k - 1 - r = i := by omega
    rw [e8] at hdv
    rw [ei] at hs2
    have hcv := fun F f => uCv_ub F f b hb2
    have hsh := fun F f => uShl_w F f b (8 * r) (by omega) (.n (8 * r)) (.inr rfl)
    rw [Nat.mod_eq_of_lt hbs] at hsh
    have ho := fun F f => uOr_w F f (beF (l.take i) * 2 ^ (8 * (r + 1))) (b * 2 ^ (8 * r)) hd hbs
    rw [hor] at ho
    have hsub : ∀ F f, uSub (.n (8 * r)) (.n 8) F f = f (iv (8 * ((k : Int) - 1 - (i + 1 : Nat)))) F := fun F f => by
      refine (sub_z F f (a := ((8 * r : Nat) : Int)) (b := 8) ⟨by omega, by omega⟩ ⟨by omega, by omega⟩).trans ?_
      congr 2; omega
    simp -implicitDefEqProofs only [↓SS, Nat.zero_add, Nat.add_zero, Bool.not_true, Bool.not_false, ↓u86_12, ↓u86_0, ↓u86_1, ↓u86_2, ↓u86_3, ↓u86_4, ↓u86_5, ↓u86_6, ↓u86_7, ↓u86_8, ↓u86_9, ↓u86_10, ↓u86_11, ↓u86_13, ↓m8_mk, ↓k8_mk, ↓u86r_mk, hf, ↓hc, decide_eq_true (show 0 ≤ 8 * r by omega), ↓hs1, ↓hdv, ↓hs2, ↓h.get hb, ↓hcv, ↓hsh, ↓ho, ↓hsub]
    exact k1
/-- octet.Take. -/
theorem t86 (N : Nat) (hN : 10 ≤ N) {F : FAW} {w : FV} {l : List Nat} (h : By F w l) (hl : Bs l) (k : Nat) (hk : 1 ≤ k ∧ k ≤ 7) : clU dskD N 86 [w, .n k] F = .ok (.u [w64 (if l.length < k then 0 else beF (l.take k)), .n (if l.length < k then 3 else 0)]) F := by
  obtain ⟨m, rfl⟩ : ∃ m, N = m + 1 := ⟨N - 1, by omega⟩
  rw [cl86, u86_in]
  have hlt := fun F f => uLss_nn F f .lss k 0
  have hgt := fun F f => uGtr_nn F f .gtr k 8
  have hgl := fun F f => uGtr_nn F f .gtr k l.length
  by_cases hs : l.length < k
  · rw [if_pos hs, if_pos hs]
    simp -implicitDefEqProofs only [↓SS, Nat.zero_add, Nat.add_zero, Bool.not_true, Bool.not_false, ↓u86b, ↓u86_0, ↓u86_1, ↓u86_2, ↓u86_3, ↓u86_4, ↓u86_5, ↓u86_6, ↓u86_7, ↓u86_8, ↓u86_9, ↓u86_10, ↓u86_11, ↓u86_13, ↓m8_mk, ↓k8_mk, ↓u86r_mk, ↓hlt, decide_eq_false (show ¬ k < 0 by omega), ↓hgt, decide_eq_false (show ¬ 8 < k by omega), ↓h.len, ↓hgl, decide_eq_true hs]
    rfl
  · rw [if_neg hs, if_neg hs]
    obtain ⟨x, j', k1⟩ := l86 (clU dskD m) m h hl k hk.2 (by omega) k 0 (by omega) m (by omega) (.n 0) (.t false) (.t false) (.u [])
    have k1 : ∀ κ : EX → W8 → FAW → RU, loopNU (u86_12 (clU dskD m) m) κ m (.mk w (.n k) (.i .u64 0) (.n 0) (.n (8 * (k - 1))) (.t false) (.t false) (.u [])) F = κ (.exit 0) (.mk w (.n k) (w64 (beF (l.take k))) (.n 0) x (.t false) (.t false) j') F := fun κ => by
      have := k1 κ
      have e1 : beF (l.take 0) * 2 ^ (8 * k) = 0 := by simp [beF]
      have e2 : iv (8 * ((k : Int) - 1 - (0 : Nat))) = .n (8 * (k - 1)) := by
        have : 8 * ((k : Int) - 1 - (0 : Nat)) = ((8 * (k - 1) : Nat) : Int) := by omega
        rw [this]; rfl
      rw [e1, e2] at this
      exact this
    have hs1 := fun F f => uSub_nn F f (a := k) (b := 1) (by omega) (by omega)
    have hm := fun F f => uMul_nn F f (a := 8) (b := k - 1) (by omega)
    have be0 : Nat.beq 0 0 = true := rfl
    simp -implicitDefEqProofs only [↓SS, Nat.zero_add, Nat.add_zero, Bool.not_true, Bool.not_false, ↓u86b, ↓u86_0, ↓u86_1, ↓u86_2, ↓u86_3, ↓u86_4, ↓u86_5, ↓u86_6, ↓u86_7, ↓u86_8, ↓u86_9, ↓u86_10, ↓u86_11, ↓u86_13, ↓m8_mk, ↓k8_mk, ↓u86r_mk, ↓hlt, decide_eq_false (show ¬ k < 0 by omega), ↓hgt, decide_eq_false (show ¬ 8 < k by omega), ↓h.len, ↓hgl, decide_eq_false hs, ↓hs1, ↓hm, ↓loopU_eq, ↓k1, be0]
end Go.Proofs.Ythclmjelknibhaa.Ev
/- Sums, and what is sealed (octet): Sum, Seal, Unseal. -/
namespace Go.Proofs.Ythclmjelknibhaa.Ev
open Go Go.RowKit
set_option linter.unusedVariables false
set_option linter.constructorNameAsVariable false
set_option linter.unusedSimpArgs false
set_option linter.unusedSectionVars false

def w32 (n : Nat) : FV := .i .u32 (Int.ofNat n)
theorem wrap_u32 {m : Nat} (h : m < 4294967296) : IntKind.wrap .u32 (m : Int) = (m : Int) := by
  rw [wrap_u32', Nat.mod_eq_of_lt h]
section
variable (F : FAW) (f : KU)
theorem uXor_32 (a b : Nat) (ha : a < 4294967296) (hb : b < 4294967296) : uSlow .xor (w32 a) (w32 b) F f = f (w32 (a ^^^ b)) F := by
  have h : binV .xor (toV (w32 a)) (toV (w32 b)) = some (.int .u32 (Int.ofNat (a ^^^ b))) := by
    simp only [w32, toV, binV, iop, if_true]
    congr 2
    show IntKind.wrap .u32 (((BitVec.ofInt 32 (Int.ofNat a) ^^^ BitVec.ofInt 32 (Int.ofNat b)).toNat : Nat) : Int) = _
    have e : (BitVec.ofInt 32 (Int.ofNat a) ^^^ BitVec.ofInt 32 (Int.ofNat b)).toNat = a ^^^ b := by
      rw [BitVec.toNat_xor]
      simp
      rw [Nat.mod_eq_of_lt ha, Nat.mod_eq_of_lt hb]
    rw [e, wrap_u32 (Nat.xor_lt_two_pow (n := 32) ha hb)]
    rfl
  rw [uSlow_n h]; rfl
theorem uAnd_32 (a b : Nat) (ha : a < 4294967296) (hb : b < 4294967296) : uSlow .and (w32 a) (w32 b) F f = f (w32 (a &&& b)) F := by
  have h : binV .and (toV (w32 a)) (toV (w32 b)) = some (.int .u32 (Int.ofNat (a &&& b))) := by
    simp only [w32, toV, binV, iop, if_true]
    congr 2
    show IntKind.wrap .u32 (((BitVec.ofInt 32 (Int.ofNat a) &&& BitVec.ofInt 32 (Int.ofNat b)).toNat : Nat) : Int) = _
    have e : (BitVec.ofInt 32 (Int.ofNat a) &&& BitVec.ofInt 32 (Int.ofNat b)).toNat = a &&& b := by
      rw [BitVec.toNat_and]
      simp
      rw [Nat.mod_eq_of_lt ha, Nat.mod_eq_of_lt hb]
    rw [e, wrap_u32 (Nat.and_lt_two_pow (n := 32) a hb)]
    rfl
  rw [uSlow_n h]; rfl
theorem uShr1_32 (a : Nat) : uSlow .shr (w32 a) (.i .u64 1) F f = f (w32 (a / 2)) F := by
  have h : binV .shr (toV (w32 a)) (toV (.i .u64 1)) = some (.int .u32 (Int.ofNat (a / 2))) := by
    have hm : (min (Int.toNat 1) (IntKind.bits .u32)) = 1 := by simp [IntKind.bits]
    simp only [w32, toV, binV, shop]
    rw [if_neg (by decide), hm]
    congr 2
    show Int.fdiv ((a : Nat) : Int) ((2 : Int) ^ 1) = ((a / 2 : Nat) : Int)
    rw [Int.fdiv_eq_ediv_of_nonneg _ (by decide)]
    norm_cast
  rw [uSlow_n h]; rfl
theorem uNeg_32 (a : Nat) (h : a = 0 ∨ a = 1) : uUn .neg (w32 a) F f = f (w32 (a * 4294967295)) F := by
  rcases h with rfl | rfl <;> rfl
theorem uNe_32 (a b : Nat) : uEq true .neq (w32 a) (w32 b) F f = f (.t (!decide (a = b))) F := by
  have e : uEq true .neq (w32 a) (w32 b) F f = uSlow .neq (w32 a) (w32 b) F f := rfl
  have h : binV .neq (toV (w32 a)) (toV (w32 b)) = some (.bool (!decide (a = b))) := by
    simp only [w32, toV, binV, iop, if_true]
    congr 3
    exact decide_eq_decide.mpr ⟨fun h => by injection h, fun h => by rw [h]⟩
  rw [e, uSlow_n h]; rfl
theorem uCv_32b (m : Nat) (h : m < 256) : uCvI .u32 (.b m) F f = f (w32 m) F := by
  have e : uCvI .u32 (.b m) F f = uO (wCvI .u32 (toV (.b m))) F f := rfl
  have h2 : wCvI .u32 (toV (.b m)) = some (.int .u32 (Int.ofNat m)) := by
    simp only [toV, wCvI]
    rw [show (Int.ofNat m) = ((m : Nat) : Int) from rfl, wrap_u32 (by omega)]
  rw [e, h2]; rfl
theorem uCv_32w (m : Nat) (h : m < 4294967296) : uCvI .u32 (w64 m) F f = f (w32 m) F := by
  have e : uCvI .u32 (w64 m) F f = uO (wCvI .u32 (toV (w64 m))) F f := rfl
  have h2 : wCvI .u32 (toV (w64 m)) = some (.int .u32 (Int.ofNat m)) := by
    simp only [w64, toV, wCvI]
    rw [show (Int.ofNat m) = ((m : Nat) : Int) from rfl, wrap_u32 h]
  rw [e, h2]; rfl
theorem uCv_w32 (m : Nat) (h : m < 4294967296) : uCvI .u64 (w32 m) F f = f (w64 m) F := by
  have e : uCvI .u64 (w32 m) F f = uO (wCvI .u64 (toV (w32 m))) F f := rfl
  have h2 : wCvI .u64 (toV (w32 m)) = some (.int .u64 (Int.ofNat m)) := by
    simp only [w32, toV, wCvI]
    rw [show (Int.ofNat m) = ((m : Nat) : Int) from rfl, wrap_u64 (by omega)]
  rw [e, h2]; rfl
theorem uLss_w (a b : Nat) : uCmp ltN .lss (w64 a) (w64 b) F f = f (.t (decide (a < b))) F := by
  have e : uCmp ltN .lss (w64 a) (w64 b) F f = uSlow .lss (w64 a) (w64 b) F f := rfl
  have h : binV .lss (toV (w64 a)) (toV (w64 b)) = some (.bool (decide (a < b))) := by
    simp only [w64, toV, binV, iop, if_true]
    congr 2
    exact decide_eq_decide.mpr (by simp)
  rw [e, uSlow_n h]; rfl
theorem uAdd_w (a b : Nat) (h : a + b < 18446744073709551616) : uAdd (w64 a) (w64 b) F f = f (w64 (a + b)) F := by
  have e : uAdd (w64 a) (w64 b) F f = uSlow .add (w64 a) (w64 b) F f := rfl
  have h2 : binV .add (toV (w64 a)) (toV (w64 b)) = some (.int .u64 (Int.ofNat (a + b))) := by
    simp only [w64, toV, binV, iop, if_true]
    rw [show Int.ofNat a + Int.ofNat b = ((a + b : Nat) : Int) from rfl, wrap_u64 h]
    rfl
  rw [e, uSlow_n h2]; rfl
end
theorem rem_nn (a k : Nat) (hk : 0 < k) (ha : a ≤ 9223372036854775807) (F : FAW) (f : KU) : uQuo false .rem (.n a) (.n k) F f = f (.n (a % k)) F := by
  have e : uQuo false .rem (.n a) (.n k) F f = cn (Nat.beq k 0) .no (uNum (Nat.mod a k) F f) := rfl
  rw [e, beqU, decide_eq_false (by omega), cn_false]
  exact uNum_le _ _ (Nat.le_trans (Nat.mod_le a k) ha)
-- a sum, bit by bit
def tn (s : Nat) : Nat := s / 2 ^^^ (2197175160 &&& (s &&& 1) * 4294967295)
theorem and_1 (s : Nat) : (s &&& 1) = 0 ∨ (s &&& 1) = 1 := by
  rw [Nat.and_one_is_mod]; omega
theorem tn_lt {s : Nat} (h : s < 4294967296) : tn s < 4294967296 := by
  unfold tn
  exact Nat.xor_lt_two_pow (n := 32) (by omega) (Nat.lt_of_le_of_lt Nat.and_le_left (by decide))
theorem t94 (N : Nat) (hN : 1 ≤ N) {s : Nat} (h : s < 4294967296) (F : FAW) : clU dskD N 94 [w32 s] F = .ok (w32 (tn s)) F := by
  obtain ⟨n, rfl⟩ : ∃ n, N = n + 1 := ⟨N - 1, by omega⟩
  rw [cl94, u94_in]
  have e1 : FV.i .u32 1 = w32 1 := rfl
  have em : FV.i .u32 2197175160 = w32 2197175160 := rfl
  have h1 := fun F f => uShr1_32 F f s
  have h2 := fun F f => uAnd_32 F f s 1 h (by decide)
  have h3 := fun F f => uNeg_32 F f (s &&& 1) (and_1 s)
  have hlt : (s &&& 1) * 4294967295 < 4294967296 := by rcases and_1 s with h | h <;> rw [h] <;> decide
  have h4 := fun F f => uAnd_32 F f 2197175160 ((s &&& 1) * 4294967295) (by decide) hlt
  have h5 := fun F f => uXor_32 F f (s / 2) (2197175160 &&& (s &&& 1) * 4294967295) (by omega) (Nat.lt_of_le_of_lt Nat.and_le_left (by decide))
  simp -implicitDefEqProofs only [↓SS, Nat.zero_add, Nat.add_zero, Bool.not_true, Bool.not_false, ↓u94b, ↓u94_0, ↓u94_1, ↓m2_mk, ↓k2_mk, ↓u94r_mk, e1, em, ↓h1, ↓h2, ↓h3, ↓h4, ↓h5]
  rfl
def sumS (l : List Nat) (i s : Nat) : Nat := tn (if i % 8 = 0 then s ^^^ l.getD (i / 8) 0 else s)
def sumI (l : List Nat) : Nat → Nat → Nat → Nat
  | 0, _, s => s
  | r + 1, i, s => sumI l r (i + 1) (sumS l i s)
def crc (l : List Nat) : Nat := sumI l (8 * l.length) 0 4294967295 ^^^ 4294967295
theorem getD_bs {l : List Nat} (hl : Bs l) (i : Nat) : l.getD i 0 < 256 := by
  rw [List.getD_eq_getElem?_getD]
  cases h : l[i]? with
  | none => decide
  | some x => exact hl x (List.mem_of_getElem? h)
theorem sumS_lt {l : List Nat} (hl : Bs l) (i : Nat) {s : Nat} (h : s < 4294967296) : sumS l i s < 4294967296 := by
  unfold sumS
  apply tn_lt
  split
  · exact Nat.xor_lt_two_pow (n := 32) h (by have := getD_bs hl (i / 8); omega)
  · exact h
theorem sumI_lt {l : List Nat} (hl : Bs l) : ∀ (r i s : Nat), s < 4294967296 → sumI l r i s < 4294967296
  | 0, _, s, h => h
  | r + 1, i, s, h => sumI_lt hl r (i + 1) _ (sumS_lt hl i h)
theorem crc_lt {l : List Nat} (hl : Bs l) : crc l < 4294967296 := Nat.xor_lt_two_pow (n := 32) (sumI_lt hl _ _ _ (by decide)) (by decide)
theorem l87 (N : Nat) (hN : 1 ≤ N) {F : FAW} {w : FV} {l : List Nat} (h : By F w l) (hl : Bs l) (hL : l.length ≤ 1000000) : ∀ (r i : Nat), i + r = 8 * l.length → ∀ (M : Nat), r < M → ∀ (s : Nat), s < 4294967296 → ∀ (c e h' j : FV),
    ∃ x1 x2 x3 x4, ∀ κ : EX → W8 → FAW → RU, loopNU (u87_11 (clU dskD N) N) κ M (.mk w c (w32 s) e (.n (8 * l.length)) (.n i) h' j) F = κ (.exit 0) (.mk w c (w32 (sumI l r i s)) x1 (.n (8 * l.length)) x2 x3 x4) F := by
  intro r
  induction r with
  | zero =>
    intro i hi M hM s hs c e h' j
    obtain ⟨M, rfl⟩ : ∃ M', M = M' + 1 := ⟨M - 1, by omega⟩
    refine ⟨e, .n i, .t false, j, fun κ => ?_⟩
    rw [loopNU_succ]
    generalize loopNU (u87_11 (clU dskD N) N) κ M = rec
    have hc := fun F f => uLss_nn F f .lss i (8 * l.length)
    simp -implicitDefEqProofs only [↓SS, Nat.zero_add, Nat.add_zero, Bool.not_true, Bool.not_false, ↓u87_11, ↓u87_0, ↓u87_1, ↓u87_2, ↓u87_3, ↓u87_4, ↓u87_5, ↓u87_6, ↓u87_7, ↓u87_8, ↓u87_9, ↓u87_10, ↓u87_12, ↓m8_mk, ↓k8_mk, ↓u87r_mk, ↓hc, decide_eq_false (show ¬ i < 8 * l.length by omega)]
    rfl
  | succ r ih =>
    intro i hi M hM s hs c e h' j
    obtain ⟨M, rfl⟩ : ∃ M', M = M' + 1 := ⟨M - 1, by omega⟩
    have hc := fun F f => uLss_nn F f .lss i (8 * l.length)
    have hr := fun F f => rem_nn i 8 (by decide) (by omega) F f
    have hq := fun F f => uEq_nn F f false .eql (i % 8) 0
    have hd := fun F f => uDiv_nn F f i 8 (by omega) (by decide)
    have ha := fun F f => uAdd_nn F f (a := i) (b := 1) (by omega)
    have hss := sumS_lt hl i hs
    by_cases h8 : i % 8 = 0
    · obtain ⟨b, hb⟩ : ∃ b, l[i / 8]? = some b := ⟨l[i / 8]'(by omega), List.getElem?_eq_getElem (by omega)⟩
      have hb2 := hl b (List.mem_of_getElem? hb)
      have hcv := fun F f => uCv_32b F f b hb2
      have hx := fun F f => uXor_32 F f s b hs (by omega)
      have hsx : s ^^^ b < 4294967296 := Nat.xor_lt_two_pow (n := 32) hs (by omega)
      have ht := t94 N hN hsx F
      have e1 : sumS l i s = tn (s ^^^ b) := by
        unfold sumS
        rw [if_pos h8, List.getD_eq_getElem?_getD, hb]; rfl
      obtain ⟨x1, x2, x3, x4, k1⟩ := ih (i + 1) (by omega) M (by omega) (sumS l i s) hss c (.n i) (.t true) (.t true)
      refine ⟨x1, x2, x3, x4, fun κ => ?_⟩
      have k1 := k1 κ
      rw [loopNU_succ]
      generalize loopNU (u87_11 (clU dskD N) N) κ M = rec at k1 ⊢
      rw [e1] at k1
      simp -implicitDefEqProofs only [↓SS, Nat.zero_add, Nat.add_zero, Bool.not_true, Bool.not_false, ↓u87_11, ↓u87_0, ↓u87_1, ↓u87_2, ↓u87_3, ↓u87_4, ↓u87_5, ↓u87_6, ↓u87_7, ↓u87_8, ↓u87_9, ↓u87_10, ↓u87_12, ↓m8_mk, ↓k8_mk, ↓u87r_mk, ↓hc, decide_eq_true (show i < 8 * l.length by omega), ↓hr, ↓hq, decide_eq_true h8, ↓hd, ↓h.get hb, ↓hcv, ↓hx, ↓ht, ↓ha]
      rw [k1]
      show _ = κ (.exit 0) (.mk w c (w32 (sumI l r (i + 1) (sumS l i s))) x1 (.n (8 * l.length)) x2 x3 x4) F
      rw [e1]
    · have ht := t94 N hN hs F
      have e1 : sumS l i s = tn s := by
        unfold sumS
        rw [if_neg h8]
      obtain ⟨x1, x2, x3, x4, k1⟩ := ih (i + 1) (by omega) M (by omega) (sumS l i s) hss c (.n i) (.t true) (.t false)
      refine ⟨x1, x2, x3, x4, fun κ => ?_⟩
      have k1 := k1 κ
      rw [loopNU_succ]
      generalize loopNU (u87_11 (clU dskD N) N) κ M = rec at k1 ⊢
      rw [e1] at k1
      simp -implicitDefEqProofs only [↓SS, Nat.zero_add, Nat.add_zero, Bool.not_true, Bool.not_false, ↓u87_11, ↓u87_0, ↓u87_1, ↓u87_2, ↓u87_3, ↓u87_4, ↓u87_5, ↓u87_6, ↓u87_7, ↓u87_8, ↓u87_9, ↓u87_10, ↓u87_12, ↓m8_mk, ↓k8_mk, ↓u87r_mk, ↓hc, decide_eq_true (show i < 8 * l.length by omega), ↓hr, ↓hq, decide_eq_false h8, ↓ht, ↓ha]
      rw [k1]
      show _ = κ (.exit 0) (.mk w c (w32 (sumI l r (i + 1) (sumS l i s))) x1 (.n (8 * l.length)) x2 x3 x4) F
      rw [e1]
/-- octet.Sum. -/
theorem t87 (N : Nat) {F : FAW} {w : FV} {l : List Nat} (hN : 8 * l.length + 3 ≤ N) (h : By F w l) (hl : Bs l) (hL : l.length ≤ 1000000) : clU dskD N 87 [w] F = .ok (w32 (crc l)) F := by
  obtain ⟨n, rfl⟩ : ∃ n, N = n + 1 := ⟨N - 1, by omega⟩
  obtain ⟨x1, x2, x3, x4, k1⟩ := l87 n (by omega) h hl hL (8 * l.length) 0 (by omega) n (by omega) 4294967295 (by decide) (.i .u32 0) (.u []) (.u []) (.u [])
  rw [cl87, u87_in]
  have em : FV.i .u32 4294967295 = w32 4294967295 := rfl
  have hm := fun F f => uMul_nn F f (a := 8) (b := l.length) (by omega)
  have hx := fun F f => uXor_32 F f (sumI l (8 * l.length) 0 4294967295) 4294967295 (sumI_lt hl _ _ _ (by decide)) (by decide)
  have be0 : Nat.beq 0 0 = true := rfl
  simp -implicitDefEqProofs only [↓SS, Nat.zero_add, Nat.add_zero, Bool.not_true, Bool.not_false, ↓u87b, ↓u87_0, ↓u87_1, ↓u87_2, ↓u87_3, ↓u87_4, ↓u87_5, ↓u87_6, ↓u87_7, ↓u87_8, ↓u87_9, ↓u87_10, ↓u87_12, ↓m8_mk, ↓k8_mk, ↓u87r_mk, em, ↓h.len, ↓hm, ↓loopU_eq, ↓k1, be0, ↓hx]
  rfl
-- Seal
def frm (l : List Nat) : List Nat := beN 3 l.length ++ l ++ beN 4 (crc l)
theorem frm_len (l : List Nat) : (frm l).length = l.length + 7 := by
  unfold frm
  simp only [List.length_append, beN_len]; omega
theorem frm_bs {l : List Nat} (h : Bs l) : Bs (frm l) := ((beN_bs 3 _).append h).append (beN_bs 4 _)
theorem t75 (N : Nat) {F : FAW} {w : FV} {l : List Nat} (hN : 8 * l.length + 13 ≤ N) (h : By F w l) (hl : Bs l) (hw : Wf F) (hL : l.length ≤ 900000) :
    ∃ v F' m, clU dskD N 75 [w] F = .ok v F' ∧ BB F' v (frm l) m ∧ F.x ≤ m ∧ Sq F F' ∧ Wf F' := by
  obtain ⟨n, rfl⟩ : ∃ n, N = n + 1 := ⟨N - 1, by omega⟩
  obtain ⟨v1, F1, m1, e1, b1, x1, s1, w1⟩ := t90 n (by omega) (a := .nl) (xs := []) (.inl ⟨rfl, rfl⟩) hw (by decide) l.length (by omega) 3 (by decide)
  rw [List.nil_append] at b1
  have h1 := h.sq s1
  obtain ⟨v2, F2, m2, e2, b2, s2, w2, n2⟩ := app_bb w1 b1 (fun g => h1.src g) (by rw [beN_len]; omega)
  have st2 : Sq F F2 := s1.fresh hw s2.sg (fun j hj q => q) (fun j hj q => by omega) (fun j hj q => q)
  have h2 := h.sq st2
  have e3 := t87 n (by omega) h2 hl (by omega)
  obtain ⟨v4, F4, m4, e4, b4, x4, s4, w4⟩ := t90 n (by omega) b2.by w2 (by rw [List.length_append, beN_len]; omega) (crc l) (by have := crc_lt hl; omega) 4 (by decide)
  refine ⟨v4, F4, m4, ?_, b4, Nat.le_trans st2.x x4, st2.trans s4, w4⟩
  rw [cl75, u75_in]
  have hge := fun F f => uGeq_nn F f .geq l.length 16777216
  have hcv := fun F f => uCv_un F f l.length (by omega)
  have hcw := fun F f => uCv_w32 F f (crc l) (crc_lt hl)
  simp -implicitDefEqProofs only [↓SS, Nat.zero_add, Nat.add_zero, Bool.not_true, Bool.not_false, ↓u75b, ↓u75_0, ↓u75_1, ↓u75_2, ↓u75_3, ↓u75_4, ↓u75_5, ↓m4_mk, ↓k4_mk, ↓u75r_mk, ↓h.len, ↓hge, decide_eq_false (show ¬ 16777216 ≤ l.length by omega), ↓hcv, ↓e1, ↓e2, ↓e3, ↓hcw, ↓e4]
-- Unseal
def ufr (l : List Nat) : List Nat × Nat × Nat :=
  if l.length < 3 then ([], 0, 3) else
  if l.length < 3 + beF (l.take 3) + 4 then ([], 0, 3) else
  if beF ((l.drop (3 + beF (l.take 3))).take 4) ≠ crc ((l.drop 3).take (beF (l.take 3))) then ([], 0, 2) else
  ((l.drop 3).take (beF (l.take 3)), 3 + beF (l.take 3) + 4, 0)
theorem t72 (N : Nat) {F : FAW} {w : FV} {l : List Nat} (hN : 8 * l.length + 23 ≤ N) (h : By F w l) (hl : Bs l) (hw : Wf F) (hL : l.length ≤ 1000000) :
    ∃ v F', clU dskD N 72 [w] F = .ok (.u [v, .n (ufr l).2.1, .n (ufr l).2.2]) F' ∧ By F' v (ufr l).1 ∧ Sq F F' ∧ Wf F' := by
  obtain ⟨n, rfl⟩ : ∃ n, N = n + 1 := ⟨N - 1, by omega⟩
  have e1 := t86 n (by omega) h hl 3 (by decide)
  by_cases h3 : l.length < 3
  · have hu : ufr l = ([], 0, 3) := by unfold ufr; rw [if_pos h3]
    rw [if_pos h3, if_pos h3] at e1
    refine ⟨.nl, F, ?_, .inl ⟨rfl, by rw [hu]⟩, Sg.refl _ _ _ _, hw⟩
    rw [cl72, u72_in, hu]
    have hq : ∀ (F : FAW) (f : KU), uEq true .neq (.n 3) (.n 0) F f = f (.t true) F := fun _ _ => rfl
    simp -implicitDefEqProofs only [↓SS, Nat.zero_add, Nat.add_zero, Bool.not_true, Bool.not_false, ↓u72b, ↓u72_0, ↓u72_1, ↓u72_2, ↓u72_3, ↓u72_4, ↓u72_5, ↓u72_6, ↓u72_7, ↓u72_8, ↓u72_9, ↓u72_10, ↓m9_mk, ↓k9_mk, ↓u72r_mk, ↓e1, ↓hq]
  · rw [if_neg h3, if_neg h3] at e1
    obtain ⟨k, hk⟩ : ∃ k, k = beF (l.take 3) := ⟨_, rfl⟩
    rw [← hk] at e1
    have hk24 : k < 16777216 := by
      have := beF_lt 3 (l.take 3) (hl.take 3) (by rw [List.length_take]; omega)
      rw [hk]; exact this
    have hcl := fun F f => uCv_un F f l.length (by omega)
    have w3 : FV.i .u64 3 = w64 3 := rfl
    have w4 : FV.i .u64 4 = w64 4 := rfl
    have a1 := fun F f => uAdd_w F f 3 k (by omega)
    have a2 := fun F f => uAdd_w F f (3 + k) 4 (by omega)
    have hlt := fun F f => uLss_w F f l.length (3 + k + 4)
    by_cases h7 : l.length < 3 + k + 4
    · have hu : ufr l = ([], 0, 3) := by unfold ufr; rw [if_neg h3, ← hk, if_pos h7]
      refine ⟨.nl, F, ?_, .inl ⟨rfl, by rw [hu]⟩, Sg.refl _ _ _ _, hw⟩
      rw [cl72, u72_in, hu]
      simp -implicitDefEqProofs only [↓SS, Nat.zero_add, Nat.add_zero, Bool.not_true, Bool.not_false, ↓u72b, ↓u72_0, ↓u72_1, ↓u72_2, ↓u72_3, ↓u72_4, ↓u72_5, ↓u72_6, ↓u72_7, ↓u72_8, ↓u72_9, ↓u72_10, ↓m9_mk, ↓k9_mk, ↓u72r_mk, ↓e1, ↓ne_00, ↓h.len, ↓hcl, w3, w4, ↓a1, ↓a2, ↓hlt, decide_eq_true h7]
    · have hcv := fun F f => uCv_nw F f k (by omega)
      have ha := fun F f => uAdd_nn F f (a := 3) (b := k) (by omega)
      obtain ⟨v1, c1, b1⟩ := h.cut1 (a := 3 + k) (by omega)
      have e2 := t86 n (by omega) b1 (hl.drop _) 4 (by decide)
      rw [if_neg (by rw [List.length_drop]; omega), if_neg (by rw [List.length_drop]; omega)] at e2
      obtain ⟨x, hx⟩ : ∃ x, x = beF ((l.drop (3 + k)).take 4) := ⟨_, rfl⟩
      rw [← hx] at e2
      have hx32 : x < 4294967296 := by
        have := beF_lt 4 ((l.drop (3 + k)).take 4) ((hl.drop _).take 4) (by rw [List.length_take, List.length_drop]; omega)
        rw [hx]; exact this
      have hcx := fun F f => uCv_32w F f x hx32
      obtain ⟨v2, c2, b2⟩ := h.cut (a := 3) (b := 3 + k) (by omega) (by omega)
      rw [Nat.add_sub_cancel_left] at b2
      obtain ⟨s, hs⟩ : ∃ s, s = (l.drop 3).take k := ⟨_, rfl⟩
      rw [← hs] at b2
      have hsl : s.length = k := by rw [hs, List.length_take, List.length_drop]; omega
      have hsb : Bs s := by rw [hs]; exact (hl.drop 3).take k
      have e3 := t87 n (by omega) b2 hsb (by omega)
      have hne := fun F f => uNe_32 F f x (crc s)
      by_cases hxs : x = crc s
      · have hu : ufr l = (s, 3 + k + 4, 0) := by unfold ufr; rw [if_neg h3, ← hk, if_neg h7, ← hx, ← hs, if_neg (by simpa using hxs)]
        obtain ⟨v3, F3, m3, e4, b3, s3, w3', n3⟩ := app_bb hw (SlE.nil F 5 1 0) (l := []) (w := v2) (d := s) (fun g => b2.src g) (by simp; omega)
        rw [List.nil_append] at b3
        have hadd := fun F f => uAdd_nn F f (a := 3 + k) (b := 4) (by omega)
        refine ⟨v3, F3, ?_, by rw [hu]; exact b3.by, Sg.mono s3.sg (fun j q => q) (fun j q => absurd rfl q.2) (fun j q => q), w3'⟩
        rw [cl72, u72_in, hu]
        simp -implicitDefEqProofs only [↓SS, Nat.zero_add, Nat.add_zero, Bool.not_true, Bool.not_false, ↓u72b, ↓u72_0, ↓u72_1, ↓u72_2, ↓u72_3, ↓u72_4, ↓u72_5, ↓u72_6, ↓u72_7, ↓u72_8, ↓u72_9, ↓u72_10, ↓m9_mk, ↓k9_mk, ↓u72r_mk, ↓e1, ↓ne_00, ↓h.len, ↓hcl, w3, w4, ↓a1, ↓a2, ↓hlt, decide_eq_false h7, ↓hcv, ↓ha, ↓c1, ↓e2, ↓hcx, ↓c2, ↓e3, ↓hne, decide_eq_true hxs, ↓e4, ↓hadd]
      · have hu : ufr l = ([], 0, 2) := by unfold ufr; rw [if_neg h3, ← hk, if_neg h7, ← hx, ← hs, if_pos hxs]
        refine ⟨.nl, F, ?_, .inl ⟨rfl, by rw [hu]⟩, Sg.refl _ _ _ _, hw⟩
        rw [cl72, u72_in, hu]
        simp -implicitDefEqProofs only [↓SS, Nat.zero_add, Nat.add_zero, Bool.not_true, Bool.not_false, ↓u72b, ↓u72_0, ↓u72_1, ↓u72_2, ↓u72_3, ↓u72_4, ↓u72_5, ↓u72_6, ↓u72_7, ↓u72_8, ↓u72_9, ↓u72_10, ↓m9_mk, ↓k9_mk, ↓u72r_mk, ↓e1, ↓ne_00, ↓h.len, ↓hcl, w3, w4, ↓a1, ↓a2, ↓hlt, decide_eq_false h7, ↓hcv, ↓ha, ↓c1, ↓e2, ↓hcx, ↓c2, ↓e3, ↓hne, decide_eq_false hxs]
-- what is sealed is unsealed
theorem ufr_frm {l : List Nat} (hl : Bs l) (hL : l.length < 16777216) (z : List Nat) : ufr (frm l ++ z) = (l, l.length + 7, 0) := by
  have e0 : frm l ++ z = beN 3 l.length ++ (l ++ (beN 4 (crc l) ++ z)) := by simp [frm]
  have e1 : (frm l ++ z).take 3 = beN 3 l.length := by rw [e0, List.take_left' (beN_len _ _)]
  have e2 : beF ((frm l ++ z).take 3) = l.length := by rw [e1, beF_beN 3 _ (by simpa using hL)]
  have e3 : (frm l ++ z).drop 3 = l ++ (beN 4 (crc l) ++ z) := by rw [e0, List.drop_left' (beN_len _ _)]
  have e4 : (frm l ++ z).drop (3 + l.length) = beN 4 (crc l) ++ z := by rw [← List.drop_drop, e3, List.drop_left]
  have e5 : beF (((frm l ++ z).drop (3 + l.length)).take 4) = crc l := by rw [e4, List.take_left' (beN_len _ _), beF_beN 4 _ (by have := crc_lt hl; simpa using this)]
  have hlen := frm_len l
  unfold ufr
  rw [e2, e3, List.take_left, e5]
  rw [if_neg (by rw [List.length_append]; omega), if_neg (by rw [List.length_append]; omega), if_neg (by simp)]
  congr 2
  omega
end Go.Proofs.Ythclmjelknibhaa.Ev
/- A log on a disk: Scan, Contains; drop, packs. -/
namespace Go.Proofs.Ythclmjelknibhaa.Ev
open Go Go.RowKit
set_option linter.unusedVariables false
set_option linter.constructorNameAsVariable false
set_option linter.unusedSimpArgs false
set_option linter.unusedSectionVars false

-- rows of bytes
def LB (F : FAW) : List FV → List (List Nat) → Prop
  | [], [] => True
  | c :: cs, r :: rs => By F c r ∧ LB F cs rs
  | _, _ => False
theorem LB.len {F : FAW} : ∀ {cs : List FV} {rs : List (List Nat)}, LB F cs rs → cs.length = rs.length
  | [], [], _ => rfl
  | _ :: _, _ :: _, ⟨_, h⟩ => by simp [LB.len h]
theorem LB.sg {F F' : FAW} {A B M : Nat → Prop} (hs : Sg F F' A B M) (hA : ∀ i r e m o, F.row i = some (r, e, 1, m, o) → ¬ A i) : ∀ {cs : List FV} {rs : List (List Nat)}, LB F cs rs → LB F' cs rs
  | [], [], _ => trivial
  | _ :: _, _ :: _, ⟨h1, h⟩ => ⟨h1.sg hs hA, LB.sg hs hA h⟩
theorem LB.snoc {F : FAW} {c : FV} {r : List Nat} (hc : By F c r) : ∀ {cs : List FV} {rs : List (List Nat)}, LB F cs rs → LB F (cs ++ [c]) (rs ++ [r])
  | [], [], _ => ⟨hc, trivial⟩
  | _ :: _, _ :: _, ⟨h1, h⟩ => ⟨h1, LB.snoc hc h⟩
theorem LB.fi {F : FAW} : ∀ {cs : List FV} {rs : List (List Nat)}, LB F cs rs → ∀ c ∈ cs, Fi c
  | [], [], _, c, h => by cases h
  | a :: cs, _ :: _, ⟨h1, h⟩, c, hc => by
    rcases List.mem_cons.mp hc with rfl | hc
    · exact h1.fi
    · exact LB.fi h c hc
theorem LB.get {F : FAW} : ∀ {cs : List FV} {rs : List (List Nat)}, LB F cs rs → ∀ {i : Nat} {r : List Nat}, rs[i]? = some r → ∃ c, cs[i]? = some c ∧ By F c r
  | [], [], _, i, r, h => by simp at h
  | c :: cs, r0 :: rs, ⟨h1, h⟩, 0, r, hr => by
    simp only [List.getElem?_cons_zero, Option.some.injEq] at hr
    subst hr
    exact ⟨c, rfl, h1⟩
  | c :: cs, r0 :: rs, ⟨h1, h⟩, i + 1, r, hr => by
    simp only [List.getElem?_cons_succ] at hr
    obtain ⟨c', k1, k2⟩ := LB.get h hr
    exact ⟨c', by simpa using k1, k2⟩
/-- A slice of rows of bytes. -/
def RS (F : FAW) (v : FV) (rs : List (List Nat)) : Prop := ∃ cs, Sl F v cs ∧ LB F cs rs
/-- One that was built by append. -/
def RL (F : FAW) (v : FV) (rs : List (List Nat)) (m : Nat) : Prop := ∃ cs, SlB F v 28 cs m ∧ LB F cs rs
theorem RL.rs {F : FAW} {v : FV} {rs : List (List Nat)} {m : Nat} (h : RL F v rs m) : RS F v rs := by
  obtain ⟨cs, h1, h2⟩ := h
  exact ⟨cs, h1.sl, h2⟩
theorem RS.sg {F F' : FAW} {v : FV} {rs : List (List Nat)} (h : RS F v rs) {A B M : Nat → Prop} (hs : Sg F F' A B M) (hA : ∀ i r e m o, F.row i = some (r, e, 1, m, o) → ¬ A i) : RS F' v rs := by
  obtain ⟨cs, h1, h2⟩ := h
  exact ⟨cs, h1.sg hs hA, h2.sg hs hA⟩
theorem RS.sq {F F' : FAW} {v : FV} {rs : List (List Nat)} (h : RS F v rs) (hs : Sq F F') : RS F' v rs := h.sg hs (fun _ _ _ _ _ _ q => q)
theorem RS.len {F : FAW} {v : FV} {rs : List (List Nat)} (h : RS F v rs) (G : FAW) (f : KU) : uLen false v G f = f (.n rs.length) G := by
  obtain ⟨cs, h1, h2⟩ := h
  rw [h1.len, h2.len]
theorem RS.get {F : FAW} {v : FV} {rs : List (List Nat)} (h : RS F v rs) {i : Nat} {r : List Nat} (hr : rs[i]? = some r) : ∃ c, By F c r ∧ ∀ f : KU, (uIad 1 v (.n i) F fun v0 S => uLd none v0 S f) = f c F := by
  obtain ⟨cs, h1, h2⟩ := h
  obtain ⟨c, k1, k2⟩ := h2.get hr
  exact ⟨c, k2, fun f => h1.get k1 k2.fi f⟩
theorem RL.sg {F F' : FAW} {v : FV} {rs : List (List Nat)} {m : Nat} (h : RL F v rs m) {A B M : Nat → Prop} (hs : Sg F F' A B M) (hA : ∀ i r e m o, F.row i = some (r, e, 1, m, o) → ¬ A i) (hB : ¬ B m) : RL F' v rs m := by
  obtain ⟨cs, h1, h2⟩ := h
  refine ⟨cs, ?_, h2.sg hs hA⟩
  rcases h1 with h1 | ⟨k1, i, mu, k2, k3, k4⟩
  · exact .inl h1
  · exact .inr ⟨k1, i, mu, k2, hs.row _ _ (hA _ _ _ _ _ k3) k3, hs.fam _ _ hB k4⟩
theorem RL.sq {F F' : FAW} {v : FV} {rs : List (List Nat)} {m : Nat} (h : RL F v rs m) (hs : Sq F F') : RL F' v rs m := h.sg hs (fun _ _ _ _ _ _ q => q) (fun q => q)
theorem RL.nil (F : FAW) (m : Nat) : RL F .nl [] m := ⟨[], .inl ⟨rfl, rfl⟩, trivial⟩
/-- A row more. -/
theorem rl_app {F : FAW} (hw : Wf F) {v : FV} {rs : List (List Nat)} {m : Nat} (h : RL F v rs m) (hl : rs.length ≤ 100000) {c : FV} {r : List Nat} (hc : By F c r) :
    ∃ v' F' m', (∀ f : KU, (uLitF 28 1 [.nl] 1 [(0, 1, c)] F fun v0 S => uApp 28 1 24 v v0 S f) = f v' F') ∧ RL F' v' (rs ++ [r]) m' ∧ Sg F F' No (fun q => q = m ∧ rs ≠ []) No ∧ Wf F' ∧ ((m' = m ∧ rs ≠ []) ∨ F.x ≤ m') := by
  obtain ⟨cs, h1, h2⟩ := h
  have s1 : Sq F (F.new [c] 28 1) := Sq.new hw _ _ _
  have w1 := hw.new [c] 28 1
  have hlen := h2.len
  have b1 : SlB (F.new [c] 28 1) v 28 cs m := h1.std s1.std (fun _ _ _ q => q) (fun _ q => q)
  obtain ⟨v', F', m', e1, e2, e3, e4, e5⟩ := app_one w1 b1 h2.fi hc.fi (j := F.x) (by rw [row_new, if_pos rfl]) (bytes := 24) (by omega) (by omega)
  have hne : cs ≠ [] ↔ rs ≠ [] := by
    rw [← List.length_pos_iff, ← List.length_pos_iff, hlen]
  refine ⟨v', F', m', fun f => ?_, ⟨cs ++ [c], e2, (LB.snoc hc h2).sg ((s1.any No (fun q => q = m ∧ cs ≠ []) No).trans e3.sg) (fun _ _ _ _ _ _ q => q)⟩, ((s1.any No (fun q => q = m ∧ cs ≠ []) No).trans e3.sg).mono (fun _ q => q) (fun j q => ⟨q.1, hne.mp q.2⟩) (fun _ q => q), e4, ?_⟩
  · rw [uLit1 28 .nl hc.fi Fi.nl]; exact e1 f
  · rcases e5 with ⟨q1, q2⟩ | q
    · exact .inl ⟨q1, hne.mp q2⟩
    · exact .inr (by have : (F.new [c] 28 1).x = F.x + 1 := rfl; omega)
-- Scan
def scanF : Nat → List Nat → List (List Nat) × Nat
  | 0, _ => ([], 0)
  | f + 1, l => if (ufr l).2.2 ≠ 0 then ([], 0) else ((ufr l).1 :: (scanF f (l.drop (ufr l).2.1)).1, (ufr l).2.1 + (scanF f (l.drop (ufr l).2.1)).2)
def scan (l : List Nat) : List (List Nat) × Nat := scanF (l.length + 1) l
theorem ufr_ok {l : List Nat} (h : (ufr l).2.2 = 0) : 7 ≤ (ufr l).2.1 ∧ (ufr l).2.1 ≤ l.length ∧ (ufr l).1.length + 7 = (ufr l).2.1 := by
  unfold ufr at h ⊢
  split at h
  · simp at h
  · rename_i h1
    rw [if_neg h1] at *
    split at h
    · simp at h
    · rename_i h2
      rw [if_neg h2] at *
      split at h
      · simp at h
      · rename_i h3
        rw [if_neg h3]
        simp only [List.length_take, List.length_drop]
        omega
theorem scanF_more : ∀ (f g : Nat) (l : List Nat), l.length < f → l.length < g → scanF f l = scanF g l
  | 0, _, _, h, _ => by omega
  | _ + 1, 0, _, _, h => by omega
  | f + 1, g + 1, l, hf, hg => by
    simp only [scanF]
    split
    · rfl
    · rename_i h
      have h := ufr_ok (by simpa using h)
      have : (l.drop (ufr l).2.1).length < l.length := by rw [List.length_drop]; omega
      rw [scanF_more f g _ (by omega) (by omega)]
theorem scan_step (l : List Nat) (h : (ufr l).2.2 = 0) : scan l = ((ufr l).1 :: (scan (l.drop (ufr l).2.1)).1, (ufr l).2.1 + (scan (l.drop (ufr l).2.1)).2) := by
  unfold scan
  have hu := ufr_ok h
  rw [scanF, if_neg (by simpa using h), scanF_more l.length ((l.drop (ufr l).2.1).length + 1) _ (by rw [List.length_drop]; omega) (by omega)]
theorem scan_end (l : List Nat) (h : (ufr l).2.2 ≠ 0) : scan l = ([], 0) := by
  unfold scan
  rw [scanF, if_pos h]
theorem scan_le : ∀ (k : Nat) (l : List Nat), l.length ≤ k → (scan l).2 ≤ l.length ∧ 7 * (scan l).1.length ≤ (scan l).2
  | 0, l, h => by
    have : l = [] := List.length_eq_zero_iff.mp (by omega)
    subst this
    rw [scan_end _ (by decide)]; simp
  | k + 1, l, h => by
    by_cases h0 : (ufr l).2.2 = 0
    · rw [scan_step l h0]
      have hu := ufr_ok h0
      have ih := scan_le k (l.drop (ufr l).2.1) (by rw [List.length_drop]; omega)
      rw [List.length_drop] at ih
      simp only [List.length_cons]
      omega
    · rw [scan_end l h0]; simp
theorem l34 (n : Nat) {F0 : FAW} (hw0 : Wf F0) {w : FV} {l : List Nat} (hn : 8 * l.length + 23 ≤ n) (hl : Bs l) (hL : l.length ≤ 100000) : ∀ (k at_ : Nat), at_ ≤ l.length → l.length - at_ ≤ k → ∀ (M : Nat), k < M → ∀ {F : FAW} {v : FV} {rs : List (List Nat)} {m : Nat}, Wf F → By F w l → RL F v rs m → rs.length ≤ at_ → (rs ≠ [] → F0.x ≤ m) → Sq F0 F → ∀ (e f g h : FV),
    ∃ v' F' m', ∃ x1 x2 x3 x4, (∀ κ, loopNU (u34_6 (clU dskD n) n) κ M (.mk w v (.n at_) e f g h) F = κ .ret (.mk w v' (.n (at_ + (scan (l.drop at_)).2)) x1 x2 x3 x4) F') ∧ RL F' v' (rs ++ (scan (l.drop at_)).1) m' ∧ (rs ++ (scan (l.drop at_)).1 ≠ [] → F0.x ≤ m') ∧ Sq F0 F' ∧ Wf F' := by
  intro k
  induction k with
  | zero =>
    intro at_ ha hk M hM F v rs m hw hb hr hrl hm hs e f g h
    obtain ⟨M, rfl⟩ : ∃ M', M = M' + 1 := ⟨M - 1, by omega⟩
    obtain ⟨w1, c1, b1⟩ := hb.cut1 (a := at_) ha
    obtain ⟨v2, F2, e2, b2, s2, w2⟩ := t72 n (by rw [List.length_drop]; omega) b1 (hl.drop _) hw (by rw [List.length_drop]; omega)
    have hnil : l.drop at_ = [] := List.drop_eq_nil_of_le (by omega)
    have hu : ufr (l.drop at_) = ([], 0, 3) := by rw [hnil]; rfl
    rw [hu] at e2
    rw [scan_end _ (by rw [hu]; decide)]
    have hq : ∀ (F : FAW) (f : KU), uEq true .neq (.n 3) (.n 0) F f = f (.t true) F := fun _ _ => rfl
    refine ⟨v, F2, m, v2, .n 0, .n 3, .t true, fun κ => ?_, by rw [List.append_nil]; exact hr.sq s2, by rw [List.append_nil]; exact hm, hs.trans s2, w2⟩
    rw [loopNU_succ]
    generalize loopNU (u34_6 (clU dskD n) n) κ M = rec
    simp -implicitDefEqProofs only [↓SS, Nat.zero_add, Nat.add_zero, Bool.not_true, Bool.not_false, ↓u34_6, ↓u34_0, ↓u34_1, ↓u34_2, ↓u34_3, ↓u34_4, ↓u34_5, ↓m7_mk, ↓k7_mk, ↓u34r_mk, ↓c1, ↓e2, ↓hq]
  | succ k ih =>
    intro at_ ha hk M hM F v rs m hw hb hr hrl hm hs e f g h
    obtain ⟨M, rfl⟩ : ∃ M', M = M' + 1 := ⟨M - 1, by omega⟩
    obtain ⟨w1, c1, b1⟩ := hb.cut1 (a := at_) ha
    obtain ⟨v2, F2, e2, b2, s2, w2⟩ := t72 n (by rw [List.length_drop]; omega) b1 (hl.drop _) hw (by rw [List.length_drop]; omega)
    by_cases h0 : (ufr (l.drop at_)).2.2 = 0
    · rw [h0] at e2
      have hu := ufr_ok h0
      rw [List.length_drop] at hu
      rw [scan_step _ h0]
      obtain ⟨v3, F3, m3, e3, r3, s3, w3, n3⟩ := rl_app w2 (hr.sq s2) (by omega) b2
      have s03 : Sq F0 F3 := (hs.trans s2).fresh hw0 s3 (fun j hj q => q) (fun j hj q => by have := hm q.2; omega) (fun j hj q => q)
      have hm3 : F0.x ≤ m3 := by
        rcases n3 with ⟨q1, q2⟩ | q
        · rw [q1]; exact hm q2
        · have := (hs.trans s2).x; omega
      have hb3 := hb.sg ((s2.any No (fun q => q = m ∧ rs ≠ []) No).trans s3) (fun _ _ _ _ _ _ q => q)
      obtain ⟨v', F', m', x1, x2, x3, x4, k1, k2, k3, k4, k5⟩ := ih (at_ + (ufr (l.drop at_)).2.1) (by omega) (by omega) M (by omega) w3 hb3 r3 (by rw [List.length_append]; simp only [List.length_cons, List.length_nil]; omega) (fun _ => hm3) s03 v2 (.n (ufr (l.drop at_)).2.1) (.n 0) (.t false)
      have ed : l.drop (at_ + (ufr (l.drop at_)).2.1) = (l.drop at_).drop (ufr (l.drop at_)).2.1 := by rw [List.drop_drop]
      rw [ed] at k1 k2 k3
      refine ⟨v', F', m', x1, x2, x3, x4, fun κ => ?_, by simpa using k2, by simpa using k3, k4, k5⟩
      have k1 := k1 κ
      rw [loopNU_succ]
      generalize loopNU (u34_6 (clU dskD n) n) κ M = rec at k1 ⊢
      have ha1 := fun F f => uAdd_nn F f (a := at_) (b := (ufr (l.drop at_)).2.1) (by omega)
      simp -implicitDefEqProofs only [↓SS, Nat.zero_add, Nat.add_zero, Bool.not_true, Bool.not_false, ↓u34_6, ↓u34_0, ↓u34_1, ↓u34_2, ↓u34_3, ↓u34_4, ↓u34_5, ↓m7_mk, ↓k7_mk, ↓u34r_mk, ↓c1, ↓e2, ↓ne_00, ↓e3, ↓ha1]
      rw [k1, Nat.add_assoc]
    · rw [scan_end _ h0]
      refine ⟨v, F2, m, v2, .n (ufr (l.drop at_)).2.1, .n (ufr (l.drop at_)).2.2, .t true, fun κ => ?_, by rw [List.append_nil]; exact hr.sq s2, by rw [List.append_nil]; exact hm, hs.trans s2, w2⟩
      rw [loopNU_succ]
      generalize loopNU (u34_6 (clU dskD n) n) κ M = rec
      simp -implicitDefEqProofs only [↓SS, Nat.zero_add, Nat.add_zero, Bool.not_true, Bool.not_false, ↓u34_6, ↓u34_0, ↓u34_1, ↓u34_2, ↓u34_3, ↓u34_4, ↓u34_5, ↓m7_mk, ↓k7_mk, ↓u34r_mk, ↓c1, ↓e2, ↓ne_has, decide_eq_false h0]
/-- log.Scan. -/
theorem t34 (N : Nat) {F : FAW} {w : FV} {l : List Nat} (hN : 8 * l.length + 24 ≤ N) (h : By F w l) (hl : Bs l) (hw : Wf F) (hL : l.length ≤ 100000) :
    ∃ v F' m, clU dskD N 34 [w] F = .ok (.u [v, .n (scan l).2]) F' ∧ RL F' v (scan l).1 m ∧ ((scan l).1 ≠ [] → F.x ≤ m) ∧ Sq F F' ∧ Wf F' := by
  obtain ⟨n, rfl⟩ : ∃ n, N = n + 1 := ⟨N - 1, by omega⟩
  obtain ⟨v', F', m', x1, x2, x3, x4, k1, k2, k3, k4, k5⟩ := l34 n hw (w := w) (by omega) hl hL l.length 0 (Nat.zero_le _) (by omega) n (by omega) hw h (RL.nil F 0) (Nat.le_refl _) (fun q => absurd rfl q) (Sg.refl _ _ _ _) (.u []) (.u []) (.u []) (.u [])
  rw [List.drop_zero, Nat.zero_add] at k1
  rw [List.drop_zero, List.nil_append] at k2 k3
  refine ⟨v', F', m', ?_, k2, k3, k4, k5⟩
  rw [cl34, u34_in]
  simp -implicitDefEqProofs only [↓SS, Nat.zero_add, Nat.add_zero, Bool.not_true, Bool.not_false, ↓u34b, ↓u34_0, ↓u34_1, ↓u34_2, ↓u34_3, ↓u34_4, ↓u34_5, ↓m7_mk, ↓k7_mk, ↓u34r_mk, ↓loopU_eq, ↓k1]
-- Contains
theorem l95 (C : CU) (N : Nat) {F : FAW} {w : FV} {k : List Nat} (hk : Bs k) : ∀ (ls : List (List Nat)) (pre : List (List Nat)), Sl F w ((pre ++ ls).map FV.s) → (∀ l ∈ ls, Bs l) → (pre ++ ls).length ≤ 1000000 → ∀ (M : Nat), ls.length < M → ∀ (d e h' j : FV),
    (k ∈ ls → ∃ i x1 x2 x3 x4, ∀ κ, loopNU (u95_9 C N) κ M (.mk w (.s k) d e (.n (pre ++ ls).length) (.n pre.length) h' j) F = κ .ret (.mk w (.s k) (.n i) x1 (.n (pre ++ ls).length) x2 x3 x4) F) ∧
    (k ∉ ls → ∃ x1 x2 x3 x4, ∀ κ, loopNU (u95_9 C N) κ M (.mk w (.s k) d e (.n (pre ++ ls).length) (.n pre.length) h' j) F = κ (.exit 0) (.mk w (.s k) d x1 (.n (pre ++ ls).length) x2 x3 x4) F) := by
  intro ls
  induction ls with
  | nil =>
    intro pre hs hb hL M hM d e h' j
    obtain ⟨M, rfl⟩ : ∃ M', M = M' + 1 := ⟨M - 1, by omega⟩
    refine ⟨fun h => absurd h (by simp), fun _ => ⟨e, .n pre.length, .t false, j, fun κ => ?_⟩⟩
    rw [loopNU_succ]
    generalize loopNU (u95_9 C N) κ M = rec
    have hc := fun F f => uLss_nn F f .lss pre.length (pre ++ []).length
    simp -implicitDefEqProofs only [↓SS, Nat.zero_add, Nat.add_zero, Bool.not_true, Bool.not_false, ↓u95_9, ↓u95_0, ↓u95_1, ↓u95_2, ↓u95_3, ↓u95_4, ↓u95_5, ↓u95_6, ↓u95_7, ↓u95_8, ↓u95_10, ↓m8_mk, ↓k8_mk, ↓u95r_mk, ↓hc, decide_eq_false (show ¬ pre.length < (pre ++ []).length by simp)]
  | cons a ls ih =>
    intro pre hs hb hL M hM d e h' j
    obtain ⟨M, rfl⟩ : ∃ M', M = M' + 1 := ⟨M - 1, by omega⟩
    have hlt : pre.length < (pre ++ a :: ls).length := by rw [List.length_append]; simp
    have hc := fun F f => uLss_nn F f .lss pre.length (pre ++ a :: ls).length
    have hg := fun f : KU => hs.get (k := pre.length) (w := .s a) (by simp) (Fi.s _) f
    have hq := fun F f => uEq_ss F f false .eql hk (hb a (by simp))
    have e1 : pre ++ a :: ls = (pre ++ [a]) ++ ls := by simp
    have e2 : (pre ++ [a]).length = pre.length + 1 := by simp
    by_cases h : k = a
    · refine ⟨fun _ => ⟨pre.length, .n pre.length, .n pre.length, .t true, .t true, fun κ => ?_⟩, fun q => absurd (by simp [h]) q⟩
      rw [loopNU_succ]
      generalize loopNU (u95_9 C N) κ M = rec
      simp -implicitDefEqProofs only [↓SS, Nat.zero_add, Nat.add_zero, Bool.not_true, Bool.not_false, ↓u95_9, ↓u95_0, ↓u95_1, ↓u95_2, ↓u95_3, ↓u95_4, ↓u95_5, ↓u95_6, ↓u95_7, ↓u95_8, ↓u95_10, ↓m8_mk, ↓k8_mk, ↓u95r_mk, ↓hc, decide_eq_true hlt, ↓hg, ↓hq, decide_eq_true h]
    · have ha := fun F f => uAdd_nn F f (a := pre.length) (b := 1) (by rw [e1, List.length_append, e2] at hL; omega)
      have key := ih (pre ++ [a]) (by rw [← e1]; exact hs) (fun l hl => hb l (by simp [hl])) (by rw [← e1]; exact hL) M (by simpa using hM) d (.n pre.length) (.t true) (.t false)
      rw [← e1, e2] at key
      refine ⟨fun q => ?_, fun q => ?_⟩
      · obtain ⟨i, x1, x2, x3, x4, k1⟩ := key.1 (by simpa [h] using q)
        refine ⟨i, x1, x2, x3, x4, fun κ => ?_⟩
        have k1 := k1 κ
        rw [loopNU_succ]
        generalize loopNU (u95_9 C N) κ M = rec at k1 ⊢
        simp -implicitDefEqProofs only [↓SS, Nat.zero_add, Nat.add_zero, Bool.not_true, Bool.not_false, ↓u95_9, ↓u95_0, ↓u95_1, ↓u95_2, ↓u95_3, ↓u95_4, ↓u95_5, ↓u95_6, ↓u95_7, ↓u95_8, ↓u95_10, ↓m8_mk, ↓k8_mk, ↓u95r_mk, ↓hc, decide_eq_true hlt, ↓hg, ↓hq, decide_eq_false h, ↓ha]
        exact k1
      · obtain ⟨x1, x2, x3, x4, k1⟩ := key.2 (by simpa [h] using q)
        refine ⟨x1, x2, x3, x4, fun κ => ?_⟩
        have k1 := k1 κ
        rw [loopNU_succ]
        generalize loopNU (u95_9 C N) κ M = rec at k1 ⊢
        simp -implicitDefEqProofs only [↓SS, Nat.zero_add, Nat.add_zero, Bool.not_true, Bool.not_false, ↓u95_9, ↓u95_0, ↓u95_1, ↓u95_2, ↓u95_3, ↓u95_4, ↓u95_5, ↓u95_6, ↓u95_7, ↓u95_8, ↓u95_10, ↓m8_mk, ↓k8_mk, ↓u95r_mk, ↓hc, decide_eq_true hlt, ↓hg, ↓hq, decide_eq_false h, ↓ha]
        exact k1
theorem t89 (N : Nat) {F : FAW} {w : FV} {k : List Nat} (hk : Bs k) {ls : List (List Nat)} (hN : ls.length + 4 ≤ N) (hs : Sl F w (ls.map FV.s)) (hb : ∀ l ∈ ls, Bs l) (hL : ls.length ≤ 1000000) : clU dskD N 89 [w, .s k] F = .ok (.t (decide (k ∈ ls))) F := by
  obtain ⟨n, rfl⟩ : ∃ n, N = n + 2 := ⟨N - 2, by omega⟩
  have hlen := hs.len
  rw [List.length_map] at hlen
  have key := l95 (clU dskD n) n hk ls [] hs hb hL n (by omega) (.n 0) (.u []) (.u []) (.u [])
  have z0 : FV.n 0 = iv 0 := rfl
  rw [cl89, u89_in]
  by_cases h : k ∈ ls
  · obtain ⟨i, x1, x2, x3, x4, k1⟩ := key.1 h
    have k1 : ∀ κ, loopNU (u95_9 (clU dskD n) n) κ n (.mk w (.s k) (.n 0) (.u []) (.n ls.length) (.n 0) (.u []) (.u [])) F = κ .ret (.mk w (.s k) (.n i) x1 (.n ls.length) x2 x3 x4) F := k1
    have e1 : clU dskD (n + 1) 95 [w, .s k] F = .ok (.n i) F := by
      rw [cl95, u95_in]
      simp -implicitDefEqProofs only [↓SS, Nat.zero_add, Nat.add_zero, Bool.not_true, Bool.not_false, ↓u95b, ↓u95_0, ↓u95_1, ↓u95_2, ↓u95_3, ↓u95_4, ↓u95_5, ↓u95_6, ↓u95_7, ↓u95_8, ↓u95_10, ↓m8_mk, ↓k8_mk, ↓u95r_mk, ↓hlen, ↓loopU_eq, ↓k1]
    have hg := fun F f => uGeq_nn F f .geq i 0
    simp -implicitDefEqProofs only [↓SS, Nat.zero_add, Nat.add_zero, Bool.not_true, Bool.not_false, ↓u89b, ↓u89_0, ↓u89_1, ↓m3_mk, ↓k3_mk, ↓u89r_mk, ↓e1, ↓hg, decide_eq_true (Nat.zero_le i), decide_eq_true h]
  · obtain ⟨x1, x2, x3, x4, k1⟩ := key.2 h
    have k1 : ∀ κ, loopNU (u95_9 (clU dskD n) n) κ n (.mk w (.s k) (.n 0) (.u []) (.n ls.length) (.n 0) (.u []) (.u [])) F = κ (.exit 0) (.mk w (.s k) (.n 0) x1 (.n ls.length) x2 x3 x4) F := k1
    have be0 : Nat.beq 0 0 = true := rfl
    have e1 : clU dskD (n + 1) 95 [w, .s k] F = .ok (.i .i64 (-1)) F := by
      rw [cl95, u95_in]
      simp -implicitDefEqProofs only [↓SS, Nat.zero_add, Nat.add_zero, Bool.not_true, Bool.not_false, ↓u95b, ↓u95_0, ↓u95_1, ↓u95_2, ↓u95_3, ↓u95_4, ↓u95_5, ↓u95_6, ↓u95_7, ↓u95_8, ↓u95_10, ↓m8_mk, ↓k8_mk, ↓u95r_mk, ↓hlen, ↓loopU_eq, ↓k1, be0]
    have hg : ∀ (F : FAW) (f : KU), uCmp (fun a b => Nat.ble b a) .geq (.i .i64 (-1)) (.n 0) F f = f (.t false) F := fun F f => by
      have := ge_z F f (-1) 0
      rw [decide_eq_false (by decide)] at this
      exact this
    simp -implicitDefEqProofs only [↓SS, Nat.zero_add, Nat.add_zero, Bool.not_true, Bool.not_false, ↓u89b, ↓u89_0, ↓u89_1, ↓m3_mk, ↓k3_mk, ↓u89r_mk, ↓e1, ↓hg, decide_eq_false h]
end Go.Proofs.Ythclmjelknibhaa.Ev
/- A log on a disk: drop, packs, Count, Append. -/
namespace Go.Proofs.Ythclmjelknibhaa.Ev
open Go Go.RowKit
set_option linter.unusedVariables false
set_option linter.constructorNameAsVariable false
set_option linter.unusedSimpArgs false
set_option linter.unusedSectionVars false

abbrev lgN : List Nat := [108, 111, 103]
abbrev nwN : List Nat := [110, 101, 119]
theorem lgN_nm : Nm lgN := nm_lit rfl (by decide)
theorem nwN_nm : Nm nwN := nm_lit rfl (by decide)
structure Lg where
  D : Dk
  n : Nat
  size : Nat
structure LK (F : FAW) (x d m : Nat) (L : Lg) : Prop where
  row : F.row x = some ([.p d 0, .n L.n, .n L.size], 100, 3, x, false)
  fam : F.fam x = some (false, 3)
  dk : DK F d m L.D
theorem LK.ne {F : FAW} {x d m : Nat} {L : Lg} (h : LK F x d m L) : x ≠ d := by
  intro e
  have := h.dk.row
  rw [← e, h.row] at this
  simp at this
theorem LK.not1 {F : FAW} {x d m : Nat} {L : Lg} (h : LK F x d m L) : ∀ i r e q o, F.row i = some (r, e, 1, q, o) → ¬ (i = x ∨ i = d) := by
  intro i r e q o hr hi
  rcases hi with rfl | rfl
  · rw [h.row] at hr
    simp only [Option.some.injEq, Prod.mk.injEq] at hr
    omega
  · exact h.dk.not1 _ _ _ _ _ hr rfl
theorem LK.sq {F F' : FAW} {x d m : Nat} {L : Lg} (h : LK F x d m L) (hs : Sq F F') : LK F' x d m L := ⟨hs.row _ _ (fun q => q) h.row, hs.fam _ _ (fun q => q) h.fam, h.dk.sq hs⟩
/-- A deed of the disk. -/
theorem LK.on {F F' : FAW} {x d m : Nat} {L : Lg} (h : LK F x d m L) {D' : Dk} (hs : Sg F F' (· = d) No (· = m)) (k : DK F' d m D') : LK F' x d m { L with D := D' } :=
  ⟨hs.row _ _ h.ne h.row, hs.fam _ _ (fun q => q) h.fam, k⟩
theorem LK.put {F : FAW} {x d m : Nat} {L : Lg} (h : LK F x d m L) (n size : Nat) : LK (F.put x [.p d 0, .n n, .n size]) x d m ⟨L.D, n, size⟩ :=
  ⟨by rw [row_put, if_pos rfl, h.row]; rfl, by rw [fam_put]; exact h.fam, h.dk.sg (A := fun j => j = x) (B := No) (M := No) (Sg.put rfl) (fun i r e q o hr hi => h.not1 i r e q o hr (.inl hi)) (fun q => h.ne q.symm) (fun q => q) (fun q => q)⟩
section
variable {F : FAW} {x d m : Nat} {L : Lg} (h : LK F x d m L)
include h
theorem LK.g0 (f : KU) : uGet 0 (.p x 0) F f = f (.p d 0) F := uGet_row f h.row rfl (Fi.p _ _)
theorem LK.g1 (f : KU) : uGet 1 (.p x 0) F f = f (.n L.n) F := uGet_row f h.row rfl (Fi.n _)
theorem LK.g2 (f : KU) : uGet 2 (.p x 0) F f = f (.n L.size) F := uGet_row f h.row rfl (Fi.n _)
theorem LK.l2 (f : KU) : uLd none (.p x 2) F f = f (.n L.size) F := uLd_row f h.row rfl (Fi.n _)
theorem LK.s1 (k : Nat) (f : KU) : uSt 1 (.p x 1) (.n k) F f = f (.u []) (F.put x [.p d 0, .n k, .n L.size]) := uSt_row f h.row h.fam (by simp) rfl (Fi.n _) (Fi.n _)
theorem LK.s2 (k : Nat) (f : KU) : uSt 1 (.p x 2) (.n k) F f = f (.u []) (F.put x [.p d 0, .n L.n, .n k]) := uSt_row f h.row h.fam (by simp) rfl (Fi.n _) (Fi.n _)
end
abbrev AL (x d : Nat) : Nat → Prop := fun j => j = x ∨ j = d
theorem Sg.al {F F' : FAW} {x d m : Nat} (h : Sg F F' (· = d) No (· = m)) : Sg F F' (AL x d) No (· = m) := h.mono (fun _ q => .inr q) (fun _ q => q) (fun _ q => q)
theorem mem_srt {k : List Nat} {ls : List (List Nat)} (hk : Bs k) (hb : ∀ l ∈ ls, Bs l) : k ∈ srt ls ↔ k ∈ ls := by
  have key : ∀ {l : List Nat}, Bs l → (u8s l).map UInt8.toNat = l := fun {l} hl => by
    unfold u8s
    rw [List.map_map]
    conv => rhs; rw [← List.map_id l]
    refine List.map_congr_left fun x hx => ?_
    have := hl x hx
    simp only [Function.comp, id]
    exact UInt8.toNat_ofNat_of_lt' this
  unfold srt
  rw [List.mem_map]
  constructor
  · rintro ⟨a, ha, rfl⟩
    have := (List.mergeSort_perm (ls.map u8s) _).subset ha
    obtain ⟨l, hl, rfl⟩ := List.mem_map.mp this
    rw [key (hb l hl)]; exact hl
  · intro h
    exact ⟨u8s k, (List.mergeSort_perm (ls.map u8s) _).symm.subset (List.mem_map.mpr ⟨k, h, rfl⟩), key hk⟩
theorem srt_bs {ls : List (List Nat)} : ∀ l ∈ srt ls, Bs l := by
  intro l hl
  unfold srt at hl
  obtain ⟨a, _, rfl⟩ := List.mem_map.mp hl
  intro x hx
  obtain ⟨b, _, rfl⟩ := List.mem_map.mp hx
  exact b.toNat_lt
theorem srt_len (ls : List (List Nat)) : (srt ls).length = ls.length := by
  unfold srt sortB
  rw [List.length_map, (List.mergeSort_perm _ _).length_eq, List.length_map]
def Dk.drop (D : Dk) : Dk × Nat := if nwN ∈ nms D.fs then D.remove nwN else (D, 0)
theorem nms_bs {D : Dk} (h : D.Ok) : ∀ l ∈ nms D.fs, Bs l := by
  intro l hl
  obtain ⟨f, hf, rfl⟩ := List.mem_map.mp hl
  exact (h.nm f hf).1
/-- Log.drop. -/
theorem t74 (N : Nat) (hN : 1010 ≤ N) {F : FAW} (hw : Wf F) {x d m : Nat} {L : Lg} (h : LK F x d m L) (hl : L.D.fs.length ≤ 1000) :
    ∃ F', clU dskD N 74 [.p x 0] F = .ok (.n L.D.drop.2) F' ∧ LK F' x d m { L with D := L.D.drop.1 } ∧ Sg F F' (· = d) No (· = m) ∧ Wf F' := by
  obtain ⟨n, rfl⟩ : ∃ n, N = n + 1 := ⟨N - 1, by omega⟩
  obtain ⟨v, F1, e1, b1, s1, w1⟩ := names_okD n (by omega) hw h.dk hl
  have hlen : (srt (nms L.D.fs)).length = L.D.fs.length := by rw [srt_len]; simp [nms]
  have e2 := t89 n nwN_nm.1 (by rw [hlen]; omega) b1 srt_bs (by rw [hlen]; omega)
  have h1 := h.sq s1
  have hmem := mem_srt nwN_nm.1 (nms_bs h.dk.ok)
  by_cases hn : nwN ∈ nms L.D.fs
  · rw [decide_eq_true (hmem.mpr hn)] at e2
    obtain ⟨F2, e3, k3, s3, w3⟩ := remove_ok n (by omega) w1 h1.dk nwN_nm
    have hd : L.D.drop = L.D.remove nwN := by unfold Dk.drop; rw [if_pos hn]
    refine ⟨F2, ?_, by rw [hd]; exact h1.on s3 k3, (s1.any _ _ _).trans s3, w3⟩
    rw [cl74, u74_in, hd]
    simp -implicitDefEqProofs only [↓SS, Nat.zero_add, Nat.add_zero, Bool.not_true, Bool.not_false, ↓u74b, ↓u74_0, ↓u74_1, ↓u74_2, ↓u74_3, ↓u74_4, ↓m3_mk, ↓k3_mk, ↓u74r_mk, ↓h.g0, ↓e1, ↓e2, ↓h1.g0, ↓e3]
  · rw [decide_eq_false (fun q => hn (hmem.mp q))] at e2
    have hd : L.D.drop = (L.D, 0) := by unfold Dk.drop; rw [if_neg hn]
    refine ⟨F1, ?_, by rw [hd]; exact h1, s1.any _ _ _, w1⟩
    rw [cl74, u74_in, hd]
    simp -implicitDefEqProofs only [↓SS, Nat.zero_add, Nat.add_zero, Bool.not_true, Bool.not_false, ↓u74b, ↓u74_0, ↓u74_1, ↓u74_2, ↓u74_3, ↓u74_4, ↓m3_mk, ↓k3_mk, ↓u74r_mk, ↓h.g0, ↓e1, ↓e2]
def Dk.packs (D : Dk) (b : List Nat) : Dk × Nat :=
  if (D.append nwN b).2 ≠ 0 then D.append nwN b else
  if ((D.append nwN b).1.sync nwN).2 ≠ 0 then (D.append nwN b).1.sync nwN else ((D.append nwN b).1.sync nwN).1.rename nwN lgN
/-- Log.packs. -/
theorem t76 (N : Nat) (hN : 20 ≤ N) {F : FAW} (hw : Wf F) {x d m : Nat} {L : Lg} (h : LK F x d m L) {vb : FV} {b : List Nat} (hb : By F vb b) :
    ∃ F', clU dskD N 76 [.p x 0, vb] F = .ok (.n (L.D.packs b).2) F' ∧ LK F' x d m { L with D := (L.D.packs b).1 } ∧ Sg F F' (· = d) No (· = m) ∧ Wf F' := by
  obtain ⟨n, rfl⟩ : ∃ n, N = n + 1 := ⟨N - 1, by omega⟩
  obtain ⟨F1, e1, k1, s1, w1⟩ := append_ok n (by omega) hw h.dk nwN_nm hb
  have h1 := h.on s1 k1
  by_cases q1 : (L.D.append nwN b).2 ≠ 0
  · have hp : L.D.packs b = L.D.append nwN b := by unfold Dk.packs; rw [if_pos q1]
    refine ⟨F1, ?_, by rw [hp]; exact h1, s1, w1⟩
    rw [cl76, u76_in, hp]
    simp -implicitDefEqProofs only [↓SS, Nat.zero_add, Nat.add_zero, Bool.not_true, Bool.not_false, ↓u76b, ↓u76_0, ↓u76_1, ↓u76_2, ↓u76_3, ↓u76_4, ↓u76_5, ↓u76_6, ↓u76_7, ↓u76_8, ↓u76_9, ↓m7_mk, ↓k7_mk, ↓u76r_mk, ↓h.g0, ↓e1, ↓ne_has, decide_eq_false q1]
  · have q1' : (L.D.append nwN b).2 = 0 := by omega
    obtain ⟨F2, e2, k2, s2, w2⟩ := sync_ok n (by omega) w1 k1 nwN_nm
    have h2 := h1.on s2 k2
    by_cases q2 : ((L.D.append nwN b).1.sync nwN).2 ≠ 0
    · have hp : L.D.packs b = (L.D.append nwN b).1.sync nwN := by unfold Dk.packs; rw [if_neg q1, if_pos q2]
      refine ⟨F2, ?_, by rw [hp]; exact h2, s1.trans s2, w2⟩
      rw [cl76, u76_in, hp]
      simp -implicitDefEqProofs only [↓SS, Nat.zero_add, Nat.add_zero, Bool.not_true, Bool.not_false, ↓u76b, ↓u76_0, ↓u76_1, ↓u76_2, ↓u76_3, ↓u76_4, ↓u76_5, ↓u76_6, ↓u76_7, ↓u76_8, ↓u76_9, ↓m7_mk, ↓k7_mk, ↓u76r_mk, ↓h.g0, ↓e1, ↓ne_has, decide_eq_true q1', ↓h1.g0, ↓e2, decide_eq_false q2]
    · have q2' : ((L.D.append nwN b).1.sync nwN).2 = 0 := by omega
      obtain ⟨F3, e3, k3, s3, w3⟩ := rename_ok n (by omega) w2 k2 nwN_nm lgN_nm
      have hp : L.D.packs b = ((L.D.append nwN b).1.sync nwN).1.rename nwN lgN := by unfold Dk.packs; rw [if_neg q1, if_neg q2]
      refine ⟨F3, ?_, by rw [hp]; exact h2.on s3 k3, (s1.trans s2).trans s3, w3⟩
      rw [cl76, u76_in, hp]
      simp -implicitDefEqProofs only [↓SS, Nat.zero_add, Nat.add_zero, Bool.not_true, Bool.not_false, ↓u76b, ↓u76_0, ↓u76_1, ↓u76_2, ↓u76_3, ↓u76_4, ↓u76_5, ↓u76_6, ↓u76_7, ↓u76_8, ↓u76_9, ↓m7_mk, ↓k7_mk, ↓u76r_mk, ↓h.g0, ↓e1, ↓ne_has, decide_eq_true q1', ↓h1.g0, ↓e2, decide_eq_true q2', ↓h2.g0, ↓e3]
/-- Log.Count. -/
theorem t39 (N : Nat) (hN : 1 ≤ N) {F : FAW} {x d m : Nat} {L : Lg} (h : LK F x d m L) : clU dskD N 39 [.p x 0] F = .ok (.n L.n) F := by
  obtain ⟨n, rfl⟩ : ∃ n, N = n + 1 := ⟨N - 1, by omega⟩
  rw [cl39, u39_in]
  have hn := fun F f => uEqN_pp false x 0 F f
  simp -implicitDefEqProofs only [↓SS, Nat.zero_add, Nat.add_zero, Bool.not_true, Bool.not_false, ↓u39b, ↓u39_0, ↓u39_1, ↓u39_2, ↓u39_3, ↓u39_4, ↓m3_mk, ↓k3_mk, ↓u39r_mk, ↓hn, ↓h.g1]
def Lg.append (L : Lg) (b : List Nat) : Lg × Nat :=
  if 200 ≤ L.n then (L, 17) else if L.D.dead then (L, 18) else if L.D.room - tot L.D.fs < 2 * (frm b).length + L.size then (L, 17) else
  if (L.D.append lgN (frm b)).2 ≠ 0 then ({ L with D := (L.D.append lgN (frm b)).1 }, (L.D.append lgN (frm b)).2) else
  if ((L.D.append lgN (frm b)).1.sync lgN).2 ≠ 0 then ({ L with D := ((L.D.append lgN (frm b)).1.sync lgN).1 }, ((L.D.append lgN (frm b)).1.sync lgN).2) else
  (⟨((L.D.append lgN (frm b)).1.sync lgN).1, L.n + 1, L.size + (frm b).length⟩, 0)
/-- Log.Append. -/
theorem t38 (N : Nat) {F : FAW} (hw : Wf F) {x d m : Nat} {L : Lg} (h : LK F x d m L) {vb : FV} {b : List Nat} (hN : 8 * b.length + 40 ≤ N) (hb : By F vb b) (bb : Bs b) (hL : b.length ≤ 100000) (hsz : L.size ≤ 1000000) :
    ∃ F', clU dskD N 38 [.p x 0, vb] F = .ok (.n (L.append b).2) F' ∧ LK F' x d m (L.append b).1 ∧ Sg F F' (AL x d) No (· = m) ∧ Wf F' := by
  obtain ⟨n, rfl⟩ : ∃ n, N = n + 1 := ⟨N - 1, by omega⟩
  have hn := fun F f => uEqN_pp false x 0 F f
  obtain ⟨v1, F1, m1, e1, b1, x1, s1, w1⟩ := t75 n (by omega) hb bb hw (by omega)
  have h1 := h.sq s1
  have hfl := frm_len b
  have hge := fun F f => uGeq_nn F f .geq L.n 200
  have hq := fun F f => uEq_nn F f false .eql (frm b).length 0
  have s1' : Sg F F1 (AL x d) No (· = m) := s1.any _ _ _
  by_cases q1 : 200 ≤ L.n
  · have hp : L.append b = (L, 17) := by unfold Lg.append; rw [if_pos q1]
    refine ⟨F1, ?_, by rw [hp]; exact h1, s1', w1⟩
    rw [cl38, u38_in, hp]
    simp -implicitDefEqProofs only [↓SS, Nat.zero_add, Nat.add_zero, Bool.not_true, Bool.not_false, ↓u38b, ↓u38_0, ↓u38_1, ↓u38_2, ↓u38_3, ↓u38_4, ↓u38_5, ↓u38_6, ↓u38_7, ↓u38_8, ↓u38_9, ↓u38_10, ↓u38_11, ↓u38_12, ↓u38_13, ↓u38_14, ↓u38_15, ↓u38_16, ↓u38_17, ↓u38_18, ↓u38_19, ↓u38_20, ↓u38_21, ↓u38_22, ↓u38_23, ↓u38_24, ↓m12_mk, ↓k12_mk, ↓u38r_mk, ↓hn, ↓e1, ↓h1.g1, ↓hge, decide_eq_true q1]
  have e2 := dead_ok n (by omega) h1.dk
  by_cases q2 : L.D.dead = true
  · have hp : L.append b = (L, 18) := by unfold Lg.append; rw [if_neg q1, if_pos q2]
    rw [q2] at e2
    refine ⟨F1, ?_, by rw [hp]; exact h1, s1', w1⟩
    rw [cl38, u38_in, hp]
    simp -implicitDefEqProofs only [↓SS, Nat.zero_add, Nat.add_zero, Bool.not_true, Bool.not_false, ↓u38b, ↓u38_0, ↓u38_1, ↓u38_2, ↓u38_3, ↓u38_4, ↓u38_5, ↓u38_6, ↓u38_7, ↓u38_8, ↓u38_9, ↓u38_10, ↓u38_11, ↓u38_12, ↓u38_13, ↓u38_14, ↓u38_15, ↓u38_16, ↓u38_17, ↓u38_18, ↓u38_19, ↓u38_20, ↓u38_21, ↓u38_22, ↓u38_23, ↓u38_24, ↓m12_mk, ↓k12_mk, ↓u38r_mk, ↓hn, ↓e1, ↓h1.g1, ↓hge, decide_eq_false q1, ↓b1.len, ↓hq, decide_eq_false (show ¬ (frm b).length = 0 by omega), ↓h1.g0, ↓e2]
  have q2' : L.D.dead = false := by simpa using q2
  rw [q2'] at e2
  have e3 := left_okD n (by omega) h1.dk
  have s3 : Sq F1 (F1.bump (1 + L.D.fs.length)) := Sq.bump _ _
  have h3 := h1.sq s3
  have w3 := w1.bump (1 + L.D.fs.length)
  have hmul := fun F f => uMul_nn F f (a := 2) (b := (frm b).length) (by omega)
  have hadd := fun F f => uAdd_nn F f (a := 2 * (frm b).length) (b := L.size) (by omega)
  have hlt := fun F f => uLss_nn F f .lss (L.D.room - tot L.D.fs) (2 * (frm b).length + L.size)
  by_cases q3 : L.D.room - tot L.D.fs < 2 * (frm b).length + L.size
  · have hp : L.append b = (L, 17) := by unfold Lg.append; rw [if_neg q1, if_neg q2, if_pos q3]
    refine ⟨_, ?_, by rw [hp]; exact h3, s1'.trans (s3.any _ _ _), w3⟩
    rw [cl38, u38_in, hp]
    simp -implicitDefEqProofs only [↓SS, Nat.zero_add, Nat.add_zero, Bool.not_true, Bool.not_false, ↓u38b, ↓u38_0, ↓u38_1, ↓u38_2, ↓u38_3, ↓u38_4, ↓u38_5, ↓u38_6, ↓u38_7, ↓u38_8, ↓u38_9, ↓u38_10, ↓u38_11, ↓u38_12, ↓u38_13, ↓u38_14, ↓u38_15, ↓u38_16, ↓u38_17, ↓u38_18, ↓u38_19, ↓u38_20, ↓u38_21, ↓u38_22, ↓u38_23, ↓u38_24, ↓m12_mk, ↓k12_mk, ↓u38r_mk, ↓hn, ↓e1, ↓h1.g1, ↓hge, decide_eq_false q1, ↓b1.len, ↓hq, decide_eq_false (show ¬ (frm b).length = 0 by omega), ↓h1.g0, ↓e2, ↓hmul, ↓h1.l2, ↓hadd, ↓e3, ↓hlt, decide_eq_true q3, ↓h3.l2, ↓veqU_n]
  have b3 := b1.by.sq s3
  obtain ⟨F4, e4, k4, s4, w4⟩ := append_ok n (by omega) w3 h3.dk lgN_nm b3
  have h4 := h3.on s4 k4
  have s04 : Sg F F4 (AL x d) No (· = m) := (s1'.trans (s3.any _ _ _)).trans s4.al
  by_cases q4 : (L.D.append lgN (frm b)).2 ≠ 0
  · have hp : L.append b = ({ L with D := (L.D.append lgN (frm b)).1 }, (L.D.append lgN (frm b)).2) := by unfold Lg.append; rw [if_neg q1, if_neg q2, if_neg q3, if_pos q4]
    refine ⟨F4, ?_, by rw [hp]; exact h4, s04, w4⟩
    rw [cl38, u38_in, hp]
    simp -implicitDefEqProofs only [↓SS, Nat.zero_add, Nat.add_zero, Bool.not_true, Bool.not_false, ↓u38b, ↓u38_0, ↓u38_1, ↓u38_2, ↓u38_3, ↓u38_4, ↓u38_5, ↓u38_6, ↓u38_7, ↓u38_8, ↓u38_9, ↓u38_10, ↓u38_11, ↓u38_12, ↓u38_13, ↓u38_14, ↓u38_15, ↓u38_16, ↓u38_17, ↓u38_18, ↓u38_19, ↓u38_20, ↓u38_21, ↓u38_22, ↓u38_23, ↓u38_24, ↓m12_mk, ↓k12_mk, ↓u38r_mk, ↓hn, ↓e1, ↓h1.g1, ↓hge, decide_eq_false q1, ↓b1.len, ↓hq, decide_eq_false (show ¬ (frm b).length = 0 by omega), ↓h1.g0, ↓e2, ↓hmul, ↓h1.l2, ↓hadd, ↓e3, ↓hlt, decide_eq_false q3, ↓h3.l2, ↓veqU_n, ↓h3.g0, ↓e4, ↓ne_has, decide_eq_false q4]
  have q4' : (L.D.append lgN (frm b)).2 = 0 := by omega
  obtain ⟨F5, e5, k5, s5, w5⟩ := sync_ok n (by omega) w4 k4 lgN_nm
  have h5 := h4.on s5 k5
  have s05 := s04.trans s5.al
  by_cases q5 : ((L.D.append lgN (frm b)).1.sync lgN).2 ≠ 0
  · have hp : L.append b = ({ L with D := ((L.D.append lgN (frm b)).1.sync lgN).1 }, ((L.D.append lgN (frm b)).1.sync lgN).2) := by unfold Lg.append; rw [if_neg q1, if_neg q2, if_neg q3, if_neg q4, if_pos q5]
    refine ⟨F5, ?_, by rw [hp]; exact h5, s05, w5⟩
    rw [cl38, u38_in, hp]
    simp -implicitDefEqProofs only [↓SS, Nat.zero_add, Nat.add_zero, Bool.not_true, Bool.not_false, ↓u38b, ↓u38_0, ↓u38_1, ↓u38_2, ↓u38_3, ↓u38_4, ↓u38_5, ↓u38_6, ↓u38_7, ↓u38_8, ↓u38_9, ↓u38_10, ↓u38_11, ↓u38_12, ↓u38_13, ↓u38_14, ↓u38_15, ↓u38_16, ↓u38_17, ↓u38_18, ↓u38_19, ↓u38_20, ↓u38_21, ↓u38_22, ↓u38_23, ↓u38_24, ↓m12_mk, ↓k12_mk, ↓u38r_mk, ↓hn, ↓e1, ↓h1.g1, ↓hge, decide_eq_false q1, ↓b1.len, ↓hq, decide_eq_false (show ¬ (frm b).length = 0 by omega), ↓h1.g0, ↓e2, ↓hmul, ↓h1.l2, ↓hadd, ↓e3, ↓hlt, decide_eq_false q3, ↓h3.l2, ↓veqU_n, ↓h3.g0, ↓e4, ↓ne_has, decide_eq_true q4', ↓h4.g0, ↓e5, decide_eq_false q5]
  have q5' : ((L.D.append lgN (frm b)).1.sync lgN).2 = 0 := by omega
  have hp : L.append b = (⟨((L.D.append lgN (frm b)).1.sync lgN).1, L.n + 1, L.size + (frm b).length⟩, 0) := by unfold Lg.append; rw [if_neg q1, if_neg q2, if_neg q3, if_neg q4, if_neg q5]
  have h6 := h5.put (L.n + 1) L.size
  have h7 := h6.put (L.n + 1) (L.size + (frm b).length)
  have a1 := fun F f => uAdd_nn F f (a := L.n) (b := 1) (by omega)
  have a2 := fun F f => uAdd_nn F f (a := L.size) (b := (frm b).length) (by omega)
  refine ⟨(F5.put x [.p d 0, .n (L.n + 1), .n L.size]).put x [.p d 0, .n (L.n + 1), .n (L.size + (frm b).length)], ?_, by rw [hp]; exact h7, (s05.trans (Sg.put (.inl rfl))).trans (Sg.put (.inl rfl)), (w5.put _ _).put _ _⟩
  rw [cl38, u38_in, hp]
  simp -implicitDefEqProofs only [↓SS, Nat.zero_add, Nat.add_zero, Bool.not_true, Bool.not_false, ↓u38b, ↓u38_0, ↓u38_1, ↓u38_2, ↓u38_3, ↓u38_4, ↓u38_5, ↓u38_6, ↓u38_7, ↓u38_8, ↓u38_9, ↓u38_10, ↓u38_11, ↓u38_12, ↓u38_13, ↓u38_14, ↓u38_15, ↓u38_16, ↓u38_17, ↓u38_18, ↓u38_19, ↓u38_20, ↓u38_21, ↓u38_22, ↓u38_23, ↓u38_24, ↓m12_mk, ↓k12_mk, ↓u38r_mk, ↓hn, ↓e1, ↓h1.g1, ↓hge, decide_eq_false q1, ↓b1.len, ↓hq, decide_eq_false (show ¬ (frm b).length = 0 by omega), ↓h1.g0, ↓e2, ↓hmul, ↓h1.l2, ↓hadd, ↓e3, ↓hlt, decide_eq_false q3, ↓h3.l2, ↓veqU_n, ↓h3.g0, ↓e4, ↓ne_has, decide_eq_true q4', ↓h4.g0, ↓e5, decide_eq_true q5', ↓h5.g1, ↓a1, ↓h5.s1, ↓h6.g2, ↓a2, ↓h6.s2]
end Go.Proofs.Ythclmjelknibhaa.Ev
/- A log on a disk: Pack, Open. -/
namespace Go.Proofs.Ythclmjelknibhaa.Ev
open Go Go.RowKit
set_option linter.unusedVariables false
set_option linter.constructorNameAsVariable false
set_option linter.unusedSimpArgs false
set_option linter.unusedSectionVars false

theorem fput_len : ∀ (fs : List File) (g : File), (fput fs g).length ≤ fs.length + 1
  | [], g => by simp [fput]
  | f :: fs, g => by
    simp only [fput]
    split
    · simp
    · have := fput_len fs g; simp; omega
theorem fdel_len (fs : List File) (k : List Nat) : (fdel fs k).length ≤ fs.length := (fdel_sub fs k).length_le
theorem doing_len {D : Dk} {w h : Dk → Dk} {c : Nat} (hw : ∀ D, (w D).fs.length ≤ D.fs.length + c) (hh : ∀ D, (h D).fs.length ≤ D.fs.length + c) : (D.doing w h).1.fs.length ≤ D.fs.length + c := by
  unfold Dk.doing
  split
  · show ((h D).fs.map _).length ≤ _
    rw [List.length_map]; exact hh D
  · have := hw D.tick
    rw [(tick_fs D).1] at this; exact this
theorem append_len (D : Dk) (k b : List Nat) : (D.append k b).1.fs.length ≤ D.fs.length + 1 := by
  unfold Dk.append
  split
  · simp
  · split
    · simp
    · exact doing_len (fun D => fput_len _ _) (fun D => fput_len _ _)
theorem sync_len (D : Dk) (k : List Nat) : (D.sync k).1.fs.length ≤ D.fs.length + 1 := by
  unfold Dk.sync
  split
  · simp
  · exact doing_len (fun D => fput_len _ _) (fun D => Nat.le_succ _)
theorem rename_len (D : Dk) (k t : List Nat) : (D.rename k t).1.fs.length ≤ D.fs.length + 1 := by
  unfold Dk.rename
  split
  · simp
  · exact doing_len (fun D => by have := fput_len (fdel D.fs k) ⟨t, (D.of k).1, (D.of k).2⟩; have := fdel_len D.fs k; show (fput (fdel D.fs k) ⟨t, (D.of k).1, (D.of k).2⟩).length ≤ _; omega) (fun D => Nat.le_succ _)
theorem packs_len (D : Dk) (b : List Nat) : (D.packs b).1.fs.length ≤ D.fs.length + 3 := by
  have h1 := append_len D nwN b
  have h2 := sync_len (D.append nwN b).1 nwN
  have h3 := rename_len ((D.append nwN b).1.sync nwN).1 nwN lgN
  unfold Dk.packs
  split
  · omega
  · split <;> omega
def frms : List (List Nat) → List Nat
  | [] => []
  | r :: rs => frm r ++ frms rs
def Lg.pack (L : Lg) (rs : List (List Nat)) : Lg × Nat :=
  if 200 < rs.length then (L, 17) else
  if (L.D.packs (frms rs)).2 = 0 then (⟨(L.D.packs (frms rs)).1, rs.length, (frms rs).length⟩, 0) else
  if (L.D.packs (frms rs)).2 = 18 then ({ L with D := (L.D.packs (frms rs)).1 }, 18) else
  ({ L with D := (L.D.packs (frms rs)).1.drop.1 }, (L.D.packs (frms rs)).2)
/-- Records that may be: bytes, not too many. -/
def Rb (rs : List (List Nat)) (B : Nat) : Prop := ∀ r ∈ rs, Bs r ∧ r.length ≤ B
theorem l40 (n B : Nat) (hB : B ≤ 100000) (hn : 8 * B + 40 ≤ n) {F0 : FAW} (hw0 : Wf F0) {va vk vc : FV} : ∀ (rs pre : List (List Nat)), Rb rs B → ∀ {F : FAW}, RS F vk (pre ++ rs) → Wf F → ∀ {v : FV} {l : List Nat} {m : Nat}, BB F v l m → (v ≠ .nl → F0.x ≤ m) → Sq F0 F → l.length + (frms rs).length ≤ 10000000 → (pre ++ rs).length ≤ 1000000 → ∀ (M : Nat), rs.length < M → ∀ (d f g h i j o p q r s : FV),
    ∃ v' F' m', ∃ x1 x2 x3 x4 x5, (∀ κ, loopNU (u40_18 (clU dskD n) n) κ M (.mk va vc d v f g h i j vk (.n (pre ++ rs).length) (.n pre.length) o p q r s) F = κ (.exit 1) (.mk va vc d v' x1 x2 h i j vk (.n (pre ++ rs).length) x3 x4 x5 q r s) F') ∧ BB F' v' (l ++ frms rs) m' ∧ Sq F0 F' ∧ Wf F' := by
  intro rs
  induction rs with
  | nil =>
    intro pre hb F hr hw v l m hv hm hs hl hL M hM d f g h i j o p q r s
    obtain ⟨M, rfl⟩ : ∃ M', M = M' + 1 := ⟨M - 1, by omega⟩
    refine ⟨v, F, m, f, g, .n pre.length, .t false, p, fun κ => ?_, by simpa [frms] using hv, hs, hw⟩
    rw [loopNU_succ]
    generalize loopNU (u40_18 (clU dskD n) n) κ M = rec
    have hc := fun F f => uLss_nn F f .lss pre.length (pre ++ []).length
    simp -implicitDefEqProofs only [↓SS, Nat.zero_add, Nat.add_zero, Bool.not_true, Bool.not_false, ↓u40_18, ↓u40_0, ↓u40_1, ↓u40_2, ↓u40_3, ↓u40_4, ↓u40_5, ↓u40_6, ↓u40_7, ↓u40_8, ↓u40_9, ↓u40_10, ↓u40_11, ↓u40_12, ↓u40_13, ↓u40_14, ↓u40_15, ↓u40_16, ↓u40_17, ↓u40_19, ↓u40_20, ↓u40_21, ↓u40_22, ↓u40_23, ↓u40_24, ↓u40_25, ↓u40_26, ↓u40_27, ↓m17_mk, ↓k17_mk, ↓u40r_mk, ↓hc, decide_eq_false (show ¬ pre.length < (pre ++ []).length by simp)]
  | cons a rs ih =>
    intro pre hb F hr hw v l m hv hm hs hl hL M hM d f g h i j o p q r s
    obtain ⟨M, rfl⟩ : ∃ M', M = M' + 1 := ⟨M - 1, by omega⟩
    have hlt : pre.length < (pre ++ a :: rs).length := by rw [List.length_append]; simp
    have hc := fun F f => uLss_nn F f .lss pre.length (pre ++ a :: rs).length
    obtain ⟨c, k1, k2⟩ := hr.get (i := pre.length) (r := a) (by simp)
    obtain ⟨ba, la⟩ := hb a (by simp)
    obtain ⟨v1, F1, m1, e1, b1, x1, s1, w1⟩ := t75 n (by omega) k1 ba hw (by omega)
    have hfl := frm_len a
    have hv1 : BB F1 v l m := hv.std s1.std (fun _ _ _ _ q => q) (fun _ q => q)
    simp only [frms, List.length_append] at hl
    obtain ⟨v2, F2, m2, e2, b2, s2, w2, n2⟩ := app_bb w1 hv1 (fun g => b1.by.src g) (by omega)
    have s02 : Sq F0 F2 := (hs.trans s1).fresh hw0 s2.sg (fun j hj q => q) (fun j hj q => by have := hm q.2; omega) (fun j hj q => q)
    have hm2 : v2 ≠ .nl → F0.x ≤ m2 := fun hne => by
      rcases n2 hne with ⟨q1, q2⟩ | q
      · rw [q1]; exact hm q2
      · have := (hs.trans s1).x; omega
    have hr2 := (hr.sq s1).sg s2.sg (fun _ _ _ _ _ _ q => q)
    have e3 : pre ++ a :: rs = (pre ++ [a]) ++ rs := by simp
    have e4 : (pre ++ [a]).length = pre.length + 1 := by simp
    obtain ⟨v', F', m', y1, y2, y3, y4, y5, g1, g2, g3, g4⟩ := ih (pre ++ [a]) (fun r hr => hb r (by simp [hr])) (by rw [← e3]; exact hr2) w2 b2 hm2 s02 (by rw [List.length_append]; omega) (by rw [← e3]; exact hL) M (by simpa using hM) d c v1 h i j (.t true) (.t false) q r s
    rw [← e3, e4] at g1
    refine ⟨v', F', m', y1, y2, y3, y4, y5, fun κ => ?_, by simpa [frms] using g2, g3, g4⟩
    have g1 := g1 κ
    rw [loopNU_succ]
    generalize loopNU (u40_18 (clU dskD n) n) κ M = rec at g1 ⊢
    have hq := fun F f => uEq_nn F f false .eql (frm a).length 0
    have ha := fun F f => uAdd_nn F f (a := pre.length) (b := 1) (by omega)
    simp -implicitDefEqProofs only [↓SS, Nat.zero_add, Nat.add_zero, Bool.not_true, Bool.not_false, ↓u40_18, ↓u40_0, ↓u40_1, ↓u40_2, ↓u40_3, ↓u40_4, ↓u40_5, ↓u40_6, ↓u40_7, ↓u40_8, ↓u40_9, ↓u40_10, ↓u40_11, ↓u40_12, ↓u40_13, ↓u40_14, ↓u40_15, ↓u40_16, ↓u40_17, ↓u40_19, ↓u40_20, ↓u40_21, ↓u40_22, ↓u40_23, ↓u40_24, ↓u40_25, ↓u40_26, ↓u40_27, ↓m17_mk, ↓k17_mk, ↓u40r_mk, ↓hc, decide_eq_true hlt, ↓k2, ↓e1, ↓b1.len, ↓hq, decide_eq_false (show ¬ (frm a).length = 0 by omega), ↓e2, ↓ha]
    exact g1
/-- Log.Pack. -/
theorem t40 (N B : Nat) (hB : B ≤ 100000) (hN : 8 * B + 2000 ≤ N) {F : FAW} (hw : Wf F) {x d m : Nat} {L : Lg} (h : LK F x d m L) {vr : FV} {rs : List (List Nat)} (hr : RS F vr rs) (hb : Rb rs B) (hl : (frms rs).length ≤ 10000000) (hf : L.D.fs.length ≤ 900) :
    ∃ F', clU dskD N 40 [.p x 0, vr] F = .ok (.n (L.pack rs).2) F' ∧ LK F' x d m (L.pack rs).1 ∧ Sg F F' (AL x d) No (· = m) ∧ Wf F' := by
  obtain ⟨n, rfl⟩ : ∃ n, N = n + 1 := ⟨N - 1, by omega⟩
  have hn := fun F f => uEqN_pp false x 0 F f
  have hgt := fun F f => uGtr_nn F f .gtr rs.length 200
  by_cases q1 : 200 < rs.length
  · have hp : L.pack rs = (L, 17) := by unfold Lg.pack; rw [if_pos q1]
    refine ⟨F, ?_, by rw [hp]; exact h, Sg.refl _ _ _ _, hw⟩
    rw [cl40, u40_in, hp]
    simp -implicitDefEqProofs only [↓SS, Nat.zero_add, Nat.add_zero, Bool.not_true, Bool.not_false, ↓u40b, ↓u40_0, ↓u40_1, ↓u40_2, ↓u40_3, ↓u40_4, ↓u40_5, ↓u40_6, ↓u40_7, ↓u40_8, ↓u40_9, ↓u40_10, ↓u40_11, ↓u40_12, ↓u40_13, ↓u40_14, ↓u40_15, ↓u40_16, ↓u40_17, ↓u40_19, ↓u40_20, ↓u40_21, ↓u40_22, ↓u40_23, ↓u40_24, ↓u40_25, ↓u40_26, ↓u40_27, ↓m17_mk, ↓k17_mk, ↓u40r_mk, ↓hn, ↓hr.len, ↓hgt, decide_eq_true q1]
  obtain ⟨v1, F1, m1, y1, y2, y3, y4, y5, e1, b1, s1, w1⟩ := l40 n B hB (by omega) hw (va := .p x 0) (vk := vr) (vc := vr) rs [] hb hr hw (l := []) (m := 0) (SlE.nil F 5 1 0) (fun q => absurd rfl q) (Sg.refl _ _ _ _) (by simpa using hl) (by simp; omega) n (by omega) (.n 0) (.u []) (.u []) (.u []) (.t false) (.t false) (.u []) (.u []) (.u []) (.u []) (.u [])
  have e1 : ∀ κ, loopNU (u40_18 (clU dskD n) n) κ n (.mk (.p x 0) vr (.n 0) .nl (.u []) (.u []) (.u []) (.t false) (.t false) vr (.n rs.length) (.n 0) (.u []) (.u []) (.u []) (.u []) (.u [])) F = κ (.exit 1) (.mk (.p x 0) vr (.n 0) v1 y1 y2 (.u []) (.t false) (.t false) vr (.n rs.length) y3 y4 y5 (.u []) (.u []) (.u [])) F1 := e1
  rw [List.nil_append] at b1
  have h1 := h.sq s1
  obtain ⟨F2, e2, h2, s2, w2⟩ := t76 n (by omega) w1 h1 b1.by
  have s02 : Sg F F2 (AL x d) No (· = m) := (s1.any _ _ _).trans s2.al
  have be1 : Nat.beq 1 1 = true := rfl
  have be3 : Nat.beq 3 3 = true := rfl
  have hq0 := fun F f => uEq_nn F f false .eql (L.D.packs (frms rs)).2 0
  have hq18 := fun F f => uEq_nn F f false .eql (L.D.packs (frms rs)).2 18
  by_cases q2 : (L.D.packs (frms rs)).2 = 0
  · have hp : L.pack rs = (⟨(L.D.packs (frms rs)).1, rs.length, (frms rs).length⟩, 0) := by unfold Lg.pack; rw [if_neg q1, if_pos q2]
    have h3 := h2.put rs.length L.size
    have h4 := h3.put rs.length (frms rs).length
    refine ⟨(F2.put x [.p d 0, .n rs.length, .n L.size]).put x [.p d 0, .n rs.length, .n (frms rs).length], ?_, by rw [hp]; exact h4, (s02.trans (Sg.put (.inl rfl))).trans (Sg.put (.inl rfl)), (w2.put _ _).put _ _⟩
    rw [cl40, u40_in, hp]
    rw [q2] at e2
    have q00 : ∀ (F : FAW) (f : KU), uEq false .eql (.n 0) (.n 0) F f = f (.t true) F := fun _ _ => rfl
    simp -implicitDefEqProofs only [↓SS, Nat.zero_add, Nat.add_zero, Bool.not_true, Bool.not_false, ↓u40b, ↓u40_0, ↓u40_1, ↓u40_2, ↓u40_3, ↓u40_4, ↓u40_5, ↓u40_6, ↓u40_7, ↓u40_8, ↓u40_9, ↓u40_10, ↓u40_11, ↓u40_12, ↓u40_13, ↓u40_14, ↓u40_15, ↓u40_16, ↓u40_17, ↓u40_19, ↓u40_20, ↓u40_21, ↓u40_22, ↓u40_23, ↓u40_24, ↓u40_25, ↓u40_26, ↓u40_27, ↓m17_mk, ↓k17_mk, ↓u40r_mk, ↓hn, ↓hr.len, ↓hgt, decide_eq_false q1, ↓loopU_eq, ↓e1, be1, ↓e2, ↓q00, ↓b1.len, ↓h2.s1, ↓h3.s2]
  · by_cases q3 : (L.D.packs (frms rs)).2 = 18
    · have hp : L.pack rs = ({ L with D := (L.D.packs (frms rs)).1 }, 18) := by unfold Lg.pack; rw [if_neg q1, if_neg q2, if_pos q3]
      refine ⟨F2, ?_, by rw [hp]; exact h2, s02, w2⟩
      rw [cl40, u40_in, hp]
      rw [q3] at e2
      have q180 : ∀ (F : FAW) (f : KU), uEq false .eql (.n 18) (.n 0) F f = f (.t false) F := fun _ _ => rfl
      have q18 : ∀ (F : FAW) (f : KU), uEq false .eql (.n 18) (.n 18) F f = f (.t true) F := fun _ _ => rfl
      simp -implicitDefEqProofs only [↓SS, Nat.zero_add, Nat.add_zero, Bool.not_true, Bool.not_false, ↓u40b, ↓u40_0, ↓u40_1, ↓u40_2, ↓u40_3, ↓u40_4, ↓u40_5, ↓u40_6, ↓u40_7, ↓u40_8, ↓u40_9, ↓u40_10, ↓u40_11, ↓u40_12, ↓u40_13, ↓u40_14, ↓u40_15, ↓u40_16, ↓u40_17, ↓u40_19, ↓u40_20, ↓u40_21, ↓u40_22, ↓u40_23, ↓u40_24, ↓u40_25, ↓u40_26, ↓u40_27, ↓m17_mk, ↓k17_mk, ↓u40r_mk, ↓hn, ↓hr.len, ↓hgt, decide_eq_false q1, ↓loopU_eq, ↓e1, be1, ↓e2, ↓q180, ↓q18]
    · have hp : L.pack rs = ({ L with D := (L.D.packs (frms rs)).1.drop.1 }, (L.D.packs (frms rs)).2) := by unfold Lg.pack; rw [if_neg q1, if_neg q2, if_neg q3]
      obtain ⟨F3, e3, h3, s3, w3⟩ := t74 n (by omega) w2 h2 (by
        have := packs_len L.D (frms rs)
        show (L.D.packs (frms rs)).1.fs.length ≤ 1000
        omega)
      refine ⟨F3, ?_, by rw [hp]; exact h3, s02.trans s3.al, w3⟩
      rw [cl40, u40_in, hp]
      simp -implicitDefEqProofs only [↓SS, Nat.zero_add, Nat.add_zero, Bool.not_true, Bool.not_false, ↓u40b, ↓u40_0, ↓u40_1, ↓u40_2, ↓u40_3, ↓u40_4, ↓u40_5, ↓u40_6, ↓u40_7, ↓u40_8, ↓u40_9, ↓u40_10, ↓u40_11, ↓u40_12, ↓u40_13, ↓u40_14, ↓u40_15, ↓u40_16, ↓u40_17, ↓u40_19, ↓u40_20, ↓u40_21, ↓u40_22, ↓u40_23, ↓u40_24, ↓u40_25, ↓u40_26, ↓u40_27, ↓m17_mk, ↓k17_mk, ↓u40r_mk, ↓hn, ↓hr.len, ↓hgt, decide_eq_false q1, ↓loopU_eq, ↓e1, be1, ↓e2, ↓hq0, decide_eq_false q2, ↓hq18, decide_eq_false q3, ↓e3]
end Go.Proofs.Ythclmjelknibhaa.Ev
/- A log on a disk: Open. -/
namespace Go.Proofs.Ythclmjelknibhaa.Ev
open Go Go.RowKit
set_option linter.unusedVariables false
set_option linter.constructorNameAsVariable false
set_option linter.unusedSimpArgs false
set_option linter.unusedSectionVars false

/-- All files are bytes. -/
def Dk.Bf (D : Dk) : Prop := ∀ f ∈ D.fs, Bs f.b
theorem of_bs {D : Dk} (h : D.Bf) (k : List Nat) : Bs (D.of k).1 := by
  unfold Dk.of
  cases e : fget D.fs k with
  | none => exact Bs.nil
  | some f =>
    have key : ∀ fs : List File, fget fs k = some f → f ∈ fs := by
      intro fs
      induction fs with
      | nil => intro h; cases h
      | cons a fs ih =>
        intro h
        simp only [fget] at h
        split at h
        · simp only [Option.some.injEq] at h; subst h; simp
        · simp [ih h]
    exact h f (key _ e)
theorem Bf.crash {D : Dk} (h : D.Bf) (p : Int) : (D.crash p).Bf := by
  intro f hf
  obtain ⟨g, hg, rfl⟩ := List.mem_map.mp hf
  exact (h g hg).take _
theorem Bf.power {D : Dk} (h : D.Bf) : D.power.Bf := by
  intro f hf
  obtain ⟨g, hg, rfl⟩ := List.mem_map.mp hf
  exact h g hg
theorem Bf.tick {D : Dk} (h : D.Bf) : D.tick.Bf := by
  intro f hf
  rw [(tick_fs D).1] at hf
  exact h f hf
theorem Bf.doing {D : Dk} (h : D.Bf) {w hf : Dk → Dk} (h1 : ∀ D : Dk, D.Bf → (w D).Bf) (h2 : ∀ D : Dk, D.Bf → (hf D).Bf) : (D.doing w hf).1.Bf := by
  unfold Dk.doing
  split
  · exact Bf.crash (h2 D h) _
  · exact h1 _ (Bf.tick h)
theorem Bf.put {D : Dk} (h : D.Bf) (g : File) (hg : Bs g.b) : (D.put g).Bf := by
  intro f hf
  rcases mem_put hf with rfl | hf
  · exact hg
  · exact h f hf
theorem Bf.append {D : Dk} (h : D.Bf) (k : List Nat) {b : List Nat} (hb : Bs b) : (D.append k b).1.Bf := by
  unfold Dk.append
  split
  · exact h
  · split
    · exact h
    · exact Bf.doing h (fun D h => Bf.put h _ ((of_bs h k).append hb)) (fun D h => Bf.put h _ ((of_bs h k).append hb))
theorem Bf.sync {D : Dk} (h : D.Bf) (k : List Nat) : (D.sync k).1.Bf := by
  unfold Dk.sync
  split
  · exact h
  · exact Bf.doing h (fun D h => Bf.put h _ (of_bs h k)) (fun D h => h)
theorem Bf.rem {D : Dk} (h : D.Bf) (k : List Nat) : (D.rem k).Bf := fun f hf => h f ((fdel_sub _ _).subset hf)
theorem Bf.remove {D : Dk} (h : D.Bf) (k : List Nat) : (D.remove k).1.Bf := by
  unfold Dk.remove
  split
  · exact h
  · exact Bf.doing h (fun D h => Bf.rem h k) (fun D h => h)
theorem Bf.rename {D : Dk} (h : D.Bf) (k t : List Nat) : (D.rename k t).1.Bf := by
  unfold Dk.rename
  split
  · exact h
  · exact Bf.doing h (fun D h => Bf.put (D := D.rem k) (Bf.rem h k) _ (of_bs h k)) (fun D h => h)
theorem Bf.drop {D : Dk} (h : D.Bf) : D.drop.1.Bf := by
  unfold Dk.drop
  split
  · exact Bf.remove h _
  · exact h
theorem remove_len (D : Dk) (k : List Nat) : (D.remove k).1.fs.length ≤ D.fs.length + 0 := by
  unfold Dk.remove
  split
  · simp
  · exact doing_len (fun D => fdel_len _ _) (fun D => Nat.le_refl _)
theorem drop_len (D : Dk) : D.drop.1.fs.length ≤ D.fs.length := by
  unfold Dk.drop
  split
  · exact remove_len D _
  · simp
theorem ufr_bs {l : List Nat} (hl : Bs l) : Bs (ufr l).1 ∧ (ufr l).1.length ≤ l.length := by
  unfold ufr
  split
  · exact ⟨Bs.nil, by simp⟩
  · split
    · exact ⟨Bs.nil, by simp⟩
    · split
      · exact ⟨Bs.nil, by simp⟩
      · exact ⟨(hl.drop _).take _, by simp only [List.length_take, List.length_drop]; omega⟩
theorem scan_rb : ∀ (k : Nat) (l : List Nat), l.length ≤ k → Bs l → Rb (scan l).1 k ∧ (frms (scan l).1).length = (scan l).2
  | 0, l, h, hl => by
    have : l = [] := List.length_eq_zero_iff.mp (by omega)
    subst this
    rw [scan_end _ (by decide)]
    exact ⟨fun r hr => (by cases hr), rfl⟩
  | k + 1, l, h, hl => by
    by_cases h0 : (ufr l).2.2 = 0
    · rw [scan_step l h0]
      have hu := ufr_ok h0
      obtain ⟨q1, q2⟩ := scan_rb k (l.drop (ufr l).2.1) (by rw [List.length_drop]; omega) (hl.drop _)
      obtain ⟨p1, p2⟩ := ufr_bs hl
      refine ⟨fun r hr => ?_, ?_⟩
      · rcases List.mem_cons.mp hr with rfl | hr
        · exact ⟨p1, by omega⟩
        · exact ⟨(q1 r hr).1, by have := (q1 r hr).2; omega⟩
      · simp only [frms, List.length_append, q2, frm_len]
        omega
    · rw [scan_end l h0]
      exact ⟨fun r hr => (by cases hr), rfl⟩
/-- What Open finds: the log, its records, an error. -/
def Dk.opn (D : Dk) : Lg × List (List Nat) × Nat :=
  if D.dead then (⟨D, 0, 0⟩, [], 18) else
  if D.drop.2 ≠ 0 then (⟨D.drop.1, 0, 0⟩, [], D.drop.2) else
  if (D.drop.1.read lgN).2 ≠ 0 ∧ (D.drop.1.read lgN).2 ≠ 15 then (⟨D.drop.1, 0, 0⟩, [], (D.drop.1.read lgN).2) else
  if (scan (D.drop.1.read lgN).1).2 < (D.drop.1.read lgN).1.length then
    (if (Lg.pack ⟨D.drop.1, (scan (D.drop.1.read lgN).1).1.length, (scan (D.drop.1.read lgN).1).2⟩ (scan (D.drop.1.read lgN).1).1).2 ≠ 0 then
      ((Lg.pack ⟨D.drop.1, (scan (D.drop.1.read lgN).1).1.length, (scan (D.drop.1.read lgN).1).2⟩ (scan (D.drop.1.read lgN).1).1).1, [], (Lg.pack ⟨D.drop.1, (scan (D.drop.1.read lgN).1).1.length, (scan (D.drop.1.read lgN).1).2⟩ (scan (D.drop.1.read lgN).1).1).2)
    else ((Lg.pack ⟨D.drop.1, (scan (D.drop.1.read lgN).1).1.length, (scan (D.drop.1.read lgN).1).2⟩ (scan (D.drop.1.read lgN).1).1).1, (scan (D.drop.1.read lgN).1).1, 0))
  else (⟨D.drop.1, (scan (D.drop.1.read lgN).1).1.length, (scan (D.drop.1.read lgN).1).2⟩, (scan (D.drop.1.read lgN).1).1, 0)
/-- Open's answer in memory. -/
def OpR (F0 F : FAW) (d m : Nat) (L : Lg) (rs : List (List Nat)) (e : Nat) (lv rv : FV) : Prop :=
  (e ≠ 0 ∧ lv = .np ∧ rv = .nl ∧ rs = [] ∧ DK F d m L.D) ∨ (e = 0 ∧ ∃ x mr, lv = .p x 0 ∧ F0.x ≤ x ∧ LK F x d m L ∧ RL F rv rs mr ∧ (rs ≠ [] → F0.x ≤ mr))
theorem t37 (N : Nat) (hN : 600000 ≤ N) {F : FAW} (hw : Wf F) {d m : Nat} {D : Dk} (h : DK F d m D) (hb : D.Bf) (hf : D.fs.length ≤ 800) :
    ∃ lv rv F', clU dskD N 37 [.p d 0] F = .ok (.u [lv, rv, .n D.opn.2.2]) F' ∧ OpR F F' d m D.opn.1 D.opn.2.1 D.opn.2.2 lv rv ∧ Sg F F' (· = d) No (· = m) ∧ Wf F' := by
  obtain ⟨n, rfl⟩ : ∃ n, N = n + 1 := ⟨N - 1, by omega⟩
  have hn := fun F f => uEqN_pp false d 0 F f
  have e1 := dead_ok n (by omega) h
  by_cases q1 : D.dead = true
  · have hp : D.opn = (⟨D, 0, 0⟩, [], 18) := by unfold Dk.opn; rw [if_pos q1]
    rw [q1] at e1
    rw [hp]
    refine ⟨.np, .nl, F, ?_, .inl ⟨show (18 : Nat) ≠ 0 by decide, rfl, rfl, rfl, h⟩, Sg.refl _ _ _ _, hw⟩
    rw [cl37, u37_in]
    simp -implicitDefEqProofs only [↓SS, Nat.zero_add, Nat.add_zero, Bool.not_true, Bool.not_false, ↓u37b, ↓u37_0, ↓u37_1, ↓u37_2, ↓u37_3, ↓u37_4, ↓u37_5, ↓u37_6, ↓u37_7, ↓u37_8, ↓u37_9, ↓u37_10, ↓u37_11, ↓u37_12, ↓u37_13, ↓u37_14, ↓u37_15, ↓u37_16, ↓u37_17, ↓u37_18, ↓u37_19, ↓u37_20, ↓u37_21, ↓u37_22, ↓u37_23, ↓u37_24, ↓m14_mk, ↓k14_mk, ↓u37r_mk, ↓hn, ↓e1]
  have q1' : D.dead = false := by simpa using q1
  rw [q1'] at e1
  have sn : Sq F (F.new [.p d 0, .n 0, .n 0] 100 3) := Sq.new hw _ _ _
  have wn := hw.new [.p d 0, .n 0, .n 0] 100 3
  have hbox : ∀ f : KU, (uBuildF [.np, .n 0, .n 0] [(0, 1, .p d 0)] F fun v0 S => uBox 100 3 v0 S f) = f (.p F.x 0) (F.new [.p d 0, .n 0, .n 0] 100 3) := fun f => by
    have e : (uBuildF [.np, .n 0, .n 0] [(0, 1, .p d 0)] F fun v0 S => uBox 100 3 v0 S f) = uBox 100 3 (.a [.p d 0, .n 0, .n 0]) F f := rfl
    rw [e, uBox_a]
  have k0 : LK (F.new [.p d 0, .n 0, .n 0] 100 3) F.x d m ⟨D, 0, 0⟩ := ⟨by rw [row_new, if_pos rfl], by rw [fam_new, if_pos rfl]; rfl, h.sq sn⟩
  obtain ⟨F2, e2, k2, s2, w2⟩ := t74 n (by omega) wn k0 (by show D.fs.length ≤ 1000; omega)
  have e2 : clU dskD n 74 [.p F.x 0] (F.new [.p d 0, .n 0, .n 0] 100 3) = .ok (.n D.drop.2) F2 := e2
  have k2 : LK F2 F.x d m ⟨D.drop.1, 0, 0⟩ := k2
  have s02 : Sg F F2 (· = d) No (· = m) := (sn.any _ _ _).trans s2
  by_cases q2 : D.drop.2 ≠ 0
  · have hp : D.opn = (⟨D.drop.1, 0, 0⟩, [], D.drop.2) := by unfold Dk.opn; rw [if_neg q1, if_pos q2]
    rw [hp]
    refine ⟨.np, .nl, F2, ?_, .inl ⟨q2, rfl, rfl, rfl, k2.dk⟩, s02, w2⟩
    rw [cl37, u37_in]
    simp -implicitDefEqProofs only [↓SS, Nat.zero_add, Nat.add_zero, Bool.not_true, Bool.not_false, ↓u37b, ↓u37_0, ↓u37_1, ↓u37_2, ↓u37_3, ↓u37_4, ↓u37_5, ↓u37_6, ↓u37_7, ↓u37_8, ↓u37_9, ↓u37_10, ↓u37_11, ↓u37_12, ↓u37_13, ↓u37_14, ↓u37_15, ↓u37_16, ↓u37_17, ↓u37_18, ↓u37_19, ↓u37_20, ↓u37_21, ↓u37_22, ↓u37_23, ↓u37_24, ↓m14_mk, ↓k14_mk, ↓u37r_mk, ↓hn, ↓e1, ↓hbox, ↓e2, ↓ne_has, decide_eq_false q2]
  have q2' : D.drop.2 = 0 := by omega
  obtain ⟨v3, F3, e3, b3, s3, w3⟩ := read_ok n (by omega) w2 k2.dk lgN_nm
  have k3 := k2.sq s3
  obtain ⟨l, hl⟩ : ∃ l, l = (D.drop.1.read lgN).1 := ⟨_, rfl⟩
  obtain ⟨e, he⟩ : ∃ e, e = (D.drop.1.read lgN).2 := ⟨_, rfl⟩
  have e3 : clU dskD n 20 [.p d 0, .s lgN] F2 = .ok (.u [v3, .n e]) F3 := by rw [he]; exact e3
  have b3 : By F3 v3 l := by rw [hl]; exact b3
  have s03 := s02.trans (s3.any _ _ _)
  have hne15 : ∀ (F : FAW) (f : KU) , uEq true .neq (.n e) (.n 15) F f = f (.t (!decide (e = 15))) F := fun F f => by rw [uEq_nn, xo_t]
  by_cases q3 : e ≠ 0 ∧ e ≠ 15
  · have hp : D.opn = (⟨D.drop.1, 0, 0⟩, [], e) := by unfold Dk.opn; rw [if_neg q1, if_neg q2, ← he, if_pos q3]
    rw [hp]
    refine ⟨.np, .nl, F3, ?_, .inl ⟨q3.1, rfl, rfl, rfl, k3.dk⟩, s03, w3⟩
    rw [cl37, u37_in]
    simp -implicitDefEqProofs only [↓SS, Nat.zero_add, Nat.add_zero, Bool.not_true, Bool.not_false, ↓u37b, ↓u37_0, ↓u37_1, ↓u37_2, ↓u37_3, ↓u37_4, ↓u37_5, ↓u37_6, ↓u37_7, ↓u37_8, ↓u37_9, ↓u37_10, ↓u37_11, ↓u37_12, ↓u37_13, ↓u37_14, ↓u37_15, ↓u37_16, ↓u37_17, ↓u37_18, ↓u37_19, ↓u37_20, ↓u37_21, ↓u37_22, ↓u37_23, ↓u37_24, ↓m14_mk, ↓k14_mk, ↓u37r_mk, ↓hn, ↓e1, ↓hbox, ↓e2, ↓ne_has, decide_eq_true q2', ↓e3, decide_eq_false q3.1, ↓hne15, decide_eq_false q3.2]
  have hlB : Bs l ∧ l.length ≤ 60000 := by
    have hd := Bf.drop hb
    have ho := of_bs hd lgN
    have hlen := of_len D.drop.1 lgN
    have hr := k2.dk.ok.room
    have hr : tot D.drop.1.fs ≤ D.drop.1.room ∧ D.drop.1.room ≤ 60000 := hr
    rw [hl]
    unfold Dk.read
    split
    · exact ⟨Bs.nil, by simp⟩
    · exact ⟨ho, by show (D.drop.1.of lgN).1.length ≤ 60000; omega⟩
  obtain ⟨v4, F4, m4, e4, r4, n4, s4, w4⟩ := t34 n (by omega) b3 hlB.1 w3 (by omega)
  have k4 := k3.sq s4
  have s04 := s03.trans (s4.any _ _ _)
  have k5 := k4.put (scan l).1.length 0
  have k6 := k5.put (scan l).1.length (scan l).2
  have w5 := (w4.put F.x [.p d 0, .n (scan l).1.length, .n 0]).put F.x [.p d 0, .n (scan l).1.length, .n (scan l).2]
  have nx : ∀ i r e q o, F4.row i = some (r, e, 1, q, o) → ¬ i = F.x := fun i r e q o hr hi => k4.not1 i r e q o hr (.inl hi)
  have nx5 : ∀ i r e q o, (F4.put F.x [.p d 0, .n (scan l).1.length, .n 0]).row i = some (r, e, 1, q, o) → ¬ i = F.x := fun i r e q o hr hi => k5.not1 i r e q o hr (.inl hi)
  have st5 : Sg F4 (F4.put F.x [.p d 0, .n (scan l).1.length, .n 0]) (· = F.x) No No := Sg.put rfl
  have st6 : Sg (F4.put F.x [.p d 0, .n (scan l).1.length, .n 0]) ((F4.put F.x [.p d 0, .n (scan l).1.length, .n 0]).put F.x [.p d 0, .n (scan l).1.length, .n (scan l).2]) (· = F.x) No No := Sg.put rfl
  have r6 : RL ((F4.put F.x [.p d 0, .n (scan l).1.length, .n 0]).put F.x [.p d 0, .n (scan l).1.length, .n (scan l).2]) v4 (scan l).1 m4 := (r4.sg st5 nx (fun q => q)).sg st6 nx5 (fun q => q)
  have b6 : By ((F4.put F.x [.p d 0, .n (scan l).1.length, .n 0]).put F.x [.p d 0, .n (scan l).1.length, .n (scan l).2]) v3 l := ((b3.sq s4).sg st5 nx).sg st6 nx5
  have s06 : Sg F ((F4.put F.x [.p d 0, .n (scan l).1.length, .n 0]).put F.x [.p d 0, .n (scan l).1.length, .n (scan l).2]) (· = d) No (· = m) :=
    s04.fresh hw (st5.trans st6) (fun j hj q => by omega) (fun j hj q => q) (fun j hj q => q.elim)
  have hlt := fun F f => uLss_nn F f .lss (scan l).2 l.length
  have hm4 : (scan l).1 ≠ [] → F.x ≤ m4 := fun q => by have := n4 q; have := s03.x; omega
  have q3a : ∀ f : Bool → RU, True := fun _ => trivial
  have hstep : ∀ (F : FAW) (f : KU), (uEq true .neq (.n e) (.n 0) F fun v0 S => eT v0 fun b => cn b (uEq true .neq (.n e) (.n 15) S fun v1 S => f v1 S) (f (.t false) S)) = f (.t false) F := fun F f => by
    rw [ne_has]
    by_cases h0 : e = 0
    · rw [decide_eq_true h0]; rfl
    · have h15 : e = 15 := Classical.byContradiction fun q => q3 ⟨h0, q⟩
      rw [decide_eq_false h0]
      show uEq true .neq (.n e) (.n 15) F _ = _
      rw [hne15, decide_eq_true h15]; rfl
  by_cases q5 : (scan l).2 < l.length
  · obtain ⟨hrb, hfl⟩ := scan_rb l.length l (Nat.le_refl _) hlB.1
    obtain ⟨F7, e7, k7, s7, w7⟩ := t40 n l.length (by omega) (by omega) w5 k6 r6.rs hrb (by rw [hfl]; have := scan_le l.length l (Nat.le_refl _); omega) (by have := drop_len D; show D.drop.1.fs.length ≤ 900; omega)
    obtain ⟨P, hP⟩ : ∃ P, P = Lg.pack ⟨D.drop.1, (scan l).1.length, (scan l).2⟩ (scan l).1 := ⟨_, rfl⟩
    have e7 : clU dskD n 40 [.p F.x 0, v4] ((F4.put F.x [.p d 0, .n (scan l).1.length, .n 0]).put F.x [.p d 0, .n (scan l).1.length, .n (scan l).2]) = .ok (.n P.2) F7 := by rw [hP]; exact e7
    have k7 : LK F7 F.x d m P.1 := by rw [hP]; exact k7
    have s07 : Sg F F7 (· = d) No (· = m) := s06.fresh hw s7 (fun j hj q => by rcases q with q | q <;> omega) (fun j hj q => q) (fun j hj q => q)
    have hP2 : ∀ (F : FAW) (f : KU), uEq true .neq (.n P.2) (.n 0) F f = f (.t (!decide (P.2 = 0))) F := fun F f => ne_has F f P.2
    by_cases q6 : P.2 ≠ 0
    · have hp : D.opn = (P.1, [], P.2) := by unfold Dk.opn; rw [if_neg q1, if_neg q2, ← he, if_neg q3, ← hl, if_pos q5, ← hP, if_pos q6]
      rw [hp]
      refine ⟨.np, .nl, F7, ?_, .inl ⟨q6, rfl, rfl, rfl, k7.dk⟩, s07, w7⟩
      rw [cl37, u37_in]
      simp -implicitDefEqProofs only [↓SS, Nat.zero_add, Nat.add_zero, Bool.not_true, Bool.not_false, ↓u37b, ↓u37_0, ↓u37_1, ↓u37_2, ↓u37_3, ↓u37_4, ↓u37_5, ↓u37_6, ↓u37_7, ↓u37_8, ↓u37_9, ↓u37_10, ↓u37_11, ↓u37_12, ↓u37_13, ↓u37_14, ↓u37_15, ↓u37_16, ↓u37_17, ↓u37_18, ↓u37_19, ↓u37_20, ↓u37_21, ↓u37_22, ↓u37_23, ↓u37_24, ↓m14_mk, ↓k14_mk, ↓u37r_mk, ↓hn, ↓e1, ↓hbox, ↓e2, ↓ne_00, q2', ↓e3, ↓hstep, ↓e4, ↓r4.rs.len, ↓k4.s1, ↓k5.s2, ↓b6.len, ↓hlt, decide_eq_true q5, ↓e7, ↓hP2, decide_eq_false q6]
    · have q6' : P.2 = 0 := by omega
      have hp : D.opn = (P.1, (scan l).1, 0) := by unfold Dk.opn; rw [if_neg q1, if_neg q2, ← he, if_neg q3, ← hl, if_pos q5, ← hP, if_neg q6]
      rw [hp]
      have r7 : RL F7 v4 (scan l).1 m4 := r6.sg s7 (fun i r e q o hr hi => k6.not1 i r e q o hr hi) (fun q => q)
      refine ⟨.p F.x 0, v4, F7, ?_, .inr ⟨rfl, F.x, m4, rfl, Nat.le_refl _, k7, r7, hm4⟩, s07, w7⟩
      rw [cl37, u37_in]
      simp -implicitDefEqProofs only [↓SS, Nat.zero_add, Nat.add_zero, Bool.not_true, Bool.not_false, ↓u37b, ↓u37_0, ↓u37_1, ↓u37_2, ↓u37_3, ↓u37_4, ↓u37_5, ↓u37_6, ↓u37_7, ↓u37_8, ↓u37_9, ↓u37_10, ↓u37_11, ↓u37_12, ↓u37_13, ↓u37_14, ↓u37_15, ↓u37_16, ↓u37_17, ↓u37_18, ↓u37_19, ↓u37_20, ↓u37_21, ↓u37_22, ↓u37_23, ↓u37_24, ↓m14_mk, ↓k14_mk, ↓u37r_mk, ↓hn, ↓e1, ↓hbox, ↓e2, ↓ne_00, q2', ↓e3, ↓hstep, ↓e4, ↓r4.rs.len, ↓k4.s1, ↓k5.s2, ↓b6.len, ↓hlt, decide_eq_true q5, ↓e7, ↓hP2, decide_eq_true q6']
  · have hp : D.opn = (⟨D.drop.1, (scan l).1.length, (scan l).2⟩, (scan l).1, 0) := by unfold Dk.opn; rw [if_neg q1, if_neg q2, ← he, if_neg q3, ← hl, if_neg q5]
    rw [hp]
    refine ⟨.p F.x 0, v4, _, ?_, .inr ⟨rfl, F.x, m4, rfl, Nat.le_refl _, k6, r6, hm4⟩, s06, w5⟩
    rw [cl37, u37_in]
    simp -implicitDefEqProofs only [↓SS, Nat.zero_add, Nat.add_zero, Bool.not_true, Bool.not_false, ↓u37b, ↓u37_0, ↓u37_1, ↓u37_2, ↓u37_3, ↓u37_4, ↓u37_5, ↓u37_6, ↓u37_7, ↓u37_8, ↓u37_9, ↓u37_10, ↓u37_11, ↓u37_12, ↓u37_13, ↓u37_14, ↓u37_15, ↓u37_16, ↓u37_17, ↓u37_18, ↓u37_19, ↓u37_20, ↓u37_21, ↓u37_22, ↓u37_23, ↓u37_24, ↓m14_mk, ↓k14_mk, ↓u37r_mk, ↓hn, ↓e1, ↓hbox, ↓e2, ↓ne_00, q2', ↓e3, ↓hstep, ↓e4, ↓r4.rs.len, ↓k4.s1, ↓k5.s2, ↓b6.len, ↓hlt, decide_eq_false q5]
end Go.Proofs.Ythclmjelknibhaa.Ev
/- The document's octet: Put, Take. -/
namespace Go.Proofs.Ythclmjelknibhaa.Ev
open Go Go.RowKit
set_option linter.unusedVariables false
set_option linter.constructorNameAsVariable false
set_option linter.unusedSimpArgs false
set_option linter.unusedSectionVars false

/-- One less than a number, as an index. -/
def ixv (m : Nat) : FV := if m = 0 then .i .i64 (-1) else .n (m - 1)
theorem uSub_ixv (F : FAW) (f : KU) (m : Nat) (h : m ≤ 9223372036854775807) : uSub (.n m) (.n 1) F f = f (ixv m) F := by
  unfold ixv
  by_cases h0 : m = 0
  · subst h0; rfl
  · rw [if_neg h0, uSub_nn _ _ (by omega) h]
theorem uGeq_ixv (F : FAW) (f : KU) (m a : Nat) (h : m ≤ a) : uCmp (fun a b => Nat.ble b a) .geq (ixv m) (.n a) F f = f (.t false) F := by
  unfold ixv
  by_cases h0 : m = 0
  · rw [if_pos h0]
    have e : uCmp (fun a b => Nat.ble b a) .geq (.i .i64 (-1)) (.n a) F f = uSlow .geq (.i .i64 (-1)) (.n a) F f := rfl
    have h : binV .geq (toV (.i .i64 (-1))) (toV (.n a)) = some (.bool false) := by
      simp only [toV, binV, iop, if_true]
      rw [decide_eq_false (by simp; omega)]
    rw [e, uSlow_n h]; rfl
  · rw [if_neg h0, uGeq_nn, decide_eq_false (by omega)]
theorem uRem_w (q : Bool) (a b : Nat) (hb : b ≠ 0) (F : FAW) (f : KU) : uQuo q .rem (w64 a) (w64 b) F f = f (w64 (a % b)) F := by
  have e : uQuo q .rem (w64 a) (w64 b) F f = uSlow .rem (w64 a) (w64 b) F f := rfl
  have h : binV .rem (toV (w64 a)) (toV (w64 b)) = some (.int .u64 (Int.ofNat (a % b))) := by
    have hb' : ¬ (Int.ofNat b = 0) := by simpa using hb
    simp only [w64, toV, binV, iop, if_true, if_neg hb']
    rfl
  rw [e, uSlow_n h]; rfl
theorem uDiv_w (q : Bool) (a b : Nat) (ha : a < 18446744073709551616) (hb : b ≠ 0) (F : FAW) (f : KU) : uQuo q .quo (w64 a) (w64 b) F f = f (w64 (a / b)) F := by
  have e : uQuo q .quo (w64 a) (w64 b) F f = uSlow .quo (w64 a) (w64 b) F f := rfl
  have h : binV .quo (toV (w64 a)) (toV (w64 b)) = some (.int .u64 (Int.ofNat (a / b))) := by
    have hb' : ¬ (Int.ofNat b = 0) := by simpa using hb
    have e2 : (Int.ofNat a).tdiv (Int.ofNat b) = ((a / b : Nat) : Int) := rfl
    simp only [w64, toV, binV, iop, if_true, if_neg hb', e2]
    rw [wrap_u64 (Nat.lt_of_le_of_lt (Nat.div_le_self a b) ha)]
    rfl
  rw [e, uSlow_n h]; rfl
theorem w_256 : FV.i .u64 256 = w64 256 := rfl
theorem l70 (C : CU) (N : Nat) {pre : List Nat} (hp : pre.length ≤ 1000000) : ∀ (k : Nat), k ≤ 8 → ∀ (c : Nat), c < 18446744073709551616 → ∀ {F : FAW} {v : FV} {m : Nat} {dn : List Nat} (h : BB F v (pre ++ List.replicate k 0 ++ dn) m) (hw : Wf F) (M : Nat), k < M → ∀ (a d e i j : FV),
    ∃ F' c' ix j', (∀ κ : EX → W9 → FAW → RU, loopNU (u70_13 C N) κ M (.mk a (w64 c) d e v (.n pre.length) (ixv (pre.length + k)) i j) F = κ (.exit 0) (.mk a (w64 c') d e v (.n pre.length) ix i j') F') ∧ BB F' v (pre ++ beN k c ++ dn) m ∧ F'.x = F.x ∧ Wf F' ∧ ∀ F0, Wf F0 → F0.x ≤ m → Std F0 F (fun _ => False) (fun _ => False) → Std F0 F' (fun _ => False) (fun _ => False) := by
  intro k
  induction k with
  | zero =>
    intro hk c hc F v m dn h hw M hM a d e i j
    obtain ⟨M, rfl⟩ : ∃ M', M = M' + 1 := ⟨M - 1, by omega⟩
    refine ⟨F, c, ixv pre.length, .t false, fun κ => ?_, by simpa [beN] using h, rfl, hw, fun F0 _ _ h => h⟩
    rw [loopNU_succ]
    generalize loopNU (u70_13 C N) κ M = rec
    simp -implicitDefEqProofs only [↓u70_13, ↓seqU_eq, ↓condU_eq, ↓exitU_eq, ↓u70_8, ↓u70_9, ↓m9_mk, ↓k9_mk, ↓exU_n, ↓exU_e, Nat.add_zero, ↓uGeq_ixv _ _ _ _ (Nat.le_refl _), ↓eT_t, ↓cn_false]
  | succ k ih =>
    intro hk c hc F v m dn h hw M hM a d e i j
    obtain ⟨M, rfl⟩ : ∃ M', M = M' + 1 := ⟨M - 1, by omega⟩
    obtain ⟨F1, e1, h1, x1, s1, w1⟩ := st_e hw h fi_b (k := pre.length + k) (by simp; omega) (Fi.b (c % 256 % 256))
    have hl : (List.map FV.b (pre ++ List.replicate (k + 1) 0 ++ dn)).set (pre.length + k) (.b (c % 256 % 256)) = List.map FV.b (pre ++ List.replicate k 0 ++ (c % 256 :: dn)) := by
      have := set_mid (pre.map FV.b) (dn.map FV.b) k (.b 0) (.b (c % 256 % 256))
      rw [List.length_map] at this
      simp only [List.map_append, List.map_replicate, List.map_cons]
      rw [this, Nat.mod_mod]
    rw [hl] at h1
    have hlen : (pre ++ List.replicate (k + 1) 0 ++ dn).length = (pre ++ List.replicate k 0 ++ (c % 256 :: dn)).length := by simp; omega
    rw [hlen] at h1
    obtain ⟨F2, c2, ix2, j2, k1, k2, k3, k4, k5⟩ := ih (by omega) (c / 256) (by omega) h1 w1 M (by omega) a d e i (.t true)
    refine ⟨F2, c2, ix2, j2, fun κ => ?_, ?_, by rw [k3, x1], k4, fun F0 hw0 hm hs => k5 F0 hw0 hm (hs.newfam hw0 s1 hm)⟩
    · have k1 := k1 κ
      rw [loopNU_succ]
      generalize loopNU (u70_13 C N) κ M = rec at k1 ⊢
      have hix : ixv (pre.length + (k + 1)) = .n (pre.length + k) := by unfold ixv; rw [if_neg (by omega)]; rfl
      simp -implicitDefEqProofs only [↓u70_13, ↓seqU_eq, ↓condU_eq, ↓skipU_eq, ↓blockU_eq, ↓u70_8, ↓u70_9, ↓u70_10, ↓u70_11, ↓u70_12, ↓m9_mk, ↓k9_mk, ↓exU_n, hix, ↓uGeq_nn, decide_eq_true (show pre.length ≤ pre.length + k by omega), ↓eT_t, ↓cn_true, w_256, ↓uRem_w _ c 256 (by decide), ↓uCv_bw, ↓e1, ↓uDiv_w _ c 256 hc (by decide), ↓uSub_ixv _ _ (pre.length + k) (show pre.length + k ≤ 9223372036854775807 by omega)]
      exact k1
    · rw [beN]
      have : pre ++ beN k (c / 256) ++ (c % 256 :: dn) = pre ++ (beN k (c / 256) ++ [c % 256]) ++ dn := by simp
      rw [← this]; exact k2
/-- assayerref1.Put. -/
theorem t70 (N : Nat) (hN : 11 ≤ N) {F : FAW} {a : FV} {xs : List Nat} (ha : By F a xs) (hw : Wf F) (hL : xs.length ≤ 1000000) (c : Nat) (hc : c < 18446744073709551616) (n : Nat) (hn : n ≤ 8) :
    ∃ v F' m, clU dskD N 70 [a, w64 c, .n n] F = .ok v F' ∧ BB F' v (xs ++ beN n c) m ∧ v ≠ .nl ∧ F.x ≤ m ∧ Std F F' (fun _ => False) (fun _ => False) ∧ Wf F' := by
  obtain ⟨m, rfl⟩ : ∃ m, N = m + 1 := ⟨N - 1, by omega⟩
  have l0 := SlE.lit0 F 5 1
  have st0 := Std.new hw [] 5 1 (fun _ => False) (fun _ => False)
  have w0 := hw.new [] 5 1
  have el := fun f : KU => uLit0 5 1 [(.b 0)] F f
  have hx : (F.new [] 5 1).x = F.x + 1 := rfl
  have ha0 := ha.std st0 (fun _ _ _ _ _ _ h => h)
  generalize F.new [] 5 1 = F1 at *
  obtain ⟨v2, F2, m2, e2, b2, s2, w2, n2, ne2⟩ := app_bn (l := []) w0 l0 (fun g => ha0.src g) (by simp; omega)
  rw [List.nil_append] at b2
  have st2 := st0.fresh hw s2 (fun _ _ h => h) (fun j hj h => by omega)
  have hne2 := ne2 (by simp)
  have hm2 : F.x ≤ m2 := by
    rcases n2 hne2 with ⟨h, _⟩ | h <;> omega
  obtain ⟨v3, F3, m3, e3, b3, s3, w3, n3, ne3⟩ := appz_bb w2 b2 n (by omega)
  have hne3 := ne3 hne2
  have hm3 : F.x ≤ m3 := by
    have := st2.x
    rcases n3 hne3 with ⟨h, _⟩ | h <;> omega
  have st3 := st2.fresh hw s3 (fun _ _ h => h) (fun j hj h => by omega)
  obtain ⟨F4, c4, ix4, j4, k1, k2, k3, k4, k5⟩ := l70 (clU dskD m) m hL n hn c hc (dn := []) (by rw [List.append_nil]; exact b3) w3 m (by omega) a (.n n) .nl (.t false) (.u [])
  rw [List.append_nil] at k2
  have st4 := k5 F hw hm3 st3
  refine ⟨v3, F4, m3, ?_, k2, hne3, hm3, st4, k4⟩
  rw [cl70, u70_in]
  generalize clU dskD m = C at *
  have hlen : ∀ f : KU, uLen false v3 F3 f = f (.n (xs.length + n)) F3 := fun f => by rw [b3.len]; simp
  simp -implicitDefEqProofs only [↓u70b, ↓seqU_eq, ↓condU_eq, ↓skipU_eq, ↓retU_eq, ↓blockU_eq, ↓loopU_eq, ↓u70_0, ↓u70_1, ↓u70_2, ↓u70_3, ↓u70_5, ↓u70_6, ↓u70_7, ↓u70_14, ↓m9_mk, ↓k9_mk, ↓exU_n, ↓exU_e, ↓exU_r, ↓el, ↓e2, ↓uLss_nn, decide_eq_false (show ¬ n < 0 by omega), ↓eT_t, ↓cn_false, ↓uGtr_nn, decide_eq_false (show ¬ 8 < n by omega), ↓b2.len, ↓e3, ↓hlen, ↓uSub_ixv _ _ (xs.length + n) (show xs.length + n ≤ 9223372036854775807 by omega), ↓k1, show Nat.beq 0 0 = true from rfl, ↓cn_true, ↓u70r_mk]
end Go.Proofs.Ythclmjelknibhaa.Ev
/- The document's octet: Sum, Seal, Unseal; SameRecords. -/
namespace Go.Proofs.Ythclmjelknibhaa.Ev
open Go Go.RowKit
set_option linter.unusedVariables false
set_option linter.constructorNameAsVariable false
set_option linter.unusedSimpArgs false
set_option linter.unusedSectionVars false

theorem uShr_32 (a k : Nat) (hk : k < 32) (F : FAW) (f : KU) : uSlow .shr (w32 a) (.n k) F f = f (w32 (a / 2 ^ k)) F := by
  have h : binV .shr (toV (w32 a)) (toV (.n k)) = some (.int .u32 (Int.ofNat (a / 2 ^ k))) := by
    have hm : (min (Int.ofNat k).toNat (IntKind.bits .u32)) = k := by simp [IntKind.bits]; omega
    simp only [w32, toV, binV, shop]
    rw [if_neg (by simp), hm]
    congr 2
    show Int.fdiv ((a : Nat) : Int) ((2 : Int) ^ k) = ((a / 2 ^ k : Nat) : Int)
    rw [Int.fdiv_eq_ediv_of_nonneg _ (by exact Int.pow_nonneg (by decide))]
    norm_cast
  rw [uSlow_n h]; rfl
theorem uNot_32 (a : Nat) (ha : a < 4294967296) (F : FAW) (f : KU) : uUn .xor (w32 a) F f = f (w32 (a ^^^ 4294967295)) F := by
  have e : uUn .xor (w32 a) F f = uO (unV .xor (toV (w32 a))) F f := rfl
  have h : unV .xor (toV (w32 a)) = binV .xor (toV (w32 4294967295)) (toV (w32 a)) := rfl
  have h2 := uXor_32 F f 4294967295 a (by decide) ha
  rw [Nat.xor_comm] at h2
  rw [e, h]
  exact h2
def mir : Nat := 2197175160
/-- The document's step: the bits side by side. -/
def rS (l : List Nat) (i r : Nat) : Nat := r / 2 ^^^ (if r % 2 ≠ (l.getD (i / 8) 0) / 2 ^ (i % 8) % 2 then mir else 0)
def rI (l : List Nat) : Nat → Nat → Nat → Nat
  | 0, _, r => r
  | k + 1, i, r => rI l k (i + 1) (rS l i r)
theorem rS_lt {l : List Nat} (i : Nat) {r : Nat} (h : r < 4294967296) : rS l i r < 4294967296 := by
  unfold rS
  refine Nat.xor_lt_two_pow (n := 32) (by omega) ?_
  split <;> decide
theorem rI_lt {l : List Nat} : ∀ (k i r : Nat), r < 4294967296 → rI l k i r < 4294967296
  | 0, _, _, h => h
  | k + 1, i, r, h => rI_lt k (i + 1) _ (rS_lt i h)
theorem and_mir (s : Nat) : 2197175160 &&& (s &&& 1) * 4294967295 = if s % 2 = 1 then mir else 0 := by
  rw [Nat.and_one_is_mod]
  have : s % 2 = 0 ∨ s % 2 = 1 := by omega
  rcases this with h | h <;> rw [h] <;> decide
/-- One step: what the program has is the document's, xored with what is left of the byte. -/
theorem tn_rS {l : List Nat} (i r : Nat) : tn (r ^^^ (l.getD (i / 8) 0) / 2 ^ (i % 8)) = rS l i r ^^^ (l.getD (i / 8) 0) / 2 ^ (i % 8 + 1) := by
  unfold tn rS
  generalize l.getD (i / 8) 0 = b
  have h1 : (r ^^^ b / 2 ^ (i % 8)) / 2 = r / 2 ^^^ b / 2 ^ (i % 8 + 1) := by
    rw [Nat.xor_div_two, Nat.div_div_eq_div_mul, ← Nat.pow_succ]
  have h2 : (r ^^^ b / 2 ^ (i % 8)) % 2 = if r % 2 ≠ b / 2 ^ (i % 8) % 2 then 1 else 0 := by
    have := Nat.xor_mod_two_eq_one (a := r) (b := b / 2 ^ (i % 8))
    by_cases h : r % 2 ≠ b / 2 ^ (i % 8) % 2
    · rw [if_pos h]
      exact this.mpr (fun q => by omega)
    · rw [if_neg h]
      have : ¬ (r ^^^ b / 2 ^ (i % 8)) % 2 = 1 := fun q => (this.mp q) (by omega)
      omega
  rw [and_mir, h1, h2]
  by_cases h : r % 2 ≠ b / 2 ^ (i % 8) % 2
  · rw [if_pos h, if_pos h, if_pos rfl]
    rw [Nat.xor_assoc, Nat.xor_comm (b / 2 ^ (i % 8 + 1)), ← Nat.xor_assoc]
  · rw [if_neg h, if_neg h, if_neg (by decide), Nat.xor_zero, Nat.xor_zero]
theorem sumI_rI {l : List Nat} (hl : Bs l) : ∀ (k i p r : Nat), i + k = 8 * l.length → p = (if i % 8 = 0 then r else r ^^^ (l.getD (i / 8) 0) / 2 ^ (i % 8)) → sumI l k i p = (if (i + k) % 8 = 0 then rI l k i r else rI l k i r ^^^ (l.getD ((i + k) / 8) 0) / 2 ^ ((i + k) % 8))
  | 0, i, p, r, _, h => h
  | k + 1, i, p, r, hi, h => by
    have e : i + (k + 1) = (i + 1) + k := by omega
    rw [e]
    show sumI l k (i + 1) (sumS l i p) = _
    have hs : sumS l i p = rS l i r ^^^ (l.getD (i / 8) 0) / 2 ^ (i % 8 + 1) := by
      unfold sumS
      by_cases h0 : i % 8 = 0
      · rw [if_pos h0] at h ⊢
        subst h
        have := tn_rS (l := l) i p
        rw [h0, Nat.pow_zero, Nat.div_one] at this
        rw [this, h0]
      · rw [if_neg h0] at h ⊢
        rw [h]
        exact tn_rS i r
    refine sumI_rI hl k (i + 1) (sumS l i p) (rS l i r) (by omega) ?_
    rw [hs]
    by_cases h7 : i % 8 = 7
    · have hz : (l.getD (i / 8) 0) / 2 ^ (i % 8 + 1) = 0 := by
        rw [h7]
        have := getD_bs hl (i / 8)
        exact Nat.div_eq_of_lt (by simpa using this)
      rw [hz, Nat.xor_zero, if_pos (by omega)]
    · rw [if_neg (by omega)]
      have e1 : (i + 1) / 8 = i / 8 := by omega
      have e2 : (i + 1) % 8 = i % 8 + 1 := by omega
      rw [e1, e2]
theorem crc_r {l : List Nat} (hl : Bs l) : crc l = rI l (8 * l.length) 0 4294967295 ^^^ 4294967295 := by
  unfold crc
  have := sumI_rI hl (8 * l.length) 0 4294967295 4294967295 (by omega) (by rw [if_pos (by decide)])
  rw [this, if_pos (by omega)]
theorem l71 (C : CU) (N : Nat) {F : FAW} {w : FV} {l : List Nat} (h : By F w l) (hl : Bs l) (hL : l.length ≤ 1000000) : ∀ (k i : Nat), i + k = 8 * l.length → ∀ (M : Nat), k < M → ∀ (r : Nat), r < 4294967296 → ∀ (c f g h' j : FV),
    ∃ x1 x2 x3 x4 x5, ∀ κ : EX → W8 → FAW → RU, loopNU (u71_12 C N) κ M (.mk w c (w32 r) (.n i) f g h' j) F = κ (.exit 0) (.mk w c (w32 (rI l k i r)) x1 x2 x3 x4 x5) F := by
  intro k
  induction k with
  | zero =>
    intro i hi M hM r hr c f g h' j
    obtain ⟨M, rfl⟩ : ∃ M', M = M' + 1 := ⟨M - 1, by omega⟩
    refine ⟨.n i, f, g, .t false, j, fun κ => ?_⟩
    rw [loopNU_succ]
    generalize loopNU (u71_12 C N) κ M = rec
    have hm := fun F f => uMul_nn F f (a := 8) (b := l.length) (by omega)
    have hc := fun F f => uLss_nn F f .lss i (8 * l.length)
    simp -implicitDefEqProofs only [↓SS, Nat.zero_add, Nat.add_zero, Bool.not_true, Bool.not_false, ↓u71_12, ↓u71_0, ↓u71_1, ↓u71_2, ↓u71_3, ↓u71_4, ↓u71_5, ↓u71_6, ↓u71_7, ↓u71_8, ↓u71_9, ↓u71_10, ↓u71_11, ↓u71_13, ↓m8_mk, ↓k8_mk, ↓u71r_mk, ↓h.len, ↓hm, ↓hc, decide_eq_false (show ¬ i < 8 * l.length by omega)]
    rfl
  | succ k ih =>
    intro i hi M hM r hr c f g h' j
    obtain ⟨M, rfl⟩ : ∃ M', M = M' + 1 := ⟨M - 1, by omega⟩
    have hm := fun F f => uMul_nn F f (a := 8) (b := l.length) (by omega)
    have hc := fun F f => uLss_nn F f .lss i (8 * l.length)
    obtain ⟨b, hb⟩ : ∃ b, l[i / 8]? = some b := ⟨l[i / 8]'(by omega), List.getElem?_eq_getElem (by omega)⟩
    have hb2 := hl b (List.mem_of_getElem? hb)
    have hgd : l.getD (i / 8) 0 = b := by rw [List.getD_eq_getElem?_getD, hb]; rfl
    have hd := fun F f => uDiv_nn F f i 8 (by omega) (by decide)
    have hcv := fun F f => uCv_32b F f b hb2
    have hrm := fun F f => rem_nn i 8 (by decide) (by omega) F f
    have hsh := fun F f => uShr_32 b (i % 8) (by omega) F f
    have e1 : FV.i .u32 1 = w32 1 := rfl
    have em : FV.i .u32 2197175160 = w32 mir := rfl
    have hdb : b / 2 ^ (i % 8) < 4294967296 := Nat.lt_of_le_of_lt (Nat.div_le_self _ _) (by omega)
    have ha1 := fun F f => uAnd_32 F f (b / 2 ^ (i % 8)) 1 hdb (by decide)
    rw [Nat.and_one_is_mod] at ha1
    have ha2 := fun F f => uAnd_32 F f r 1 hr (by decide)
    rw [Nat.and_one_is_mod] at ha2
    have hne := fun F f => uNe_32 F f (r % 2) (b / 2 ^ (i % 8) % 2)
    have hs1 := fun F f => uShr1_32 F f r
    have hx := fun F f => uXor_32 F f (r / 2) mir (by omega) (by decide)
    have hadd := fun F f => uAdd_nn F f (a := i) (b := 1) (by omega)
    by_cases hq : r % 2 = b / 2 ^ (i % 8) % 2
    · have hrs : rS l i r = r / 2 := by unfold rS; rw [hgd, if_neg (by simpa using hq), Nat.xor_zero]
      obtain ⟨x1, x2, x3, x4, x5, k1⟩ := ih (i + 1) (by omega) M (by omega) (rS l i r) (rS_lt i hr) c (w32 (b / 2 ^ (i % 8) % 2)) (.t false) (.t true) (.t false)
      refine ⟨x1, x2, x3, x4, x5, fun κ => ?_⟩
      have k1 := k1 κ
      rw [loopNU_succ]
      generalize loopNU (u71_12 C N) κ M = rec at k1 ⊢
      rw [hrs] at k1
      simp -implicitDefEqProofs only [↓SS, Nat.zero_add, Nat.add_zero, Bool.not_true, Bool.not_false, ↓u71_12, ↓u71_0, ↓u71_1, ↓u71_2, ↓u71_3, ↓u71_4, ↓u71_5, ↓u71_6, ↓u71_7, ↓u71_8, ↓u71_9, ↓u71_10, ↓u71_11, ↓u71_13, ↓m8_mk, ↓k8_mk, ↓u71r_mk, ↓h.len, ↓hm, ↓hc, decide_eq_true (show i < 8 * l.length by omega), ↓hd, ↓h.get hb, ↓hcv, ↓hrm, ↓hsh, e1, ↓ha1, ↓ha2, ↓hne, decide_eq_true hq, ↓hs1, ↓hadd]
      rw [k1]
      show _ = κ (.exit 0) (.mk w c (w32 (rI l k (i + 1) (rS l i r))) x1 x2 x3 x4 x5) F
      rw [hrs]
    · have hrs : rS l i r = r / 2 ^^^ mir := by unfold rS; rw [hgd, if_pos hq]
      obtain ⟨x1, x2, x3, x4, x5, k1⟩ := ih (i + 1) (by omega) M (by omega) (rS l i r) (rS_lt i hr) c (w32 (b / 2 ^ (i % 8) % 2)) (.t true) (.t true) (.t true)
      refine ⟨x1, x2, x3, x4, x5, fun κ => ?_⟩
      have k1 := k1 κ
      rw [loopNU_succ]
      generalize loopNU (u71_12 C N) κ M = rec at k1 ⊢
      rw [hrs] at k1
      simp -implicitDefEqProofs only [↓SS, Nat.zero_add, Nat.add_zero, Bool.not_true, Bool.not_false, ↓u71_12, ↓u71_0, ↓u71_1, ↓u71_2, ↓u71_3, ↓u71_4, ↓u71_5, ↓u71_6, ↓u71_7, ↓u71_8, ↓u71_9, ↓u71_10, ↓u71_11, ↓u71_13, ↓m8_mk, ↓k8_mk, ↓u71r_mk, ↓h.len, ↓hm, ↓hc, decide_eq_true (show i < 8 * l.length by omega), ↓hd, ↓h.get hb, ↓hcv, ↓hrm, ↓hsh, e1, ↓ha1, ↓ha2, ↓hne, decide_eq_false hq, ↓hs1, em, ↓hx, ↓hadd]
      rw [k1]
      show _ = κ (.exit 0) (.mk w c (w32 (rI l k (i + 1) (rS l i r))) x1 x2 x3 x4 x5) F
      rw [hrs]
/-- assayerref1.Sum. -/
theorem t71 (N : Nat) {F : FAW} {w : FV} {l : List Nat} (hN : 8 * l.length + 3 ≤ N) (h : By F w l) (hl : Bs l) (hL : l.length ≤ 1000000) : clU dskD N 71 [w] F = .ok (w32 (crc l)) F := by
  obtain ⟨n, rfl⟩ : ∃ n, N = n + 1 := ⟨N - 1, by omega⟩
  obtain ⟨x1, x2, x3, x4, x5, k1⟩ := l71 (clU dskD n) n h hl hL (8 * l.length) 0 (by omega) n (by omega) 4294967295 (by decide) (.i .u32 0) (.u []) (.u []) (.u []) (.u [])
  rw [cl71, u71_in]
  have em : FV.i .u32 4294967295 = w32 4294967295 := rfl
  have hx := fun F f => uNot_32 (rI l (8 * l.length) 0 4294967295) (rI_lt _ _ _ (by decide)) F f
  have be0 : Nat.beq 0 0 = true := rfl
  simp -implicitDefEqProofs only [↓SS, Nat.zero_add, Nat.add_zero, Bool.not_true, Bool.not_false, ↓u71b, ↓u71_0, ↓u71_1, ↓u71_2, ↓u71_3, ↓u71_4, ↓u71_5, ↓u71_6, ↓u71_7, ↓u71_8, ↓u71_9, ↓u71_10, ↓u71_11, ↓u71_13, ↓m8_mk, ↓k8_mk, ↓u71r_mk, em, ↓loopU_eq, ↓k1, be0, ↓hx]
  rw [crc_r hl]
/-- assayerref1.Seal. -/
theorem t33 (N : Nat) {F : FAW} {w : FV} {l : List Nat} (hN : 8 * l.length + 13 ≤ N) (h : By F w l) (hl : Bs l) (hw : Wf F) (hL : l.length ≤ 900000) :
    ∃ v F' m, clU dskD N 33 [w] F = .ok v F' ∧ BB F' v (frm l) m ∧ F.x ≤ m ∧ Sq F F' ∧ Wf F' := by
  obtain ⟨n, rfl⟩ : ∃ n, N = n + 1 := ⟨N - 1, by omega⟩
  obtain ⟨v1, F1, m1, e1, b1, _, x1, s1, w1⟩ := t70 n (by omega) (a := .nl) (xs := []) (.inl ⟨rfl, rfl⟩) hw (by decide) l.length (by omega) 3 (by decide)
  rw [List.nil_append] at b1
  have s1 : Sq F F1 := s1.sq
  have h1 := h.sq s1
  obtain ⟨v2, F2, m2, e2, b2, s2, w2, n2⟩ := app_bb w1 b1 (fun g => h1.src g) (by rw [beN_len]; omega)
  have st2 : Sq F F2 := s1.fresh hw s2.sg (fun j hj q => q) (fun j hj q => by omega) (fun j hj q => q)
  have h2 := h.sq st2
  have e3 := t71 n (by omega) h2 hl (by omega)
  obtain ⟨v4, F4, m4, e4, b4, _, x4, s4, w4⟩ := t70 n (by omega) b2.by w2 (by rw [List.length_append, beN_len]; omega) (crc l) (by have := crc_lt hl; omega) 4 (by decide)
  refine ⟨v4, F4, m4, ?_, b4, Nat.le_trans st2.x x4, st2.trans s4.sq, w4⟩
  rw [cl33, u33_in]
  have hge := fun F f => uGeq_nn F f .geq l.length 16777216
  have hcv := fun F f => uCv_un F f l.length (by omega)
  have hcw := fun F f => uCv_w32 F f (crc l) (crc_lt hl)
  simp -implicitDefEqProofs only [↓SS, Nat.zero_add, Nat.add_zero, Bool.not_true, Bool.not_false, ↓u33b, ↓u33_0, ↓u33_1, ↓u33_2, ↓u33_3, ↓u33_4, ↓m3_mk, ↓k3_mk, ↓u33r_mk, ↓h.len, ↓hge, decide_eq_false (show ¬ 16777216 ≤ l.length by omega), ↓hcv, ↓e1, ↓e2, ↓e3, ↓hcw, ↓e4]
-- SameRecords
theorem l36 (C : CU) (N : Nat) {F : FAW} {v w : FV} : ∀ (us vs pa pb : List (List Nat)), pa.length = pb.length → us.length = vs.length → RS F v (pa ++ us) → RS F w (pb ++ vs) → (∀ r ∈ us, Bs r) → (∀ r ∈ vs, Bs r) → (pa ++ us).length ≤ 1000000 → ∀ (M : Nat), us.length < M → ∀ (d f g h : FV),
    (us = vs → ∃ x1 x2 x3, ∀ κ, loopNU (u36_11 C N) κ M (.mk v w d (.n pa.length) f g h) F = κ (.exit 0) (.mk v w d x1 f x2 x3) F) ∧
    (us ≠ vs → ∃ x1 x2 x3, ∀ κ, loopNU (u36_11 C N) κ M (.mk v w d (.n pa.length) f g h) F = κ .ret (.mk v w (.t false) x1 f x2 x3) F) := by
  intro us
  induction us with
  | nil =>
    intro vs pa pb hp hl ha hb h1 h2 hL M hM d f g h
    obtain ⟨M, rfl⟩ : ∃ M', M = M' + 1 := ⟨M - 1, by omega⟩
    have hbn : vs = [] := List.length_eq_zero_iff.mp (by simpa using hl.symm)
    subst hbn
    refine ⟨fun _ => ⟨.n pa.length, .t false, h, fun κ => ?_⟩, fun q => absurd rfl q⟩
    rw [loopNU_succ]
    generalize loopNU (u36_11 C N) κ M = rec
    have hc := fun F f => uLss_nn F f .lss pa.length (pa ++ []).length
    simp -implicitDefEqProofs only [↓SS, Nat.zero_add, Nat.add_zero, Bool.not_true, Bool.not_false, ↓u36_11, ↓u36_0, ↓u36_1, ↓u36_2, ↓u36_3, ↓u36_4, ↓u36_5, ↓u36_6, ↓u36_7, ↓u36_8, ↓u36_9, ↓u36_10, ↓u36_12, ↓m7_mk, ↓k7_mk, ↓u36r_mk, ↓ha.len, ↓hc, decide_eq_false (show ¬ pa.length < (pa ++ []).length by simp)]
  | cons a us ih =>
    intro vs pa pb hp hl ha hb h1 h2 hL M hM d f g h
    obtain ⟨M, rfl⟩ : ∃ M', M = M' + 1 := ⟨M - 1, by omega⟩
    cases vs with
    | nil => simp at hl
    | cons b vs =>
      have hlt : pa.length < (pa ++ a :: us).length := by rw [List.length_append]; simp
      have hc := fun F f => uLss_nn F f .lss pa.length (pa ++ a :: us).length
      obtain ⟨ca, ka1, ka2⟩ := ha.get (i := pa.length) (r := a) (by simp)
      obtain ⟨cb, kb1, kb2⟩ := hb.get (i := pa.length) (r := b) (by rw [hp]; simp)
      have hq := fun F f => uEq_ss F f true .neq (h1 a (by simp)) (h2 b (by simp))
      have e1 : pa ++ a :: us = (pa ++ [a]) ++ us := by simp
      have e2 : pb ++ b :: vs = (pb ++ [b]) ++ vs := by simp
      have e3 : (pa ++ [a]).length = pa.length + 1 := by simp
      have hadd := fun F f => uAdd_nn F f (a := pa.length) (b := 1) (by omega)
      by_cases hab : a = b
      · have key := ih vs (pa ++ [a]) (pb ++ [b]) (by simp [hp]) (by simpa using hl) (by rw [← e1]; exact ha) (by rw [← e2]; exact hb) (fun r hr => h1 r (by simp [hr])) (fun r hr => h2 r (by simp [hr])) (by rw [← e1]; exact hL) M (by simpa using hM) d f (.t true) (.t false)
        rw [e3] at key
        refine ⟨fun q => ?_, fun q => ?_⟩
        · obtain ⟨x1, x2, x3, k1⟩ := key.1 (by injection q)
          refine ⟨x1, x2, x3, fun κ => ?_⟩
          have k1 := k1 κ
          rw [loopNU_succ]
          generalize loopNU (u36_11 C N) κ M = rec at k1 ⊢
          simp -implicitDefEqProofs only [↓SS, Nat.zero_add, Nat.add_zero, Bool.not_true, Bool.not_false, ↓u36_11, ↓u36_0, ↓u36_1, ↓u36_2, ↓u36_3, ↓u36_4, ↓u36_5, ↓u36_6, ↓u36_7, ↓u36_8, ↓u36_9, ↓u36_10, ↓u36_12, ↓m7_mk, ↓k7_mk, ↓u36r_mk, ↓ha.len, ↓hc, decide_eq_true hlt, ↓ka2, ↓ka1.str, ↓kb2, ↓kb1.str, ↓hq, decide_eq_true hab, ↓hadd]
          exact k1
        · obtain ⟨x1, x2, x3, k1⟩ := key.2 (fun z => q (by rw [hab, z]))
          refine ⟨x1, x2, x3, fun κ => ?_⟩
          have k1 := k1 κ
          rw [loopNU_succ]
          generalize loopNU (u36_11 C N) κ M = rec at k1 ⊢
          simp -implicitDefEqProofs only [↓SS, Nat.zero_add, Nat.add_zero, Bool.not_true, Bool.not_false, ↓u36_11, ↓u36_0, ↓u36_1, ↓u36_2, ↓u36_3, ↓u36_4, ↓u36_5, ↓u36_6, ↓u36_7, ↓u36_8, ↓u36_9, ↓u36_10, ↓u36_12, ↓m7_mk, ↓k7_mk, ↓u36r_mk, ↓ha.len, ↓hc, decide_eq_true hlt, ↓ka2, ↓ka1.str, ↓kb2, ↓kb1.str, ↓hq, decide_eq_true hab, ↓hadd]
          exact k1
      · refine ⟨fun q => absurd (by injection q) hab, fun _ => ⟨.n pa.length, .t true, .t true, fun κ => ?_⟩⟩
        rw [loopNU_succ]
        generalize loopNU (u36_11 C N) κ M = rec
        simp -implicitDefEqProofs only [↓SS, Nat.zero_add, Nat.add_zero, Bool.not_true, Bool.not_false, ↓u36_11, ↓u36_0, ↓u36_1, ↓u36_2, ↓u36_3, ↓u36_4, ↓u36_5, ↓u36_6, ↓u36_7, ↓u36_8, ↓u36_9, ↓u36_10, ↓u36_12, ↓m7_mk, ↓k7_mk, ↓u36r_mk, ↓ha.len, ↓hc, decide_eq_true hlt, ↓ka2, ↓ka1.str, ↓kb2, ↓kb1.str, ↓hq, decide_eq_false hab]
/-- SameRecords. -/
theorem t36 (N : Nat) {F : FAW} {v w : FV} {us vs : List (List Nat)} (hN : us.length + 4 ≤ N) (ha : RS F v us) (hb : RS F w vs) (h1 : ∀ r ∈ us, Bs r) (h2 : ∀ r ∈ vs, Bs r) (hL : us.length ≤ 1000000) : clU dskD N 36 [v, w] F = .ok (.t (decide (us = vs))) F := by
  obtain ⟨n, rfl⟩ : ∃ n, N = n + 1 := ⟨N - 1, by omega⟩
  rw [cl36, u36_in]
  have hq := fun F f => uEq_nn F f true .neq us.length vs.length
  by_cases hl : us.length = vs.length
  · have key := l36 (clU dskD n) n us vs [] [] rfl hl ha hb h1 h2 hL n (by omega) (.t false) (.t false) (.u []) (.u [])
    have be0 : Nat.beq 0 0 = true := rfl
    by_cases he : us = vs
    · obtain ⟨x1, x2, x3, k1⟩ := key.1 he
      have k1 : ∀ κ, loopNU (u36_11 (clU dskD n) n) κ n (.mk v w (.t false) (.n 0) (.t false) (.u []) (.u [])) F = κ (.exit 0) (.mk v w (.t false) x1 (.t false) x2 x3) F := k1
      simp -implicitDefEqProofs only [↓SS, Nat.zero_add, Nat.add_zero, Bool.not_true, Bool.not_false, ↓u36b, ↓u36_0, ↓u36_1, ↓u36_2, ↓u36_3, ↓u36_4, ↓u36_5, ↓u36_6, ↓u36_7, ↓u36_8, ↓u36_9, ↓u36_10, ↓u36_12, ↓m7_mk, ↓k7_mk, ↓u36r_mk, ↓ha.len, ↓hb.len, ↓hq, decide_eq_true hl, ↓loopU_eq, ↓k1, be0, decide_eq_true he]
    · obtain ⟨x1, x2, x3, k1⟩ := key.2 he
      have k1 : ∀ κ, loopNU (u36_11 (clU dskD n) n) κ n (.mk v w (.t false) (.n 0) (.t false) (.u []) (.u [])) F = κ .ret (.mk v w (.t false) x1 (.t false) x2 x3) F := k1
      simp -implicitDefEqProofs only [↓SS, Nat.zero_add, Nat.add_zero, Bool.not_true, Bool.not_false, ↓u36b, ↓u36_0, ↓u36_1, ↓u36_2, ↓u36_3, ↓u36_4, ↓u36_5, ↓u36_6, ↓u36_7, ↓u36_8, ↓u36_9, ↓u36_10, ↓u36_12, ↓m7_mk, ↓k7_mk, ↓u36r_mk, ↓ha.len, ↓hb.len, ↓hq, decide_eq_true hl, ↓loopU_eq, ↓k1, decide_eq_false he]
  · have he : us ≠ vs := fun q => hl (by rw [q])
    simp -implicitDefEqProofs only [↓SS, Nat.zero_add, Nat.add_zero, Bool.not_true, Bool.not_false, ↓u36b, ↓u36_0, ↓u36_1, ↓u36_2, ↓u36_3, ↓u36_4, ↓u36_5, ↓u36_6, ↓u36_7, ↓u36_8, ↓u36_9, ↓u36_10, ↓u36_12, ↓m7_mk, ↓k7_mk, ↓u36r_mk, ↓ha.len, ↓hb.len, ↓hq, decide_eq_false hl, decide_eq_false he]
end Go.Proofs.Ythclmjelknibhaa.Ev
/- Logs on a disk that is whole: plain laws; that log does something (assayerlaw28.begun). -/
namespace Go.Proofs.Ythclmjelknibhaa.Ev
open Go Go.RowKit
set_option linter.unusedVariables false
set_option linter.constructorNameAsVariable false
set_option linter.unusedSimpArgs false
set_option linter.unusedSectionVars false

/-- A whole disk with a log alone, or with nothing yet. -/
def LD (room : Nat) (b : List Nat) (s : Bool) : Dk := ⟨room, if s then [⟨lgN, b, b.length⟩] else [], false, 0, 0, false⟩
def LL (room : Nat) (rs : List (List Nat)) (s : Bool) : Lg := ⟨LD room (frms rs) s, rs.length, (frms rs).length⟩
theorem frms_app : ∀ (a b : List (List Nat)), frms (a ++ b) = frms a ++ frms b
  | [], b => rfl
  | r :: a, b => by simp [frms, frms_app a b]
theorem frms_bs : ∀ {rs : List (List Nat)} {B : Nat}, Rb rs B → Bs (frms rs)
  | [], _, _ => Bs.nil
  | r :: rs, B, h => (frm_bs (h r (by simp)).1).append (frms_bs (B := B) fun x hx => h x (by simp [hx]))
theorem ufr_nil : (ufr []).2.2 = 3 := rfl
theorem scan_frms : ∀ {rs : List (List Nat)} {B : Nat}, Rb rs B → B ≤ 1000000 → ∀ (z : List Nat), (ufr z).2.2 ≠ 0 → scan (frms rs ++ z) = (rs, (frms rs).length)
  | [], _, _, _, z, hz => by rw [show frms [] ++ z = z from rfl, scan_end z hz]; rfl
  | r :: rs, B, h, hB, z, hz => by
    obtain ⟨hr, hl⟩ := h r (by simp)
    have e0 : frms (r :: rs) ++ z = frm r ++ (frms rs ++ z) := by simp [frms]
    have hu := ufr_frm hr (by omega) (frms rs ++ z)
    have ih := scan_frms (rs := rs) (B := B) (fun x hx => h x (by simp [hx])) hB z hz
    rw [e0, scan_step _ (by rw [hu]), hu]
    have ed : (frm r ++ (frms rs ++ z)).drop (r.length + 7) = frms rs ++ z := by
      rw [← frm_len r, List.drop_left]
    simp only [ed, ih, frms, List.length_append, frm_len]
theorem LD_read (room : Nat) (b : List Nat) (s : Bool) (hs : s = false → b = []) : (LD room b s).read lgN = (b, if s then 0 else 15) := by
  cases s with
  | true => simp [LD, Dk.read, Dk.has, nms, Dk.of, fget]
  | false => simp [LD, Dk.read, Dk.has, nms, hs rfl]
theorem LD_drop (room : Nat) (b : List Nat) (s : Bool) : (LD room b s).drop = (LD room b s, 0) := by
  unfold Dk.drop
  rw [if_neg (by cases s <;> simp [LD, nms])]
theorem LD_tot (room : Nat) (b : List Nat) (s : Bool) (hs : s = false → b = []) : tot (LD room b s).fs = b.length := by
  cases s with
  | true => simp [LD, tot]
  | false => simp [LD, tot, hs rfl]
theorem LD_open {room : Nat} {rs : List (List Nat)} {B : Nat} (h : Rb rs B) (hB : B ≤ 1000000) (s : Bool) (hs : s = false → rs = []) : (LD room (frms rs) s).opn = (LL room rs s, rs, 0) := by
  have hs' : s = false → frms rs = [] := fun q => by rw [hs q]; rfl
  have hsc : scan (frms rs) = (rs, (frms rs).length) := by
    have := scan_frms h hB [] (by rw [ufr_nil]; decide)
    rwa [List.append_nil] at this
  unfold Dk.opn
  rw [if_neg (by simp [LD]), LD_drop, if_neg (by simp)]
  show (if ((LD room (frms rs) s).read lgN).2 ≠ 0 ∧ ((LD room (frms rs) s).read lgN).2 ≠ 15 then _ else _) = _
  rw [LD_read _ _ _ hs', if_neg (by cases s <;> simp)]
  show (if (scan (frms rs)).2 < (frms rs).length then _ else _) = _
  rw [hsc, if_neg (by simp)]
  rfl
theorem LL_append {room : Nat} {rs : List (List Nat)} {s : Bool} (hs : s = false → rs = []) (b : List Nat) (hn : rs.length < 200) (hr : 2 * (b.length + 7) + 2 * (frms rs).length ≤ room) : (LL room rs s).append b = (LL room (rs ++ [b]) true, 0) := by
  have hs' : s = false → frms rs = [] := fun q => by rw [hs q]; rfl
  have ht := LD_tot room (frms rs) s hs'
  have hfl := frm_len b
  have ha : (LD room (frms rs) s).append lgN (frm b) = (⟨room, [⟨lgN, frms rs ++ frm b, if s then (frms rs).length else 0⟩], false, 0, 0, false⟩, 0) := by
    unfold Dk.append
    rw [if_neg (by simp [LD]), if_neg (by rw [ht]; show ¬ room - (frms rs).length < _; omega)]
    cases s with
    | true => simp [LD, Dk.doing, Dk.cutNow, Dk.tick, Dk.app, Dk.put, Dk.of, fget, fput]
    | false => simp [LD, Dk.doing, Dk.cutNow, Dk.tick, Dk.app, Dk.put, Dk.of, fget, fput, hs' rfl]
  have hy : Dk.sync ⟨room, [⟨lgN, frms rs ++ frm b, if s then (frms rs).length else 0⟩], false, 0, 0, false⟩ lgN = (LD room (frms rs ++ frm b) true, 0) := by
    simp [LD, Dk.sync, Dk.has, nms, Dk.doing, Dk.cutNow, Dk.tick, Dk.syn, Dk.put, Dk.of, fget, fput]
  have e1 : frms (rs ++ [b]) = frms rs ++ frm b := by rw [frms_app]; simp [frms]
  unfold Lg.append
  rw [if_neg (by show ¬ 200 ≤ rs.length; omega)]
  show (if (LD room (frms rs) s).dead = true then _ else if (LD room (frms rs) s).room - tot (LD room (frms rs) s).fs < 2 * (frm b).length + (frms rs).length then _ else if ((LD room (frms rs) s).append lgN (frm b)).2 ≠ 0 then _ else if (((LD room (frms rs) s).append lgN (frm b)).1.sync lgN).2 ≠ 0 then _ else _) = _
  rw [if_neg (by simp [LD]), if_neg (by rw [ht]; show ¬ room - (frms rs).length < _; omega), ha, if_neg (by simp)]
  show (if (Dk.sync ⟨room, [⟨lgN, frms rs ++ frm b, if s then (frms rs).length else 0⟩], false, 0, 0, false⟩ lgN).2 ≠ 0 then _ else _) = _
  rw [hy, if_neg (by simp)]
  show (Lg.mk (((LD room (frms rs) s).append lgN (frm b)).1.sync lgN).1 (rs.length + 1) ((frms rs).length + (frm b).length), 0) = _
  rw [ha]
  show (Lg.mk (Dk.sync ⟨room, [⟨lgN, frms rs ++ frm b, if s then (frms rs).length else 0⟩], false, 0, 0, false⟩ lgN).1 (rs.length + 1) ((frms rs).length + (frm b).length), 0) = _
  rw [hy]
  unfold LL
  rw [e1]
  simp
theorem LL_pack {room : Nat} {old rs : List (List Nat)} {s : Bool} (hs : s = false → old = []) (hn : rs.length ≤ 200) (hr : (frms old).length + (frms rs).length ≤ room) : (LL room old s).pack rs = (LL room rs true, 0) := by
  have hs' : s = false → frms old = [] := fun q => by rw [hs q]; rfl
  have ht := LD_tot room (frms old) s hs'
  have hp : (LD room (frms old) s).packs (frms rs) = (LD room (frms rs) true, 0) := by
    have ha : (LD room (frms old) s).append nwN (frms rs) = (⟨room, (if s then [⟨lgN, frms old, (frms old).length⟩] else []) ++ [⟨nwN, frms rs, 0⟩], false, 0, 0, false⟩, 0) := by
      unfold Dk.append
      rw [if_neg (by simp [LD]), if_neg (by rw [ht]; show ¬ room - (frms old).length < _; omega)]
      cases s <;> simp [LD, Dk.doing, Dk.cutNow, Dk.tick, Dk.app, Dk.put, Dk.of, fget, fput]
    have hy : Dk.sync ⟨room, (if s then [⟨lgN, frms old, (frms old).length⟩] else []) ++ [⟨nwN, frms rs, 0⟩], false, 0, 0, false⟩ nwN = (⟨room, (if s then [⟨lgN, frms old, (frms old).length⟩] else []) ++ [⟨nwN, frms rs, (frms rs).length⟩], false, 0, 0, false⟩, 0) := by
      cases s <;> simp [Dk.sync, Dk.has, nms, Dk.doing, Dk.cutNow, Dk.tick, Dk.syn, Dk.put, Dk.of, fget, fput]
    have hz : Dk.rename ⟨room, (if s then [⟨lgN, frms old, (frms old).length⟩] else []) ++ [⟨nwN, frms rs, (frms rs).length⟩], false, 0, 0, false⟩ nwN lgN = (LD room (frms rs) true, 0) := by
      cases s <;> simp [LD, Dk.rename, Dk.has, nms, Dk.doing, Dk.cutNow, Dk.tick, Dk.ren, Dk.of, fget, fput, fdel]
    unfold Dk.packs
    rw [ha, if_neg (by simp), hy, if_neg (by simp), hz]
  unfold Lg.pack
  rw [if_neg (by omega)]
  show (if ((LD room (frms old) s).packs (frms rs)).2 = 0 then _ else _) = _
  rw [hp, if_pos rfl]
  show (Lg.mk ((LD room (frms old) s).packs (frms rs)).1 rs.length (frms rs).length, 0) = _
  rw [hp]
  rfl
theorem LD_new {k : Nat} (hk : k ≤ 60000) : newD (k : Int) = LD k (frms []) false := newD_k rfl hk
-- what Open answers, told
theorem OpR.ok {F0 F : FAW} {d m : Nat} {L : Lg} {rs : List (List Nat)} {lv rv : FV} (h : OpR F0 F d m L rs 0 lv rv) : ∃ x mr, lv = .p x 0 ∧ F0.x ≤ x ∧ LK F x d m L ∧ RL F rv rs mr ∧ (rs ≠ [] → F0.x ≤ mr) := by
  rcases h with h | ⟨_, h⟩
  · exact absurd rfl h.1
  · exact h
theorem mark_new {F : FAW} {el : Nat} {c : List FV} {n k : Nat} (hk : 1 ≤ k) (f : KU) : uMark (.l F.x 0 n k) (F.new c el 1) f = f (.l F.x 0 n k) (F.new c el 1) := by
  have hr : (F.new c el 1).row F.x = some (c, el, 1, F.x, false) := by rw [row_new, if_pos rfl]
  show findH (F.new c el 1).h F.x (fun _ _ _ _ ro => cn (an (nt ro) (Nat.ble 1 k)) (f (.l F.x 0 n k) (F.new c el 1)) .no) = _
  rw [findH_get _ hr, an_eq, nt_eq, bleU, decide_eq_true hk]; rfl
theorem lit1_b (x : Nat) (F : FAW) (f : KU) : uLitF 5 1 [.b 0] 1 [(0, 1, .b x)] F f = f (.l F.x 0 1 1) (F.new ([x].map FV.b) 5 1) := by
  have e : uLitF 5 1 [.b 0] 1 [(0, 1, .b x)] F f = newU ([x].map FV.b) 5 1 F fun i F' => f (.l i 0 1 1) F' := rfl
  rw [e, newU_new]
theorem LD_bf {room : Nat} {rs : List (List Nat)} {B : Nat} (h : Rb rs B) (s : Bool) : (LD room (frms rs) s).Bf := by
  intro f hf
  cases s with
  | true =>
    have : f = ⟨lgN, frms rs, (frms rs).length⟩ := by simpa [LD] using hf
    subst this
    exact frms_bs h
  | false => simp [LD] at hf
theorem LD_len (room : Nat) (b : List Nat) (s : Bool) : (LD room b s).fs.length ≤ 1 := by cases s <;> simp [LD]
/-- Open, of a whole disk. -/
theorem open_LD (N : Nat) (hN : 600000 ≤ N) {F : FAW} (hw : Wf F) {d m room : Nat} {rs : List (List Nat)} {s : Bool} {B : Nat} (h : Rb rs B) (hB : B ≤ 1000000) (hs : s = false → rs = []) (k : DK F d m (LD room (frms rs) s)) :
    ∃ x rv mr F', clU dskD N 37 [.p d 0] F = .ok (.u [.p x 0, rv, .n 0]) F' ∧ F.x ≤ x ∧ LK F' x d m (LL room rs s) ∧ RL F' rv rs mr ∧ (rs ≠ [] → F.x ≤ mr) ∧ Sg F F' (· = d) No (· = m) ∧ Wf F' := by
  obtain ⟨lv, rv, F', e1, e2, e3, e4⟩ := t37 N hN hw k (LD_bf h s) (Nat.le_trans (LD_len _ _ _) (by decide))
  rw [LD_open h hB s hs] at e1 e2
  obtain ⟨x, mr, rfl, g1, g2, g3, g4⟩ := e2.ok
  exact ⟨x, rv, mr, F', e1, g1, g2, g3, g4, e3, e4⟩
theorem unfreshL {F F1 F2 : FAW} {x d m : Nat} (hw : Wf F) (h : Sq F F1) (hx : F.x ≤ x) (hd : F.x ≤ d) (hm : F.x ≤ m) (k : Sg F1 F2 (AL x d) No (· = m)) : Sq F F2 :=
  h.fresh hw k (fun j hj q => by rcases q with q | q <;> omega) (fun j hj q => q) (fun j hj q => by omega)
theorem rb1 {x : Nat} (hx : x < 256) (B : Nat) (hB : 1 ≤ B) : Rb [[x]] B := fun r hr => by
  simp only [List.mem_singleton] at hr
  subst hr
  exact ⟨fun y hy => by simp only [List.mem_singleton] at hy; omega, hB⟩
theorem begun28_ok (N : Nat) (hN : 700000 ≤ N) {F : FAW} (hw : Wf F) : ∃ F', clU dskD N 32 [] F = .ok (.t true) F' ∧ Sq F F' ∧ Wf F' := by
  obtain ⟨n, rfl⟩ : ∃ n, N = n + 1 := ⟨N - 1, by omega⟩
  obtain ⟨F1, e1, k1, s1, w1⟩ := dnew_ok n (by omega) hw 200
  have k1 : DK F1 (F.x + 1) F.x (LD 200 (frms []) false) := by
    have := LD_new (k := 200) (by decide)
    rw [← this]; exact k1
  have e1 : clU dskD n 15 [.n 200] F = .ok (.p (F.x + 1) 0) F1 := e1
  have hd : F.x ≤ F.x + 1 := Nat.le_succ _
  have r0 : Rb [] 1 := fun r hr => (by cases hr)
  obtain ⟨x, rv, mr, F2, e2, g1, g2, g3, g4, s2, w2⟩ := open_LD n (by omega) w1 r0 (by decide) (fun _ => rfl) k1
  have sq2 : Sq F F2 := unfresh hw s1 hd (Nat.le_refl _) s2
  have hx : F.x ≤ x := Nat.le_trans s1.x g1
  -- Append
  have sa : Sq F2 (F2.new ([97].map FV.b) 5 1) := Sq.new w2 _ _ _
  have wa := w2.new ([97].map FV.b) 5 1
  obtain ⟨F3, e3, k3, s3, w3⟩ := t38 n wa (g2.sq sa) (by show 8 * 1 + 40 ≤ n; omega) (lit_by (el := 5) [97] F2 w2) (fun x hx => by simp at hx; omega) (by decide) (by show 0 ≤ 1000000; decide)
  have p3 : (LL 200 [] false).append [97] = (LL 200 [[97]] true, 0) := LL_append (fun _ => rfl) [97] (by decide) (by decide)
  rw [p3] at e3 k3
  have sq3 : Sq F F3 := unfreshL hw (sq2.trans sa) hx hd (Nat.le_refl _) s3
  -- Open
  obtain ⟨y, rv4, mr4, F4, e4, h1, h2, h3, h4, s4, w4⟩ := open_LD n (by omega) w3 (rb1 (x := 97) (by decide) 1 (by decide)) (by decide) (fun q => by cases q) k3.dk
  have sq4 : Sq F F4 := unfresh hw sq3 hd (Nat.le_refl _) s4
  have hy : F.x ≤ y := Nat.le_trans sq3.x h1
  -- Pack
  have sb : Sq F4 (F4.new ([98].map FV.b) 5 1) := Sq.new w4 _ _ _
  have wb := w4.new ([98].map FV.b) 5 1
  have sc : Sq (F4.new ([98].map FV.b) 5 1) ((F4.new ([98].map FV.b) 5 1).new ([99].map FV.b) 5 1) := Sq.new wb _ _ _
  have wc := wb.new ([99].map FV.b) 5 1
  have hbb := (lit_by (el := 5) [98] F4 w4).sq sc
  have hbc := lit_by (el := 5) [99] (F4.new ([98].map FV.b) 5 1) wb
  have l5 := fun f : KU => lit2_by hbb hbc ((F4.new ([98].map FV.b) 5 1).new ([99].map FV.b) 5 1) f
  obtain ⟨G, hG⟩ : ∃ G, G = (F4.new ([98].map FV.b) 5 1).new ([99].map FV.b) 5 1 := ⟨_, rfl⟩
  rw [← hG] at sc wc hbb hbc l5
  have sd : Sq G (G.new [.l F4.x 0 1 1, .l (F4.new ([98].map FV.b) 5 1).x 0 1 1] 28 1) := Sq.new wc _ _ _
  have wd := wc.new [.l F4.x 0 1 1, .l (F4.new ([98].map FV.b) 5 1).x 0 1 1] 28 1
  have hrs : RS (G.new [.l F4.x 0 1 1, .l (F4.new ([98].map FV.b) 5 1).x 0 1 1] 28 1) (.l G.x 0 2 2) [[98], [99]] :=
    ⟨[.l F4.x 0 1 1, .l (F4.new ([98].map FV.b) 5 1).x 0 1 1], .inr ⟨G.x, 0, 2, 28, G.x, false, _, rfl, by rw [row_new, if_pos rfl], rfl, by simp⟩, hbb.sq sd, hbc.sq sd, trivial⟩
  have sd4 : Sq F4 (G.new [.l F4.x 0 1 1, .l (F4.new ([98].map FV.b) 5 1).x 0 1 1] 28 1) := (sb.trans sc).trans sd
  obtain ⟨F5, e5, k5, s5, w5⟩ := t40 n 1 (by decide) (by omega) wd (h2.sq sd4) hrs (fun r hr => by
    simp only [List.mem_cons, List.not_mem_nil, or_false] at hr
    rcases hr with rfl | rfl <;> exact ⟨fun y hy => by simp at hy; omega, by decide⟩) (by simp [frms, frm_len]) (by show 1 ≤ 900; decide)
  have p5 : (LL 200 [[97]] true).pack [[98], [99]] = (LL 200 [[98], [99]] true, 0) := LL_pack (fun q => by cases q) (by decide) (by simp [frms, frm_len])
  rw [p5] at e5 k5
  have sq5 : Sq F F5 := unfreshL hw (sq4.trans sd4) hy hd (Nat.le_refl _) s5
  -- Scan of Seal
  have se : Sq F5 (F5.new ([120].map FV.b) 5 1) := Sq.new w5 _ _ _
  have we := w5.new ([120].map FV.b) 5 1
  have b120 : Bs [120] := fun x hx => by simp at hx; omega
  obtain ⟨v6, F6, m6, e6, b6, x6, s6, w6⟩ := t33 n (by show 8 * 1 + 13 ≤ n; omega) (lit_by (el := 5) [120] F5 w5) b120 we (by decide)
  obtain ⟨v7, F7, m7, e7, r7, n7, s7, w7⟩ := t34 n (by rw [frm_len]; show 8 * (1 + 7) + 24 ≤ n; omega) b6.by (frm_bs b120) w6 (by rw [frm_len]; decide)
  have p7 : scan (frm [120]) = ([[120]], 8) := by
    have := scan_frms (rs := [[120]]) (rb1 (by decide) 1 (by decide)) (by decide) [] (by rw [ufr_nil]; decide)
    simpa [frms, frm_len] using this
  rw [p7] at e7 r7
  have sq7 : Sq F F7 := ((sq5.trans se).trans s6).trans s7
  have k7 := ((k5.sq se).sq s6).sq s7
  have e8 := t39 n (by omega) k7
  have h37 : RL F7 rv4 [[97]] mr4 := (((h3.sq sd4).sg s5 (fun i r e q o hr hi => by
    exact (h2.sq sd4).not1 i r e q o hr hi) (fun q => q)).sq se |>.sq s6).sq s7
  obtain ⟨c9, b9, g9⟩ := h37.rs.get (i := 0) (r := [97]) rfl
  have q97 : ∀ (F : FAW) (f : KU), uEq false .eql (.s [97]) (.s [97]) F f = f (.t true) F := fun _ _ => rfl
  have q0 : ∀ (F : FAW) (f : KU), uEq false .eql (.n 0) (.n 0) F f = f (.t true) F := fun _ _ => rfl
  have q1 : ∀ (F : FAW) (f : KU), uEq false .eql (.n 1) (.n 1) F f = f (.t true) F := fun _ _ => rfl
  have q2 : ∀ (F : FAW) (f : KU), uEq false .eql (.n 2) (.n 2) F f = f (.t true) F := fun _ _ => rfl
  have q8 : ∀ (F : FAW) (f : KU), uEq false .eql (.n 8) (.n 8) F f = f (.t true) F := fun _ _ => rfl
  have hnp := fun (i : Nat) F f => uEqN_pp false i 0 F f
  have hl2 := g3.rs.len
  have hl37 := h37.rs.len
  have hl7 := r7.rs.len
  have z1 : ([] : List (List Nat)).length = 0 := rfl
  have z2 : ([[97]] : List (List Nat)).length = 1 := rfl
  have z3 : ([[120]] : List (List Nat)).length = 1 := rfl
  rw [z1] at hl2; rw [z2] at hl37; rw [z3] at hl7
  refine ⟨F7, ?_, sq7, w7⟩
  rw [cl32, u32_in]
  have m1 := fun f : KU => mark_new (F := F2) (el := 5) (c := [97].map FV.b) (n := 1) (k := 1) (by decide) f
  have m2 := fun f : KU => mark_new (F := F4) (el := 5) (c := [98].map FV.b) (n := 1) (k := 1) (by decide) f
  have m3 := fun f : KU => mark_new (F := F4.new ([98].map FV.b) 5 1) (el := 5) (c := [99].map FV.b) (n := 1) (k := 1) (by decide) f
  have m4 := fun f : KU => mark_new (F := F5) (el := 5) (c := [120].map FV.b) (n := 1) (k := 1) (by decide) f
  rw [← hG] at m3
  have l3 := fun f : KU => lit1_b 99 (F4.new ([98].map FV.b) 5 1) f
  rw [← hG] at l3
  have e8 : clU dskD n 39 [.p y 0] F7 = .ok (.n 2) F7 := e8
  have e3 : clU dskD n 38 [.p x 0, .l F2.x 0 1 1] (F2.new ([97].map FV.b) 5 1) = .ok (.n 0) F3 := e3
  have e6 : clU dskD n 33 [.l F5.x 0 1 1] (F5.new ([120].map FV.b) 5 1) = .ok v6 F6 := e6
  have e5 : clU dskD n 40 [.p y 0, .l G.x 0 2 2] (G.new [.l F4.x 0 1 1, .l (F4.new ([98].map FV.b) 5 1).x 0 1 1] 28 1) = .ok (.n 0) F5 := e5
  have e7 : clU dskD n 34 [v6] F6 = .ok (.u [v7, .n 8]) F7 := e7
  have l5 : ∀ f : KU, uLitF 28 1 [.nl] 2 [(0, 1, .l F4.x 0 1 1), (1, 1, .l (F4.new ([98].map FV.b) 5 1).x 0 1 1)] G f = f (.l G.x 0 2 2) (G.new [.l F4.x 0 1 1, .l (F4.new ([98].map FV.b) 5 1).x 0 1 1] 28 1) := l5
  have l1 := fun f : KU => lit1_b 97 F2 f
  have l2 := fun f : KU => lit1_b 98 F4 f
  have l4 := fun f : KU => lit1_b 120 F5 f
  simp -implicitDefEqProofs only [↓SS, Nat.zero_add, Nat.add_zero, Bool.not_true, Bool.not_false, ↓u32b, ↓u32_0, ↓u32_1, ↓u32_2, ↓u32_3, ↓u32_4, ↓u32_5, ↓u32_6, ↓u32_7, ↓u32_8, ↓u32_9, ↓u32_10, ↓u32_11, ↓u32_12, ↓u32_13, ↓m14_mk, ↓k14_mk, ↓u32r_mk, ↓e1, ↓e2, ↓ne_00, ↓hnp, ↓hl2, ↓l1, ↓m1, ↓e3, ↓e4, ↓l2, ↓m2, ↓l3, ↓m3, ↓l5, ↓e5, ↓l4, ↓m4, ↓e6, ↓e7, ↓q0, ↓hl37, ↓q1, ↓g9, ↓b9.str, ↓q97, ↓e8, ↓q2, ↓hl7, ↓q8]
end Go.Proofs.Ythclmjelknibhaa.Ev
/- What is handed in: slices of structs whose cells are numbers, truths, texts, rows of bytes. -/
namespace Go.Proofs.Ythclmjelknibhaa.Ev
open Go Go.RowKit
set_option linter.unusedVariables false
set_option linter.constructorNameAsVariable false
set_option linter.unusedSimpArgs false
set_option linter.unusedSectionVars false

/-- A leaf's kind, and what it holds. -/
inductive Lf where
  | int (k : IntKind)
  | bl
  | str
  | by
inductive Ld where
  | i (z : Int)
  | t (b : Bool)
  | s (l : List Nat)
  | y (l : List Nat)
/-- Bytes that are handed in. -/
def BA (W : World) (v : Value) (l : List Nat) : Prop := (∃ a len cap zs, v = .slice a len cap ∧ SliceArg W .u8 a len cap zs ∧ l = zs.map Int.toNat) ∨ (∃ x, v = .slice (some x) 0 0 ∧ l = [])
def LA (W : World) : Lf → Value → Ld → Prop
  | .int k, v, .i z => v = .int k z ∧ (Lit.int k z).wf = true
  | .bl, v, .t b => v = .bool b
  | .str, v, .s l => ∃ s : ByteArray, v = .string s ∧ l = bytesOf s
  | .by, v, .y l => BA W v l
  | _, _, _ => False
def LR (F : FAW) : Lf → FV → Ld → Prop
  | .int k, v, .i z => v = numV k z ∧ (Lit.int k z).wf = true
  | .bl, v, .t b => v = .t b
  | .str, v, .s l => v = .s l ∧ Bs l
  | .by, v, .y l => By F v l ∧ Bs l
  | _, _, _ => False
theorem LR.std {F F' : FAW} {A B : Nat → Prop} (hs : Std F F' A B) (hA : ∀ i r e m o, F.row i = some (r, e, 1, m, o) → ¬ A i) : ∀ {f : Lf} {v : FV} {d : Ld}, LR F f v d → LR F' f v d := by
  intro f v d h
  cases f <;> cases d <;> first
    | exact h
    | exact ⟨h.1.std hs hA, h.2⟩
/-- An empty row, for slices without room. -/
theorem arg_none {W : World} {ρ : Ren} {S : AW} {F : FAW} (h : RelW (Fz.of W) ρ S W) (u : UR F S) (hw : Wf F) {blk : Nat} {C : Array Value} {el : TypeId} {G : Nat × Nat} (hb : W.heap[blk]? = some (.cells C el G)) (x : Addr) :
    ∃ ρ' S' F' fv, RelW (Fz.of W) ρ' S' W ∧ UR F' S' ∧ ρ.le ρ' ∧ VRel ρ' (toV fv) (.slice (some x) 0 0) ∧ By F' fv [] ∧ Std F F' (fun _ => False) (fun _ => False) ∧ Wf F' := by
  have h1 := h.arg (toVs []) el 1 (off := 0) hb (fun i v hi _ => by simp [toVs] at hi)
  refine ⟨_, _, F.arg [] el 1, .l F.x 0 0 0, h1, u.arg _ _ _, Ren.le_add _ (h.fresh _ (Nat.le_refl _)), ?_, .inr ⟨F.x, 0, 0, el, F.x, true, [], rfl, Nat.le_refl _, by rw [row_arg, if_pos rfl], rfl, Nat.le_refl _⟩, Std.arg hw _ _ _ _ _, hw.arg _ _ _⟩
  have : VRel (ρ.add S.next ⟨blk, ((0 : Nat) : Int), C.size, 1⟩) (.slice (some ⟨S.next, 0, none⟩) 0 0) (.slice (some x) 0 0) :=
    .slice (p := ⟨blk, ((0 : Nat) : Int), C.size, 1⟩) (Ren.add_same _ _ _) (Nat.le_refl _) (Nat.le_refl _) (fun h0 => by omega)
  rw [← u.next] at this ⊢
  simpa only [toV] using this
theorem arg_leaf {W : World} {blk : Nat} {C : Array Value} {el : TypeId} {G : Nat × Nat} (hb : W.heap[blk]? = some (.cells C el G)) {f : Lf} {v : Value} {d : Ld} (ha : LA W f v d) {ρ : Ren} {S : AW} {F : FAW} (h : RelW (Fz.of W) ρ S W) (u : UR F S) (hw : Wf F) :
    ∃ ρ' S' F' fv, RelW (Fz.of W) ρ' S' W ∧ UR F' S' ∧ ρ.le ρ' ∧ VRel ρ' (toV fv) v ∧ LR F' f fv d ∧ Std F F' (fun _ => False) (fun _ => False) ∧ Wf F' := by
  cases f with
  | int k =>
    cases d <;> first | (exact ha.elim) | skip
    rename_i z
    obtain ⟨rfl, hz⟩ := ha
    exact ⟨ρ, S, F, numV k z, h, u, Ren.le_refl _, by rw [numV_to]; exact .int _ _, ⟨rfl, hz⟩, Std.refl _ _ _, hw⟩
  | bl =>
    cases d <;> first | (exact ha.elim) | skip
    rename_i b
    obtain rfl := (show v = .bool b from ha)
    exact ⟨ρ, S, F, .t b, h, u, Ren.le_refl _, .bool _, rfl, Std.refl _ _ _, hw⟩
  | str =>
    cases d <;> first | (exact ha.elim) | skip
    rename_i l
    obtain ⟨s, rfl, rfl⟩ := ha
    exact ⟨ρ, S, F, .s (bytesOf s), h, u, Ren.le_refl _, by rw [toV_bytes]; exact .string _, ⟨rfl, bytesOf_bs s⟩, Std.refl _ _ _, hw⟩
  | «by» =>
    cases d <;> first | (exact ha.elim) | skip
    rename_i l
    rcases ha with ⟨a, len, cap, zs, rfl, hs, rfl⟩ | ⟨x, rfl, rfl⟩
    · rcases hs with ⟨rfl, rfl, rfl, rfl⟩ | ⟨x, C', elem, G', rfl, hsp, hb', hl, hz, hc, hcell, hwz⟩
      · exact ⟨ρ, S, F, .nl, h, u, Ren.le_refl _, .nils, ⟨.inl ⟨rfl, rfl⟩, Bs.nil⟩, Std.refl _ _ _, hw⟩
      · have hm := map_num8 hwz
        have hs : SliceArg W .u8 (some x) len cap zs := .inr ⟨x, C', elem, G', rfl, hsp, hb', hl, hz, hc, hcell, hwz⟩
        have h1 := h.arg (toVs (zs.map (numV .u8))) elem 1 (off := x.off) hb' (fun i v hi hbad => by
          rw [toVs_map, List.getElem?_map, List.getElem?_map] at hi
          cases hzi : zs[i]? with
          | none => rw [hzi] at hi; cases hi
          | some z =>
            rw [hzi] at hi
            simp only [Option.map_some, Option.some.injEq] at hi
            subst hi
            refine ⟨.int .u8 z, hcell i z hzi, ?_⟩
            rw [numV_to]
            exact .int _ _)
        have hlen : (zs.map Int.toNat).length = len := by rw [List.length_map, hz]
        refine ⟨_, _, F.arg (zs.map (numV .u8)) elem 1, .l F.x 0 len len, h1, u.arg _ _ _, Ren.le_add _ (h.fresh _ (Nat.le_refl _)), ?_, ⟨.inr ⟨F.x, 0, len, elem, F.x, true, zs.map (numV .u8), by rw [hlen], by rw [hlen]; exact Nat.le_refl _, by rw [row_arg, if_pos rfl], by rw [List.drop_zero, ← hm.1, hlen, List.take_of_length_le (by rw [List.length_map, hz]; exact Nat.le_refl _)], by rw [hlen, List.length_map, hz, Nat.zero_add]; exact Nat.le_refl _⟩, hm.2⟩, Std.arg hw _ _ _ _ _, hw.arg _ _ _⟩
        have : VRel (ρ.add S.next ⟨x.block, x.off, C'.size, 1⟩) (.slice (some ⟨S.next, 0, none⟩) len len) (.slice (some x) len cap) :=
          .slice (p := ⟨x.block, x.off, C'.size, 1⟩) (Ren.add_same _ _ _) (Nat.le_refl _) hl (fun h0 => ⟨x.off, by cases x; simp_all, by simp, by have := hc h0; simp; omega⟩)
        rw [← u.next] at this ⊢
        simpa only [toV] using this
    · obtain ⟨ρ', S', F', fv, k1, k2, k3, k4, k5, k6, k7⟩ := arg_none h u hw hb x
      exact ⟨ρ', S', F', fv, k1, k2, k3, k4, ⟨k5, Bs.nil⟩, k6, k7⟩
/-- Leaves, one behind the other. -/
theorem arg_leaves {W : World} {blk : Nat} {C : Array Value} {el : TypeId} {G : Nat × Nat} (hb : W.heap[blk]? = some (.cells C el G)) : ∀ (ls : List (Lf × Value × Ld)), (∀ x ∈ ls, LA W x.1 x.2.1 x.2.2) → ∀ {ρ : Ren} {S : AW} {F : FAW}, RelW (Fz.of W) ρ S W → UR F S → Wf F →
    ∃ (ρ' : Ren) (S' : AW) (F' : FAW) (ws : List FV), RelW (Fz.of W) ρ' S' W ∧ UR F' S' ∧ ρ.le ρ' ∧ ws.length = ls.length ∧ (∀ (i : Nat) (x : Lf × Value × Ld) (w : FV), ls[i]? = some x → ws[i]? = some w → VRel ρ' (toV w) x.2.1 ∧ LR F' x.1 w x.2.2) ∧ Std F F' (fun _ => False) (fun _ => False) ∧ Wf F'
  | [], _, ρ, S, F, h, u, hw => ⟨ρ, S, F, [], h, u, Ren.le_refl _, rfl, fun i x w hi => by simp at hi, Std.refl _ _ _, hw⟩
  | a :: ls, ha, ρ, S, F, h, u, hw => by
    obtain ⟨ρ1, S1, F1, fv, k1, k2, k3, k4, k5, k6, k7⟩ := arg_leaf hb (ha a (by simp)) h u hw
    obtain ⟨ρ2, S2, F2, ws, g1, g2, g3, g4, g5, g6, g7⟩ := arg_leaves hb ls (fun x hx => ha x (by simp [hx])) k1 k2 k7
    refine ⟨ρ2, S2, F2, fv :: ws, g1, g2, Ren.le_trans k3 g3, by simp [g4], fun i x w hi hw' => ?_, k6.trans g6, g7⟩
    cases i with
    | zero =>
      simp only [List.getElem?_cons_zero, Option.some.injEq] at hi hw'
      subst hi hw'
      exact ⟨k4.mono g3, k5.std g6 (fun _ _ _ _ _ _ q => q)⟩
    | succ i =>
      simp only [List.getElem?_cons_succ] at hi hw'
      exact g5 i x w hi hw'
/-- A slice of structs that is handed in. -/
def SA (W : World) (fs : List Lf) (v : Value) (ds : List (List Ld)) : Prop :=
  (v = .slice none 0 0 ∧ ds = []) ∨ ∃ x len cap C el G, v = .slice (some x) len cap ∧ x.spot = none ∧ W.heap[x.block]? = some (.cells C el G) ∧ len ≤ cap ∧ (0 < cap → x.off + cap * fs.length ≤ C.size) ∧ ds.length = len ∧
    ∀ k, k < len → ∀ j, j < fs.length → ∃ f w e d, fs[j]? = some f ∧ C[x.off + (k * fs.length + j)]? = some w ∧ ds[k]? = some e ∧ e.length = fs.length ∧ e[j]? = some d ∧ LA W f w d
/-- In memory. -/
def SR (F : FAW) (fs : List Lf) (v : FV) (ds : List (List Ld)) : Prop :=
  (v = .nl ∧ ds = []) ∨ ∃ i c el m cells, v = .l i 0 ds.length c ∧ F.row i = some (cells, el, fs.length, m, true) ∧ cells.length = ds.length * fs.length ∧ (∀ e ∈ ds, e.length = fs.length) ∧
    ∀ k j f d e, fs[j]? = some f → ds[k]? = some e → e[j]? = some d → ∃ w, cells[k * fs.length + j]? = some w ∧ LR F f w d
theorem flat_get {α : Type} {n : Nat} : ∀ {ds : List (List α)}, (∀ e ∈ ds, e.length = n) → ∀ (k j : Nat) (e : List α), ds[k]? = some e → j < n → (ds.flatMap id)[k * n + j]? = e[j]?
  | [], _, k, j, e, h, _ => by simp at h
  | d :: ds, hd, 0, j, e, h, hj => by
    simp only [List.getElem?_cons_zero, Option.some.injEq] at h
    subst h
    have := hd d (by simp)
    simp only [List.flatMap_cons, id, Nat.zero_mul, Nat.zero_add]
    rw [List.getElem?_append_left (by omega)]
  | d :: ds, hd, k + 1, j, e, h, hj => by
    simp only [List.getElem?_cons_succ] at h
    have hl := hd d (by simp)
    have ih := flat_get (n := n) (ds := ds) (fun e he => hd e (by simp [he])) k j e h hj
    simp only [List.flatMap_cons, id]
    rw [List.getElem?_append_right (by rw [hl, Nat.add_mul]; omega), hl]
    have : (k + 1) * n + j - n = k * n + j := by rw [Nat.add_mul]; omega
    rw [this]; exact ih
theorem arg_structs {W : World} {ρ : Ren} {S : AW} {F : FAW} (h : RelW (Fz.of W) ρ S W) (u : UR F S) (hw : Wf F) {fs : List Lf} (hfs : 0 < fs.length) {v : Value} {ds : List (List Ld)} (ha : SA W fs v ds) :
    ∃ ρ' S' F' fv, RelW (Fz.of W) ρ' S' W ∧ UR F' S' ∧ ρ.le ρ' ∧ VRel ρ' (toV fv) v ∧ SR F' fs fv ds ∧ Std F F' (fun _ => False) (fun _ => False) ∧ Wf F' := by
  rcases ha with ⟨rfl, rfl⟩ | ⟨x, len, cap, C, el, G, rfl, hsp, hb, hl, hc, hlen, hall⟩
  · exact ⟨ρ, S, F, .nl, h, u, Ren.le_refl _, .nils, .inl ⟨rfl, rfl⟩, Std.refl _ _ _, hw⟩
  · -- all leaves in a row
    have hdl : ∀ e ∈ ds, e.length = fs.length := fun e he => by
      obtain ⟨k, hk, hk2⟩ := List.getElem_of_mem he
      obtain ⟨_, _, e', _, _, _, q, q2, _, _⟩ := hall k (by omega) 0 hfs
      rw [List.getElem?_eq_getElem hk, hk2] at q
      simp only [Option.some.injEq] at q
      subst q; exact q2
    obtain ⟨ls, hls⟩ : ∃ ls : List (Lf × Value × Ld), ls = (List.range (len * fs.length)).map fun q => (fs.getD (q % fs.length) .bl, C.getD (x.off + q) .nilIface, (ds.flatMap id).getD q (.t false)) := ⟨_, rfl⟩
    have hget : ∀ q, q < len * fs.length → ∃ f w d, ls[q]? = some (f, w, d) ∧ fs[q % fs.length]? = some f ∧ C[x.off + q]? = some w ∧ (ds.flatMap id)[q]? = some d ∧ LA W f w d := by
      intro q hq
      have hk : q / fs.length < len := (Nat.div_lt_iff_lt_mul hfs).mpr hq
      have hj : q % fs.length < fs.length := Nat.mod_lt _ hfs
      obtain ⟨f, w, e, d, q1, q2, q3, q4, q5, q6⟩ := hall _ hk _ hj
      have hqq : q / fs.length * fs.length + q % fs.length = q := by rw [Nat.mul_comm]; exact Nat.div_add_mod q fs.length
      rw [hqq] at q2
      have q7 := flat_get hdl _ _ e q3 hj
      rw [hqq, q5] at q7
      refine ⟨f, w, d, ?_, q1, q2, q7, q6⟩
      rw [hls, List.getElem?_map, List.getElem?_range hq]
      simp only [Option.map_some, List.getD_eq_getElem?_getD, q1, q7, Option.getD_some, Array.getD_eq_getD_getElem?, q2]
    have hlsl : ls.length = len * fs.length := by rw [hls]; simp
    obtain ⟨ρ1, S1, F1, ws, g1, g2, g3, g4, g5, g6, g7⟩ := arg_leaves hb ls (fun y hy => by
      obtain ⟨q, hq, hq2⟩ := List.getElem_of_mem hy
      obtain ⟨f, w, d, r1, _, _, _, r2⟩ := hget q (by omega)
      rw [List.getElem?_eq_getElem hq, hq2] at r1
      simp only [Option.some.injEq] at r1
      subst r1; exact r2) h u hw
    have hwl : ws.length = len * fs.length := by omega
    have h1 := g1.arg (toVs ws) el fs.length (off := x.off) hb (fun i v hi hbad => by
      rw [toVs_map, List.getElem?_map] at hi
      obtain ⟨w0, e1, e2⟩ := Option.map_eq_some_iff.mp hi
      subst e2
      have hi2 : i < ws.length := (List.getElem?_eq_some_iff.mp e1).1
      obtain ⟨f, w, d, r1, _, r3, _, _⟩ := hget i (by omega)
      exact ⟨w, r3, (g5 i _ w0 r1 e1).1⟩)
    refine ⟨_, _, F1.arg ws el fs.length, .l F1.x 0 len len, h1, g2.arg _ _ _, Ren.le_trans g3 (Ren.le_add _ (g1.fresh _ (Nat.le_refl _))), ?_, .inr ⟨F1.x, len, el, F1.x, ws, by rw [hlen], by rw [row_arg, if_pos rfl], by rw [hwl, hlen], hdl, ?_⟩, g6.trans (Std.arg g7 _ _ _ _ _), g7.arg _ _ _⟩
    · have : VRel (ρ1.add S1.next ⟨x.block, x.off, C.size, fs.length⟩) (.slice (some ⟨S1.next, 0, none⟩) len len) (.slice (some x) len cap) :=
        .slice (p := ⟨x.block, x.off, C.size, fs.length⟩) (Ren.add_same _ _ _) (Nat.le_refl _) hl (fun h0 => ⟨x.off, by cases x; simp_all, by simp, by have := hc h0; simp; omega⟩)
      rw [← g2.next] at this ⊢
      simpa only [toV] using this
    · intro k j f d e hf hk hd
      have hj : j < fs.length := (List.getElem?_eq_some_iff.mp hf).1
      have hkl : k < len := by rw [← hlen]; exact (List.getElem?_eq_some_iff.mp hk).1
      have hq : k * fs.length + j < len * fs.length := by
        have : (k + 1) * fs.length ≤ len * fs.length := Nat.mul_le_mul_right _ hkl
        rw [Nat.add_mul] at this; omega
      obtain ⟨f', w', d', r1, r2, r3, r4, r5⟩ := hget _ hq
      have hmod : (k * fs.length + j) % fs.length = j := by rw [Nat.mul_comm, Nat.mul_add_mod, Nat.mod_eq_of_lt hj]
      rw [hmod, hf] at r2
      simp only [Option.some.injEq] at r2
      subst r2
      rw [flat_get hdl k j e hk hj, hd] at r4
      simp only [Option.some.injEq] at r4
      subst r4
      obtain ⟨w0, hw0⟩ : ∃ w0, ws[k * fs.length + j]? = some w0 := ⟨ws[k * fs.length + j]'(by omega), List.getElem?_eq_getElem (by omega)⟩
      exact ⟨w0, hw0, (g5 _ _ w0 r1 hw0).2.std (Std.arg (B := fun _ => False) g7 _ _ _ _) (fun _ _ _ _ _ _ q => q)⟩
-- out of the law's own words
section
variable {H : Type} {enc : TypeId × Value → H} {P : Program} {W : World} {base : Nat} {held : Bool}
theorem cell_at {a : Addr} {v : Value} (h : W.cell? a = some v) : a.spot = none ∧ ∃ C el G, W.heap[a.block]? = some (.cells C el G) ∧ C[a.off]? = some v := by
  unfold World.cell? at h
  split at h
  · rename_i C el G hb
    split at h
    · cases h
    · rename_i hs
      exact ⟨by simpa using hs, C, el, G, hb, h⟩
  · cases h
theorem ba_of {t e : TypeId} {fuel : Nat} {v : Value} {x : DataW H × List MemPlace} (ht : P.underlying t = some (.slice e)) (he : P.underlying e = some (.int .u8)) (hc : P.cellsOf e = 1) (h : DataW.trod enc P W base (fun _ => true) held fuel t [v] = some x) : ∃ l, BA W v l := by
  rcases ChangeShapes.open_ints ht he hc h with ⟨hcs, _⟩ | ⟨a, len, cap, zs, hcs, _, hl, hm, hz, _, hcell, hwz⟩
  · simp only [List.cons.injEq, and_true] at hcs
    subst hcs
    exact ⟨[], .inl ⟨none, 0, 0, [], rfl, .inl ⟨rfl, rfl, rfl, rfl⟩, rfl⟩⟩
  · simp only [List.cons.injEq, and_true] at hcs
    subst hcs
    simp only [if_true] at hz
    by_cases h0 : cap = 0
    · subst h0
      have : len = 0 := by omega
      subst this
      exact ⟨[], .inr ⟨a, rfl, rfl⟩⟩
    · have hc0 := hcell 0 (by omega)
      have ha0 : a.add 0 = a := by simp [Addr.add]
      rw [ha0] at hc0
      obtain ⟨hsp, C, el, G, hb, _⟩ := cell_at hc0
      have hC : ∀ (i : Nat) (z : Int), zs[i]? = some z → C[a.off + i]? = some (.int .u8 z) := by
        intro i z hi
        have hlt := (List.getElem?_eq_some_iff.mp hi).1
        have := hcell i hlt
        rw [Addr.add_off a hsp] at this
        unfold World.cell? at this
        rw [hb] at this
        simp only [Option.isSome_none] at this
        have e : zs.getD i 0 = z := by simp [List.getD, hi]
        rw [e] at this
        simpa using this
      refine ⟨_, .inl ⟨some a, len, cap, zs.take len, rfl, .inr ⟨a, C, el, G, rfl, hsp, hb, hl, by rw [List.length_take]; omega, fun _ => ?_, fun i z hi => ?_, fun n hn => hwz n (List.mem_of_mem_take hn)⟩, rfl⟩⟩
      · have h1 : zs[cap - 1]? = some zs[cap - 1] := List.getElem?_eq_getElem (by omega)
        have := (Array.getElem?_eq_some_iff.mp (hC _ _ h1)).1
        omega
      · rw [List.getElem?_take] at hi
        split at hi
        · exact hC i z hi
        · cases hi
/-- What kind a type's one cell is. -/
def LT (P : Program) : Lf → TypeId → Prop
  | .int k, t => P.underlying t = some (.int k)
  | .bl, t => P.underlying t = some .bool
  | .str, t => P.underlying t = some .string
  | .by, t => ∃ e, P.underlying t = some (.slice e) ∧ P.underlying e = some (.int .u8) ∧ P.cellsOf e = 1
theorem la_of {f : Lf} {t : TypeId} {fuel : Nat} {v : Value} {x : DataW H × List MemPlace} (hf : LT P f t) (h : DataW.trod enc P W base (fun _ => true) held fuel t [v] = some x) : ∃ d, LA W f v d := by
  cases f with
  | int k =>
    obtain ⟨n, hn, _, hw⟩ := DataW.trod_int (k := k) hf h
    obtain rfl := (List.cons.inj hn).1
    exact ⟨.i n, rfl, hw⟩
  | bl =>
    obtain ⟨b, hb, _⟩ := DataW.trod_bool hf h
    obtain rfl := (List.cons.inj hb).1
    exact ⟨.t b, rfl⟩
  | str =>
    obtain ⟨s, hs, _, _⟩ := DataW.trod_string hf h
    obtain rfl := (List.cons.inj hs).1
    exact ⟨.s (bytesOf s), s, rfl, rfl⟩
  | «by» =>
    obtain ⟨e, h1, h2, h3⟩ := hf
    obtain ⟨l, hl⟩ := ba_of h1 h2 h3 h
    exact ⟨.y l, hl⟩
/-- An element's cells, and what they hold. -/
def EA (W : World) (fs : List Lf) (cs : List Value) (e : List Ld) : Prop := e.length = fs.length ∧ ∀ (j : Nat) (f : Lf), fs[j]? = some f → ∃ (w : Value) (d : Ld), cs[j]? = some w ∧ e[j]? = some d ∧ LA W f w d
def LTs (P : Program) : List Lf → List Field → Nat → Prop
  | [], [], _ => True
  | f :: fs, g :: gs, o => g.offset = o ∧ P.cellsOf g.type = 1 ∧ LT P f g.type ∧ LTs P fs gs (o + 1)
  | _, _, _ => False
theorem LTs.at : ∀ {fs : List Lf} {gs : List Field} {o : Nat}, LTs P fs gs o → ∀ j f, fs[j]? = some f → ∃ g, gs[j]? = some g ∧ g.offset = o + j ∧ P.cellsOf g.type = 1 ∧ LT P f g.type
  | [], [], _, _, j, f, h => by simp at h
  | a :: fs, g :: gs, o, h, 0, f, hf => by
    simp only [List.getElem?_cons_zero, Option.some.injEq] at hf
    subst hf
    exact ⟨g, rfl, h.1, h.2.1, h.2.2.1⟩
  | a :: fs, g :: gs, o, h, j + 1, f, hf => by
    simp only [List.getElem?_cons_succ] at hf
    obtain ⟨g', h1, h2, h3, h4⟩ := LTs.at h.2.2.2 j f hf
    exact ⟨g', by simpa using h1, by omega, h3, h4⟩
theorem choose_list {α : Type} {n : Nat} {p : Nat → α → Prop} (h : ∀ i, i < n → ∃ x, p i x) : ∃ l : List α, l.length = n ∧ ∀ i x, l[i]? = some x → p i x := by
  induction n with
  | zero => exact ⟨[], rfl, fun i x h => by simp at h⟩
  | succ n ih =>
    obtain ⟨l, hl, hp⟩ := ih (fun i hi => h i (by omega))
    obtain ⟨x, hx⟩ := h n (by omega)
    refine ⟨l ++ [x], by simp [hl], fun i y hi => ?_⟩
    rw [List.getElem?_append] at hi
    split at hi
    · exact hp i y hi
    · rename_i hge
      have hi0 : i - l.length = 0 := by
        have := (List.getElem?_eq_some_iff.mp hi).1
        simp at this; omega
      rw [hi0] at hi
      simp only [List.getElem?_cons_zero, Option.some.injEq] at hi
      subst hi
      have : i = n := by omega
      rw [this]; exact hx
theorem ea_one {e : TypeId} {f : Lf} (hf : LT P f e) (hc : P.cellsOf e = 1) {n : Nat} {cs : List Value} {y : DataW H × List MemPlace} (hl : cs.length = P.cellsOf e) (h : DataW.trod enc P W base (fun _ => true) held n e cs = some y) : ∃ d, EA W [f] cs d := by
  rw [hc] at hl
  match cs, hl with
  | [v], _ =>
    obtain ⟨d, hd⟩ := la_of hf h
    refine ⟨[d], rfl, fun j f' hj => ?_⟩
    match j, hj with
    | 0, hj =>
      simp only [List.getElem?_cons_zero, Option.some.injEq] at hj
      subst hj
      exact ⟨v, d, rfl, rfl, hd⟩
theorem sa_of {t e : TypeId} {b0 fuel : Nat} {v : Value} {x : DataW H × List MemPlace} {fs : List Lf} (hfs : 0 < fs.length) (ht : P.underlying t = some (.slice e)) (hc : P.cellsOf e = fs.length) (hok : Value.okWide P W .any b0 t v)
    (hel : ∀ n cs y, cs.length = P.cellsOf e → DataW.trod enc P W base (fun _ => true) held n e cs = some y → ∃ d, EA W fs cs d) (h : DataW.trod enc P W base (fun _ => true) held fuel t v.cells.toList = some x) : ∃ ds, SA W fs v ds := by
  obtain ⟨a0, len, cap, rfl⟩ := Go.WideShapes.okWide_slice ht hok
  rcases DataW.trod_slice ht h with ⟨hcs, _⟩ | ⟨a, len', cap', elems, rest, n, _, hcs, _, _, hl, _, hlen, hall, hsp, _⟩
  · simp [Value.cells] at hcs
    obtain ⟨rfl, rfl, rfl⟩ := hcs
    exact ⟨[], .inl ⟨rfl, rfl⟩⟩
  · simp [Value.cells] at hcs
    obtain ⟨rfl, rfl, rfl⟩ := hcs
    simp only [Value.okWide, ht, Cell.okWide, Cell.ok] at hok
    obtain ⟨_, _, _, hspot, row, n', hsh, _⟩ := hok
    unfold World.shape? at hsh
    split at hsh
    · rename_i C el G hb
      have rd : ∀ k cs, W.cells? base (a.add (k * P.cellsOf e)) (P.cellsOf e) = some cs → cs.length = fs.length ∧ ∀ j, j < fs.length → C[a.off + (k * fs.length + j)]? = cs[j]? := by
        intro k cs hk
        obtain ⟨_, h1, h2⟩ := World.cells?_some hk
        rw [hc] at h1 h2
        refine ⟨h1, fun j hj => ?_⟩
        have := h2 j hj
        rw [Addr.add_off a hspot, Addr.add_off _ rfl] at this
        unfold World.cell? at this
        simp only [hb, Option.isSome_none, Nat.add_assoc] at this
        simpa using this
      have rd2 : ∀ k, k < cap → ∃ cs y, W.cells? base (a.add (k * P.cellsOf e)) (P.cellsOf e) = some cs ∧ DataW.trod enc P W base (fun _ => true) held n e cs = some y := by
        intro k hk
        by_cases hkl : k < len
        · have := hall k hkl
          rw [List.getElem?_eq_getElem (by omega)] at this
          obtain ⟨cs, q1, q2⟩ := Option.bind_eq_some_iff.mp this
          exact ⟨cs, _, q1, q2⟩
        · obtain ⟨q0, q1⟩ := hsp rfl
          have := q1 (k - len) (by omega)
          rw [show len + (k - len) = k by omega, List.getElem?_eq_getElem (by omega)] at this
          obtain ⟨cs, q1, q2⟩ := Option.bind_eq_some_iff.mp this
          exact ⟨cs, _, q1, q2⟩
      obtain ⟨ds, hdl, hd⟩ := choose_list (α := List Ld) (n := len) (p := fun k e' => e'.length = fs.length ∧ ∀ j f, fs[j]? = some f → ∃ (w : Value) (d : Ld), C[a.off + (k * fs.length + j)]? = some w ∧ e'[j]? = some d ∧ LA W f w d) (fun k hk => by
        obtain ⟨cs, y, q1, q2⟩ := rd2 k (by omega)
        obtain ⟨r1, r2⟩ := rd k cs q1
        obtain ⟨d, d1, d2⟩ := hel n cs y (by omega) q2
        refine ⟨d, d1, fun j f hf => ?_⟩
        obtain ⟨w, d', e1, e2, e3⟩ := d2 j f hf
        exact ⟨w, d', by rw [r2 j (List.getElem?_eq_some_iff.mp hf).1, e1], e2, e3⟩)
      refine ⟨ds, .inr ⟨a, len, cap, C, el, G, rfl, hspot, hb, hl, fun h0 => ?_, hdl, fun k hk j hj => ?_⟩⟩
      · obtain ⟨cs, y, q1, q2⟩ := rd2 (cap - 1) (by omega)
        obtain ⟨r1, r2⟩ := rd _ cs q1
        have := r2 (fs.length - 1) (by omega)
        rw [List.getElem?_eq_getElem (by omega)] at this
        have := (Array.getElem?_eq_some_iff.mp this).1
        have e2 : (cap - 1 + 1) * fs.length = cap * fs.length := by congr 1; omega
        rw [Nat.add_mul] at e2
        omega
      · have hk' : k < ds.length := by omega
        obtain ⟨d1, d2⟩ := hd k _ (List.getElem?_eq_getElem hk')
        obtain ⟨w, d, e1, e2, e3⟩ := d2 j _ (List.getElem?_eq_getElem hj)
        exact ⟨_, w, _, d, List.getElem?_eq_getElem hj, e1, List.getElem?_eq_getElem hk', d1, e2, e3⟩
    · cases hsh
end
end Go.Proofs.Ythclmjelknibhaa.Ev
/- Rows of bytes that are handed in. -/
namespace Go.Proofs.Ythclmjelknibhaa.Ev
open Go Go.RowKit
set_option linter.unusedVariables false
set_option linter.constructorNameAsVariable false
set_option linter.unusedSimpArgs false
set_option linter.unusedSectionVars false

theorem lb_of {F : FAW} : ∀ (cs : List FV), (∀ c ∈ cs, ∃ l, By F c l ∧ Bs l) → ∃ rs, LB F cs rs ∧ ∀ r ∈ rs, Bs r
  | [], _ => ⟨[], trivial, fun r hr => by cases hr⟩
  | c :: cs, h => by
    obtain ⟨l, h1, h2⟩ := h c (by simp)
    obtain ⟨rs, h3, h4⟩ := lb_of cs (fun x hx => h x (by simp [hx]))
    refine ⟨l :: rs, ⟨h1, h3⟩, fun r hr => ?_⟩
    rcases List.mem_cons.mp hr with rfl | hr
    · exact h2
    · exact h4 r hr
theorem sr_rs {F : FAW} {v : FV} {ds : List (List Ld)} (h : SR F [.by] v ds) : ∃ rs, RS F v rs ∧ ∀ r ∈ rs, Bs r := by
  rcases h with ⟨rfl, _⟩ | ⟨i, c, el, m, cells, rfl, hr, hl, he, hc⟩
  · exact ⟨[], ⟨[], .inl ⟨rfl, rfl⟩, trivial⟩, fun r hr => by cases hr⟩
  · have hl : cells.length = ds.length := by simpa using hl
    obtain ⟨rs, h1, h2⟩ := lb_of cells (fun w hw => by
      obtain ⟨k, hk, hk2⟩ := List.getElem_of_mem hw
      have hd : k < ds.length := by omega
      have h1 : ds[k].length = 1 := he _ (List.getElem_mem hd)
      obtain ⟨w', g1, g2⟩ := hc k 0 .by (ds[k][0]'(by omega)) ds[k] rfl (List.getElem?_eq_getElem hd) (List.getElem?_eq_getElem (by omega))
      have e : k * [Lf.by].length + 0 = k := by simp
      rw [e, List.getElem?_eq_getElem hk, hk2] at g1
      simp only [Option.some.injEq] at g1
      subst g1
      revert g2
      generalize ds[k][0] = d
      intro g2
      cases d <;> first | exact g2.elim | exact ⟨_, g2⟩)
    exact ⟨rs, ⟨cells, .inr ⟨i, 0, c, el, m, true, cells, by rw [hl], hr, by simp, by simp⟩, h1⟩, h2⟩
end Go.Proofs.Ythclmjelknibhaa.Ev
/- Rows of bytes that are cut; what stands. -/
namespace Go.Proofs.Ythclmjelknibhaa.Ev
open Go Go.RowKit
set_option linter.unusedVariables false
set_option linter.constructorNameAsVariable false
set_option linter.unusedSimpArgs false
set_option linter.unusedSectionVars false

theorem SlB.cut {F : FAW} {v : FV} {el : Nat} {cs : List FV} {m : Nat} (h : SlB F v el cs m) {a b : Nat} (h1 : a ≤ b) (h2 : b ≤ cs.length) :
    ∃ w, (∀ f : KU, uSlV 1 v (some (.n a)) (some (.n b)) none F f = f w F) ∧ (b = cs.length → ∀ f : KU, uSlV 1 v (some (.n a)) none none F f = f w F) ∧ (a = 0 → ∀ f : KU, uSlV 1 v none (some (.n b)) none F f = f w F) ∧ Sl F w ((cs.drop a).take (b - a)) := by
  rcases h with ⟨rfl, rfl⟩ | ⟨hne, i, mu, rfl, hr, _⟩
  · have hb : b = 0 := by simpa using h2
    have ha : a = 0 := by omega
    subst hb ha
    exact ⟨.nl, fun f => rfl, fun _ f => rfl, fun _ f => rfl, .inl ⟨rfl, rfl⟩⟩
  · have hlen : ((cs.drop a).take (b - a)).length = b - a := by rw [List.length_take, List.length_drop]; omega
    have key : ∀ f : KU, uSlV 1 (.l i 0 cs.length cs.length) (some (.n a)) (some (.n b)) none F f = f (.l i (0 + a) (b - a) (cs.length - a)) F := fun f => by
      show uSlVL 1 i 0 cs.length cs.length (some (.n a)) (some (.n b)) none F f = _
      unfold uSlVL
      rw [findH_get _ hr]
      have e1 : an (Nat.ble a b) (an (Nat.ble b cs.length) (an (Nat.ble cs.length cs.length) (nt (an false false)))) = true := by
        simp only [an_eq, nt_eq, bleU]
        simp [h1, show b ≤ cs.length by omega]
      rw [optU_s, optU_s, optU_o]
      show cn (Nat.beq 1 1) (cn (an (Nat.ble a b) (an (Nat.ble b cs.length) (an (Nat.ble cs.length cs.length) (nt (an false false))))) (fN (Nat.add 0 (Nat.mul a 1)) fun o => fN (Nat.sub b a) fun n => fN (Nat.sub cs.length a) fun c => f (.l i o n c) F) .no) .no = _
      rw [e1, show Nat.beq 1 1 = true from rfl, cn_true, cn_true, fN_eq, fN_eq, fN_eq]
      show f (.l i (0 + a * 1) (b - a) (cs.length - a)) F = _
      rw [Nat.mul_one]
    refine ⟨_, key, fun hb f => ?_, fun ha f => ?_, .inr ⟨i, 0 + a, cs.length - a, el, m, false, cs, by rw [hlen], hr, by rw [hlen, Nat.zero_add], by rw [hlen]; omega⟩⟩
    · subst hb; rw [← key f]; rfl
    · subst ha; rw [← key f]; rfl
theorem LB.drop {F : FAW} : ∀ {cs : List FV} {rs : List (List Nat)}, LB F cs rs → ∀ (k : Nat), LB F (cs.drop k) (rs.drop k)
  | [], [], h, k => by simpa using h
  | _ :: _, _ :: _, h, 0 => h
  | _ :: _, _ :: _, ⟨_, h⟩, k + 1 => h.drop k
theorem LB.take {F : FAW} : ∀ {cs : List FV} {rs : List (List Nat)}, LB F cs rs → ∀ (k : Nat), LB F (cs.take k) (rs.take k)
  | [], [], h, k => by simpa using h
  | _ :: _, _ :: _, h, 0 => trivial
  | _ :: _, _ :: _, ⟨h1, h⟩, k + 1 => ⟨h1, h.take k⟩
theorem RL.cut {F : FAW} {v : FV} {rs : List (List Nat)} {m : Nat} (h : RL F v rs m) {a b : Nat} (h1 : a ≤ b) (h2 : b ≤ rs.length) :
    ∃ w, (∀ f : KU, uSlV 1 v (some (.n a)) (some (.n b)) none F f = f w F) ∧ (b = rs.length → ∀ f : KU, uSlV 1 v (some (.n a)) none none F f = f w F) ∧ (a = 0 → ∀ f : KU, uSlV 1 v none (some (.n b)) none F f = f w F) ∧ RS F w ((rs.drop a).take (b - a)) := by
  obtain ⟨cs, k1, k2⟩ := h
  have hl := k2.len
  obtain ⟨w, e1, e2, e3, e4⟩ := k1.cut h1 (by omega)
  exact ⟨w, e1, fun q => e2 (by omega), e3, _, e4, (k2.drop a).take _⟩
theorem LK.grow {F F' : FAW} {x d m : Nat} {L : Lg} (h : LK F x d m L) {g : Nat} {P : Prop} (hs : Sg F F' No (fun q => q = g ∧ P) No) (hg : P → x ≠ g ∧ d ≠ g) : LK F' x d m L :=
  ⟨hs.row _ _ (fun q => q) h.row, hs.fam _ _ (fun q => (hg q.2).1 q.1) h.fam, h.dk.sg hs (fun _ _ _ _ _ _ q => q) (fun q => q) (fun q => (hg q.2).2 q.1) (fun q => q)⟩
theorem LK.lt {F : FAW} {x d m : Nat} {L : Lg} (h : LK F x d m L) (hw : Wf F) : x < F.x ∧ d < F.x := ⟨hw.row _ _ h.row, (h.dk.lt hw).1⟩
theorem frms_le {B : Nat} : ∀ {rs : List (List Nat)}, Rb rs B → (frms rs).length ≤ (B + 7) * rs.length
  | [], _ => by simp [frms]
  | r :: rs, h => by
    have ih := frms_le (rs := rs) (fun x hx => h x (by simp [hx]))
    have := (h r (by simp)).2
    simp only [frms, List.length_append, frm_len, List.length_cons, Nat.mul_add]
    omega
theorem eql_self (k : Nat) (F : FAW) (f : KU) : uEq false .eql (.n k) (.n k) F f = f (.t true) F := by rw [uEq_nn, decide_eq_true rfl]; rfl
end Go.Proofs.Ythclmjelknibhaa.Ev
/- Logs on a disk that may be cut: plain laws. -/
namespace Go.Proofs.Ythclmjelknibhaa.Ev
open Go Go.RowKit
set_option linter.unusedVariables false
set_option linter.constructorNameAsVariable false
set_option linter.unusedSimpArgs false
set_option linter.unusedSectionVars false

/-- A disk that is up, with a log alone (or nothing yet); it may be armed. -/
def LX (room : Nat) (c : List Nat) (s ar : Bool) (a p : Int) : Dk := ⟨room, if s then [⟨lgN, c, c.length⟩] else [], ar, a, p, false⟩
theorem LX_read (room : Nat) (c : List Nat) (s ar : Bool) (a p : Int) (hs : s = false → c = []) : (LX room c s ar a p).read lgN = (c, if s then 0 else 15) := by
  cases s with
  | true => simp [LX, Dk.read, Dk.has, nms, Dk.of, fget]
  | false => simp [LX, Dk.read, Dk.has, nms, hs rfl]
theorem LX_drop (room : Nat) (c : List Nat) (s ar : Bool) (a p : Int) : (LX room c s ar a p).drop = (LX room c s ar a p, 0) := by
  unfold Dk.drop
  rw [if_neg (by cases s <;> simp [LX, nms])]
theorem LX_tot (room : Nat) (c : List Nat) (s ar : Bool) (a p : Int) (hs : s = false → c = []) : tot (LX room c s ar a p).fs = c.length := by
  cases s with
  | true => simp [LX, tot]
  | false => simp [LX, tot, hs rfl]
/-- Open, of a log that is whole. -/
theorem LX_opn {room : Nat} {c : List Nat} {s ar : Bool} {a p : Int} (hs : s = false → c = []) {rs : List (List Nat)} (hsc : scan c = (rs, c.length)) : (LX room c s ar a p).opn = (⟨LX room c s ar a p, rs.length, c.length⟩, rs, 0) := by
  unfold Dk.opn
  rw [if_neg (by simp [LX]), LX_drop, if_neg (by simp)]
  show (if ((LX room c s ar a p).read lgN).2 ≠ 0 ∧ ((LX room c s ar a p).read lgN).2 ≠ 15 then _ else _) = _
  rw [LX_read _ _ _ _ _ _ hs, if_neg (by cases s <;> simp)]
  show (if (scan c).2 < c.length then _ else _) = _
  rw [hsc, if_neg (by simp)]
/-- A Pack's deeds, of a disk that is not armed, or not soon. -/
theorem LX_packs {room : Nat} {c e : List Nat} {s ar : Bool} {a p : Int} (hs : s = false → c = []) (hr : c.length + e.length ≤ room) (ha : ar = true → 3 ≤ a) :
    (LX room c s ar a p).packs e = (LX room e true ar (if ar then a - 1 - 1 - 1 else a) p, 0) := by
  have ht := LX_tot room c s ar a p hs
  have hn : ¬ (LX room c s ar a p).room - tot (LX room c s ar a p).fs < e.length := by rw [ht]; show ¬ room - c.length < _; omega
  cases ar with
  | false =>
    have h1 : (LX room c s false a p).append nwN e = (⟨room, (if s then [⟨lgN, c, c.length⟩] else []) ++ [⟨nwN, e, 0⟩], false, a, p, false⟩, 0) := by
      unfold Dk.append
      rw [if_neg (by simp [LX]), if_neg hn]
      cases s <;> simp [LX, Dk.doing, Dk.cutNow, Dk.tick, Dk.app, Dk.put, Dk.of, fget, fput]
    have h2 : Dk.sync ⟨room, (if s then [⟨lgN, c, c.length⟩] else []) ++ [⟨nwN, e, 0⟩], false, a, p, false⟩ nwN = (⟨room, (if s then [⟨lgN, c, c.length⟩] else []) ++ [⟨nwN, e, e.length⟩], false, a, p, false⟩, 0) := by
      cases s <;> simp [Dk.sync, Dk.has, nms, Dk.doing, Dk.cutNow, Dk.tick, Dk.syn, Dk.put, Dk.of, fget, fput]
    have h3 : Dk.rename ⟨room, (if s then [⟨lgN, c, c.length⟩] else []) ++ [⟨nwN, e, e.length⟩], false, a, p, false⟩ nwN lgN = (LX room e true false a p, 0) := by
      cases s <;> simp [LX, Dk.rename, Dk.has, nms, Dk.doing, Dk.cutNow, Dk.tick, Dk.ren, Dk.of, fget, fput, fdel]
    unfold Dk.packs
    rw [h1, if_neg (by simp), h2, if_neg (by simp), h3]
    simp
  | true =>
    have ha := ha rfl
    have h1 : (LX room c s true a p).append nwN e = (⟨room, (if s then [⟨lgN, c, c.length⟩] else []) ++ [⟨nwN, e, 0⟩], true, a - 1, p, false⟩, 0) := by
      unfold Dk.append
      rw [if_neg (by simp [LX]), if_neg hn]
      cases s <;> simp [LX, Dk.doing, Dk.cutNow, Dk.tick, Dk.app, Dk.put, Dk.of, fget, fput, show ¬ a = 0 by omega]
    have h2 : Dk.sync ⟨room, (if s then [⟨lgN, c, c.length⟩] else []) ++ [⟨nwN, e, 0⟩], true, a - 1, p, false⟩ nwN = (⟨room, (if s then [⟨lgN, c, c.length⟩] else []) ++ [⟨nwN, e, e.length⟩], true, a - 1 - 1, p, false⟩, 0) := by
      cases s <;> simp [Dk.sync, Dk.has, nms, Dk.doing, Dk.cutNow, Dk.tick, Dk.syn, Dk.put, Dk.of, fget, fput, show ¬ a - 1 = 0 by omega]
    have h3 : Dk.rename ⟨room, (if s then [⟨lgN, c, c.length⟩] else []) ++ [⟨nwN, e, e.length⟩], true, a - 1 - 1, p, false⟩ nwN lgN = (LX room e true true (a - 1 - 1 - 1) p, 0) := by
      cases s <;> simp [LX, Dk.rename, Dk.has, nms, Dk.doing, Dk.cutNow, Dk.tick, Dk.ren, Dk.of, fget, fput, fdel, show ¬ a - 1 - 1 = 0 by omega]
    unfold Dk.packs
    rw [h1, if_neg (by simp), h2, if_neg (by simp), h3]
    simp
/-- Open, where it answers. -/
theorem open_X (N : Nat) (hN : 600000 ≤ N) {F : FAW} (hw : Wf F) {d m : Nat} {D : Dk} {L : Lg} {rs : List (List Nat)} (ho : D.opn = (L, rs, 0)) (hb : D.Bf) (hf : D.fs.length ≤ 800) (k : DK F d m D) :
    ∃ x rv mr F', clU dskD N 37 [.p d 0] F = .ok (.u [.p x 0, rv, .n 0]) F' ∧ F.x ≤ x ∧ LK F' x d m L ∧ RL F' rv rs mr ∧ (rs ≠ [] → F.x ≤ mr) ∧ Sg F F' (· = d) No (· = m) ∧ Wf F' := by
  obtain ⟨lv, rv, F', e1, e2, e3, e4⟩ := t37 N hN hw k hb hf
  rw [ho] at e1 e2
  obtain ⟨x, mr, rfl, g1, g2, g3, g4⟩ := e2.ok
  exact ⟨x, rv, mr, F', e1, g1, g2, g3, g4, e3, e4⟩
theorem LX_bf {room : Nat} {c : List Nat} {s ar : Bool} {a p : Int} (h : Bs c) : (LX room c s ar a p).Bf := by
  intro f hf
  cases s with
  | true =>
    have : f = ⟨lgN, c, c.length⟩ := by simpa [LX] using hf
    subst this; exact h
  | false => simp [LX] at hf
theorem LX_len (room : Nat) (c : List Nat) (s ar : Bool) (a p : Int) : (LX room c s ar a p).fs.length ≤ 1 := by cases s <;> simp [LX]
theorem scan_whole {rs : List (List Nat)} {B : Nat} (h : Rb rs B) (hB : B ≤ 1000000) : scan (frms rs) = (rs, (frms rs).length) := by
  have := scan_frms h hB [] (by rw [ufr_nil]; decide)
  rwa [List.append_nil] at this
theorem Rb.snoc {rs : List (List Nat)} {B : Nat} (h : Rb rs B) {b : List Nat} (hb : Bs b) (hl : b.length ≤ B) : Rb (rs ++ [b]) B := fun r hr => by
  rcases List.mem_append.mp hr with hr | hr
  · exact h r hr
  · simp only [List.mem_singleton] at hr; subst hr; exact ⟨hb, hl⟩
end Go.Proofs.Ythclmjelknibhaa.Ev
/- The law LogPacks over the texts. -/
namespace Go.Proofs.Ythclmjelknibhaa.Ev
open Go Go.RowKit
set_option linter.unusedVariables false
set_option linter.constructorNameAsVariable false
set_option linter.unusedSimpArgs false
set_option linter.unusedSectionVars false

/-- A log, and what was begun. -/
def NX (room : Nat) (c : List Nat) (s : Bool) (a p : Int) (z : List Nat) (la : Nat) (dead : Bool) : Dk := ⟨room, (if s then [⟨lgN, c, c.length⟩] else []) ++ [⟨nwN, z, la⟩], false, a, p, dead⟩
theorem cutN_all (n : Nat) (p : Int) : cutN n n p = n := by
  have := cutN_in (Nat.le_refl n) p
  omega
theorem NX_crash (room : Nat) (c : List Nat) (s ar : Bool) (a p : Int) (z : List Nat) (la : Nat) : (⟨room, (if s then [⟨lgN, c, c.length⟩] else []) ++ [⟨nwN, z, la⟩], ar, a, p, false⟩ : Dk).crash p = NX room c s a p (z.take (cutN z.length la p)) la true := by
  unfold Dk.crash NX
  cases s <;> simp [crF, cutN_all]
/-- A crash in a Pack. -/
theorem LX_packs_cut {room : Nat} {c e : List Nat} {s : Bool} {a p : Int} (hs : s = false → c = []) (hr : c.length + e.length ≤ room) (ha : a = 0 ∨ a = 1 ∨ a = 2) :
    ∃ q la, (LX room c s true a p).packs e = (NX room c s 0 p (e.take q) la true, 18) := by
  have ht := LX_tot room c s true a p hs
  have hn : ¬ (LX room c s true a p).room - tot (LX room c s true a p).fs < e.length := by rw [ht]; show ¬ room - c.length < _; omega
  rcases ha with rfl | rfl | rfl
  · refine ⟨cutN e.length 0 p, 0, ?_⟩
    have h1 : (LX room c s true 0 p).append nwN e = ((⟨room, (if s then [⟨lgN, c, c.length⟩] else []) ++ [⟨nwN, e, 0⟩], true, 0, p, false⟩ : Dk).crash p, 18) := by
      unfold Dk.append
      rw [if_neg (by simp [LX]), if_neg hn]
      cases s <;> simp [LX, Dk.doing, Dk.cutNow, Dk.tick, Dk.app, Dk.put, Dk.of, fget, fput]
    unfold Dk.packs
    rw [h1, if_pos (by simp), NX_crash]
  · refine ⟨cutN e.length 0 p, 0, ?_⟩
    have h1 : (LX room c s true 1 p).append nwN e = (⟨room, (if s then [⟨lgN, c, c.length⟩] else []) ++ [⟨nwN, e, 0⟩], true, 0, p, false⟩, 0) := by
      unfold Dk.append
      rw [if_neg (by simp [LX]), if_neg hn]
      cases s <;> simp [LX, Dk.doing, Dk.cutNow, Dk.tick, Dk.app, Dk.put, Dk.of, fget, fput]
    have h2 : Dk.sync ⟨room, (if s then [⟨lgN, c, c.length⟩] else []) ++ [⟨nwN, e, 0⟩], true, 0, p, false⟩ nwN = ((⟨room, (if s then [⟨lgN, c, c.length⟩] else []) ++ [⟨nwN, e, 0⟩], true, 0, p, false⟩ : Dk).crash p, 18) := by
      cases s <;> simp [Dk.sync, Dk.has, nms, Dk.doing, Dk.cutNow]
    unfold Dk.packs
    rw [h1, if_neg (by simp), h2, if_pos (by simp), NX_crash]
  · refine ⟨cutN e.length e.length p, e.length, ?_⟩
    have h1 : (LX room c s true 2 p).append nwN e = (⟨room, (if s then [⟨lgN, c, c.length⟩] else []) ++ [⟨nwN, e, 0⟩], true, 1, p, false⟩, 0) := by
      unfold Dk.append
      rw [if_neg (by simp [LX]), if_neg hn]
      cases s <;> simp [LX, Dk.doing, Dk.cutNow, Dk.tick, Dk.app, Dk.put, Dk.of, fget, fput]
    have h2 : Dk.sync ⟨room, (if s then [⟨lgN, c, c.length⟩] else []) ++ [⟨nwN, e, 0⟩], true, 1, p, false⟩ nwN = (⟨room, (if s then [⟨lgN, c, c.length⟩] else []) ++ [⟨nwN, e, e.length⟩], true, 0, p, false⟩, 0) := by
      cases s <;> simp [Dk.sync, Dk.has, nms, Dk.doing, Dk.cutNow, Dk.tick, Dk.syn, Dk.put, Dk.of, fget, fput]
    have h3 : Dk.rename ⟨room, (if s then [⟨lgN, c, c.length⟩] else []) ++ [⟨nwN, e, e.length⟩], true, 0, p, false⟩ nwN lgN = ((⟨room, (if s then [⟨lgN, c, c.length⟩] else []) ++ [⟨nwN, e, e.length⟩], true, 0, p, false⟩ : Dk).crash p, 18) := by
      cases s <;> simp [Dk.rename, Dk.has, nms, Dk.doing, Dk.cutNow]
    unfold Dk.packs
    rw [h1, if_neg (by simp), h2, if_neg (by simp), h3, NX_crash]
theorem NX_power (room : Nat) (c : List Nat) (s : Bool) (a p : Int) (z : List Nat) (la : Nat) : (NX room c s a p z la true).power = NX room c s a p z z.length false := by
  cases s <;> simp [NX, Dk.power, pwF]
theorem NX_opn {room : Nat} {c z : List Nat} {s : Bool} {a p : Int} (hs : s = false → c = []) {rs : List (List Nat)} (hsc : scan c = (rs, c.length)) : (NX room c s a p z z.length false).opn = (⟨LX room c s false a p, rs.length, c.length⟩, rs, 0) := by
  have hd : (NX room c s a p z z.length false).drop = (LX room c s false a p, 0) := by
    unfold Dk.drop
    cases s <;> simp [NX, LX, nms, Dk.remove, Dk.has, Dk.doing, Dk.cutNow, Dk.tick, Dk.rem, fdel]
  unfold Dk.opn
  rw [if_neg (by simp [NX]), hd, if_neg (by simp)]
  show (if ((LX room c s false a p).read lgN).2 ≠ 0 ∧ ((LX room c s false a p).read lgN).2 ≠ 15 then _ else _) = _
  rw [LX_read _ _ _ _ _ _ hs, if_neg (by cases s <;> simp)]
  show (if (scan c).2 < c.length then _ else _) = _
  rw [hsc, if_neg (by simp)]
theorem NX_bf {room : Nat} {c z : List Nat} {s dead : Bool} {a p : Int} {la : Nat} (h : Bs c) (hz : Bs z) : (NX room c s a p z la dead).Bf := by
  intro f hf
  cases s with
  | true =>
    have : f = ⟨lgN, c, c.length⟩ ∨ f = ⟨nwN, z, la⟩ := by simpa [NX] using hf
    rcases this with rfl | rfl
    · exact h
    · exact hz
  | false =>
    have : f = ⟨nwN, z, la⟩ := by simpa [NX] using hf
    subst this; exact hz
theorem NX_len (room : Nat) (c : List Nat) (s : Bool) (a p : Int) (z : List Nat) (la : Nat) (dead : Bool) : (NX room c s a p z la dead).fs.length ≤ 2 := by cases s <;> simp [NX]
/-- Pack, Power and Open: the old ones or the new ones. -/
theorem pack_opn {old fresh : List (List Nat)} {s : Bool} (hs : s = false → old = []) (ho : Rb old 20) (hf : Rb fresh 20) (hn : fresh.length ≤ 6) (hr : (frms old).length + (frms fresh).length ≤ 4000) (a : Nat) (p : Int) :
    ∃ e L, ((Lg.mk (LX 4000 (frms old) s true a p) old.length (frms old).length).pack fresh).2 = e ∧ ((Lg.mk (LX 4000 (frms old) s true a p) old.length (frms old).length).pack fresh).1.D.power.Bf ∧ ((Lg.mk (LX 4000 (frms old) s true a p) old.length (frms old).length).pack fresh).1.D.power.fs.length ≤ 2 ∧
      ((e = 0 ∧ ((Lg.mk (LX 4000 (frms old) s true a p) old.length (frms old).length).pack fresh).1.D.power.opn = (L, fresh, 0)) ∨ (e = 18 ∧ ((Lg.mk (LX 4000 (frms old) s true a p) old.length (frms old).length).pack fresh).1.D.power.opn = (L, old, 0) ∧ L.n = old.length)) := by
  have hs' : s = false → frms old = [] := fun q => by rw [hs q]; rfl
  obtain ⟨P, hP⟩ : ∃ P, P = (Lg.mk (LX 4000 (frms old) s true a p) old.length (frms old).length).pack fresh := ⟨_, rfl⟩
  rw [← hP]
  unfold Lg.pack at hP
  rw [if_neg (by omega)] at hP
  replace hP : P = (if ((LX 4000 (frms old) s true a p).packs (frms fresh)).2 = 0 then (⟨((LX 4000 (frms old) s true a p).packs (frms fresh)).1, fresh.length, (frms fresh).length⟩, 0) else if ((LX 4000 (frms old) s true a p).packs (frms fresh)).2 = 18 then (⟨((LX 4000 (frms old) s true a p).packs (frms fresh)).1, old.length, (frms old).length⟩, 18) else (⟨((LX 4000 (frms old) s true a p).packs (frms fresh)).1.drop.1, old.length, (frms old).length⟩, ((LX 4000 (frms old) s true a p).packs (frms fresh)).2)) := hP
  by_cases ha : a ≤ 2
  · obtain ⟨q, la, h1⟩ := LX_packs_cut (room := 4000) (c := frms old) (e := frms fresh) (s := s) (a := (a : Int)) (p := p) hs' hr (by omega)
    rw [h1, if_neg (by simp), if_pos rfl] at hP
    subst hP
    refine ⟨18, ⟨LX 4000 (frms old) s false 0 p, old.length, (frms old).length⟩, rfl, ?_, ?_, .inr ⟨rfl, ?_, ?_⟩⟩
    rotate_left 2
    · show (NX 4000 (frms old) s 0 p ((frms fresh).take q) la true).power.opn = _
      rw [NX_power]
      exact NX_opn hs' (scan_whole ho (by decide))
    · rfl
    · show (NX 4000 (frms old) s 0 p ((frms fresh).take q) la true).power.Bf
      rw [NX_power]
      exact NX_bf (frms_bs ho) (fun v hv => frms_bs hf v (List.mem_of_mem_take hv))
    · show (NX 4000 (frms old) s 0 p ((frms fresh).take q) la true).power.fs.length ≤ 2
      rw [NX_power]
      exact NX_len _ _ _ _ _ _ _ _
  · have h1 := LX_packs (room := 4000) (c := frms old) (e := frms fresh) (s := s) (ar := true) (a := (a : Int)) (p := p) hs' hr (fun _ => by omega)
    rw [h1, if_pos rfl] at hP
    subst hP
    have hpw : (LX 4000 (frms fresh) true true (if true then (a : Int) - 1 - 1 - 1 else a) p).power = LX 4000 (frms fresh) true true (if true then (a : Int) - 1 - 1 - 1 else a) p := by simp [LX, Dk.power, pwF]
    refine ⟨0, ⟨LX 4000 (frms fresh) true true (if true then (a : Int) - 1 - 1 - 1 else a) p, fresh.length, (frms fresh).length⟩, rfl, ?_, ?_, .inl ⟨rfl, ?_⟩⟩
    rotate_left 2
    · show (LX 4000 (frms fresh) true true (if true then (a : Int) - 1 - 1 - 1 else a) p).power.opn = _
      rw [hpw]
      exact LX_opn (fun q => by cases q) (scan_whole hf (by decide))
    · show (LX 4000 (frms fresh) true true (if true then (a : Int) - 1 - 1 - 1 else a) p).power.Bf
      rw [hpw]; exact LX_bf (frms_bs hf)
    · show (LX 4000 (frms fresh) true true (if true then (a : Int) - 1 - 1 - 1 else a) p).power.fs.length ≤ 2
      rw [hpw]; exact Nat.le_trans (LX_len _ _ _ _ _ _) (by decide)
theorem take_more {α : Type} {l : List α} {i : Nat} {a : α} (h : l[i]? = some a) : l.take (i + 1) = l.take i ++ [a] := by
  obtain ⟨h1, h2⟩ := List.getElem?_eq_some_iff.mp h
  rw [List.take_add_one, h]; rfl
theorem packs_round (n : Nat) (hn : 3000 ≤ n) {x d m : Nat} (va vc vd ve : FV) (old fresh : List (List Nat)) (hB : ∀ r ∈ old, Bs r) (hC : ∀ r ∈ fresh, Bs r) (hL : old.length ≤ 6) (hM' : fresh.length ≤ 6) : ∀ (k i : Nat), i + k = old.length + fresh.length → ∀ (M : Nat), k < M → ∀ {F : FAW} {s : Bool}, (s = false → old.take i = []) → Rb (old.take i) 20 → Rb (fresh.take i) 20 → Wf F → RS F va old → RS F vc fresh → LK F x d m (LL 4000 (old.take i) s) → ∀ (rj rk rl rm o p q r s5 t w y : FV),
    (∃ v' F', (∀ κ, loopNU (u13_22 (clU dskD n) n) κ M (.mk va vc vd ve (.t false) (.p d 0) (.p x 0) (.n i) rj rk rl rm o p q r s5 t w y) F = κ .ret v' F') ∧ u13r v' F' = .ok (.t true) F') ∨
    (∃ b' F' i' r' s' t', (b' = false → old = []) ∧ Rb old 20 ∧ Rb fresh 20 ∧ Wf F' ∧ RS F' va old ∧ RS F' vc fresh ∧ LK F' x d m (LL 4000 old b') ∧ ∀ κ, loopNU (u13_22 (clU dskD n) n) κ M (.mk va vc vd ve (.t false) (.p d 0) (.p x 0) (.n i) rj rk rl rm o p q r s5 t w y) F = κ (.exit 0) (.mk va vc vd ve (.t false) (.p d 0) (.p x 0) i' rj rk rl rm o p q r' s' t' w y) F') := by
  intro k
  induction k with
  | zero =>
    intro i hi M hM F s hs hrb hrf hw ha hf hk rj rk rl rm o p q r s5 t w y
    obtain ⟨M, rfl⟩ : ∃ M', M = M' + 1 := ⟨M - 1, by omega⟩
    have h1 : old.take i = old := List.take_of_length_le (by omega)
    have h2 : fresh.take i = fresh := List.take_of_length_le (by omega)
    rw [h1] at hs hrb hk
    rw [h2] at hrf
    refine .inr ⟨s, F, .n i, .t false, s5, t, hs, hrb, hrf, hw, ha, hf, hk, fun κ => ?_⟩
    have had := fun F f => uAdd_nn F f (a := old.length) (b := fresh.length) (by omega)
    have hc := fun F f => uLss_nn F f .lss i (old.length + fresh.length)
    rw [loopNU_succ]
    generalize loopNU (u13_22 (clU dskD n) n) κ M = rec
    simp -implicitDefEqProofs only [↓SS, Nat.zero_add, Nat.add_zero, Bool.not_true, Bool.not_false, ↓u13_22, ↓u13_0, ↓u13_1, ↓u13_2, ↓u13_3, ↓u13_4, ↓u13_5, ↓u13_6, ↓u13_7, ↓u13_8, ↓u13_9, ↓u13_10, ↓u13_11, ↓u13_12, ↓u13_13, ↓u13_14, ↓u13_15, ↓u13_16, ↓u13_17, ↓u13_18, ↓u13_19, ↓u13_20, ↓u13_21, ↓u13_23, ↓u13_24, ↓u13_25, ↓u13_26, ↓u13_27, ↓u13_28, ↓u13_29, ↓u13_30, ↓u13_31, ↓u13_32, ↓u13_33, ↓m20_mk, ↓k20_mk, ↓u13r_mk, ↓ha.len, ↓hf.len, ↓had, ↓hc, decide_eq_false (show ¬ i < old.length + fresh.length by omega)]
  | succ k ih =>
    intro i hi M hM F s hs hrb hrf hw ha hf hk rj rk rl rm o p q r s5 t w y
    obtain ⟨M, rfl⟩ : ∃ M', M = M' + 1 := ⟨M - 1, by omega⟩
    have hlt : i < old.length + fresh.length := by omega
    have had := fun F f => uAdd_nn F f (a := old.length) (b := fresh.length) (by omega)
    have hc := fun F f => uLss_nn F f .lss i (old.length + fresh.length)
    have hco := fun F f => uLss_nn F f .lss i old.length
    have hcf := fun F f => uLss_nn F f .lss i fresh.length
    have a1' := fun F f => uAdd_nn F f (a := i) (b := 1) (by omega)
    by_cases hoi : i < old.length
    · obtain ⟨b, hai⟩ : ∃ a, old[i]? = some a := ⟨_, List.getElem?_eq_getElem hoi⟩
      obtain ⟨c, k1, k2⟩ := ha.get hai
      have ba : Bs b := hB b (List.mem_of_getElem? hai)
      have hgt := fun F f => uGtr_nn F f .gtr b.length 20
      have hto := take_more hai
      by_cases h20 : 20 < b.length
      · refine .inl ⟨.mk va vc vd ve (.t true) (.p d 0) (.p x 0) (.n i) rj rk rl rm o p q (.t true) (.t true) t w y, F, fun κ => ?_, rfl⟩
        rw [loopNU_succ]
        generalize loopNU (u13_22 (clU dskD n) n) κ M = rec
        simp -implicitDefEqProofs only [↓SS, Nat.zero_add, Nat.add_zero, Bool.not_true, Bool.not_false, ↓u13_22, ↓u13_0, ↓u13_1, ↓u13_2, ↓u13_3, ↓u13_4, ↓u13_5, ↓u13_6, ↓u13_7, ↓u13_8, ↓u13_9, ↓u13_10, ↓u13_11, ↓u13_12, ↓u13_13, ↓u13_14, ↓u13_15, ↓u13_16, ↓u13_17, ↓u13_18, ↓u13_19, ↓u13_20, ↓u13_21, ↓u13_23, ↓u13_24, ↓u13_25, ↓u13_26, ↓u13_27, ↓u13_28, ↓u13_29, ↓u13_30, ↓u13_31, ↓u13_32, ↓u13_33, ↓m20_mk, ↓k20_mk, ↓u13r_mk, ↓ha.len, ↓hf.len, ↓had, ↓hc, decide_eq_true hlt, ↓hco, decide_eq_true hoi, ↓k2, ↓k1.len, ↓hgt, decide_eq_true h20]
      have hfl := frms_le hrb
      have htl : (old.take i).length ≤ 6 := by rw [List.length_take]; omega
      obtain ⟨F1, e1', h1, s1, w1⟩ := t38 n hw hk (by omega) k1 ba (by omega) (by show (frms (old.take i)).length ≤ 1000000; omega)
      have p1 := LL_append (room := 4000) hs b (by omega) (by omega)
      rw [p1, ← hto] at e1' h1
      have e1' : clU dskD n 38 [.p x 0, c] F = .ok (.n 0) F1 := e1'
      have n1 := hk.not1
      have ha1 : RS F1 va old := ha.sg s1 (fun i r e q o hr hi => n1 i r e q o hr hi)
      have hf1 : RS F1 vc fresh := hf.sg s1 (fun i r e q o hr hi => n1 i r e q o hr hi)
      have hrb1 : Rb (old.take (i + 1)) 20 := by rw [hto]; exact hrb.snoc ba (by omega)
      have hs1 : true = false → old.take (i + 1) = [] := fun q => by cases q
      by_cases hfi : i < fresh.length
      · obtain ⟨e, hei⟩ : ∃ a, fresh[i]? = some a := ⟨_, List.getElem?_eq_getElem hfi⟩
        obtain ⟨c5, k5, k6⟩ := hf1.get hei
        have be : Bs e := hC e (List.mem_of_getElem? hei)
        have hgt5 := fun F f => uGtr_nn F f .gtr e.length 20
        by_cases h5 : 20 < e.length
        · refine .inl ⟨.mk va vc vd ve (.t true) (.p d 0) (.p x 0) (.n i) rj rk rl rm o p q (.t true) (.t false) (.t true) w y, F1, fun κ => ?_, rfl⟩
          rw [loopNU_succ]
          generalize loopNU (u13_22 (clU dskD n) n) κ M = rec
          simp -implicitDefEqProofs only [↓SS, Nat.zero_add, Nat.add_zero, Bool.not_true, Bool.not_false, ↓u13_22, ↓u13_0, ↓u13_1, ↓u13_2, ↓u13_3, ↓u13_4, ↓u13_5, ↓u13_6, ↓u13_7, ↓u13_8, ↓u13_9, ↓u13_10, ↓u13_11, ↓u13_12, ↓u13_13, ↓u13_14, ↓u13_15, ↓u13_16, ↓u13_17, ↓u13_18, ↓u13_19, ↓u13_20, ↓u13_21, ↓u13_23, ↓u13_24, ↓u13_25, ↓u13_26, ↓u13_27, ↓u13_28, ↓u13_29, ↓u13_30, ↓u13_31, ↓u13_32, ↓u13_33, ↓m20_mk, ↓k20_mk, ↓u13r_mk, ↓ha.len, ↓hf.len, ↓had, ↓hc, decide_eq_true hlt, ↓hco, decide_eq_true hoi, ↓k2, ↓k1.len, ↓hgt, decide_eq_false h20, ↓e1', ↓ne_00, ↓hf1.len, ↓hcf, decide_eq_true hfi, ↓k6, ↓k5.len, ↓hgt5, decide_eq_true h5]
        · skip
          have hrf' : Rb (fresh.take (i + 1)) 20 := by rw [take_more hei]; exact hrf.snoc be (by omega)
          have step : ∀ κ, loopNU (u13_22 (clU dskD n) n) κ (M + 1) (.mk va vc vd ve (.t false) (.p d 0) (.p x 0) (.n i) rj rk rl rm o p q r s5 t w y) F = loopNU (u13_22 (clU dskD n) n) κ M (.mk va vc vd ve (.t false) (.p d 0) (.p x 0) (.n (i + 1)) rj rk rl rm o p q (.t true) (.t false) (.t false) w y) F1 := fun κ => by
            rw [loopNU_succ]
            generalize loopNU (u13_22 (clU dskD n) n) κ M = rec
            simp -implicitDefEqProofs only [↓SS, Nat.zero_add, Nat.add_zero, Bool.not_true, Bool.not_false, ↓u13_22, ↓u13_0, ↓u13_1, ↓u13_2, ↓u13_3, ↓u13_4, ↓u13_5, ↓u13_6, ↓u13_7, ↓u13_8, ↓u13_9, ↓u13_10, ↓u13_11, ↓u13_12, ↓u13_13, ↓u13_14, ↓u13_15, ↓u13_16, ↓u13_17, ↓u13_18, ↓u13_19, ↓u13_20, ↓u13_21, ↓u13_23, ↓u13_24, ↓u13_25, ↓u13_26, ↓u13_27, ↓u13_28, ↓u13_29, ↓u13_30, ↓u13_31, ↓u13_32, ↓u13_33, ↓m20_mk, ↓k20_mk, ↓u13r_mk, ↓ha.len, ↓hf.len, ↓had, ↓hc, decide_eq_true hlt, ↓hco, decide_eq_true hoi, ↓k2, ↓k1.len, ↓hgt, decide_eq_false h20, ↓e1', ↓ne_00, ↓hf1.len, ↓hcf, decide_eq_true hfi, ↓k6, ↓k5.len, ↓hgt5, decide_eq_false h5, ↓a1']
          rcases ih (i + 1) (by omega) M (by omega) hs1 hrb1 hrf' w1 ha1 hf1 h1 rj rk rl rm o p q (.t true) (.t false) (.t false) w y with ⟨v', F', q1, q2⟩ | ⟨b', F', i', r', s', t', q1, q2, q3, q4, q5, q6, q7, q8⟩
          · exact .inl ⟨v', F', fun κ => (step κ).trans (q1 κ), q2⟩
          · exact .inr ⟨b', F', i', r', s', t', q1, q2, q3, q4, q5, q6, q7, fun κ => (step κ).trans (q8 κ)⟩
      · skip
        have hrf' : Rb (fresh.take (i + 1)) 20 := by rw [List.take_of_length_le (by omega)]; rw [List.take_of_length_le (by omega)] at hrf; exact hrf
        have step : ∀ κ, loopNU (u13_22 (clU dskD n) n) κ (M + 1) (.mk va vc vd ve (.t false) (.p d 0) (.p x 0) (.n i) rj rk rl rm o p q r s5 t w y) F = loopNU (u13_22 (clU dskD n) n) κ M (.mk va vc vd ve (.t false) (.p d 0) (.p x 0) (.n (i + 1)) rj rk rl rm o p q (.t true) (.t false) (.t false) w y) F1 := fun κ => by
          rw [loopNU_succ]
          generalize loopNU (u13_22 (clU dskD n) n) κ M = rec
          simp -implicitDefEqProofs only [↓SS, Nat.zero_add, Nat.add_zero, Bool.not_true, Bool.not_false, ↓u13_22, ↓u13_0, ↓u13_1, ↓u13_2, ↓u13_3, ↓u13_4, ↓u13_5, ↓u13_6, ↓u13_7, ↓u13_8, ↓u13_9, ↓u13_10, ↓u13_11, ↓u13_12, ↓u13_13, ↓u13_14, ↓u13_15, ↓u13_16, ↓u13_17, ↓u13_18, ↓u13_19, ↓u13_20, ↓u13_21, ↓u13_23, ↓u13_24, ↓u13_25, ↓u13_26, ↓u13_27, ↓u13_28, ↓u13_29, ↓u13_30, ↓u13_31, ↓u13_32, ↓u13_33, ↓m20_mk, ↓k20_mk, ↓u13r_mk, ↓ha.len, ↓hf.len, ↓had, ↓hc, decide_eq_true hlt, ↓hco, decide_eq_true hoi, ↓k2, ↓k1.len, ↓hgt, decide_eq_false h20, ↓e1', ↓ne_00, ↓hf1.len, ↓hcf, decide_eq_false hfi, ↓a1']
        rcases ih (i + 1) (by omega) M (by omega) hs1 hrb1 hrf' w1 ha1 hf1 h1 rj rk rl rm o p q (.t true) (.t false) (.t false) w y with ⟨v', F', q1, q2⟩ | ⟨b', F', i', r', s', t', q1, q2, q3, q4, q5, q6, q7, q8⟩
        · exact .inl ⟨v', F', fun κ => (step κ).trans (q1 κ), q2⟩
        · exact .inr ⟨b', F', i', r', s', t', q1, q2, q3, q4, q5, q6, q7, fun κ => (step κ).trans (q8 κ)⟩
    · have h1 : old.take (i + 1) = old.take i := by rw [List.take_of_length_le (by omega), List.take_of_length_le (by omega)]
      have hs1 : s = false → old.take (i + 1) = [] := by rw [h1]; exact hs
      have hrb1 : Rb (old.take (i + 1)) 20 := by rw [h1]; exact hrb
      have hk1 : LK F x d m (LL 4000 (old.take (i + 1)) s) := by rw [h1]; exact hk
      by_cases hfi : i < fresh.length
      · obtain ⟨e, hei⟩ : ∃ a, fresh[i]? = some a := ⟨_, List.getElem?_eq_getElem hfi⟩
        obtain ⟨c5, k5, k6⟩ := hf.get hei
        have be : Bs e := hC e (List.mem_of_getElem? hei)
        have hgt5 := fun F f => uGtr_nn F f .gtr e.length 20
        by_cases h5 : 20 < e.length
        · refine .inl ⟨.mk va vc vd ve (.t true) (.p d 0) (.p x 0) (.n i) rj rk rl rm o p q (.t true) (.t false) (.t true) w y, F, fun κ => ?_, rfl⟩
          rw [loopNU_succ]
          generalize loopNU (u13_22 (clU dskD n) n) κ M = rec
          simp -implicitDefEqProofs only [↓SS, Nat.zero_add, Nat.add_zero, Bool.not_true, Bool.not_false, ↓u13_22, ↓u13_0, ↓u13_1, ↓u13_2, ↓u13_3, ↓u13_4, ↓u13_5, ↓u13_6, ↓u13_7, ↓u13_8, ↓u13_9, ↓u13_10, ↓u13_11, ↓u13_12, ↓u13_13, ↓u13_14, ↓u13_15, ↓u13_16, ↓u13_17, ↓u13_18, ↓u13_19, ↓u13_20, ↓u13_21, ↓u13_23, ↓u13_24, ↓u13_25, ↓u13_26, ↓u13_27, ↓u13_28, ↓u13_29, ↓u13_30, ↓u13_31, ↓u13_32, ↓u13_33, ↓m20_mk, ↓k20_mk, ↓u13r_mk, ↓ha.len, ↓hf.len, ↓had, ↓hc, decide_eq_true hlt, ↓hco, decide_eq_false hoi, ↓hf.len, ↓hcf, decide_eq_true hfi, ↓k6, ↓k5.len, ↓hgt5, decide_eq_true h5]
        · skip
          have hrf' : Rb (fresh.take (i + 1)) 20 := by rw [take_more hei]; exact hrf.snoc be (by omega)
          have step : ∀ κ, loopNU (u13_22 (clU dskD n) n) κ (M + 1) (.mk va vc vd ve (.t false) (.p d 0) (.p x 0) (.n i) rj rk rl rm o p q r s5 t w y) F = loopNU (u13_22 (clU dskD n) n) κ M (.mk va vc vd ve (.t false) (.p d 0) (.p x 0) (.n (i + 1)) rj rk rl rm o p q (.t true) (.t false) (.t false) w y) F := fun κ => by
            rw [loopNU_succ]
            generalize loopNU (u13_22 (clU dskD n) n) κ M = rec
            simp -implicitDefEqProofs only [↓SS, Nat.zero_add, Nat.add_zero, Bool.not_true, Bool.not_false, ↓u13_22, ↓u13_0, ↓u13_1, ↓u13_2, ↓u13_3, ↓u13_4, ↓u13_5, ↓u13_6, ↓u13_7, ↓u13_8, ↓u13_9, ↓u13_10, ↓u13_11, ↓u13_12, ↓u13_13, ↓u13_14, ↓u13_15, ↓u13_16, ↓u13_17, ↓u13_18, ↓u13_19, ↓u13_20, ↓u13_21, ↓u13_23, ↓u13_24, ↓u13_25, ↓u13_26, ↓u13_27, ↓u13_28, ↓u13_29, ↓u13_30, ↓u13_31, ↓u13_32, ↓u13_33, ↓m20_mk, ↓k20_mk, ↓u13r_mk, ↓ha.len, ↓hf.len, ↓had, ↓hc, decide_eq_true hlt, ↓hco, decide_eq_false hoi, ↓hf.len, ↓hcf, decide_eq_true hfi, ↓k6, ↓k5.len, ↓hgt5, decide_eq_false h5, ↓a1']
          rcases ih (i + 1) (by omega) M (by omega) hs1 hrb1 hrf' hw ha hf hk1 rj rk rl rm o p q (.t true) (.t false) (.t false) w y with ⟨v', F', q1, q2⟩ | ⟨b', F', i', r', s', t', q1, q2, q3, q4, q5, q6, q7, q8⟩
          · exact .inl ⟨v', F', fun κ => (step κ).trans (q1 κ), q2⟩
          · exact .inr ⟨b', F', i', r', s', t', q1, q2, q3, q4, q5, q6, q7, fun κ => (step κ).trans (q8 κ)⟩
      · skip
        have hrf' : Rb (fresh.take (i + 1)) 20 := by rw [List.take_of_length_le (by omega)]; rw [List.take_of_length_le (by omega)] at hrf; exact hrf
        have step : ∀ κ, loopNU (u13_22 (clU dskD n) n) κ (M + 1) (.mk va vc vd ve (.t false) (.p d 0) (.p x 0) (.n i) rj rk rl rm o p q r s5 t w y) F = loopNU (u13_22 (clU dskD n) n) κ M (.mk va vc vd ve (.t false) (.p d 0) (.p x 0) (.n (i + 1)) rj rk rl rm o p q (.t true) (.t false) (.t false) w y) F := fun κ => by
          rw [loopNU_succ]
          generalize loopNU (u13_22 (clU dskD n) n) κ M = rec
          simp -implicitDefEqProofs only [↓SS, Nat.zero_add, Nat.add_zero, Bool.not_true, Bool.not_false, ↓u13_22, ↓u13_0, ↓u13_1, ↓u13_2, ↓u13_3, ↓u13_4, ↓u13_5, ↓u13_6, ↓u13_7, ↓u13_8, ↓u13_9, ↓u13_10, ↓u13_11, ↓u13_12, ↓u13_13, ↓u13_14, ↓u13_15, ↓u13_16, ↓u13_17, ↓u13_18, ↓u13_19, ↓u13_20, ↓u13_21, ↓u13_23, ↓u13_24, ↓u13_25, ↓u13_26, ↓u13_27, ↓u13_28, ↓u13_29, ↓u13_30, ↓u13_31, ↓u13_32, ↓u13_33, ↓m20_mk, ↓k20_mk, ↓u13r_mk, ↓ha.len, ↓hf.len, ↓had, ↓hc, decide_eq_true hlt, ↓hco, decide_eq_false hoi, ↓hf.len, ↓hcf, decide_eq_false hfi, ↓a1']
        rcases ih (i + 1) (by omega) M (by omega) hs1 hrb1 hrf' hw ha hf hk1 rj rk rl rm o p q (.t true) (.t false) (.t false) w y with ⟨v', F', q1, q2⟩ | ⟨b', F', i', r', s', t', q1, q2, q3, q4, q5, q6, q7, q8⟩
        · exact .inl ⟨v', F', fun κ => (step κ).trans (q1 κ), q2⟩
        · exact .inr ⟨b', F', i', r', s', t', q1, q2, q3, q4, q5, q6, q7, fun κ => (step κ).trans (q8 κ)⟩
theorem s13 (N : Nat) (hN : 800000 ≤ N) {F : FAW} (hw : Wf F) {va vc : FV} {old fresh : List (List Nat)} (ha : RS F va old) (hf : RS F vc fresh) (hB : ∀ r ∈ old, Bs r) (hC : ∀ r ∈ fresh, Bs r) (at_ part : Nat) (hat : at_ < 256) (hpt : part < 256) : ∃ F', clU dskD N 13 [va, vc, .b at_, .b part] F = .ok (.t true) F' := by
  obtain ⟨n, rfl⟩ : ∃ n, N = n + 1 := ⟨N - 1, by omega⟩
  obtain ⟨F0, e0, s0, w0⟩ := begun28_ok n (by omega) hw
  have ha0 := ha.sq s0
  have hf0 := hf.sq s0
  have hgt := fun F f => uGtr_nn F f .gtr old.length 6
  have hgt2 := fun F f => uGtr_nn F f .gtr fresh.length 6
  by_cases h6 : 6 < old.length
  · refine ⟨F0, ?_⟩
    rw [cl13, u13_in]
    simp -implicitDefEqProofs only [↓SS, Nat.zero_add, Nat.add_zero, Bool.not_true, Bool.not_false, ↓u13b, ↓u13_0, ↓u13_1, ↓u13_2, ↓u13_3, ↓u13_4, ↓u13_5, ↓u13_6, ↓u13_7, ↓u13_8, ↓u13_9, ↓u13_10, ↓u13_11, ↓u13_12, ↓u13_13, ↓u13_14, ↓u13_15, ↓u13_16, ↓u13_17, ↓u13_18, ↓u13_19, ↓u13_20, ↓u13_21, ↓u13_23, ↓u13_24, ↓u13_25, ↓u13_26, ↓u13_27, ↓u13_28, ↓u13_29, ↓u13_30, ↓u13_31, ↓u13_32, ↓u13_33, ↓m20_mk, ↓k20_mk, ↓u13r_mk, ↓e0, ↓ha0.len, ↓hgt, decide_eq_true h6]
  by_cases h7 : 6 < fresh.length
  · refine ⟨F0, ?_⟩
    rw [cl13, u13_in]
    simp -implicitDefEqProofs only [↓SS, Nat.zero_add, Nat.add_zero, Bool.not_true, Bool.not_false, ↓u13b, ↓u13_0, ↓u13_1, ↓u13_2, ↓u13_3, ↓u13_4, ↓u13_5, ↓u13_6, ↓u13_7, ↓u13_8, ↓u13_9, ↓u13_10, ↓u13_11, ↓u13_12, ↓u13_13, ↓u13_14, ↓u13_15, ↓u13_16, ↓u13_17, ↓u13_18, ↓u13_19, ↓u13_20, ↓u13_21, ↓u13_23, ↓u13_24, ↓u13_25, ↓u13_26, ↓u13_27, ↓u13_28, ↓u13_29, ↓u13_30, ↓u13_31, ↓u13_32, ↓u13_33, ↓m20_mk, ↓k20_mk, ↓u13r_mk, ↓e0, ↓ha0.len, ↓hgt, decide_eq_false h6, ↓hf0.len, ↓hgt2, decide_eq_true h7]
  obtain ⟨F1, e1, k1, s1, w1⟩ := dnew_ok n (by omega) w0 4000
  have k1 : DK F1 (F0.x + 1) F0.x (LD 4000 (frms []) false) := by
    have := LD_new (k := 4000) (by decide)
    rw [← this]; exact k1
  have e1 : clU dskD n 15 [.n 4000] F0 = .ok (.p (F0.x + 1) 0) F1 := e1
  have r0 : Rb [] 1 := fun r hr => (by cases hr)
  obtain ⟨x, rv, mr, F2, e2, g1, g2, g3, g4, s2, w2⟩ := open_LD n (by omega) w1 r0 (by decide) (fun _ => rfl) k1
  have n2 := k1.not1
  have ha2 : RS F2 va old := (ha0.sq s1).sg s2 (fun i r e q o hr hi => n2 i r e q o hr hi)
  have hf2 : RS F2 vc fresh := (hf0.sq s1).sg s2 (fun i r e q o hr hi => n2 i r e q o hr hi)
  have hnp := fun F f => uEqN_pp false x 0 F f
  have be0 : Nat.beq 0 0 = true := rfl
  rcases packs_round n (by omega) va vc (.b at_) (.b part) old fresh hB hC (by omega) (by omega) (old.length + fresh.length) 0 (by omega) n (by omega) (s := false) (fun _ => rfl) (fun r hr => (by cases hr)) (fun r hr => (by cases hr)) w2 ha2 hf2 g2 (.u []) (.u []) (.u []) (.u []) (.t false) (.t false) (.t false) (.u []) (.u []) (.u []) (.u []) (.u []) with ⟨v', F', q1, q2⟩ | ⟨b', F3, i', r', s', t', q1, q2, q3, w3, ha3, hf3, k3, q7⟩
  · refine ⟨F', ?_⟩
    rw [cl13, u13_in]
    simp -implicitDefEqProofs only [↓SS, Nat.zero_add, Nat.add_zero, Bool.not_true, Bool.not_false, ↓u13b, ↓u13_0, ↓u13_1, ↓u13_2, ↓u13_3, ↓u13_4, ↓u13_5, ↓u13_6, ↓u13_7, ↓u13_8, ↓u13_9, ↓u13_10, ↓u13_11, ↓u13_12, ↓u13_13, ↓u13_14, ↓u13_15, ↓u13_16, ↓u13_17, ↓u13_18, ↓u13_19, ↓u13_20, ↓u13_21, ↓u13_23, ↓u13_24, ↓u13_25, ↓u13_26, ↓u13_27, ↓u13_28, ↓u13_29, ↓u13_30, ↓u13_31, ↓u13_32, ↓u13_33, ↓m20_mk, ↓k20_mk, ↓u13r_mk, ↓e0, ↓ha0.len, ↓hgt, decide_eq_false h6, ↓hf0.len, ↓hgt2, decide_eq_false h7, ↓e1, ↓e2, ↓hnp, ↓loopU_eq, ↓q1, ↓q2]
  obtain ⟨F4, e4, k4, s4, w4⟩ := arm_ok n (by omega) w3 k3.dk ((at_ % 5 : Nat) : Int) (part : Int) ⟨by omega, by omega⟩
  have e4 : clU dskD n 16 [.p (F0.x + 1) 0, .n (at_ % 5), .n part] F3 = .ok (.u []) F4 := e4
  have hk4 := k3.on (s4.mono (fun _ q => q) (fun _ q => q) (fun _ q => q.elim)) k4
  have harm : (LL 4000 old b').D.arm ((at_ % 5 : Nat) : Int) (part : Int) = LX 4000 (frms old) b' true ((at_ % 5 : Nat) : Int) (part : Int) := by
    unfold Dk.arm
    rw [decide_eq_true (by omega)]; rfl
  rw [harm] at hk4
  have hk4 : LK F4 x (F0.x + 1) F0.x (Lg.mk (LX 4000 (frms old) b' true ((at_ % 5 : Nat) : Int) (part : Int)) old.length (frms old).length) := hk4
  have n4 := k3.dk.not1
  have ha4 : RS F4 va old := ha3.sg s4 (fun i r e q o hr hi => n4 i r e q o hr hi)
  have hf4 : RS F4 vc fresh := hf3.sg s4 (fun i r e q o hr hi => n4 i r e q o hr hi)
  have hlo := frms_le q2
  have hlf := frms_le q3
  obtain ⟨F5, e5, k5, s5, w5⟩ := t40 n 20 (by decide) (by omega) w4 hk4 hf4 q3 (by omega) (by
    have := LX_len 4000 (frms old) b' true ((at_ % 5 : Nat) : Int) (part : Int)
    show (LX 4000 (frms old) b' true ((at_ % 5 : Nat) : Int) (part : Int)).fs.length ≤ 900
    omega)
  obtain ⟨e, L, p1, p2, p3, p4⟩ := pack_opn q1 q2 q3 (by omega) (by omega) (at_ % 5) (part : Int)
  have n5 := hk4.not1
  have ha5 : RS F5 va old := ha4.sg s5 (fun i r e q o hr hi => n5 i r e q o hr hi)
  have hf5 : RS F5 vc fresh := hf4.sg s5 (fun i r e q o hr hi => n5 i r e q o hr hi)
  rw [p1] at e5
  obtain ⟨F6, e6, k6, s6, w6⟩ := power_okD n (by omega) w5 k5.dk
  have n6 := k5.dk.not1
  have ha6 : RS F6 va old := ha5.sg s6 (fun i r e q o hr hi => n6 i r e q o hr hi)
  have hf6 : RS F6 vc fresh := hf5.sg s6 (fun i r e q o hr hi => n6 i r e q o hr hi)
  have hcv2 := fun F f => uCv_nb F f (at_ % 5) (by omega)
  have hcv3 := fun F f => uCv_nb F f part (by omega)
  have hr1 := fun F f => uRem_bb false at_ 5 (by decide) F f
  have x00 : ∀ (F : FAW) (f : KU), uEq false .eql (.n 0) (.n 0) F f = f (.t true) F := fun _ _ => rfl
  have x180 : ∀ (F : FAW) (f : KU), uEq false .eql (.n 18) (.n 0) F f = f (.t false) F := fun _ _ => rfl
  have x188 : ∀ (F : FAW) (f : KU), uEq false .eql (.n 18) (.n 18) F f = f (.t true) F := fun _ _ => rfl
  have n7 := k6.not1
  rcases p4 with ⟨rfl, p4⟩ | ⟨rfl, p4, p5⟩
  · obtain ⟨y5, rv5, mr5, F7, e7, h1, h2, h3, h4, s7, w7⟩ := open_X n (by omega) w6 p4 p2 (by omega) k6
    have hf7 : RS F7 vc fresh := hf6.sg s7 (fun i r e q o hr hi => n7 i r e q o hr hi)
    have e8a := t36 n (by omega) h3.rs hf7 (fun r hr => (q3 r hr).1) (fun r hr => (q3 r hr).1) (by omega)
    have e8 : clU dskD n 36 [rv5, vc] F7 = .ok (.t true) F7 := by rw [e8a, decide_eq_true rfl]
    have hnp2 := fun F f => uEqN_pp false y5 0 F f
    refine ⟨F7, ?_⟩
    rw [cl13, u13_in]
    simp -implicitDefEqProofs only [↓SS, Nat.zero_add, Nat.add_zero, Bool.not_true, Bool.not_false, ↓u13b, ↓u13_0, ↓u13_1, ↓u13_2, ↓u13_3, ↓u13_4, ↓u13_5, ↓u13_6, ↓u13_7, ↓u13_8, ↓u13_9, ↓u13_10, ↓u13_11, ↓u13_12, ↓u13_13, ↓u13_14, ↓u13_15, ↓u13_16, ↓u13_17, ↓u13_18, ↓u13_19, ↓u13_20, ↓u13_21, ↓u13_23, ↓u13_24, ↓u13_25, ↓u13_26, ↓u13_27, ↓u13_28, ↓u13_29, ↓u13_30, ↓u13_31, ↓u13_32, ↓u13_33, ↓m20_mk, ↓k20_mk, ↓u13r_mk, ↓e0, ↓ha0.len, ↓hgt, decide_eq_false h6, ↓hf0.len, ↓hgt2, decide_eq_false h7, ↓e1, ↓e2, ↓hnp, ↓loopU_eq, ↓q7, be0, ↓hr1, ↓hcv2, ↓hcv3, ↓e4, ↓e5, ↓e6, ↓e7, ↓ne_00, ↓hnp2, ↓x00, ↓e8]
  · obtain ⟨y5, rv5, mr5, F7, e7, h1, h2, h3, h4, s7, w7⟩ := open_X n (by omega) w6 p4 p2 (by omega) k6
    have ha7 : RS F7 va old := ha6.sg s7 (fun i r e q o hr hi => n7 i r e q o hr hi)
    have e8a := t36 n (by omega) h3.rs ha7 (fun r hr => (q2 r hr).1) (fun r hr => (q2 r hr).1) (by omega)
    have e8 : clU dskD n 36 [rv5, va] F7 = .ok (.t true) F7 := by rw [e8a, decide_eq_true rfl]
    have e9 := t39 n (by omega) h2
    rw [p5] at e9
    have hq9 := fun F f => eql_self old.length F f
    have hnp2 := fun F f => uEqN_pp false y5 0 F f
    refine ⟨F7, ?_⟩
    rw [cl13, u13_in]
    simp -implicitDefEqProofs only [↓SS, Nat.zero_add, Nat.add_zero, Bool.not_true, Bool.not_false, ↓u13b, ↓u13_0, ↓u13_1, ↓u13_2, ↓u13_3, ↓u13_4, ↓u13_5, ↓u13_6, ↓u13_7, ↓u13_8, ↓u13_9, ↓u13_10, ↓u13_11, ↓u13_12, ↓u13_13, ↓u13_14, ↓u13_15, ↓u13_16, ↓u13_17, ↓u13_18, ↓u13_19, ↓u13_20, ↓u13_21, ↓u13_23, ↓u13_24, ↓u13_25, ↓u13_26, ↓u13_27, ↓u13_28, ↓u13_29, ↓u13_30, ↓u13_31, ↓u13_32, ↓u13_33, ↓m20_mk, ↓k20_mk, ↓u13r_mk, ↓e0, ↓ha0.len, ↓hgt, decide_eq_false h6, ↓hf0.len, ↓hgt2, decide_eq_false h7, ↓e1, ↓e2, ↓hnp, ↓loopU_eq, ↓q7, be0, ↓hr1, ↓hcv2, ↓hcv3, ↓e4, ↓e5, ↓e6, ↓e7, ↓ne_00, ↓hnp2, ↓x180, ↓x188, ↓e8, ↓e9, ↓h3.rs.len, ↓hq9]
end Go.Proofs.Ythclmjelknibhaa.Ev
