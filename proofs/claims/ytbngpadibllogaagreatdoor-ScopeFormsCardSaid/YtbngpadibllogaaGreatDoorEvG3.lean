/- Memory's operations, told by what goes on behind them. -/
import Derived.Test.YtbngpadibllogaaGreatDoorEvG2
namespace Go.Proofs.YtbngpadibllogaaGreatDoor.Ev
open Go Go.RowKit
set_option linter.unusedVariables false
set_option linter.unusedSimpArgs false
set_option linter.unusedSectionVars false

-- cuts
def natC (v : Value) (f : Nat → R) : R :=
  match v with
  | .int _ k => Int.casesOn k (fun m => frcN m f) fun _ => none
  | _ => none
theorem natC_inv {v : Value} {f : Nat → R} {x : Value × AW} (h : natC v f = some x) : ∃ k m, v = .int k (.ofNat m) ∧ f m = some x := by
  unfold natC at h
  split at h
  · rename_i q k
    cases k with
    | ofNat m =>
      have h : frcN m f = some x := h
      rw [frcN_eq] at h
      exact ⟨q, m, rfl, h⟩
    | negSucc m => cases h
  · cases h
def optC (o : Option Value) (d : Nat) (f : Nat → R) : R := Option.casesOn o (frcN d f) fun v => natC v f
theorem optC_inv {o : Option Value} {d : Nat} {f : Nat → R} {x : Value × AW} (h : optC o d f = some x) : ∃ j, oint o = some j ∧ ∃ m : Nat, j.getD (d : Int) = (m : Int) ∧ f m = some x ∧ (j = none ↔ o = none) := by
  cases o with
  | none =>
    have h : frcN d f = some x := h
    rw [frcN_eq] at h
    exact ⟨none, rfl, d, rfl, h, by simp⟩
  | some v =>
    obtain ⟨k, m, rfl, h2⟩ := natC_inv (show natC v f = some x from h)
    exact ⟨some (.ofNat m), rfl, m, rfl, h2, by simp⟩
/-- Just so many of a list. -/
def takeX {α : Type} : Nat → List α → (List α → R) → R
  | 0, _, f => f []
  | n + 1, [], f => none
  | n + 1, a :: l, f => takeX n l fun m => f (a :: m)
theorem takeX_inv {α : Type} : ∀ {n : Nat} {l : List α} {f : List α → R} {x : Value × AW}, takeX n l f = some x → n ≤ l.length ∧ f (l.take n) = some x
  | 0, l, f, x, h => by simpa [takeX] using h
  | n + 1, [], f, x, h => by simp [takeX] at h
  | n + 1, a :: l, f, x, h => by
    rw [takeX] at h
    obtain ⟨h1, h2⟩ := takeX_inv h
    exact ⟨by simp only [List.length_cons]; omega, by simpa using h2⟩
def dropX {α : Type} : Nat → List α → (List α → R) → R
  | 0, l, f => f l
  | n + 1, [], f => none
  | n + 1, _ :: l, f => dropX n l f
theorem dropX_inv {α : Type} : ∀ {n : Nat} {l : List α} {f : List α → R} {x : Value × AW}, dropX n l f = some x → n ≤ l.length ∧ f (l.drop n) = some x
  | 0, l, f, x, h => by simpa [dropX] using h
  | n + 1, [], f, x, h => by simp [dropX] at h
  | n + 1, a :: l, f, x, h => by
    rw [dropX] at h
    obtain ⟨h1, h2⟩ := dropX_inv h
    exact ⟨by simp only [List.length_cons]; omega, by simpa using h2⟩
def kSlSL (s : List UInt8) (lo hi : Option Value) (S : AW) (f : KF) : R :=
  optC lo 0 fun l => dropX l s fun r => Option.casesOn hi (f (.string ⟨⟨r⟩⟩) S) fun v => natC v fun h => cond (Nat.ble l h) (takeX (Nat.sub h l) r fun m => f (.string ⟨⟨m⟩⟩) S) none
def kSlS (a : Value) (lo hi : Option Value) (S : AW) (f : KF) : R :=
  match a with
  | .string s => kSlSL s.data.toList lo hi S f
  | _ => none
theorem ba_cut (s : ByteArray) (l h : Nat) : s.extract l h = ⟨⟨(s.data.toList.drop l).take (h - l)⟩⟩ := by
  apply ba_ext
  rw [ByteArray.data_extract]
  simp [List.extract_eq_take_drop]
theorem kSlS_inv {C : Callee} {ρ : Operand → Value} {a : Operand} {lo hi : Option Operand} {S : AW} {f : KF} {x : Value × AW} (h : kSlS (ρ a) (lo.map ρ) (hi.map ρ) S f = some x) :
    ∃ v S', goR C S (rSlS ρ S a lo hi) = some (v, S') ∧ f v S' = some x := by
  unfold rSlS
  generalize ρ a = p at h ⊢
  generalize lo.map ρ = lo at h ⊢
  generalize hi.map ρ = hi at h ⊢
  cases p <;> simp only [kSlS] at h <;> try (cases h; done)
  rename_i s
  unfold kSlSL at h
  obtain ⟨j, h1, l, h2, h3, _⟩ := optC_inv h
  obtain ⟨h4, h5⟩ := dropX_inv h3
  rw [h1]
  cases hi with
  | none =>
    simp only [oint, cutB, h2, Option.getD_none, Option.isSome_none]
    have e : s.size = s.data.toList.length := ba_len s
    refine ⟨_, _, ?_, h5⟩
    have hj : j.getD (0 : Int) = (l : Int) := h2
    simp only [hj]
    rw [if_neg (by simp), if_pos (by omega)]
    simp only [goR, ba_cut]
    congr 4
    simp only [Int.toNat_natCast]
    rw [List.take_of_length_le (by simp)]
  | some v =>
    obtain ⟨k, m, rfl, h7⟩ := natC_inv (show natC v _ = some x from h5)
    cases e : Nat.ble l m with
    | false => rw [e] at h7; cases h7
    | true =>
      rw [e, cond_true] at h7
      have e := Nat.le_of_ble_eq_true e
      obtain ⟨h8, h9⟩ := takeX_inv h7
      have e8 : m - l ≤ (s.data.toList.drop l).length := h8
      rw [List.length_drop] at e8
      have e2 : s.size = s.data.toList.length := ba_len s
      simp only [oint, cutB, Option.getD_none, Option.getD_some, Option.isSome_none]
      have hj : j.getD (0 : Int) = (l : Int) := h2
      simp only [hj]
      refine ⟨_, _, ?_, h9⟩
      have e9 : ((Int.ofNat m) : Int) = (m : Int) := rfl
      rw [e9, if_neg (by simp), if_pos (by omega)]
      simp only [goR, ba_cut, Int.toNat_natCast]
      rfl
def kSlVO (size i o n c : Nat) (lo hi mx : Option Value) (S : AW) (f : KF) : R :=
  rawC S i fun r => cond (Nat.beq r.es size) (optC lo 0 fun l => optC hi n fun h => optC mx c fun m =>
    cond (and (Nat.ble l h) (and (Nat.ble h m) (and (Nat.ble m c) (not (and mx.isSome hi.isNone))))) (frcN (Nat.add o (Nat.mul l size)) fun o => frcN (Nat.sub h l) fun n => frcN (Nat.sub m l) fun c => f (.slice (some ⟨i, o, none⟩) n c) S) none) none
def vSlV (S : AW) (size : Nat) (x : Value) (lo hi mm : Option Value) : Option Res := match x, oint lo, oint hi, oint mm with
    | .slice none 0 0, some l, some h, some m => match cutB 0 0 l h m with | some _ => some (.val (.slice none 0 0) S) | none => none
    | .slice (some ⟨i, o, none⟩) n c, some l, some h, some m => match S.raw i with
      | some r => if r.es = size then match cutB n c l h m with
          | some (l, h, m) => some (.val (.slice (some ⟨i, o + l * size, none⟩) (h - l) (m - l)) S)
          | none => none
        else none
      | none => none
    | _, _, _, _ => none
def kSlV (C : Callee) (size : Nat) (a : Value) (lo hi mx : Option Value) (S : AW) (f : KF) : R :=
  match a with
  | .slice (some ⟨i, o, none⟩) n c => kSlVO size i o n c lo hi mx S f
  | a => kR C (vSlV S size a lo hi mx) S f
theorem kSlV_inv {C : Callee} {ρ : Operand → Value} {size : Nat} {a : Operand} {lo hi mx : Option Operand} {S : AW} {f : KF} {x : Value × AW} (h : kSlV C size (ρ a) (lo.map ρ) (hi.map ρ) (mx.map ρ) S f = some x) :
    ∃ v S', goR C S (rSlV ρ S size a lo hi mx) = some (v, S') ∧ f v S' = some x := by
  have hr : rSlV ρ S size a lo hi mx = vSlV S size (ρ a) (lo.map ρ) (hi.map ρ) (mx.map ρ) := rfl
  rw [hr]
  generalize ρ a = p at h ⊢
  generalize lo.map ρ = lo at h ⊢
  generalize hi.map ρ = hi at h ⊢
  generalize mx.map ρ = mx at h ⊢
  unfold kSlV at h
  split at h
  · rename_i i o n c
    unfold kSlVO at h
    obtain ⟨r, h1, h2⟩ := rawC_inv h
    rw [beqN_eq] at h2
    by_cases e : r.es = size
    · simp only [e, decide_true, cond_true] at h2
      obtain ⟨jl, a1, l, a2, h3, a4⟩ := optC_inv h2
      obtain ⟨jh, b1, hh, b2, h4, b4⟩ := optC_inv h3
      obtain ⟨jm, c1, m, c2, h5, c4⟩ := optC_inv h4
      cases e2 : (and (Nat.ble l hh) (and (Nat.ble hh m) (and (Nat.ble m c) (not (and mx.isSome hi.isNone))))) with
      | false => rw [e2] at h5; cases h5
      | true =>
        rw [e2, cond_true] at h5
        simp only [frcN_eq] at h5
        simp only [Bool.and_eq_true, Bool.not_eq_true', Nat.ble_eq] at e2
        obtain ⟨d1, d2, d3, d4⟩ := e2
        refine ⟨_, _, ?_, h5⟩
        simp only [vSlV, a1, b1, c1, h1, if_pos e]
        have d5 : (jm.isSome && jh.isNone) = false := by
          cases hi with
          | some v =>
            have : jh ≠ none := fun e => by simpa using b4.mp e
            cases jh with
            | none => exact absurd rfl this
            | some _ => simp
          | none =>
            have hm : mx = none := by
              cases mx with
              | none => rfl
              | some v => simp at d4
            have := c4.mpr hm
            rw [this]; rfl
        have e5 : cutB n c jl jh jm = some (l, hh, m) := by
          unfold cutB
          rw [d5]
          simp only [Bool.false_eq_true, if_false]
          have a2' : jl.getD 0 = (l : Int) := a2
          rw [a2', b2, c2, if_pos (by omega)]
          simp
        rw [e5]
        rfl
    · simp only [e, decide_false, cond_false] at h2
      cases h2
  · exact kR_inv h
def kNilc (a : Value) (S : AW) (f : KF) : R :=
  match a with
  | .pointer (some a) => f (.pointer (some a)) S
  | .func g a b => f (.func g a b) S
  | _ => none
theorem kNilc_inv {C : Callee} {ρ : Operand → Value} {a : Operand} {S : AW} {f : KF} {x : Value × AW} (h : kNilc (ρ a) S f = some x) :
    ∃ v S', goR C S (rNilc ρ S a) = some (v, S') ∧ f v S' = some x := by
  unfold rNilc
  generalize ρ a = p at h ⊢
  unfold kNilc at h
  split at h
  · exact ⟨_, _, rfl, h⟩
  · exact ⟨_, _, rfl, h⟩
  · cases h
def kLen (str : Bool) (a : Value) (S : AW) (f : KF) : R :=
  match a with
  | .string s => cond str (kNat (lenL s.data.toList) S f) none
  | .slice _ n _ => cond str none (kNat n S f)
  | _ => none
theorem kLen_inv {C : Callee} {ρ : Operand → Value} {str : Bool} {a : Operand} {S : AW} {f : KF} {x : Value × AW} (h : kLen str (ρ a) S f = some x) :
    ∃ v S', goR C S (rLen ρ S str a) = some (v, S') ∧ f v S' = some x := by
  unfold rLen
  generalize ρ a = p at h ⊢
  cases p <;> simp only [kLen] at h <;> try (cases h; done)
  · cases str with
    | false => cases h
    | true =>
      rw [cond_true, kNat_eq, lenL_eq] at h
      exact ⟨_, _, rfl, by rw [ba_len]; exact h⟩
  · cases str with
    | true => cases h
    | false =>
      rw [cond_false, kNat_eq] at h
      exact ⟨_, _, rfl, h⟩
def kLd1 (i o : Nat) (S : AW) (f : KF) : R := rawC S i fun r => Option.casesOn (nthL r.c o) none fun v => isBadC v (f v S)
def kLdN (n i o : Nat) (S : AW) (f : KF) : R := rawC S i fun r => rowAt r.c o n fun m => f (.agg ⟨m⟩) S
def kLdP (sz : Option Nat) (i o : Nat) (S : AW) (f : KF) : R := Option.casesOn sz (kLd1 i o S f) fun n => kLdN n i o S f
def kLd (sz : Option Nat) (a : Value) (S : AW) (f : KF) : R := ptrC a fun i o => kLdP sz i o S f
theorem kLdP_inv {sz : Option Nat} {i o : Nat} {S : AW} {f : KF} {x : Value × AW} (h : kLdP sz i o S f = some x) : ∃ v, S.ldV sz i o = some v ∧ f v S = some x := by
  cases sz with
  | none =>
    obtain ⟨r, h1, h2⟩ := rawC_inv (show rawC S i _ = some x from h)
    rw [nthL_eq] at h2
    cases e : r.c[o]? with
    | none => rw [e] at h2; cases h2
    | some v =>
      rw [e] at h2
      obtain ⟨h3, h4⟩ := isBadC_inv (show isBadC v (f v S) = some x from h2)
      exact ⟨v, by simp only [AW.ldV, AW.cell, h1, e, h3]; rfl, h4⟩
  | some n =>
    obtain ⟨r, h1, h2⟩ := rawC_inv (show rawC S i _ = some x from h)
    obtain ⟨m, h3, _, h4⟩ := rowAt_inv h2
    exact ⟨_, by simp only [AW.ldV, AW.row, h1, h3]; rfl, h4⟩
theorem kLd_inv {C : Callee} {ρ : Operand → Value} {sz : Option Nat} {a : Operand} {S : AW} {f : KF} {x : Value × AW} (h : kLd sz (ρ a) S f = some x) :
    ∃ v S', goR C S (rLd ρ S sz a) = some (v, S') ∧ f v S' = some x := by
  obtain ⟨i, o, h1, h2⟩ := ptrC_inv h
  obtain ⟨v, h3, h4⟩ := kLdP_inv h2
  unfold rLd
  rw [h1]
  exact ⟨v, S, by simp only [h3]; rfl, h4⟩
def byteC (v : Value) (f : UInt8 → R) : R :=
  match v with
  | .int .u8 n => f (UInt8.ofNat n.toNat)
  | _ => none
theorem byteC_inv {v : Value} {f : UInt8 → R} {x : Value × AW} (h : byteC v f = some x) : ∃ n, v = .int .u8 n ∧ f (UInt8.ofNat n.toNat) = some x := by
  unfold byteC at h
  split at h
  · exact ⟨_, rfl, h⟩
  · cases h
def bytesC : Nat → List Value → (List UInt8 → R) → R
  | 0, _, f => f []
  | n + 1, [], _ => none
  | n + 1, v :: l, f => byteC v fun b => bytesC n l fun m => f (b :: m)
theorem bytesC_inv : ∀ {n : Nat} {l : List Value} {f : List UInt8 → R} {x : Value × AW}, bytesC n l f = some x → ∃ bs, (l.take n).length = n ∧ (l.take n).all (fun v => !isBad v) = true ∧ bytesV (l.take n) = some bs ∧ f bs = some x
  | 0, l, f, x, h => by simp [bytesC] at h; simp [h, bytesV]
  | n + 1, [], f, x, h => by simp [bytesC] at h
  | n + 1, v :: l, f, x, h => by
    rw [bytesC] at h
    obtain ⟨m, rfl, h2⟩ := byteC_inv h
    obtain ⟨bs, h3, h4, h5, h6⟩ := bytesC_inv h2
    refine ⟨UInt8.ofNat m.toNat :: bs, ?_, ?_, ?_, h6⟩
    · simp only [List.take_succ_cons, List.length_cons]; omega
    · simp only [List.take_succ_cons, List.all_cons, h4, Bool.and_true]; rfl
    · simp only [List.take_succ_cons, bytesV, h5, Option.map_some]
def kCvBS (a : Value) (S : AW) (f : KF) : R :=
  match a with
  | .slice none _ _ => f (.string .empty) S
  | .slice (some ⟨i, o, none⟩) n _ => rawC S i fun r => bytesC n (dropL o r.c) fun bs => f (.string ⟨⟨bs⟩⟩) S
  | _ => none
theorem kCvBS_inv {C : Callee} {ρ : Operand → Value} {a : Operand} {S : AW} {f : KF} {x : Value × AW} (h : kCvBS (ρ a) S f = some x) :
    ∃ v S', goR C S (rCvBS ρ S a) = some (v, S') ∧ f v S' = some x := by
  unfold rCvBS
  generalize ρ a = p at h ⊢
  unfold kCvBS at h
  split at h
  · exact ⟨_, _, rfl, h⟩
  · rename_i i o n c
    obtain ⟨r, h1, h2⟩ := rawC_inv h
    rw [dropL_eq] at h2
    obtain ⟨bs, h3, h4, h5, h6⟩ := bytesC_inv h2
    refine ⟨_, _, ?_, h6⟩
    have : S.row i o n = some ((r.c.drop o).take n) := by
      simp only [AW.row, h1, rowOk, h3, h4, decide_true, Bool.and_self, if_true]
    simp only [this, h5]
    rfl
  · cases h

-- memory told anew
def lputC {α : Type} : List (Nat × α) → Nat → α → (List (Nat × α) → R) → R
  | [], t, v, f => f [(t, v)]
  | p :: l, t, v, f => cond (Nat.beq t p.1) (f ((p.1, v) :: l)) (lputC l t v fun m => f (p :: m))
theorem lputC_eq {α : Type} : ∀ (l : List (Nat × α)) (t : Nat) (v : α) (f : List (Nat × α) → R), lputC l t v f = f (lput l t v)
  | [], t, v, f => rfl
  | (u, w) :: l, t, v, f => by
    rw [lputC, beqN_eq, lputC_eq l t v]
    simp only [lput]
    by_cases e : t = u
    · simp [e]
    · simp [e]
theorem lput_same {α : Type} : ∀ {l : List (Nat × α)} {t : Nat} {v : α}, look l t = some v → lput l t v = l
  | (u, w) :: l, t, v, h => by
    simp only [look] at h
    simp only [lput]
    split at h
    · rename_i e
      simp only [Option.some.injEq] at h
      subst h
      rw [if_pos e]
    · rename_i e
      rw [if_neg e, lput_same h]
def putA (S : AW) (i : Nat) (r : Raw) (c : List Value) (n : Nat) (m : Fam) (f : AW → R) : R :=
  frcN (cond m.multi (Nat.succ m.g) r.gen) fun gen => frcN (cond m.multi (Nat.succ m.g) m.g) fun g => frcN (cond (Nat.ble n m.ext) m.ext n) fun ext =>
    lputC S.heap i (.cells ⟨c, r.elem, r.es, r.fam, gen, r.ro⟩) fun h => lputC S.fams r.fam ⟨false, g, ext⟩ fun fs => f ⟨h, fs, S.next⟩
def putB (S : AW) (i : Nat) (r : Raw) (c : List Value) (m : Fam) (f : AW → R) : R :=
  frcN (lenL c) fun n => cond (and (not m.multi) (Nat.ble n m.ext)) (lputC S.heap i (.cells ⟨c, r.elem, r.es, r.fam, r.gen, r.ro⟩) fun h => f ⟨h, S.fams, S.next⟩) (putA S i r c n m f)
def putC (S : AW) (i : Nat) (r : Raw) (c : List Value) (f : AW → R) : R :=
  Option.casesOn (findF S.fams r.fam) none fun m => putB S i r c m f
theorem putC_inv {S : AW} {i : Nat} {r : Raw} {c : List Value} {f : AW → R} {x : Value × AW} (h : putC S i r c f = some x) : f (S.put i r c) = some x := by
  unfold putC at h
  rw [findF_eq] at h
  cases e : look S.fams r.fam with
  | none => rw [e] at h; cases h
  | some m =>
    rw [e] at h
    have h : putB S i r c m f = some x := h
    have hm : S.fam r.fam = m := by unfold AW.fam; rw [e]; rfl
    unfold putB at h
    rw [frcN_eq, lenL_eq] at h
    have hput : S.put i r c = ⟨lput S.heap i (.cells { r with c := c, gen := if m.multi then m.g + 1 else r.gen }), lput S.fams r.fam ⟨false, if m.multi then m.g + 1 else m.g, max m.ext c.length⟩, S.next⟩ := by
      unfold AW.put; rw [hm]
    obtain ⟨mu, g, ext⟩ := m
    have hmax : (cond (Nat.ble c.length ext) ext c.length) = max ext c.length := by
      cases e4 : Nat.ble c.length ext with
      | true => have := Nat.le_of_ble_eq_true e4; simp only [cond_true]; omega
      | false =>
        have : ¬ c.length ≤ ext := fun hle => by rw [Nat.ble_eq_true_of_le hle] at e4; cases e4
        simp only [cond_false]; omega
    cases e2 : (and (not mu) (Nat.ble c.length ext)) with
    | true =>
      rw [e2, cond_true, lputC_eq] at h
      simp only [Bool.and_eq_true, Bool.not_eq_true', Nat.ble_eq] at e2
      obtain ⟨e3, e4⟩ := e2
      have h1 : max ext c.length = ext := by omega
      rw [hput]
      simp only [e3, Bool.false_eq_true, if_false, h1]
      have h2 : lput S.fams r.fam ⟨false, g, ext⟩ = S.fams := lput_same (by rw [e, e3])
      rw [h2]
      exact h
    | false =>
      rw [e2, cond_false] at h
      unfold putA at h
      simp only [frcN_eq, lputC_eq] at h
      rw [hput]
      rw [hmax] at h
      cases mu
      · exact h
      · exact h
def newC (S : AW) (c : List Value) (elem es : Nat) (f : Nat → AW → R) : R :=
  frcN (lenL c) fun n => frcN S.next fun x => f x ⟨(x, .cells ⟨c, elem, es, x, 0, false⟩) :: S.heap, (x, ⟨false, 0, n⟩) :: S.fams, Nat.succ x⟩
theorem newC_eq (S : AW) (c : List Value) (elem es : Nat) (f : Nat → AW → R) : newC S c elem es f = f S.next (S.new c elem es) := by
  unfold newC
  rw [frcN_eq, frcN_eq, lenL_eq]
  rfl
def stC : List Value → List Value → (List Value → R) → R
  | l, [], f => f l
  | [], _ :: _, _ => none
  | a :: l, v :: vs, f => isBadC a (cond (cellOk v) (stC l vs fun m => f (v :: m)) none)
theorem stC_inv : ∀ {l vs : List Value} {f : List Value → R} {x : Value × AW}, stC l vs f = some x → vs.length ≤ l.length ∧ vs.all cellOk = true ∧ (l.take vs.length).all (fun v => !isBad v) = true ∧ f (vs ++ l.drop vs.length) = some x
  | l, [], f, x, h => by cases l <;> simpa [stC] using h
  | [], v :: vs, f, x, h => by simp [stC] at h
  | a :: l, v :: vs, f, x, h => by
    rw [stC] at h
    obtain ⟨h1, h2⟩ := isBadC_inv h
    cases e : cellOk v with
    | false => rw [e] at h2; cases h2
    | true =>
      rw [e, cond_true] at h2
      obtain ⟨h3, h4, h5, h6⟩ := stC_inv h2
      exact ⟨by simp only [List.length_cons]; omega, by simp [e, h4], by simp only [List.length_cons, List.take_succ_cons, List.all_cons, h1, h5]; rfl, by simpa using h6⟩
def stAt : Nat → List Value → List Value → (List Value → R) → R
  | 0, l, vs, f => stC l vs f
  | n + 1, [], vs, f => none
  | n + 1, a :: l, vs, f => stAt n l vs fun m => f (a :: m)
theorem stAt_inv : ∀ {n : Nat} {l vs : List Value} {f : List Value → R} {x : Value × AW}, stAt n l vs f = some x → n + vs.length ≤ l.length ∧ vs.all cellOk = true ∧ (rowOk l n vs.length).isSome = true ∧ f (l.take n ++ vs ++ l.drop (n + vs.length)) = some x
  | 0, l, vs, f, x, h => by
    rw [stAt] at h
    obtain ⟨h1, h2, h3, h4⟩ := stC_inv h
    refine ⟨by omega, h2, ?_, by simpa using h4⟩
    have : (l.take vs.length).length = vs.length := by simp; omega
    simp only [rowOk, List.drop_zero, this, h3, decide_true, Bool.and_self, if_true, Option.isSome_some]
  | n + 1, [], vs, f, x, h => by simp [stAt] at h
  | n + 1, a :: l, vs, f, x, h => by
    rw [stAt] at h
    obtain ⟨h1, h2, h3, h4⟩ := stAt_inv h
    refine ⟨by simp only [List.length_cons]; omega, h2, by simpa [rowOk] using h3, ?_⟩
    have : n + 1 + vs.length = (n + vs.length) + 1 := by omega
    rw [this]
    simpa using h4
def kStR (size o : Nat) (vs : List Value) (S : AW) (i : Nat) (f : KF) (r : Raw) : R :=
  cond r.ro none (cond (Nat.beq (lenL vs) size) (stAt o r.c vs fun c => putC S i r c fun S' => f undef S') none)
def kSt (size : Nat) (a v : Value) (S : AW) (f : KF) : R := ptrC a fun i o => rawC S i fun r => kStR size o (cellsC v) S i f r
theorem kSt_inv {C : Callee} {ρ : Operand → Value} {size : Nat} {a b : Operand} {S : AW} {f : KF} {x : Value × AW} (h : kSt size (ρ a) (ρ b) S f = some x) :
    ∃ v S', goR C S (rSt ρ S size a b) = some (v, S') ∧ f v S' = some x := by
  obtain ⟨i, o, h1, h2⟩ := ptrC_inv h
  obtain ⟨r, h3, h4⟩ := rawC_inv h2
  unfold kStR at h4
  rw [lenL_eq, beqN_eq, cellsC_eq] at h4
  cases hro : r.ro with
  | true => rw [hro] at h4; cases h4
  | false =>
    rw [hro, cond_false] at h4
    by_cases e : (cellsOf (ρ b)).length = size
    · simp only [e, decide_true, cond_true] at h4
      obtain ⟨h5, h6, h7, h8⟩ := stAt_inv h4
      have h8 := putC_inv h8
      unfold rSt
      rw [h1]
      simp only [h3]
      rw [e] at h7 h8
      refine ⟨_, _, ?_, h8⟩
      rw [if_pos (by simp only [hro, e, h6, h7, decide_true, Bool.not_false, Bool.and_self])]
      rfl
    · simp only [e, decide_false, cond_false] at h4
      cases h4
def kBox (elem es : Nat) (v : Value) (S : AW) (f : KF) : R := isBadC v (newC S (cellsC v) elem es fun i S' => f (.pointer (some ⟨i, 0, none⟩)) S')
theorem kBox_inv {C : Callee} {ρ : Operand → Value} {elem es : Nat} {a : Operand} {S : AW} {f : KF} {x : Value × AW} (h : kBox elem es (ρ a) S f = some x) :
    ∃ v S', goR C S (rBox ρ S elem es a) = some (v, S') ∧ f v S' = some x := by
  obtain ⟨h1, h2⟩ := isBadC_inv h
  rw [newC_eq, cellsC_eq] at h2
  exact ⟨_, _, by unfold rBox; rw [if_neg (by simp [h1])]; rfl, h2⟩
def kNew (elem es : Nat) (cells : List Value) (S : AW) (f : KF) : R := newC S cells elem es fun i S' => f (.pointer (some ⟨i, 0, none⟩)) S'
theorem kNew_inv {C : Callee} {ρ : Operand → Value} {elem es : Nat} {cells : List Value} {S : AW} {f : KF} {x : Value × AW} (h : kNew elem es cells S f = some x) :
    ∃ v S', goR C S (rNew ρ S elem es cells) = some (v, S') ∧ f v S' = some x := by
  unfold kNew at h
  rw [newC_eq] at h
  exact ⟨_, _, rfl, h⟩
def repL (zero : List Value) : Nat → List Value → List Value
  | 0, l => l
  | n + 1, l => repL zero n (zero ++ l)
theorem repL_eq (zero : List Value) : ∀ (n : Nat) (l : List Value), repL zero n l = (List.replicate n zero).flatten ++ l
  | 0, l => by simp [repL]
  | n + 1, l => by
    rw [repL, repL_eq zero n, List.replicate_succ', List.flatten_append]
    simp
def kLit (elem size : Nat) (zero : List Value) (n : Nat) (ps : List (Nat × Nat × Value)) (S : AW) (f : KF) : R :=
  fillC (repL zero n []) ps fun l => newC S l elem size fun i S' => f (.slice (some ⟨i, 0, none⟩) n n) S'
theorem kLit_inv {C : Callee} {ρ : Operand → Value} {elem size : Nat} {zero : List Value} {n : Nat} {ps : List (Nat × Nat × Operand)} {S : AW} {f : KF} {x : Value × AW} (h : kLit elem size zero n (ps.map fun p => (p.1, p.2.1, ρ p.2.2)) S f = some x) :
    ∃ v S', goR C S (rLit ρ S elem size zero n ps) = some (v, S') ∧ f v S' = some x := by
  obtain ⟨m, h1, h2⟩ := fillC_inv h
  rw [repL_eq, List.append_nil] at h1
  rw [newC_eq] at h2
  unfold rLit
  have : (ps.map fun (o, s, x) => (o, s, ρ x)) = ps.map fun p => (p.1, p.2.1, ρ p.2.2) := rfl
  rw [this, h1]
  exact ⟨_, _, rfl, h2⟩
def kMks (elem size bytes : Nat) (zero : List Value) (l c : Value) (S : AW) (f : KF) : R :=
  natC l fun l => natC c fun c => cond (and (Nat.ble l c) (and (Nat.ble c 140737488355328) (Nat.ble (Nat.mul c bytes) 281474976710656))) (newC S (repL zero c []) elem size fun i S' => f (.slice (some ⟨i, 0, none⟩) l c) S') none
theorem kMks_inv {C : Callee} {ρ : Operand → Value} {elem size bytes : Nat} {zero : List Value} {l c : Operand} {S : AW} {f : KF} {x : Value × AW} (h : kMks elem size bytes zero (ρ l) (ρ c) S f = some x) :
    ∃ v S', goR C S (rMks ρ S elem size bytes zero l c) = some (v, S') ∧ f v S' = some x := by
  obtain ⟨_, m, h1, h2⟩ := natC_inv h
  obtain ⟨_, n, h3, h4⟩ := natC_inv h2
  cases e : (and (Nat.ble m n) (and (Nat.ble n 140737488355328) (Nat.ble (Nat.mul n bytes) 281474976710656))) with
  | false => rw [e] at h4; cases h4
  | true =>
    rw [e, cond_true, newC_eq, repL_eq, List.append_nil] at h4
    simp only [Bool.and_eq_true, Nat.ble_eq] at e
    obtain ⟨e1, e2, e3⟩ := e
    unfold rMks
    rw [h1, h3]
    refine ⟨_, _, ?_, h4⟩
    simp only
    have e3 : n * bytes ≤ 281474976710656 := e3
    have e4 : ((n * bytes : Nat) : Int) ≤ 281474976710656 := by omega
    rw [if_pos (by
      have a : ((Int.ofNat m) : Int) = (m : Int) := rfl
      have b : ((Int.ofNat n) : Int) = (n : Int) := rfl
      rw [a, b]
      refine ⟨by omega, by omega, by omega, ?_⟩
      rw [← Int.natCast_mul]; exact e4)]
    rfl
def strC : List UInt8 → (List Value → R) → R
  | [], f => f []
  | b :: l, f => frcN b.toNat fun n => strC l fun m => f (.int .u8 (.ofNat n) :: m)
theorem strC_eq : ∀ (l : List UInt8) (f : List Value → R), strC l f = f (l.map fun b => .int .u8 b.toNat)
  | [], f => rfl
  | b :: l, f => by rw [strC, frcN_eq, strC_eq l]; rfl
def kCvSB (elem : Nat) (a : Value) (S : AW) (f : KF) : R :=
  match a with
  | .string s => frcN (lenL s.data.toList) fun n => cond (Nat.blt n 4611686018427387904) (strC s.data.toList fun cells => newC S cells elem 1 fun i S' => f (.slice (some ⟨i, 0, none⟩) n n) S') none
  | _ => none
theorem kCvSB_inv {C : Callee} {ρ : Operand → Value} {elem : Nat} {a : Operand} {S : AW} {f : KF} {x : Value × AW} (h : kCvSB elem (ρ a) S f = some x) :
    ∃ v S', goR C S (rCvSB ρ S elem a) = some (v, S') ∧ f v S' = some x := by
  unfold rCvSB
  generalize ρ a = p at h ⊢
  cases p <;> simp only [kCvSB] at h <;> try (cases h; done)
  rename_i s
  rw [frcN_eq, lenL_eq, ← ba_len, blt_eq] at h
  by_cases e : s.size < 4611686018427387904
  · simp only [e, decide_true, cond_true, strC_eq, newC_eq] at h
    simp only [if_pos e]
    exact ⟨_, _, rfl, h⟩
  · simp only [e, decide_false, cond_false] at h
    cases h
end Go.Proofs.YtbngpadibllogaaGreatDoor.Ev
