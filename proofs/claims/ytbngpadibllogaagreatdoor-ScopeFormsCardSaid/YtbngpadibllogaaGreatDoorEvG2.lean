/- Each operation, told by what goes on behind it, does what ours does. -/
import Derived.Test.YtbngpadibllogaaGreatDoorEvG1
namespace Go.Proofs.YtbngpadibllogaaGreatDoor.Ev
open Go Go.RowKit
set_option linter.unusedVariables false
set_option linter.unusedSimpArgs false
set_option linter.unusedSectionVars false

abbrev KF := Value → AW → R

def kO (o : Option Value) (S : AW) (f : KF) : R := Option.casesOn o none fun v => f v S
theorem kO_inv {C : Callee} {o : Option Value} {S : AW} {f : KF} {x : Value × AW} (h : kO o S f = some x) : ∃ v S', goR C S (rV S o) = some (v, S') ∧ f v S' = some x := by
  cases o with
  | none => cases h
  | some v => exact ⟨v, S, rfl, h⟩
def kR (C : Callee) (o : Option Res) (S : AW) (f : KF) : R := Option.casesOn (goR C S o) none fun p => f p.1 p.2
theorem kR_inv {C : Callee} {o : Option Res} {S : AW} {f : KF} {x : Value × AW} (h : kR C o S f = some x) : ∃ v S', goR C S o = some (v, S') ∧ f v S' = some x := by
  unfold kR at h
  cases e : goR C S o with
  | none => rw [e] at h; cases h
  | some p => rw [e] at h; exact ⟨p.1, p.2, rfl, h⟩

-- numbers
def kAddI (k : IntKind) (a : Int) (q : IntKind) (b : Int) (S : AW) (f : KF) : R := sameK k q (kInt k (Int.add a b) S f)
def kSubI (k : IntKind) (a : Int) (q : IntKind) (b : Int) (S : AW) (f : KF) : R := sameK k q (kInt k (Int.sub a b) S f)
def kStr (a : List UInt8) (b : List UInt8) (S : AW) (f : KF) : R :=
  cond (Nat.ble (Nat.add (lenL a) (lenL b)) 9223372036854775807) (catC a b fun l => f (.string ⟨⟨l⟩⟩) S) none
def kAdd (x y : Value) (S : AW) (f : KF) : R :=
  match x with
  | .int k a => (match y with
    | .int q b => kAddI k a q b S f
    | _ => none)
  | .string a => (match y with
    | .string b => kStr a.data.toList b.data.toList S f
    | _ => none)
  | _ => none
def kSub (x y : Value) (S : AW) (f : KF) : R :=
  match x with
  | .int k a => (match y with
    | .int q b => kSubI k a q b S f
    | _ => none)
  | _ => none
def kCmp (g : Int → Int → Bool) (x y : Value) (S : AW) (f : KF) : R :=
  match x with
  | .int k a => (match y with
    | .int q b => sameK k q (f (.bool (g a b)) S)
    | _ => none)
  | _ => none
def kEq (neg : Bool) (x y : Value) (S : AW) (f : KF) : R :=
  match x with
  | .int k a => (match y with
    | .int q b => sameK k q (f (.bool (Bool.xor neg (eqI a b))) S)
    | _ => none)
  | .string a => (match y with
    | .string b => f (.bool (Bool.xor neg (beqS a b))) S
    | _ => none)
  | _ => none
def kBin (op : BinOp) (x y : Value) (S : AW) (f : KF) : R :=
  match op with
  | .add => kAdd x y S f
  | .sub => kSub x y S f
  | .eql => kEq false x y S f
  | .neq => kEq true x y S f
  | .lss => kLss x y S f
  | .leq => kCmp (fun a b => !ltI b a) x y S f
  | .gtr => kCmp (fun a b => ltI b a) x y S f
  | .geq => kCmp (fun a b => !ltI a b) x y S f
  | op => kO (binV op x y) S f
where kLss (x y : Value) (S : AW) (f : KF) : R :=
  match x with
  | .int k a => (match y with
    | .int q b => sameK k q (f (.bool (ltI a b)) S)
    | _ => none)
  | .string a => (match y with
    | .string b => f (.bool (Op.bytesLess a.data.toList b.data.toList)) S
    | _ => none)
  | _ => none
theorem kBin_inv {C : Callee} {op : BinOp} {ρ : Operand → Value} {a b : Operand} {S : AW} {f : KF} {x : Value × AW} (h : kBin op (ρ a) (ρ b) S f = some x) :
    ∃ v S', goR C S (rBin ρ S op a b) = some (v, S') ∧ f v S' = some x := by
  unfold rBin
  generalize ρ a = p at h ⊢
  generalize ρ b = q at h ⊢
  have gen : kO (binV op p q) S f = some x → ∃ v S', goR C S (rV S (binV op p q)) = some (v, S') ∧ f v S' = some x := kO_inv
  have hx : ∀ t : Bool, Bool.xor true t = !t := fun t => by cases t <;> rfl
  have hf : ∀ t : Bool, Bool.xor false t = t := fun t => by cases t <;> rfl
  cases op <;> simp only [kBin] at h <;> try exact gen h
  · cases p <;> simp only [kAdd] at h <;> try (cases h; done)
    · cases q <;> simp only at h <;> try (cases h; done)
      obtain ⟨rfl, hk⟩ := sameK_inv h
      rw [kInt_eq] at hk
      exact ⟨_, _, by simp only [binV, iop, if_true, rV, goR]; rfl, hk⟩
    · cases q <;> simp only at h <;> try (cases h; done)
      rename_i s t
      unfold kStr at h
      rw [lenL_eq, lenL_eq] at h
      cases e : Nat.ble (Nat.add s.data.toList.length t.data.toList.length) 9223372036854775807 with
      | false => rw [e] at h; cases h
      | true =>
        rw [e, cond_true, catC_eq] at h
        have e := Nat.le_of_ble_eq_true e
        have e2 : s.size + t.size ≤ 9223372036854775807 := by
          rw [ba_len s, ba_len t]; exact e
        refine ⟨_, _, by simp only [binV, sop, if_pos e2, rV, goR]; rfl, ?_⟩
        have : s ++ t = ⟨⟨s.data.toList ++ t.data.toList⟩⟩ := ba_ext (by simp)
        rw [this]; exact h
  · cases p <;> simp only [kSub] at h <;> try (cases h; done)
    cases q <;> simp only at h <;> try (cases h; done)
    obtain ⟨rfl, hk⟩ := sameK_inv h
    rw [kInt_eq] at hk
    exact ⟨_, _, by simp only [binV, iop, if_true, rV, goR]; rfl, hk⟩
  · cases p <;> simp only [kEq] at h <;> try (cases h; done)
    · cases q <;> simp only at h <;> try (cases h; done)
      obtain ⟨rfl, hk⟩ := sameK_inv h
      rw [eqI_eq, hf] at hk
      exact ⟨_, _, by simp only [binV, iop, if_true, rV, goR], hk⟩
    · cases q <;> simp only at h <;> try (cases h; done)
      rw [beqS_eq, hf] at h
      exact ⟨_, _, by simp only [binV, sop, rV, goR], h⟩
  · cases p <;> simp only [kEq] at h <;> try (cases h; done)
    · cases q <;> simp only at h <;> try (cases h; done)
      obtain ⟨rfl, hk⟩ := sameK_inv h
      rw [eqI_eq, hx] at hk
      exact ⟨_, _, by simp only [binV, iop, if_true, rV, goR], hk⟩
    · cases q <;> simp only at h <;> try (cases h; done)
      rw [beqS_eq, hx] at h
      exact ⟨_, _, by simp only [binV, sop, rV, goR], h⟩
  · cases p <;> simp only [kBin.kLss] at h <;> try (cases h; done)
    · cases q <;> simp only at h <;> try (cases h; done)
      obtain ⟨rfl, hk⟩ := sameK_inv h
      rw [ltI_eq] at hk
      exact ⟨_, _, by simp only [binV, iop, if_true, rV, goR], hk⟩
    · cases q <;> simp only at h <;> try (cases h; done)
      exact ⟨_, _, by simp only [binV, sop, rV, goR], h⟩
  · cases p <;> simp only [kCmp] at h <;> try (cases h; done)
    cases q <;> simp only at h <;> try (cases h; done)
    rename_i k m _ n
    obtain ⟨rfl, hk⟩ := sameK_inv h
    rw [ltI_eq] at hk
    refine ⟨_, _, by simp only [binV, iop, if_true, rV, goR]; rfl, ?_⟩
    have : decide (m ≤ n) = !decide (n < m) := by rw [Bool.eq_iff_iff]; simp
    rw [this]; exact hk
  · cases p <;> simp only [kCmp] at h <;> try (cases h; done)
    cases q <;> simp only at h <;> try (cases h; done)
    obtain ⟨rfl, hk⟩ := sameK_inv h
    rw [ltI_eq] at hk
    exact ⟨_, _, by simp only [binV, iop, if_true, rV, goR], hk⟩
  · cases p <;> simp only [kCmp] at h <;> try (cases h; done)
    cases q <;> simp only at h <;> try (cases h; done)
    rename_i k m _ n
    obtain ⟨rfl, hk⟩ := sameK_inv h
    rw [ltI_eq] at hk
    refine ⟨_, _, by simp only [binV, iop, if_true, rV, goR]; rfl, ?_⟩
    have : decide (n ≤ m) = !decide (m < n) := by rw [Bool.eq_iff_iff]; simp
    rw [this]; exact hk

def kPick (c a b : Value) (S : AW) (f : KF) : R := bl c fun t => cond t (f a S) (f b S)
theorem kPick_inv {C : Callee} {ρ : Operand → Value} {c a b : Operand} {S : AW} {f : KF} {x : Value × AW} (h : kPick (ρ c) (ρ a) (ρ b) S f = some x) :
    ∃ v S', goR C S (rPick ρ S c a b) = some (v, S') ∧ f v S' = some x := by
  obtain ⟨t, h1, h2⟩ := bl_inv h
  unfold rPick
  rw [h1]
  cases t
  · exact ⟨_, _, rfl, h2⟩
  · exact ⟨_, _, rfl, h2⟩
def kEqB (neg : Bool) (a b : Value) (S : AW) (f : KF) : R := bl a fun s => bl b fun t => f (.bool (Bool.xor neg (Bool.xor s (!t)))) S
theorem kEqB_inv {C : Callee} {ρ : Operand → Value} {neg : Bool} {a b : Operand} {S : AW} {f : KF} {x : Value × AW} (h : kEqB neg (ρ a) (ρ b) S f = some x) :
    ∃ v S', goR C S (rEqB ρ S neg a b) = some (v, S') ∧ f v S' = some x := by
  obtain ⟨s, h1, h2⟩ := bl_inv h
  obtain ⟨t, h3, h4⟩ := bl_inv h2
  unfold rEqB
  rw [h1, h3]
  refine ⟨_, _, rfl, ?_⟩
  cases neg <;> cases s <;> cases t <;> exact h4
def kNot (a : Value) (S : AW) (f : KF) : R := bl a fun t => f (.bool (!t)) S
def kUn (op : UnOp) (a : Value) (S : AW) (f : KF) : R :=
  match op with
  | .not => kNot a S f
  | op => kO (unV op a) S f
theorem kUn_inv {C : Callee} {ρ : Operand → Value} {op : UnOp} {a : Operand} {S : AW} {f : KF} {x : Value × AW} (h : kUn op (ρ a) S f = some x) :
    ∃ v S', goR C S (rUn ρ S op a) = some (v, S') ∧ f v S' = some x := by
  unfold rUn
  cases op
  case not =>
    obtain ⟨t, h1, h2⟩ := bl_inv (show kNot _ _ _ = _ from h)
    rw [h1]
    exact ⟨_, _, rfl, h2⟩
  all_goals exact kO_inv h
def kCvI (k : IntKind) (a : Value) (S : AW) (f : KF) : R :=
  match a with
  | .int _ n => kInt k n S f
  | _ => none
theorem kCvI_inv {C : Callee} {ρ : Operand → Value} {k : IntKind} {a : Operand} {S : AW} {f : KF} {x : Value × AW} (h : kCvI k (ρ a) S f = some x) :
    ∃ v S', goR C S (rCvI ρ S k a) = some (v, S') ∧ f v S' = some x := by
  unfold rCvI
  generalize ρ a = p at h ⊢
  cases p <;> simp only [kCvI] at h <;> try (cases h; done)
  rw [kInt_eq] at h
  exact ⟨_, _, rfl, h⟩
def kCvS (a : Value) (S : AW) (f : KF) : R :=
  match a with
  | .int _ n => f (.string (Utf8.encode n)) S
  | .string s => f (.string s) S
  | _ => none
theorem kCvS_inv {C : Callee} {ρ : Operand → Value} {a : Operand} {S : AW} {f : KF} {x : Value × AW} (h : kCvS (ρ a) S f = some x) :
    ∃ v S', goR C S (rCvS ρ S a) = some (v, S') ∧ f v S' = some x := by
  unfold rCvS
  generalize ρ a = p at h ⊢
  cases p <;> simp only [kCvS] at h <;> try (cases h; done)
  · exact ⟨_, _, rfl, h⟩
  · exact ⟨_, _, rfl, h⟩
def kFldA (sz : Option Nat) (off : Nat) (l : List Value) (S : AW) (f : KF) : R :=
  Option.casesOn sz (kO (nthL l off) S f) fun n => takeC n (dropL off l) fun m => f (.agg ⟨m⟩) S
def kFld (sz : Option Nat) (off : Nat) (a : Value) (S : AW) (f : KF) : R :=
  match a with
  | .agg cs => kFldA sz off cs.toList S f
  | _ => none
theorem ar_cut (cs : Array Value) (a n : Nat) : cs.extract a (a + n) = ⟨(cs.toList.drop a).take n⟩ := by
  apply Array.ext'
  rw [Array.toList_extract, List.extract_eq_take_drop]
  congr 1
  omega
theorem kFldA_inv {C : Callee} {sz : Option Nat} {off : Nat} {cs : Array Value} {S : AW} {f : KF} {x : Value × AW} (h : kFldA sz off cs.toList S f = some x) :
    ∃ v S', goR C S (match sz with | some n => some (.val (.agg (cs.extract off (off + n))) S) | none => rV S cs[off]?) = some (v, S') ∧ f v S' = some x := by
  cases sz with
  | none =>
    have h : kO (nthL cs.toList off) S f = some x := h
    rw [nthL_eq] at h
    obtain ⟨v, S', h1, h2⟩ := kO_inv (C := C) h
    exact ⟨v, S', by simpa using h1, h2⟩
  | some n =>
    have h : (takeC n (dropL off cs.toList) fun m => f (.agg ⟨m⟩) S) = some x := h
    rw [takeC_eq, dropL_eq] at h
    exact ⟨_, _, rfl, by rw [ar_cut]; exact h⟩
theorem kFld_inv {C : Callee} {ρ : Operand → Value} {sz : Option Nat} {off : Nat} {a : Operand} {S : AW} {f : KF} {x : Value × AW} (h : kFld sz off (ρ a) S f = some x) :
    ∃ v S', goR C S (rFld ρ S sz off a) = some (v, S') ∧ f v S' = some x := by
  unfold rFld
  generalize ρ a = p at h ⊢
  cases p <;> simp only [kFld] at h <;> try (cases h; done)
  exact kFldA_inv h
def kExt (i : Nat) (a : Value) (S : AW) (f : KF) : R :=
  match a with
  | .tuple cs => kO (nthL cs.toList i) S f
  | _ => none
theorem kExt_inv {C : Callee} {ρ : Operand → Value} {i : Nat} {a : Operand} {S : AW} {f : KF} {x : Value × AW} (h : kExt i (ρ a) S f = some x) :
    ∃ v S', goR C S (rExt ρ S i a) = some (v, S') ∧ f v S' = some x := by
  unfold rExt
  generalize ρ a = p at h ⊢
  cases p <;> simp only [kExt] at h <;> try (cases h; done)
  rw [nthL_eq] at h
  obtain ⟨v, S', h1, h2⟩ := kO_inv (C := C) h
  exact ⟨v, S', by simpa using h1, h2⟩
/-- Cells put over others, one behind the other. -/
def overC : List Value → List Value → (List Value → R) → R
  | l, [], f => f l
  | [], _ :: _, _ => none
  | _ :: l, v :: vs, f => overC l vs fun m => f (v :: m)
theorem overC_inv : ∀ {l vs : List Value} {f : List Value → R} {x : Value × AW}, overC l vs f = some x → vs.length ≤ l.length ∧ f (vs ++ l.drop vs.length) = some x
  | l, [], f, x, h => by cases l <;> simpa [overC] using h
  | [], v :: vs, f, x, h => by simp [overC] at h
  | a :: l, v :: vs, f, x, h => by
    rw [overC] at h
    obtain ⟨h1, h2⟩ := overC_inv h
    exact ⟨by simp only [List.length_cons]; omega, by simpa using h2⟩
def overAt : Nat → List Value → List Value → (List Value → R) → R
  | 0, l, vs, f => overC l vs f
  | n + 1, [], vs, f => none
  | n + 1, a :: l, vs, f => overAt n l vs fun m => f (a :: m)
theorem overAt_inv : ∀ {n : Nat} {l vs : List Value} {f : List Value → R} {x : Value × AW}, overAt n l vs f = some x → n + vs.length ≤ l.length ∧ f (l.take n ++ vs ++ l.drop (n + vs.length)) = some x
  | 0, l, vs, f, x, h => by
    rw [overAt] at h
    obtain ⟨h1, h2⟩ := overC_inv h
    exact ⟨by omega, by simpa using h2⟩
  | n + 1, [], vs, f, x, h => by simp [overAt] at h
  | n + 1, a :: l, vs, f, x, h => by
    rw [overAt] at h
    obtain ⟨h1, h2⟩ := overAt_inv h
    refine ⟨by simp only [List.length_cons]; omega, ?_⟩
    have : n + 1 + vs.length = (n + vs.length) + 1 := by omega
    rw [this]
    simpa using h2
def cellsC (v : Value) : List Value :=
  match v with
  | .agg cs => cs.toList
  | .bool b => [.bool b]
  | .int k n => [.int k n]
  | v => [v]
theorem cellsC_eq (v : Value) : cellsC v = cellsOf v := by cases v <;> rfl
def fillC : List Value → List (Nat × Nat × Value) → (List Value → R) → R
  | l, [], f => f l
  | l, (o, n, v) :: ps, f => isBadC v (cond (Nat.beq (lenL (cellsC v)) n) (overAt o l (cellsC v) fun l => fillC l ps f) none)
theorem fillC_inv : ∀ {ps : List (Nat × Nat × Value)} {l : List Value} {f : List Value → R} {x : Value × AW}, fillC l ps f = some x → ∃ m, fillL l ps = some m ∧ f m = some x
  | [], l, f, x, h => ⟨l, rfl, by simpa [fillC] using h⟩
  | (o, n, v) :: ps, l, f, x, h => by
    rw [fillC, lenL_eq, beqN_eq, cellsC_eq] at h
    obtain ⟨h1, h2⟩ := isBadC_inv h
    by_cases e : (cellsOf v).length = n
    · simp only [e, decide_true, cond_true] at h2
      obtain ⟨h3, h4⟩ := overAt_inv h2
      obtain ⟨m, h5, h6⟩ := fillC_inv h4
      refine ⟨m, ?_, h6⟩
      rw [fillL, if_neg (by rw [h1]; simp), if_pos ⟨e, by omega⟩, ← e]
      exact h5
    · simp only [e, decide_false, cond_false] at h2
      cases h2
def kBuild (zero : List Value) (ps : List (Nat × Nat × Value)) (S : AW) (f : KF) : R := fillC zero ps fun l => f (.agg ⟨l⟩) S
theorem kBuild_inv {C : Callee} {ρ : Operand → Value} {zero : List Value} {ps : List (Nat × Nat × Operand)} {S : AW} {f : KF} {x : Value × AW} (h : kBuild zero (ps.map fun p => (p.1, p.2.1, ρ p.2.2)) S f = some x) :
    ∃ v S', goR C S (rBuild ρ S zero ps) = some (v, S') ∧ f v S' = some x := by
  obtain ⟨m, h1, h2⟩ := fillC_inv h
  unfold rBuild
  have : (ps.map fun (o, s, x) => (o, s, ρ x)) = ps.map fun p => (p.1, p.2.1, ρ p.2.2) := rfl
  rw [this, h1]
  exact ⟨_, _, rfl, h2⟩
def kFad (off : Nat) (a : Value) (S : AW) (f : KF) : R := ptrC a fun i o => frcN (Nat.add o off) fun o => f (.pointer (some ⟨i, o, none⟩)) S
theorem kFad_inv {C : Callee} {ρ : Operand → Value} {off : Nat} {a : Operand} {S : AW} {f : KF} {x : Value × AW} (h : kFad off (ρ a) S f = some x) :
    ∃ v S', goR C S (rFad ρ S off a) = some (v, S') ∧ f v S' = some x := by
  obtain ⟨i, o, h1, h2⟩ := ptrC_inv h
  rw [frcN_eq] at h2
  unfold rFad
  rw [h1]
  exact ⟨_, _, rfl, h2⟩
/-- A number that is none below nought, and lies below another one. -/
def ixC (v : Value) (n : Nat) (f : Nat → R) : R :=
  match v with
  | .int _ k => Int.casesOn k (fun m => cond (Nat.blt m n) (f m) none) fun _ => none
  | _ => none
theorem blt_eq (m n : Nat) : Nat.blt m n = decide (m < n) := by
  rw [Bool.eq_iff_iff]
  simp [Nat.blt, Nat.ble_eq]
  omega
theorem ixC_inv {v : Value} {n : Nat} {f : Nat → R} {x : Value × AW} (h : ixC v n f = some x) : ∃ k m, v = .int k (.ofNat m) ∧ m < n ∧ f m = some x := by
  unfold ixC at h
  split at h
  · rename_i q k
    cases k with
    | ofNat m =>
      simp only [blt_eq] at h
      by_cases e : m < n
      · simp only [e, decide_true, cond_true] at h
        exact ⟨q, m, rfl, e, h⟩
      · simp only [e, decide_false, cond_false] at h
        cases h
    | negSucc m => cases h
  · cases h
def slC (v : Value) (f : Nat → Nat → Nat → Nat → R) : R :=
  match v with
  | .slice (some ⟨i, o, none⟩) n c => f i o n c
  | _ => none
theorem slC_inv {v : Value} {f : Nat → Nat → Nat → Nat → R} {x : Value × AW} (h : slC v f = some x) : ∃ i o n c, v = .slice (some ⟨i, o, none⟩) n c ∧ f i o n c = some x := by
  unfold slC at h
  split at h
  · exact ⟨_, _, _, _, rfl, h⟩
  · cases h
def kIad (size : Nat) (a b : Value) (S : AW) (f : KF) : R := slC a fun i o n _ => ixC b n fun k => frcN (Nat.add o (Nat.mul k size)) fun o => f (.pointer (some ⟨i, o, none⟩)) S
theorem kIad_inv {C : Callee} {ρ : Operand → Value} {size : Nat} {a b : Operand} {S : AW} {f : KF} {x : Value × AW} (h : kIad size (ρ a) (ρ b) S f = some x) :
    ∃ v S', goR C S (rIad ρ S size a b) = some (v, S') ∧ f v S' = some x := by
  obtain ⟨i, o, n, c, h1, h2⟩ := slC_inv h
  obtain ⟨k, m, h3, h4, h5⟩ := ixC_inv h2
  rw [frcN_eq] at h5
  unfold rIad
  rw [h1, h3]
  refine ⟨_, _, ?_, h5⟩
  simp only
  rw [if_pos (by constructor; simp; simpa using h4)]
  rfl
def kIadA (ln size : Nat) (a b : Value) (S : AW) (f : KF) : R := ptrC a fun i o => ixC b ln fun k => frcN (Nat.add o (Nat.mul k size)) fun o => f (.pointer (some ⟨i, o, none⟩)) S
theorem kIadA_inv {C : Callee} {ρ : Operand → Value} {ln size : Nat} {a b : Operand} {S : AW} {f : KF} {x : Value × AW} (h : kIadA ln size (ρ a) (ρ b) S f = some x) :
    ∃ v S', goR C S (rIadA ρ S ln size a b) = some (v, S') ∧ f v S' = some x := by
  obtain ⟨i, o, h1, h2⟩ := ptrC_inv h
  obtain ⟨k, m, h3, h4, h5⟩ := ixC_inv h2
  rw [frcN_eq] at h5
  unfold rIadA
  rw [h1, h3]
  refine ⟨_, _, ?_, h5⟩
  simp only
  rw [if_pos (by constructor; simp; simpa using h4)]
  rfl
def kIdxB (l : List UInt8) (k : Int) (S : AW) (f : KF) : R :=
  Int.casesOn k (fun m => Option.casesOn (nthL l m) none fun b => frcN b.toNat fun n => f (.int .u8 (.ofNat n)) S) fun _ => none
def kIdxS (a b : Value) (S : AW) (f : KF) : R :=
  match a with
  | .string s => (match b with
    | .int _ k => kIdxB s.data.toList k S f
    | _ => none)
  | _ => none
theorem kIdxS_inv {C : Callee} {ρ : Operand → Value} {a b : Operand} {S : AW} {f : KF} {x : Value × AW} (h : kIdxS (ρ a) (ρ b) S f = some x) :
    ∃ v S', goR C S (rIdxS ρ S a b) = some (v, S') ∧ f v S' = some x := by
  unfold rIdxS
  generalize ρ a = p at h ⊢
  generalize ρ b = q at h ⊢
  cases p <;> simp only [kIdxS] at h <;> try (cases h; done)
  cases q <;> simp only at h <;> try (cases h; done)
  rename_i s _ k
  cases k with
  | negSucc m => cases h
  | ofNat m =>
    have h : (Option.casesOn (nthL s.data.toList m) none fun b => frcN b.toNat fun n => f (.int .u8 (.ofNat n)) S : R) = some x := h
    rw [nthL_eq] at h
    simp only
    rw [if_pos (by simp)]
    have e0 : (Int.ofNat m).toNat = m := rfl
    rw [e0]
    cases e : s.data.toList[m]? with
    | none => rw [e] at h; cases h
    | some b =>
      rw [e] at h
      have h : (frcN b.toNat fun n => f (.int .u8 (.ofNat n)) S) = some x := h
      rw [frcN_eq] at h
      exact ⟨_, _, rfl, h⟩
def kIdxA (ln size : Nat) (ag : Bool) (a b : Value) (S : AW) (f : KF) : R :=
  match a with
  | .agg cs => ixC b ln fun k => cond ag (takeC size (dropL (Nat.mul k size) cs.toList) fun m => f (.agg ⟨m⟩) S) (kO (nthL cs.toList (Nat.mul k size)) S f)
  | _ => none
theorem kIdxA_inv {C : Callee} {ρ : Operand → Value} {ln size : Nat} {ag : Bool} {a b : Operand} {S : AW} {f : KF} {x : Value × AW} (h : kIdxA ln size ag (ρ a) (ρ b) S f = some x) :
    ∃ v S', goR C S (rIdxA ρ S ln size ag a b) = some (v, S') ∧ f v S' = some x := by
  unfold rIdxA
  generalize ρ a = p at h ⊢
  cases p <;> simp only [kIdxA] at h <;> try (cases h; done)
  obtain ⟨k, m, h3, h4, h5⟩ := ixC_inv h
  rw [h3]
  simp only
  rw [if_pos (by constructor; simp; simpa using h4)]
  have e0 : (Int.ofNat m).toNat = m := rfl
  rw [e0]
  cases ag with
  | true =>
    simp only [cond_true, takeC_eq, dropL_eq] at h5
    refine ⟨_, _, by rw [if_pos rfl]; rfl, ?_⟩
    rw [ar_cut]; exact h5
  | false =>
    simp only [cond_false, nthL_eq] at h5
    obtain ⟨v, S', h6, h7⟩ := kO_inv (C := C) h5
    exact ⟨v, S', by rw [if_neg (by simp)]; simpa using h6, h7⟩
end Go.Proofs.YtbngpadibllogaaGreatDoor.Ev
