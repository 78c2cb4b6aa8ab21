/- Operations on plain values. -/
import Derived.Test.YthclmjelknibhaaEvU1
namespace Go.Proofs.Ythclmjelknibhaa.Ev
open Go Go.RowKit
set_option linter.unusedVariables false
set_option linter.constructorNameAsVariable false
set_option linter.unusedSimpArgs false
set_option linter.unusedSectionVars false

abbrev KU := FV → FAW → RU
abbrev CU := FuncId → List FV → FAW → RU
/-- What an operation comes to, calls taken. -/
def goU (C : Callee) (S : AW) (o : Option Res) : Option (Value × AW) :=
  match o with
  | some (.val v S') => some (v, S')
  | some (.call f args) => C f args S
  | none => none
/-- An operation of ours does what the elder one does, and goes on. -/
def Does (C : Callee) (S : AW) (o : Option Res) (f : KU) (v : FV) (R : FAW) : Prop := ∃ w F' S', goU C S o = some (toV w, S') ∧ UR F' S' ∧ f w F' = .ok v R
section
variable {C : Callee} {S : AW} {F R : FAW} {f : KU} {v : FV}
theorem does_val (h : UR F S) {w : FV} {u : Value} (e : toV w = u) (hf : f w F = .ok v R) : Does C S (some (.val u S)) f v R := ⟨w, F, S, by rw [e]; rfl, h, hf⟩
theorem does_rV (h : UR F S) {w : FV} {o : Option Value} (e : o = some (toV w)) (hf : f w F = .ok v R) : Does C S (rV S o) f v R := ⟨w, F, S, by rw [e]; rfl, h, hf⟩

noncomputable def uO (o : Option Value) (F : FAW) (f : KU) : RU := Option.rec (motive := fun _ => RU) .no (fun v => f (ofV v) F) o
theorem uO_inv (h : UR F S) {o : Option Value} (hf : uO o F f = .ok v R) : Does C S (rV S o) f v R := by
  cases o with
  | none => cases hf
  | some u => exact does_rV h (w := ofV u) (by rw [toV_ofV]) hf

-- which kind of value
noncomputable def eNBS (v : FV) (n b : Nat → RU) (s : List Nat → RU) (o : RU) : RU :=
  FV.rec (motive_1 := fun _ => RU) (motive_2 := fun _ => Unit) n b (fun _ _ => o) (fun _ => o) s (fun _ _ => o) (fun _ _ _ _ => o) (fun _ => o) o o o o (fun _ _ _ _ _ => o) (fun _ _ => o) (fun _ _ => o) o (fun _ => o) () (fun _ _ _ _ => ()) v
noncomputable def eT (v : FV) (t : Bool → RU) : RU :=
  FV.rec (motive_1 := fun _ => RU) (motive_2 := fun _ => Unit) (fun _ => .no) (fun _ => .no) (fun _ _ => .no) t (fun _ => .no) (fun _ _ => .no) (fun _ _ _ _ => .no) (fun _ => .no) .no .no .no .no (fun _ _ _ _ _ => .no) (fun _ _ => .no) (fun _ _ => .no) .no (fun _ => .no) () (fun _ _ _ _ => ()) v
theorem eT_inv {w : FV} {t : Bool → RU} (h : eT w t = .ok v R) : ∃ b, w = .t b ∧ t b = .ok v R := by cases w <;> first | exact ⟨_, rfl, h⟩ | cases h
noncomputable def eP (v : FV) (p : Nat → Nat → RU) : RU :=
  FV.rec (motive_1 := fun _ => RU) (motive_2 := fun _ => Unit) (fun _ => .no) (fun _ => .no) (fun _ _ => .no) (fun _ => .no) (fun _ => .no) p (fun _ _ _ _ => .no) (fun _ => .no) .no .no .no .no (fun _ _ _ _ _ => .no) (fun _ _ => .no) (fun _ _ => .no) .no (fun _ => .no) () (fun _ _ _ _ => ()) v
theorem eP_inv {w : FV} {p : Nat → Nat → RU} (h : eP w p = .ok v R) : ∃ i o, w = .p i o ∧ p i o = .ok v R := by cases w <;> first | exact ⟨_, _, rfl, h⟩ | cases h
noncomputable def eA (v : FV) (a : List FV → RU) : RU :=
  FV.rec (motive_1 := fun _ => RU) (motive_2 := fun _ => Unit) (fun _ => .no) (fun _ => .no) (fun _ _ => .no) (fun _ => .no) (fun _ => .no) (fun _ _ => .no) (fun _ _ _ _ => .no) (fun _ => .no) .no .no .no .no (fun _ _ _ _ _ => .no) (fun cs _ => a cs) (fun _ _ => .no) .no (fun _ => .no) () (fun _ _ _ _ => ()) v
theorem eA_inv {w : FV} {a : List FV → RU} (h : eA w a = .ok v R) : ∃ cs, w = .a cs ∧ a cs = .ok v R := by cases w <;> first | exact ⟨_, rfl, h⟩ | cases h
noncomputable def eU (v : FV) (a : List FV → RU) : RU :=
  FV.rec (motive_1 := fun _ => RU) (motive_2 := fun _ => Unit) (fun _ => .no) (fun _ => .no) (fun _ _ => .no) (fun _ => .no) (fun _ => .no) (fun _ _ => .no) (fun _ _ _ _ => .no) (fun _ => .no) .no .no .no .no (fun _ _ _ _ _ => .no) (fun _ _ => .no) (fun cs _ => a cs) .no (fun _ => .no) () (fun _ _ _ _ => ()) v
theorem eU_inv {w : FV} {a : List FV → RU} (h : eU w a = .ok v R) : ∃ cs, w = .u cs ∧ a cs = .ok v R := by cases w <;> first | exact ⟨_, rfl, h⟩ | cases h
/-- A slice, the nil slice, a map, the nil map, a function. -/
noncomputable def eL (v : FV) (l : Nat → Nat → Nat → Nat → RU) (nl : RU) (s : List Nat → RU) (m : Nat → RU) (nm : RU) : RU :=
  FV.rec (motive_1 := fun _ => RU) (motive_2 := fun _ => Unit) (fun _ => .no) (fun _ => .no) (fun _ _ => .no) (fun _ => .no) s (fun _ _ => .no) l m .no nl nm .no (fun _ _ _ _ _ => .no) (fun _ _ => .no) (fun _ _ => .no) .no (fun _ => .no) () (fun _ _ _ _ => ()) v
/-- A number that is none below nought. -/
noncomputable def eI (v : FV) (n : Nat → RU) : RU :=
  FV.rec (motive_1 := fun _ => RU) (motive_2 := fun _ => Unit) n n (fun _ z => Int.rec (motive := fun _ => RU) n (fun _ => .no) z) (fun _ => .no) (fun _ => .no) (fun _ _ => .no) (fun _ _ _ _ => .no) (fun _ => .no) .no .no .no .no (fun _ _ _ _ _ => .no) (fun _ _ => .no) (fun _ _ => .no) .no (fun _ => .no) () (fun _ _ _ _ => ()) v
theorem eI_inv {w : FV} {n : Nat → RU} (h : eI w n = .ok v R) : ∃ k m, toV w = .int k (.ofNat m) ∧ n m = .ok v R := by
  cases w with
  | n m => exact ⟨.i64, m, by simp only [toV], h⟩
  | b m => exact ⟨.u8, m, by simp only [toV], h⟩
  | i k z =>
    cases z with
    | ofNat m => exact ⟨k, m, by simp only [toV], h⟩
    | negSucc m => cases h
  | _ => cases h
/-- A cell that is known. -/
noncomputable def eX (v : FV) (r : RU) : RU :=
  FV.rec (motive_1 := fun _ => RU) (motive_2 := fun _ => Unit) (fun _ => r) (fun _ => r) (fun _ _ => r) (fun _ => r) (fun _ => r) (fun _ _ => r) (fun _ _ _ _ => r) (fun _ => r) r r r r (fun _ _ _ _ _ => r) (fun _ _ => r) (fun _ _ => r) .no (fun x => cn (isBad x) .no r) () (fun _ _ _ _ => ()) v
theorem eX_inv {w : FV} {r : RU} (h : eX w r = .ok v R) : isBad (toV w) = false ∧ r = .ok v R := by
  cases w <;> first
    | exact ⟨by simp only [toV]; rfl, h⟩
    | (cases h; done)
    | skip
  rename_i x
  have h : cn (isBad x) .no r = .ok v R := h
  simp only [toV]
  cases e : isBad x with
  | true => rw [e] at h; cases h
  | false => rw [e] at h; exact ⟨rfl, h⟩
/-- A value that may stand in a cell. -/
noncomputable def eC (v : FV) (r : RU) : RU :=
  FV.rec (motive_1 := fun _ => RU) (motive_2 := fun _ => Unit) (fun _ => r) (fun _ => r) (fun _ _ => r) (fun _ => r) (fun _ => r) (fun _ _ => r) (fun _ _ _ _ => r) (fun _ => r) r r r r (fun _ _ _ _ _ => r) (fun _ _ => .no) (fun _ _ => .no) .no (fun x => cn (cellOk x) r .no) () (fun _ _ _ _ => ()) v
theorem eC_inv {w : FV} {r : RU} (h : eC w r = .ok v R) : cellOk (toV w) = true ∧ r = .ok v R := by
  cases w <;> first
    | exact ⟨by simp only [toV]; rfl, h⟩
    | (cases h; done)
    | skip
  rename_i x
  have h : cn (cellOk x) r .no = .ok v R := h
  simp only [toV]
  exact cn_inv h

-- numbers
noncomputable def uSlow (op : BinOp) (x y : FV) (F : FAW) (f : KU) : RU := uO (binV op (toV x) (toV y)) F f
noncomputable def uNum (m : Nat) (F : FAW) (f : KU) : RU := fN m fun m => cn (Nat.ble m 9223372036854775807) (f (.n m) F) .no
theorem wrap_n {m : Nat} (h : m ≤ 9223372036854775807) : IntKind.wrap .i64 (m : Int) = (m : Int) := by
  simp only [IntKind.wrap, IntKind.bits, IntKind.signed]
  simp
  omega
theorem uNum_inv (h : UR F S) {m : Nat} {u : Value} (hu : m ≤ 9223372036854775807 → u = .int .i64 (m : Int)) (hf : uNum m F f = .ok v R) : Does C S (some (.val u S)) f v R := by
  unfold uNum at hf
  rw [fN_eq] at hf
  obtain ⟨h1, h2⟩ := cn_inv hf
  rw [bleU, decide_eq_true_eq] at h1
  exact does_val h (w := .n m) (by rw [hu h1]; simp only [toV]; rfl) h2
noncomputable def uStr (a b : List Nat) (F : FAW) (f : KU) : RU := cn (Nat.ble (Nat.add (lenU a) (lenU b)) 9223372036854775807) (catU a b fun l => f (.s l) F) .no
noncomputable def uAdd (x y : FV) (F : FAW) (f : KU) : RU :=
  eNBS x (fun a => eNBS y (fun b => uNum (Nat.add a b) F f) (fun _ => .no) (fun _ => .no) (uSlow .add x y F f)) (fun _ => uSlow .add x y F f) (fun a => eNBS y (fun _ => .no) (fun _ => .no) (fun b => uStr a b F f) .no) (uSlow .add x y F f)
noncomputable def uSubN (a b : Nat) (x y : FV) (F : FAW) (f : KU) : RU := cn (Nat.ble b a) (uNum (Nat.sub a b) F f) (uSlow .sub x y F f)
noncomputable def uSub (x y : FV) (F : FAW) (f : KU) : RU :=
  eNBS x (fun a => eNBS y (fun b => uSubN a b x y F f) (fun _ => .no) (fun _ => .no) (uSlow .sub x y F f)) (fun _ => uSlow .sub x y F f) (fun _ => .no) (uSlow .sub x y F f)
noncomputable def uMul (x y : FV) (F : FAW) (f : KU) : RU :=
  eNBS x (fun a => eNBS y (fun b => uNum (Nat.mul a b) F f) (fun _ => .no) (fun _ => .no) (uSlow .mul x y F f)) (fun _ => uSlow .mul x y F f) (fun _ => .no) (uSlow .mul x y F f)
noncomputable def uQuoN (q : Bool) (a b : Nat) (F : FAW) (f : KU) : RU := cn (Nat.beq b 0) .no (Bool.rec (motive := fun _ => RU) (uNum (Nat.mod a b) F f) (uNum (Nat.div a b) F f) q)
noncomputable def uQuo (q : Bool) (op : BinOp) (x y : FV) (F : FAW) (f : KU) : RU :=
  eNBS x (fun a => eNBS y (fun b => uQuoN q a b F f) (fun _ => .no) (fun _ => .no) (uSlow op x y F f)) (fun _ => uSlow op x y F f) (fun _ => .no) (uSlow op x y F f)
noncomputable def beqLU (a b : List Nat) : Bool :=
  List.rec (motive := fun _ => List Nat → Bool) (fun b => List.rec (motive := fun _ => Bool) true (fun _ _ _ => false) b)
    (fun x _ ih b => List.rec (motive := fun _ => Bool) false (fun y m _ => an (Nat.beq (Nat.mod x 256) (Nat.mod y 256)) (ih m)) b) a b
theorem u8_eq (a b : Nat) : (UInt8.ofNat a = UInt8.ofNat b) ↔ a % 256 = b % 256 := by
  rw [← UInt8.toNat_inj]
  simp
theorem beqLU_eq : ∀ a b : List Nat, beqLU a b = decide (a.map UInt8.ofNat = b.map UInt8.ofNat)
  | [], [] => by simp [beqLU]
  | [], _ :: _ => by simp [beqLU]
  | _ :: _, [] => by simp [beqLU]
  | x :: a, y :: b => by
    have : beqLU (x :: a) (y :: b) = an (Nat.beq (Nat.mod x 256) (Nat.mod y 256)) (beqLU a b) := rfl
    rw [this, an_eq, beqU, beqLU_eq a b]
    have e : (Nat.mod x 256 = Nat.mod y 256) ↔ (UInt8.ofNat x = UInt8.ofNat y) := (u8_eq x y).symm
    simp only [List.map_cons, List.cons.injEq, Bool.decide_and]
    congr 1
    exact decide_eq_decide.mpr e
theorem str_eq (a b : List Nat) : (decide ((⟨⟨a.map UInt8.ofNat⟩⟩ : ByteArray) = ⟨⟨b.map UInt8.ofNat⟩⟩)) = beqLU a b := by
  rw [beqLU_eq]
  apply decide_eq_decide.mpr
  simp
noncomputable def xo (neg b : Bool) : Bool := Bool.rec (motive := fun _ => Bool) b (nt b) neg
theorem xo_eq (neg b : Bool) : xo neg b = if neg then !b else b := by cases neg <;> cases b <;> rfl
noncomputable def uEq (neg : Bool) (op : BinOp) (x y : FV) (F : FAW) (f : KU) : RU :=
  eNBS x (fun a => eNBS y (fun b => f (.t (xo neg (Nat.beq a b))) F) (fun _ => .no) (fun _ => .no) (uSlow op x y F f)) (fun a => eNBS y (fun _ => .no) (fun b => f (.t (xo neg (Nat.beq a b))) F) (fun _ => .no) (uSlow op x y F f))
    (fun a => eNBS y (fun _ => .no) (fun _ => .no) (fun b => f (.t (xo neg (beqLU a b))) F) .no) (uSlow op x y F f)
noncomputable def uCmp (g : Nat → Nat → Bool) (op : BinOp) (x y : FV) (F : FAW) (f : KU) : RU :=
  eNBS x (fun a => eNBS y (fun b => f (.t (g a b)) F) (fun _ => .no) (fun _ => .no) (uSlow op x y F f)) (fun a => eNBS y (fun _ => .no) (fun b => f (.t (g a b)) F) (fun _ => .no) (uSlow op x y F f)) (fun _ => uSlow op x y F f) (uSlow op x y F f)
noncomputable def uBin (op : BinOp) (x y : FV) (F : FAW) (f : KU) : RU :=
  BinOp.rec (motive := fun _ => RU) (uAdd x y F f) (uSub x y F f) (uMul x y F f) (uQuo true .quo x y F f) (uQuo false .rem x y F f) (uSlow .and x y F f) (uSlow .or x y F f) (uSlow .xor x y F f) (uSlow .shl x y F f) (uSlow .shr x y F f) (uSlow .andNot x y F f)
    (uEq false .eql x y F f) (uEq true .neq x y F f) (uCmp ltN .lss x y F f) (uCmp Nat.ble .leq x y F f) (uCmp (fun a b => ltN b a) .gtr x y F f) (uCmp (fun a b => Nat.ble b a) .geq x y F f) op
theorem uSlow_inv (h : UR F S) {op : BinOp} {x y : FV} (hf : uSlow op x y F f = .ok v R) : Does C S (rV S (binV op (toV x) (toV y))) f v R := uO_inv h hf
theorem ofN_add (a b : Nat) : Int.ofNat a + Int.ofNat b = ((a + b : Nat) : Int) := by simp
theorem uAdd_inv (h : UR F S) {x y : FV} (hf : uAdd x y F f = .ok v R) : Does C S (rV S (binV .add (toV x) (toV y))) f v R := by
  cases x <;> first
    | exact uSlow_inv h hf
    | skip
  · rename_i a
    cases y <;> first
      | exact uSlow_inv h hf
      | (cases hf; done)
      | skip
    rename_i b
    simp only [toV, binV, iop, if_true, rV]
    refine uNum_inv h (fun hm => ?_) (show uNum (Nat.add a b) F f = .ok v R from hf)
    have e : Int.ofNat a + Int.ofNat b = ((Nat.add a b : Nat) : Int) := ofN_add a b
    rw [e, wrap_n hm]
  · rename_i a
    cases y <;> first
      | (cases hf; done)
      | skip
    rename_i b
    obtain ⟨h1, h2⟩ := cn_inv (show cn (Nat.ble (Nat.add (lenU a) (lenU b)) 9223372036854775807) (catU a b fun l => f (.s l) F) .no = .ok v R from hf)
    rw [bleU, decide_eq_true_eq, lenU_eq, lenU_eq] at h1
    rw [catU_eq] at h2
    have e1 : ∀ l : List Nat, (⟨⟨l.map UInt8.ofNat⟩⟩ : ByteArray).size = l.length := fun l => by
      show (List.toArray (l.map UInt8.ofNat)).size = _
      simp
    refine does_rV h (w := .s (a ++ b)) ?_ h2
    simp only [toV, binV, sop]
    rw [if_pos (by rw [e1, e1]; exact h1)]
    congr 2
    have : ∀ p q : ByteArray, p.data = q.data → p = q := fun p q h => by cases p; cases q; simp_all
    apply this
    rw [ByteArray.data_append]
    apply Array.ext'
    simp
theorem uSub_inv (h : UR F S) {x y : FV} (hf : uSub x y F f = .ok v R) : Does C S (rV S (binV .sub (toV x) (toV y))) f v R := by
  cases x <;> first
    | exact uSlow_inv h hf
    | (cases hf; done)
    | skip
  rename_i a
  cases y <;> first
    | exact uSlow_inv h hf
    | (cases hf; done)
    | skip
  rename_i b
  have hf : cn (Nat.ble b a) (uNum (Nat.sub a b) F f) (uSlow .sub (.n a) (.n b) F f) = .ok v R := hf
  cases e : Nat.ble b a with
  | false => rw [e] at hf; exact uSlow_inv h hf
  | true =>
    rw [e, cn_true] at hf
    have e := Nat.le_of_ble_eq_true e
    simp only [toV, binV, iop, if_true, rV]
    refine uNum_inv h (fun hm => ?_) hf
    have e2 : Int.ofNat a - Int.ofNat b = ((Nat.sub a b : Nat) : Int) := by
      have : Nat.sub a b = a - b := rfl
      rw [this]
      have e3 : Int.ofNat a = (a : Int) := rfl
      have e4 : Int.ofNat b = (b : Int) := rfl
      rw [e3, e4]; omega
    rw [e2, wrap_n hm]
theorem uMul_inv (h : UR F S) {x y : FV} (hf : uMul x y F f = .ok v R) : Does C S (rV S (binV .mul (toV x) (toV y))) f v R := by
  cases x <;> first
    | exact uSlow_inv h hf
    | (cases hf; done)
    | skip
  rename_i a
  cases y <;> first
    | exact uSlow_inv h hf
    | (cases hf; done)
    | skip
  rename_i b
  simp only [toV, binV, iop, if_true, rV]
  refine uNum_inv h (fun hm => ?_) (show uNum (Nat.mul a b) F f = .ok v R from hf)
  have e2 : Int.ofNat a * Int.ofNat b = ((Nat.mul a b : Nat) : Int) := by
    have : Nat.mul a b = a * b := rfl
    rw [this]; simp
  rw [e2, wrap_n hm]
theorem uQuo_inv (h : UR F S) {q : Bool} {x y : FV} (hf : uQuo q (if q then .quo else .rem) x y F f = .ok v R) : Does C S (rV S (binV (if q then .quo else .rem) (toV x) (toV y))) f v R := by
  cases x <;> first
    | exact uSlow_inv h hf
    | (cases hf; done)
    | skip
  rename_i a
  cases y <;> first
    | exact uSlow_inv h hf
    | (cases hf; done)
    | skip
  rename_i b
  have hf : cn (Nat.beq b 0) .no (Bool.rec (motive := fun _ => RU) (uNum (Nat.mod a b) F f) (uNum (Nat.div a b) F f) q) = .ok v R := hf
  rw [beqU] at hf
  by_cases hb : b = 0
  · simp only [hb, decide_true, cn_true] at hf
    cases hf
  · simp only [hb, decide_false, cn_false] at hf
    have hbi : ¬ (Int.ofNat b = 0) := by
      have e4 : Int.ofNat b = (b : Int) := rfl
      rw [e4]; omega
    cases q with
    | true =>
      simp only [toV, binV, iop, if_true, rV, if_neg hbi]
      refine uNum_inv h (fun hm => ?_) hf
      have e2 : (Int.ofNat a).tdiv (Int.ofNat b) = ((Nat.div a b : Nat) : Int) := rfl
      rw [e2, wrap_n hm]
    | false =>
      simp only [toV, Bool.false_eq_true, if_false, binV, iop, if_true, rV, if_neg hbi]
      refine uNum_inv h (fun hm => ?_) hf
      have e2 : (Int.ofNat a).tmod (Int.ofNat b) = ((Nat.mod a b : Nat) : Int) := rfl
      rw [e2]
theorem ofN_eq (a b : Nat) : (decide (Int.ofNat a = Int.ofNat b)) = Nat.beq a b := by
  rw [beqU]; exact decide_eq_decide.mpr ⟨Int.ofNat.inj, congrArg _⟩
theorem uEq_inv (h : UR F S) {neg : Bool} {x y : FV} (hf : uEq neg (if neg then .neq else .eql) x y F f = .ok v R) : Does C S (rV S (binV (if neg then .neq else .eql) (toV x) (toV y))) f v R := by
  cases x <;> first
    | exact uSlow_inv h hf
    | skip
  · rename_i a
    cases y <;> first
      | exact uSlow_inv h hf
      | (cases hf; done)
      | skip
    rename_i b
    refine does_rV h (w := .t (xo neg (Nat.beq a b))) ?_ hf
    cases neg <;> simp only [toV, binV, iop, if_true, Bool.false_eq_true, if_false, ofN_eq, xo_eq]
  · rename_i a
    cases y <;> first
      | exact uSlow_inv h hf
      | (cases hf; done)
      | skip
    rename_i b
    refine does_rV h (w := .t (xo neg (Nat.beq a b))) ?_ hf
    cases neg <;> simp only [toV, binV, iop, if_true, Bool.false_eq_true, if_false, ofN_eq, xo_eq]
  · rename_i a
    cases y <;> first
      | (cases hf; done)
      | skip
    rename_i b
    refine does_rV h (w := .t (xo neg (beqLU a b))) ?_ hf
    cases neg <;> simp only [toV, binV, sop, if_true, Bool.false_eq_true, if_false, str_eq, xo_eq]
theorem uCmp_inv (h : UR F S) {g : Nat → Nat → Bool} {op : BinOp} (hg : ∀ (k : IntKind) (a b : Nat), iop op k (.ofNat a) (.ofNat b) = some (.bool (g a b))) (hop : ∀ k a k' b, binV op (.int k a) (.int k' b) = if k = k' then iop op k a b else none) {x y : FV} (hf : uCmp g op x y F f = .ok v R) : Does C S (rV S (binV op (toV x) (toV y))) f v R := by
  cases x <;> first
    | exact uSlow_inv h hf
    | skip
  · rename_i a
    cases y <;> first
      | exact uSlow_inv h hf
      | (cases hf; done)
      | skip
    rename_i b
    exact does_rV h (w := .t (g a b)) (by simp only [toV]; rw [hop, if_pos rfl, hg]) hf
  · rename_i a
    cases y <;> first
      | exact uSlow_inv h hf
      | (cases hf; done)
      | skip
    rename_i b
    exact does_rV h (w := .t (g a b)) (by simp only [toV]; rw [hop, if_pos rfl, hg]) hf
theorem uBin_inv (h : UR F S) {op : BinOp} {x y : FV} (hf : uBin op x y F f = .ok v R) : Does C S (rV S (binV op (toV x) (toV y))) f v R := by
  have e1 : ∀ a b : Nat, (Int.ofNat a < Int.ofNat b) ↔ a < b := fun a b => by
    have e3 : Int.ofNat a = (a : Int) := rfl
    have e4 : Int.ofNat b = (b : Int) := rfl
    rw [e3, e4]; omega
  have e2 : ∀ a b : Nat, (Int.ofNat a ≤ Int.ofNat b) ↔ a ≤ b := fun a b => by
    have e3 : Int.ofNat a = (a : Int) := rfl
    have e4 : Int.ofNat b = (b : Int) := rfl
    rw [e3, e4]; omega
  cases op
  case add => exact uAdd_inv h hf
  case sub => exact uSub_inv h hf
  case mul => exact uMul_inv h hf
  case quo => exact uQuo_inv (q := true) h hf
  case rem => exact uQuo_inv (q := false) h hf
  case eql => exact uEq_inv (neg := false) h hf
  case neq => exact uEq_inv (neg := true) h hf
  case lss => exact uCmp_inv h (fun k a b => by simp only [iop, ltN_eq, e1]) (fun k a k' b => rfl) hf
  case leq => exact uCmp_inv h (fun k a b => by simp only [iop, bleU, e2]) (fun k a k' b => rfl) hf
  case gtr => exact uCmp_inv h (g := fun a b => ltN b a) (fun k a b => by simp only [iop, ltN_eq, e1]) (fun k a k' b => rfl) hf
  case geq => exact uCmp_inv h (g := fun a b => Nat.ble b a) (fun k a b => by simp only [iop, bleU, e2]) (fun k a k' b => rfl) hf
  all_goals exact uSlow_inv h hf
end
end Go.Proofs.Ythclmjelknibhaa.Ev
