/- More operations on plain values; reading memory. -/
import Derived.Test.YthclmjelknibhaaEvU2
namespace Go.Proofs.Ythclmjelknibhaa.Ev
open Go Go.RowKit
set_option linter.unusedVariables false
set_option linter.constructorNameAsVariable false
set_option linter.unusedSimpArgs false
set_option linter.unusedSectionVars false

section
variable {C : Callee} {S : AW} {F R : FAW} {f : KU} {v : FV}
variable {ρ : Operand → Value} {e : Operand → FV} (he : ∀ o, ρ o = toV (e o))
include he

theorem uMov_inv (h : UR F S) {x : Operand} (hf : f (e x) F = .ok v R) : Does C S (rMov ρ S x) f v R := does_val h (he x).symm hf
theorem uBinR_inv (h : UR F S) {op : BinOp} {x y : Operand} (hf : uBin op (e x) (e y) F f = .ok v R) : Does C S (rBin ρ S op x y) f v R := by
  unfold rBin
  rw [he, he]
  exact uBin_inv h hf
noncomputable def uPick (c a b : FV) (F : FAW) (f : KU) : RU := eT c fun t => cn t (f a F) (f b F)
theorem uPick_inv (h : UR F S) {c a b : Operand} (hf : uPick (e c) (e a) (e b) F f = .ok v R) : Does C S (rPick ρ S c a b) f v R := by
  obtain ⟨t, h1, h2⟩ := eT_inv hf
  unfold rPick
  rw [he, h1]
  simp only [toV]
  cases t with
  | true => exact does_val h (he a).symm h2
  | false => exact does_val h (he b).symm h2
noncomputable def uEqB (neg : Bool) (a b : FV) (F : FAW) (f : KU) : RU := eT a fun s => eT b fun t => f (.t (xo neg (xo s (nt t)))) F
theorem uEqB_inv (h : UR F S) {neg : Bool} {a b : Operand} (hf : uEqB neg (e a) (e b) F f = .ok v R) : Does C S (rEqB ρ S neg a b) f v R := by
  obtain ⟨s, h1, h2⟩ := eT_inv hf
  obtain ⟨t, h3, h4⟩ := eT_inv h2
  unfold rEqB
  rw [he, he, h1, h3]
  simp only [toV]
  refine does_val h (w := .t (xo neg (xo s (nt t)))) ?_ h4
  simp only [toV]
  cases neg <;> cases s <;> cases t <;> rfl
def wEqN (kind : Nat) (neg : Bool) (x y : Value) : Option Value := match nilV kind x y with | some b => some (.bool (if neg then !b else b)) | none => none
def wEqA (neg : Bool) (n : List KL) (x y : Value) : Option Value := match eqaV n x y with | some b => some (.bool (if neg then !b else b)) | none => none
noncomputable def uEqN (kind : Nat) (neg : Bool) (x y : FV) (F : FAW) (f : KU) : RU := uO (wEqN kind neg (toV x) (toV y)) F f
noncomputable def uEqA (neg : Bool) (n : List KL) (x y : FV) (F : FAW) (f : KU) : RU := uO (wEqA neg n (toV x) (toV y)) F f
theorem uEqN_inv (h : UR F S) {kind : Nat} {neg : Bool} {a b : Operand} (hf : uEqN kind neg (e a) (e b) F f = .ok v R) : Does C S (rEqN ρ S kind neg a b) f v R := by
  have := uO_inv (C := C) h hf
  unfold rEqN
  rw [he, he]
  unfold wEqN at this
  cases hn : nilV kind (toV (e a)) (toV (e b)) <;> rw [hn] at this <;> exact this
theorem uEqA_inv (h : UR F S) {neg : Bool} {n : List KL} {a b : Operand} (hf : uEqA neg n (e a) (e b) F f = .ok v R) : Does C S (rEqA ρ S neg n a b) f v R := by
  have := uO_inv (C := C) h hf
  unfold rEqA
  rw [he, he]
  unfold wEqA at this
  cases hn : eqaV n (toV (e a)) (toV (e b)) <;> rw [hn] at this <;> exact this
noncomputable def uUn (op : UnOp) (a : FV) (F : FAW) (f : KU) : RU :=
  UnOp.rec (motive := fun _ => RU) (uO (unV .neg (toV a)) F f) (uO (unV .xor (toV a)) F f) (eT a fun t => f (.t (nt t)) F) (uO (unV .plus (toV a)) F f) op
theorem uUn_inv (h : UR F S) {op : UnOp} {a : Operand} (hf : uUn op (e a) F f = .ok v R) : Does C S (rUn ρ S op a) f v R := by
  unfold rUn
  rw [he]
  cases op
  case not =>
    obtain ⟨t, h1, h2⟩ := eT_inv (show eT (e a) _ = .ok v R from hf)
    rw [h1]
    exact does_rV h (w := .t (nt t)) (by simp only [toV, unV, nt_eq]) h2
  all_goals exact uO_inv h hf
def wCvI (k : IntKind) (x : Value) : Option Value := match x with | .int _ n => some (.int k (k.wrap n)) | _ => none
noncomputable def uCvIK (k : IntKind) (o : RU) (m : Nat) (F : FAW) (f : KU) : RU :=
  IntKind.rec (motive := fun _ => RU) o o o (uNum m F f) (f (.b (Nat.mod m 256)) F) o o o k
noncomputable def uCvI (k : IntKind) (a : FV) (F : FAW) (f : KU) : RU :=
  eNBS a (fun m => uCvIK k (uO (wCvI k (toV a)) F f) m F f) (fun m => uCvIK k (uO (wCvI k (toV a)) F f) m F f) (fun _ => .no) (uO (wCvI k (toV a)) F f)
theorem uCvI_inv (h : UR F S) {k : IntKind} {a : Operand} (hf : uCvI k (e a) F f = .ok v R) : Does C S (rCvI ρ S k a) f v R := by
  have slow : ∀ x : FV, uO (wCvI k (toV x)) F f = .ok v R → Does C S (match toV x with | .int _ n => some (.val (.int k (k.wrap n)) S) | _ => none) f v R := by
    intro x hx
    have := uO_inv (C := C) h hx
    generalize toV x = p at this ⊢
    unfold wCvI at this
    cases p <;> exact this
  unfold rCvI
  rw [he]
  have fast : ∀ (q : IntKind) (m : Nat) (x : FV), toV x = .int q (.ofNat m) → uCvIK k (uO (wCvI k (toV x)) F f) m F f = .ok v R → Does C S (match toV x with | .int _ n => some (.val (.int k (k.wrap n)) S) | _ => none) f v R := by
    intro q m x hx hf
    cases k <;> first
      | exact slow x hf
      | skip
    · rw [hx]
      refine uNum_inv h (fun hm => ?_) (show uNum m F f = .ok v R from hf)
      have e2 : (Int.ofNat m) = (m : Int) := rfl
      rw [e2, wrap_n hm]
    · rw [hx]
      refine does_val h (w := .b (Nat.mod m 256)) ?_ (show f (.b (Nat.mod m 256)) F = .ok v R from hf)
      simp only [toV, IntKind.wrap, IntKind.bits, IntKind.signed]
      have e2 : (Int.ofNat m) = (m : Int) := rfl
      have e3 : Nat.mod m 256 = m % 256 := rfl
      simp [e2, e3]
  generalize e a = x at hf ⊢
  cases x with
  | n m => exact fast .i64 m (.n m) (by simp only [toV]) hf
  | b m => exact fast .u8 m (.b m) (by simp only [toV]) hf
  | s l => cases hf
  | i q z => exact slow (.i q z) hf
  | t z => exact slow (.t z) hf
  | p i o => exact slow (.p i o) hf
  | l i o n c => exact slow (.l i o n c) hf
  | m i => exact slow (.m i) hf
  | np => exact slow .np hf
  | nl => exact slow .nl hf
  | nm => exact slow .nm hf
  | nf => exact slow .nf hf
  | f g a c => exact slow (.f g a c) hf
  | a cs => exact slow (.a cs) hf
  | u cs => exact slow (.u cs) hf
  | x => exact slow .x hf
  | v z => exact slow (.v z) hf
def wCvS (x : Value) : Option Value := match x with | .int _ n => some (.string (Utf8.encode n)) | .string s => some (.string s) | _ => none
noncomputable def uCvS (a : FV) (F : FAW) (f : KU) : RU := eNBS a (fun _ => uO (wCvS (toV a)) F f) (fun _ => uO (wCvS (toV a)) F f) (fun l => f (.s l) F) (uO (wCvS (toV a)) F f)
theorem uCvS_inv (h : UR F S) {a : Operand} (hf : uCvS (e a) F f = .ok v R) : Does C S (rCvS ρ S a) f v R := by
  have slow : ∀ x : FV, uO (wCvS (toV x)) F f = .ok v R → Does C S (match toV x with | .int _ n => some (.val (.string (Utf8.encode n)) S) | .string s => some (.val (.string s) S) | _ => none) f v R := by
    intro x hx
    have := uO_inv (C := C) h hx
    generalize toV x = p at this ⊢
    unfold wCvS at this
    cases p <;> exact this
  unfold rCvS
  rw [he]
  generalize e a = x at hf ⊢
  cases x with
  | s l => exact does_val h (w := .s l) (by simp only [toV]) hf
  | n m => exact slow (.n m) hf
  | b m => exact slow (.b m) hf
  | i q z => exact slow (.i q z) hf
  | t z => exact slow (.t z) hf
  | p i o => exact slow (.p i o) hf
  | l i o n c => exact slow (.l i o n c) hf
  | m i => exact slow (.m i) hf
  | np => exact slow .np hf
  | nl => exact slow .nl hf
  | nm => exact slow .nm hf
  | nf => exact slow .nf hf
  | f g a c => exact slow (.f g a c) hf
  | a cs => exact slow (.a cs) hf
  | u cs => exact slow (.u cs) hf
  | x => exact slow .x hf
  | v z => exact slow (.v z) hf
noncomputable def uFldA (sz : Option Nat) (off : Nat) (l : List FV) (F : FAW) (f : KU) : RU :=
  Option.rec (motive := fun _ => RU) (nthU l off fun v => f v F) (fun n => dropU l off fun r => takeU r n fun m => f (.a m) F) sz
omit he in
theorem toVs_get (l : List FV) (i : Nat) : (toVs l)[i]? = (l[i]?).map toV := by rw [toVs_map, List.getElem?_map]
omit he in
theorem toVs_cut (l : List FV) (o n : Nat) : ((toVs l).drop o).take n = toVs ((l.drop o).take n) := by rw [toVs_map, toVs_map, List.map_take, List.map_drop]
omit he in
theorem ar_cutU (cs : Array Value) (a n : Nat) : cs.extract a (a + n) = ⟨(cs.toList.drop a).take n⟩ := by
  apply Array.ext'
  rw [Array.toList_extract, List.extract_eq_take_drop]
  congr 1
  omega
def fldR (S : AW) (cs : Array Value) (sz : Option Nat) (off : Nat) : Option Res := match sz with
  | some n => some (.val (.agg (cs.extract off (off + n))) S)
  | none => rV S cs[off]?
omit he in
theorem uFldA_inv (h : UR F S) {sz : Option Nat} {off : Nat} {l : List FV} (hf : uFldA sz off l F f = .ok v R) :
    Does C S (fldR S (toVs l).toArray sz off) f v R := by
  cases sz with
  | none =>
    obtain ⟨w, h1, h2⟩ := nthU_inv (show nthU l off _ = .ok v R from hf)
    refine does_rV h (w := w) ?_ h2
    have := toVs_get l off
    rw [h1] at this
    simpa using this
  | some n =>
    obtain ⟨h1, h2⟩ := dropU_inv (show dropU l off _ = .ok v R from hf)
    obtain ⟨h3, h4⟩ := takeU_inv h2
    refine does_val h (w := .a ((l.drop off).take n)) ?_ h4
    simp only [toV]
    rw [ar_cutU]
    simp only
    rw [toVs_cut]
noncomputable def uFld (sz : Option Nat) (off : Nat) (a : FV) (F : FAW) (f : KU) : RU := eA a fun l => uFldA sz off l F f
theorem uFld_inv (h : UR F S) {sz : Option Nat} {off : Nat} {a : Operand} (hf : uFld sz off (e a) F f = .ok v R) : Does C S (rFld ρ S sz off a) f v R := by
  obtain ⟨l, h1, h2⟩ := eA_inv hf
  unfold rFld
  rw [he, h1]
  simp only [toV]
  exact uFldA_inv h h2
noncomputable def uExt (i : Nat) (a : FV) (F : FAW) (f : KU) : RU := eU a fun l => nthU l i fun v => f v F
theorem uExt_inv (h : UR F S) {i : Nat} {a : Operand} (hf : uExt i (e a) F f = .ok v R) : Does C S (rExt ρ S i a) f v R := by
  obtain ⟨l, h1, h2⟩ := eU_inv hf
  obtain ⟨w, h3, h4⟩ := nthU_inv h2
  unfold rExt
  rw [he, h1]
  simp only [toV]
  refine does_rV h (w := w) ?_ h4
  have := toVs_get l i
  rw [h3] at this
  simpa using this
/-- Cells put over others. -/
noncomputable def overU (l : List FV) (vs : List FV) : (List FV → RU) → RU :=
  List.rec (motive := fun _ => List FV → (List FV → RU) → RU) (fun l f => f l) (fun v _ ih l f => List.rec (motive := fun _ => RU) .no (fun _ r _ => ih r fun m => f (v :: m)) l) vs l
omit he in
theorem overU_inv : ∀ {vs l : List FV} {f : List FV → RU}, overU l vs f = .ok v R → vs.length ≤ l.length ∧ f (vs ++ l.drop vs.length) = .ok v R
  | [], l, f, h => ⟨Nat.zero_le _, by simpa using (show f l = .ok v R from h)⟩
  | w :: vs, [], f, h => by cases h
  | w :: vs, a :: l, f, h => by
    obtain ⟨h1, h2⟩ := overU_inv (show overU l vs (fun m => f (w :: m)) = .ok v R from h)
    exact ⟨by simp only [List.length_cons]; omega, by simpa using h2⟩
noncomputable def overAtU (l : List FV) (n : Nat) (vs : List FV) : (List FV → RU) → RU :=
  List.rec (motive := fun _ => Nat → (List FV → RU) → RU) (fun n f => Nat.rec (motive := fun _ => RU) (overU [] vs f) (fun _ _ => .no) n) (fun a l ih n f => Nat.rec (motive := fun _ => RU) (overU (a :: l) vs f) (fun m _ => ih m fun r => f (a :: r)) n) l n
omit he in
theorem overAtU_inv {vs : List FV} : ∀ {l : List FV} {n : Nat} {f : List FV → RU}, overAtU l n vs f = .ok v R → n + vs.length ≤ l.length ∧ f (l.take n ++ vs ++ l.drop (n + vs.length)) = .ok v R
  | [], 0, f, h => by
    obtain ⟨h1, h2⟩ := overU_inv (show overU [] vs f = .ok v R from h)
    exact ⟨by omega, by simpa using h2⟩
  | [], n + 1, f, h => by cases h
  | a :: l, 0, f, h => by
    obtain ⟨h1, h2⟩ := overU_inv (show overU (a :: l) vs f = .ok v R from h)
    exact ⟨by omega, by simpa using h2⟩
  | a :: l, n + 1, f, h => by
    obtain ⟨h1, h2⟩ := overAtU_inv (show overAtU l n vs (fun r => f (a :: r)) = .ok v R from h)
    refine ⟨by simp only [List.length_cons]; omega, ?_⟩
    have : n + 1 + vs.length = (n + vs.length) + 1 := by omega
    rw [this]
    simpa using h2
/-- A value's cells. -/
noncomputable def cellsU (v : FV) : List FV :=
  FV.rec (motive_1 := fun _ => List FV) (motive_2 := fun _ => Unit) (fun _ => [v]) (fun _ => [v]) (fun _ _ => [v]) (fun _ => [v]) (fun _ => [v]) (fun _ _ => [v]) (fun _ _ _ _ => [v]) (fun _ => [v]) [v] [v] [v] [v] (fun _ _ _ _ _ => [v]) (fun cs _ => cs) (fun _ _ => [v]) [v] (fun x => (cellsOf x).map FV.v) () (fun _ _ _ _ => ()) v
omit he in
theorem cellsU_eq (w : FV) : toVs (cellsU w) = cellsOf (toV w) := by
  cases w with
  | v x =>
    show toVs ((cellsOf x).map FV.v) = cellsOf (toV (.v x))
    rw [toVs_map, List.map_map]
    have : (toV ∘ FV.v) = id := by funext x; simp only [Function.comp, toV, id]
    rw [this]; simp only [toV, List.map_id]
  | a cs =>
    show toVs cs = cellsOf (toV (.a cs))
    simp only [toV, cellsOf]
  | _ => simp only [cellsU, toVs, toV, cellsOf, bad]
noncomputable def fillU (l : List FV) (ps : List (Nat × Nat × FV)) : (List FV → RU) → RU :=
  List.rec (motive := fun _ => List FV → (List FV → RU) → RU) (fun l f => f l) (fun p _ ih l f => eX p.2.2 (cn (Nat.beq (lenU (cellsU p.2.2)) p.2.1) (overAtU l p.1 (cellsU p.2.2) fun l => ih l f) .no)) ps l
omit he in
theorem fillU_inv : ∀ {ps : List (Nat × Nat × FV)} {l : List FV} {f : List FV → RU}, fillU l ps f = .ok v R → ∃ m, fillL (toVs l) (ps.map fun p => (p.1, p.2.1, toV p.2.2)) = some (toVs m) ∧ f m = .ok v R
  | [], l, f, h => ⟨l, rfl, h⟩
  | (o, n, w) :: ps, l, f, h => by
    obtain ⟨h1, h2⟩ := eX_inv (show eX w (cn (Nat.beq (lenU (cellsU w)) n) (overAtU l o (cellsU w) fun l => fillU l ps f) .no) = .ok v R from h)
    obtain ⟨h3, h4⟩ := cn_inv h2
    rw [beqU, lenU_eq, decide_eq_true_eq] at h3
    obtain ⟨h5, h6⟩ := overAtU_inv h4
    obtain ⟨m, h7, h8⟩ := fillU_inv h6
    refine ⟨m, ?_, h8⟩
    simp only [List.map_cons, fillL]
    have e1 : (cellsOf (toV w)).length = n := by rw [← cellsU_eq, toVs_length]; exact h3
    have e2 : toVs (l.take o ++ cellsU w ++ l.drop (o + (cellsU w).length)) = (toVs l).take o ++ cellsOf (toV w) ++ (toVs l).drop (o + n) := by
      rw [← cellsU_eq, h3]
      simp only [toVs_map, List.map_append, List.map_take, List.map_drop]
    rw [if_neg (by rw [h1]; simp), if_pos ⟨e1, by rw [toVs_length]; omega⟩, ← e2]
    exact h7
noncomputable def uBuild (zero : List Value) (ps : List (Nat × Nat × FV)) (F : FAW) (f : KU) : RU := fillU (zero.map ofV0) ps fun l => f (.a l) F
omit he in
theorem zero_eq (zero : List Value) : toVs (zero.map ofV0) = zero := by
  rw [toVs_map, List.map_map]
  have : (toV ∘ ofV0) = id := by funext x; exact toV_ofV0 x
  rw [this]; simp
theorem parts_eq (ps : List (Nat × Nat × Operand)) : (ps.map fun (o, s, x) => (o, s, ρ x)) = (ps.map fun p => (p.1, p.2.1, e p.2.2)).map fun p => (p.1, p.2.1, toV p.2.2) := by
  rw [List.map_map]
  apply List.map_congr_left
  intro p _
  simp only [Function.comp, he]
theorem uBuild_inv (h : UR F S) {zero : List Value} {ps : List (Nat × Nat × Operand)} (hf : uBuild zero (ps.map fun p => (p.1, p.2.1, e p.2.2)) F f = .ok v R) : Does C S (rBuild ρ S zero ps) f v R := by
  obtain ⟨m, h1, h2⟩ := fillU_inv hf
  rw [zero_eq] at h1
  unfold rBuild
  rw [parts_eq he, h1]
  exact does_val h (w := .a m) (by simp only [toV]) h2
noncomputable def uFad (off : Nat) (a : FV) (F : FAW) (f : KU) : RU := eP a fun i o => fN (Nat.add o off) fun o => f (.p i o) F
theorem uFad_inv (h : UR F S) {off : Nat} {a : Operand} (hf : uFad off (e a) F f = .ok v R) : Does C S (rFad ρ S off a) f v R := by
  obtain ⟨i, o, h1, h2⟩ := eP_inv hf
  rw [fN_eq] at h2
  unfold rFad
  rw [he, h1]
  simp only [toV]
  exact does_val h (w := .p i (Nat.add o off)) (by simp only [toV]; rfl) h2
noncomputable def uIadN (size i o n m : Nat) (F : FAW) (f : KU) : RU := cn (ltN m n) (fN (Nat.add o (Nat.mul m size)) fun o => f (.p i o) F) .no
noncomputable def uIad (size : Nat) (a b : FV) (F : FAW) (f : KU) : RU := eL a (fun i o n _ => eI b fun m => uIadN size i o n m F f) .no (fun _ => .no) (fun _ => .no) .no
omit he in
theorem eL_inv {w : FV} {l : Nat → Nat → Nat → Nat → RU} (h : eL w l .no (fun _ => .no) (fun _ => .no) .no = .ok v R) : ∃ i o n c, w = .l i o n c ∧ l i o n c = .ok v R := by
  cases w <;> first
    | exact ⟨_, _, _, _, rfl, h⟩
    | cases h
theorem uIad_inv (h : UR F S) {size : Nat} {a b : Operand} (hf : uIad size (e a) (e b) F f = .ok v R) : Does C S (rIad ρ S size a b) f v R := by
  obtain ⟨i, o, n, c, h1, h2⟩ := eL_inv hf
  obtain ⟨k, m, h3, h4⟩ := eI_inv h2
  obtain ⟨h5, h6⟩ := cn_inv h4
  rw [ltN_eq, decide_eq_true_eq] at h5
  rw [fN_eq] at h6
  unfold rIad
  rw [he, he, h1, h3]
  simp only [toV]
  rw [if_pos (by constructor; simp; simpa using h5)]
  exact does_val h (w := .p i (Nat.add o (Nat.mul m size))) (by simp only [toV]; rfl) h6
noncomputable def uIadA (ln size : Nat) (a b : FV) (F : FAW) (f : KU) : RU := eP a fun i o => eI b fun m => uIadN size i o ln m F f
theorem uIadA_inv (h : UR F S) {ln size : Nat} {a b : Operand} (hf : uIadA ln size (e a) (e b) F f = .ok v R) : Does C S (rIadA ρ S ln size a b) f v R := by
  obtain ⟨i, o, h1, h2⟩ := eP_inv hf
  obtain ⟨k, m, h3, h4⟩ := eI_inv h2
  obtain ⟨h5, h6⟩ := cn_inv h4
  rw [ltN_eq, decide_eq_true_eq] at h5
  rw [fN_eq] at h6
  unfold rIadA
  rw [he, he, h1, h3]
  simp only [toV]
  rw [if_pos (by constructor; simp; simpa using h5)]
  exact does_val h (w := .p i (Nat.add o (Nat.mul m size))) (by simp only [toV]; rfl) h6
/-- A text. -/
noncomputable def eS (v : FV) (s : List Nat → RU) : RU := eNBS v (fun _ => .no) (fun _ => .no) s .no
omit he in
theorem eS_inv {w : FV} {s : List Nat → RU} (h : eS w s = .ok v R) : ∃ l, w = .s l ∧ s l = .ok v R := by
  cases w <;> first
    | exact ⟨_, rfl, h⟩
    | cases h
noncomputable def uIdxS (a b : FV) (F : FAW) (f : KU) : RU := eS a fun l => eI b fun m => nthU l m fun x => fN (Nat.mod x 256) fun x => f (.b x) F
theorem uIdxS_inv (h : UR F S) {a b : Operand} (hf : uIdxS (e a) (e b) F f = .ok v R) : Does C S (rIdxS ρ S a b) f v R := by
  obtain ⟨l, h1, h2⟩ := eS_inv hf
  obtain ⟨k, m, h3, h4⟩ := eI_inv h2
  obtain ⟨x, h5, h6⟩ := nthU_inv h4
  rw [fN_eq] at h6
  unfold rIdxS
  rw [he, he, h1, h3]
  simp only [toV]
  rw [if_pos (by simp)]
  have e0 : (Int.ofNat m).toNat = m := rfl
  rw [e0]
  have e1 : (l.map UInt8.ofNat)[m]? = some (UInt8.ofNat x) := by rw [List.getElem?_map, h5]; rfl
  rw [e1]
  refine does_val h (w := .b (Nat.mod x 256)) ?_ h6
  simp only [toV]
  congr 1
noncomputable def uIdxA (ln size : Nat) (ag : Bool) (a b : FV) (F : FAW) (f : KU) : RU :=
  eA a fun l => eI b fun m => cn (ltN m ln) (Bool.rec (motive := fun _ => RU) (nthU l (Nat.mul m size) fun v => f v F) (dropU l (Nat.mul m size) fun r => takeU r size fun c => f (.a c) F) ag) .no
theorem uIdxA_inv (h : UR F S) {ln size : Nat} {ag : Bool} {a b : Operand} (hf : uIdxA ln size ag (e a) (e b) F f = .ok v R) : Does C S (rIdxA ρ S ln size ag a b) f v R := by
  obtain ⟨l, h1, h2⟩ := eA_inv hf
  obtain ⟨k, m, h3, h4⟩ := eI_inv h2
  obtain ⟨h5, h6⟩ := cn_inv h4
  rw [ltN_eq, decide_eq_true_eq] at h5
  unfold rIdxA
  rw [he, he, h1, h3]
  simp only [toV]
  rw [if_pos (by constructor; simp; simpa using h5)]
  have e0 : (Int.ofNat m).toNat = m := rfl
  rw [e0]
  cases ag with
  | true =>
    rw [if_pos rfl]
    exact uFldA_inv (sz := some size) (off := m * size) h h6
  | false =>
    rw [if_neg (by simp)]
    exact uFldA_inv (sz := none) (off := m * size) h h6
/-- A number that may be left out. -/
noncomputable def optU (o : Option FV) (d : Nat) (f : Nat → RU) : RU := Option.rec (motive := fun _ => RU) (fN d f) (fun v => eI v fun m => fN m f) o
omit he in
theorem optU_inv {o : Option FV} {d : Nat} {f : Nat → RU} (h : optU o d f = .ok v R) : ∃ j, oint (o.map toV) = some j ∧ ∃ m : Nat, j.getD (d : Int) = (m : Int) ∧ f m = .ok v R ∧ (j = none ↔ o = none) := by
  cases o with
  | none =>
    have h : fN d f = .ok v R := h
    rw [fN_eq] at h
    exact ⟨none, rfl, d, rfl, h, by simp⟩
  | some w =>
    obtain ⟨k, m, h1, h2⟩ := eI_inv (show eI w _ = .ok v R from h)
    rw [fN_eq] at h2
    exact ⟨some (.ofNat m), by simp only [Option.map_some, h1]; rfl, m, rfl, h2, by simp⟩
noncomputable def uSlSL (s : List Nat) (lo hi : Option FV) (F : FAW) (f : KU) : RU :=
  optU lo 0 fun l => dropU s l fun r => Option.rec (motive := fun _ => RU) (f (.s r) F) (fun v => eI v fun h => cn (Nat.ble l h) (takeU r (Nat.sub h l) fun m => f (.s m) F) .no) hi
noncomputable def uSlS (a : FV) (lo hi : Option FV) (F : FAW) (f : KU) : RU := eS a fun s => uSlSL s lo hi F f
theorem opt_eq (o : Option Operand) : o.map ρ = (o.map e).map toV := by
  cases o with
  | none => rfl
  | some x => simp only [Option.map_some, he]
omit he in
theorem ba_cutU (l : List Nat) (a b : Nat) : (⟨⟨l.map UInt8.ofNat⟩⟩ : ByteArray).extract a b = ⟨⟨((l.drop a).take (b - a)).map UInt8.ofNat⟩⟩ := by
  have : ∀ p q : ByteArray, p.data = q.data → p = q := fun p q h => by cases p; cases q; simp_all
  apply this
  rw [ByteArray.data_extract]
  apply Array.ext'
  rw [Array.toList_extract, List.extract_eq_take_drop, List.map_take, List.map_drop]
omit he in
theorem ba_lenU (l : List Nat) : (⟨⟨l.map UInt8.ofNat⟩⟩ : ByteArray).size = l.length := by
  show (List.toArray (l.map UInt8.ofNat)).size = _
  simp
theorem uSlS_inv (h : UR F S) {a : Operand} {lo hi : Option Operand} (hf : uSlS (e a) (lo.map e) (hi.map e) F f = .ok v R) : Does C S (rSlS ρ S a lo hi) f v R := by
  obtain ⟨s, h1, h2⟩ := eS_inv hf
  unfold rSlS
  rw [he, h1, opt_eq he, opt_eq he]
  simp only [toV]
  generalize lo.map e = lo at h2 ⊢
  generalize hi.map e = hi at h2 ⊢
  unfold uSlSL at h2
  obtain ⟨j, h3, l, h4, h5, _⟩ := optU_inv h2
  obtain ⟨h6, h7⟩ := dropU_inv h5
  rw [h3]
  have hj : j.getD (0 : Int) = (l : Int) := h4
  cases hi with
  | none =>
    simp only [Option.map_none, oint, cutB, hj, ba_lenU, Option.getD_none, Option.isSome_none]
    rw [if_neg (by simp), if_pos (by omega)]
    refine does_val h (w := .s (s.drop l)) ?_ h7
    simp only [toV, ba_cutU, Int.toNat_natCast]
    rw [List.take_of_length_le (by simp)]
  | some w =>
    obtain ⟨k, m, h8, h9⟩ := eI_inv (show eI w _ = .ok v R from h7)
    obtain ⟨h10, h11⟩ := cn_inv h9
    rw [bleU, decide_eq_true_eq] at h10
    obtain ⟨h12, h13⟩ := takeU_inv h11
    have h12 : m - l ≤ (s.drop l).length := h12
    rw [List.length_drop] at h12
    simp only [Option.map_some, h8, oint, cutB, ba_lenU, Option.getD_none, Option.getD_some, Option.isSome_none, hj]
    have e9 : (Int.ofNat m) = (m : Int) := rfl
    rw [e9, if_neg (by simp), if_pos (by omega)]
    refine does_val h (w := .s ((s.drop l).take (m - l))) ?_ h13
    simp only [toV, ba_cutU, Int.toNat_natCast]
end
end Go.Proofs.Ythclmjelknibhaa.Ev
