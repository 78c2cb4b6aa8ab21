/- Whole numbers, below nought too: what is done with them. -/
import Derived.Test.YthclmjelknibhaaEvF
import Derived.Test.YthclmjelknibhaaDskS
namespace Go.Proofs.Ythclmjelknibhaa.Ev
open Go Go.RowKit
set_option linter.unusedVariables false
set_option linter.constructorNameAsVariable false
set_option linter.unusedSimpArgs false
set_option linter.unusedSectionVars false

/-- A whole number. -/
abbrev iv (z : Int) : FV := numV .i64 z
theorem iv_fi (z : Int) : Fi (iv z) := numV_fi _ _
def I64 (z : Int) : Prop := -9223372036854775808 ≤ z ∧ z ≤ 9223372036854775807
theorem wrap_z {z : Int} (h : I64 z) : IntKind.wrap .i64 z = z := by
  obtain ⟨h1, h2⟩ := h
  simp only [IntKind.wrap, IntKind.bits, IntKind.signed]
  simp
  omega
section
variable (F : FAW) (f : KU)
theorem slow_z (op : BinOp) (a b : Int) (v : Value) (h : binV op (.int .i64 a) (.int .i64 b) = some v) : uSlow op (iv a) (iv b) F f = f (ofV v) F := uSlow_n (by rw [numV_to, numV_to]; exact h) F f
theorem ge_z (a b : Int) : uCmp (fun a b => Nat.ble b a) .geq (iv a) (iv b) F f = f (.t (decide (b ≤ a))) F := by
  have hs : uSlow .geq (iv a) (iv b) F f = f (.t (decide (b ≤ a))) F := slow_z F f .geq a b (.bool (decide (b ≤ a))) (by simp only [binV, iop, if_true, ge_iff_le])
  cases a with
  | ofNat m => cases b with
    | ofNat n => exact (uGeq_nn F f .geq m n).trans (by simp)
    | negSucc n => exact hs
  | negSucc m => exact hs
theorem eq_z (a b : Int) : uEq false .eql (iv a) (iv b) F f = f (.t (decide (a = b))) F := by
  have hs : uSlow .eql (iv a) (iv b) F f = f (.t (decide (a = b))) F := slow_z F f .eql a b (.bool (decide (a = b))) (by simp only [binV, iop, if_true])
  cases a with
  | ofNat m => cases b with
    | ofNat n => exact (uEq_nn F f false .eql m n).trans (by rw [xo_f, decide_eq_decide.mpr (show (m = n) ↔ (Int.ofNat m = Int.ofNat n) from ⟨fun h => by rw [h], fun h => by injection h⟩)])
    | negSucc n => exact hs
  | negSucc m => exact hs
theorem sub_z {a b : Int} (h : I64 (a - b)) (ha : I64 a) : uSub (iv a) (iv b) F f = f (iv (a - b)) F := by
  have hs : uSlow .sub (iv a) (iv b) F f = f (iv (a - b)) F := slow_z F f .sub a b (.int .i64 (a - b)) (by simp only [binV, iop, if_true, wrap_z h])
  cases a with
  | ofNat m => cases b with
    | ofNat n =>
      by_cases q : n ≤ m
      · refine (uSub_nn F f q (by have := ha.2; simp at this; omega)).trans ?_
        have : (Int.ofNat m - Int.ofNat n) = ((m - n : Nat) : Int) := by simp; omega
        rw [this]; rfl
      · have : uSub (iv (Int.ofNat m)) (iv (Int.ofNat n)) F f = uSlow .sub (iv (Int.ofNat m)) (iv (Int.ofNat n)) F f := by
          show uSubN m n _ _ F f = _
          unfold uSubN
          rw [bleU, decide_eq_false q]; rfl
        rw [this]; exact hs
    | negSucc n => exact hs
  | negSucc m => cases b with
    | ofNat n => exact hs
    | negSucc n => exact hs
theorem mm_z (mx : Bool) (a b : Int) : uMM mx [iv a, iv b] F f = f (iv (if mx then max a b else min a b)) F := by
  unfold uMM
  have : mmV mx (toVs [iv a, iv b]) = some (.int .i64 (if mx then max a b else min a b)) := by
    simp only [toVs, numV_to, mmV, List.foldlM_cons, List.foldlM_nil, mstep]
    cases mx
    · by_cases h : a ≤ b
      · simp [h]; omega
      · simp [h]; omega
    · by_cases h : a ≤ b
      · simp [h]; omega
      · simp [h]; omega
  rw [this]; rfl
end
/-- The steps that hold everywhere. -/
theorem SS : (∀ {V : Type} (a b : CdU V) (v : V) (F : FAW) (κ : EX → V → FAW → RU), seqU a b v F κ = a v F fun o v F => exU o (b v F κ) (fun i => κ (.exit i) v F) (κ .ret v F)) ∧
    (∀ {V : Type} (c : V → FV) (a b : CdU V) (v : V) (F : FAW) (κ : EX → V → FAW → RU), condU c a b v F κ = eT (c v) fun t => cn t (a v F κ) (b v F κ)) ∧
    (∀ {V : Type} (id : Nat) (a : CdU V) (v : V) (F : FAW) (κ : EX → V → FAW → RU), blockU id a v F κ = a v F fun o v F => exU o (κ .normal v F) (fun i => cn (Nat.beq i id) (κ .normal v F) (κ (.exit i) v F)) (κ .ret v F)) ∧
    (∀ {V : Type} (v : V) (F : FAW) (κ : EX → V → FAW → RU), skipU v F κ = κ .normal v F) ∧ (∀ {V : Type} (v : V) (F : FAW) (κ : EX → V → FAW → RU), retU v F κ = κ .ret v F) ∧
    (∀ {V : Type} (id : Nat) (v : V) (F : FAW) (κ : EX → V → FAW → RU), exitU id v F κ = κ (.exit id) v F) ∧
    (∀ (a : RU) (b : Nat → RU) (c : RU), exU .normal a b c = a) ∧ (∀ (a : RU) (b : Nat → RU) (c : RU), exU .ret a b c = c) ∧ (∀ (i : Nat) (a : RU) (b : Nat → RU) (c : RU), exU (.exit i) a b c = b i) ∧
    (∀ (b : Bool) (f : Bool → RU), eT (.t b) f = f b) ∧ (∀ x y : RU, cn true x y = x) ∧ (∀ x y : RU, cn false x y = y) ∧ (∀ b, xo false b = b) ∧ (∀ b, xo true b = !b) ∧
    (∀ (U : CU) (g : FuncId) (args : List FV) (F : FAW) (f : KU), uCall U g args F f = goOn (U g args F) f) ∧ (∀ (v : FV) (F : FAW) (f : KU), goOn (.ok v F) f = f v F) ∧
    (∀ (g : FuncId) (a c : List FV) (F : FAW) (f : KU), uMkf g a c F f = f (.f g a c) F) ∧ (∀ (k i o : Nat) (F : FAW) (f : KU), uFad k (.p i o) F f = f (.p i (o + k)) F) ∧
    (∀ (i o : Nat) (F : FAW) (f : KU), uNilc (.p i o) F f = f (.p i o) F) ∧ (∀ (F : FAW) (f : KU) (b : Bool), uNot (.t b) F f = f (.t (!b)) F) ∧ (∀ (F : FAW) (f : KU) (v : FV), uVal v F f = f v F) ∧
    (∀ (F : FAW) (f : KU) (a : FV) (l : List FV), uExt 0 (.u (a :: l)) F f = f a F) ∧ (∀ (F : FAW) (f : KU) (a b : FV) (l : List FV), uExt 1 (.u (a :: b :: l)) F f = f b F) ∧ (∀ (F : FAW) (f : KU) (a b c : FV) (l : List FV), uExt 2 (.u (a :: b :: c :: l)) F f = f c F) :=
  ⟨seqU_eq, condU_eq, blockU_eq, skipU_eq, retU_eq, exitU_eq, exU_n, exU_r, exU_e, eT_t, fun _ _ => rfl, fun _ _ => rfl, xo_f, xo_t, uCall_eq, goOn_ok, fun _ _ _ _ _ => rfl, fun k i o F f => uFad_p k i o F f, uNilc_p, uNot_t, uVal_eq, uExt_0, uExt_1, uExt_2⟩
end Go.Proofs.Ythclmjelknibhaa.Ev
/- What stands, maps too; maps whose keys are texts. -/
namespace Go.Proofs.Ythclmjelknibhaa.Ev
open Go Go.RowKit
set_option linter.unusedVariables false
set_option linter.constructorNameAsVariable false
set_option linter.unusedSimpArgs false
set_option linter.unusedSectionVars false

/-- What is known stands, but for some rows, families, maps. -/
structure Sg (F F' : FAW) (A B M : Nat → Prop) : Prop where
  row : ∀ j r, ¬ A j → F.row j = some r → F'.row j = some r
  fam : ∀ j r, ¬ B j → F.fam j = some r → F'.fam j = some r
  mp : ∀ j r, ¬ M j → F.mp j = some r → F'.mp j = some r
  x : F.x ≤ F'.x
def No : Nat → Prop := fun _ => False
abbrev Sq (F F' : FAW) : Prop := Sg F F' No No No
theorem Sg.refl (F : FAW) (A B M : Nat → Prop) : Sg F F A B M := ⟨fun _ _ _ h => h, fun _ _ _ h => h, fun _ _ _ h => h, Nat.le_refl _⟩
theorem Sg.trans {F F' F'' : FAW} {A B M : Nat → Prop} (h : Sg F F' A B M) (k : Sg F' F'' A B M) : Sg F F'' A B M :=
  ⟨fun j r hj e => k.row j r hj (h.row j r hj e), fun j r hj e => k.fam j r hj (h.fam j r hj e), fun j r hj e => k.mp j r hj (h.mp j r hj e), Nat.le_trans h.x k.x⟩
theorem Sg.mono {F F' : FAW} {A B M A' B' M' : Nat → Prop} (h : Sg F F' A B M) (hA : ∀ j, A j → A' j) (hB : ∀ j, B j → B' j) (hM : ∀ j, M j → M' j) : Sg F F' A' B' M' :=
  ⟨fun j r hj e => h.row j r (fun q => hj (hA j q)) e, fun j r hj e => h.fam j r (fun q => hj (hB j q)) e, fun j r hj e => h.mp j r (fun q => hj (hM j q)) e, h.x⟩
theorem Sq.any {F F' : FAW} (h : Sq F F') (A B M : Nat → Prop) : Sg F F' A B M := h.mono (fun _ q => q.elim) (fun _ q => q.elim) (fun _ q => q.elim)
theorem Sg.any {F F' : FAW} (h : Sg F F' No No No) (A B M : Nat → Prop) : Sg F F' A B M := Sq.any h A B M
theorem Std.sg {F F' : FAW} {A B : Nat → Prop} (h : Std F F' A B) : Sg F F' A B No := ⟨h.row, h.fam, fun j r _ e => h.mp j r e, h.x⟩
theorem Std.sq {F F' : FAW} (h : Std F F' (fun _ => False) (fun _ => False)) : Sq F F' := ⟨h.row, h.fam, fun j r _ e => h.mp j r e, h.x⟩
theorem Sg.std {F F' : FAW} {A B : Nat → Prop} (h : Sg F F' A B No) : Std F F' A B := ⟨h.row, h.fam, fun j r e => h.mp j r (fun q => q) e, h.x⟩
theorem Sq.new {F : FAW} (h : Wf F) (c : List FV) (el es : Nat) : Sq F (F.new c el es) := (Std.new h c el es _ _).sq
/-- What came in stands, whatever was done to what is new. -/
theorem Sg.fresh {F F1 F2 : FAW} {A B M A' B' M' : Nat → Prop} (hF : Wf F) (h : Sg F F1 A B M) (k : Sg F1 F2 A' B' M') (hA : ∀ j, j < F.x → A' j → A j) (hB : ∀ j, j < F.x → B' j → B j) (hM : ∀ j, j < F.x → M' j → M j) : Sg F F2 A B M :=
  ⟨fun j r hj e => k.row j r (fun q => hj (hA j (hF.row j r e) q)) (h.row j r hj e), fun j r hj e => k.fam j r (fun q => hj (hB j (hF.fam j r e) q)) (h.fam j r hj e), fun j r hj e => k.mp j r (fun q => hj (hM j (hF.mp j r e) q)) (h.mp j r hj e), Nat.le_trans h.x k.x⟩
theorem By.sg {F F' : FAW} {v : FV} {l : List Nat} (h : By F v l) {A B M : Nat → Prop} (hs : Sg F F' A B M) (hA : ∀ i r e m o, F.row i = some (r, e, 1, m, o) → ¬ A i) : By F' v l := by
  rcases h with h | ⟨i, o, c, el, m, ro, cells, h1, h0, h2, h3, h4⟩
  · exact .inl h
  · exact .inr ⟨i, o, c, el, m, ro, cells, h1, h0, hs.row _ _ (hA _ _ _ _ _ h2) h2, h3, h4⟩
theorem By.sq {F F' : FAW} {v : FV} {l : List Nat} (h : By F v l) (hs : Sq F F') : By F' v l := h.sg hs (fun _ _ _ _ _ _ q => q)
/-- Some more numbers are drawn. -/
def FAW.bump (F : FAW) (k : Nat) : FAW := ⟨F.h, F.fs, F.x + k⟩
theorem Sq.bump (F : FAW) (k : Nat) : Sq F (F.bump k) := ⟨fun _ _ _ h => h, fun _ _ _ h => h, fun _ _ _ h => h, Nat.le_add_right _ _⟩
theorem Wf.bump {F : FAW} (h : Wf F) (k : Nat) : Wf (F.bump k) :=
  ⟨h.own.mono (Nat.le_add_right _ _), fun j r e => Nat.lt_of_lt_of_le (h.row j r e) (Nat.le_add_right _ _), fun j r e => Nat.lt_of_lt_of_le (h.fam j r e) (Nat.le_add_right _ _), fun j r e => Nat.lt_of_lt_of_le (h.mp j r e) (Nat.le_add_right _ _)⟩
theorem Sg.put {F : FAW} {i : Nat} {d : List FV} {A B M : Nat → Prop} (h : A i) : Sg F (F.put i d) A B M :=
  ⟨fun j r hj e => by rw [row_put, if_neg (fun q => hj (by rw [q]; exact h))]; exact e, fun j r _ e => e, fun j r _ e => by rw [mp_put]; exact e, Nat.le_refl _⟩

-- a map's entries told anew
def putML (i : Nat) (d : List (FV × FV)) : HL → HL
  | .nil => .nil
  | .cell j c e s m o r => .cell j c e s m o (putML i d r)
  | .map j es r => if i = j then .map j d r else .map j es (putML i d r)
def FAW.putM (F : FAW) (i : Nat) (d : List (FV × FV)) : FAW := ⟨putML i d F.h, F.fs, F.x⟩
theorem setM_get (i : Nat) (d : List (FV × FV)) : ∀ {h : HL} {r} (f : HL → RU), getMp h i = some r → setM i d h f = f (putML i d h)
  | .nil, r, f, h => by cases h
  | .cell j c e s m o t, r, f, h => setM_get i d (h := t) (fun t => f (.cell j c e s m o t)) h
  | .map j es t, r, f, h => by
    show cn (Nat.beq i j) (f (.map j d t)) (setM i d t fun t => f (.map j es t)) = _
    rw [beqU, cn_dec]
    simp only [getMp] at h
    simp only [putML]
    split at h
    · rename_i e
      rw [if_pos e, if_pos e]
    · rename_i e
      rw [if_neg e, if_neg e]; exact setM_get i d _ h
theorem putMU_eq {F : FAW} {i : Nat} {r} (d : List (FV × FV)) (f : FAW → RU) (h : F.mp i = some r) : putMU F i d f = f (F.putM i d) := setM_get i d _ h
theorem getH_putM (i : Nat) (d : List (FV × FV)) (j : Nat) : ∀ h : HL, getH (putML i d h) j = getH h j
  | .nil => rfl
  | .cell k c e s m o r => by simp only [putML, getH, getH_putM i d j r]
  | .map k es r => by
    simp only [putML]
    split
    · rfl
    · simp only [getH]; exact getH_putM i d j r
theorem getMp_putM (i : Nat) (d : List (FV × FV)) (j : Nat) : ∀ h : HL, getMp (putML i d h) j = if j = i then (getMp h i).map (fun _ => d) else getMp h j
  | .nil => by simp [putML, getMp]
  | .cell k c e s m o r => by simp only [putML, getMp]; exact getMp_putM i d j r
  | .map k es r => by
    simp only [putML]
    by_cases hk : i = k
    · subst hk
      rw [if_pos rfl]
      simp only [getMp]
      by_cases hj : j = i
      · simp [hj]
      · simp [hj]
    · rw [if_neg hk]
      simp only [getMp]
      rw [getMp_putM i d j r]
      by_cases hj : j = i
      · subst hj; simp [hk]
      · by_cases hjk : j = k
        · subst hjk; simp [hj]
        · simp [hj, hjk]
theorem row_putM (F : FAW) (i : Nat) (d) (j : Nat) : (F.putM i d).row j = F.row j := getH_putM i d j F.h
theorem mp_putM (F : FAW) (i : Nat) (d) (j : Nat) : (F.putM i d).mp j = if j = i then (F.mp i).map (fun _ => d) else F.mp j := getMp_putM i d j F.h
theorem Own.putM {n i : Nat} {d} : ∀ {h : HL}, Own n h → Own n (putML i d h)
  | .nil, h => h
  | .cell k c e s m o t, h => ⟨h.1, Own.putM h.2⟩
  | .map k es t, h => by
    simp only [putML]
    split
    · exact h
    · exact Own.putM (h := t) h
theorem Wf.putM {F : FAW} (h : Wf F) (i : Nat) (d) : Wf (F.putM i d) := by
  refine ⟨h.own.putM, fun j r e => h.row j r (by rw [row_putM] at e; exact e), fun j r e => h.fam j r e, fun j r e => ?_⟩
  rw [mp_putM] at e
  split at e
  · rename_i hj
    subst hj
    obtain ⟨q, h1, _⟩ := Option.map_eq_some_iff.mp e
    exact h.mp _ _ h1
  · exact h.mp j r e
theorem Sg.putM {F : FAW} {i : Nat} {d} {A B M : Nat → Prop} (h : M i) : Sg F (F.putM i d) A B M :=
  ⟨fun j r hj e => by rw [row_putM]; exact e, fun j r _ e => e, fun j r hj e => by rw [mp_putM, if_neg (fun q => hj (by rw [q]; exact h))]; exact e, Nat.le_refl _⟩
-- loads and stores, told by the row
theorem uCallV_f (U : CU) (g : FuncId) (caps args : List FV) (F : FAW) (f : KU) : uCallV U (.f g [] caps) args F f = uCall U g (args ++ caps) F f := by
  have : uCallV U (.f g [] caps) args F f = catU args caps fun r => catU [] r fun l => uCall U g l F f := rfl
  rw [this, catU_eq, catU_eq]; rfl
theorem uEqN_pp (neg : Bool) (i o : Nat) (F : FAW) (f : KU) : uEqN 0 neg (.p i o) .np F f = f (.t neg) F := by cases neg <;> rfl
-- maps whose keys are texts
theorem fit_s {l : List Nat} (h : l.length ≤ 1000000) (r : RU) : fitSU (.one .str) (.s l) r = r := by
  show cn (Nat.ble (lenU l) 9223372036854775807) r .no = r
  rw [bleU, lenU_eq, decide_eq_true (by omega), cn_true]
theorem same_s {a b : List Nat} (ha : Bs a) (hb : Bs b) (y n : RU) : sameSU (.one .str) (.s a) (.s b) y n = if a = b then y else n := by
  show cn (beqLU a b) y n = _
  rw [beqLU_bs ha hb, cn_dec]
/-- A text that may be a name. -/
def Nm (k : List Nat) : Prop := Bs k ∧ k.length ≤ 1000000
structure File where
  nm : List Nat
  b : List Nat
  la : Nat
def idx : List File → List Nat → Option Nat
  | [], _ => none
  | f :: fs, k => if f.nm = k then some 0 else (idx fs k).map (· + 1)
def fget : List File → List Nat → Option File
  | [], _ => none
  | f :: fs, k => if f.nm = k then some f else fget fs k
def fput : List File → File → List File
  | [], g => [g]
  | f :: fs, g => if f.nm = g.nm then g :: fs else f :: fput fs g
def fdel : List File → List Nat → List File
  | [], _ => []
  | f :: fs, k => if f.nm = k then fs else f :: fdel fs k
def tot : List File → Nat
  | [] => 0
  | f :: fs => f.b.length + tot fs
/-- Entries of a map that are files. -/
def MR (F : FAW) : List (FV × FV) → List File → Prop
  | [], [] => True
  | e :: es, f :: fs => e.1 = .s f.nm ∧ (∃ v, e.2 = .a [v, .n f.la] ∧ By F v f.b) ∧ MR F es fs
  | _, _ => False
def nms (fs : List File) : List (List Nat) := fs.map File.nm
theorem idx_none : ∀ {fs : List File} {k}, idx fs k = none ↔ k ∉ nms fs
  | [], k => by simp [idx, nms]
  | f :: fs, k => by
    simp only [idx, nms, List.map_cons, List.mem_cons, not_or]
    by_cases h : f.nm = k
    · simp [h]
    · rw [if_neg h, Option.map_eq_none_iff, idx_none]
      exact ⟨fun q => ⟨fun e => h e.symm, q⟩, fun q => q.2⟩
theorem fget_none : ∀ {fs : List File} {k}, fget fs k = none ↔ k ∉ nms fs
  | [], k => by simp [fget, nms]
  | f :: fs, k => by
    simp only [fget, nms, List.map_cons, List.mem_cons, not_or]
    by_cases h : f.nm = k
    · simp [h]
    · rw [if_neg h, fget_none]
      exact ⟨fun q => ⟨fun e => h e.symm, q⟩, fun q => q.2⟩
theorem scan_mr {F : FAW} {k : List Nat} (hk : Nm k) (f : Option Nat → RU) : ∀ {es : List (FV × FV)} {fs : List File}, MR F es fs → (∀ g ∈ fs, Nm g.nm) → (nms fs).Nodup → ∀ (n : Nat), scanU (.one .str) (.s k) es n none f = f ((idx fs k).map (n + ·)) ∧ (k ∉ nms fs → ∀ acc, scanU (.one .str) (.s k) es n acc f = f acc)
  | [], [], _, _, _, n => ⟨rfl, fun _ _ => rfl⟩
  | e :: es, g :: fs, ⟨h1, _, h3⟩, hn, hd, n => by
    obtain ⟨a, b⟩ := e
    have h1 : a = .s g.nm := h1
    subst h1
    have hg := hn g (by simp)
    have hd' : g.nm ∉ nms fs ∧ (nms fs).Nodup := by simpa [nms] using hd
    have ih := scan_mr hk f h3 (fun x hx => hn x (by simp [hx])) hd'.2 (n + 1)
    have e1 : ∀ acc, scanU (.one .str) (.s k) ((.s g.nm, b) :: es) n acc f = fitSU (.one .str) (.s g.nm) (sameSU (.one .str) (.s k) (.s g.nm) (Option.rec (motive := fun _ => RU) (scanU (.one .str) (.s k) es (n + 1) (some n) f) (fun _ => .no) acc) (scanU (.one .str) (.s k) es (n + 1) acc f)) := fun _ => rfl
    refine ⟨?_, fun hk' acc => ?_⟩
    · rw [e1, fit_s hg.2, same_s hk.1 hg.1]
      simp only [idx]
      by_cases h : k = g.nm
      · rw [if_pos h, if_pos h.symm]
        show scanU (.one .str) (.s k) es (n + 1) (some n) f = _
        rw [ih.2 (by rw [h]; exact hd'.1)]; rfl
      · rw [if_neg h, if_neg (fun q => h q.symm), ih.1]
        congr 1
        cases idx fs k with
        | none => rfl
        | some j => simp only [Option.map_some]; congr 1; omega
    · have hk2 : k ≠ g.nm ∧ k ∉ nms fs := by simpa [nms] using hk'
      rw [e1, fit_s hg.2, same_s hk.1 hg.1, if_neg hk2.1, ih.2 hk2.2]
theorem mf_mr {F : FAW} {k : List Nat} (hk : Nm k) {es : List (FV × FV)} {fs : List File} (h : MR F es fs) (hn : ∀ g ∈ fs, Nm g.nm) (hd : (nms fs).Nodup) (f : Option Nat → RU) : mfU (.one .str) (.s k) es f = f (idx fs k) := by
  show fitSU (.one .str) (.s k) (scanU (.one .str) (.s k) es 0 none f) = _
  rw [fit_s hk.2, (scan_mr hk f h hn hd 0).1]
  congr 1
  cases idx fs k <;> simp
theorem MR.len {F : FAW} : ∀ {es : List (FV × FV)} {fs : List File}, MR F es fs → es.length = fs.length
  | [], [], _ => rfl
  | _ :: _, _ :: _, ⟨_, _, h⟩ => by simp [MR.len h]
theorem MR.sg {F F' : FAW} {A B M : Nat → Prop} (hs : Sg F F' A B M) (hA : ∀ i r e m o, F.row i = some (r, e, 1, m, o) → ¬ A i) : ∀ {es : List (FV × FV)} {fs : List File}, MR F es fs → MR F' es fs
  | [], [], _ => trivial
  | _ :: _, _ :: _, ⟨h1, ⟨v, h2, h3⟩, h⟩ => ⟨h1, ⟨v, h2, h3.sg hs hA⟩, MR.sg hs hA h⟩
theorem MR.get {F : FAW} {k : List Nat} : ∀ {es : List (FV × FV)} {fs : List File} {j : Nat}, MR F es fs → idx fs k = some j → ∃ e f v, es[j]? = some e ∧ fget fs k = some f ∧ e = (.s k, .a [v, .n f.la]) ∧ By F v f.b ∧ f ∈ fs ∧ f.nm = k
  | [], [], j, _, h => by cases h
  | e :: es, f :: fs, j, ⟨h1, ⟨v, h2, h3⟩, h4⟩, h => by
    simp only [idx] at h
    split at h
    · rename_i q
      simp only [Option.some.injEq] at h
      subst h
      obtain ⟨a, b⟩ := e
      have h1 : a = .s f.nm := h1
      have h2 : b = _ := h2
      exact ⟨_, f, v, rfl, by simp only [fget, if_pos q], by rw [h1, h2, q], h3, by simp, q⟩
    · rename_i q
      obtain ⟨i, hi, rfl⟩ := Option.map_eq_some_iff.mp h
      obtain ⟨e', f', v', k1, k2, k3, k4, k5, k6⟩ := MR.get h4 hi
      exact ⟨e', f', v', by simpa using k1, by simp only [fget, if_neg q]; exact k2, k3, k4, by simp [k5], k6⟩
theorem MR.put_new {F : FAW} {g : File} {v : FV} (hv : By F v g.b) : ∀ {es : List (FV × FV)} {fs : List File}, MR F es fs → idx fs g.nm = none → MR F (es ++ [(.s g.nm, .a [v, .n g.la])]) (fput fs g)
  | [], [], _, _ => ⟨rfl, ⟨v, rfl, hv⟩, trivial⟩
  | e :: es, f :: fs, ⟨h1, h2, h3⟩, h => by
    simp only [idx] at h
    split at h
    · cases h
    · rename_i q
      simp only [fput, if_neg q]
      exact ⟨h1, h2, MR.put_new hv h3 (Option.map_eq_none_iff.mp h)⟩
theorem MR.put_old {F : FAW} {g : File} {v : FV} (hv : By F v g.b) : ∀ {es : List (FV × FV)} {fs : List File} {j : Nat}, MR F es fs → idx fs g.nm = some j → MR F (es.set j (.s g.nm, .a [v, .n g.la])) (fput fs g)
  | [], [], j, _, h => by cases h
  | e :: es, f :: fs, j, ⟨h1, h2, h3⟩, h => by
    simp only [idx] at h
    split at h
    · rename_i q
      simp only [Option.some.injEq] at h
      subst h
      simp only [fput, if_pos q]
      exact ⟨rfl, ⟨v, rfl, hv⟩, h3⟩
    · rename_i q
      obtain ⟨i, hi, rfl⟩ := Option.map_eq_some_iff.mp h
      simp only [fput, if_neg q]
      exact ⟨h1, h2, MR.put_old hv h3 hi⟩
theorem fdel_none : ∀ {fs : List File} {k}, idx fs k = none → fdel fs k = fs
  | [], k, _ => rfl
  | f :: fs, k, h => by
    simp only [idx] at h
    split at h
    · cases h
    · rename_i q
      simp only [fdel, if_neg q, fdel_none (Option.map_eq_none_iff.mp h)]
theorem MR.del {F : FAW} {k : List Nat} : ∀ {es : List (FV × FV)} {fs : List File} {j : Nat}, MR F es fs → idx fs k = some j → MR F (es.eraseIdx j) (fdel fs k)
  | [], [], j, _, h => by cases h
  | e :: es, f :: fs, j, ⟨h1, h2, h3⟩, h => by
    simp only [idx] at h
    split at h
    · rename_i q
      simp only [Option.some.injEq] at h
      subst h
      simp only [fdel, if_pos q]
      exact h3
    · rename_i q
      obtain ⟨i, hi, rfl⟩ := Option.map_eq_some_iff.mp h
      simp only [fdel, if_neg q]
      exact ⟨h1, h2, MR.del h3 hi⟩
-- plain: names, totals
theorem nms_put : ∀ (fs : List File) (g : File), nms (fput fs g) = if g.nm ∈ nms fs then nms fs else nms fs ++ [g.nm]
  | [], g => by simp [fput, nms]
  | f :: fs, g => by
    have ih := nms_put fs g
    simp only [fput]
    by_cases q : f.nm = g.nm
    · simp [nms, q]
    · rw [if_neg q]
      have : nms (f :: fput fs g) = f.nm :: nms (fput fs g) := rfl
      rw [this, ih]
      have e2 : g.nm ∈ nms (f :: fs) ↔ g.nm ∈ nms fs := by
        simp only [nms, List.map_cons, List.mem_cons]
        exact ⟨fun h => h.resolve_left (fun h => q h.symm), .inr⟩
      by_cases h : g.nm ∈ nms fs
      · rw [if_pos h, if_pos (e2.mpr h)]; rfl
      · rw [if_neg h, if_neg (fun z => h (e2.mp z))]; rfl
theorem nms_put_nodup {fs : List File} (g : File) (h : (nms fs).Nodup) : (nms (fput fs g)).Nodup := by
  rw [nms_put]
  split
  · exact h
  · rename_i q
    rw [List.nodup_append]
    exact ⟨h, by simp, fun a ha b hb e => by simp only [List.mem_singleton] at hb; subst hb; subst e; exact q ha⟩
theorem fdel_sub : ∀ (fs : List File) (k), (fdel fs k).Sublist fs
  | [], k => .slnil
  | f :: fs, k => by
    simp only [fdel]
    split
    · exact List.sublist_cons_self _ _
    · exact (fdel_sub fs k).cons_cons _
theorem nms_del_nodup {fs : List File} (k) (h : (nms fs).Nodup) : (nms (fdel fs k)).Nodup := h.sublist ((fdel_sub fs k).map _)
theorem mem_put : ∀ {fs : List File} {g f : File}, f ∈ fput fs g → f = g ∨ f ∈ fs
  | [], g, f, h => by simp [fput] at h; exact .inl h
  | a :: fs, g, f, h => by
    simp only [fput] at h
    split at h
    · rcases List.mem_cons.mp h with h | h
      · exact .inl h
      · exact .inr (by simp [h])
    · rcases List.mem_cons.mp h with h | h
      · exact .inr (by simp [h])
      · rcases mem_put h with h | h
        · exact .inl h
        · exact .inr (by simp [h])
theorem tot_put : ∀ (fs : List File) (g : File), tot (fput fs g) = tot fs + g.b.length - ((fget fs g.nm).map fun f => f.b.length).getD 0
  | [], g => by simp [fput, tot, fget]
  | f :: fs, g => by
    simp only [fput, fget]
    by_cases q : f.nm = g.nm
    · simp [q, tot]; omega
    · rw [if_neg q, if_neg q]
      simp only [tot]
      rw [tot_put fs g]
      have : ((fget fs g.nm).map fun f => f.b.length).getD 0 ≤ tot fs := by
        have key : ∀ (fs : List File) (k), ((fget fs k).map fun f => f.b.length).getD 0 ≤ tot fs := by
          intro fs k
          induction fs with
          | nil => simp [fget]
          | cons a fs ih =>
            simp only [fget, tot]
            split
            · simp
            · omega
        exact key fs g.nm
      omega
theorem tot_del : ∀ (fs : List File) (k), tot (fdel fs k) + ((fget fs k).map fun f => f.b.length).getD 0 = tot fs
  | [], k => rfl
  | f :: fs, k => by
    simp only [fdel, fget]
    by_cases q : f.nm = k
    · simp [q, tot]; omega
    · rw [if_neg q, if_neg q]
      have := tot_del fs k
      simp only [tot]
      omega
end Go.Proofs.Ythclmjelknibhaa.Ev
/- A disk in memory; New, Arm, Dead, can, has, Left. -/
namespace Go.Proofs.Ythclmjelknibhaa.Ev
open Go Go.RowKit
set_option linter.unusedVariables false
set_option linter.constructorNameAsVariable false
set_option linter.unusedSimpArgs false
set_option linter.unusedSectionVars false

structure Dk where
  room : Nat
  fs : List File
  armed : Bool
  at_ : Int
  part : Int
  dead : Bool
def Dk.cells (D : Dk) (m : Nat) : List FV := [.n D.room, .m m, .t D.armed, iv D.at_, iv D.part, .t D.dead]
structure Dk.Ok (D : Dk) : Prop where
  nm : ∀ f ∈ D.fs, Nm f.nm
  nd : (nms D.fs).Nodup
  la : ∀ f ∈ D.fs, f.la ≤ f.b.length
  room : tot D.fs ≤ D.room ∧ D.room ≤ 60000
  at_ : D.armed = true → 0 ≤ D.at_
  ati : I64 D.at_
/-- A disk in memory: its row d, its map m. -/
structure DK (F : FAW) (d m : Nat) (D : Dk) : Prop where
  row : F.row d = some (D.cells m, 78, 6, d, false)
  fam : F.fam d = some (false, 6)
  ent : ∃ es, F.mp m = some es ∧ MR F es D.fs
  ok : D.Ok
theorem DK.not1 {F : FAW} {d m : Nat} {D : Dk} (h : DK F d m D) : ∀ i r e q o, F.row i = some (r, e, 1, q, o) → ¬ i = d := by
  intro i r e q o hr hi
  subst hi
  rw [h.row] at hr
  simp only [Option.some.injEq, Prod.mk.injEq] at hr
  omega
theorem DK.sg {F F' : FAW} {d m : Nat} {D : Dk} (h : DK F d m D) {A B M : Nat → Prop} (hs : Sg F F' A B M) (hA : ∀ i r e m o, F.row i = some (r, e, 1, m, o) → ¬ A i) (hd : ¬ A d) (hb : ¬ B d) (hm : ¬ M m) : DK F' d m D := by
  obtain ⟨es, h1, h2⟩ := h.ent
  exact ⟨hs.row _ _ hd h.row, hs.fam _ _ hb h.fam, ⟨es, hs.mp _ _ hm h1, h2.sg hs hA⟩, h.ok⟩
theorem DK.sq {F F' : FAW} {d m : Nat} {D : Dk} (h : DK F d m D) (hs : Sq F F') : DK F' d m D := h.sg hs (fun _ _ _ _ _ _ q => q) (fun q => q) (fun q => q) (fun q => q)
theorem DK.lt {F : FAW} {d m : Nat} {D : Dk} (h : DK F d m D) (hw : Wf F) : d < F.x ∧ m < F.x := by
  obtain ⟨es, h1, _⟩ := h.ent
  exact ⟨hw.row _ _ h.row, hw.mp _ _ h1⟩
/-- A disk's row is told anew. -/
theorem DK.put {F : FAW} {d m : Nat} {D D' : Dk} (h : DK F d m D) (hf : D'.fs = D.fs) (hok : D'.Ok) : DK (F.put d (D'.cells m)) d m D' := by
  obtain ⟨es, h1, h2⟩ := h.ent
  refine ⟨by rw [row_put, if_pos rfl, h.row]; rfl, by rw [fam_put]; exact h.fam, ⟨es, by rw [mp_put]; exact h1, ?_⟩, hok⟩
  rw [hf]
  exact h2.sg (A := fun j => j = d) (B := No) (M := No) (Sg.put rfl) h.not1
theorem DK.g {F : FAW} {d m : Nat} {D : Dk} (h : DK F d m D) (off : Nat) (f : KU) {w : FV} (hc : (D.cells m)[off]? = some w) (hw : Fi w) : uGet off (.p d 0) F f = f w F := uGet_row f h.row (by rw [Nat.zero_add]; exact hc) hw
section
variable {F : FAW} {d m : Nat} {D : Dk} (h : DK F d m D)
include h
theorem DK.g1 (f : KU) : uGet 1 (.p d 0) F f = f (.m m) F := h.g 1 f rfl (Fi.m _)
theorem DK.g2 (f : KU) : uGet 2 (.p d 0) F f = f (.t D.armed) F := h.g 2 f rfl (Fi.t _)
theorem DK.g3 (f : KU) : uGet 3 (.p d 0) F f = f (iv D.at_) F := h.g 3 f rfl (iv_fi _)
theorem DK.g4 (f : KU) : uGet 4 (.p d 0) F f = f (iv D.part) F := h.g 4 f rfl (iv_fi _)
theorem DK.g5 (f : KU) : uGet 5 (.p d 0) F f = f (.t D.dead) F := h.g 5 f rfl (Fi.t _)
end
-- New
theorem ne_00 (F : FAW) (f : KU) : uEq true .neq (.n 0) (.n 0) F f = f (.t false) F := rfl
theorem ne_18 (F : FAW) (f : KU) : uEq true .neq (.n 18) (.n 0) F f = f (.t true) F := rfl
def newD (z : Int) : Dk := ⟨(min (max z 0) 60000).toNat, [], false, 0, 0, false⟩
theorem newD_ok (z : Int) : (newD z).Ok := ⟨fun f h => (by cases h), (by simp [newD, nms]), fun f h => (by cases h), ⟨Nat.zero_le _, (by show (min (max z 0) 60000).toNat ≤ 60000; omega)⟩, fun h => (by cases h), ⟨by show -9223372036854775808 ≤ (0 : Int); omega, by show (0 : Int) ≤ 9223372036854775807; omega⟩⟩
def FAW.newM (F : FAW) : FAW := ⟨.map F.x [] F.h, F.fs, F.x + 1⟩
theorem uMkm_eq (F : FAW) (f : KU) : uMkm none F f = f (.m F.x) F.newM := by
  show (fN 0 fun _ => fN F.x fun x => f (.m x) ⟨.map x [] F.h, F.fs, Nat.succ x⟩) = _
  rw [fN_eq, fN_eq]; rfl
theorem mp_newM (F : FAW) (j : Nat) : F.newM.mp j = if j = F.x then some [] else F.mp j := rfl
theorem Wf.newM {F : FAW} (h : Wf F) : Wf F.newM := by
  have hx : F.newM.x = F.x + 1 := rfl
  refine ⟨h.own.mono (Nat.le_succ _), fun j r e => Nat.lt_succ_of_lt (h.row j r e), fun j r e => Nat.lt_succ_of_lt (h.fam j r e), fun j r e => ?_⟩
  rw [mp_newM] at e; rw [hx]
  split at e
  · omega
  · have := h.mp j r e; omega
theorem Sq.newM {F : FAW} (h : Wf F) : Sq F F.newM :=
  ⟨fun j r _ e => e, fun j r _ e => e, fun j r _ e => by rw [mp_newM, if_neg (by have := h.mp j r e; omega)]; exact e, Nat.le_succ _⟩
theorem dnew_ok (N : Nat) (hN : 1 ≤ N) {F : FAW} (hw : Wf F) (z : Int) : ∃ F', clU dskD N 15 [iv z] F = .ok (.p (F.x + 1) 0) F' ∧ DK F' (F.x + 1) F.x (newD z) ∧ Sq F F' ∧ Wf F' := by
  obtain ⟨n, rfl⟩ : ∃ n, N = n + 1 := ⟨N - 1, by omega⟩
  refine ⟨F.newM.new ((newD z).cells F.x) 78 6, ?_, ⟨?_, ?_, ⟨[], ?_, trivial⟩, newD_ok z⟩, (Sq.newM hw).trans (Sq.new hw.newM _ _ _), hw.newM.new _ _ _⟩
  · rw [cl15, u15_in]
    have e1 : iv (min (max z 0) 60000) = .n (min (max z 0) 60000).toNat := by
      have : (min (max z 0) 60000) = (((min (max z 0) 60000).toNat : Nat) : Int) := by omega
      rw [this]; rfl
    have h1 := fun F f => (mm_z F f true z 0)
    have h2 := fun F f => (mm_z F f false (max z 0) 60000)
    have z0 : FV.n 0 = iv 0 := rfl
    have z6 : FV.n 60000 = iv 60000 := rfl
    have hb : ∀ (k : Nat) (x : Nat) (F : FAW) (f : KU), uBuildF [iv 0, .nm, (.t false), iv 0, iv 0, (.t false)] [(0, 1, .n k), (1, 1, .m x)] F f = f (.a [.n k, .m x, .t false, iv 0, iv 0, .t false]) F := fun _ _ _ _ => rfl
    simp -implicitDefEqProofs only [↓SS, Nat.zero_add, Nat.add_zero, Bool.not_true, Bool.not_false, ↓u15b, ↓u15_0, ↓u15_1, ↓m2_mk, ↓k2_mk, ↓u15r_mk, z0, z6, ↓h1, ↓h2, if_true, Bool.false_eq_true, if_false, e1, ↓uMkm_eq, ↓hb, ↓uBox_a]
    rfl
  · rw [row_new, if_pos (show F.x + 1 = F.newM.x from rfl)]; rfl
  · rw [fam_new, if_pos (show F.x + 1 = F.newM.x from rfl)]; rfl
  · rw [mp_new, mp_newM, if_pos rfl]
-- Arm
def Dk.arm (D : Dk) (a p : Int) : Dk := { D with armed := decide (0 ≤ a), at_ := a, part := p }
theorem Dk.Ok.arm {D : Dk} (h : D.Ok) (a p : Int) (ha : I64 a) : (D.arm a p).Ok := ⟨h.nm, h.nd, h.la, h.room, fun q => of_decide_eq_true q, ha⟩
theorem st_cell {F : FAW} {d m : Nat} {c : List FV} (hr : F.row d = some (c, 78, 6, d, false)) (hf : F.fam d = some (false, 6)) (hl : c.length = 6) {k : Nat} {a w : FV} (ha : c[k]? = some a) (hfa : Fi a) (hw : Fi w) (f : KU) : uSt 1 (.p d k) w F f = f (.u []) (F.put d (c.set k w)) :=
  uSt_row f hr hf (by omega) ha hfa hw
theorem put_put (F : FAW) (d : Nat) (a b : List FV) : (F.put d a).put d b = F.put d b := by
  have key : ∀ h : HL, putHL d b (putHL d a h) = putHL d b h := by
    intro h
    induction h with
    | nil => rfl
    | cell j c e s m o r ih =>
      simp only [putHL]
      split
      · rename_i q; simp only [putHL, if_pos q]
      · rename_i q; simp only [putHL, if_neg q, ih]
    | map j es r ih => simp only [putHL, ih]
  show FAW.mk _ _ _ = FAW.mk _ _ _
  rw [show (F.put d a).h = putHL d a F.h from rfl, key]; rfl
theorem arm_ok (N : Nat) (hN : 1 ≤ N) {F : FAW} (hw : Wf F) {d m : Nat} {D : Dk} (h : DK F d m D) (a p : Int) (ha : I64 a) :
    ∃ F', clU dskD N 16 [.p d 0, iv a, iv p] F = .ok (.u []) F' ∧ DK F' d m (D.arm a p) ∧ Sg F F' (· = d) No No ∧ Wf F' := by
  obtain ⟨n, rfl⟩ : ∃ n, N = n + 1 := ⟨N - 1, by omega⟩
  refine ⟨F.put d ((D.arm a p).cells m), ?_, h.put rfl (h.ok.arm a p ha), Sg.put rfl, hw.put _ _⟩
  rw [cl16, u16_in]
  have s1 := fun f : KU => st_cell (m := m) h.row h.fam rfl (k := 2) (w := .t (decide (0 ≤ a))) rfl (Fi.t _) (Fi.t _) f
  have r1 : (F.put d ((D.cells m).set 2 (.t (decide (0 ≤ a))))).row d = some ((D.cells m).set 2 (.t (decide (0 ≤ a))), 78, 6, d, false) := by rw [row_put, if_pos rfl, h.row]; rfl
  have s2 := fun f : KU => st_cell (m := m) r1 (by rw [fam_put]; exact h.fam) rfl (k := 3) (w := iv a) rfl (iv_fi _) (iv_fi _) f
  have r2 : ((F.put d ((D.cells m).set 2 (.t (decide (0 ≤ a))))).put d (((D.cells m).set 2 (.t (decide (0 ≤ a)))).set 3 (iv a))).row d = some (((D.cells m).set 2 (.t (decide (0 ≤ a)))).set 3 (iv a), 78, 6, d, false) := by rw [row_put, if_pos rfl, r1]; rfl
  have s3 := fun f : KU => st_cell (m := m) r2 (by rw [fam_put, fam_put]; exact h.fam) rfl (k := 4) (w := iv p) rfl (iv_fi _) (iv_fi _) f
  have z0 : FV.n 0 = iv 0 := rfl
  have g := fun F f => ge_z F f a 0
  have hn := fun F f => uEqN_pp true d 0 F f
  simp -implicitDefEqProofs only [↓SS, Nat.zero_add, Nat.add_zero, Bool.not_true, Bool.not_false, ↓u16b, ↓u16_0, ↓u16_1, ↓u16_2, ↓m4_mk, ↓k4_mk, ↓u16r_mk, z0, ↓hn, ↓g, ↓s1, ↓s2, ↓s3]
  rw [put_put, put_put]; rfl
-- Dead, can, has
theorem dead_ok (N : Nat) (hN : 1 ≤ N) {F : FAW} {d m : Nat} {D : Dk} (h : DK F d m D) : clU dskD N 27 [.p d 0] F = .ok (.t D.dead) F := by
  obtain ⟨n, rfl⟩ : ∃ n, N = n + 1 := ⟨N - 1, by omega⟩
  rw [cl27, u27_in]
  have hn := fun F f => uEqN_pp true d 0 F f
  simp -implicitDefEqProofs only [↓SS, Nat.zero_add, Nat.add_zero, Bool.not_true, Bool.not_false, ↓u27b, ↓u27_0, ↓u27_1, ↓m2_mk, ↓k2_mk, ↓u27r_mk, ↓hn, ↓h.g5]
def Dk.can (D : Dk) : Nat := if D.dead then 18 else 0
theorem can_ok (N : Nat) (hN : 1 ≤ N) {F : FAW} {d m : Nat} {D : Dk} (h : DK F d m D) : clU dskD N 49 [.p d 0] F = .ok (.n D.can) F := by
  obtain ⟨n, rfl⟩ : ∃ n, N = n + 1 := ⟨N - 1, by omega⟩
  rw [cl49, u49_in]
  have hn := fun F f => uEqN_pp false d 0 F f
  cases e : D.dead <;> simp -implicitDefEqProofs only [↓SS, Nat.zero_add, Nat.add_zero, Bool.not_true, Bool.not_false, ↓u49b, ↓u49_0, ↓u49_1, ↓u49_2, ↓u49_3, ↓u49_4, ↓u49_5, ↓u49_6, ↓u49_7, ↓m4_mk, ↓k4_mk, ↓u49r_mk, ↓hn, ↓h.g5, e, Dk.can, if_true, Bool.false_eq_true, if_false]
def Dk.has (D : Dk) (k : List Nat) : Nat := if D.dead then 18 else if k ∈ nms D.fs then 0 else 15
theorem DK.mlk {F : FAW} {d m : Nat} {D : Dk} (h : DK F d m D) {k : List Nat} (hk : Nm k) : ∃ v la, (match fget D.fs k with | some f => la = f.la ∧ By F v f.b ∧ f.la ≤ f.b.length ∧ f ∈ D.fs | none => v = .nl ∧ la = 0) ∧ ∀ (ok : Bool) (f : KU), uMlkF (.one .str) (.a [.nl, .n 0]) ok (.m m) (.s k) F f = outU ok (.a [v, .n la]) (decide (k ∈ nms D.fs)) F f := by
  obtain ⟨es, h1, h2⟩ := h.ent
  have e0 : ∀ (ok : Bool) (f : KU), uMlkF (.one .str) (.a [.nl, .n 0]) ok (.m m) (.s k) F f = findM F.h m fun es => mfU (.one .str) (.s k) es fun o => Option.rec (motive := fun _ => RU) (outU ok (.a [.nl, .n 0]) false F f) (fun j => nthU es j fun p => outU ok p.2 true F f) o := fun _ _ => rfl
  cases e : idx D.fs k with
  | none =>
    refine ⟨.nl, 0, ?_, fun ok f => ?_⟩
    · rw [fget_none.mpr (idx_none.mp e)]; exact ⟨rfl, rfl⟩
    · rw [e0, findM_get _ h1, mf_mr hk h2 h.ok.nm h.ok.nd, e, decide_eq_false (idx_none.mp e)]
  | some j =>
    obtain ⟨p, f, v, q1, q2, q3, q4, q5, q6⟩ := h2.get e
    refine ⟨v, f.la, ?_, fun ok g => ?_⟩
    · rw [q2]; exact ⟨rfl, q4, h.ok.la f q5, q5⟩
    · have hin : k ∈ nms D.fs := Classical.byContradiction fun hn => by rw [idx_none.mpr hn] at e; cases e
      rw [e0, findM_get _ h1, mf_mr hk h2 h.ok.nm h.ok.nd, e, decide_eq_true hin]
      show nthU es j _ = _
      rw [nthU_some _ q1, q3]
theorem has_ok (N : Nat) (hN : 2 ≤ N) {F : FAW} (hw : Wf F) {d m : Nat} {D : Dk} (h : DK F d m D) {k : List Nat} (hk : Nm k) : ∃ F', clU dskD N 53 [.p d 0, .s k] F = .ok (.n (D.has k)) F' ∧ Sq F F' ∧ Wf F' := by
  obtain ⟨n, rfl⟩ : ∃ n, N = n + 1 := ⟨N - 1, by omega⟩
  have hc := can_ok n (by omega) h
  by_cases hd : D.dead = true
  · refine ⟨F, ?_, Sg.refl _ _ _ _, hw⟩
    rw [cl53, u53_in]
    have e : D.can = 18 := by rw [Dk.can, if_pos hd]
    rw [e] at hc
    simp -implicitDefEqProofs only [↓SS, Nat.zero_add, Nat.add_zero, Bool.not_true, Bool.not_false, ↓u53b, ↓u53_0, ↓u53_1, ↓u53_2, ↓u53_3, ↓u53_4, ↓u53_5, ↓u53_6, ↓u53_7, ↓u53_8, ↓u53_9, ↓m7_mk, ↓k7_mk, ↓u53r_mk, ↓hc, ↓ne_18, Dk.has, hd, if_true]
  · have e : D.can = 0 := by rw [Dk.can, if_neg hd]
    rw [e] at hc
    obtain ⟨v, la, h1, h2⟩ := h.mlk hk
    have r1 : (F.new [.nl, .n 0] 81 2).row F.x = some ([.nl, .n 0], 81, 2, F.x, false) := by rw [row_new, if_pos rfl]
    have f1 : (F.new [.nl, .n 0] 81 2).fam F.x = some (false, 2) := by rw [fam_new, if_pos rfl]; rfl
    have hv : Fi v := by
      cases q : fget D.fs k with
      | none => rw [q] at h1; rw [h1.1]; exact Fi.nl
      | some f => rw [q] at h1; exact h1.2.1.fi
    have st := fun f : KU => uSt_agg (vs := [v, .n la]) f r1 f1 (Nat.le_refl 2) rfl (fun a ha => by simp at ha; rcases ha with rfl | rfl; exact Fi.nl; exact Fi.n _) (fun a ha => by simp at ha; rcases ha with rfl | rfl; exact hv; exact Fi.n _)
    refine ⟨(F.new [.nl, .n 0] 81 2).put F.x [v, .n la], ?_, ?_, (hw.new _ _ _).put _ _⟩
    · rw [cl53, u53_in]
      have hnew : ∀ f : KU, uNewF 81 2 [.nl, .n 0] F f = f (.p F.x 0) (F.new [.nl, .n 0] 81 2) := fun f => by
        show newU _ _ _ F _ = _
        rw [newU_new]
      have ho : ∀ (w : FV) (b : Bool) (F : FAW) (f : KU), outU true w b F f = f (.u [w, .t b]) F := fun _ _ _ _ => rfl
      have st' : ∀ f : KU, uSt 2 (.p F.x 0) (.a [v, .n la]) (F.new [.nl, .n 0] 81 2) f = f (.u []) ((F.new [.nl, .n 0] 81 2).put F.x [v, .n la]) := st
      by_cases hin : k ∈ nms D.fs
      · simp -implicitDefEqProofs only [↓SS, Nat.zero_add, Nat.add_zero, Bool.not_true, Bool.not_false, ↓u53b, ↓u53_0, ↓u53_1, ↓u53_2, ↓u53_3, ↓u53_4, ↓u53_5, ↓u53_6, ↓u53_7, ↓u53_8, ↓u53_9, ↓m7_mk, ↓k7_mk, ↓u53r_mk, ↓hc, ↓ne_00, ↓h.g1, ↓h2, ↓ho, ↓hnew, ↓st', decide_eq_true hin, Dk.has, hd, if_true, Bool.false_eq_true, if_false, if_pos hin]
      · simp -implicitDefEqProofs only [↓SS, Nat.zero_add, Nat.add_zero, Bool.not_true, Bool.not_false, ↓u53b, ↓u53_0, ↓u53_1, ↓u53_2, ↓u53_3, ↓u53_4, ↓u53_5, ↓u53_6, ↓u53_7, ↓u53_8, ↓u53_9, ↓m7_mk, ↓k7_mk, ↓u53r_mk, ↓hc, ↓ne_00, ↓h.g1, ↓h2, ↓ho, ↓hnew, ↓st', decide_eq_false hin, Dk.has, hd, if_true, Bool.false_eq_true, if_false, if_neg hin]
    · exact Sg.fresh hw (Sg.refl _ _ _ _) ((Sq.new hw _ _ _ |>.any (· = F.x) No No).trans (Sg.put rfl)) (fun j hj q => by omega) (fun j hj q => q) (fun j hj q => q)
end Go.Proofs.Ythclmjelknibhaa.Ev
/- slices.Concat of two rows of bytes. -/
namespace Go.Proofs.Ythclmjelknibhaa.Ev
open Go Go.RowKit
set_option linter.unusedVariables false
set_option linter.constructorNameAsVariable false
set_option linter.unusedSimpArgs false
set_option linter.unusedSectionVars false

theorem stAtU_all {vs : List FV} (hw : ∀ w ∈ vs, Fi w) : ∀ {l : List FV} {o : Nat} (g : List FV → RU), o + vs.length ≤ l.length → (∀ a ∈ l, Fi a) → stAtU l o vs g = g (l.take o ++ vs ++ l.drop (o + vs.length))
  | [], 0, g, h, _ => by
    have : vs = [] := List.length_eq_zero_iff.mp (by simpa using h)
    subst this; rfl
  | [], o + 1, g, h, _ => by simp at h
  | a :: l, 0, g, h, ha => by
    have e1 : stAtU (a :: l) 0 vs g = stU (a :: l) vs g := rfl
    rw [e1, stU_all _ _ _ (by omega) hw (fun x hx => ha x (List.mem_of_mem_take hx))]
    simp
  | a :: l, o + 1, g, h, ha => by
    have e1 : stAtU (a :: l) (o + 1) vs g = stAtU l o vs fun r => g (a :: r) := rfl
    rw [e1, stAtU_all hw (l := l) _ (by simp only [List.length_cons] at h; omega) (fun x hx => ha x (by simp [hx]))]
    have : o + 1 + vs.length = (o + vs.length) + 1 := by omega
    simp [this]
/-- A slice with room, or nothing. -/
def Cc (F : FAW) (x0 : Nat) (v : FV) (l : List Nat) (c : Nat) : Prop :=
  (v = .nl ∧ l = [] ∧ c = 0) ∨ ∃ x cells, x0 ≤ x ∧ v = .l x 0 l.length c ∧ F.row x = some (cells, 5, 1, x, false) ∧ F.fam x = some (false, c) ∧ cells.length = c ∧ l.length ≤ c ∧ cells.take l.length = l.map FV.b ∧ ∀ w ∈ cells, Fi w
theorem Cc.by {F : FAW} {x0 : Nat} {v : FV} {l : List Nat} {c : Nat} (h : Cc F x0 v l c) : By F v l := by
  rcases h with ⟨h1, h2, _⟩ | ⟨x, cells, _, h1, h2, _, h3, h4, h5, _⟩
  · exact .inl ⟨h1, h2⟩
  · exact .inr ⟨x, 0, c, 5, x, false, cells, h1, h4, h2, by rw [List.drop_zero]; exact h5, by omega⟩
theorem app_in {F : FAW} (hw : Wf F) {x0 : Nat} {v : FV} {l : List Nat} {c : Nat} (h : Cc F x0 v l c) {w : FV} {ds : List Nat} (hb : By F w ds) (hc : l.length + ds.length ≤ c) :
    ∃ v' F', (∀ f : KU, uApp 5 1 1 v w F f = f v' F') ∧ Cc F' x0 v' (l ++ ds) c ∧ Sg F F' (fun j => x0 ≤ j) No No ∧ Wf F' := by
  have e0 : ∀ f : KU, uApp 5 1 1 v w F f = eL v (fun i o l c => appSU 5 1 1 i o l c ds.length (ds.map FV.b) F f) (appNU 5 1 1 ds.length (ds.map FV.b) F f) (fun _ => .no) (fun _ => .no) .no := fun f => by
    unfold uApp
    rw [hb.src, allU_all _ fi_b]
  rcases h with ⟨rfl, rfl, rfl⟩ | ⟨x, cells, h0, rfl, h2, h3, h4, h5, h6, h7⟩
  · have : ds = [] := List.length_eq_zero_iff.mp (by omega)
    subst this
    exact ⟨.nl, F, fun f => (e0 f).trans rfl, .inl ⟨rfl, rfl, rfl⟩, Sg.refl _ _ _ _, hw⟩
  · by_cases hd : ds.length = 0
    · have : ds = [] := List.length_eq_zero_iff.mp hd
      subst this
      exact ⟨_, F, fun f => (e0 f).trans rfl, .inr ⟨x, cells, h0, by rw [List.append_nil], h2, h3, h4, by rw [List.append_nil]; exact h5, by rw [List.append_nil]; exact h6, h7⟩, Sg.refl _ _ _ _, hw⟩
    · have hlen : (cells.take l.length ++ ds.map FV.b ++ cells.drop (l.length + (ds.map FV.b).length)).length = c := by
        simp only [List.length_append, List.length_take, List.length_map, List.length_drop]; omega
      refine ⟨.l x 0 (l.length + ds.length) c, F.put x (cells.take l.length ++ ds.map FV.b ++ cells.drop (l.length + (ds.map FV.b).length)), fun f => ?_, .inr ⟨x, _, h0, by rw [List.length_append], by rw [row_put, if_pos rfl, h2]; rfl, by rw [fam_put]; exact h3, hlen, by rw [List.length_append]; exact hc, ?_, ?_⟩, Sg.put h0, hw.put _ _⟩
      · rw [e0]
        show appSU 5 1 1 x 0 l.length c ds.length (ds.map FV.b) F f = _
        unfold appSU
        rw [beqU, decide_eq_false hd]
        show (findH F.h x fun cc el es fm ro => cn (an (nt ro) (an (Nat.beq es 1) (Nat.beq el 5))) (Bool.rec (motive := fun _ => RU) (appGrU 1 1 0 l.length ds.length cc (ds.map FV.b) 5 fm F f) (appInU 1 x 0 l.length c ds.length cc (ds.map FV.b) fm F f) (Nat.ble (Nat.add l.length ds.length) c)) .no) = _
        rw [findH_get _ h2, an_eq, an_eq, nt_eq, beqU, beqU, bleU]
        simp only [decide_true, Bool.not_false, Bool.and_self, cn_true]
        rw [decide_eq_true (show Nat.add l.length ds.length ≤ c from hc)]
        show appInU 1 x 0 l.length c ds.length cells (ds.map FV.b) x F f = _
        unfold appInU
        have e3 : Nat.add 0 (Nat.mul l.length 1) = l.length := by show 0 + l.length * 1 = _; omega
        rw [e3, stAtU_all fi_b _ (by rw [List.length_map]; omega) h7, putU_put h2 h3 (by omega), fN_eq]; rfl
      · have e1 : (cells.take l.length).length = l.length := by rw [List.length_take]; omega
        rw [List.length_append, List.take_left' (by rw [List.length_append, e1, List.length_map]), h6, List.map_append]
      · intro a ha
        simp only [List.append_assoc, List.mem_append] at ha
        rcases ha with ha | ha | ha
        · exact h7 a (List.mem_of_mem_take ha)
        · exact fi_b a ha
        · exact h7 a (List.mem_of_mem_drop ha)
theorem grow_ok (N : Nat) (hN : 1 ≤ N) {F : FAW} (hw : Wf F) (k : Nat) (hk : k ≤ 1000000) : ∃ v F', clU dskD N 81 [.nl, .n k] F = .ok v F' ∧ Cc F' F.x v [] k ∧ Sq F F' ∧ Wf F' := by
  obtain ⟨n, rfl⟩ : ∃ n, N = n + 1 := ⟨N - 1, by omega⟩
  have hs1 := fun F f => uSub_nn F f (a := 0) (b := 0) (Nat.le_refl _) (by omega)
  have hs2 := fun F f => uSub_nn F f (a := k) (b := 0) (Nat.zero_le _) (by omega)
  have hl := fun F f => uLss_nn F f .lss k 0
  have hg := fun F f => uGtr_nn F f .gtr k 0
  have hcap : ∀ (F : FAW) (f : KU), uCapn .nl F f = f (.n 0) F := fun _ _ => rfl
  by_cases h0 : k = 0
  · subst h0
    refine ⟨.nl, F, ?_, .inl ⟨rfl, rfl, rfl⟩, Sg.refl _ _ _ _, hw⟩
    rw [cl81, u81_in]
    simp -implicitDefEqProofs only [↓SS, Nat.zero_add, Nat.add_zero, Bool.not_true, Bool.not_false, ↓u81b, ↓u81_0, ↓u81_1, ↓u81_2, ↓u81_3, ↓u81_4, ↓u81_5, ↓u81_6, ↓u81_7, ↓u81_8, ↓m5_mk, ↓k5_mk, ↓u81r_mk, ↓hl, decide_eq_false (show ¬ (0 < 0) by decide), ↓hcap, ↓uLen_nl, ↓hs1, ↓hg, Nat.sub_self]
  · refine ⟨.l F.x 0 0 k, F.new (List.replicate k (.b 0)) 5 1, ?_, .inr ⟨F.x, List.replicate k (.b 0), Nat.le_refl _, rfl, by rw [row_new, if_pos rfl], by rw [fam_new, if_pos rfl, List.length_replicate], List.length_replicate, Nat.zero_le _, rfl, fun a ha => by rw [List.eq_of_mem_replicate ha]; exact Fi.b _⟩, Sq.new hw _ _ _, hw.new _ _ _⟩
    have ha : ∀ f : KU, uAppzF 5 1 1 [.b 0] .nl (.n k) F f = f (.l F.x 0 k k) (F.new (List.replicate k (.b 0)) 5 1) := fun f => by
      have e : uAppzF 5 1 1 [.b 0] .nl (.n k) F f = cn (an (Nat.ble k 140737488355328) (Nat.ble (Nat.mul k 1) 281474976710656)) (cn (Nat.beq (lenU (repU [.b 0] k)) (Nat.mul k 1)) (allU (repU [.b 0] k) (appNU 5 1 1 k (repU [.b 0] k) F f)) .no) .no := rfl
      have e1 : an (Nat.ble k 140737488355328) (Nat.ble (Nat.mul k 1) 281474976710656) = true := by
        rw [an_eq, bleU, bleU, decide_eq_true (show k ≤ 140737488355328 by omega), decide_eq_true (show Nat.mul k 1 ≤ 281474976710656 by show k * 1 ≤ _; omega)]; rfl
      have e2 : Nat.beq (lenU (repU [FV.b 0] k)) (Nat.mul k 1) = true := by
        rw [beqU, lenU_eq, repU_rep, List.length_replicate]
        exact decide_eq_true (Nat.mul_one k).symm
      rw [e, e1, cn_true, e2, cn_true, repU_rep, allU_all _ (fun a ha => by rw [List.eq_of_mem_replicate ha]; exact Fi.b _)]
      unfold appNU
      rw [beqU, decide_eq_false h0]
      show cn (fitU k 1) (newU _ 5 1 F fun i F' => f (.l i 0 k k) F') .no = _
      rw [fitU_le (by omega) (by omega), cn_true, newU_new]
    have hsl1 : ∀ (F : FAW) (f : KU), uSlV 1 .nl none (some (.n 0)) none F f = f .nl F := fun _ _ => rfl
    have hr : (F.new (List.replicate k (.b 0)) 5 1).row F.x = some (List.replicate k (.b 0), 5, 1, F.x, false) := by rw [row_new, if_pos rfl]
    have hsl2 : ∀ f : KU, uSlV 1 (.l F.x 0 k k) none (some (.n 0)) none (F.new (List.replicate k (.b 0)) 5 1) f = f (.l F.x 0 0 k) (F.new (List.replicate k (.b 0)) 5 1) := fun f => by
      have e0 : ∀ (G : FAW) (f : KU), uSlV 1 (.l F.x 0 k k) none (some (.n 0)) none G f = uSlVL 1 F.x 0 k k none (some (.n 0)) none G f := fun _ _ => rfl
      rw [e0]
      unfold uSlVL
      rw [findH_get _ hr, optU_o, optU_s, optU_o]
      show cn (Nat.beq 1 1) (cn (an (Nat.ble 0 0) (an (Nat.ble 0 k) (an (Nat.ble k k) (nt (an false false))))) (fN (Nat.add 0 (Nat.mul 0 1)) fun o => fN (Nat.sub 0 0) fun n => fN (Nat.sub k 0) fun c => f (.l F.x o n c) _) .no) .no = _
      have e1 : an (Nat.ble 0 0) (an (Nat.ble 0 k) (an (Nat.ble k k) (nt (an false false)))) = true := by
        simp only [an_eq, nt_eq, bleU]; simp
      rw [e1, show Nat.beq 1 1 = true from rfl, cn_true, cn_true, fN_eq, fN_eq, fN_eq]; rfl
    rw [cl81, u81_in]
    simp -implicitDefEqProofs only [↓SS, Nat.zero_add, Nat.add_zero, Bool.not_true, Bool.not_false, ↓u81b, ↓u81_0, ↓u81_1, ↓u81_2, ↓u81_3, ↓u81_4, ↓u81_5, ↓u81_6, ↓u81_7, ↓u81_8, ↓m5_mk, ↓k5_mk, ↓u81r_mk, ↓hl, decide_eq_false (show ¬ (k < 0) by omega), ↓hcap, ↓uLen_nl, ↓hs1, ↓hs2, ↓hg, Nat.sub_self, Nat.sub_zero, decide_eq_true (show 0 < k by omega), ↓hsl1, ↓ha, ↓hsl2]
theorem concat_ok (N : Nat) (hN : 4 ≤ N) {F : FAW} (hw : Wf F) {i fm : Nat} {ro : Bool} {v w : FV} {a b : List Nat} (hr : F.row i = some ([v, w], 28, 1, fm, ro)) (ha : By F v a) (hb : By F w b) (hl : a.length + b.length ≤ 1000000) :
    ∃ v' F', clU dskD N 51 [.l i 0 2 2] F = .ok v' F' ∧ By F' v' (a ++ b) ∧ Sq F F' ∧ Wf F' := by
  obtain ⟨n, rfl⟩ : ∃ n, N = n + 3 + 1 := ⟨N - 4, by omega⟩
  obtain ⟨g, F1, h1, h2, h3, h4⟩ := grow_ok (n + 3) (by omega) hw (0 + a.length + b.length) (by omega)
  obtain ⟨g2, F2, k1, k2, k3, k4⟩ := app_in h4 h2 (ha.sq h3) (by simp)
  have sq2 : Sq F F2 := h3.fresh hw k3 (fun j hj q => by omega) (fun j hj q => q) (fun j hj q => q)
  obtain ⟨g3, F3, m1, m2, m3, m4⟩ := app_in k4 k2 (hb.sq sq2) (by simp)
  have sq3 : Sq F F3 := sq2.fresh hw m3 (fun j hj q => by omega) (fun j hj q => q) (fun j hj q => q)
  refine ⟨g3, F3, ?_, by simpa using m2.by, sq3, m4⟩
  rw [cl51, u51_in]
  have hlen : ∀ (F : FAW) (f : KU), uLen false (.l i 0 2 2) F f = f (.n 2) F := fun _ _ => rfl
  have l0 : ∀ (G : FAW), G.row i = some ([v, w], 28, 1, fm, ro) → ∀ f : KU, (uIad 1 (.l i 0 2 2) (.n 0) G fun v0 S => uLd none v0 S f) = f v G := fun G hG f => by
    rw [uIad_l _ _ (by decide)]; exact uLd_row f hG rfl ha.fi
  have l1 : ∀ (G : FAW), G.row i = some ([v, w], 28, 1, fm, ro) → ∀ f : KU, (uIad 1 (.l i 0 2 2) (.n 1) G fun v0 S => uLd none v0 S f) = f w G := fun G hG f => by
    rw [uIad_l _ _ (by decide)]; exact uLd_row f hG rfl hb.fi
  have r1 := h3.row _ _ (fun q => q) hr
  have r2 := sq2.row _ _ (fun q => q) hr
  have c0 : ∀ (F : FAW) (f : KU), uCmp ltN .lss (.n 0) (.n 2) F f = f (.t true) F := fun _ _ => rfl
  have c1 : ∀ (F : FAW) (f : KU), uCmp ltN .lss (.n 1) (.n 2) F f = f (.t true) F := fun _ _ => rfl
  have c2 : ∀ (F : FAW) (f : KU), uCmp ltN .lss (.n 2) (.n 2) F f = f (.t false) F := fun _ _ => rfl
  have a0 : ∀ (F : FAW) (f : KU), uAdd (.n 0) (.n 1) F f = f (.n 1) F := fun _ _ => rfl
  have a1 : ∀ (F : FAW) (f : KU), uAdd (.n 1) (.n 1) F f = f (.n 2) F := fun _ _ => rfl
  have hA := fun F f => uAdd_nn F f (a := 0) (b := a.length) (by omega)
  have hB := fun F f => uAdd_nn F f (a := 0 + a.length) (b := b.length) (by omega)
  have hz1 : ∀ (F : FAW) (f : KU), uCmp ltN .lss (.n (0 + a.length)) (.n 0) F f = f (.t false) F := fun F f => by rw [uLss_nn, decide_eq_false (by omega)]
  have hz2 : ∀ (F : FAW) (f : KU), uCmp ltN .lss (.n (0 + a.length + b.length)) (.n 0) F f = f (.t false) F := fun F f => by rw [uLss_nn, decide_eq_false (by omega)]
  have be0 : Nat.beq 0 0 = true := rfl
  have be2 : Nat.beq 2 2 = true := rfl
  simp -implicitDefEqProofs only [↓seqU_eq, ↓condU_eq, ↓blockU_eq, ↓skipU_eq, ↓retU_eq, ↓exitU_eq, ↓exU_n, ↓exU_r, ↓exU_e, ↓eT_t, ↓cn_true, ↓cn_false, ↓uCall_eq, ↓goOn_ok, ↓loopU_eq, ↓loopNU_succ, ↓u51b, ↓u51_0, ↓u51_1, ↓u51_2, ↓u51_3, ↓u51_4, ↓u51_5, ↓u51_6, ↓u51_7, ↓u51_8, ↓u51_9, ↓u51_10, ↓u51_12, ↓u51_13, ↓u51_14, ↓u51_15, ↓u51_16, ↓u51_17, ↓u51_18, ↓u51_20, ↓m15_mk, ↓k15_mk, ↓u51r_mk, ↓u51_11, ↓u51_19, ↓hlen, ↓c0, ↓c1, ↓c2, ↓a0, ↓a1, ↓l0 F hr, ↓l1 F hr, ↓l0 F1 r1, ↓l1 F2 r2, ↓ha.len, ↓hb.len, ↓hA, ↓hB, ↓hz1, ↓hz2, be0, be2, ↓h1, ↓k1, ↓m1]
end Go.Proofs.Ythclmjelknibhaa.Ev
/- A disk in memory; Left, Power, Crash, Names. -/
namespace Go.Proofs.Ythclmjelknibhaa.Ev
open Go Go.RowKit
set_option linter.unusedVariables false
set_option linter.constructorNameAsVariable false
set_option linter.unusedSimpArgs false
set_option linter.unusedSectionVars false

theorem By.cases {F : FAW} {v : FV} {l : List Nat} (h : By F v l) : (v = .nl ∧ l = []) ∨ ∃ i o c, v = .l i o l.length c := by
  rcases h with h | ⟨i, o, c, _, _, _, _, h, _⟩
  · exact .inl h
  · exact .inr ⟨i, o, c, h⟩
theorem lens_mr {F : FAW} : ∀ {es : List (FV × FV)} {fs : List File}, MR F es fs → lensU es = some (tot fs)
  | [], [], _ => rfl
  | e :: es, f :: fs, ⟨h1, ⟨v, h2, h3⟩, h4⟩ => by
    obtain ⟨a, b⟩ := e
    have h2 : b = _ := h2
    have e1 : lenU1 b = some f.b.length := by
      rw [h2]
      rcases h3.cases with ⟨rfl, q⟩ | ⟨i, o, c, rfl⟩
      · rw [q]; rfl
      · rfl
    simp only [lensU, e1, lens_mr h4, tot]
theorem left_okD (N : Nat) (hN : 1 ≤ N) {F : FAW} {d m : Nat} {D : Dk} (h : DK F d m D) : clU dskD N 23 [.p d 0] F = .ok (.n (D.room - tot D.fs)) (F.bump (1 + D.fs.length)) := by
  obtain ⟨n, rfl⟩ : ∃ n, N = n + 1 := ⟨N - 1, by omega⟩
  obtain ⟨es, h1, h2⟩ := h.ent
  rw [cl23]
  have e : uLeft (clU dskD n) n [.p d 0] F = findH F.h d fun c el es fm ro => match c with
    | [.n room, .m m, _, _, _, _] => findM F.h m fun fs => match lensU fs with
      | some t => if t ≤ room ∧ room < 4611686018427387904 then .ok (.n (room - t)) ⟨F.h, F.fs, F.x + (1 + fs.length)⟩ else .no
      | none => .no
    | _ => .no := rfl
  show uLeft (clU dskD n) n [.p d 0] F = _
  rw [e, findH_get _ h.row]
  show findM F.h m _ = _
  rw [findM_get _ h1, lens_mr h2]
  have := h.ok.room
  simp only [show tot D.fs ≤ D.room ∧ D.room < 4611686018427387904 from ⟨this.1, by omega⟩, and_self, if_true, h2.len]
  rfl
theorem keys_mr {F : FAW} : ∀ {es : List (FV × FV)} {fs : List File}, MR F es fs → (∀ g ∈ fs, Nm g.nm) → (nms fs).Nodup → keysOk (toEs es) = true := by
  intro es fs h hn hd
  unfold keysOk
  rw [List.all_eq_true]
  intro i hi
  rw [List.mem_range] at hi
  have hlen : (toEs es).length = fs.length := by simp [toEs, h.len]
  have hi' : i < fs.length := by omega
  have hie : i < es.length := by rw [h.len]; exact hi'
  have hget : ∀ {es : List (FV × FV)} {fs : List File}, MR F es fs → ∀ (i : Nat) (h1 : i < es.length) (h2 : i < fs.length), es[i].1 = .s fs[i].nm := by
    intro es
    induction es with
    | nil => intro fs h i h1; simp at h1
    | cons e es ih =>
      intro fs h i h1 h2
      cases fs with
      | nil => simp at h2
      | cons f fs =>
        obtain ⟨q1, _, q3⟩ := h
        cases i with
        | zero => exact q1
        | succ i => exact ih q3 i (by simpa using h1) (by simpa using h2)
  have e1 : (toEs es)[i]? = some (toV (.s fs[i].nm), toV es[i].2) := by
    simp only [toEs, List.getElem?_map, List.getElem?_eq_getElem hie, Option.map_some]
    rw [hget h i hie hi']
  rw [e1]
  have hidx : ∀ (fs : List File) (i : Nat) (h : i < fs.length), (nms fs).Nodup → idx fs fs[i].nm = some i := by
    intro fs
    induction fs with
    | nil => intro i h; simp at h
    | cons f fs ih =>
      intro i h hd
      have hd' : f.nm ∉ nms fs ∧ (nms fs).Nodup := by simpa [nms] using hd
      cases i with
      | zero => simp [idx]
      | succ i =>
        have hi : i < fs.length := by simpa using h
        have hne : f.nm ≠ fs[i].nm := fun q => hd'.1 (by rw [q]; exact List.mem_map.mpr ⟨_, List.getElem_mem hi, rfl⟩)
        simp only [List.getElem_cons_succ, idx, if_neg hne, ih i hi hd'.2, Option.map_some]
  have key := mf_mr (F := F) (k := fs[i].nm) (hn _ (List.getElem_mem hi')) h hn hd (fun o => if o = some i then .ok .np F else .no)
  rw [hidx fs i hi' hd, if_pos rfl] at key
  obtain ⟨o, q1, q2⟩ := mfU_inv key
  split at q2
  · rename_i q
    subst q
    exact decide_eq_true q1
  · cases q2
-- Power
def pwF (f : File) : File := { f with la := f.b.length }
def Dk.power (D : Dk) : Dk := { D with fs := D.fs.map pwF, dead := false }
theorem nms_map {g : File → File} (hg : ∀ f, (g f).nm = f.nm) (fs : List File) : nms (fs.map g) = nms fs := by
  unfold nms
  rw [List.map_map]
  exact List.map_congr_left fun f _ => hg f
theorem tot_map_le {g : File → File} : ∀ {fs : List File}, (∀ f ∈ fs, (g f).b.length ≤ f.b.length) → tot (fs.map g) ≤ tot fs
  | [], _ => Nat.le_refl _
  | f :: fs, h => by
    have h1 := h f (by simp)
    have h2 := tot_map_le (fs := fs) (g := g) fun x hx => h x (by simp [hx])
    simp only [List.map_cons, tot]
    omega
theorem Dk.Ok.power {D : Dk} (h : D.Ok) : D.power.Ok := by
  refine ⟨fun f hf => ?_, by show (nms (D.fs.map pwF)).Nodup; rw [nms_map (g := pwF) (fun _ => rfl)]; exact h.nd, fun f hf => ?_, ⟨?_, h.room.2⟩, h.at_, h.ati⟩
  · obtain ⟨g, hg, rfl⟩ := List.mem_map.mp hf
    exact h.nm g hg
  · obtain ⟨g, hg, rfl⟩ := List.mem_map.mp hf
    exact Nat.le_refl _
  · exact Nat.le_trans (tot_map_le (fs := D.fs) (g := pwF) fun f hf => Nat.le_refl _) h.room.1
theorem MR.map {F : FAW} {u : FV → FV} {g : File → File} : ∀ {es : List (FV × FV)} {fs : List File}, MR F es fs → (∀ f ∈ fs, ∀ v, By F v f.b → ∃ v', u (.a [v, .n f.la]) = .a [v', .n (g f).la] ∧ By F v' (g f).b) → (∀ f, (g f).nm = f.nm) → MR F (es.map fun p => (p.1, u p.2)) (fs.map g)
  | [], [], _, _, _ => trivial
  | e :: es, f :: fs, ⟨h1, ⟨v, h2, h3⟩, h4⟩, hu, hg => by
    obtain ⟨v', q1, q2⟩ := hu f (by simp) v h3
    exact ⟨by show e.1 = _; rw [hg]; exact h1, ⟨v', by show u e.2 = _; rw [h2]; exact q1, q2⟩, MR.map h4 (fun x hx => hu x (by simp [hx])) hg⟩
theorem power_okD (N : Nat) (hN : 1 ≤ N) {F : FAW} (hw : Wf F) {d m : Nat} {D : Dk} (h : DK F d m D) : ∃ F', clU dskD N 19 [.p d 0] F = .ok (.u []) F' ∧ DK F' d m D.power ∧ Sg F F' (· = d) No (· = m) ∧ Wf F' := by
  obtain ⟨n, rfl⟩ : ∃ n, N = n + 1 := ⟨N - 1, by omega⟩
  obtain ⟨es, h1, h2⟩ := h.ent
  have hk := keys_mr h2 h.ok.nm h.ok.nd
  have hm : MR F (es.map fun p => (p.1, lastsU p.2)) (D.fs.map pwF) := h2.map (fun f hf v hv => ⟨v, by rcases hv.cases with ⟨rfl, q⟩ | ⟨i, o, c, rfl⟩
                                                                                                       · show FV.a [.nl, .n 0] = .a [.nl, .n f.b.length]; rw [q]; rfl
                                                                                                       · rfl, hv⟩) (fun _ => rfl)
  have s1 : Sg F (F.putM m (es.map fun p => (p.1, lastsU p.2))) (· = d) No (· = m) := Sg.putM rfl
  have k1 : DK (F.putM m (es.map fun p => (p.1, lastsU p.2))) d m { D with fs := D.fs.map pwF } :=
    ⟨by rw [row_putM]; exact h.row, h.fam, ⟨_, by rw [mp_putM, if_pos rfl, h1]; rfl, hm.sg s1 h.not1⟩, ⟨h.ok.power.nm, h.ok.power.nd, h.ok.power.la, h.ok.power.room, h.ok.at_, h.ok.ati⟩⟩
  have k2 := k1.put (D' := D.power) rfl h.ok.power
  refine ⟨((F.putM m (es.map fun p => (p.1, lastsU p.2))).put d (D.power.cells m)).bump (1 + es.length), ?_, k2.sq (Sq.bump _ _), (s1.trans (Sg.put rfl)).trans ((Sq.bump _ _).any _ _ _), ((hw.putM _ _).put _ _).bump _⟩
  rw [cl19]
  have e : uPower (clU dskD n) n [.p d 0] F = findH F.h d fun c el es fm ro => match c with
    | [v0, .m m, v2, v3, v4, v5] => findM F.h m fun fs => match lensU fs with
      | some t => if ro = false ∧ keysOk (toEs fs) = true ∧ isBad (toV v5) = false then
          putMU F m (fs.map fun p => (p.1, lastsU p.2)) fun F1 => putU F1 d fm [v0, .m m, v2, v3, v4, .t false] fun F2 => .ok (.u []) ⟨F2.h, F2.fs, F2.x + (1 + fs.length)⟩ else .no
      | none => .no
    | _ => .no := rfl
  show uPower (clU dskD n) n [.p d 0] F = _
  rw [e, findH_get _ h.row]
  show findM F.h m _ = _
  rw [findM_get _ h1, lens_mr h2]
  have hc : (false = false) ∧ keysOk (toEs es) = true ∧ isBad (toV (.t D.dead)) = false := ⟨rfl, hk, rfl⟩
  show (if (false = false) ∧ keysOk (toEs es) = true ∧ isBad (toV (.t D.dead)) = false then putMU F m (es.map fun p => (p.1, lastsU p.2)) (fun F1 => putU F1 d d [.n D.room, .m m, .t D.armed, iv D.at_, iv D.part, .t false] fun F2 => .ok (.u []) ⟨F2.h, F2.fs, F2.x + (1 + es.length)⟩) else .no) = _
  rw [if_pos hc, putMU_eq _ _ h1, putU_put k1.row k1.fam (by simp)]
  rfl
-- Crash
def crF (part : Int) (f : File) : File := { f with b := f.b.take (cutN f.b.length f.la part) }
def Dk.crash (D : Dk) (part : Int) : Dk := { D with fs := D.fs.map (crF part), armed := false, dead := true }
theorem cutN_in {n l : Nat} (h : l ≤ n) (part : Int) : l ≤ cutN n l part ∧ cutN n l part ≤ n := by
  unfold cutN
  omega
theorem crF_len {f : File} (h : f.la ≤ f.b.length) (part : Int) : (crF part f).b.length = cutN f.b.length f.la part := by
  show (f.b.take _).length = _
  rw [List.length_take]
  have := (cutN_in h part).2
  omega
theorem Dk.Ok.crash {D : Dk} (h : D.Ok) (part : Int) : (D.crash part).Ok := by
  refine ⟨fun f hf => ?_, by show (nms (D.fs.map (crF part))).Nodup; rw [nms_map (g := crF part) (fun _ => rfl)]; exact h.nd, fun f hf => ?_, ⟨?_, h.room.2⟩, fun q => (by cases q), h.ati⟩
  · obtain ⟨g, hg, rfl⟩ := List.mem_map.mp hf
    exact h.nm g hg
  · obtain ⟨g, hg, rfl⟩ := List.mem_map.mp hf
    rw [crF_len (h.la g hg)]
    exact (cutN_in (h.la g hg) part).1
  · exact Nat.le_trans (tot_map_le (fs := D.fs) (g := crF part) fun f hf => by rw [crF_len (h.la f hf)]; exact (cutN_in (h.la f hf) part).2) h.room.1
theorem chk_mr {F : FAW} : ∀ {es : List (FV × FV)} {fs : List File} (k : RU), MR F es fs → (∀ f ∈ fs, f.la ≤ f.b.length ∧ f.b.length < 4611686018427387904) → chkU F es k = k
  | [], [], k, _, _ => rfl
  | e :: es, f :: fs, k, ⟨h1, ⟨v, h2, h3⟩, h4⟩, h => by
    obtain ⟨a, b⟩ := e
    have h2 : b = _ := h2
    subst h2
    obtain ⟨q1, q2⟩ := h f (by simp)
    have ih := chk_mr k h4 (fun x hx => h x (by simp [hx]))
    rcases h3 with ⟨rfl, hb⟩ | ⟨i, o, c, el, m, ro, cells, rfl, p1, p2, p3, p4⟩
    · rw [hb] at q1
      have : f.la = 0 := by simpa using q1
      show (if f.la = 0 then chkU F es k else .no) = k
      rw [if_pos this, ih]
    · show (if f.la ≤ f.b.length ∧ f.b.length ≤ c ∧ f.b.length < 4611686018427387904 then findH F.h i (fun _ _ es' _ _ => if es' = 1 then chkU F es k else .no) else .no) = k
      rw [if_pos ⟨q1, p1, q2⟩, findH_get _ p2, if_pos rfl, ih]
theorem by_take {F : FAW} {i o n c : Nat} {l : List Nat} (h : By F (.l i o l.length c) l) {k : Nat} (hk : k ≤ l.length) : By F (.l i o k c) (l.take k) := by
  rcases h with ⟨h, _⟩ | ⟨i', o', c', el, m, ro, cells, h1, h2, h3, h4, h5⟩
  · cases h
  · injection h1 with e1 e2 e3 e4
    subst e1 e2 e4
    have hl : (l.take k).length = k := by rw [List.length_take]; omega
    refine .inr ⟨i, o, c, el, m, ro, cells, by rw [hl], by omega, h3, ?_, by omega⟩
    rw [hl, List.map_take, ← h4, List.take_take, Nat.min_eq_left hk]
theorem mem_tot : ∀ {fs : List File} {f : File}, f ∈ fs → f.b.length ≤ tot fs
  | g :: fs, f, h => by
    simp only [tot]
    rcases List.mem_cons.mp h with rfl | h
    · omega
    · have := mem_tot h; omega
open Classical in
theorem crash_okD (N : Nat) (hN : 1 ≤ N) {F : FAW} (hw : Wf F) {d m : Nat} {D : Dk} (h : DK F d m D) (part : Int) : ∃ F', clU dskD N 22 [.p d 0, iv part] F = .ok (.u []) F' ∧ DK F' d m (D.crash part) ∧ Sg F F' (· = d) No (· = m) ∧ Wf F' := by
  obtain ⟨n, rfl⟩ : ∃ n, N = n + 1 := ⟨N - 1, by omega⟩
  obtain ⟨es, h1, h2⟩ := h.ent
  have hk := keys_mr h2 h.ok.nm h.ok.nd
  have hm : MR F (es.map fun p => (p.1, cutFU part p.2)) (D.fs.map (crF part)) := h2.map (fun f hf v hv => by
      rcases hv.cases with ⟨rfl, q⟩ | ⟨i, o, c, rfl⟩
      · exact ⟨.nl, rfl, .inl ⟨rfl, by show f.b.take _ = []; rw [q]; simp⟩⟩
      · exact ⟨.l i o (cutN f.b.length f.la part) c, rfl, by_take (n := 0) hv (cutN_in (h.ok.la f hf) part).2⟩) (fun _ => rfl)
  have s1 : Sg F (F.putM m (es.map fun p => (p.1, cutFU part p.2))) (· = d) No (· = m) := Sg.putM rfl
  have oc := h.ok.crash part
  have k1 : DK (F.putM m (es.map fun p => (p.1, cutFU part p.2))) d m { D with fs := D.fs.map (crF part) } :=
    ⟨by rw [row_putM]; exact h.row, h.fam, ⟨_, by rw [mp_putM, if_pos rfl, h1]; rfl, hm.sg s1 h.not1⟩, ⟨oc.nm, oc.nd, oc.la, oc.room, h.ok.at_, h.ok.ati⟩⟩
  have k2 := k1.put (D' := { D with fs := D.fs.map (crF part), dead := true }) rfl ⟨oc.nm, oc.nd, oc.la, oc.room, h.ok.at_, h.ok.ati⟩
  have k3 := k2.put (D' := D.crash part) rfl oc
  refine ⟨((((F.putM m (es.map fun p => (p.1, cutFU part p.2))).put d (Dk.cells { D with fs := D.fs.map (crF part), dead := true } m)).put d ((D.crash part).cells m))).bump (1 + 3 * es.length), ?_, k3.sq (Sq.bump _ _), ((s1.trans (Sg.put rfl)).trans (Sg.put rfl)).trans ((Sq.bump _ _).any _ _ _), (((hw.putM _ _).put _ _).put _ _).bump _⟩
  rw [cl22]
  have hp : toV (iv part) = .int .i64 part := numV_to _ _
  have e : uCrash (clU dskD n) n [.p d 0, iv part] F = match toV (iv part) with
    | .int .i64 part => findH F.h d fun c el es fm ro => match c with
      | [v0, .m m, v2, v3, v4, v5] => findM F.h m fun fs => chkU F fs <| if ro = false ∧ keysOk (toEs fs) = true ∧ isBad (toV v2) = false ∧ isBad (toV v5) = false then
          putMU F m (fs.map fun p => (p.1, cutFU part p.2)) fun F1 => putU F1 d fm [v0, .m m, v2, v3, v4, .t true] fun F2 => putU F2 d fm [v0, .m m, .t false, v3, v4, .t true] fun F3 => .ok (.u []) ⟨F3.h, F3.fs, F3.x + (1 + 3 * fs.length)⟩ else .no
      | _ => .no
    | _ => .no := rfl
  show uCrash (clU dskD n) n [.p d 0, iv part] F = _
  rw [e, hp]
  show findH F.h d _ = _
  rw [findH_get _ h.row]
  show findM F.h m _ = _
  rw [findM_get _ h1, chk_mr _ h2 (fun f hf => ⟨h.ok.la f hf, by have := mem_tot hf; have := h.ok.room; omega⟩)]
  have hc : (false = false) ∧ keysOk (toEs es) = true ∧ isBad (toV (.t D.armed)) = false ∧ isBad (toV (.t D.dead)) = false := ⟨rfl, hk, rfl, rfl⟩
  rw [if_pos hc, putMU_eq _ _ h1, putU_put k1.row k1.fam (by simp)]
  have e3 := fun g => putU_put k2.row k2.fam (d := [.n D.room, .m m, .t false, iv D.at_, iv D.part, .t true]) (by simp) g
  refine (e3 _).trans ?_
  rfl
-- Names
def u8s (l : List Nat) : List UInt8 := l.map UInt8.ofNat
def srt (l : List (List Nat)) : List (List Nat) := (sortB (l.map u8s)).map fun k => k.map UInt8.toNat
theorem keysB_mr {F : FAW} : ∀ {es : List (FV × FV)} {fs : List File}, MR F es fs → (∀ g ∈ fs, Nm g.nm) → keysB (toEs es) = some ((nms fs).map u8s)
  | [], [], _, _ => rfl
  | e :: es, f :: fs, ⟨h1, _, h3⟩, hn => by
    obtain ⟨a, b⟩ := e
    have h1 : a = .s f.nm := h1
    subst h1
    have ih := keysB_mr h3 (fun g hg => hn g (by simp [hg]))
    have hl := (hn f (by simp)).2
    have e1 : toEs ((.s f.nm, b) :: es) = (.string ⟨⟨f.nm.map UInt8.ofNat⟩⟩, toV b) :: toEs es := by simp [toEs, toV]
    rw [e1]
    simp only [keysB]
    rw [if_pos (by show (f.nm.map UInt8.ofNat).length ≤ maxLen; rw [List.length_map]; exact Nat.le_trans hl (by decide)), ih]
    rfl
theorem u8s_inj {a b : List Nat} (ha : Bs a) (hb : Bs b) (h : u8s a = u8s b) : a = b := by
  have key : ∀ {l : List Nat}, Bs l → (u8s l).map UInt8.toNat = l := fun {l} hl => by
    unfold u8s
    rw [List.map_map]
    conv => rhs; rw [← List.map_id l]
    refine List.map_congr_left fun x hx => ?_
    have := hl x hx
    simp only [Function.comp, id]
    exact UInt8.toNat_ofNat_of_lt' this
  rw [← key ha, ← key hb, h]
theorem names_okD (N : Nat) (hN : 1 ≤ N) {F : FAW} (hw : Wf F) {d m : Nat} {D : Dk} (h : DK F d m D) (hl : D.fs.length ≤ 1000) : ∃ v F', clU dskD N 24 [.p d 0] F = .ok v F' ∧ Sl F' v ((srt (nms D.fs)).map FV.s) ∧ Sq F F' ∧ Wf F' := by
  obtain ⟨n, rfl⟩ : ∃ n, N = n + 1 := ⟨N - 1, by omega⟩
  obtain ⟨es, h1, h2⟩ := h.ent
  have hnd : ((nms D.fs).map u8s).Nodup := by
    have key : ∀ (l : List (List Nat)), (∀ k ∈ l, Bs k) → l.Nodup → (l.map u8s).Nodup := by
      intro l
      induction l with
      | nil => intro _ _; simp
      | cons a l ih =>
        intro hb hd
        have hd := List.nodup_cons.mp hd
        rw [List.map_cons, List.nodup_cons]
        refine ⟨fun q => ?_, ih (fun k hk => hb k (by simp [hk])) hd.2⟩
        obtain ⟨k, hk, e⟩ := List.mem_map.mp q
        have := u8s_inj (hb k (by simp [hk])) (hb a (by simp)) e
        subst this
        exact hd.1 hk
    refine key _ (fun k hk => ?_) h.ok.nd
    obtain ⟨f, hf, rfl⟩ := List.mem_map.mp hk
    exact (h.ok.nm f hf).1
  have e : uNames (clU dskD n) n [.p d 0] F = findH F.h d fun c el es fm ro => match c with
    | [_, .m m, _, _, _, _] => findM F.h m fun fs => match keysB (toEs fs) with
      | some ks => if ks.Nodup ∧ fs.length ≤ 1000 then newU [.m m] 76 1 F fun _ F1 => if ks = [] then .ok .nl F1 else newU ((sortB ks).map keyU) 9 1 F1 fun j F2 => .ok (.l j 0 ks.length ks.length) F2 else .no
      | none => .no
    | _ => .no := rfl
  have e2 : uNames (clU dskD n) n [.p d 0] F = if (nms D.fs).map u8s = [] then .ok .nl (F.new [.m m] 76 1) else .ok (.l (F.x + 1) 0 ((nms D.fs).map u8s).length ((nms D.fs).map u8s).length) ((F.new [.m m] 76 1).new ((sortB ((nms D.fs).map u8s)).map keyU) 9 1) := by
    rw [e, findH_get _ h.row]
    show findM F.h m _ = _
    rw [findM_get _ h1, keysB_mr h2 h.ok.nm]
    show (if ((nms D.fs).map u8s).Nodup ∧ es.length ≤ 1000 then _ else _) = _
    rw [if_pos ⟨hnd, by rw [h2.len]; exact hl⟩, newU_new]
    split
    · rfl
    · rw [newU_new]; rfl
  have hks : ((srt (nms D.fs)).map FV.s) = (sortB ((nms D.fs).map u8s)).map keyU := by
    unfold srt
    rw [List.map_map]; rfl
  have hsl : (sortB ((nms D.fs).map u8s)).length = ((nms D.fs).map u8s).length := (List.mergeSort_perm _ _).length_eq
  by_cases q : (nms D.fs).map u8s = []
  · refine ⟨.nl, F.new [.m m] 76 1, ?_, .inl ⟨rfl, ?_⟩, Sq.new hw _ _ _, hw.new _ _ _⟩
    · rw [cl24]
      show uNames (clU dskD n) n [.p d 0] F = _
      rw [e2, if_pos q]
    · rw [hks, q]; simp [sortB]
  · refine ⟨.l (F.x + 1) 0 ((nms D.fs).map u8s).length ((nms D.fs).map u8s).length, (F.new [.m m] 76 1).new ((sortB ((nms D.fs).map u8s)).map keyU) 9 1, ?_, .inr ⟨F.x + 1, 0, ((nms D.fs).map u8s).length, 9, F.x + 1, false, (sortB ((nms D.fs).map u8s)).map keyU, ?_, ?_, ?_, ?_⟩, (Sq.new hw _ _ _).trans (Sq.new (hw.new _ _ _) _ _ _), (hw.new _ _ _).new _ _ _⟩
    · rw [cl24]
      show uNames (clU dskD n) n [.p d 0] F = _
      rw [e2, if_neg q]
    · have hl2 : ((srt (nms D.fs)).map FV.s).length = ((nms D.fs).map u8s).length := by rw [hks]; exact (List.length_map _).trans hsl
      rw [hl2]
    · rw [row_new, if_pos (show F.x + 1 = (F.new [.m m] 76 1).x from rfl)]; rfl
    · rw [hks, List.drop_zero, List.take_length]
    · rw [hks]; simp
end Go.Proofs.Ythclmjelknibhaa.Ev
/- What is done to a disk in memory: the steps. -/
namespace Go.Proofs.Ythclmjelknibhaa.Ev
open Go Go.RowKit
set_option linter.unusedVariables false
set_option linter.constructorNameAsVariable false
set_option linter.unusedSimpArgs false
set_option linter.unusedSectionVars false

theorem veqU_file {F : FAW} {v : FV} {b : List Nat} (h : By F v b ∨ v = .nl) (la : Nat) (r : RU) : veqU (.a [v, .n la]) (.a [v, .n la]) r = r := by
  have e : veqU (.a [v, .n la]) (.a [v, .n la]) r = cn (veq (toV (.a [v, .n la])) (toV (.a [v, .n la]))) r .no := rfl
  have h' : v = .nl ∨ ∃ i o n c, v = .l i o n c := by
    rcases h with h | h
    · rcases h.cases with ⟨h, _⟩ | ⟨i, o, c, h⟩
      · exact .inl h
      · exact .inr ⟨_, _, _, _, h⟩
    · exact .inl h
  have : veq (toV (.a [v, .n la])) (toV (.a [v, .n la])) = true := by
    rcases h' with rfl | ⟨i, o, n, c, rfl⟩ <;> simp [toV, toVs, veq, veqs, veq1, aeq]
  rw [e, this, cn_true]
theorem veqU_m (i : Nat) (r : RU) : veqU (.m i) (.m i) r = r := by
  show cn (veq (toV (.m i)) (toV (.m i))) r .no = r
  have : veq (toV (.m i)) (toV (.m i)) = true := by simp [toV, veq, veq1]
  rw [this, cn_true]
theorem veqU_by {F : FAW} {v : FV} {l : List Nat} (h : By F v l) (r : RU) : veqU v v r = r := by
  rcases h.cases with ⟨rfl, _⟩ | ⟨i, o, c, rfl⟩
  · exact veqU_nl r
  · exact veqU_l _ _ _ _ r
theorem lit2_by {F : FAW} {v w : FV} {a b : List Nat} (hv : By F v a) (hw : By F w b) (G : FAW) (f : KU) : uLitF 28 1 [.nl] 2 [(0, 1, v), (1, 1, w)] G f = f (.l G.x 0 2 2) (G.new [v, w] 28 1) := by
  have e : uLitF 28 1 [.nl] 2 [(0, 1, v), (1, 1, w)] G f = newU [v, w] 28 1 G fun i F' => f (.l i 0 2 2) F' := by
    rcases hv.cases with ⟨rfl, _⟩ | ⟨i, o, c, rfl⟩ <;> rcases hw.cases with ⟨rfl, _⟩ | ⟨i, o, c, rfl⟩ <;> rfl
  rw [e, newU_new]
theorem build_file {F : FAW} {v : FV} {a : List Nat} (hv : By F v a) (la : Nat) (G : FAW) (f : KU) : uBuildF [.nl, .n 0] [(0, 1, v), (1, 1, .n la)] G f = f (.a [v, .n la]) G := by
  rcases hv.cases with ⟨rfl, _⟩ | ⟨i, o, c, rfl⟩ <;> rfl
theorem uLd_file {F : FAW} {i : Nat} {v : FV} {la : Nat} {e s m ro} (f : KU) (hr : F.row i = some ([v, .n la], e, s, m, ro)) (hv : Fi v) : uLd (some 2) (.p i 0) F f = f (.a [v, .n la]) F :=
  uLd_agg f hr (by simp) (fun w hw => by simp at hw; rcases hw with rfl | rfl; exact hv; exact Fi.n _)
-- entries told anew
theorem DK.mup {F : FAW} (hw : Wf F) {d m : Nat} {D : Dk} (h : DK F d m D) {g : File} {v : FV} (hk : Nm g.nm) (hv : By F v g.b) (hla : g.la ≤ g.b.length) (hr : tot (fput D.fs g) ≤ D.room) :
    ∃ F', (∀ f : KU, uMup (.one .str) (.m m) (.s g.nm) (.a [v, .n g.la]) F f = f (.u []) F') ∧ DK F' d m { D with fs := fput D.fs g } ∧ Sg F F' (· = d) No (· = m) ∧ Wf F' := by
  obtain ⟨es, h1, h2⟩ := h.ent
  have hok : Dk.Ok { D with fs := fput D.fs g } := ⟨fun f hf => by rcases mem_put hf with rfl | hf; exact hk; exact h.ok.nm f hf, nms_put_nodup g h.ok.nd, fun f hf => by rcases mem_put hf with rfl | hf; exact hla; exact h.ok.la f hf, ⟨hr, h.ok.room.2⟩, h.ok.at_, h.ok.ati⟩
  have e0 : ∀ f : KU, uMup (.one .str) (.m m) (.s g.nm) (.a [v, .n g.la]) F f = findM F.h m fun es => mfU (.one .str) (.s g.nm) es fun o => Option.rec (motive := fun _ => RU) (catU es [(.s g.nm, .a [v, .n g.la])] fun es => putMU F m es fun F' => f (.u []) F') (fun j => setU es (.s g.nm, .a [v, .n g.la]) j fun es => putMU F m es fun F' => f (.u []) F') o := fun _ => rfl
  have fin : ∀ es', MR F es' (fput D.fs g) → DK (F.putM m es') d m { D with fs := fput D.fs g } := fun es' hm =>
    ⟨by rw [row_putM]; exact h.row, h.fam, ⟨es', by rw [mp_putM, if_pos rfl, h1]; rfl, hm.sg (A := fun j => j = d) (B := No) (M := fun j => j = m) (Sg.putM rfl) h.not1⟩, hok⟩
  cases e : idx D.fs g.nm with
  | none =>
    refine ⟨F.putM m (es ++ [(.s g.nm, .a [v, .n g.la])]), fun f => ?_, fin _ (h2.put_new hv e), Sg.putM rfl, hw.putM _ _⟩
    rw [e0, findM_get _ h1, mf_mr hk h2 h.ok.nm h.ok.nd, e]
    show catU es _ _ = _
    rw [catU_eq, putMU_eq _ _ h1]
  | some j =>
    refine ⟨F.putM m (es.set j (.s g.nm, .a [v, .n g.la])), fun f => ?_, fin _ (h2.put_old hv e), Sg.putM rfl, hw.putM _ _⟩
    rw [e0, findM_get _ h1, mf_mr hk h2 h.ok.nm h.ok.nd, e]
    show setU es _ j _ = _
    rw [setU_eq, putMU_eq _ _ h1]
theorem tot_del_le (fs : List File) (k : List Nat) : tot (fdel fs k) ≤ tot fs := by
  have := tot_del fs k; omega
theorem DK.mdel {F : FAW} (hw : Wf F) {d m : Nat} {D : Dk} (h : DK F d m D) {k : List Nat} (hk : Nm k) :
    ∃ F', (∀ f : KU, uMdel (.one .str) (.m m) (.s k) F f = f (.u []) F') ∧ DK F' d m { D with fs := fdel D.fs k } ∧ Sg F F' (· = d) No (· = m) ∧ Wf F' := by
  obtain ⟨es, h1, h2⟩ := h.ent
  have hok : Dk.Ok { D with fs := fdel D.fs k } := ⟨fun f hf => h.ok.nm f ((fdel_sub _ _).subset hf), nms_del_nodup k h.ok.nd, fun f hf => h.ok.la f ((fdel_sub _ _).subset hf), ⟨Nat.le_trans (tot_del_le _ _) h.ok.room.1, h.ok.room.2⟩, h.ok.at_, h.ok.ati⟩
  have e0 : ∀ f : KU, uMdel (.one .str) (.m m) (.s k) F f = findM F.h m fun es => mfU (.one .str) (.s k) es fun o => Option.rec (motive := fun _ => RU) (putMU F m es fun F' => f (.u []) F') (fun j => putMU F m (es.eraseIdx j) fun F' => f (.u []) F') o := fun _ => rfl
  have fin : ∀ es', MR F es' (fdel D.fs k) → DK (F.putM m es') d m { D with fs := fdel D.fs k } := fun es' hm =>
    ⟨by rw [row_putM]; exact h.row, h.fam, ⟨es', by rw [mp_putM, if_pos rfl, h1]; rfl, hm.sg (A := fun j => j = d) (B := No) (M := fun j => j = m) (Sg.putM rfl) h.not1⟩, hok⟩
  cases e : idx D.fs k with
  | none =>
    refine ⟨F.putM m es, fun f => ?_, fin _ (by rw [fdel_none e]; exact h2), Sg.putM rfl, hw.putM _ _⟩
    rw [e0, findM_get _ h1, mf_mr hk h2 h.ok.nm h.ok.nd, e]
    show putMU F m es _ = _
    rw [putMU_eq _ _ h1]
  | some j =>
    refine ⟨F.putM m (es.eraseIdx j), fun f => ?_, fin _ (h2.del e), Sg.putM rfl, hw.putM _ _⟩
    rw [e0, findM_get _ h1, mf_mr hk h2 h.ok.nm h.ok.nd, e]
    show putMU F m _ _ = _
    rw [putMU_eq _ _ h1]
/-- A box that holds a value. -/
def Bx (F : FAW) (i : Nat) (w : FV) : Prop := ∃ e m o, F.row i = some ([w], e, 1, m, o)
theorem Bx.ld {F : FAW} {i : Nat} {w : FV} (h : Bx F i w) (hw : Fi w) (f : KU) : uLd none (.p i 0) F f = f w F := by
  obtain ⟨e, m, o, h⟩ := h
  exact uLd_row f h rfl hw
theorem Bx.sg {F F' : FAW} {i : Nat} {w : FV} (h : Bx F i w) {A B M : Nat → Prop} (hs : Sg F F' A B M) (hA : ∀ i r e m o, F.row i = some (r, e, 1, m, o) → ¬ A i) : Bx F' i w := by
  obtain ⟨e, m, o, h⟩ := h
  exact ⟨e, m, o, hs.row _ _ (hA _ _ _ _ _ h) h⟩
theorem Bx.sq {F F' : FAW} {i : Nat} {w : FV} (h : Bx F i w) (hs : Sq F F') : Bx F' i w := h.sg hs (fun _ _ _ _ _ _ q => q)
theorem Bx.new (F : FAW) (w : FV) (el : Nat) : Bx (F.new [w] el 1) F.x w := ⟨el, F.x, false, by rw [row_new, if_pos rfl]⟩
/-- The file of a name: copied into a row of its own. -/
theorem cp_file {F : FAW} (hw : Wf F) {v : FV} {la : Nat} (hv : Fi v) : ∃ F', (∀ f : KU, (uNewF 81 2 [.nl, .n 0] F fun v6 S => f v6 S) = f (.p F.x 0) (F.new [.nl, .n 0] 81 2)) ∧ (∀ f : KU, uSt 2 (.p F.x 0) (.a [v, .n la]) (F.new [.nl, .n 0] 81 2) f = f (.u []) F') ∧ F'.row F.x = some ([v, .n la], 81, 2, F.x, false) ∧ Sq F F' ∧ Wf F' := by
  have r1 : (F.new [.nl, .n 0] 81 2).row F.x = some ([.nl, .n 0], 81, 2, F.x, false) := by rw [row_new, if_pos rfl]
  have f1 : (F.new [.nl, .n 0] 81 2).fam F.x = some (false, 2) := by rw [fam_new, if_pos rfl]; rfl
  have st := fun f : KU => uSt_agg (vs := [v, .n la]) f r1 f1 (Nat.le_refl 2) rfl (fun a ha => by simp at ha; rcases ha with rfl | rfl; exact Fi.nl; exact Fi.n _) (fun a ha => by simp at ha; rcases ha with rfl | rfl; exact hv; exact Fi.n _)
  exact ⟨(F.new [.nl, .n 0] 81 2).put F.x [v, .n la], fun f => by show newU _ _ _ F _ = _; rw [newU_new], st, by rw [row_put, if_pos rfl, r1]; rfl,
    Sg.fresh hw (Sg.refl _ _ _ _) ((Sq.new hw _ _ _ |>.any (· = F.x) No No).trans (Sg.put rfl)) (fun j hj q => by omega) (fun j hj q => q) (fun j hj q => q), (hw.new _ _ _).put _ _⟩
theorem outU_f (w : FV) (b : Bool) (F : FAW) (f : KU) : outU false w b F f = f w F := rfl
theorem DK.lm {F : FAW} {d m : Nat} {D : Dk} (h : DK F d m D) (f : KU) : uLd none (.p d 1) F f = f (.m m) F := uLd_row f h.row rfl (Fi.m _)
/-- What stands of a name: its bytes, and how many last. -/
def Dk.of (D : Dk) (k : List Nat) : List Nat × Nat := match fget D.fs k with | some f => (f.b, f.la) | none => ([], 0)
theorem DK.mlk' {F : FAW} {d m : Nat} {D : Dk} (h : DK F d m D) {k : List Nat} (hk : Nm k) : ∃ v, By F v (D.of k).1 ∧ (D.of k).2 ≤ (D.of k).1.length ∧ ∀ (ok : Bool) (f : KU), uMlkF (.one .str) (.a [.nl, .n 0]) ok (.m m) (.s k) F f = outU ok (.a [v, .n (D.of k).2]) (decide (k ∈ nms D.fs)) F f := by
  obtain ⟨v, la, h1, h2⟩ := h.mlk hk
  unfold Dk.of
  cases q : fget D.fs k with
  | none => rw [q] at h1; obtain ⟨rfl, rfl⟩ := h1; exact ⟨.nl, .inl ⟨rfl, rfl⟩, Nat.le_refl _, h2⟩
  | some f => rw [q] at h1; obtain ⟨rfl, k1, k2, _⟩ := h1; exact ⟨v, k1, k2, h2⟩
def Dk.put (D : Dk) (g : File) : Dk := { D with fs := fput D.fs g }
def Dk.app (D : Dk) (k b : List Nat) : Dk := D.put ⟨k, (D.of k).1 ++ b, (D.of k).2⟩
theorem tot_put_app (D : Dk) (k b : List Nat) : tot (fput D.fs ⟨k, (D.of k).1 ++ b, (D.of k).2⟩) = tot D.fs + b.length := by
  rw [tot_put]
  have key : ((fget D.fs k).map fun f => f.b.length).getD 0 = (D.of k).1.length := by
    unfold Dk.of
    cases fget D.fs k <;> rfl
  show tot D.fs + ((D.of k).1 ++ b).length - ((fget D.fs k).map fun f => f.b.length).getD 0 = _
  rw [key, List.length_append]
  omega
theorem of_len (D : Dk) (k : List Nat) : (D.of k).1.length ≤ tot D.fs := by
  have key : ∀ fs : List File, ∀ f, fget fs k = some f → f.b.length ≤ tot fs := by
    intro fs
    induction fs with
    | nil => intro f h; cases h
    | cons a fs ih =>
      intro f h
      simp only [fget] at h
      simp only [tot]
      split at h
      · simp only [Option.some.injEq] at h; subst h; omega
      · have := ih f h; omega
  unfold Dk.of
  cases e : fget D.fs k with
  | none => exact Nat.zero_le _
  | some f => exact key _ f e
-- Append's deed
theorem app_deed (N : Nat) (hN : 6 ≤ N) {F : FAW} (hw : Wf F) {d m : Nat} {D : Dk} (h : DK F d m D) {k b : List Nat} (hk : Nm k) {vb : FV} (hb : By F vb b) (hr : tot D.fs + b.length ≤ D.room) {i j l : Nat} (hi : Bx F i (.p d 0)) (hj : Bx F j (.s k)) (hl : Bx F l vb) :
    ∃ F', clU dskD N 50 [.p i 0, .p j 0, .p l 0] F = .ok (.u []) F' ∧ DK F' d m (D.app k b) ∧ Sg F F' (· = d) No (· = m) ∧ Wf F' := by
  obtain ⟨n, rfl⟩ : ∃ n, N = n + 1 := ⟨N - 1, by omega⟩
  obtain ⟨v, hv, hla, hlk⟩ := h.mlk' hk
  obtain ⟨F1, c1, c2, c3, c4, c5⟩ := cp_file hw (la := (D.of k).2) hv.fi
  have c1' : ∀ f : KU, uNewF 81 2 [.nl, .n 0] F f = f (.p F.x 0) (F.new [.nl, .n 0] 81 2) := c1
  have sn : Sq F (F.new [.nl, .n 0] 81 2) := Sq.new hw _ _ _
  have hn := h.sq sn
  obtain ⟨v', hv', _, hlk'⟩ := hn.mlk' hk
  have hb1 := hb.sq c4
  have hv1 := hv.sq c4
  have wf2 := c5.new [v, vb] 28 1
  have s2 : Sq F1 (F1.new [v, vb] 28 1) := Sq.new c5 _ _ _
  have hro := h.ok.room
  have hol := of_len D k
  obtain ⟨v3, F3, k1, k2, k3, k4⟩ := concat_ok n (by omega) wf2 (i := F1.x) (fm := F1.x) (ro := false) (v := v) (w := vb) (by rw [row_new, if_pos rfl]) (hv1.sq s2) (hb1.sq s2) (by omega)
  have s03 : Sq F F3 := (c4.trans s2).trans k3
  have h3 := h.sq s03
  obtain ⟨F4, m1, m2, m3, m4⟩ := h3.mup k4 (g := ⟨k, (D.of k).1 ++ b, (D.of k).2⟩) (v := v3) hk k2 (by simp only [List.length_append]; omega) (by rw [tot_put_app]; exact hr)
  refine ⟨F4, ?_, m2, (s03.any _ _ _).trans m3, m4⟩
  rw [cl50, u50_in]
  have vv : v' = v := by
    obtain ⟨es, e1, e2⟩ := h.ent
    have a1 := hlk false (fun w F => .ok w F)
    have a2 := hlk' false (fun w F => .ok w F)
    have e0 : ∀ (F : FAW) (f : KU), uMlkF (.one .str) (.a [.nl, .n 0]) false (.m m) (.s k) F f = findM F.h m fun es => mfU (.one .str) (.s k) es fun o => Option.rec (motive := fun _ => RU) (outU false (.a [.nl, .n 0]) false F f) (fun j => nthU es j fun p => outU false p.2 true F f) o := fun _ _ => rfl
    rw [e0, findM_get _ e1, mf_mr hk e2 h.ok.nm h.ok.nd] at a1
    rw [e0, findM_get _ (show (F.new [.nl, .n 0] 81 2).mp m = some es from e1), mf_mr (F := F) hk e2 h.ok.nm h.ok.nd] at a2
    cases q : idx D.fs k with
    | none =>
      rw [q] at a1 a2
      have a1 : RU.ok (.a [.nl, .n 0]) F = .ok (.a [v, .n (D.of k).2]) F := a1
      have a2 : RU.ok (.a [.nl, .n 0]) (F.new [.nl, .n 0] 81 2) = .ok (.a [v', .n (D.of k).2]) (F.new [.nl, .n 0] 81 2) := a2
      injection a1 with a1 _; injection a2 with a2 _
      injection a1 with a1; injection a2 with a2
      injection a1 with a1 _; injection a2 with a2 _
      rw [← a1, ← a2]
    | some j =>
      rw [q] at a1 a2
      obtain ⟨p, _, w, q1, _⟩ := e2.get q
      have a1 : (nthU es j fun p => outU false p.2 true F fun w F => .ok w F) = .ok (.a [v, .n (D.of k).2]) F := a1
      have a2 : (nthU es j fun p => outU false p.2 true (F.new [.nl, .n 0] 81 2) fun w F => .ok w F) = .ok (.a [v', .n (D.of k).2]) (F.new [.nl, .n 0] 81 2) := a2
      rw [nthU_some _ q1, outU_f] at a1 a2
      injection a1 with a1 _; injection a2 with a2 _
      have := a1.symm.trans a2
      injection this with a1
      injection a1 with a1 _
      exact a1.symm
  subst vv
  have e1 := fun f : KU => uLd_row (k := 0) f c3 rfl hv.fi
  have e2 := fun f : KU => uLd_row (k := 1) f c3 rfl (Fi.n _)
  have r2 := s2.row _ _ (fun q => q) c3
  have e3 := fun f : KU => uLd_row (k := 1) f r2 rfl (Fi.n _)
  have e4 := fun f : KU => uLd_row (k := 0) f r2 rfl hv.fi
  have r3 := k3.row _ _ (fun q => q) r2
  have e5 := fun f : KU => uLd_row (k := 1) f r3 rfl (Fi.n _)
  have i1 := hi.sq sn; have j1 := hj.sq sn
  have i2 := hi.sq c4; have j2 := hj.sq c4; have l2 := hl.sq c4
  have i3 := i2.sq s2; have j3 := j2.sq s2; have l3 := l2.sq s2
  have i4 := hi.sq s03; have j4 := hj.sq s03
  have h1 := h.sq c4; have h2 := h1.sq s2
  simp -implicitDefEqProofs only [↓SS, Nat.zero_add, Nat.add_zero, Bool.not_true, Bool.not_false, ↓u50b, ↓u50_0, ↓u50_1, ↓m4_mk, ↓k4_mk, ↓u50r_mk, ↓hi.ld (Fi.p _ _), ↓hj.ld (Fi.s _), ↓h.lm, ↓hlk, ↓hlk', ↓outU_f, ↓c1', ↓veqU_file (.inl hv), ↓i1.ld (Fi.p _ _), ↓j1.ld (Fi.s _), ↓veqU_s, ↓veqU_m, ↓veqU_p, ↓veqU_n, ↓hn.lm, ↓c2, ↓i2.ld (Fi.p _ _), ↓j2.ld (Fi.s _), ↓l2.ld hb.fi, ↓h1.lm, ↓e1, ↓e2, ↓lit2_by hv hb, ↓e3, ↓l3.ld hb.fi, ↓veqU_by hb, ↓e4, ↓veqU_by hv, ↓i3.ld (Fi.p _ _), ↓j3.ld (Fi.s _), ↓h2.lm, ↓k1, ↓build_file k2, ↓e5, ↓i4.ld (Fi.p _ _), ↓j4.ld (Fi.s _), ↓h3.lm, ↓m1]
end Go.Proofs.Ythclmjelknibhaa.Ev
/- What is done to a disk in memory: the deeds, and what is cut. -/
namespace Go.Proofs.Ythclmjelknibhaa.Ev
open Go Go.RowKit
set_option linter.unusedVariables false
set_option linter.constructorNameAsVariable false
set_option linter.unusedSimpArgs false
set_option linter.unusedSectionVars false

theorem mlk_same {F G : FAW} {d m : Nat} {D : Dk} (h : DK F d m D) {k : List Nat} (hk : Nm k) (hG : G.mp m = F.mp m) : ∃ v, By F v (D.of k).1 ∧ (∀ f : KU, uMlkF (.one .str) (.a [.nl, .n 0]) false (.m m) (.s k) F f = f (.a [v, .n (D.of k).2]) F) ∧ (∀ f : KU, uMlkF (.one .str) (.a [.nl, .n 0]) false (.m m) (.s k) G f = f (.a [v, .n (D.of k).2]) G) := by
  obtain ⟨es, h1, h2⟩ := h.ent
  have e0 : ∀ (F : FAW) (f : KU), uMlkF (.one .str) (.a [.nl, .n 0]) false (.m m) (.s k) F f = findM F.h m fun es => mfU (.one .str) (.s k) es fun o => Option.rec (motive := fun _ => RU) (outU false (.a [.nl, .n 0]) false F f) (fun j => nthU es j fun p => outU false p.2 true F f) o := fun _ _ => rfl
  have hg : G.mp m = some es := by rw [hG]; exact h1
  cases q : idx D.fs k with
  | none =>
    have ho : D.of k = ([], 0) := by unfold Dk.of; rw [fget_none.mpr (idx_none.mp q)]
    refine ⟨.nl, .inl ⟨rfl, by rw [ho]⟩, fun f => ?_, fun f => ?_⟩
    · rw [e0, findM_get _ h1, mf_mr hk h2 h.ok.nm h.ok.nd, q, ho]; rfl
    · rw [e0, findM_get _ hg, mf_mr hk h2 h.ok.nm h.ok.nd, q, ho]; rfl
  | some j =>
    obtain ⟨p, f0, v, q1, q2, q3, q4, _⟩ := h2.get q
    have ho : D.of k = (f0.b, f0.la) := by unfold Dk.of; rw [q2]
    refine ⟨v, by rw [ho]; exact q4, fun f => ?_, fun f => ?_⟩
    · rw [e0, findM_get _ h1, mf_mr hk h2 h.ok.nm h.ok.nd, q, ho]
      show nthU es j _ = _
      rw [nthU_some _ q1, q3]; rfl
    · rw [e0, findM_get _ hg, mf_mr hk h2 h.ok.nm h.ok.nd, q, ho]
      show nthU es j _ = _
      rw [nthU_some _ q1, q3]; rfl
theorem of_la {D : Dk} (h : D.Ok) (k : List Nat) : (D.of k).2 ≤ (D.of k).1.length := by
  unfold Dk.of
  cases e : fget D.fs k with
  | none => exact Nat.le_refl _
  | some f =>
    have key : ∀ fs : List File, fget fs k = some f → f ∈ fs := by
      intro fs
      induction fs with
      | nil => intro h; cases h
      | cons a fs ih =>
        intro h
        simp only [fget] at h
        split at h
        · simp only [Option.some.injEq] at h; subst h; simp
        · simp [ih h]
    exact h.la f (key _ e)
theorem tot_put_of (D : Dk) (k b : List Nat) (la : Nat) : tot (fput D.fs ⟨k, b, la⟩) = tot D.fs + b.length - (D.of k).1.length := by
  rw [tot_put]
  have key : ((fget D.fs k).map fun f => f.b.length).getD 0 = (D.of k).1.length := by
    unfold Dk.of
    cases fget D.fs k <;> rfl
  show tot D.fs + b.length - ((fget D.fs k).map fun f => f.b.length).getD 0 = _
  rw [key]
-- Sync's deed
def Dk.syn (D : Dk) (k : List Nat) : Dk := D.put ⟨k, (D.of k).1, (D.of k).1.length⟩
theorem syn_deed (N : Nat) (hN : 1 ≤ N) {F : FAW} (hw : Wf F) {d m : Nat} {D : Dk} (h : DK F d m D) {k : List Nat} (hk : Nm k) {i j : Nat} (hi : Bx F i (.p d 0)) (hj : Bx F j (.s k)) :
    ∃ F', clU dskD N 54 [.p i 0, .p j 0] F = .ok (.u []) F' ∧ DK F' d m (D.syn k) ∧ Sg F F' (· = d) No (· = m) ∧ Wf F' := by
  obtain ⟨n, rfl⟩ : ∃ n, N = n + 1 := ⟨N - 1, by omega⟩
  have sn : Sq F (F.new [.nl, .n 0] 81 2) := Sq.new hw _ _ _
  obtain ⟨v, hv, hlk, hlk'⟩ := mlk_same (G := F.new [.nl, .n 0] 81 2) h hk rfl
  obtain ⟨F1, c1, c2, c3, c4, c5⟩ := cp_file hw (la := (D.of k).2) hv.fi
  have c1' : ∀ f : KU, uNewF 81 2 [.nl, .n 0] F f = f (.p F.x 0) (F.new [.nl, .n 0] 81 2) := c1
  have hn := h.sq sn
  have h1 := h.sq c4
  have hol := of_len D k
  have hv1 := hv.sq c4
  obtain ⟨F4, m1, m2, m3, m4⟩ := h1.mup c5 (g := ⟨k, (D.of k).1, (D.of k).1.length⟩) (v := v) hk hv1 (Nat.le_refl _) (by rw [tot_put_of]; have := h.ok.room; omega)
  refine ⟨F4, ?_, m2, (c4.any _ _ _).trans m3, m4⟩
  rw [cl54, u54_in]
  have e1 := fun f : KU => uLd_row (k := 0) f c3 rfl hv.fi
  have i1 := hi.sq sn; have j1 := hj.sq sn
  have i2 := hi.sq c4; have j2 := hj.sq c4
  simp -implicitDefEqProofs only [↓SS, Nat.zero_add, Nat.add_zero, Bool.not_true, Bool.not_false, ↓u54b, ↓u54_0, ↓u54_1, ↓m3_mk, ↓k3_mk, ↓u54r_mk, ↓hi.ld (Fi.p _ _), ↓hj.ld (Fi.s _), ↓h.lm, ↓hlk, ↓hlk', ↓c1', ↓veqU_file (.inl hv), ↓i1.ld (Fi.p _ _), ↓j1.ld (Fi.s _), ↓veqU_s, ↓veqU_m, ↓veqU_p, ↓hn.lm, ↓c2, ↓i2.ld (Fi.p _ _), ↓h1.g1, ↓j2.ld (Fi.s _), ↓e1, ↓hv.len, ↓build_file hv, ↓m1]
-- Rename's deed
def Dk.ren (D : Dk) (k t : List Nat) : Dk := { D with fs := fput (fdel D.fs k) ⟨t, (D.of k).1, (D.of k).2⟩ }
theorem ren_deed (N : Nat) (hN : 1 ≤ N) {F : FAW} (hw : Wf F) {d m : Nat} {D : Dk} (h : DK F d m D) {k t : List Nat} (hk : Nm k) (ht : Nm t) {i j l : Nat} (hi : Bx F i (.p d 0)) (hj : Bx F j (.s k)) (hl : Bx F l (.s t)) :
    ∃ F', clU dskD N 57 [.p i 0, .p j 0, .p l 0] F = .ok (.u []) F' ∧ DK F' d m (D.ren k t) ∧ Sg F F' (· = d) No (· = m) ∧ Wf F' := by
  obtain ⟨n, rfl⟩ : ∃ n, N = n + 1 := ⟨N - 1, by omega⟩
  have sn : Sq F (F.new [.nl, .n 0] 81 2) := Sq.new hw _ _ _
  obtain ⟨v, hv, hlk, hlk'⟩ := mlk_same (G := F.new [.nl, .n 0] 81 2) h hk rfl
  obtain ⟨F1, c1, c2, c3, c4, c5⟩ := cp_file hw (la := (D.of k).2) hv.fi
  have c1' : ∀ f : KU, uNewF 81 2 [.nl, .n 0] F f = f (.p F.x 0) (F.new [.nl, .n 0] 81 2) := c1
  have hn := h.sq sn
  have h1 := h.sq c4
  have hv1 := hv.sq c4
  obtain ⟨F2, d1, d2, d3, d4⟩ := h1.mdel c5 hk
  have hv2 := hv1.sg d3 h1.not1
  have hla := of_la h.ok k
  have htt := tot_del D.fs k
  have key : ((fget D.fs k).map fun f => f.b.length).getD 0 = (D.of k).1.length := by
    unfold Dk.of
    cases fget D.fs k <;> rfl
  rw [key] at htt
  obtain ⟨F4, m1, m2, m3, m4⟩ := d2.mup d4 (g := ⟨t, (D.of k).1, (D.of k).2⟩) (v := v) ht hv2 hla (by
    have := tot_put (fdel D.fs k) ⟨t, (D.of k).1, (D.of k).2⟩
    show tot (fput (fdel D.fs k) ⟨t, (D.of k).1, (D.of k).2⟩) ≤ D.room
    have h2 := h.ok.room
    have : (File.mk t (D.of k).1 (D.of k).2).b.length = (D.of k).1.length := rfl
    omega)
  refine ⟨F4, ?_, m2, ((c4.any _ _ _).trans d3).trans m3, m4⟩
  rw [cl57, u57_in]
  have r2 : F2.row F.x = some ([v, .n (D.of k).2], 81, 2, F.x, false) := d3.row _ _ (fun q => by have := (h.lt hw).1; omega) c3
  have e1 := fun f : KU => uLd_file f r2 hv.fi
  have i1 := hi.sq sn; have j1 := hj.sq sn
  have i2 := hi.sq c4; have j2 := hj.sq c4
  have i3 := i2.sg d3 h1.not1; have l3 := (hl.sq c4).sg d3 h1.not1
  simp -implicitDefEqProofs only [↓SS, Nat.zero_add, Nat.add_zero, Bool.not_true, Bool.not_false, ↓u57b, ↓u57_0, ↓u57_1, ↓u57_2, ↓m4_mk, ↓k4_mk, ↓u57r_mk, ↓hi.ld (Fi.p _ _), ↓hj.ld (Fi.s _), ↓h.lm, ↓hlk, ↓hlk', ↓c1', ↓veqU_file (.inl hv), ↓i1.ld (Fi.p _ _), ↓j1.ld (Fi.s _), ↓veqU_s, ↓veqU_m, ↓veqU_p, ↓hn.lm, ↓c2, ↓i2.ld (Fi.p _ _), ↓h1.g1, ↓j2.ld (Fi.s _), ↓d1, ↓i3.ld (Fi.p _ _), ↓d2.g1, ↓l3.ld (Fi.s _), ↓e1, ↓m1]
-- Remove's deed
def Dk.rem (D : Dk) (k : List Nat) : Dk := { D with fs := fdel D.fs k }
theorem rem_deed (N : Nat) (hN : 1 ≤ N) {F : FAW} (hw : Wf F) {d m : Nat} {D : Dk} (h : DK F d m D) {k : List Nat} (hk : Nm k) {i j : Nat} (hi : Bx F i (.p d 0)) (hj : Bx F j (.s k)) :
    ∃ F', clU dskD N 62 [.p i 0, .p j 0] F = .ok (.u []) F' ∧ DK F' d m (D.rem k) ∧ Sg F F' (· = d) No (· = m) ∧ Wf F' := by
  obtain ⟨n, rfl⟩ : ∃ n, N = n + 1 := ⟨N - 1, by omega⟩
  obtain ⟨F2, d1, d2, d3, d4⟩ := h.mdel hw hk
  refine ⟨F2, ?_, d2, d3, d4⟩
  rw [cl62, u62_in]
  simp -implicitDefEqProofs only [↓SS, Nat.zero_add, Nat.add_zero, Bool.not_true, Bool.not_false, ↓u62b, ↓u62_0, ↓m2_mk, ↓k2_mk, ↓u62r_mk, ↓hi.ld (Fi.p _ _), ↓hj.ld (Fi.s _), ↓h.g1, ↓d1]
theorem nil55 (N : Nat) (hN : 1 ≤ N) (F : FAW) : clU dskD N 55 [] F = .ok (.u []) F := by
  obtain ⟨n, rfl⟩ : ∃ n, N = n + 1 := ⟨N - 1, by omega⟩
  rw [cl55, u55_in]; rfl
theorem nil58 (N : Nat) (hN : 1 ≤ N) (F : FAW) : clU dskD N 58 [] F = .ok (.u []) F := by
  obtain ⟨n, rfl⟩ : ∃ n, N = n + 1 := ⟨N - 1, by omega⟩
  rw [cl58, u58_in]; rfl
theorem nil63 (N : Nat) (hN : 1 ≤ N) (F : FAW) : clU dskD N 63 [] F = .ok (.u []) F := by
  obtain ⟨n, rfl⟩ : ∃ n, N = n + 1 := ⟨N - 1, by omega⟩
  rw [cl63, u63_in]; rfl
-- does
def Dk.tick (D : Dk) : Dk := if D.armed then { D with at_ := D.at_ - 1 } else D
def Dk.cutNow (D : Dk) : Bool := D.armed && decide (D.at_ = 0)
theorem tick_ok {D : Dk} (h : D.Ok) (hc : D.cutNow = false) : D.tick.Ok := by
  unfold Dk.tick
  split
  · rename_i ha
    have h0 := h.at_ ha
    have hi := h.ati
    have : D.at_ ≠ 0 := by
      unfold Dk.cutNow at hc
      rw [ha, Bool.true_and, decide_eq_false_iff_not] at hc
      exact hc
    exact ⟨h.nm, h.nd, h.la, h.room, fun _ => by show 0 ≤ D.at_ - 1; omega, ⟨by show _ ≤ D.at_ - 1; omega, by show D.at_ - 1 ≤ _; have := hi.2; omega⟩⟩
  · exact h
theorem does_cut (N : Nat) (hN : 2 ≤ N) {F : FAW} (hw : Wf F) {d m : Nat} {D D1 : Dk} (h : DK F d m D) (hc : D.cutNow = true) {gw gh : FuncId} {cw ch : List FV} {F1 : FAW} (e1 : clU dskD (N - 1) gh ch F = .ok (.u []) F1) (h1 : DK F1 d m D1) (s1 : Sg F F1 (· = d) No (· = m)) (w1 : Wf F1) (hp : D1.part = D.part) :
    ∃ F', clU dskD N 52 [.p d 0, .f gw [] cw, .f gh [] ch] F = .ok (.n 18) F' ∧ DK F' d m (D1.crash D.part) ∧ Sg F F' (· = d) No (· = m) ∧ Wf F' := by
  obtain ⟨n, rfl⟩ : ∃ n, N = n + 1 := ⟨N - 1, by omega⟩
  obtain ⟨F2, k1, k2, k3, k4⟩ := crash_okD n (by omega) w1 h1 D.part
  refine ⟨F2, ?_, k2, s1.trans k3, k4⟩
  rw [cl52, u52_in]
  unfold Dk.cutNow at hc
  rw [Bool.and_eq_true, decide_eq_true_eq] at hc
  have z0 : FV.n 0 = iv 0 := rfl
  have hq := fun F f => eq_z F f D.at_ 0
  have e1 : clU dskD n gh ch F = .ok (.u []) F1 := e1
  have hg := fun f : KU => h1.g4 f
  rw [hp] at hg
  simp -implicitDefEqProofs only [↓SS, Nat.zero_add, Nat.add_zero, Bool.not_true, Bool.not_false, ↓u52b, ↓u52_0, ↓u52_1, ↓u52_2, ↓u52_3, ↓u52_4, ↓u52_5, ↓u52_6, ↓u52_7, ↓u52_8, ↓u52_9, ↓u52_10, ↓m6_mk, ↓k6_mk, ↓u52r_mk, ↓h.g2, hc.1, ↓h.g3, z0, ↓hq, decide_eq_true hc.2, ↓uCallV_f, List.nil_append, ↓e1, ↓hg, ↓k1]
theorem does_ok (N : Nat) (hN : 2 ≤ N) {F : FAW} (hw : Wf F) {d m : Nat} {D : Dk} (h : DK F d m D) (hc : D.cutNow = false) {gw gh : FuncId} {cw ch : List FV} {D1 : Dk}
    (e : ∀ F0, DK F0 d m D.tick → Sg F F0 (· = d) No (· = m) → Wf F0 → ∃ F1, clU dskD (N - 1) gw cw F0 = .ok (.u []) F1 ∧ DK F1 d m D1 ∧ Sg F0 F1 (· = d) No (· = m) ∧ Wf F1) :
    ∃ F', clU dskD N 52 [.p d 0, .f gw [] cw, .f gh [] ch] F = .ok (.n 0) F' ∧ DK F' d m D1 ∧ Sg F F' (· = d) No (· = m) ∧ Wf F' := by
  obtain ⟨n, rfl⟩ : ∃ n, N = n + 1 := ⟨N - 1, by omega⟩
  have ot := tick_ok h.ok hc
  have z0 : FV.n 0 = iv 0 := rfl
  have z1 : FV.n 1 = iv 1 := rfl
  by_cases ha : D.armed = true
  · have ht : D.tick = { D with at_ := D.at_ - 1 } := by unfold Dk.tick; rw [if_pos ha]
    have hne : D.at_ ≠ 0 := by
      unfold Dk.cutNow at hc
      rw [ha, Bool.true_and, decide_eq_false_iff_not] at hc
      exact hc
    have h1 := h.put (D' := D.tick) (by rw [ht]) ot
    obtain ⟨F1, k1, k2, k3, k4⟩ := e _ h1 (Sg.put rfl) (hw.put _ _)
    refine ⟨F1, ?_, k2, (show Sg F (F.put d (D.tick.cells m)) (· = d) No (· = m) from Sg.put rfl).trans k3, k4⟩
    rw [cl52, u52_in]
    have hq := fun F f => eq_z F f D.at_ 0
    have hs := fun F f => sub_z F f (a := D.at_) (b := 1) (by have := ot.ati; rw [ht] at this; exact this) h.ok.ati
    have st := fun f : KU => st_cell (m := m) h.row h.fam rfl (k := 3) (a := iv D.at_) (w := iv (D.at_ - 1)) rfl (iv_fi _) (iv_fi _) f
    have e1 : (D.cells m).set 3 (iv (D.at_ - 1)) = D.tick.cells m := by rw [ht]; rfl
    rw [e1] at st
    have k1 : clU dskD n gw cw (F.put d (D.tick.cells m)) = .ok (.u []) F1 := k1
    simp -implicitDefEqProofs only [↓SS, Nat.zero_add, Nat.add_zero, Bool.not_true, Bool.not_false, ↓u52b, ↓u52_0, ↓u52_1, ↓u52_2, ↓u52_3, ↓u52_4, ↓u52_5, ↓u52_6, ↓u52_7, ↓u52_8, ↓u52_9, ↓u52_10, ↓m6_mk, ↓k6_mk, ↓u52r_mk, ↓h.g2, ha, ↓h.g3, z0, z1, ↓hq, decide_eq_false hne, ↓hs, ↓st, ↓uCallV_f, List.nil_append, ↓k1]
  · have ha : D.armed = false := by simpa using ha
    have ht : D.tick = D := by unfold Dk.tick; rw [ha]; rfl
    rw [ht] at e
    obtain ⟨F1, k1, k2, k3, k4⟩ := e _ h (Sg.refl _ _ _ _) hw
    refine ⟨F1, ?_, k2, k3, k4⟩
    rw [cl52, u52_in]
    have k1 : clU dskD n gw cw F = .ok (.u []) F1 := k1
    simp -implicitDefEqProofs only [↓SS, Nat.zero_add, Nat.add_zero, Bool.not_true, Bool.not_false, ↓u52b, ↓u52_0, ↓u52_1, ↓u52_2, ↓u52_3, ↓u52_4, ↓u52_5, ↓u52_6, ↓u52_7, ↓u52_8, ↓u52_9, ↓u52_10, ↓m6_mk, ↓k6_mk, ↓u52r_mk, ↓h.g2, ha, ↓uCallV_f, List.nil_append, ↓k1]
end Go.Proofs.Ythclmjelknibhaa.Ev
/- What is done to a disk in memory: its own functions. -/
namespace Go.Proofs.Ythclmjelknibhaa.Ev
open Go Go.RowKit
set_option linter.unusedVariables false
set_option linter.constructorNameAsVariable false
set_option linter.unusedSimpArgs false
set_option linter.unusedSectionVars false

def Dk.doing (D : Dk) (whole half : Dk → Dk) : Dk × Nat := if D.cutNow then ((half D).crash D.part, 18) else (whole D.tick, 0)
def Dk.append (D : Dk) (k b : List Nat) : Dk × Nat := if D.dead then (D, 18) else if D.room - tot D.fs < b.length then (D, 17) else D.doing (fun D => D.app k b) (fun D => D.app k b)
def Dk.sync (D : Dk) (k : List Nat) : Dk × Nat := if D.has k ≠ 0 then (D, D.has k) else D.doing (fun D => D.syn k) id
def Dk.rename (D : Dk) (k t : List Nat) : Dk × Nat := if D.has k ≠ 0 then (D, D.has k) else D.doing (fun D => D.ren k t) id
def Dk.remove (D : Dk) (k : List Nat) : Dk × Nat := if D.has k ≠ 0 then (D, D.has k) else D.doing (fun D => D.rem k) id
def Dk.read (D : Dk) (k : List Nat) : List Nat × Nat := if D.has k ≠ 0 then ([], D.has k) else ((D.of k).1, 0)
theorem tick_fs (D : Dk) : D.tick.fs = D.fs ∧ D.tick.room = D.room := by
  unfold Dk.tick
  split <;> exact ⟨rfl, rfl⟩
theorem uBox_1 (el : Nat) {w : FV} (hw : Fi w) (F : FAW) (f : KU) : uBox el 1 w F f = f (.p F.x 0) (F.new [w] el 1) := uBox_fi el 1 hw F f
theorem Bx.new2 {F : FAW} (hw : Wf F) {i : Nat} {w : FV} (h : Bx F i w) (c : List FV) (el es : Nat) : Bx (F.new c el es) i w := h.sq (Sq.new hw _ _ _)
/-- Three boxes. -/
theorem box3 {F : FAW} (hw : Wf F) {a b c : FV} (ha : Fi a) (hb : Fi b) (hc : Fi c) (e1 e2 e3 : Nat) :
    ∃ F', (∀ f : FV → FV → FV → FAW → RU, (uBox e1 1 a F fun v0 S => uBox e2 1 b S fun v1 S => uBox e3 1 c S fun v2 S => f v0 v1 v2 S) = f (.p F.x 0) (.p (F.x + 1) 0) (.p (F.x + 2) 0) F') ∧ Bx F' F.x a ∧ Bx F' (F.x + 1) b ∧ Bx F' (F.x + 2) c ∧ Sq F F' ∧ Wf F' := by
  have w1 := hw.new [a] e1 1
  have w2 := w1.new [b] e2 1
  exact ⟨((F.new [a] e1 1).new [b] e2 1).new [c] e3 1, fun f => by rw [uBox_1 _ ha, uBox_1 _ hb, uBox_1 _ hc]; rfl, ((Bx.new F a e1).new2 w1 _ _ _).new2 w2 _ _ _, (Bx.new (F.new [a] e1 1) b e2).new2 w2 _ _ _, Bx.new _ c e3,
    ((Sq.new hw _ _ _).trans (Sq.new w1 _ _ _)).trans (Sq.new w2 _ _ _), w2.new _ _ _⟩
theorem box2 {F : FAW} (hw : Wf F) {a b : FV} (ha : Fi a) (hb : Fi b) (e1 e2 : Nat) :
    ∃ F', (∀ f : FV → FV → FAW → RU, (uBox e1 1 a F fun v0 S => uBox e2 1 b S fun v1 S => f v0 v1 S) = f (.p F.x 0) (.p (F.x + 1) 0) F') ∧ Bx F' F.x a ∧ Bx F' (F.x + 1) b ∧ Sq F F' ∧ Wf F' := by
  have w1 := hw.new [a] e1 1
  exact ⟨(F.new [a] e1 1).new [b] e2 1, fun f => by rw [uBox_1 _ ha, uBox_1 _ hb]; rfl, (Bx.new F a e1).new2 w1 _ _ _, Bx.new _ b e2, (Sq.new hw _ _ _).trans (Sq.new w1 _ _ _), w1.new _ _ _⟩
theorem append_ok (N : Nat) (hN : 9 ≤ N) {F : FAW} (hw : Wf F) {d m : Nat} {D : Dk} (h : DK F d m D) {k b : List Nat} (hk : Nm k) {vb : FV} (hb : By F vb b) :
    ∃ F', clU dskD N 17 [.p d 0, .s k, vb] F = .ok (.n (D.append k b).2) F' ∧ DK F' d m (D.append k b).1 ∧ Sg F F' (· = d) No (· = m) ∧ Wf F' := by
  obtain ⟨n, rfl⟩ : ∃ n, N = n + 1 := ⟨N - 1, by omega⟩
  obtain ⟨F1, c1, b1, b2, b3, c2, c3⟩ := box3 hw (Fi.p d 0) (Fi.s k) hb.fi 23 9 28
  have h1 := h.sq c2
  have hb1 := hb.sq c2
  have hcan := can_ok n (by omega) h1
  by_cases hd : D.dead = true
  · refine ⟨F1, ?_, by unfold Dk.append; rw [if_pos hd]; exact h1, c2.any _ _ _, c3⟩
    rw [cl17, u17_in]
    have e : D.can = 18 := by rw [Dk.can, if_pos hd]
    rw [e] at hcan
    simp -implicitDefEqProofs only [↓SS, Nat.zero_add, Nat.add_zero, Bool.not_true, Bool.not_false, ↓u17b, ↓u17_0, ↓u17_1, ↓u17_2, ↓u17_3, ↓u17_4, ↓u17_5, ↓u17_6, ↓u17_7, ↓u17_8, ↓u17_9, ↓m11_mk, ↓k11_mk, ↓u17r_mk, ↓c1, ↓b1.ld (Fi.p _ _), ↓hcan, ↓ne_18, Dk.append, hd, if_true]
  · have e : D.can = 0 := by rw [Dk.can, if_neg hd]
    rw [e] at hcan
    have hl := left_okD n (by omega) h1
    have w2 := c3.bump (1 + D.fs.length)
    have s2 : Sq F1 (F1.bump (1 + D.fs.length)) := Sq.bump _ _
    have h2 := h1.sq s2
    have b1' := b1.sq s2; have b2' := b2.sq s2; have b3' := b3.sq s2
    have hg := fun F f => uGtr_nn F f .gtr b.length (D.room - tot D.fs)
    by_cases hf : D.room - tot D.fs < b.length
    · refine ⟨F1.bump (1 + D.fs.length), ?_, by unfold Dk.append; rw [if_neg hd, if_pos hf]; exact h2, (c2.trans s2).any _ _ _, w2⟩
      rw [cl17, u17_in]
      simp -implicitDefEqProofs only [↓SS, Nat.zero_add, Nat.add_zero, Bool.not_true, Bool.not_false, ↓u17b, ↓u17_0, ↓u17_1, ↓u17_2, ↓u17_3, ↓u17_4, ↓u17_5, ↓u17_6, ↓u17_7, ↓u17_8, ↓u17_9, ↓m11_mk, ↓k11_mk, ↓u17r_mk, ↓c1, ↓b1.ld (Fi.p _ _), ↓hcan, ↓ne_00, ↓b3.ld hb.fi, ↓hb1.len, ↓hl, ↓hg, decide_eq_true hf, ↓b3'.ld hb.fi, ↓veqU_by hb, Dk.append, hd, Bool.false_eq_true, if_false, if_pos hf]
    · have hr : tot D.fs + b.length ≤ D.room := by have := h.ok.room; omega
      have hb2 := hb1.sq s2
      by_cases hc : D.cutNow = true
      · obtain ⟨F3, k1, k2, k3, k4⟩ := app_deed (n - 1) (by omega) w2 h2 hk hb2 hr b1' b2' b3'
        obtain ⟨F4, m1, m2, m3, m4⟩ := does_cut n (by omega) w2 h2 hc (gw := 50) (cw := [.p F.x 0, .p (F.x + 1) 0, .p (F.x + 2) 0]) k1 k2 k3 k4 rfl
        refine ⟨F4, ?_, by unfold Dk.append Dk.doing; rw [if_neg hd, if_neg hf, if_pos hc]; exact m2, ((c2.trans s2).any _ _ _).trans m3, m4⟩
        rw [cl17, u17_in]
        simp -implicitDefEqProofs only [↓SS, Nat.zero_add, Nat.add_zero, Bool.not_true, Bool.not_false, ↓u17b, ↓u17_0, ↓u17_1, ↓u17_2, ↓u17_3, ↓u17_4, ↓u17_5, ↓u17_6, ↓u17_7, ↓u17_8, ↓u17_9, ↓m11_mk, ↓k11_mk, ↓u17r_mk, ↓c1, ↓b1.ld (Fi.p _ _), ↓hcan, ↓ne_00, ↓b3.ld hb.fi, ↓hb1.len, ↓hl, ↓hg, decide_eq_false hf, ↓b3'.ld hb.fi, ↓veqU_by hb, ↓b1'.ld (Fi.p _ _), ↓m1, Dk.append, Dk.doing, hd, Bool.false_eq_true, if_false, if_neg hf, if_pos hc]
      · have hc : D.cutNow = false := by simpa using hc
        obtain ⟨F4, m1, m2, m3, m4⟩ := does_ok n (by omega) w2 h2 hc (gw := 50) (cw := [.p F.x 0, .p (F.x + 1) 0, .p (F.x + 2) 0]) (gh := 50) (ch := [.p F.x 0, .p (F.x + 1) 0, .p (F.x + 2) 0]) (D1 := D.tick.app k b)
          fun F0 g1 g2 g3 => app_deed (n - 1) (by omega) g3 g1 hk (hb2.sg g2 h2.not1) (by rw [(tick_fs D).1, (tick_fs D).2]; exact hr) (b1'.sg g2 h2.not1) (b2'.sg g2 h2.not1) (b3'.sg g2 h2.not1)
        refine ⟨F4, ?_, by unfold Dk.append Dk.doing; rw [if_neg hd, if_neg hf, hc]; exact m2, ((c2.trans s2).any _ _ _).trans m3, m4⟩
        rw [cl17, u17_in]
        simp -implicitDefEqProofs only [↓SS, Nat.zero_add, Nat.add_zero, Bool.not_true, Bool.not_false, ↓u17b, ↓u17_0, ↓u17_1, ↓u17_2, ↓u17_3, ↓u17_4, ↓u17_5, ↓u17_6, ↓u17_7, ↓u17_8, ↓u17_9, ↓m11_mk, ↓k11_mk, ↓u17r_mk, ↓c1, ↓b1.ld (Fi.p _ _), ↓hcan, ↓ne_00, ↓b3.ld hb.fi, ↓hb1.len, ↓hl, ↓hg, decide_eq_false hf, ↓b3'.ld hb.fi, ↓veqU_by hb, ↓b1'.ld (Fi.p _ _), ↓m1, Dk.append, Dk.doing, hd, Bool.false_eq_true, if_false, if_neg hf, hc]
theorem ne_has (F : FAW) (f : KU) (k : Nat) : uEq true .neq (.n k) (.n 0) F f = f (.t (!decide (k = 0))) F := by
  rw [uEq_nn, xo_t]
theorem sync_ok (N : Nat) (hN : 4 ≤ N) {F : FAW} (hw : Wf F) {d m : Nat} {D : Dk} (h : DK F d m D) {k : List Nat} (hk : Nm k) :
    ∃ F', clU dskD N 18 [.p d 0, .s k] F = .ok (.n (D.sync k).2) F' ∧ DK F' d m (D.sync k).1 ∧ Sg F F' (· = d) No (· = m) ∧ Wf F' := by
  obtain ⟨n, rfl⟩ : ∃ n, N = n + 1 := ⟨N - 1, by omega⟩
  obtain ⟨F1, c1, b1, b2, c2, c3⟩ := box2 hw (Fi.p d 0) (Fi.s k) 23 9
  have h1 := h.sq c2
  obtain ⟨F2, a1, a2, a3⟩ := has_ok n (by omega) c3 h1 hk
  have h2 := h1.sq a2
  have b1' := b1.sq a2; have b2' := b2.sq a2
  by_cases hh : D.has k ≠ 0
  · refine ⟨F2, ?_, by unfold Dk.sync; rw [if_pos hh]; exact h2, (c2.trans a2).any _ _ _, a3⟩
    rw [cl18, u18_in]
    simp -implicitDefEqProofs only [↓SS, Nat.zero_add, Nat.add_zero, Bool.not_true, Bool.not_false, ↓u18b, ↓u18_0, ↓u18_1, ↓u18_2, ↓u18_3, ↓u18_4, ↓u18_5, ↓m7_mk, ↓k7_mk, ↓u18r_mk, ↓c1, ↓b1.ld (Fi.p _ _), ↓b2.ld (Fi.s _), ↓a1, ↓ne_has, decide_eq_false hh, Dk.sync, if_pos hh]
  · have h0 : D.has k = 0 := by omega
    by_cases hc : D.cutNow = true
    · obtain ⟨F4, m1, m2, m3, m4⟩ := does_cut n (by omega) a3 h2 hc (gw := 54) (cw := [.p F.x 0, .p (F.x + 1) 0]) (nil55 (n - 1) (by omega) F2) h2 (Sg.refl _ _ _ _) a3 rfl
      refine ⟨F4, ?_, by unfold Dk.sync Dk.doing; rw [if_neg hh, if_pos hc]; exact m2, ((c2.trans a2).any _ _ _).trans m3, m4⟩
      rw [cl18, u18_in]
      simp -implicitDefEqProofs only [↓SS, Nat.zero_add, Nat.add_zero, Bool.not_true, Bool.not_false, ↓u18b, ↓u18_0, ↓u18_1, ↓u18_2, ↓u18_3, ↓u18_4, ↓u18_5, ↓m7_mk, ↓k7_mk, ↓u18r_mk, ↓c1, ↓b1.ld (Fi.p _ _), ↓b2.ld (Fi.s _), ↓a1, ↓ne_has, decide_eq_true h0, ↓b1'.ld (Fi.p _ _), ↓m1, Dk.sync, if_neg hh, Dk.doing, if_pos hc]
    · have hc : D.cutNow = false := by simpa using hc
      obtain ⟨F4, m1, m2, m3, m4⟩ := does_ok n (by omega) a3 h2 hc (gw := 54) (cw := [.p F.x 0, .p (F.x + 1) 0]) (gh := 55) (ch := []) (D1 := D.tick.syn k)
        fun F0 g1 g2 g3 => syn_deed (n - 1) (by omega) g3 g1 hk (b1'.sg g2 h2.not1) (b2'.sg g2 h2.not1)
      refine ⟨F4, ?_, by unfold Dk.sync Dk.doing; rw [if_neg hh, hc]; exact m2, ((c2.trans a2).any _ _ _).trans m3, m4⟩
      rw [cl18, u18_in]
      simp -implicitDefEqProofs only [↓SS, Nat.zero_add, Nat.add_zero, Bool.not_true, Bool.not_false, ↓u18b, ↓u18_0, ↓u18_1, ↓u18_2, ↓u18_3, ↓u18_4, ↓u18_5, ↓m7_mk, ↓k7_mk, ↓u18r_mk, ↓c1, ↓b1.ld (Fi.p _ _), ↓b2.ld (Fi.s _), ↓a1, ↓ne_has, decide_eq_true h0, ↓b1'.ld (Fi.p _ _), ↓m1, Dk.sync, if_neg hh, Dk.doing, hc, Bool.false_eq_true, if_false]
theorem remove_ok (N : Nat) (hN : 4 ≤ N) {F : FAW} (hw : Wf F) {d m : Nat} {D : Dk} (h : DK F d m D) {k : List Nat} (hk : Nm k) :
    ∃ F', clU dskD N 26 [.p d 0, .s k] F = .ok (.n (D.remove k).2) F' ∧ DK F' d m (D.remove k).1 ∧ Sg F F' (· = d) No (· = m) ∧ Wf F' := by
  obtain ⟨n, rfl⟩ : ∃ n, N = n + 1 := ⟨N - 1, by omega⟩
  obtain ⟨F1, c1, b1, b2, c2, c3⟩ := box2 hw (Fi.p d 0) (Fi.s k) 23 9
  have h1 := h.sq c2
  obtain ⟨F2, a1, a2, a3⟩ := has_ok n (by omega) c3 h1 hk
  have h2 := h1.sq a2
  have b1' := b1.sq a2; have b2' := b2.sq a2
  by_cases hh : D.has k ≠ 0
  · refine ⟨F2, ?_, by unfold Dk.remove; rw [if_pos hh]; exact h2, (c2.trans a2).any _ _ _, a3⟩
    rw [cl26, u26_in]
    simp -implicitDefEqProofs only [↓SS, Nat.zero_add, Nat.add_zero, Bool.not_true, Bool.not_false, ↓u26b, ↓u26_0, ↓u26_1, ↓u26_2, ↓u26_3, ↓u26_4, ↓u26_5, ↓m7_mk, ↓k7_mk, ↓u26r_mk, ↓c1, ↓b1.ld (Fi.p _ _), ↓b2.ld (Fi.s _), ↓a1, ↓ne_has, decide_eq_false hh, Dk.remove, if_pos hh]
  · have h0 : D.has k = 0 := by omega
    by_cases hc : D.cutNow = true
    · obtain ⟨F4, m1, m2, m3, m4⟩ := does_cut n (by omega) a3 h2 hc (gw := 62) (cw := [.p F.x 0, .p (F.x + 1) 0]) (nil63 (n - 1) (by omega) F2) h2 (Sg.refl _ _ _ _) a3 rfl
      refine ⟨F4, ?_, by unfold Dk.remove Dk.doing; rw [if_neg hh, if_pos hc]; exact m2, ((c2.trans a2).any _ _ _).trans m3, m4⟩
      rw [cl26, u26_in]
      simp -implicitDefEqProofs only [↓SS, Nat.zero_add, Nat.add_zero, Bool.not_true, Bool.not_false, ↓u26b, ↓u26_0, ↓u26_1, ↓u26_2, ↓u26_3, ↓u26_4, ↓u26_5, ↓m7_mk, ↓k7_mk, ↓u26r_mk, ↓c1, ↓b1.ld (Fi.p _ _), ↓b2.ld (Fi.s _), ↓a1, ↓ne_has, decide_eq_true h0, ↓b1'.ld (Fi.p _ _), ↓m1, Dk.remove, if_neg hh, Dk.doing, if_pos hc]
    · have hc : D.cutNow = false := by simpa using hc
      obtain ⟨F4, m1, m2, m3, m4⟩ := does_ok n (by omega) a3 h2 hc (gw := 62) (cw := [.p F.x 0, .p (F.x + 1) 0]) (gh := 63) (ch := []) (D1 := D.tick.rem k)
        fun F0 g1 g2 g3 => rem_deed (n - 1) (by omega) g3 g1 hk (b1'.sg g2 h2.not1) (b2'.sg g2 h2.not1)
      refine ⟨F4, ?_, by unfold Dk.remove Dk.doing; rw [if_neg hh, hc]; exact m2, ((c2.trans a2).any _ _ _).trans m3, m4⟩
      rw [cl26, u26_in]
      simp -implicitDefEqProofs only [↓SS, Nat.zero_add, Nat.add_zero, Bool.not_true, Bool.not_false, ↓u26b, ↓u26_0, ↓u26_1, ↓u26_2, ↓u26_3, ↓u26_4, ↓u26_5, ↓m7_mk, ↓k7_mk, ↓u26r_mk, ↓c1, ↓b1.ld (Fi.p _ _), ↓b2.ld (Fi.s _), ↓a1, ↓ne_has, decide_eq_true h0, ↓b1'.ld (Fi.p _ _), ↓m1, Dk.remove, if_neg hh, Dk.doing, hc, Bool.false_eq_true, if_false]
theorem rename_ok (N : Nat) (hN : 4 ≤ N) {F : FAW} (hw : Wf F) {d m : Nat} {D : Dk} (h : DK F d m D) {k t : List Nat} (hk : Nm k) (ht : Nm t) :
    ∃ F', clU dskD N 21 [.p d 0, .s k, .s t] F = .ok (.n (D.rename k t).2) F' ∧ DK F' d m (D.rename k t).1 ∧ Sg F F' (· = d) No (· = m) ∧ Wf F' := by
  obtain ⟨n, rfl⟩ : ∃ n, N = n + 1 := ⟨N - 1, by omega⟩
  obtain ⟨F1, c1, b1, b2, b3, c2, c3⟩ := box3 hw (Fi.p d 0) (Fi.s k) (Fi.s t) 23 9 9
  have h1 := h.sq c2
  obtain ⟨F2, a1, a2, a3⟩ := has_ok n (by omega) c3 h1 hk
  have h2 := h1.sq a2
  have b1' := b1.sq a2; have b2' := b2.sq a2; have b3' := b3.sq a2
  by_cases hh : D.has k ≠ 0
  · refine ⟨F2, ?_, by unfold Dk.rename; rw [if_pos hh]; exact h2, (c2.trans a2).any _ _ _, a3⟩
    rw [cl21, u21_in]
    simp -implicitDefEqProofs only [↓SS, Nat.zero_add, Nat.add_zero, Bool.not_true, Bool.not_false, ↓u21b, ↓u21_0, ↓u21_1, ↓u21_2, ↓u21_3, ↓u21_4, ↓u21_5, ↓m9_mk, ↓k9_mk, ↓u21r_mk, ↓c1, ↓b1.ld (Fi.p _ _), ↓b2.ld (Fi.s _), ↓a1, ↓ne_has, decide_eq_false hh, Dk.rename, if_pos hh]
  · have h0 : D.has k = 0 := by omega
    by_cases hc : D.cutNow = true
    · obtain ⟨F4, m1, m2, m3, m4⟩ := does_cut n (by omega) a3 h2 hc (gw := 57) (cw := [.p F.x 0, .p (F.x + 1) 0, .p (F.x + 2) 0]) (nil58 (n - 1) (by omega) F2) h2 (Sg.refl _ _ _ _) a3 rfl
      refine ⟨F4, ?_, by unfold Dk.rename Dk.doing; rw [if_neg hh, if_pos hc]; exact m2, ((c2.trans a2).any _ _ _).trans m3, m4⟩
      rw [cl21, u21_in]
      simp -implicitDefEqProofs only [↓SS, Nat.zero_add, Nat.add_zero, Bool.not_true, Bool.not_false, ↓u21b, ↓u21_0, ↓u21_1, ↓u21_2, ↓u21_3, ↓u21_4, ↓u21_5, ↓m9_mk, ↓k9_mk, ↓u21r_mk, ↓c1, ↓b1.ld (Fi.p _ _), ↓b2.ld (Fi.s _), ↓a1, ↓ne_has, decide_eq_true h0, ↓b1'.ld (Fi.p _ _), ↓m1, Dk.rename, if_neg hh, Dk.doing, if_pos hc]
    · have hc : D.cutNow = false := by simpa using hc
      obtain ⟨F4, m1, m2, m3, m4⟩ := does_ok n (by omega) a3 h2 hc (gw := 57) (cw := [.p F.x 0, .p (F.x + 1) 0, .p (F.x + 2) 0]) (gh := 58) (ch := []) (D1 := D.tick.ren k t)
        fun F0 g1 g2 g3 => ren_deed (n - 1) (by omega) g3 g1 hk ht (b1'.sg g2 h2.not1) (b2'.sg g2 h2.not1) (b3'.sg g2 h2.not1)
      refine ⟨F4, ?_, by unfold Dk.rename Dk.doing; rw [if_neg hh, hc]; exact m2, ((c2.trans a2).any _ _ _).trans m3, m4⟩
      rw [cl21, u21_in]
      simp -implicitDefEqProofs only [↓SS, Nat.zero_add, Nat.add_zero, Bool.not_true, Bool.not_false, ↓u21b, ↓u21_0, ↓u21_1, ↓u21_2, ↓u21_3, ↓u21_4, ↓u21_5, ↓m9_mk, ↓k9_mk, ↓u21r_mk, ↓c1, ↓b1.ld (Fi.p _ _), ↓b2.ld (Fi.s _), ↓a1, ↓ne_has, decide_eq_true h0, ↓b1'.ld (Fi.p _ _), ↓m1, Dk.rename, if_neg hh, Dk.doing, hc, Bool.false_eq_true, if_false]
-- Clone, Read
theorem clone_ok (N : Nat) (hN : 1 ≤ N) {F : FAW} (hw : Wf F) {v : FV} {b : List Nat} (hv : By F v b) (hl : b.length ≤ 1000000) : ∃ v' F', clU dskD N 56 [v] F = .ok v' F' ∧ By F' v' b ∧ Sq F F' ∧ Wf F' := by
  obtain ⟨n, rfl⟩ : ∃ n, N = n + 1 := ⟨N - 1, by omega⟩
  by_cases h0 : v = .nl
  · subst h0
    refine ⟨.nl, F, ?_, hv, Sg.refl _ _ _ _, hw⟩
    rw [cl56, u56_in]
    have hq : ∀ (F : FAW) (f : KU), uEqN 1 false .nl .nl F f = f (.t true) F := fun _ _ => rfl
    simp -implicitDefEqProofs only [↓SS, Nat.zero_add, Nat.add_zero, Bool.not_true, Bool.not_false, ↓u56b, ↓u56_0, ↓u56_1, ↓u56_2, ↓u56_3, ↓u56_4, ↓m3_mk, ↓k3_mk, ↓u56r_mk, ↓hq]
  · have hq : ∀ (F : FAW) (f : KU), uEqN 1 false v .nl F f = f (.t false) F := by
      rcases hv.cases with ⟨h, _⟩ | ⟨i, o, c, rfl⟩
      · exact absurd h h0
      · exact fun _ _ => rfl
    have w1 := hw.new [] 5 1
    have s1 : Sq F (F.new [] 5 1) := Sq.new hw _ _ _
    have hv1 := hv.sq s1
    obtain ⟨v', F', m', e1, e2, e3, e4, e5, _⟩ := app_e w1 (SlE.lit0 F 5 1) (fun c hc => by cases hc) (w := v) (k := b.length) (ds := b.map FV.b) hv1.src (by simp) fi_b (bytes := 1) (by omega) (by omega)
    refine ⟨v', F', ?_, (SlE.by (by simpa using e2)), Sg.fresh hw s1 e3.sg (fun j hj q => q) (fun j hj q => by omega) (fun j hj q => q), e4⟩
    rw [cl56, u56_in]
    simp -implicitDefEqProofs only [↓SS, Nat.zero_add, Nat.add_zero, Bool.not_true, Bool.not_false, ↓u56b, ↓u56_0, ↓u56_1, ↓u56_2, ↓u56_3, ↓u56_4, ↓m3_mk, ↓k3_mk, ↓u56r_mk, ↓hq, ↓uLit0, ↓e1]
theorem read_ok (N : Nat) (hN : 3 ≤ N) {F : FAW} (hw : Wf F) {d m : Nat} {D : Dk} (h : DK F d m D) {k : List Nat} (hk : Nm k) :
    ∃ v F', clU dskD N 20 [.p d 0, .s k] F = .ok (.u [v, .n (D.read k).2]) F' ∧ By F' v (D.read k).1 ∧ Sq F F' ∧ Wf F' := by
  obtain ⟨n, rfl⟩ : ∃ n, N = n + 1 := ⟨N - 1, by omega⟩
  obtain ⟨F2, a1, a2, a3⟩ := has_ok n (by omega) hw h hk
  have h2 := h.sq a2
  by_cases hh : D.has k ≠ 0
  · refine ⟨.nl, F2, ?_, .inl ⟨rfl, by unfold Dk.read; rw [if_pos hh]⟩, a2, a3⟩
    rw [cl20, u20_in]
    simp -implicitDefEqProofs only [↓SS, Nat.zero_add, Nat.add_zero, Bool.not_true, Bool.not_false, ↓u20b, ↓u20_0, ↓u20_1, ↓u20_2, ↓u20_3, ↓u20_4, ↓u20_5, ↓m6_mk, ↓k6_mk, ↓u20r_mk, ↓a1, ↓ne_has, decide_eq_false hh, Dk.read, if_pos hh]
  · have h0 : D.has k = 0 := by omega
    obtain ⟨v, hv, _, hlk⟩ := h2.mlk' hk
    have := of_len D k
    have hro := h.ok.room
    obtain ⟨v', F3, c1, c2, c3, c4⟩ := clone_ok n (by omega) a3 hv (by omega)
    refine ⟨v', F3, ?_, by unfold Dk.read; rw [if_neg hh]; exact c2, a2.trans c3, c4⟩
    rw [cl20, u20_in]
    have hf : ∀ (F : FAW) (f : KU), uFld none 0 (.a [v, .n (D.of k).2]) F f = f v F := by
      intro F f
      rcases hv.cases with ⟨rfl, _⟩ | ⟨i, o, c, rfl⟩ <;> rfl
    simp -implicitDefEqProofs only [↓SS, Nat.zero_add, Nat.add_zero, Bool.not_true, Bool.not_false, ↓u20b, ↓u20_0, ↓u20_1, ↓u20_2, ↓u20_3, ↓u20_4, ↓u20_5, ↓m6_mk, ↓k6_mk, ↓u20r_mk, ↓a1, ↓ne_has, decide_eq_true h0, ↓h2.g1, ↓hlk, ↓outU_f, ↓hf, ↓c1, Dk.read, if_neg hh]
end Go.Proofs.Ythclmjelknibhaa.Ev
/- What many laws need: literals, cuts, rows of noughts. -/
namespace Go.Proofs.Ythclmjelknibhaa.Ev
open Go Go.RowKit
set_option linter.unusedVariables false
set_option linter.constructorNameAsVariable false
set_option linter.unusedSimpArgs false
set_option linter.unusedSectionVars false

theorem newD_k {z : Int} {k : Nat} (h : z = k) (hk : k ≤ 60000) : newD z = ⟨k, [], false, 0, 0, false⟩ := by
  subst h
  unfold newD
  have : (min (max (k : Int) 0) 60000).toNat = k := by omega
  rw [this]
theorem nm_lit {k : List Nat} (h1 : k.all (fun x => decide (x < 256)) = true) (h2 : k.length ≤ 1000000) : Nm k := ⟨fun x hx => by simpa using List.all_eq_true.mp h1 x hx, h2⟩
theorem lit_by {el : Nat} (l : List Nat) (F : FAW) (hw : Wf F) : By (F.new (l.map FV.b) el 1) (.l F.x 0 l.length l.length) l :=
  .inr ⟨F.x, 0, l.length, el, F.x, false, l.map FV.b, rfl, Nat.le_refl _, by rw [row_new, if_pos rfl], by rw [List.drop_zero, List.take_of_length_le (by simp)], by simp⟩
theorem unfresh {F F1 F2 : FAW} {d m : Nat} (hw : Wf F) (h : Sq F F1) (hd : F.x ≤ d) (hm : F.x ≤ m) (k : Sg F1 F2 (· = d) No (· = m)) : Sq F F2 :=
  h.fresh hw k (fun j hj q => by omega) (fun j hj q => q) (fun j hj q => by omega)
theorem Sl.sg {F F' : FAW} {v : FV} {cs : List FV} (h : Sl F v cs) {A B M : Nat → Prop} (hs : Sg F F' A B M) (hA : ∀ i r e m o, F.row i = some (r, e, 1, m, o) → ¬ A i) : Sl F' v cs := by
  rcases h with h | ⟨i, o, c, el, m, ro, cells, h1, h2, h3, h4⟩
  · exact .inl h
  · exact .inr ⟨i, o, c, el, m, ro, cells, h1, hs.row _ _ (hA _ _ _ _ _ h2) h2, h3, h4⟩
theorem mkz_ok {F : FAW} (hw : Wf F) (k : Nat) (hk : k ≤ 3000000) : (∀ f : KU, uMksF 5 1 1 [.b 0] (.n k) (.n k) F f = f (.l F.x 0 k k) (F.new ((List.replicate k 0).map FV.b) 5 1)) ∧ By (F.new ((List.replicate k 0).map FV.b) 5 1) (.l F.x 0 k k) (List.replicate k 0) := by
  refine ⟨fun f => ?_, ?_⟩
  · have e : uMksF 5 1 1 [.b 0] (.n k) (.n k) F f = cn (an (Nat.ble k k) (an (Nat.ble k 140737488355328) (Nat.ble (Nat.mul k 1) 281474976710656))) (newU (repU [.b 0] k) 5 1 F fun i F' => f (.l i 0 k k) F') .no := rfl
    have e1 : an (Nat.ble k k) (an (Nat.ble k 140737488355328) (Nat.ble (Nat.mul k 1) 281474976710656)) = true := by
      rw [an_eq, an_eq, bleU, bleU, bleU, decide_eq_true (Nat.le_refl k), decide_eq_true (show k ≤ 140737488355328 by omega), decide_eq_true (show Nat.mul k 1 ≤ 281474976710656 by show k * 1 ≤ _; omega)]; rfl
    rw [e, e1, cn_true, repU_rep, newU_new, List.map_replicate]
  · have := lit_by (el := 5) (List.replicate k 0) F hw
    rwa [List.length_replicate] at this
theorem By.at {F : FAW} {v : FV} {l : List Nat} (h : By F v l) {k x : Nat} (hk : l[k]? = some x) : ∃ i o, (∀ (G : FAW) (f : KU), uIad 1 v (.n k) G f = f (.p i o) G) ∧ ∀ F', By F' v l → ∀ f : KU, uLd none (.p i o) F' f = f (.b x) F' := by
  obtain ⟨hlt, _⟩ := List.getElem?_eq_some_iff.mp hk
  rcases h.cases with ⟨_, rfl⟩ | ⟨i, o, c, rfl⟩
  · simp at hk
  · refine ⟨i, o + k * 1, fun G f => uIad_l _ _ hlt, fun F' h' f => ?_⟩
    have := h'.get hk f
    rw [uIad_l _ _ hlt] at this
    exact this
end Go.Proofs.Ythclmjelknibhaa.Ev
