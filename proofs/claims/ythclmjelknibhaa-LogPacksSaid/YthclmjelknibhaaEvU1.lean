/- Values and memory in a plain form, for the kernel: what is known of memory alone; it may be forgotten at will. -/
import Derived.Test.YthclmjelknibhaaEv30
namespace Go.Proofs.Ythclmjelknibhaa.Ev
open Go Go.RowKit
set_option linter.unusedVariables false
set_option linter.constructorNameAsVariable false
set_option linter.unusedSimpArgs false
set_option linter.unusedSectionVars false

inductive FV where
  | n (m : Nat)
  | b (m : Nat)
  | i (k : IntKind) (z : Int)
  | t (x : Bool)
  | s (l : List Nat)
  | p (i o : Nat)
  | l (i o n c : Nat)
  | m (i : Nat)
  | np
  | nl
  | nm
  | nf
  | f (g : FuncId) (a c : List FV)
  | a (cs : List FV)
  | u (cs : List FV)
  | x
  | v (x : Value)
mutual
def toV : FV → Value
  | .n m => .int .i64 (.ofNat m)
  | .b m => .int .u8 (.ofNat m)
  | .i k z => .int k z
  | .t x => .bool x
  | .s l => .string ⟨⟨l.map UInt8.ofNat⟩⟩
  | .p i o => .pointer (some ⟨i, o, none⟩)
  | .l i o n c => .slice (some ⟨i, o, none⟩) n c
  | .m i => .map (some i)
  | .np => .pointer none
  | .nl => .slice none 0 0
  | .nm => .map none
  | .nf => .nilFunc
  | .f g a c => .func (.func g) (toVs a).toArray (toVs c).toArray
  | .a cs => .agg (toVs cs).toArray
  | .u cs => .tuple (toVs cs).toArray
  | .x => bad
  | .v x => x
def toVs : List FV → List Value
  | [] => []
  | a :: l => toV a :: toVs l
end
theorem toVs_map : ∀ l : List FV, toVs l = l.map toV
  | [] => by simp only [toVs, List.map_nil]
  | a :: l => by simp only [toVs, List.map_cons, toVs_map l]
theorem toVs_length (l : List FV) : (toVs l).length = l.length := by rw [toVs_map, List.length_map]

/-- Values in the plain form. -/
def ofV0 : Value → FV
  | .int .i64 (.ofNat m) => .n m
  | .int .u8 (.ofNat m) => .b m
  | .int k z => .i k z
  | .bool b => .t b
  | .string s => .s (s.data.toList.map UInt8.toNat)
  | .pointer none => .np
  | .pointer (some ⟨i, o, none⟩) => .p i o
  | .slice none 0 0 => .nl
  | .slice (some ⟨i, o, none⟩) n c => .l i o n c
  | .map none => .nm
  | .map (some i) => .m i
  | .nilFunc => .nf
  | v => .v v
theorem toV_ofV0 (v : Value) : toV (ofV0 v) = v := by
  unfold ofV0
  split <;> simp only [toV]
  rename_i s
  congr 1
  cases s with
  | mk d =>
    congr 1
    apply Array.ext'
    simp only [List.map_map]
    have : (UInt8.ofNat ∘ UInt8.toNat) = id := by funext x; simp
    rw [this]; simp
def ofV (v : Value) : FV :=
  match v with
  | .agg cs => .a (cs.toList.map ofV0)
  | v => ofV0 v
theorem toV_ofV (v : Value) : toV (ofV v) = v := by
  unfold ofV
  split
  · rename_i cs
    simp only [toV, toVs_map, List.map_map]
    have : (toV ∘ ofV0) = id := by funext x; exact toV_ofV0 x
    rw [this]; simp
  · exact toV_ofV0 _

/-- Rows and maps that are known. -/
inductive HL where
  | nil
  | cell (i : Nat) (c : List FV) (elem es fam : Nat) (ro : Bool) (r : HL)
  | map (i : Nat) (es : List (FV × FV)) (r : HL)
/-- Families that are known. -/
inductive FL where
  | nil
  | fam (i : Nat) (multi : Bool) (ext : Nat) (r : FL)
structure FAW where
  h : HL
  fs : FL
  x : Nat
inductive RU where
  | no
  | ok (v : FV) (S : FAW)

def toEs (es : List (FV × FV)) : List (Value × Value) := es.map fun p => (toV p.1, toV p.2)
def freshH (i : Nat) : HL → Prop
  | .nil => True
  | .cell j _ _ _ _ _ r => j ≠ i ∧ freshH i r
  | .map j _ r => j ≠ i ∧ freshH i r
def freshF (i : Nat) : FL → Prop
  | .nil => True
  | .fam j _ _ r => j ≠ i ∧ freshF i r
def RowOk (S : AW) (i : Nat) (c : List FV) (elem es fam : Nat) (ro : Bool) : Prop := ∃ r, S.raw i = some r ∧ r.c = toVs c ∧ r.elem = elem ∧ r.es = es ∧ r.fam = fam ∧ r.ro = ro
def FamOk (S : AW) (i : Nat) (multi : Bool) (ext : Nat) : Prop := ∃ g, S.fam i = ⟨multi, g, ext⟩
def HOk (S : AW) : HL → Prop
  | .nil => True
  | .cell i c elem es fam ro r => RowOk S i c elem es fam ro ∧ i < S.next ∧ freshH i r ∧ HOk S r
  | .map i es r => S.mapv i = some (toEs es) ∧ i < S.next ∧ freshH i r ∧ HOk S r
def FOk (S : AW) : FL → Prop
  | .nil => True
  | .fam i multi ext r => FamOk S i multi ext ∧ i < S.next ∧ freshF i r ∧ FOk S r
structure UR (F : FAW) (S : AW) : Prop where
  next : F.x = S.next
  h : HOk S F.h
  f : FOk S F.fs

/-- What is known stands in another memory, too. -/
theorem HOk.mono {S S' : AW} (hn : S.next ≤ S'.next) : ∀ {l : HL}, HOk S l → (∀ i c e s m o, RowOk S i c e s m o → i < S.next → RowOk S' i c e s m o) → (∀ i es, S.mapv i = some es → i < S.next → S'.mapv i = some es) → HOk S' l
  | .nil, _, _, _ => trivial
  | .cell i c e s m o r, ⟨h1, h2, h3, h4⟩, k1, k2 => ⟨k1 _ _ _ _ _ _ h1 h2, Nat.lt_of_lt_of_le h2 hn, h3, HOk.mono hn h4 k1 k2⟩
  | .map i es r, ⟨h1, h2, h3, h4⟩, k1, k2 => ⟨k2 _ _ h1 h2, Nat.lt_of_lt_of_le h2 hn, h3, HOk.mono hn h4 k1 k2⟩
/-- What all rows share. -/
def AllH (P : Nat → Nat → Prop) : HL → Prop
  | .nil => True
  | .cell i _ _ _ m _ r => P i m ∧ AllH P r
  | .map _ _ r => AllH P r
theorem allH_true : ∀ l : HL, AllH (fun _ _ => True) l
  | .nil => trivial
  | .cell _ _ _ _ _ _ r => ⟨trivial, allH_true r⟩
  | .map _ _ r => allH_true r
/-- The same, but for the row that is told anew. -/
theorem HOk.mono2 {S S' : AW} (hn : S.next ≤ S'.next) (i0 : Nat) (P : Nat → Nat → Prop) : ∀ {l : HL}, HOk S l → AllH P l → freshH i0 l → (∀ i c e s m o, i ≠ i0 → P i m → RowOk S i c e s m o → RowOk S' i c e s m o) → (∀ i es, i ≠ i0 → S.mapv i = some es → S'.mapv i = some es) → HOk S' l
  | .nil, _, _, _, _, _ => trivial
  | .cell i c e s m o r, ⟨h1, h2, h3, h4⟩, hp, hf, k1, k2 => ⟨k1 _ _ _ _ _ _ hf.1 hp.1 h1, Nat.lt_of_lt_of_le h2 hn, h3, HOk.mono2 hn i0 P h4 hp.2 hf.2 k1 k2⟩
  | .map i es r, ⟨h1, h2, h3, h4⟩, hp, hf, k1, k2 => ⟨k2 _ _ hf.1 h1, Nat.lt_of_lt_of_le h2 hn, h3, HOk.mono2 hn i0 P h4 hp hf.2 k1 k2⟩
theorem FOk.mono {S S' : AW} (hn : S.next ≤ S'.next) : ∀ {l : FL}, FOk S l → (∀ i m e, FamOk S i m e → i < S.next → FamOk S' i m e) → FOk S' l
  | .nil, _, _ => trivial
  | .fam i m e r, ⟨h1, h2, h3, h4⟩, k => ⟨k _ _ _ h1 h2, Nat.lt_of_lt_of_le h2 hn, h3, FOk.mono hn h4 k⟩
theorem FOk.mono2 {S S' : AW} (hn : S.next ≤ S'.next) (i0 : Nat) : ∀ {l : FL}, FOk S l → freshF i0 l → (∀ i m e, i ≠ i0 → FamOk S i m e → FamOk S' i m e) → FOk S' l
  | .nil, _, _, _ => trivial
  | .fam i m e r, ⟨h1, h2, h3, h4⟩, hf, k => ⟨k _ _ _ hf.1 h1, Nat.lt_of_lt_of_le h2 hn, h3, FOk.mono2 hn i0 h4 hf.2 k⟩
theorem HOk.fresh {S : AW} : ∀ {l : HL}, HOk S l → ∀ {i : Nat}, S.next ≤ i → freshH i l
  | .nil, _, _, _ => trivial
  | .cell j c e s m o r, ⟨_, h2, _, h4⟩, i, hi => ⟨by omega, HOk.fresh h4 hi⟩
  | .map j es r, ⟨_, h2, _, h4⟩, i, hi => ⟨by omega, HOk.fresh h4 hi⟩
theorem FOk.fresh {S : AW} : ∀ {l : FL}, FOk S l → ∀ {i : Nat}, S.next ≤ i → freshF i l
  | .nil, _, _, _ => trivial
  | .fam j m e r, ⟨_, h2, _, h4⟩, i, hi => ⟨by omega, FOk.fresh h4 hi⟩

-- steps that the kernel takes quickly
noncomputable def cn (b : Bool) (x y : RU) : RU := Bool.rec (motive := fun _ => RU) y x b
theorem cn_true {x y : RU} : cn true x y = x := rfl
theorem cn_false {x y : RU} : cn false x y = y := rfl
noncomputable def fN (n : Nat) (f : Nat → RU) : RU := Nat.rec (motive := fun _ => RU) (f 0) (fun m _ => f (Nat.succ m)) n
theorem fN_eq (n : Nat) (f : Nat → RU) : fN n f = f n := by cases n <;> rfl
noncomputable def an (a b : Bool) : Bool := Bool.rec (motive := fun _ => Bool) false b a
theorem an_eq (a b : Bool) : an a b = (a && b) := by cases a <;> rfl
noncomputable def nt (a : Bool) : Bool := Bool.rec (motive := fun _ => Bool) true false a
theorem nt_eq (a : Bool) : nt a = !a := by cases a <;> rfl
theorem beqU (m n : Nat) : Nat.beq m n = decide (m = n) := by
  rw [Bool.eq_iff_iff]
  simp [Nat.beq_eq]
noncomputable def ltN (m n : Nat) : Bool := Nat.ble (Nat.succ m) n
theorem ltN_eq (m n : Nat) : ltN m n = decide (m < n) := by
  unfold ltN
  rw [Bool.eq_iff_iff]
  simp [Nat.ble_eq]
  omega
theorem bleU (m n : Nat) : Nat.ble m n = decide (m ≤ n) := by
  rw [Bool.eq_iff_iff]
  simp [Nat.ble_eq]
/-- A test that holds. -/
theorem cn_inv {b : Bool} {x : RU} {v : FV} {S : FAW} (h : cn b x .no = .ok v S) : b = true ∧ x = .ok v S := by
  cases b with
  | false => cases h
  | true => exact ⟨rfl, h⟩

-- lists
noncomputable def lenU {α : Type} (l : List α) : Nat := List.rec (motive := fun _ => Nat) 0 (fun _ _ n => Nat.succ n) l
theorem lenU_eq {α : Type} : ∀ l : List α, lenU l = l.length
  | [] => rfl
  | a :: l => by
    show Nat.succ (lenU l) = _
    rw [lenU_eq l]; rfl
noncomputable def catU {α : Type} (a b : List α) : (List α → RU) → RU :=
  List.rec (motive := fun _ => (List α → RU) → RU) (fun f => f b) (fun x _ ih f => ih fun l => f (x :: l)) a
theorem catU_eq {α : Type} : ∀ (a b : List α) (f : List α → RU), catU a b f = f (a ++ b)
  | [], b, f => rfl
  | x :: a, b, f => (catU_eq a b fun l => f (x :: l))
noncomputable def nthU {α : Type} (l : List α) : Nat → (α → RU) → RU :=
  List.rec (motive := fun _ => Nat → (α → RU) → RU) (fun _ _ => .no) (fun a _ ih n f => Nat.rec (motive := fun _ => RU) (f a) (fun m _ => ih m f) n) l
theorem nthU_inv {α : Type} : ∀ {l : List α} {n : Nat} {f : α → RU} {v : FV} {S : FAW}, nthU l n f = .ok v S → ∃ a, l[n]? = some a ∧ f a = .ok v S
  | [], n, f, v, S, h => by cases h
  | a :: l, 0, f, v, S, h => ⟨a, by simp, h⟩
  | a :: l, n + 1, f, v, S, h => by
    obtain ⟨b, h1, h2⟩ := nthU_inv (l := l) (n := n) (show nthU l n f = .ok v S from h)
    exact ⟨b, by simpa using h1, h2⟩
/-- What stands behind the first n, if there are so many. -/
noncomputable def dropU {α : Type} (l : List α) : Nat → (List α → RU) → RU :=
  List.rec (motive := fun _ => Nat → (List α → RU) → RU) (fun n f => Nat.rec (motive := fun _ => RU) (f []) (fun _ _ => .no) n) (fun a l ih n f => Nat.rec (motive := fun _ => RU) (f (a :: l)) (fun m _ => ih m f) n) l
theorem dropU_inv {α : Type} : ∀ {l : List α} {n : Nat} {f : List α → RU} {v : FV} {S : FAW}, dropU l n f = .ok v S → n ≤ l.length ∧ f (l.drop n) = .ok v S
  | [], 0, f, v, S, h => ⟨Nat.le_refl _, h⟩
  | [], n + 1, f, v, S, h => by cases h
  | a :: l, 0, f, v, S, h => ⟨Nat.zero_le _, h⟩
  | a :: l, n + 1, f, v, S, h => by
    obtain ⟨h1, h2⟩ := dropU_inv (l := l) (n := n) (show dropU l n f = .ok v S from h)
    exact ⟨by simp only [List.length_cons]; omega, by simpa using h2⟩
/-- Just so many of a list. -/
noncomputable def takeU {α : Type} (l : List α) : Nat → (List α → RU) → RU :=
  List.rec (motive := fun _ => Nat → (List α → RU) → RU) (fun n f => Nat.rec (motive := fun _ => RU) (f []) (fun _ _ => .no) n) (fun a _ ih n f => Nat.rec (motive := fun _ => RU) (f []) (fun m _ => ih m fun r => f (a :: r)) n) l
theorem takeU_inv {α : Type} : ∀ {l : List α} {n : Nat} {f : List α → RU} {v : FV} {S : FAW}, takeU l n f = .ok v S → n ≤ l.length ∧ f (l.take n) = .ok v S
  | [], 0, f, v, S, h => ⟨Nat.le_refl _, h⟩
  | [], n + 1, f, v, S, h => by cases h
  | a :: l, 0, f, v, S, h => ⟨Nat.zero_le _, h⟩
  | a :: l, n + 1, f, v, S, h => by
    obtain ⟨h1, h2⟩ := takeU_inv (l := l) (n := n) (show takeU l n (fun r => f (a :: r)) = .ok v S from h)
    exact ⟨by simp only [List.length_cons]; omega, by simpa using h2⟩

-- memory
noncomputable def findH (h : HL) (i : Nat) (f : List FV → Nat → Nat → Nat → Bool → RU) : RU :=
  HL.rec (motive := fun _ => RU) .no (fun j c e s m o _ ih => cn (Nat.beq i j) (f c e s m o) ih) (fun _ _ _ ih => ih) h
theorem findH_inv {S : AW} : ∀ {l : HL}, HOk S l → ∀ {i : Nat} {f : List FV → Nat → Nat → Nat → Bool → RU} {v : FV} {R : FAW}, findH l i f = .ok v R → ∃ c e s m o, RowOk S i c e s m o ∧ f c e s m o = .ok v R
  | .nil, _, i, f, v, R, h => by cases h
  | .cell j c e s m o r, ⟨h1, _, _, h4⟩, i, f, v, R, h => by
    have h : cn (Nat.beq i j) (f c e s m o) (findH r i f) = .ok v R := h
    rw [beqU] at h
    by_cases hij : i = j
    · subst hij
      simp only [decide_true, cn_true] at h
      exact ⟨c, e, s, m, o, h1, h⟩
    · simp only [hij, decide_false, cn_false] at h
      exact findH_inv h4 h
  | .map j es r, ⟨_, _, _, h4⟩, i, f, v, R, h => findH_inv h4 (show findH r i f = .ok v R from h)
noncomputable def findM (h : HL) (i : Nat) (f : List (FV × FV) → RU) : RU :=
  HL.rec (motive := fun _ => RU) .no (fun _ _ _ _ _ _ _ ih => ih) (fun j es _ ih => cn (Nat.beq i j) (f es) ih) h
theorem findM_inv {S : AW} : ∀ {l : HL}, HOk S l → ∀ {i : Nat} {f : List (FV × FV) → RU} {v : FV} {R : FAW}, findM l i f = .ok v R → ∃ es, S.mapv i = some (toEs es) ∧ f es = .ok v R
  | .nil, _, i, f, v, R, h => by cases h
  | .cell j c e s m o r, ⟨_, _, _, h4⟩, i, f, v, R, h => findM_inv h4 (show findM r i f = .ok v R from h)
  | .map j es r, ⟨h1, _, _, h4⟩, i, f, v, R, h => by
    have h : cn (Nat.beq i j) (f es) (findM r i f) = .ok v R := h
    rw [beqU] at h
    by_cases hij : i = j
    · subst hij
      simp only [decide_true, cn_true] at h
      exact ⟨es, h1, h⟩
    · simp only [hij, decide_false, cn_false] at h
      exact findM_inv h4 h
noncomputable def findF (l : FL) (i : Nat) (f : Bool → Nat → RU) : RU :=
  FL.rec (motive := fun _ => RU) .no (fun j m e _ ih => cn (Nat.beq i j) (f m e) ih) l
theorem findF_inv {S : AW} : ∀ {l : FL}, FOk S l → ∀ {i : Nat} {f : Bool → Nat → RU} {v : FV} {R : FAW}, findF l i f = .ok v R → ∃ m e, FamOk S i m e ∧ f m e = .ok v R
  | .nil, _, i, f, v, R, h => by cases h
  | .fam j m e r, ⟨h1, _, _, h4⟩, i, f, v, R, h => by
    have h : cn (Nat.beq i j) (f m e) (findF r i f) = .ok v R := h
    rw [beqU] at h
    by_cases hij : i = j
    · subst hij
      simp only [decide_true, cn_true] at h
      exact ⟨m, e, h1, h⟩
    · simp only [hij, decide_false, cn_false] at h
      exact findF_inv h4 h
/-- A row's cells told anew; the rows of its family may be forgotten. -/
noncomputable def setH (i : Nat) (d : List FV) (h : HL) : (HL → RU) → RU :=
  HL.rec (motive := fun _ => (HL → RU) → RU) (fun _ => .no) (fun j c e s m o r ih f => cn (Nat.beq i j) (f (.cell j d e s m o r)) (ih fun r => f (.cell j c e s m o r))) (fun j es _ ih f => ih fun r => f (.map j es r)) h
noncomputable def setM (i : Nat) (d : List (FV × FV)) (h : HL) : (HL → RU) → RU :=
  HL.rec (motive := fun _ => (HL → RU) → RU) (fun _ => .no) (fun j c e s m o _ ih f => ih fun r => f (.cell j c e s m o r)) (fun j es r ih f => cn (Nat.beq i j) (f (.map j d r)) (ih fun r => f (.map j es r))) h
noncomputable def setF (i : Nat) (mu : Bool) (ex : Nat) (l : FL) : (FL → RU) → RU :=
  FL.rec (motive := fun _ => (FL → RU) → RU) (fun _ => .no) (fun j m e r ih f => cn (Nat.beq i j) (f (.fam j mu ex r)) (ih fun r => f (.fam j m e r))) l
noncomputable def lessH (fm i : Nat) (h : HL) : HL :=
  HL.rec (motive := fun _ => HL) .nil (fun j c e s m o _ ih => Bool.rec (motive := fun _ => HL) (.cell j c e s m o ih) ih (an (Nat.beq m fm) (nt (Nat.beq i j)))) (fun j es _ ih => .map j es ih) h
theorem setH_inv {S S' : AW} (hn : S.next = S'.next) {i : Nat} {d : List FV} (P : Nat → Nat → Prop) (hi : ∀ c e s m o, RowOk S i c e s m o → RowOk S' i d e s m o) (ho : ∀ j c e s m o, j ≠ i → P j m → RowOk S j c e s m o → RowOk S' j c e s m o) (hm : ∀ j es, j ≠ i → S.mapv j = some es → S'.mapv j = some es) (hr : ∀ es, S.mapv i ≠ some es) :
    ∀ {l : HL}, HOk S l → AllH P l → ∀ {f : HL → RU} {v : FV} {R : FAW}, setH i d l f = .ok v R → ∃ l', HOk S' l' ∧ (∀ j, freshH j l → freshH j l') ∧ f l' = .ok v R
  | .nil, _, _, f, v, R, h => by cases h
  | .cell j c e s m o r, ⟨h1, h2, h3, h4⟩, hp, f, v, R, h => by
    have h : cn (Nat.beq i j) (f (.cell j d e s m o r)) (setH i d r fun r => f (.cell j c e s m o r)) = .ok v R := h
    rw [beqU] at h
    by_cases hij : i = j
    · subst hij
      simp only [decide_true, cn_true] at h
      exact ⟨.cell i d e s m o r, ⟨hi _ _ _ _ _ h1, by omega, h3, HOk.mono2 (by omega) i P h4 hp.2 h3 ho hm⟩, fun j hj => hj, h⟩
    · simp only [hij, decide_false, cn_false] at h
      obtain ⟨l', a1, a2, a3⟩ := setH_inv hn P hi ho hm hr h4 hp.2 h
      exact ⟨.cell j c e s m o l', ⟨ho _ _ _ _ _ _ (Ne.symm hij) hp.1 h1, by omega, a2 _ h3, a1⟩, fun k hk => ⟨hk.1, a2 _ hk.2⟩, a3⟩
  | .map j es r, ⟨h1, h2, h3, h4⟩, hp, f, v, R, h => by
    obtain ⟨l', a1, a2, a3⟩ := setH_inv hn P hi ho hm hr h4 hp (show setH i d r (fun r => f (.map j es r)) = .ok v R from h)
    have hji : j ≠ i := by rintro rfl; exact hr _ h1
    exact ⟨.map j es l', ⟨hm _ _ hji h1, by omega, a2 _ h3, a1⟩, fun k hk => ⟨hk.1, a2 _ hk.2⟩, a3⟩
theorem setM_inv {S S' : AW} (hn : S.next = S'.next) {i : Nat} {d : List (FV × FV)} (hi : S'.mapv i = some (toEs d)) (ho : ∀ j c e s m o, j ≠ i → RowOk S j c e s m o → RowOk S' j c e s m o) (hm : ∀ j es, j ≠ i → S.mapv j = some es → S'.mapv j = some es) (hr : ∀ c e s m o, ¬ RowOk S i c e s m o) :
    ∀ {l : HL}, HOk S l → ∀ {f : HL → RU} {v : FV} {R : FAW}, setM i d l f = .ok v R → ∃ l', HOk S' l' ∧ (∀ j, freshH j l → freshH j l') ∧ f l' = .ok v R
  | .nil, _, f, v, R, h => by cases h
  | .map j es r, ⟨h1, h2, h3, h4⟩, f, v, R, h => by
    have h : cn (Nat.beq i j) (f (.map j d r)) (setM i d r fun r => f (.map j es r)) = .ok v R := h
    rw [beqU] at h
    by_cases hij : i = j
    · subst hij
      simp only [decide_true, cn_true] at h
      exact ⟨.map i d r, ⟨hi, by omega, h3, HOk.mono2 (by omega) i (fun _ _ => True) h4 (allH_true _) h3 (fun j c e s m o hj _ hr => ho j c e s m o hj hr) hm⟩, fun j hj => hj, h⟩
    · simp only [hij, decide_false, cn_false] at h
      obtain ⟨l', a1, a2, a3⟩ := setM_inv hn hi ho hm hr h4 h
      exact ⟨.map j es l', ⟨hm _ _ (Ne.symm hij) h1, by omega, a2 _ h3, a1⟩, fun k hk => ⟨hk.1, a2 _ hk.2⟩, a3⟩
  | .cell j c e s m o r, ⟨h1, h2, h3, h4⟩, f, v, R, h => by
    obtain ⟨l', a1, a2, a3⟩ := setM_inv hn hi ho hm hr h4 (show setM i d r (fun r => f (.cell j c e s m o r)) = .ok v R from h)
    have hji : j ≠ i := by rintro rfl; exact hr _ _ _ _ _ h1
    exact ⟨.cell j c e s m o l', ⟨ho _ _ _ _ _ _ hji h1, by omega, a2 _ h3, a1⟩, fun k hk => ⟨hk.1, a2 _ hk.2⟩, a3⟩
theorem setF_inv {S S' : AW} (hn : S.next ≤ S'.next) {i : Nat} {mu : Bool} {ex : Nat} (hi : FamOk S' i mu ex) (ho : ∀ j m e, j ≠ i → FamOk S j m e → FamOk S' j m e) :
    ∀ {l : FL}, FOk S l → ∀ {f : FL → RU} {v : FV} {R : FAW}, setF i mu ex l f = .ok v R → ∃ l', FOk S' l' ∧ (∀ j, freshF j l → freshF j l') ∧ f l' = .ok v R
  | .nil, _, f, v, R, h => by cases h
  | .fam j m e r, ⟨h1, h2, h3, h4⟩, f, v, R, h => by
    have h : cn (Nat.beq i j) (f (.fam j mu ex r)) (setF i mu ex r fun r => f (.fam j m e r)) = .ok v R := h
    rw [beqU] at h
    by_cases hij : i = j
    · subst hij
      simp only [decide_true, cn_true] at h
      exact ⟨.fam i mu ex r, ⟨hi, by omega, h3, FOk.mono2 hn i h4 h3 ho⟩, fun j hj => hj, h⟩
    · simp only [hij, decide_false, cn_false] at h
      obtain ⟨l', a1, a2, a3⟩ := setF_inv hn hi ho h4 h
      exact ⟨.fam j m e l', ⟨ho _ _ _ (Ne.symm hij) h1, by omega, a2 _ h3, a1⟩, fun k hk => ⟨hk.1, a2 _ hk.2⟩, a3⟩
/-- Rows of a family are left out. -/
theorem lessH_ok {S : AW} {fm i : Nat} : ∀ {l : HL}, HOk S l → HOk S (lessH fm i l) ∧ (∀ j, freshH j l → freshH j (lessH fm i l)) ∧ AllH (fun j m => j = i ∨ m ≠ fm) (lessH fm i l)
  | .nil, _ => ⟨trivial, fun _ _ => trivial, trivial⟩
  | .cell j c e s m o r, ⟨h1, h2, h3, h4⟩ => by
    obtain ⟨a1, a2, a3⟩ := lessH_ok (fm := fm) (i := i) h4
    have hd : lessH fm i (.cell j c e s m o r) = Bool.rec (motive := fun _ => HL) (.cell j c e s m o (lessH fm i r)) (lessH fm i r) (an (Nat.beq m fm) (nt (Nat.beq i j))) := rfl
    rw [hd]
    cases hb : an (Nat.beq m fm) (nt (Nat.beq i j)) with
    | true => exact ⟨a1, fun k hk => a2 k hk.2, a3⟩
    | false =>
      refine ⟨⟨h1, h2, a2 _ h3, a1⟩, fun k hk => ⟨hk.1, a2 k hk.2⟩, ⟨?_, a3⟩⟩
      rw [an_eq, nt_eq, beqU, beqU] at hb
      by_cases hij : j = i
      · exact .inl hij
      · refine .inr fun hm => ?_
        simp [hm, Ne.symm hij] at hb
  | .map j es r, ⟨h1, h2, h3, h4⟩ => by
    obtain ⟨a1, a2, a3⟩ := lessH_ok (fm := fm) (i := i) h4
    exact ⟨⟨h1, h2, a2 _ h3, a1⟩, fun k hk => ⟨hk.1, a2 k hk.2⟩, a3⟩
end Go.Proofs.Ythclmjelknibhaa.Ev
