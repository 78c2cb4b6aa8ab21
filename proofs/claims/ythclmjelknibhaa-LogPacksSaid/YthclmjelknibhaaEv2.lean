/- Our memory: objects by number; how it stands to the model's memory; the steps that keep the two together. -/
import Derived.Test.YthclmjelknibhaaEv1
namespace Go.Proofs.Ythclmjelknibhaa.Ev
open Go Go.RowKit
set_option linter.unusedVariables false
set_option linter.unusedSimpArgs false
set_option linter.unusedSectionVars false

/-- A row of cells: what is in them (bad: unknown), its element's type, cells an element, its family (rows that may share memory), its age there; ro: not to be written. -/
structure Raw where
  c : List Value
  elem : TypeId
  es : Nat
  fam : Nat
  gen : Nat
  ro : Bool
inductive AObj where
  | cells (r : Raw)
  | map (es : List (Value × Value))
structure Fam where
  multi : Bool
  g : Nat
  ext : Nat
structure AW where
  heap : List (Nat × AObj)
  fams : List (Nat × Fam)
  next : Nat
  bs : List (Nat × (List Nat × Nat))

def look {α : Type} : List (Nat × α) → Nat → Option α
  | [], _ => none
  | (t, v) :: r, x => if x = t then some v else look r x
def lput {α : Type} : List (Nat × α) → Nat → α → List (Nat × α)
  | [], t, v => [(t, v)]
  | (u, w) :: r, t, v => if t = u then (u, v) :: r else (u, w) :: lput r t v
theorem look_lput {α : Type} : ∀ (l : List (Nat × α)) (t : Nat) (v : α) (x : Nat), look (lput l t v) x = if x = t then some v else look l x
  | [], t, v, x => by simp [lput, look]
  | (u, w) :: r, t, v, x => by
    unfold lput
    by_cases h : t = u
    · subst h
      simp only [if_true, look]
      by_cases hx : x = t <;> simp [hx]
    · simp only [if_neg h, look]
      by_cases hx : x = u
      · subst hx; simp [Ne.symm h]
      · simp [hx, look_lput r t v x]

def AW.obj (S : AW) (i : Nat) : Option AObj := look S.heap i
def AW.fam (S : AW) (i : Nat) : Fam := (look S.fams i).getD ⟨false, 0, 0⟩
/-- A row that may be read. -/
def AW.raw (S : AW) (i : Nat) : Option Raw :=
  match S.obj i with
  | some (.cells r) => if (S.fam r.fam).g ≤ r.gen then some r else none
  | _ => none
def AW.mapv (S : AW) (i : Nat) : Option (List (Value × Value)) :=
  match S.obj i with
  | some (.map es) => some es
  | _ => none
def isBad : Value → Bool
  | .chan _ => true
  | _ => false
def cellOk : Value → Bool
  | .chan _ | .agg _ | .tuple _ => false
  | _ => true
theorem cellOk_bad {v : Value} (h : cellOk v = true) : isBad v = false := by cases v <;> simp_all [cellOk, isBad]

/-- A row is written. -/
def AW.put (S : AW) (i : Nat) (r : Raw) (c : List Value) : AW :=
  let f := S.fam r.fam
  { S with heap := lput S.heap i (.cells { r with c := c, gen := if f.multi then f.g + 1 else r.gen })
           fams := lput S.fams r.fam ⟨false, if f.multi then f.g + 1 else f.g, max f.ext c.length⟩ }
/-- A new row. -/
def AW.new (S : AW) (c : List Value) (elem es : Nat) : AW :=
  { heap := (S.next, .cells ⟨c, elem, es, S.next, 0, false⟩) :: S.heap, fams := (S.next, ⟨false, 0, c.length⟩) :: S.fams, next := S.next + 1, bs := S.bs }
/-- A new row behind an old one's first cells: it may share memory with it. -/
def Raw.grown (r : Raw) (S : AW) (off n : Nat) (c : List Value) : Raw :=
  { r with c := List.replicate off bad ++ (r.c.drop off).take n ++ c, gen := if off + n < (S.fam r.fam).ext then (S.fam r.fam).g + 1 else r.gen }
def AW.grow (S : AW) (r : Raw) (off n : Nat) (c : List Value) : AW :=
  { heap := (S.next, .cells (r.grown S off n c)) :: S.heap
    fams := lput S.fams r.fam (if off + n < (S.fam r.fam).ext then ⟨false, (S.fam r.fam).g + 1, (r.grown S off n c).c.length⟩ else ⟨true, (S.fam r.fam).g, (r.grown S off n c).c.length⟩)
    next := S.next + 1
    bs := S.bs }
def AW.newMap (S : AW) : AW := { S with heap := (S.next, .map []) :: S.heap, next := S.next + 1, bs := (S.next, ([], 0)) :: S.bs }
def AW.putMap (S : AW) (i : Nat) (es : List (Value × Value)) (b : List Nat × Nat) : AW := { S with heap := lput S.heap i (.map es), bs := lput S.bs i b }
/-- When a map's entries were laid in; its clock. -/
def AW.bir (S : AW) (i : Nat) : List Nat × Nat := (look S.bs i).getD ([], 0)
structure BRel (b : List Nat × Nat) (ms : List MapEntry) (ck : Nat) : Prop where
  born : b.1 = ms.map (·.born)
  clock : b.2 = ck
  rise : b.1.Pairwise (· < ·)
  lt : ∀ x ∈ b.1, x < ck
theorem eraseIdx_mapB {α β : Type} (f : α → β) : ∀ (l : List α) (j : Nat), (l.map f).eraseIdx j = (l.eraseIdx j).map f
  | [], _ => rfl
  | a :: l, 0 => rfl
  | a :: l, j + 1 => by
    rw [List.map_cons, List.eraseIdx_cons_succ, List.eraseIdx_cons_succ, List.map_cons, eraseIdx_mapB f l j]
theorem BRel.push {b : List Nat × Nat} {ms : Array MapEntry} {ck : Nat} (h : BRel b ms.toList ck) (k v : Value) : BRel (b.1 ++ [b.2], b.2 + 1) (ms.push { key := k, val := v, born := ck }).toList (ck + 1) := by
  obtain ⟨h1, h2, h3, h4⟩ := h
  refine ⟨by simp [h1, h2], by simp [h2], ?_, ?_⟩
  · rw [List.pairwise_append]
    exact ⟨h3, by simp, fun x hx y hy => by simp at hy; rw [hy, h2]; exact h4 x hx⟩
  · intro x hx
    simp only [List.mem_append, List.mem_singleton] at hx
    rcases hx with hx | hx
    · have := h4 x hx; omega
    · omega
theorem BRel.modify {b : List Nat × Nat} {ms : Array MapEntry} {ck : Nat} (h : BRel b ms.toList ck) (j : Nat) (k v : Value) : BRel b (ms.modify j fun e => { e with key := k, val := v }).toList ck := by
  obtain ⟨h1, h2, h3, h4⟩ := h
  refine ⟨?_, h2, h3, h4⟩
  rw [h1]
  apply List.ext_getElem?
  intro i
  simp only [List.getElem?_map, Array.getElem?_toList, Array.getElem?_modify]
  split
  · cases ms[i]? <;> rfl
  · rfl
theorem BRel.erase {b : List Nat × Nat} {ms : Array MapEntry} {ck : Nat} (h : BRel b ms.toList ck) (j : Nat) : BRel (b.1.eraseIdx j, b.2) (ms.eraseIdxIfInBounds j).toList ck := by
  obtain ⟨h1, h2, h3, h4⟩ := h
  have e : (ms.eraseIdxIfInBounds j).toList = ms.toList.eraseIdx j := by simp
  refine ⟨?_, h2, h3.sublist (List.eraseIdx_sublist _ _), fun x hx => h4 x (List.mem_of_mem_eraseIdx hx)⟩
  rw [e, h1]
  exact eraseIdx_mapB _ _ _

/-- A world, and blocks of it that stand as they are. -/
structure Fz where
  W : World
  z : Nat → Prop
  lt : ∀ i, z i → i < W.heap.size
/-- All of a world's blocks. -/
def Fz.of (W : World) : Fz := ⟨W, fun i => i < W.heap.size, fun _ h => h⟩
/-- They stand. -/
structure Bel (W0 : Fz) (w : World) : Prop where
  os : w.os = W0.W.os
  tape : w.tape = W0.W.tape
  output : w.output = W0.W.output
  size : W0.W.heap.size ≤ w.heap.size
  block : ∀ k, W0.z k → w.heap[k]? = W0.W.heap[k]?
theorem Bel.refl (W0 : Fz) : Bel W0 W0.W := ⟨rfl, rfl, rfl, Nat.le_refl _, fun _ _ => rfl⟩
theorem Bel.drew {W0 : Fz} {w : World} (h : Bel W0 w) : Bel W0 w.drew := ⟨h.os, h.tape, h.output, h.size, h.block⟩
theorem Bel.alloc {W0 : Fz} {w : World} (h : Bel W0 w) (o : Obj) : Bel W0 (w.alloc o) := by
  have k := (Below.refl w.heap.size w).alloc (Nat.le_refl _) o
  exact ⟨k.os.trans h.os, k.tape.trans h.tape, k.output.trans h.output, Nat.le_trans h.size k.size, fun i hi => (k.block i (Nat.lt_of_lt_of_le (W0.lt i hi) h.size)).trans (h.block i hi)⟩
/-- A new block is none of them. -/
theorem Bel.fr {W0 : Fz} {w : World} (h : Bel W0 w) : ¬ W0.z w.heap.size := fun e => by
  have := W0.lt _ e
  have := h.size
  omega
theorem Bel.below {W w : World} (h : Bel (Fz.of W) w) : Below W.heap.size W w := ⟨h.os, h.tape, h.output, h.size, h.block⟩
/-- No cell is frozen; beyond the end one may be. -/
def Nf (F : Nat × Nat) (n : Nat) : Prop := F.1 = F.2 ∨ n ≤ F.1
theorem Nf.not {F : Nat × Nat} {n : Nat} (h : Nf F n) : ∀ k : Nat, k < n → ¬ (F.1 ≤ k ∧ k < F.2) := fun k hk h' => by rcases h with h | h <;> omega
theorem Nf.zero (n : Nat) : Nf (0, 0) n := .inl rfl
/-- A row of ours in the model's memory. -/
structure CRel (W0 : Fz) (ρ : Ren) (p : Place) (r : Raw) (w : World) : Prop where
  es : p.es = r.es
  row : ∃ C F, w.heap[p.blk]? = some (.cells C r.elem F) ∧ C.size = p.size ∧
    (∀ (i : Nat) (v : Value), r.c[i]? = some v → isBad v = false → ∃ (k : Nat) (v' : Value), (k : Int) = i + p.d ∧ C[k]? = some v' ∧ VRel ρ v v') ∧
    (r.ro = false → ¬ W0.z p.blk ∧ Nf F C.size) ∧ (r.ro = true → W0.z p.blk)
/-- A map's entries. -/
def ERel (ρ : Ren) (es : List (Value × Value)) (ms : List MapEntry) : Prop :=
  es.length = ms.length ∧ ∀ i (h : i < es.length) (h' : i < ms.length), VRel ρ es[i].1 ms[i].key ∧ VRel ρ es[i].2 ms[i].val
structure RelW (W0 : Fz) (ρ : Ren) (S : AW) (w : World) : Prop where
  below : Bel W0 w
  fresh : ∀ i, S.next ≤ i → ρ i = none
  objLt : ∀ i o, S.obj i = some o → i < S.next
  famLt : ∀ i r, S.obj i = some (.cells r) → r.fam < S.next
  genLe : ∀ i r, S.obj i = some (.cells r) → r.gen ≤ (S.fam r.fam).g
  blk : ∀ i p, ρ i = some p → p.blk < w.heap.size
  cells : ∀ i p r, ρ i = some p → S.raw i = some r → CRel W0 ρ p r w
  apart : ∀ i j p q r s, i ≠ j → ρ i = some p → ρ j = some q → S.raw i = some r → S.raw j = some s → r.ro = false → s.ro = false → p.blk = q.blk →
    r.fam = s.fam ∧ (S.fam r.fam).multi = true ∧ p.d = q.d
  ext : ∀ i r, S.raw i = some r → r.ro = false → r.c.length ≤ (S.fam r.fam).ext
  maps : ∀ i p es, ρ i = some p → S.mapv i = some es → ¬ W0.z p.blk ∧ ∃ ms ck, w.heap[p.blk]? = some (.map ms ck) ∧ ERel ρ es ms.toList ∧ BRel (S.bir i) ms.toList ck
  mapsApart : ∀ i j p q es fs, i ≠ j → ρ i = some p → ρ j = some q → S.mapv i = some es → S.mapv j = some fs → p.blk ≠ q.blk

/-- A place of its own for a new object. -/
def Ren.add (ρ : Ren) (i : Nat) (p : Place) : Ren := fun j => if j = i then some p else ρ j
theorem Ren.le_add {ρ : Ren} {i : Nat} (p : Place) (h : ρ i = none) : ρ.le (ρ.add i p) := by
  intro j q e
  unfold Ren.add
  split
  · rename_i hj; subst hj; rw [h] at e; cases e
  · exact e
theorem Ren.add_same (ρ : Ren) (i : Nat) (p : Place) : (ρ.add i p) i = some p := if_pos rfl
theorem Ren.add_other {ρ : Ren} {i j : Nat} (p : Place) (h : j ≠ i) : (ρ.add i p) j = ρ j := if_neg h

/-- Places told anew: none is lost, none below n is found. -/
structure Grow (n n' : Nat) (ρ ρ' : Ren) : Prop where
  le : ρ.le ρ'
  keep : ∀ i, i < n → ρ i = none → ρ' i = none
  next : n ≤ n'
theorem Grow.refl (n : Nat) (ρ : Ren) : Grow n n ρ ρ := ⟨Ren.le_refl ρ, fun _ _ h => h, Nat.le_refl n⟩
theorem Grow.trans {n n1 n2 : Nat} {ρ ρ1 ρ2 : Ren} (h : Grow n n1 ρ ρ1) (k : Grow n1 n2 ρ1 ρ2) : Grow n n2 ρ ρ2 :=
  ⟨Ren.le_trans h.le k.le, fun i hi e => k.keep i (Nat.lt_of_lt_of_le hi h.next) (h.keep i hi e), Nat.le_trans h.next k.next⟩
theorem Grow.add {ρ : Ren} {n : Nat} (p : Place) (h : ρ n = none) : Grow n (n + 1) ρ (ρ.add n p) :=
  ⟨Ren.le_add p h, fun i hi e => by rw [Ren.add_other _ (by omega)]; exact e, Nat.le_succ n⟩

theorem CRel.mono {W0 : Fz} {ρ ρ' : Ren} {p : Place} {r : Raw} {w w' : World} (h : CRel W0 ρ p r w) (hle : ρ.le ρ') (hw : w'.heap[p.blk]? = w.heap[p.blk]?) : CRel W0 ρ' p r w' := by
  obtain ⟨C, F, h1, h2, h3, h4⟩ := h.row
  refine ⟨h.es, C, F, hw.trans h1, h2, fun i v hi hb => ?_, h4⟩
  obtain ⟨k, v', e1, e2, e3⟩ := h3 i v hi hb
  exact ⟨k, v', e1, e2, e3.mono hle⟩
theorem ERel.mono {ρ ρ' : Ren} {es : List (Value × Value)} {ms : List MapEntry} (h : ERel ρ es ms) (hle : ρ.le ρ') : ERel ρ' es ms :=
  ⟨h.1, fun i a b => ⟨(h.2 i a b).1.mono hle, (h.2 i a b).2.mono hle⟩⟩

/-- Worlds that differ in what the tape will say alone. -/
theorem RelW.drew {W0 : Fz} {ρ : Ren} {S : AW} {w : World} (h : RelW W0 ρ S w) : RelW W0 ρ S w.drew :=
  ⟨h.below.drew, h.fresh, h.objLt, h.famLt, h.genLe, h.blk, fun i p r hp hr => (h.cells i p r hp hr).mono (Ren.le_refl ρ) rfl, h.apart, h.ext, h.maps, h.mapsApart⟩

theorem heap_alloc_lt (w : World) (o : Obj) {k : Nat} (h : k < w.heap.size) : (w.alloc o).heap[k]? = w.heap[k]? := Below.heap_alloc w o k h
theorem heap_alloc_new (w : World) (o : Obj) : (w.alloc o).heap[w.heap.size]? = some o := by
  show (w.heap.push o)[w.heap.size]? = _
  simp

/-- A block that is none of ours is made. -/
theorem RelW.alloc {W0 : Fz} {ρ : Ren} {S : AW} {w : World} (h : RelW W0 ρ S w) (o : Obj) : RelW W0 ρ S (w.alloc o) :=
  ⟨h.below.alloc o, h.fresh, h.objLt, h.famLt, h.genLe, fun i p hp => by have := h.blk i p hp; simp; omega,
    fun i p r hp hr => (h.cells i p r hp hr).mono (Ren.le_refl ρ) (heap_alloc_lt w o (h.blk i p hp)), h.apart, h.ext,
    fun i p es hp hm => by
      obtain ⟨h1, ms, ck, h2, h3⟩ := h.maps i p es hp hm
      exact ⟨h1, ms, ck, (heap_alloc_lt w o (h.blk i p hp)).trans h2, h3⟩, h.mapsApart⟩

theorem AW.obj_new (S : AW) (c : List Value) (elem es i : Nat) : (S.new c elem es).obj i = if i = S.next then some (.cells ⟨c, elem, es, S.next, 0, false⟩) else S.obj i := rfl
theorem AW.fam_new (S : AW) (c : List Value) (elem es i : Nat) : (S.new c elem es).fam i = if i = S.next then ⟨false, 0, c.length⟩ else S.fam i := by
  show (look ((S.next, _) :: S.fams) i).getD _ = _
  unfold look
  split <;> rfl
theorem AW.raw_some {S : AW} {i : Nat} {r : Raw} (h : S.raw i = some r) : S.obj i = some (.cells r) ∧ (S.fam r.fam).g ≤ r.gen := by
  unfold AW.raw at h
  split at h
  · rename_i r' e
    split at h
    · rename_i hg; simp only [Option.some.injEq] at h; subst h; exact ⟨e, hg⟩
    · cases h
  · cases h
theorem AW.raw_of {S : AW} {i : Nat} {r : Raw} (h : S.obj i = some (.cells r)) (hg : (S.fam r.fam).g ≤ r.gen) : S.raw i = some r := by
  unfold AW.raw; rw [h]; exact if_pos hg
theorem AW.mapv_some {S : AW} {i : Nat} {es : List (Value × Value)} (h : S.mapv i = some es) : S.obj i = some (.map es) := by
  unfold AW.mapv at h
  split at h
  · rename_i e; simp only [Option.some.injEq] at h; subst h; exact e
  · cases h
theorem AW.mapv_of {S : AW} {i : Nat} {es : List (Value × Value)} (h : S.obj i = some (.map es)) : S.mapv i = some es := by unfold AW.mapv; rw [h]

/-- What of the old ones is readable behind a new row. -/
theorem RelW.raw_new {W0 : Fz} {ρ : Ren} {S : AW} {w : World} (h : RelW W0 ρ S w) (c : List Value) (elem es : Nat) {i : Nat} (hi : i ≠ S.next) : (S.new c elem es).raw i = S.raw i := by
  unfold AW.raw
  rw [AW.obj_new, if_neg hi]
  cases e : S.obj i with
  | none => rfl
  | some o =>
    cases o with
    | map es => rfl
    | cells r =>
      have hf : (S.new c elem es).fam r.fam = S.fam r.fam := by rw [AW.fam_new, if_neg (by have := h.famLt i r e; omega)]
      simp only [hf]
theorem AW.raw_new_same (S : AW) (c : List Value) (elem es : Nat) : (S.new c elem es).raw S.next = some ⟨c, elem, es, S.next, 0, false⟩ :=
  AW.raw_of (by rw [AW.obj_new, if_pos rfl]) (by rw [AW.fam_new, if_pos rfl]; exact Nat.le_refl _)
theorem AW.mapv_new (S : AW) (c : List Value) (elem es : Nat) {i : Nat} (hi : i ≠ S.next) : (S.new c elem es).mapv i = S.mapv i := by
  unfold AW.mapv; rw [AW.obj_new, if_neg hi]
theorem AW.mapv_new_same (S : AW) (c : List Value) (elem es : Nat) : (S.new c elem es).mapv S.next = none := by
  unfold AW.mapv; rw [AW.obj_new, if_pos rfl]

/-- A new row of the call's own. -/
theorem RelW.new {W0 : Fz} {ρ : Ren} {S : AW} {w : World} (h : RelW W0 ρ S w) (c : List Value) (C : Array Value) (elem es : Nat) (F : Nat × Nat) (hF : Nf F C.size)
    (hc : ∀ (i : Nat) (v : Value), c[i]? = some v → isBad v = false → ∃ v', C[i]? = some v' ∧ VRel ρ v v') :
    RelW W0 (ρ.add S.next ⟨w.heap.size, 0, C.size, es⟩) (S.new c elem es) (w.alloc (.cells C elem F)) := by
  have hn := h.fresh S.next (Nat.le_refl _)
  have hle := Ren.le_add (ρ := ρ) ⟨w.heap.size, 0, C.size, es⟩ hn
  refine ⟨h.below.alloc _, fun i hi => ?_, fun i o ho => ?_, fun i r ho => ?_, fun i r ho => ?_, fun i p hp => ?_, fun i p r hp hr => ?_, ?_, fun i r hr hro => ?_, fun i p es' hp hm => ?_, ?_⟩
  · have hi' : S.next + 1 ≤ i := hi
    rw [Ren.add_other _ (by omega)]; exact h.fresh i (by omega)
  · rw [AW.obj_new] at ho
    show i < S.next + 1
    split at ho
    · omega
    · have := h.objLt i o ho; omega
  · rw [AW.obj_new] at ho
    show r.fam < S.next + 1
    split at ho
    · simp only [Option.some.injEq, AObj.cells.injEq] at ho; subst ho; show S.next < S.next + 1; omega
    · have := h.famLt i r ho; omega
  · rw [AW.obj_new] at ho
    split at ho
    · simp only [Option.some.injEq, AObj.cells.injEq] at ho; subst ho; exact Nat.zero_le _
    · have e : (S.new c elem es).fam r.fam = S.fam r.fam := by rw [AW.fam_new, if_neg (by have := h.famLt i r ho; omega)]
      rw [e]; exact h.genLe i r ho
  · simp only [World.size_alloc]
    by_cases hi : i = S.next
    · subst hi; rw [Ren.add_same] at hp; simp only [Option.some.injEq] at hp; subst hp; show w.heap.size < w.heap.size + 1; omega
    · rw [Ren.add_other _ hi] at hp; have := h.blk i p hp; omega
  · by_cases hi : i = S.next
    · subst hi
      rw [Ren.add_same] at hp; simp only [Option.some.injEq] at hp; subst hp
      rw [AW.raw_new_same] at hr; simp only [Option.some.injEq] at hr; subst hr
      refine ⟨rfl, C, F, heap_alloc_new w _, rfl, fun k v hk hb => ?_, fun _ => ⟨h.below.fr, hF⟩, fun h => by cases h⟩
      obtain ⟨v', e1, e2⟩ := hc k v hk hb
      exact ⟨k, v', by simp, e1, e2.mono hle⟩
    · rw [Ren.add_other _ hi] at hp
      rw [h.raw_new _ _ _ hi] at hr
      exact (h.cells i p r hp hr).mono hle (heap_alloc_lt w _ (h.blk i p hp))
  · intro i j p q r s hij hp hq hr hs hro hso hb
    by_cases hi : i = S.next
    · subst hi
      rw [Ren.add_same] at hp; simp only [Option.some.injEq] at hp; subst hp
      rw [Ren.add_other _ (Ne.symm hij)] at hq
      have := h.blk j q hq
      simp only at hb; omega
    · by_cases hj : j = S.next
      · subst hj
        rw [Ren.add_same] at hq; simp only [Option.some.injEq] at hq; subst hq
        rw [Ren.add_other _ hij] at hp
        have := h.blk i p hp
        simp only at hb; omega
      · rw [Ren.add_other _ hi] at hp
        rw [Ren.add_other _ hj] at hq
        rw [h.raw_new _ _ _ hi] at hr
        rw [h.raw_new _ _ _ hj] at hs
        obtain ⟨e1, e2, e3⟩ := h.apart i j p q r s hij hp hq hr hs hro hso hb
        refine ⟨e1, ?_, e3⟩
        rw [AW.fam_new, if_neg (by have := h.famLt i r (AW.raw_some hr).1; omega)]
        exact e2
  · by_cases hi : i = S.next
    · subst hi
      rw [AW.raw_new_same] at hr; simp only [Option.some.injEq] at hr; subst hr
      rw [AW.fam_new, if_pos rfl]; exact Nat.le_refl _
    · rw [h.raw_new _ _ _ hi] at hr
      rw [AW.fam_new, if_neg (by have := h.famLt i r (AW.raw_some hr).1; omega)]
      exact h.ext i r hr hro
  · by_cases hi : i = S.next
    · subst hi; rw [AW.mapv_new_same] at hm; cases hm
    · rw [Ren.add_other _ hi] at hp
      rw [AW.mapv_new _ _ _ _ hi] at hm
      obtain ⟨h1, ms, ck, h2, h3⟩ := h.maps i p es' hp hm
      exact ⟨h1, ms, ck, (heap_alloc_lt w _ (h.blk i p hp)).trans h2, h3.1.mono hle, h3.2⟩
  · intro i j p q es' fs hij hp hq hm hn'
    have hi : i ≠ S.next := by rintro rfl; rw [AW.mapv_new_same] at hm; cases hm
    have hj : j ≠ S.next := by rintro rfl; rw [AW.mapv_new_same] at hn'; cases hn'
    rw [Ren.add_other _ hi] at hp
    rw [Ren.add_other _ hj] at hq
    rw [AW.mapv_new _ _ _ _ hi] at hm
    rw [AW.mapv_new _ _ _ _ hj] at hn'
    exact h.mapsApart i j p q es' fs hij hp hq hm hn'
end Go.Proofs.Ythclmjelknibhaa.Ev
