/- Our memory and the model's: what is written, what grows, maps. -/
import Derived.Test.YthclmjelknibhaaEv2
namespace Go.Proofs.Ythclmjelknibhaa.Ev
open Go Go.RowKit
set_option linter.unusedVariables false
set_option linter.unusedSimpArgs false
set_option linter.unusedSectionVars false

/-- A block is laid anew. -/
structure Laid (w w' : World) (b : Nat) (o : Obj) : Prop where
  os : w'.os = w.os
  tape : w'.tape = w.tape
  output : w'.output = w.output
  heap : w'.heap = w.heap.setIfInBounds b o
theorem Laid.size {w w' : World} {b : Nat} {o : Obj} (h : Laid w w' b o) : w'.heap.size = w.heap.size := by rw [h.heap]; simp
theorem Laid.other {w w' : World} {b k : Nat} {o : Obj} (h : Laid w w' b o) (hk : k ≠ b) : w'.heap[k]? = w.heap[k]? := by
  rw [h.heap, Array.getElem?_setIfInBounds, if_neg (fun e => hk e.symm)]
theorem Laid.same {w w' : World} {b : Nat} {o : Obj} (h : Laid w w' b o) (hb : b < w.heap.size) : w'.heap[b]? = some o := by
  rw [h.heap, Array.getElem?_setIfInBounds, if_pos rfl, if_pos hb]
theorem Laid.below {W0 : Fz} {w w' : World} {b : Nat} {o : Obj} (h : Laid w w' b o) (k : Bel W0 w) (hb : ¬ W0.z b) : Bel W0 w' :=
  ⟨h.os.trans k.os, h.tape.trans k.tape, h.output.trans k.output, by rw [h.size]; exact k.size, fun i hi => (h.other (fun e => hb (e ▸ hi))).trans (k.block i hi)⟩

theorem AW.obj_put (S : AW) (i : Nat) (r : Raw) (c : List Value) (j : Nat) :
    (S.put i r c).obj j = if j = i then some (.cells { r with c := c, gen := if (S.fam r.fam).multi then (S.fam r.fam).g + 1 else r.gen }) else S.obj j := look_lput _ _ _ _
theorem AW.fam_put (S : AW) (i : Nat) (r : Raw) (c : List Value) (k : Nat) :
    (S.put i r c).fam k = if k = r.fam then ⟨false, if (S.fam r.fam).multi then (S.fam r.fam).g + 1 else (S.fam r.fam).g, max (S.fam r.fam).ext c.length⟩ else S.fam k := by
  show (look (lput S.fams r.fam _) k).getD _ = _
  rw [look_lput]
  split <;> rfl
theorem AW.fam_put_same (S : AW) (i : Nat) (r : Raw) (c : List Value) :
    (S.put i r c).fam r.fam = ⟨false, if (S.fam r.fam).multi then (S.fam r.fam).g + 1 else (S.fam r.fam).g, max (S.fam r.fam).ext c.length⟩ := by rw [AW.fam_put, if_pos rfl]
theorem AW.fam_put_other (S : AW) (i : Nat) (r : Raw) (c : List Value) {k : Nat} (h : k ≠ r.fam) : (S.put i r c).fam k = S.fam k := by rw [AW.fam_put, if_neg h]
def Raw.aged (r : Raw) (S : AW) (c : List Value) : Raw := { r with c := c, gen := if (S.fam r.fam).multi then (S.fam r.fam).g + 1 else r.gen }
theorem AW.raw_put_same {S : AW} {i : Nat} {r : Raw} (h : S.raw i = some r) (c : List Value) : (S.put i r c).raw i = some (r.aged S c) := by
  obtain ⟨h1, h2⟩ := AW.raw_some h
  refine AW.raw_of (r := r.aged S c) (by rw [AW.obj_put, if_pos rfl]; rfl) ?_
  rw [AW.fam_put, if_pos (by rfl)]
  show (if _ then _ else _) ≤ (if _ then _ else _)
  split
  · exact Nat.le_refl _
  · exact h2
/-- What is readable behind a write was so before. -/
theorem AW.raw_put_other {S : AW} {i : Nat} {r : Raw} (c : List Value) {j : Nat} {s : Raw} (hj : j ≠ i) (hg : ∀ j s, S.obj j = some (.cells s) → s.gen ≤ (S.fam s.fam).g)
    (h : (S.put i r c).raw j = some s) : S.raw j = some s ∧ (s.fam = r.fam → (S.fam r.fam).multi = false) := by
  obtain ⟨h1, h2⟩ := AW.raw_some h
  rw [AW.obj_put, if_neg hj] at h1
  have hgs := hg j s h1
  rw [AW.fam_put] at h2
  by_cases hf : s.fam = r.fam
  · rw [if_pos hf] at h2
    rw [hf] at hgs
    by_cases hm : (S.fam r.fam).multi = true
    · simp only [hm, if_true] at h2; omega
    · have hm : (S.fam r.fam).multi = false := by simpa using hm
      simp only [hm] at h2
      exact ⟨AW.raw_of h1 (by rw [hf]; exact h2), fun _ => hm⟩
  · rw [if_neg hf] at h2
    exact ⟨AW.raw_of h1 h2, fun e => absurd e hf⟩

/-- A row of the call's own is written. -/
theorem RelW.put {W0 : Fz} {ρ : Ren} {S : AW} {w w' : World} (h : RelW W0 ρ S w) {i : Nat} {p : Place} {r : Raw} (hp : ρ i = some p) (hr : S.raw i = some r) (hro : r.ro = false)
    {C C' : Array Value} {F : Nat × Nat} (hb : w.heap[p.blk]? = some (.cells C r.elem F)) (hs : C'.size = C.size) (c' : List Value)
    (hc : ∀ (k : Nat) (v : Value), c'[k]? = some v → isBad v = false → ∃ (kk : Nat) (v' : Value), (kk : Int) = k + p.d ∧ C'[kk]? = some v' ∧ VRel ρ v v')
    (hw : Laid w w' p.blk (.cells C' r.elem F)) : RelW W0 ρ (S.put i r c') w' := by
  have hci := h.cells i p r hp hr
  obtain ⟨C0, F0, hb0, hsz0, hval0, hfr0, hlow0⟩ := hci.row
  have hbe := hb0.symm.trans hb
  simp only [Option.some.injEq, Obj.cells.injEq, true_and] at hbe
  obtain ⟨rfl, rfl⟩ := hbe
  have hlow := (hfr0 hro).1
  have hblt := h.blk i p hp
  obtain ⟨hobj, hgen⟩ := AW.raw_some hr
  have key : ∀ j q s, j ≠ i → ρ j = some q → (S.put i r c').raw j = some s → S.raw j = some s ∧ q.blk ≠ p.blk ∧ (s.fam = r.fam → (S.fam r.fam).multi = false) := by
    intro j q s hj hq hs'
    obtain ⟨e1, e2⟩ := AW.raw_put_other c' hj h.genLe hs'
    refine ⟨e1, fun hbq => ?_, e2⟩
    by_cases hsro : s.ro = false
    · obtain ⟨a1, a2, a3⟩ := h.apart i j p q r s (Ne.symm hj) hp hq hr e1 hro hsro hbq.symm
      have := e2 a1.symm
      rw [this] at a2; cases a2
    · have hsro : s.ro = true := by simpa using hsro
      obtain ⟨C1, F1, x1, x2, x3, x4, x5⟩ := (h.cells j q s hq e1).row
      have hz := x5 hsro
      rw [hbq] at hz
      exact hlow hz
  refine ⟨hw.below h.below hlow, h.fresh, fun j o ho => ?_, fun j s ho => ?_, fun j s ho => ?_, fun j q hq => by rw [hw.size]; exact h.blk j q hq, fun j q s hq hs' => ?_, ?_, fun j s hs' hsro => ?_, fun j q es hq hm => ?_, ?_⟩
  · rw [AW.obj_put] at ho
    split at ho
    · rename_i e; subst e; exact h.objLt _ _ hobj
    · exact h.objLt j o ho
  · rw [AW.obj_put] at ho
    show s.fam < S.next
    split at ho
    · simp only [Option.some.injEq, AObj.cells.injEq] at ho; subst ho; exact h.famLt i r hobj
    · exact h.famLt j s ho
  · rw [AW.obj_put] at ho
    by_cases hj : j = i
    · rw [if_pos hj] at ho
      simp only [Option.some.injEq, AObj.cells.injEq] at ho; subst ho
      show _ ≤ ((S.put i r c').fam r.fam).g
      rw [AW.fam_put_same]
      have := h.genLe i r hobj
      by_cases hm : (S.fam r.fam).multi = true
      · simp only [hm, if_true]; exact Nat.le_refl _
      · simp only [hm]; exact this
    · rw [if_neg hj] at ho
      have := h.genLe j s ho
      by_cases e : s.fam = r.fam
      · rw [e] at this ⊢
        rw [AW.fam_put_same]
        by_cases hm : (S.fam r.fam).multi = true
        · simp only [hm, if_true]; omega
        · simp only [hm]; exact this
      · rw [AW.fam_put_other _ _ _ _ e]; exact this
  · by_cases hj : j = i
    · subst hj
      rw [hp] at hq; simp only [Option.some.injEq] at hq; subst hq
      rw [AW.raw_put_same hr] at hs'; simp only [Option.some.injEq] at hs'; subst hs'
      exact ⟨hci.es, C', F0, hw.same hblt, hs.trans hsz0, hc, fun _ => ⟨hlow, by rw [hs]; exact (hfr0 hro).2⟩, fun e => by have e : r.ro = true := e; rw [hro] at e; cases e⟩
    · obtain ⟨e1, e2, e3⟩ := key j q s hj hq hs'
      exact (h.cells j q s hq e1).mono (Ren.le_refl ρ) (hw.other e2)
  · intro j k q q' s t hjk hq hq' hs' ht' hsro htro hbq
    by_cases hj : j = i
    · subst hj
      obtain ⟨e1, e2, e3⟩ := key k q' t (Ne.symm hjk) hq' ht'
      rw [hp] at hq; simp only [Option.some.injEq] at hq; subst hq
      exact absurd hbq.symm e2
    · obtain ⟨e1, e2, e3⟩ := key j q s hj hq hs'
      by_cases hk : k = i
      · subst hk
        rw [hp] at hq'; simp only [Option.some.injEq] at hq'; subst hq'
        exact absurd hbq e2
      · obtain ⟨f1, f2, f3⟩ := key k q' t hk hq' ht'
        obtain ⟨a1, a2, a3⟩ := h.apart j k q q' s t hjk hq hq' e1 f1 hsro htro hbq
        refine ⟨a1, ?_, a3⟩
        rw [AW.fam_put]
        split
        · rename_i e
          rw [e, e3 e] at a2; cases a2
        · exact a2
  · rw [AW.fam_put]
    by_cases hj : j = i
    · subst hj
      rw [AW.raw_put_same hr] at hs'; simp only [Option.some.injEq] at hs'; subst hs'
      rw [if_pos (by rfl)]
      exact Nat.le_max_right _ _
    · obtain ⟨e1, e3⟩ := AW.raw_put_other c' hj h.genLe hs'
      have := h.ext j s e1 hsro
      split
      · rename_i e
        rw [e] at this
        exact Nat.le_trans this (Nat.le_max_left _ _)
      · exact this
  · have hm' : S.mapv j = some es := by
      have hm := AW.mapv_some hm
      rw [AW.obj_put] at hm
      split at hm
      · simp at hm
      · exact AW.mapv_of hm
    obtain ⟨h1, ms, ck, h2, h3⟩ := h.maps j q es hq hm'
    refine ⟨h1, ms, ck, ?_, h3⟩
    rw [hw.other (fun e => ?_)]
    · exact h2
    · rw [e, hb] at h2; simp at h2
  · intro j k q q' es fs hjk hq hq' hm hm'
    have g : ∀ j es, (S.put i r c').mapv j = some es → S.mapv j = some es := by
      intro j es hm
      have hm := AW.mapv_some hm
      rw [AW.obj_put] at hm
      split at hm
      · simp at hm
      · exact AW.mapv_of hm
    exact h.mapsApart j k q q' es fs hjk hq hq' (g j es hm) (g k fs hm')
/-- A place behind a row's end is marked. -/
theorem RelW.frz {W0 : Fz} {ρ : Ren} {S : AW} {w w' : World} (h : RelW W0 ρ S w) {b : Nat} (hz : ¬ W0.z b) {C : Array Value} {el : TypeId} {F F' : Nat × Nat} (hb : w.heap[b]? = some (.cells C el F)) (hF : Nf F' C.size)
    (hw : Laid w w' b (.cells C el F')) : RelW W0 ρ S w' := by
  have hblt : b < w.heap.size := (Array.getElem?_eq_some_iff.mp hb).1
  refine ⟨hw.below h.below hz, h.fresh, h.objLt, h.famLt, h.genLe, fun i p hp => by rw [hw.size]; exact h.blk i p hp, fun i p r hp hr => ?_, h.apart, h.ext, fun i p es hp hm => ?_, h.mapsApart⟩
  · have hc := h.cells i p r hp hr
    by_cases e : p.blk = b
    · obtain ⟨C1, F1, x1, x2, x3, x4, x5⟩ := hc.row
      have hbe : some (Obj.cells C1 r.elem F1) = some (Obj.cells C el F) := x1.symm.trans (by rw [e]; exact hb)
      simp only [Option.some.injEq, Obj.cells.injEq] at hbe
      obtain ⟨rfl, hel, rfl⟩ := hbe
      refine ⟨hc.es, C1, F', by rw [e, hw.same hblt, hel], x2, x3, fun hro => ⟨(x4 hro).1, hF⟩, fun hro => ?_⟩
      have := x5 hro
      rw [e] at this
      exact absurd this hz
    · exact hc.mono (Ren.le_refl ρ) (hw.other e)
  · obtain ⟨k1, ms, ck, k2, k3⟩ := h.maps i p es hp hm
    refine ⟨k1, ms, ck, ?_, k3⟩
    rw [hw.other (fun e => by rw [e, hb] at k2; simp at k2)]
    exact k2
end Go.Proofs.Ythclmjelknibhaa.Ev
