/- Our memory and the model's: what grows, and maps. -/
import Derived.Test.YthclmjelknibhaaEv3
namespace Go.Proofs.Ythclmjelknibhaa.Ev
open Go Go.RowKit
set_option linter.unusedVariables false
set_option linter.unusedSimpArgs false
set_option linter.unusedSectionVars false

section grow
variable (S : AW) (r : Raw) (off n : Nat) (c : List Value)
theorem AW.obj_grow (j : Nat) : (S.grow r off n c).obj j = if j = S.next then some (.cells (r.grown S off n c)) else S.obj j := rfl
theorem AW.fam_grow (k : Nat) : (S.grow r off n c).fam k =
    if k = r.fam then (if off + n < (S.fam r.fam).ext then ⟨false, (S.fam r.fam).g + 1, (r.grown S off n c).c.length⟩ else ⟨true, (S.fam r.fam).g, (r.grown S off n c).c.length⟩) else S.fam k := by
  show (look (lput S.fams r.fam _) k).getD _ = _
  rw [look_lput]
  split <;> rfl
theorem AW.fam_grow_other {k : Nat} (h : k ≠ r.fam) : (S.grow r off n c).fam k = S.fam k := by rw [AW.fam_grow, if_neg h]
theorem AW.fam_grow_bump (h : off + n < (S.fam r.fam).ext) : (S.grow r off n c).fam r.fam = ⟨false, (S.fam r.fam).g + 1, (r.grown S off n c).c.length⟩ := by rw [AW.fam_grow, if_pos rfl, if_pos h]
theorem AW.fam_grow_keep (h : ¬ off + n < (S.fam r.fam).ext) : (S.grow r off n c).fam r.fam = ⟨true, (S.fam r.fam).g, (r.grown S off n c).c.length⟩ := by rw [AW.fam_grow, if_pos rfl, if_neg h]
end grow

theorem AW.raw_grow_same {S : AW} {i : Nat} {r : Raw} (hr : S.raw i = some r) (off n : Nat) (c : List Value) : (S.grow r off n c).raw S.next = some (r.grown S off n c) := by
  refine AW.raw_of (by rw [AW.obj_grow, if_pos rfl]) ?_
  show ((S.grow r off n c).fam r.fam).g ≤ if _ then _ else _
  by_cases hb : off + n < (S.fam r.fam).ext
  · rw [AW.fam_grow_bump _ _ _ _ _ hb, if_pos hb]; exact Nat.le_refl _
  · rw [AW.fam_grow_keep _ _ _ _ _ hb, if_neg hb]; exact (AW.raw_some hr).2
theorem AW.raw_grow_other {S : AW} {r : Raw} {off n : Nat} {c : List Value} {j : Nat} {s : Raw} (hj : j ≠ S.next) (hg : ∀ j s, S.obj j = some (.cells s) → s.gen ≤ (S.fam s.fam).g)
    (h : (S.grow r off n c).raw j = some s) : S.raw j = some s ∧ (s.fam = r.fam → ¬ off + n < (S.fam r.fam).ext) := by
  obtain ⟨h1, h2⟩ := AW.raw_some h
  rw [AW.obj_grow, if_neg hj] at h1
  have hgs := hg j s h1
  by_cases hf : s.fam = r.fam
  · rw [hf] at hgs h2
    by_cases hb : off + n < (S.fam r.fam).ext
    · rw [AW.fam_grow_bump _ _ _ _ _ hb] at h2
      simp only at h2; omega
    · rw [AW.fam_grow_keep _ _ _ _ _ hb] at h2
      exact ⟨AW.raw_of h1 (by rw [hf]; exact h2), fun _ => hb⟩
  · rw [AW.fam_grow_other _ _ _ _ _ hf] at h2
    exact ⟨AW.raw_of h1 h2, fun e => absurd e hf⟩

theorem RelW.grow {W0 : Fz} {ρ : Ren} {S : AW} {w w' : World} (h : RelW W0 ρ S w) {i : Nat} {p p' : Place} {r : Raw} (hp : ρ i = some p) (hr : S.raw i = some r) (hro : r.ro = false)
    (off n : Nat) (c : List Value) (hlen : off + n ≤ r.c.length)
    (hbel : Bel W0 w') (hsz : w.heap.size ≤ w'.heap.size)
    (hold : ∀ j q s, ρ j = some q → S.raw j = some s → (s.fam = r.fam → ¬ off + n < (S.fam r.fam).ext) → CRel W0 ρ q s w')
    (hmap : ∀ (b : Nat) (ms : Array MapEntry) (ck : Nat), w.heap[b]? = some (.map ms ck) → w'.heap[b]? = some (.map ms ck))
    (hpb : p'.blk < w'.heap.size) (hnew : CRel W0 ρ p' (r.grown S off n c) w')
    (hap : ∀ j q s, ρ j = some q → S.raw j = some s → s.ro = false → p'.blk = q.blk → r.fam = s.fam ∧ p'.d = q.d) :
    RelW W0 (ρ.add S.next p') (S.grow r off n c) w' := by
  have hn := h.fresh S.next (Nat.le_refl _)
  have hle := Ren.le_add (ρ := ρ) p' hn
  obtain ⟨hobj, hgen⟩ := AW.raw_some hr
  have hmapv : ∀ j es, (S.grow r off n c).mapv j = some es → j ≠ S.next ∧ S.mapv j = some es := by
    intro j es hm
    have hm := AW.mapv_some hm
    rw [AW.obj_grow] at hm
    split at hm
    · simp at hm
    · rename_i e; exact ⟨e, AW.mapv_of hm⟩
  have hlenrow : off + n ≤ (r.grown S off n c).c.length := by
    show _ ≤ (List.replicate off bad ++ (r.c.drop off).take n ++ c).length
    simp only [List.length_append, List.length_replicate, List.length_take, List.length_drop]
    omega
  refine ⟨hbel, fun j hj => ?_, fun j o ho => ?_, fun j s ho => ?_, fun j s ho => ?_, fun j q hq => ?_, fun j q s hq hs => ?_, ?_, fun j s hs hsro => ?_, fun j q es hq hm => ?_, ?_⟩
  · have hj' : S.next + 1 ≤ j := hj
    rw [Ren.add_other _ (by omega)]; exact h.fresh j (by omega)
  · rw [AW.obj_grow] at ho
    show j < S.next + 1
    split at ho
    · omega
    · have := h.objLt j o ho; omega
  · rw [AW.obj_grow] at ho
    show s.fam < S.next + 1
    split at ho
    · simp only [Option.some.injEq, AObj.cells.injEq] at ho; subst ho
      have := h.famLt i r hobj
      show r.fam < _; omega
    · have := h.famLt j s ho; omega
  · rw [AW.obj_grow] at ho
    by_cases hj : j = S.next
    · rw [if_pos hj] at ho
      simp only [Option.some.injEq, AObj.cells.injEq] at ho; subst ho
      show (if _ then _ else _) ≤ ((S.grow r off n c).fam r.fam).g
      have := h.genLe i r hobj
      by_cases hb : off + n < (S.fam r.fam).ext
      · rw [AW.fam_grow_bump _ _ _ _ _ hb, if_pos hb]; exact Nat.le_refl _
      · rw [AW.fam_grow_keep _ _ _ _ _ hb, if_neg hb]; exact this
    · rw [if_neg hj] at ho
      have := h.genLe j s ho
      by_cases e : s.fam = r.fam
      · rw [e] at this ⊢
        by_cases hb : off + n < (S.fam r.fam).ext
        · rw [AW.fam_grow_bump _ _ _ _ _ hb]; show _ ≤ _ + 1; omega
        · rw [AW.fam_grow_keep _ _ _ _ _ hb]; exact this
      · rw [AW.fam_grow_other _ _ _ _ _ e]; exact this
  · by_cases hj : j = S.next
    · subst hj; rw [Ren.add_same] at hq; simp only [Option.some.injEq] at hq; subst hq; exact hpb
    · rw [Ren.add_other _ hj] at hq; have := h.blk j q hq; omega
  · by_cases hj : j = S.next
    · subst hj; rw [Ren.add_same] at hq; simp only [Option.some.injEq] at hq; subst hq
      rw [AW.raw_grow_same hr] at hs; simp only [Option.some.injEq] at hs; subst hs
      exact hnew.mono hle rfl
    · rw [Ren.add_other _ hj] at hq
      obtain ⟨e1, e2⟩ := AW.raw_grow_other hj h.genLe hs
      exact (hold j q s hq e1 e2).mono hle rfl
  · intro j k q q' s t hjk hq hq' hs ht hsro htro hbq
    by_cases hj : j = S.next
    · subst hj
      rw [Ren.add_same] at hq; simp only [Option.some.injEq] at hq; subst hq
      rw [AW.raw_grow_same hr] at hs; simp only [Option.some.injEq] at hs; subst hs
      rw [Ren.add_other _ (Ne.symm hjk)] at hq'
      obtain ⟨e1, e2⟩ := AW.raw_grow_other (Ne.symm hjk) h.genLe ht
      obtain ⟨a1, a2⟩ := hap k q' t hq' e1 htro hbq
      refine ⟨a1, ?_, a2⟩
      show ((S.grow r off n c).fam r.fam).multi = true
      rw [AW.fam_grow_keep _ _ _ _ _ (e2 a1.symm)]
    · rw [Ren.add_other _ hj] at hq
      obtain ⟨e1, e2⟩ := AW.raw_grow_other hj h.genLe hs
      by_cases hk : k = S.next
      · subst hk
        rw [Ren.add_same] at hq'; simp only [Option.some.injEq] at hq'; subst hq'
        rw [AW.raw_grow_same hr] at ht; simp only [Option.some.injEq] at ht; subst ht
        obtain ⟨a1, a2⟩ := hap j q s hq e1 hsro hbq.symm
        refine ⟨a1.symm, ?_, a2.symm⟩
        rw [← a1, AW.fam_grow_keep _ _ _ _ _ (e2 a1.symm)]
      · rw [Ren.add_other _ hk] at hq'
        obtain ⟨f1, f2⟩ := AW.raw_grow_other hk h.genLe ht
        obtain ⟨a1, a2, a3⟩ := h.apart j k q q' s t hjk hq hq' e1 f1 hsro htro hbq
        refine ⟨a1, ?_, a3⟩
        by_cases e : s.fam = r.fam
        · rw [e, AW.fam_grow_keep _ _ _ _ _ (e2 e)]
        · rw [AW.fam_grow_other _ _ _ _ _ e]; exact a2
  · by_cases hj : j = S.next
    · subst hj
      rw [AW.raw_grow_same hr] at hs; simp only [Option.some.injEq] at hs; subst hs
      show _ ≤ ((S.grow r off n c).fam r.fam).ext
      rw [AW.fam_grow, if_pos rfl]
      split <;> exact Nat.le_refl _
    · obtain ⟨e1, e2⟩ := AW.raw_grow_other hj h.genLe hs
      have := h.ext j s e1 hsro
      by_cases e : s.fam = r.fam
      · have hb := e2 e
        rw [e] at this ⊢
        rw [AW.fam_grow_keep _ _ _ _ _ hb]
        show _ ≤ (r.grown S off n c).c.length
        omega
      · rw [AW.fam_grow_other _ _ _ _ _ e]; exact this
  · obtain ⟨hj, hm⟩ := hmapv j es hm
    rw [Ren.add_other _ hj] at hq
    obtain ⟨h1, ms, ck, h2, h3⟩ := h.maps j q es hq hm
    exact ⟨h1, ms, ck, hmap _ _ _ h2, h3.1.mono hle, h3.2⟩
  · intro j k q q' es fs hjk hq hq' hm hm'
    obtain ⟨hj, hm⟩ := hmapv j es hm
    obtain ⟨hk, hm'⟩ := hmapv k fs hm'
    rw [Ren.add_other _ hj] at hq
    rw [Ren.add_other _ hk] at hq'
    exact h.mapsApart j k q q' es fs hjk hq hq' hm hm'

/-- It grew where it lay. -/
theorem RelW.grow_here {W0 : Fz} {ρ : Ren} {S : AW} {w w' : World} (h : RelW W0 ρ S w) {i : Nat} {p : Place} {r : Raw} (hp : ρ i = some p) (hr : S.raw i = some r) (hro : r.ro = false)
    (off n : Nat) (c : List Value) (hlen : off + n ≤ r.c.length) {C C' : Array Value} {F : Nat × Nat} (hb : w.heap[p.blk]? = some (.cells C r.elem F)) (hs : C'.size = C.size)
    (hkeep : ∀ kk : Nat, (kk : Int) < off + n + p.d → C'[kk]? = C[kk]?)
    (hc : ∀ (k : Nat) (v : Value), c[k]? = some v → isBad v = false → ∃ (kk : Nat) (v' : Value), (kk : Int) = off + n + k + p.d ∧ C'[kk]? = some v' ∧ VRel ρ v v')
    (hw : Laid w w' p.blk (.cells C' r.elem F)) : RelW W0 (ρ.add S.next p) (S.grow r off n c) w' := by
  have hci := h.cells i p r hp hr
  obtain ⟨C0, F0, hb0, hsz0, hval0, hfr0, hlow0⟩ := hci.row
  have hbe := hb0.symm.trans hb
  simp only [Option.some.injEq, Obj.cells.injEq, true_and] at hbe
  obtain ⟨rfl, rfl⟩ := hbe
  have hlow := (hfr0 hro).1
  have hblt := h.blk i p hp
  refine h.grow hp hr hro off n c hlen (hw.below h.below hlow) (by rw [hw.size]; exact Nat.le_refl _) ?_ ?_ (by rw [hw.size]; exact hblt) ?_ ?_
  · intro j q s hq hs' hbump
    have hcj := h.cells j q s hq hs'
    by_cases hqb : q.blk = p.blk
    · obtain ⟨C1, F1, x1, x2, x3, x4, x5⟩ := hcj.row
      have hsro : s.ro = false := by
        cases e : s.ro with
        | false => rfl
        | true => have hz := x5 e; rw [hqb] at hz; exact absurd hz hlow
      have hbe : some (Obj.cells C1 s.elem F1) = some (Obj.cells C0 r.elem F0) := x1.symm.trans (by rw [hqb]; exact hb0)
      simp only [Option.some.injEq, Obj.cells.injEq] at hbe
      obtain ⟨rfl, hel, rfl⟩ := hbe
      have hfam : s.fam = r.fam ∧ q.d = p.d := by
        by_cases hji : j = i
        · subst hji
          rw [hp] at hq; simp only [Option.some.injEq] at hq; subst hq
          rw [hr] at hs'; simp only [Option.some.injEq] at hs'; subst hs'
          exact ⟨rfl, rfl⟩
        · obtain ⟨a1, a2, a3⟩ := h.apart j i q p s r hji hq hp hs' hr hsro hro hqb
          exact ⟨a1, a3⟩
      have hext := h.ext j s hs' hsro
      rw [hfam.1] at hext
      have hnb := hbump hfam.1
      refine ⟨hcj.es, C', F1, by rw [hqb, hw.same hblt, hel], hs.trans x2, fun k v hk hbad => ?_, fun _ => ⟨(x4 hsro).1, by rw [hs]; exact (x4 hsro).2⟩, fun e => by rw [hsro] at e; cases e⟩
      obtain ⟨kk, v', e1, e2, e3⟩ := x3 k v hk hbad
      refine ⟨kk, v', e1, ?_, e3⟩
      rw [hkeep kk ?_]
      · exact e2
      · have hkl : k < s.c.length := (List.getElem?_eq_some_iff.mp hk).1
        rw [e1, hfam.2]
        omega
    · exact hcj.mono (Ren.le_refl ρ) (hw.other hqb)
  · intro b ms ck hm
    rw [hw.other (fun e => ?_)]
    · exact hm
    · rw [e, hb0] at hm; simp at hm
  · refine ⟨hci.es, C', F0, hw.same hblt, hs.trans hsz0, fun k v hk hbad => ?_, fun _ => ⟨hlow, by rw [hs]; exact (hfr0 hro).2⟩, fun e => by have e : r.ro = true := e; rw [hro] at e; cases e⟩
    have hk : (List.replicate off bad ++ (r.c.drop off).take n ++ c)[k]? = some v := hk
    have hl1 : ((r.c.drop off).take n).length = n := by simp only [List.length_take, List.length_drop]; omega
    by_cases h1 : k < off
    · rw [List.getElem?_append_left (by simp only [List.length_append, List.length_replicate, hl1]; omega), List.getElem?_append_left (by simp; omega), List.getElem?_replicate, if_pos h1] at hk
      simp only [Option.some.injEq] at hk
      subst hk
      simp [isBad, bad] at hbad
    · by_cases h2 : k < off + n
      · rw [List.getElem?_append_left (by simp only [List.length_append, List.length_replicate, hl1]; omega), List.getElem?_append_right (by simp; omega), List.length_replicate,
          List.getElem?_take, if_pos (by omega), List.getElem?_drop, show off + (k - off) = k from by omega] at hk
        obtain ⟨kk, v', e1, e2, e3⟩ := hval0 k v hk hbad
        exact ⟨kk, v', e1, by rw [hkeep kk (by omega)]; exact e2, e3⟩
      · have hl2 : (List.replicate off bad ++ (r.c.drop off).take n).length = off + n := by rw [List.length_append, List.length_replicate, hl1]
        rw [List.getElem?_append_right (by rw [hl2]; omega), hl2] at hk
        obtain ⟨kk, v', e1, e2, e3⟩ := hc _ v hk hbad
        exact ⟨kk, v', by omega, e2, e3⟩
  · intro j q s hq hs' hsro hbq
    by_cases hji : j = i
    · subst hji
      rw [hp] at hq; simp only [Option.some.injEq] at hq; subst hq
      rw [hr] at hs'; simp only [Option.some.injEq] at hs'; subst hs'
      exact ⟨rfl, rfl⟩
    · obtain ⟨a1, a2, a3⟩ := h.apart i j p q r s (Ne.symm hji) hp hq hr hs' hro hsro hbq
      exact ⟨a1, a3⟩

/-- It grew into a new row. -/
theorem RelW.grow_new {W0 : Fz} {ρ : Ren} {S : AW} {w : World} (h : RelW W0 ρ S w) {i : Nat} {p : Place} {r : Raw} (hp : ρ i = some p) (hr : S.raw i = some r) (hro : r.ro = false)
    (off n : Nat) (c : List Value) (hlen : off + n ≤ r.c.length) (C : Array Value) (F : Nat × Nat) (hF : Nf F C.size)
    (hold : ∀ (k : Nat) (v : Value), k < n → r.c[off + k]? = some v → isBad v = false → ∃ v', C[k]? = some v' ∧ VRel ρ v v')
    (hc : ∀ (k : Nat) (v : Value), c[k]? = some v → isBad v = false → ∃ v', C[n + k]? = some v' ∧ VRel ρ v v') :
    RelW W0 (ρ.add S.next ⟨w.heap.size, -(off : Int), C.size, r.es⟩) (S.grow r off n c) (w.alloc (.cells C r.elem F)) := by
  refine h.grow hp hr hro off n c hlen (h.below.alloc _) (by simp) ?_ ?_ (by show w.heap.size < _; simp) ?_ ?_
  · intro j q s hq hs' _
    exact (h.cells j q s hq hs').mono (Ren.le_refl ρ) (heap_alloc_lt w _ (h.blk j q hq))
  · intro b ms ck hm
    have hb : b < w.heap.size := (Array.getElem?_eq_some_iff.mp hm).1
    rw [heap_alloc_lt w _ hb]; exact hm
  · refine ⟨rfl, C, F, heap_alloc_new w _, rfl, fun k v hk hbad => ?_, fun _ => ⟨h.below.fr, hF⟩, fun e => by have e : r.ro = true := e; rw [hro] at e; cases e⟩
    have hk : (List.replicate off bad ++ (r.c.drop off).take n ++ c)[k]? = some v := hk
    have hl1 : ((r.c.drop off).take n).length = n := by simp only [List.length_take, List.length_drop]; omega
    by_cases h1 : k < off
    · rw [List.getElem?_append_left (by simp only [List.length_append, List.length_replicate, hl1]; omega), List.getElem?_append_left (by simp; omega), List.getElem?_replicate, if_pos h1] at hk
      simp only [Option.some.injEq] at hk
      subst hk
      simp [isBad, bad] at hbad
    · by_cases h2 : k < off + n
      · rw [List.getElem?_append_left (by simp only [List.length_append, List.length_replicate, hl1]; omega), List.getElem?_append_right (by simp; omega), List.length_replicate,
          List.getElem?_take, if_pos (by omega), List.getElem?_drop] at hk
        obtain ⟨v', e1, e2⟩ := hold (k - off) v (by omega) hk hbad
        exact ⟨k - off, v', by show ((k - off : Nat) : Int) = k + -(off : Int); omega, e1, e2⟩
      · have hl2 : (List.replicate off bad ++ (r.c.drop off).take n).length = off + n := by rw [List.length_append, List.length_replicate, hl1]
        rw [List.getElem?_append_right (by rw [hl2]; omega), hl2] at hk
        obtain ⟨v', e1, e2⟩ := hc _ v hk hbad
        exact ⟨n + (k - (off + n)), v', by show ((n + (k - (off + n)) : Nat) : Int) = k + -(off : Int); omega, e1, e2⟩
  · intro j q s hq hs' hsro hbq
    have := h.blk j q hq
    simp only at hbq; omega

/-- A new map. -/
theorem RelW.newMap {W0 : Fz} {ρ : Ren} {S : AW} {w : World} (h : RelW W0 ρ S w) : RelW W0 (ρ.add S.next ⟨w.heap.size, 0, 0, 0⟩) S.newMap (w.alloc (.map #[] 0)) := by
  have hn := h.fresh S.next (Nat.le_refl _)
  have hle := Ren.le_add (ρ := ρ) ⟨w.heap.size, 0, 0, 0⟩ hn
  have hobj : ∀ j, S.newMap.obj j = if j = S.next then some (.map []) else S.obj j := fun j => rfl
  have hfam : ∀ j, S.newMap.fam j = S.fam j := fun j => rfl
  have hraw : ∀ j r, S.newMap.raw j = some r → j ≠ S.next ∧ S.raw j = some r := by
    intro j r hr
    obtain ⟨e1, e2⟩ := AW.raw_some hr
    rw [hobj] at e1
    split at e1
    · simp at e1
    · rename_i hj; exact ⟨hj, AW.raw_of e1 e2⟩
  have hmapv : ∀ j es, S.newMap.mapv j = some es → (j = S.next ∧ es = []) ∨ (j ≠ S.next ∧ S.mapv j = some es) := by
    intro j es hm
    have hm := AW.mapv_some hm
    rw [hobj] at hm
    split at hm
    · rename_i hj; simp only [Option.some.injEq, AObj.map.injEq] at hm; exact .inl ⟨hj, hm.symm⟩
    · rename_i hj; exact .inr ⟨hj, AW.mapv_of hm⟩
  refine ⟨h.below.alloc _, fun i hi => ?_, fun i o ho => ?_, fun i r ho => ?_, fun i r ho => ?_, fun i p hp => ?_, fun i p r hp hr => ?_, ?_, fun i r hr hro => ?_, fun i p es hp hm => ?_, ?_⟩
  · have hi' : S.next + 1 ≤ i := hi
    rw [Ren.add_other _ (by omega)]; exact h.fresh i (by omega)
  · rw [hobj] at ho
    show i < S.next + 1
    split at ho
    · omega
    · have := h.objLt i o ho; omega
  · rw [hobj] at ho
    show r.fam < S.next + 1
    split at ho
    · simp at ho
    · have := h.famLt i r ho; omega
  · rw [hobj] at ho
    split at ho
    · simp at ho
    · exact h.genLe i r ho
  · simp only [World.size_alloc]
    by_cases hi : i = S.next
    · subst hi; rw [Ren.add_same] at hp; simp only [Option.some.injEq] at hp; subst hp; show w.heap.size < w.heap.size + 1; omega
    · rw [Ren.add_other _ hi] at hp; have := h.blk i p hp; omega
  · obtain ⟨hi, hr⟩ := hraw i r hr
    rw [Ren.add_other _ hi] at hp
    exact (h.cells i p r hp hr).mono hle (heap_alloc_lt w _ (h.blk i p hp))
  · intro i j p q r s hij hp hq hr hs
    obtain ⟨hi, hr⟩ := hraw i r hr
    obtain ⟨hj, hs⟩ := hraw j s hs
    rw [Ren.add_other _ hi] at hp
    rw [Ren.add_other _ hj] at hq
    exact h.apart i j p q r s hij hp hq hr hs
  · obtain ⟨hi, hr⟩ := hraw i r hr
    exact h.ext i r hr hro
  · rcases hmapv i es hm with ⟨hi, rfl⟩ | ⟨hi, hm⟩
    · subst hi
      rw [Ren.add_same] at hp; simp only [Option.some.injEq] at hp; subst hp
      exact ⟨h.below.fr, #[], 0, heap_alloc_new w _, ⟨rfl, fun i h => by simp at h⟩, by
        have e : S.newMap.bir S.next = ([], 0) := by simp [AW.bir, AW.newMap, look]
        rw [e]
        exact ⟨rfl, rfl, .nil, fun x hx => by simp at hx⟩⟩
    · rw [Ren.add_other _ hi] at hp
      obtain ⟨h1, ms, ck, h2, h3⟩ := h.maps i p es hp hm
      have e : S.newMap.bir i = S.bir i := by simp [AW.bir, AW.newMap, look, hi]
      exact ⟨h1, ms, ck, (heap_alloc_lt w _ (h.blk i p hp)).trans h2, h3.1.mono hle, by rw [e]; exact h3.2⟩
  · intro i j p q es fs hij hp hq hm hm'
    rcases hmapv i es hm with ⟨hi, rfl⟩ | ⟨hi, hm⟩
    · subst hi
      rw [Ren.add_same] at hp; simp only [Option.some.injEq] at hp; subst hp
      rw [Ren.add_other _ (Ne.symm hij)] at hq
      have := h.blk j q hq
      show w.heap.size ≠ q.blk; omega
    · rw [Ren.add_other _ hi] at hp
      rcases hmapv j fs hm' with ⟨hj, rfl⟩ | ⟨hj, hm'⟩
      · subst hj
        rw [Ren.add_same] at hq; simp only [Option.some.injEq] at hq; subst hq
        have := h.blk i p hp
        show p.blk ≠ w.heap.size; omega
      · rw [Ren.add_other _ hj] at hq
        exact h.mapsApart i j p q es fs hij hp hq hm hm'

/-- A map is written. -/
theorem RelW.putMap {W0 : Fz} {ρ : Ren} {S : AW} {w w' : World} (h : RelW W0 ρ S w) {i : Nat} {p : Place} {es : List (Value × Value)} (hp : ρ i = some p) (hm : S.mapv i = some es)
    (es' : List (Value × Value)) (b : List Nat × Nat) (ms : Array MapEntry) (ck : Nat) (he : ERel ρ es' ms.toList) (hbr : BRel b ms.toList ck) (hw : Laid w w' p.blk (.map ms ck)) : RelW W0 ρ (S.putMap i es' b) w' := by
  obtain ⟨hlow, ms0, ck0, hb0, he0, hbr0⟩ := h.maps i p es hp hm
  have hobj : ∀ j, (S.putMap i es' b).obj j = if j = i then some (.map es') else S.obj j := fun j => look_lput _ _ _ _
  have hfam : ∀ j, (S.putMap i es' b).fam j = S.fam j := fun j => rfl
  have hi := AW.mapv_some hm
  have hraw : ∀ j r, (S.putMap i es' b).raw j = some r → S.raw j = some r := by
    intro j r hr
    obtain ⟨e1, e2⟩ := AW.raw_some hr
    rw [hobj] at e1
    split at e1
    · simp at e1
    · exact AW.raw_of e1 e2
  have hne : ∀ j q r, ρ j = some q → S.raw j = some r → q.blk ≠ p.blk := by
    intro j q r hq hr e
    obtain ⟨C, F, x1, _⟩ := (h.cells j q r hq hr).row
    rw [e, hb0] at x1; simp at x1
  have hmapv : ∀ j fs, (S.putMap i es' b).mapv j = some fs → (j = i ∧ fs = es') ∨ (j ≠ i ∧ S.mapv j = some fs) := by
    intro j fs hm
    have hm := AW.mapv_some hm
    rw [hobj] at hm
    split at hm
    · rename_i hj; simp only [Option.some.injEq, AObj.map.injEq] at hm; exact .inl ⟨hj, hm.symm⟩
    · rename_i hj; exact .inr ⟨hj, AW.mapv_of hm⟩
  refine ⟨hw.below h.below hlow, h.fresh, fun j o ho => ?_, fun j r ho => ?_, fun j r ho => ?_, fun j q hq => by rw [hw.size]; exact h.blk j q hq, fun j q r hq hr => ?_, ?_, fun j r hr hro => h.ext j r (hraw j r hr) hro, fun j q fs hq hm' => ?_, ?_⟩
  · rw [hobj] at ho
    split at ho
    · rename_i e; subst e; exact h.objLt _ _ hi
    · exact h.objLt j o ho
  · rw [hobj] at ho
    split at ho
    · simp at ho
    · exact h.famLt j r ho
  · rw [hobj] at ho
    split at ho
    · simp at ho
    · exact h.genLe j r ho
  · have hr := hraw j r hr
    exact (h.cells j q r hq hr).mono (Ren.le_refl ρ) (hw.other (hne j q r hq hr))
  · intro j k q q' r s hjk hq hq' hr hs
    exact h.apart j k q q' r s hjk hq hq' (hraw j r hr) (hraw k s hs)
  · rcases hmapv j fs hm' with ⟨hj, rfl⟩ | ⟨hj, hm'⟩
    · subst hj
      rw [hp] at hq; simp only [Option.some.injEq] at hq; subst hq
      have e : (S.putMap j fs b).bir j = b := by simp [AW.bir, AW.putMap, look_lput]
      exact ⟨hlow, ms, ck, hw.same (h.blk _ _ hp), he, by rw [e]; exact hbr⟩
    · obtain ⟨h1, ms1, ck1, h2, h3⟩ := h.maps j q fs hq hm'
      exact ⟨h1, ms1, ck1, (hw.other (Ne.symm (h.mapsApart i j p q es fs (Ne.symm hj) hp hq hm hm'))).trans h2, h3.1, by
        have e : (S.putMap i es' b).bir j = S.bir j := by simp [AW.bir, AW.putMap, look_lput, hj]
        rw [e]; exact h3.2⟩
  · intro j k q q' fs gs hjk hq hq' hm1 hm2
    have g : ∀ j fs, (S.putMap i es' b).mapv j = some fs → ∃ gs, S.mapv j = some gs := by
      intro j fs hm1
      rcases hmapv j fs hm1 with ⟨hj, _⟩ | ⟨hj, hm1⟩
      · subst hj; exact ⟨_, hm⟩
      · exact ⟨_, hm1⟩
    obtain ⟨fs', e1⟩ := g j fs hm1
    obtain ⟨gs', e2⟩ := g k gs hm2
    exact h.mapsApart j k q q' fs' gs' hjk hq hq' e1 e2
end Go.Proofs.Ythclmjelknibhaa.Ev
