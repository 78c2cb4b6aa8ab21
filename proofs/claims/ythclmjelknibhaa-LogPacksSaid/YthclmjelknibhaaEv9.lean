/- What the operations do that read and write memory, ours and the model's. -/
import Derived.Test.YthclmjelknibhaaEv8
import Derived.Laws.BytesArg
import Derived.Laws.BytesString
namespace Go.Proofs.Ythclmjelknibhaa.Ev
open Go Go.RowKit
set_option linter.unusedVariables false
set_option linter.unusedSimpArgs false
set_option linter.unusedSectionVars false

theorem cell_heap {w : World} {b o : Nat} {C : Array Value} {E : TypeId} {F : Nat × Nat} (h : w.heap[b]? = some (.cells C E F)) : w.cell? ⟨b, o, none⟩ = C[o]? := by
  simp [World.cell?, h]
theorem frozen_heap {w : World} {b o : Nat} {C : Array Value} {E : TypeId} {F : Nat × Nat} (h : w.heap[b]? = some (.cells C E F)) : w.frozen? ⟨b, o, none⟩ = decide (F.1 ≤ o ∧ o < F.2) := by
  simp [World.frozen?, h]

theorem VRel.ptr_inv {ρ : Ren} {i o : Nat} {x' : Value} (h : VRel ρ (.pointer (some ⟨i, o, none⟩)) x') : ∃ (p : Place) (o' : Nat), ρ i = some p ∧ (o' : Int) = o + p.d ∧ x' = .pointer (some ⟨p.blk, o', none⟩) := by
  cases h with
  | ptr h e => exact ⟨_, _, h, e, rfl⟩
theorem VRel.slice_inv {ρ : Ren} {i o n c : Nat} {x' : Value} (h : VRel ρ (.slice (some ⟨i, o, none⟩) n c) x') : ∃ (p : Place) (a' : Addr) (c' : Nat), ρ i = some p ∧ n ≤ c ∧ c ≤ c' ∧
    (0 < c' → ∃ o' : Nat, a' = ⟨p.blk, o', none⟩ ∧ (o' : Int) = o + p.d ∧ o' + c' * p.es ≤ p.size) ∧ x' = .slice (some a') n c' := by
  cases h with
  | slice h hn hc hp => exact ⟨_, _, _, h, hn, hc, hp, rfl⟩
theorem VRel.nils_inv {ρ : Ren} {n c : Nat} {x' : Value} (h : VRel ρ (.slice none n c) x') : x' = .slice none 0 0 ∧ n = 0 ∧ c = 0 := by cases h; exact ⟨rfl, rfl, rfl⟩

/-- A cell is read. -/
theorem cell_ok {W0 : Fz} {ρ : Ren} {S : AW} {w : World} (h : RelW W0 ρ S w) {i o : Nat} {v : Value} (hc : S.cell i o = some v) {p : Place} (hp : ρ i = some p) {o' : Nat} (ho : (o' : Int) = o + p.d) :
    ∃ v', w.cell? ⟨p.blk, o', none⟩ = some v' ∧ VRel ρ v v' := by
  unfold AW.cell at hc
  split at hc
  · rename_i r hr
    split at hc
    · rename_i u hu
      split at hc
      · cases hc
      · rename_i hb
        simp only [Option.some.injEq] at hc
        subst hc
        obtain ⟨C, F, h1, h2, h3, h4, h5⟩ := (h.cells i p r hp hr).row
        obtain ⟨k, v', e1, e2, e3⟩ := h3 o u hu (by simpa using hb)
        obtain rfl : k = o' := by omega
        exact ⟨v', by rw [cell_heap h1]; exact e2, e3⟩
    · cases hc
  · cases hc

theorem rowOk_some {l m : List Value} {o n : Nat} (h : rowOk l o n = some m) : m.length = n ∧ m = (l.drop o).take n ∧ ∀ v ∈ m, isBad v = false := by
  unfold rowOk at h
  simp only at h
  split at h
  · rename_i hc
    simp only [Option.some.injEq] at h
    subst h
    simp only [Bool.and_eq_true, decide_eq_true_eq, List.all_eq_true, Bool.not_eq_true'] at hc
    exact ⟨hc.1, rfl, hc.2⟩
  · cases h

/-- Cells are read. -/
theorem raw_row_ok {W0 : Fz} {ρ : Ren} {S : AW} {w : World} (h : RelW W0 ρ S w) {i o n : Nat} {r : Raw} {l : List Value} (hr : S.raw i = some r) (hc : rowOk r.c o n = some l) {p : Place} (hp : ρ i = some p) {o' : Nat}
    (ho : (o' : Int) = o + p.d) : ∃ l' : List Value, l'.length = n ∧ ARel ρ l.toArray l'.toArray ∧ ∀ (j : Nat) (v : Value), l'[j]? = some v → w.cell? ⟨p.blk, o' + j, none⟩ = some v := by
  obtain ⟨e1, e2, e3⟩ := rowOk_some hc
  obtain ⟨C, F, h1, h2, h3, h4, h5⟩ := (h.cells i p r hp hr).row
  have key : ∀ j, (hj : j < l.length) → ∃ v', C[o' + j]? = some v' ∧ VRel ρ l[j] v' := by
    intro j hj
    have hlj : r.c[o + j]? = some l[j] := by
      have e : l[j]? = r.c[o + j]? := by
        have : ∀ m : List Value, m = (r.c.drop o).take n → j < n → m[j]? = r.c[o + j]? := by
          rintro m rfl hj
          rw [List.getElem?_take, if_pos hj, List.getElem?_drop]
        exact this l e2 (by omega)
      rw [← e]; exact List.getElem?_eq_getElem hj
    obtain ⟨k, v', f1, f2, f3⟩ := h3 (o + j) _ hlj (e3 _ (List.getElem_mem hj))
    obtain rfl : k = o' + j := by omega
    exact ⟨v', f2, f3⟩
  refine ⟨(List.range n).map fun j => (C[o' + j]?).getD undef, by simp, ⟨by simp [e1], fun j hj hj' => ?_⟩, fun j v hv => ?_⟩
  · obtain ⟨v', f1, f2⟩ := key j (by simpa using hj)
    simp only [List.getElem_toArray, List.getElem_map, List.getElem_range, f1, Option.getD_some]
    exact f2
  · rw [List.getElem?_map] at hv
    obtain ⟨k, hk, hv⟩ := Option.map_eq_some_iff.mp hv
    obtain ⟨hk1, hk2⟩ := List.getElem?_eq_some_iff.mp hk
    simp only [List.getElem_range] at hk2
    subst hk2
    simp only [List.length_range] at hk1
    obtain ⟨v', f1, f2⟩ := key j (by omega)
    rw [cell_heap h1, f1]
    simp only [f1, Option.getD_some] at hv
    rw [hv]
theorem row_ok {W0 : Fz} {ρ : Ren} {S : AW} {w : World} (h : RelW W0 ρ S w) {i o n : Nat} {l : List Value} (hc : S.row i o n = some l) {p : Place} (hp : ρ i = some p) {o' : Nat}
    (ho : (o' : Int) = o + p.d) : ∃ l' : List Value, l'.length = n ∧ ARel ρ l.toArray l'.toArray ∧ ∀ (j : Nat) (v : Value), l'[j]? = some v → w.cell? ⟨p.blk, o' + j, none⟩ = some v := by
  unfold AW.row at hc
  split at hc
  · rename_i r hr; exact raw_row_ok h hr hc hp ho
  · cases hc
theorem loadCells_ok {P : Program} {w : World} {b o : Nat} {l : List Value} (h : ∀ (j : Nat) (v : Value), l[j]? = some v → w.cell? ⟨b, o + j, none⟩ = some v) : (loadCells ⟨b, o, none⟩ l.length).run P w = .ok l.toArray w :=
  run_loadCells_list w _ l fun j v hv => by rw [fit_add]; exact h j v hv

/-- A variable is read. -/
theorem ld_ok (P : Program) {t : TypeId} {sz : Option Nat} (ht : szOf P t = some sz) {W0 : Fz} {ρ : Ren} {S : AW} {w : World} (h : RelW W0 ρ S w) {i o : Nat} {x' v : Value}
    (hx : VRel ρ (.pointer (some ⟨i, o, none⟩)) x') (hv : S.ldV sz i o = some v) :
    ∃ v', (Instr.loadAt t x').run P w = .ok v' w ∧ VRel ρ v v' := by
  obtain ⟨d, inf, hd, hi, rfl⟩ := szOf_some ht
  obtain ⟨p, o', hp, ho, rfl⟩ := hx.ptr_inv
  cases e : aggT d with
  | true =>
    simp only [e, if_true, AW.ldV] at hv
    obtain ⟨l, hl, hv⟩ := Option.map_eq_some_iff.mp hv
    subst hv
    obtain ⟨l', g1, g2, g3⟩ := row_ok h hl hp ho
    refine ⟨.agg l'.toArray, ?_, .agg' g2⟩
    have := loadCells_ok (P := P) g3
    simp only [Instr.loadAt, Instr.sureAddr, loadVar, Sem.run_bind, Sem.run_pure, Result.andThen_ok, run_agg w hd, e, if_true, run_size w hi]
    rw [← g1, this]
    rfl
  | false =>
    simp only [e, Bool.false_eq_true, if_false, AW.ldV] at hv
    obtain ⟨v', g1, g2⟩ := cell_ok h hv hp ho
    refine ⟨v', ?_, g2⟩
    simp only [Instr.loadAt, Instr.sureAddr, loadVar, Sem.run_bind, Sem.run_pure, Result.andThen_ok, run_agg w hd, e, Bool.false_eq_true, if_false, run_load, g1]

theorem bytesV_some : ∀ {l : List Value} {bs : List UInt8}, bytesV l = some bs → ∃ ns : List Int, l = ns.map (Value.int .u8) ∧ bs = ns.map fun n => UInt8.ofNat n.toNat
  | [], bs, h => by simp only [bytesV, Option.some.injEq] at h; exact ⟨[], rfl, h.symm⟩
  | v :: l, bs, h => by
    cases v with
    | int k n =>
      cases k <;> simp only [bytesV, reduceCtorEq] at h
      obtain ⟨bs', h1, h2⟩ := Option.map_eq_some_iff.mp h
      obtain ⟨ns, e1, e2⟩ := bytesV_some h1
      exact ⟨n :: ns, by rw [e1]; rfl, by rw [← h2, e2]; rfl⟩
    | _ => simp [bytesV] at h
theorem ARel.ints {ρ : Ren} {k : IntKind} {ns : List Int} {l' : List Value} (h : ARel ρ (ns.map (Value.int k)).toArray l'.toArray) : l' = ns.map (Value.int k) := by
  refine List.ext_getElem (by have := h.1; simp at this; simp [this]) fun i h1 h2 => ?_
  have := h.2 i (by simpa using h2) (by simpa using h1)
  simp only [List.getElem_toArray, List.getElem_map] at this ⊢
  exact this.int_inv
/-- The text of bytes. -/
theorem cvBS_ok (P : Program) {src dst e : TypeId} (hs : P.underlying src = some (.slice e)) (he : P.underlying e = some (.int .u8)) (hd : P.underlying dst = some .string)
    {W0 : Fz} {ρ : Ren} {S : AW} {w : World} (h : RelW W0 ρ S w) {i o n c : Nat} {x' : Value} (hx : VRel ρ (.slice (some ⟨i, o, none⟩) n c) x') {l : List Value} (hl : S.row i o n = some l) {bs : List UInt8} (hb : bytesV l = some bs) :
    (convert src dst x').run P w = .ok (.string ⟨bs.toArray⟩) w := by
  obtain ⟨p, a', c', hp, hn, hc, ha, rfl⟩ := hx.slice_inv
  rw [run_convert_bytes_string w src dst e _ _ _ hs he hd]
  obtain ⟨ns, rfl, rfl⟩ := bytesV_some hb
  have hlen : ns.length = n := by
    unfold AW.row at hl
    split at hl
    · have := (rowOk_some hl).1; simpa using this
    · cases hl
  have hload : (loadCells a' n).run P w = .ok (ns.map (Value.int .u8)).toArray w := by
    by_cases h0 : n = 0
    · subst h0
      have : ns = [] := List.length_eq_zero_iff.mp hlen
      subst this
      rfl
    · obtain ⟨o', rfl, ho, _⟩ := ha (by omega)
      obtain ⟨l', g1, g2, g3⟩ := row_ok h hl hp ho
      have := loadCells_ok (P := P) g3
      rw [g1, g2.ints] at this
      exact this
  rw [run_bytesToString w _ _ _ ns hload, foldl_push_bytes]
  simp [ByteArray.empty, ByteArray.emptyWithCapacity]
  rfl

/-- A block's cells are written. -/
def World.lay (w : World) (b : Nat) (o : Obj) : World := { w with heap := w.heap.setIfInBounds b o }
theorem Laid.lay (w : World) (b : Nat) (o : Obj) : Laid w (World.lay w b o) b o := ⟨rfl, rfl, rfl, rfl⟩
theorem lay_same {w : World} {b : Nat} {o : Obj} (h : w.heap[b]? = some o) : World.lay w b o = w := by
  obtain ⟨h1, h2⟩ := Array.getElem?_eq_some_iff.mp h
  unfold World.lay
  have : w.heap.setIfInBounds b o = w.heap := by
    apply Array.ext (by simp)
    intro i h3 h4
    rw [Array.getElem_setIfInBounds]
    split
    · rename_i e; subst e; exact h2.symm
    · rfl
  rw [this]
theorem lay_lay (w : World) (b : Nat) (o o' : Obj) : World.lay (World.lay w b o) b o' = World.lay w b o' := by
  unfold World.lay
  simp
theorem setCell_lay {w : World} {b k : Nat} {v : Value} {C : Array Value} {E : TypeId} {F : Nat × Nat} (h : w.heap[b]? = some (.cells C E F)) :
    w.setCell ⟨b, k, none⟩ v = World.lay w b (.cells (C.setIfInBounds k v) E F) := by
  obtain ⟨h1, h2⟩ := Array.getElem?_eq_some_iff.mp h
  unfold World.lay World.setCell
  have : ∀ a b : Array Obj, a = b → { w with heap := a } = { w with heap := b } := by rintro _ _ rfl; rfl
  apply this
  apply Array.ext (by simp)
  intro i h3 h4
  rw [Array.getElem_setIfInBounds, Array.getElem_modify]
  by_cases e : b = i
  · subst e
    rw [if_pos rfl, if_pos rfl, h2]
    rfl
  · rw [if_neg e, if_neg e]
theorem storeCells_ok (P : Program) (b o : Nat) (E : TypeId) (F : Nat × Nat) : ∀ (vs : List Value) (i : Nat) (C : Array Value) (w : World), w.heap[b]? = some (.cells C E F) → o + i + vs.length ≤ C.size →
    (∀ k, k < C.size → ¬ (F.1 ≤ k ∧ k < F.2)) → (∀ v ∈ vs, v.oneCell' = true) →
    (storeCells ⟨b, o, none⟩ vs i).run P w = .ok () (World.lay w b (.cells (C.toList.take (o + i) ++ vs ++ C.toList.drop (o + i + vs.length)).toArray E F))
  | [], i, C, w, hb, hl, hf, hv => by
    simp only [storeCells, Sem.run_pure, List.append_nil, List.length_nil, Nat.add_zero, List.take_append_drop]
    rw [lay_same (by simpa using hb)]
  | v :: vs, i, C, w, hb, hl, hf, hv => by
    simp only [List.length_cons] at hl
    simp only [storeCells, Sem.run_bind, fit_add]
    have hlt : o + i < C.size := by omega
    rw [run_store P w _ v .plain (hv v (by simp)), cell_heap hb, Array.getElem?_eq_getElem hlt, frozen_heap hb]
    simp only [hf (o + i) hlt, decide_false, Bool.false_eq_true, if_false, Result.andThen_ok]
    rw [setCell_lay hb]
    have hb' : (World.lay w b (.cells (C.setIfInBounds (o + i) v) E F)).heap[b]? = some (.cells (C.setIfInBounds (o + i) v) E F) :=
      (Laid.lay w b _).same (Array.getElem?_eq_some_iff.mp hb).1
    rw [storeCells_ok P b o E F vs (i + 1) _ _ hb' (by simp; omega) (by simpa using hf) (fun u hu => hv u (by simp [hu])), lay_lay]
    congr 3
    have h1 : o + i < C.toList.length := by simpa using hlt
    simp only [Array.toList_setIfInBounds, List.length_cons]
    rw [show o + (i + 1) = o + i + 1 from by omega, List.take_add_one, List.getElem?_set_self h1, List.take_set_of_le (Nat.le_refl _), List.drop_set_of_lt (by omega)]
    simp [show o + i + 1 + vs.length = o + i + (vs.length + 1) from by omega]
/-- A row's end is marked (a constant text as bytes). -/
theorem mark_ok (P : Program) {t e : TypeId} (ht : P.underlying t = some (.slice e)) (he : P.underlying e = some (.int .u8)) {W0 : Fz} {ρ : Ren} {S : AW} {w : World} (h : RelW W0 ρ S w) {i o n c : Nat} {x' : Value} (hx : VRel ρ (.slice (some ⟨i, o, none⟩) n c) x')
    {r : Raw} (hr : S.raw i = some r) (hro : r.ro = false) (hc : 0 < c) : ∃ v' w', (convert t t x').run P w = .ok v' w' ∧ RelW W0 ρ S w' ∧ VRel ρ (.slice (some ⟨i, o, none⟩) n c) v' := by
  have hx0 := hx
  obtain ⟨p, a', c', hp, hn, hcc, ha, rfl⟩ := hx.slice_inv
  obtain ⟨o', rfl, _, _⟩ := ha (by omega)
  obtain ⟨C, F, h1, h2, h3, h4, h5⟩ := (h.cells i p r hp hr).row
  obtain ⟨hz, hF⟩ := h4 hro
  have hblt : p.blk < w.heap.size := (Array.getElem?_eq_some_iff.mp h1).1
  have hsh : w.shape? p.blk = some (r.elem, C.size) := by unfold World.shape?; rw [h1]
  have hF' : Nf (if F.1 = F.2 then (C.size, C.size + 1) else (min F.1 C.size, max F.2 (C.size + 1))) C.size := by
    split
    · exact .inr (Nat.le_refl _)
    · rename_i q
      rcases hF with hF | hF
      · exact absurd hF q
      · exact .inr (by show C.size ≤ min F.1 C.size; omega)
  have hl : Laid w (w.freeze ⟨p.blk, C.size, none⟩ 1) p.blk (.cells C r.elem (if F.1 = F.2 then (C.size, C.size + 1) else (min F.1 C.size, max F.2 (C.size + 1)))) := by
    unfold World.freeze
    rw [if_neg (by decide)]
    refine ⟨rfl, rfl, rfl, ?_⟩
    dsimp only
    have hg : w.heap[p.blk] = .cells C r.elem F := by
      have := Array.getElem?_eq_getElem hblt
      rw [h1] at this
      exact (Option.some.inj this).symm
    apply Array.ext_getElem?
    intro k
    rw [Array.getElem?_modify, Array.getElem?_setIfInBounds]
    by_cases hk : p.blk = k
    · subst hk
      rw [if_pos rfl, if_pos rfl, if_pos hblt, h1]
      obtain ⟨lo, hi⟩ := F
      by_cases q : lo = hi
      · simp [q]
      · simp [q]
    · rw [if_neg hk, if_neg hk]
  refine ⟨_, _, ?_, h.frz hz h1 hF' hl, hx0⟩
  simp [convert, run_underlying ht, run_underlying he, markStringish, hsh]
end Go.Proofs.Ythclmjelknibhaa.Ev
