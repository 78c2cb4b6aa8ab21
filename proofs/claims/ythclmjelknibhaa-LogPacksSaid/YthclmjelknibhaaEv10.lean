/- What the operations do that write memory or make it, ours and the model's. -/
import Derived.Test.YthclmjelknibhaaEv9
import Derived.Laws.NewBlocks
namespace Go.Proofs.Ythclmjelknibhaa.Ev
open Go Go.RowKit
set_option linter.unusedVariables false
set_option linter.unusedSimpArgs false
set_option linter.unusedSectionVars false

theorem cellOk_one {ρ : Ren} {v v' : Value} (h : VRel ρ v v') (hv : cellOk v = true) : v'.oneCell' = true := by
  cases h <;> first | (simp [cellOk, Ev.bad] at hv; done) | rfl
theorem ARel.one {ρ : Ren} {l : List Value} {a : Array Value} (h : ARel ρ l.toArray a) (hv : l.all cellOk = true) : ∀ v ∈ a.toList, v.oneCell' = true := by
  intro v hm
  obtain ⟨i, h1, h2⟩ := List.mem_iff_getElem.mp hm
  have h3 : i < l.length := by have := h.1; simp at this; simp at h1; omega
  have := h.2 i (by simpa using h3) (by simpa using h1)
  subst h2
  exact cellOk_one this (List.all_eq_true.mp hv _ (by simp))

/-- A row with some cells laid anew. -/
theorem splice_rel {ρ : Ren} {c vs : List Value} {C : Array Value} {vs' : List Value} {d : Int} {o o' : Nat} (ho : (o' : Int) = o + d) (hv : ARel ρ vs.toArray vs'.toArray)
    (hc : ∀ (i : Nat) (v : Value), c[i]? = some v → isBad v = false → ∃ (k : Nat) (v' : Value), (k : Int) = i + d ∧ C[k]? = some v' ∧ VRel ρ v v')
    (ho2 : o ≤ c.length) (hC : o' + vs'.length ≤ C.size) :
    ∀ (i : Nat) (v : Value), (c.take o ++ vs ++ c.drop (o + vs.length))[i]? = some v → isBad v = false →
      ∃ (k : Nat) (v' : Value), (k : Int) = i + d ∧ (C.toList.take o' ++ vs' ++ C.toList.drop (o' + vs'.length)).toArray[k]? = some v' ∧ VRel ρ v v' := by
  intro i v hi hb
  have hl : vs.length = vs'.length := by have := hv.1; simpa using this
  have e1 : (c.take o).length = o := by simp; omega
  have e2 : (C.toList.take o').length = o' := by simp; omega
  rw [List.append_assoc] at hi
  simp only [List.getElem?_toArray, List.append_assoc]
  by_cases h1 : i < o
  · rw [List.getElem?_append_left (by omega), List.getElem?_take, if_pos h1] at hi
    obtain ⟨k, v', f1, f2, f3⟩ := hc i v hi hb
    refine ⟨k, v', f1, ?_, f3⟩
    rw [List.getElem?_append_left (by omega), List.getElem?_take, if_pos (by omega)]
    simpa using f2
  · rw [List.getElem?_append_right (by omega), e1] at hi
    by_cases h2 : i < o + vs.length
    · rw [List.getElem?_append_left (by omega)] at hi
      obtain ⟨v', f1, f2⟩ := hv.get (i := i - o) (v := v) (by simpa using hi)
      refine ⟨o' + (i - o), v', by omega, ?_, f2⟩
      rw [List.getElem?_append_right (by omega), e2, List.getElem?_append_left (by omega)]
      simpa [show o' + (i - o) - o' = i - o from by omega] using f1
    · rw [List.getElem?_append_right (by omega), List.getElem?_drop] at hi
      rw [show o + vs.length + (i - o - vs.length) = i from by omega] at hi
      obtain ⟨k, v', f1, f2, f3⟩ := hc i v hi hb
      refine ⟨k, v', f1, ?_, f3⟩
      rw [List.getElem?_append_right (by omega), e2, List.getElem?_append_right (by omega), List.getElem?_drop, show o' + vs'.length + (k - o' - vs'.length) = k from by omega]
      simpa using f2

/-- Cells of a row of the call's own are written. -/
theorem put_ok (P : Program) {W0 : Fz} {ρ : Ren} {S : AW} {w : World} (h : RelW W0 ρ S w) {i o : Nat} {r : Raw} (hr : S.raw i = some r) (hro : r.ro = false) {p : Place} (hp : ρ i = some p) {o' : Nat} (ho : (o' : Int) = o + p.d)
    {vs : List Value} {a : Array Value} (hv : ARel ρ vs.toArray a) (hok : vs.all cellOk = true) (hrow : (rowOk r.c o vs.length).isSome = true) :
    ∃ w', (storeCells ⟨p.blk, o', none⟩ a.toList).run P w = .ok () w' ∧ RelW W0 ρ (S.put i r (r.c.take o ++ vs ++ r.c.drop (o + vs.length))) w' := by
  obtain ⟨m, hm⟩ := Option.isSome_iff_exists.mp hrow
  obtain ⟨C, F, h1, h2, h3, h4, h5⟩ := (h.cells i p r hp hr).row
  have hl : vs.length = a.size := by simpa using hv.1
  by_cases h0 : vs.length = 0
  · have : vs = [] := List.length_eq_zero_iff.mp h0
    subst this
    have : a.toList = [] := by apply List.length_eq_zero_iff.mp; simpa using hl.symm
    rw [this]
    refine ⟨w, rfl, ?_⟩
    simp only [List.append_nil, List.length_nil, Nat.add_zero, List.take_append_drop]
    exact h.put hp hr hro h1 rfl r.c h3 (by have := Laid.lay w p.blk (.cells C r.elem F); rw [lay_same h1] at this; exact this)
  · obtain ⟨e1, e2, e3⟩ := rowOk_some hm
    have hol : o + vs.length ≤ r.c.length := by
      have : m.length = ((r.c.drop o).take vs.length).length := by rw [← e2]
      simp only [List.length_take, List.length_drop] at this
      omega
    have hsz : o' + vs.length ≤ C.size := by
      have hlast : m[vs.length - 1]? = some m[vs.length - 1] := List.getElem?_eq_getElem (by omega)
      have hrc : r.c[o + (vs.length - 1)]? = some m[vs.length - 1] := by
        rw [← hlast]
        have : ∀ m : List Value, m = (r.c.drop o).take vs.length → m[vs.length - 1]? = r.c[o + (vs.length - 1)]? := by
          rintro m rfl
          rw [List.getElem?_take, if_pos (by omega), List.getElem?_drop]
        exact (this m e2).symm
      obtain ⟨k, v', f1, f2, f3⟩ := h3 _ _ hrc (e3 _ (List.getElem_mem _))
      have := (Array.getElem?_eq_some_iff.mp f2).1
      omega
    have hlist : ARel ρ vs.toArray a.toList.toArray := by simpa using hv
    have hrun := storeCells_ok P p.blk o' r.elem F a.toList 0 C w h1 (by simp; omega) (h4 hro).2.not (hv.one hok)
    refine ⟨_, hrun, h.put hp hr hro h1 ?_ _ ?_ (Laid.lay w _ _)⟩
    · simp; omega
    · have := splice_rel ho hlist h3 (by omega) (by simp; omega)
      simpa using this

theorem VRel.notBad_len {ρ : Ren} {v v' : Value} (h : VRel ρ v v') (hb : isBad v = false) : (cellsOf v).length = v'.cells.size := by
  have := (h.cells hb).1; simpa using this
theorem isBad_of_ok {v : Value} (h : (cellsOf v).all cellOk = true) : isBad v = false := by
  cases v <;> simp_all [cellsOf, cellOk, isBad]

/-- A variable is written. -/
theorem st_ok (P : Program) {t : TypeId} {inf : TypeInfo} (hi : P.info? t = some inf) {W0 : Fz} {ρ : Ren} {S : AW} {w : World} (h : RelW W0 ρ S w) {i o : Nat} {x' y y' : Value} (hx : VRel ρ (.pointer (some ⟨i, o, none⟩)) x')
    {r : Raw} (hr : S.raw i = some r) (hro : r.ro = false) (hy : VRel ρ y y') (hsz : (cellsOf y).length = inf.size) (hok : (cellsOf y).all cellOk = true) (hrow : (rowOk r.c o inf.size).isSome = true) :
    ∃ w', (Instr.storeAt t x' y').run P w = .ok () w' ∧ RelW W0 ρ (S.put i r (r.c.take o ++ cellsOf y ++ r.c.drop (o + inf.size))) w' := by
  obtain ⟨p, o', hp, ho, rfl⟩ := hx.ptr_inv
  have hb := isBad_of_ok hok
  obtain ⟨w', h1, h2⟩ := put_ok P h hr hro hp ho (hy.cells hb) hok (by rw [hsz]; exact hrow)
  refine ⟨w', ?_, by rw [← hsz]; exact h2⟩
  have hl := hy.notBad_len hb
  simp only [Instr.storeAt, Instr.sureAddr, storeVar, Sem.run_bind, Sem.run_pure, Result.andThen_ok, run_size w hi, Sem.run_ite]
  rw [if_neg (by omega)]
  exact h1

/-- A new row, and a pointer to it. -/
theorem new_ok (P : Program) {W0 : Fz} {ρ : Ren} {S : AW} {w : World} (h : RelW W0 ρ S w) (c : List Value) (C : Array Value) (hc : ARel ρ c.toArray C) (elem es : Nat) :
    ∃ ρ', Grow S.next (S.next + 1) ρ ρ' ∧ (newRow elem C).run P w = .ok ⟨w.heap.size, 0, none⟩ (w.alloc (.cells C elem)) ∧ RelW W0 ρ' (S.new c elem es) (w.alloc (.cells C elem)) ∧ ρ' S.next = some ⟨w.heap.size, 0, C.size, es⟩ := by
  have hn := h.fresh S.next (Nat.le_refl _)
  refine ⟨_, Grow.add _ hn, ?_, h.new c C elem es (0, 0) (Or.inl rfl) (fun i v hi hb => ?_), Ren.add_same _ _ _⟩
  · simp [newRow]
  · obtain ⟨v', f1, f2⟩ := hc.get (i := i) (v := v) (by simpa using hi)
    exact ⟨v', f1, f2⟩
theorem ptr_new {ρ : Ren} {n b sz es : Nat} (h : ρ n = some ⟨b, 0, sz, es⟩) : VRel ρ (.pointer (some ⟨n, 0, none⟩)) (.pointer (some ⟨b, 0, none⟩)) := .ptr h (by simp)
theorem slice_new {ρ : Ren} {n b sz es l c c' : Nat} (h : ρ n = some ⟨b, 0, sz, es⟩) (h1 : l ≤ c) (h2 : c ≤ c') (h3 : c' * es ≤ sz) : VRel ρ (.slice (some ⟨n, 0, none⟩) l c) (.slice (some ⟨b, 0, none⟩) l c') :=
  .slice h h1 h2 fun _ => ⟨0, rfl, by simp, by simpa using h3⟩

theorem box_ok (P : Program) {W0 : Fz} {ρ : Ren} {S : AW} {w : World} (h : RelW W0 ρ S w) {x x' : Value} (hx : VRel ρ x x') (hb : isBad x = false) (elem es : Nat) :
    ∃ ρ' v' w', Grow S.next (S.next + 1) ρ ρ' ∧ (Instr.box elem x').run P w = .ok v' w' ∧ RelW W0 ρ' (S.new (cellsOf x) elem es) w' ∧ VRel ρ' (.pointer (some ⟨S.next, 0, none⟩)) v' := by
  obtain ⟨ρ', h1, h2, h3, h4⟩ := new_ok P h (cellsOf x) x'.cells (hx.cells hb) elem es
  refine ⟨ρ', _, _, h1, ?_, h3, ptr_new h4⟩
  simp only [Instr.box, newVar, Sem.run_bind, h2, Result.andThen_ok, Sem.run_pure]

theorem scalars_rel {ρ : Ren} {l : List Value} (h : l.all scalar = true) : ARel ρ l.toArray l.toArray :=
  ⟨rfl, fun i h1 h2 => VRel.scalar_refl (List.all_eq_true.mp h _ (by simp))⟩
theorem run_zero {P : Program} {t : TypeId} {inf : TypeInfo} {z : Value} (hi : P.info? t = some inf) (hz : inf.zero = some z) (w : World) : (zeroValue t).run P w = .ok z w := by
  simp [zeroValue, run_info w hi, hz]
theorem alloc_ok (P : Program) {W0 : Fz} {ρ : Ren} {S : AW} {w : World} (h : RelW W0 ρ S w) {elem : Nat} {inf : TypeInfo} {z : Value} (hi : P.info? elem = some inf) (hz : inf.zero = some z) (hs : z.cells.toList.all scalar = true) (es : Nat) :
    ∃ ρ' v' w', Grow S.next (S.next + 1) ρ ρ' ∧ (Instr.alloc elem true (.tuple #[])).run P w = .ok v' w' ∧ RelW W0 ρ' (S.new z.cells.toList elem es) w' ∧ VRel ρ' (.pointer (some ⟨S.next, 0, none⟩)) v' := by
  obtain ⟨ρ', h1, h2, h3, h4⟩ := new_ok P h z.cells.toList z.cells (by have := scalars_rel (ρ := ρ) hs; simpa using this) elem es
  refine ⟨ρ', _, _, h1, ?_, h3, ptr_new h4⟩
  simp only [Instr.alloc, newVar, Sem.run_bind, run_zero hi hz, h2, Result.andThen_ok, Sem.run_pure]
end Go.Proofs.Ythclmjelknibhaa.Ev
